/- Lemmas and contracts for a law, put together out of several texts: StrF StrG. -/
import Derived.Test.YtahbepajeplcmaaDoorMg1
import Derived.Lib.SmallJoins
/- Contracts: EncodeRecord in the program; the law FnExactEncodeRecord's walk. -/
namespace Go.Proofs.YtahbepajeplcmaaDoor
open Go.RowKit

/- left out: the seat has no impl.EncodeRecord -/
end Go.Proofs.YtahbepajeplcmaaDoor

/- Contract: splitting in the reference. -/
namespace Go.Proofs.YtahbepajeplcmaaDoor
open Go.RowKit

theorem infoStr : (Tryd.prog.info? 9).map (fun i => (i.zero, i.size, i.bytes)) = some (some (.string ByteArray.empty), 1, 16) := by kernel_rfl

/-- The result of 'l1Split': a row of its own with the pieces. -/
def SplitPost (w : World) (l : List UInt8) (b : Int) (e : Ending) (w' : World) : Prop :=
  ∃ (g cap : Nat) (ps : List ByteArray), e = .returned (.slice (some ⟨g, 0, none⟩) ps.length cap) ∧ 0 < ps.length ∧ ps.length ≤ l.length + 1 ∧ ps.length ≤ cap ∧ w.heap.size ≤ g ∧ g < w'.heap.size ∧
    (∀ j (h : j < ps.length), w'.cell? ⟨g, j, none⟩ = some (.string ps[j])) ∧ ps.map bl = splitP b l ∧ Below w.heap.size w w'

theorem extract_piece (s : ByteArray) (from_ k : Nat) : bl (s.extract from_ k) = ((bl s).drop from_).take (k - from_) := bl_extract s from_ k

/-- What has been split off so far. -/
def SplitRel (s : ByteArray) (b : Int) (w wr : World) (v : Value) (fr k : Nat) (ps : List ByteArray) : Prop :=
  fr ≤ k ∧ k ≤ s.size ∧ ps.length ≤ fr ∧ wr.ownsRow w.heap.size 9 1 v ps.length (ps.map Value.string) ∧ splitP b (bl s) = ps.map bl ++ splitP b ((bl s).drop fr) ∧ hasB (((bl s).drop fr).take (k - fr)) b = false ∧ Below w.heap.size w wr
theorem SplitRel.start (s : ByteArray) (b : Int) (w : World) (o : Obj) (v : Value) (h : (w.alloc o).ownsRow w.heap.size 9 1 v 0 []) : SplitRel s b w (w.alloc o) v 0 0 [] :=
  ⟨Nat.le_refl _, Nat.zero_le _, Nat.le_refl _, h, rfl, by simp [hasB], bal (bb _) _⟩
theorem take_more (s : ByteArray) (fr k : Nat) (hf : fr ≤ k) (h : k < s.size) : ((bl s).drop fr).take (k + 1 - fr) = ((bl s).drop fr).take (k - fr) ++ [s[k]] := by
  have e : k + 1 - fr = (k - fr) + 1 := by omega
  rw [e, List.take_succ_eq_append_getElem (by rw [List.length_drop, bl_length]; omega)]
  congr 2
  rw [List.getElem_drop]
  have e2 : fr + (k - fr) = k := by omega
  simp only [e2]
  exact bl_get s k h
theorem SplitRel.miss {s : ByteArray} {b : Int} {w wr : World} {v : Value} {fr k : Nat} {ps : List ByteArray} (h : SplitRel s b w wr v fr k ps) (hk : k < s.size) (hb : ((s[k].toNat : Int) == b) = false) : SplitRel s b w wr v fr (k + 1) ps := by
  obtain ⟨h1, h2, h3, h4, h5, h6, h7⟩ := h
  exact ⟨by omega, by omega, h3, h4, h5, by rw [take_more s fr k h1 hk, hasB_snoc, h6, hb]; rfl, h7⟩
theorem SplitRel.hit {s : ByteArray} {b : Int} {w wr w1 : World} {v v' : Value} {fr k : Nat} {ps : List ByteArray} (h : SplitRel s b w wr v fr k ps) (hk : k < s.size) (hb : ((s[k].toNat : Int) == b) = true)
    (hown : w1.ownsRow w.heap.size 9 1 v' (ps.length + 1) (ps.map Value.string ++ [.string (s.extract fr k)])) (hB : Below w.heap.size w w1) : SplitRel s b w w1 v' (k + 1) (k + 1) (ps ++ [s.extract fr k]) := by
  obtain ⟨h1, h2, h3, h4, h5, h6, h7⟩ := h
  refine ⟨Nat.le_refl _, by omega, by simp; omega, by simpa using hown, ?_, by simp [hasB], hB⟩
  have e : (bl s).drop fr = ((bl s).drop fr).take (k - fr) ++ s[k] :: (bl s).drop (k + 1) := by
    have e1 := List.take_append_drop (k - fr) ((bl s).drop fr)
    rw [List.drop_drop, show fr + (k - fr) = k by omega] at e1
    rw [List.drop_eq_getElem_cons (i := k) (by rw [bl_length]; exact hk), bl_get s k hk] at e1
    exact e1.symm
  rw [h5, e, splitP_some h6 hb, List.map_append, List.append_assoc]
  congr 1
  show _ = [bl (s.extract fr k)] ++ _
  rw [extract_piece]; rfl
theorem SplitRel.done {s : ByteArray} {b : Int} {w wr w1 : World} {v v' : Value} {fr : Nat} {ps : List ByteArray} (h : SplitRel s b w wr v fr s.size ps)
    (hown : w1.ownsRow w.heap.size 9 1 v' (ps.length + 1) (ps.map Value.string ++ [.string (s.extract fr s.size)])) (hB : Below w.heap.size w w1) : SplitPost w (bl s) b (.returned v') w1 := by
  obtain ⟨h1, h2, h3, h4, h5, h6, h7⟩ := h
  have e : ((bl s).drop fr).take (s.size - fr) = (bl s).drop fr := List.take_of_length_le (by rw [List.length_drop, bl_length]; exact Nat.le_refl _)
  rw [e] at h6
  rw [splitP_none h6] at h5
  have hown2 : w1.ownsRow w.heap.size 9 1 v' (ps ++ [s.extract fr s.size]).length ((ps ++ [s.extract fr s.size]).map Value.string) := by simpa using hown
  obtain ⟨g, cap, rfl⟩ := Joins.ownsRow_form hown2 (by simp)
  have hlt := hown2.lt g rfl
  refine ⟨g, cap, ps ++ [s.extract fr s.size], rfl, by simp, by simp [bl_length]; omega, ?_, hlt.1, hlt.2, fun j hj => ?_, ?_, hB⟩
  · obtain ⟨_, ⟨e1, _⟩ | ⟨_, _, _, e1, _, _, hc, _⟩⟩ := hown2
    · cases e1
    · simp only [Value.slice.injEq] at e1; rw [e1.2.2]; exact hc
  · rw [hown2.cellAt j (by simpa using hj), List.getElem?_map, List.getElem?_eq_getElem hj]; rfl
  · rw [h5, List.map_append]; congr 1
    show [bl (s.extract fr s.size)] = _
    rw [extract_piece, e]

set_option maxHeartbeats 2000000 in
theorem l1Split_any (s : ByteArray) (b : Int) (w : World) (hs : s.size ≤ 1000000000000) :
    Calls Tryd.prog 23 #[.string s, .int .u8 b] w (SplitPost w (bl s) b) := by
  obtain ⟨i0, hi, hz0, hz1, hz2⟩ := info_parts infoStr
  go_enter Tryd.func23, Tryd.ntmps23
  go_wp2_with fail
  go_loopw [5, 6, 7] (fun v f i wr => ∃ (fr k : Nat) (ps : List ByteArray), f = .int .i64 fr ∧ i = .int .i64 k ∧ SplitRel s b w wr v fr k ps) (fun _ _ i _ => s.size - (intOf i).toNat)
  case atStart => exact ⟨0, 0, [], rfl, rfl, SplitRel.start s b w _ _ (World.ownsRow_made w #[] 0 (Nat.le_refl _) (by decide) rfl)⟩
  case round =>
    obtain ⟨fr, k, ps, rfl, rfl, HR⟩ := hrel
    obtain ⟨h1, h2, h3, hown, _, _, hB⟩ := id HR
    have hsz := hB.size
    replace HR := (show Hid (SplitRel s b w wr u5 fr k ps) from HR)
    by_cases hlt : k < s.size
    · by_cases hb : ((s[k].toNat : Int) == b) = true
      · go_wp2_with (at_builtin; refine wpList_append_own _ rfl _ _ 47 rfl w.heap.size 9 i0 (.string ByteArray.empty) 1 16 Tryd.underlying47 hi hz0 hz1 hz2 rfl (by decide) _ _ _ rfl (hown.alloc _) ⟨wr.heap.size, 0, none⟩ 1 1 [.string (s.extract fr k)] rfl rfl ?c1 ?c2 ?c3 ?c4 ?c5 ?_)
        case c1 =>
          intro j u hj
          match j, hj with
          | 0, hj => simp at hj; subst hj; simp [Addr.add]
        case c2 => intro u hu; simp at hu; subst hu; rfl
        case c3 => unfold maxLen; omega
        case c4 => omega
        case c5 => simp; omega
        intro v' w1 hown' hgrow _
        have hB1 : Below w.heap.size w w1 := (hB.alloc hsz _).grown hgrow (by simp; omega) (fun q hq => (hown.lt q hq).1)
        have HN := HR.out.hit hlt hb hown' hB1
        clear hown' hgrow hown hB
        replace HN := (show Hid (SplitRel s b w w1 v' (k + 1) (k + 1) (ps ++ [s.extract fr k])) from HN)
        go_wp2
        go_roundw
        case rel => exact ⟨k + 1, k + 1, _, by go_num, by go_num, HN.out⟩
        case measure => simp [intOf]; omega
      · have hb' : ((s[k].toNat : Int) == b) = false := by simpa using hb
        have HN := HR.out.miss hlt hb'
        replace HN := (show Hid (SplitRel s b w wr u5 fr (k + 1) ps) from HN)
        clear hb
        go_wp2_with fail
        go_roundw
        case rel => exact ⟨fr, k + 1, _, by go_num, by go_num, HN.out⟩
        case measure => simp [intOf]; omega
    · obtain rfl : k = s.size := by omega
      go_wp2_with (at_builtin; refine wpList_append_own _ rfl _ _ 47 rfl w.heap.size 9 i0 (.string ByteArray.empty) 1 16 Tryd.underlying47 hi hz0 hz1 hz2 rfl (by decide) _ _ _ rfl (hown.alloc _) ⟨wr.heap.size, 0, none⟩ 1 1 [.string (s.extract fr s.size)] rfl rfl ?d1 ?d2 ?d3 ?d4 ?d5 ?_)
      case d1 =>
        intro j u hj
        match j, hj with
        | 0, hj => simp at hj; subst hj; simp [Addr.add]
      case d2 => intro u hu; simp at hu; subst hu; rfl
      case d3 => unfold maxLen; omega
      case d4 => omega
      case d5 => simp; omega
      intro v' w1 hown' hgrow _
      have hB1 : Below w.heap.size w w1 := (hB.alloc hsz _).grown hgrow (by simp; omega) (fun q hq => (hown.lt q hq).1)
      have HN := HR.out.done hown' hB1
      clear hown' hgrow hown hB
      replace HN := (show Hid (SplitPost w (bl s) b (.returned v') w1) from HN)
      go_wp2_with fail
      go_ret
      exact HN.out

/-- What callers of 'l1Split' ask: the first piece, and whether there is a second. -/
def HeadPost (w : World) (l : List UInt8) (b : Int) (e : Ending) (w' : World) : Prop :=
  ∃ (g n cap : Nat), e = .returned (.slice (some ⟨g, 0, none⟩) n cap) ∧ 0 < n ∧ n ≤ l.length + 1 ∧ n ≤ cap ∧ w.heap.size ≤ g ∧ g < w'.heap.size ∧
    w'.cell? ⟨g, 0, none⟩ = some (.string (ms (cutP b l).1)) ∧ (2 ≤ n ↔ hasB l b = true) ∧ Below w.heap.size w w'
theorem l1Split_head (s : ByteArray) (b : Int) (w : World) (hs : s.size ≤ 1000000000000) :
    Calls Tryd.prog 23 #[.string s, .int .u8 b] w (HeadPost w (bl s) b) := by
  refine (l1Split_any s b w hs).mono ?_
  rintro e w' ⟨g, cap, ps, rfl, hp, hl, hc, hg, hg', hcell, hmap, hb⟩
  obtain ⟨qs, hq, hq2⟩ := splitP_head b (bl s)
  refine ⟨g, ps.length, cap, rfl, hp, hl, hc, hg, hg', ?_, ?_, hb⟩
  · rw [hcell 0 hp]
    congr 2
    apply bl_inj
    rw [bl_ms]
    rw [hq] at hmap
    cases ps with
    | nil => simp at hp
    | cons p ps => simp at hmap; exact hmap.1
  · have hl2 := congrArg List.length hmap
    rw [hq, List.length_map, List.length_cons] at hl2
    rw [← hq2, hl2]
    cases qs <;> simp
end Go.Proofs.YtahbepajeplcmaaDoor
