/- Own rows of own rows, that grow by append; 'restrict' in the program. -/
import Derived.Test.YtkgfgheiabapoaaClG
namespace Go.Proofs.Ytkgfgheiabapoaa
open Go.RowKit Go.Shelf

/-- An own row of own rows of ints, as far as it has grown. -/
def RowsRel (cs : List Value) (yss : List (List Int)) (w wr : World) (v : Value) : Prop :=
  ∃ G : List Nat, (Ty.slice Ty.int).all true wr cs yss G ∧ G.Nodup ∧ (∀ b ∈ G, w.heap.size ≤ b ∧ Kind wr 3 b) ∧ wr.ownsRow w.heap.size 22 1 v yss.length cs ∧ Below w.heap.size w wr
theorem RowsRel.nil (w wr : World) (c : Nat) (h : Below w.heap.size w wr) : RowsRel [] [] w wr (.slice none 0 0) :=
  ⟨[], ⟨rfl, rfl⟩, by simp, by simp, World.ownsRow_nil _ _ _ _, h⟩
theorem kind_ne {w : World} {b b' : Nat} (h : Kind w 3 b) (h' : Kind w 22 b') : b ≠ b' := by
  rintro rfl
  obtain ⟨c, fz, h⟩ := h
  obtain ⟨c', fz', h'⟩ := h'
  rw [h] at h'
  simp at h'
theorem RowsRel.step {cs : List Value} {yss : List (List Int)} {ys : List Int} {w wr w1 w2 : World} {v v' : Value} {a : Option Addr} {n c : Nat} {F : List Nat} {o : Obj} (h : RowsRel cs yss w wr v)
    (hr : Ty.int.row true w1 (.slice a n c) ys F) (hn : F.Nodup) (hF : ∀ b ∈ F, wr.heap.size ≤ b ∧ Kind w1 3 b) (hb : Below wr.heap.size wr w1)
    (hown : w2.ownsRow w.heap.size 22 1 v' (yss.length + 1) (cs ++ [.slice a n c])) (hg : (w1.alloc o).grownBy w2 v.ownBlock) : RowsRel (cs ++ [.slice a n c]) (yss ++ [ys]) w w2 v' := by
  obtain ⟨G, hall, hG, hGb, ho, hB⟩ := h
  have hkv := Lib.ownsRow_kind ho
  have hlv := ho.lt
  have hs1 : w1.heap.size ≤ (w1.alloc o).heap.size := by simp
  have hkeepF : ∀ b ∈ F, w2.heap[b]? = w1.heap[b]? := fun b hb' => by
    have hlt := Ty.row_lt hr b hb'
    rw [hg.block b (by omega) (fun e => by have := (hlv b e.symm).2; have := (hF b hb').1; omega)]
    exact heap_alloc_old w1 o hlt
  have hkeepG : ∀ b ∈ G, w2.heap[b]? = wr.heap[b]? := fun b hb' => by
    have hlt := Ty.all_lt hall b hb'
    have hs := hb.size
    rw [hg.block b (by omega) (fun e => kind_ne (hGb b hb').2 (hkv b e.symm) rfl), heap_alloc_old w1 o (by omega)]
    exact hb.block b hlt
  refine ⟨G ++ F, Ty.all_snoc (Ty.all_keep hall hkeepG) ⟨_, rfl, Ty.row_keep hr hkeepF⟩, ?_, ?_, by simpa using hown, ?_⟩
  · refine List.nodup_append.2 ⟨hG, hn, fun x hx y hy e => ?_⟩
    have h1 := Ty.all_lt hall x hx
    have h2 := (hF y hy).1
    omega
  · intro b hb'
    rcases List.mem_append.1 hb' with hb' | hb'
    · obtain ⟨h1, c, fz, h2⟩ := hGb b hb'
      exact ⟨h1, c, fz, (hkeepG b hb').trans h2⟩
    · obtain ⟨h1, c, fz, h2⟩ := hF b hb'
      exact ⟨Nat.le_trans hB.size h1, c, fz, (hkeepF b hb').trans h2⟩
  · exact ((btr hB hb).alloc (Nat.le_trans hB.size hb.size) o).grown hg (Nat.le_trans hB.size (Nat.le_trans hb.size hs1)) (fun k hk => (hlv k hk).1)
theorem owns_grow {w w' : World} {B : Nat} {e : TypeId} {size : Nat} {v : Value} {n : Nat} {xs : List Value} (h : w.ownsRow B e size v n xs) (hb : Below w.heap.size w w') : w'.ownsRow B e size v n xs := by
  obtain ⟨hl, ⟨e, h0⟩ | ⟨g, cap, cur, rfl, hg, hh, hn, hm, hcs, ht⟩⟩ := id h
  · exact ⟨hl, .inl ⟨e, h0⟩⟩
  · have hlt : g < w.heap.size := by
      rcases Nat.lt_or_ge g w.heap.size with h | h
      · exact h
      · simp [Array.getElem?_eq_none h] at hh
    exact ⟨hl, .inr ⟨g, cap, cur, rfl, hg, (hb.block g hlt).trans hh, hn, hm, hcs, ht⟩⟩
theorem RowsRel.post {cs : List Value} {yss : List (List Int)} {w wr : World} {v : Value} (h : RowsRel cs yss w wr v) : OwnPost (Ty.slice Ty.int) w yss (.returned v) wr := by
  obtain ⟨G, hall, hG, hGb, ho, hB⟩ := h
  obtain ⟨F, hr, hF, _⟩ := Ty.row_of_owns ho rfl (by decide) hall
  refine ⟨v, F, rfl, hr, ?_, ?_, hB⟩
  · rcases hF with rfl | ⟨g, _, _, h3, rfl⟩
    · simp
    · exact List.nodup_cons.2 ⟨fun hm => kind_ne (hGb g hm).2 (Lib.ownsRow_kind ho g h3) rfl, hG⟩
  · rcases hF with rfl | ⟨g, h1, _, _, rfl⟩
    · simp
    · intro b hb
      rcases List.mem_cons.1 hb with rfl | hb
      · exact h1
      · exact (hGb b hb).1

/-- The clauses that an assignment does not make true, without their false literals. -/
def restrictB (xss : List (List Int)) (a : List Int) : List (List Int) := (xss.filter (fun c => decide (valB c a < 1))).map (fun c => leftB c a)
theorem restrict_len (xss : List (List Int)) (a : List Int) : (restrictB xss a).length ≤ xss.length := by
  unfold restrictB
  rw [List.length_map]
  exact List.length_filter_le _ _
theorem restrict_step {xss : List (List Int)} {a : List Int} {k : Nat} (hk : k < xss.length) : restrictB (xss.take (k + 1)) a = restrictB (xss.take k) a ++ (if valB xss[k] a < 1 then [leftB xss[k] a] else []) := by
  unfold restrictB
  rw [List.take_succ_eq_append_getElem hk, List.filter_append, List.map_append]
  by_cases h : valB xss[k] a < 1 <;> simp [h]
theorem clauseValue_at {v u : Value} {c a : List Int} {F G : List Nat} {w : World} {z : Int} (hx : Ty.int.row false w v c F) (hy : Ty.int.row false w u a G) (h : valB c a = z) :
    Calls Try.prog 150 #[v, u] w fun e w' => e = .returned (.int .i64 z) ∧ w = w' := h ▸ clauseValue_any v u c a F G w hx hy

set_option maxRecDepth 100000 in
set_option maxHeartbeats 2000000 in
theorem implRestrict_any (v u : Value) (xss : List (List Int)) (a : List Int) (F G : List Nat) (w : World) (hx : (Ty.slice Ty.int).row false w v xss F) (hy : Ty.int.row false w u a G) (hn : xss.length ≤ 100000) (hm : ∀ c ∈ xss, c.length ≤ 10000000000) :
    Calls Try.prog 105 #[v, u] w (OwnPost (Ty.slice Ty.int) w (restrictB xss a)) := by
  obtain ⟨i0, hi, hz0, hz1, hz2⟩ := info_parts infoRow
  obtain ⟨ad, cap, rfl, hx1, hx2, hx3⟩ := row_slices hx
  obtain ⟨ua, uc, rfl, _, _⟩ := Ty.row_len hy
  go_enter Try.func105, Try.ntmps105
  go_wp2_with fail
  go_loopw [5, 10] (fun s i wr => ∃ (k : Nat) (cs : List Value), k ≤ xss.length ∧ i = .int .i64 k ∧ RowsRel cs (restrictB (xss.take k) a) w wr s) (fun _ i _ => xss.length - (intOf i).toNat)
  case atStart => exact ⟨0, [], Nat.zero_le _, rfl, RowsRel.nil _ _ 0 (bb _)⟩
  case round =>
    obtain ⟨k, cs, hk, rfl, HR⟩ := hrel
    have hB : Below w.heap.size w wr := by obtain ⟨_, _, _, _, _, h⟩ := HR; exact h
    by_cases hlt : k < xss.length
    · rcases hx3 with ⟨rfl, rfl⟩ | ⟨hxn, b, off, rfl, _, hxc⟩
      · exact absurd hlt (by simp)
      obtain ⟨x, Fk, hc, hr, _⟩ := hxc k hlt
      have hr' := Ty.row_below hr hB (Ty.row_lt hr)
      have hy' := Ty.row_below hy hB (Ty.row_lt hy)
      obtain ⟨xa, xc, rfl, hu1, hu2⟩ := Ty.row_len hr
      have k0 := (hc.keep (hB.block b hc.lt)).1
      have hlen := hm _ (List.getElem_mem hlt)
      have hrl := restrict_len (xss.take k) a
      rw [List.length_take] at hrl
      have HS := restrict_step (a := a) hlt
      replace HR := Lib.hid HR
      obtain ⟨z, hz⟩ : ∃ z, valB xss[k] a = z := ⟨_, rfl⟩
      rw [hz] at HS
      by_cases hz1' : z < 1
      · rw [if_pos hz1'] at HS
        replace HS := Lib.hid HS
        go_wp2_with (first | (go_at_call 150; (with_reducible refine (clauseValue_at hr' hy' hz).mono ?_); rintro e w1 ⟨rfl, rfl⟩))
        with_reducible refine (openPart_any _ _ _ _ _ _ _ hr' hy' hlen).mono ?_
        rintro e w1 ⟨v1, F1, rfl, hv1, hn1, hF1, hb1⟩
        obtain ⟨va, vc, rfl, _, _⟩ := Ty.row_len hv1
        obtain ⟨G0, hall0, _, _, ho0, _⟩ := HR.out
        have hkG : ∀ g, u5.ownBlock = some g → w1.heap[g]? = wr.heap[g]? := fun g hg => hb1.block g (ho0.lt g hg).2
        have hown : (w1.alloc (.cells #[.slice va (leftB xss[k] a).length vc] 22)).ownsRow w.heap.size 22 1 u5 (restrictB (xss.take k) a).length cs := owns_grow ho0 (bal hb1 _)
        have hsz := Nat.le_trans hB.size hb1.size
        go_wp2_with (at_builtin; refine wpList_append_own _ rfl _ _ 64 rfl w.heap.size 22 i0 (.slice none 0 0) 1 24 Try.underlying64 hi hz0 hz1 hz2 rfl (by decide) _ _ _ rfl hown ⟨w1.heap.size, 0, none⟩ 1 1 [.slice va (leftB xss[k] a).length vc] rfl rfl ?c1 ?c2 ?c3 ?c4 ?c5 ?_)
        case c1 =>
          intro j u hj
          match j, hj with
          | 0, hj => simp at hj; subst hj; simp [Addr.add]
        case c2 => intro u hu; simp at hu; subst hu; rfl
        case c3 => unfold maxLen; omega
        case c4 => omega
        case c5 => simp; omega
        intro v' w2 hown' hgrow _
        have HN : Hid (RowsRel (cs ++ [.slice va (leftB xss[k] a).length vc]) (restrictB (xss.take (k + 1)) a) w w2 v') := by
          unfold Hid
          rw [HS.out]
          exact HR.out.step hv1 hn1 hF1 hb1 hown' hgrow
        clear hown' hgrow hown HR HS
        go_wp2_with fail
        go_roundw
        case rel => exact ⟨k + 1, _, by omega, by go_num, HN.out⟩
        case measure => simp [intOf]; omega
      · rw [if_neg hz1', List.append_nil] at HS
        replace HS := Lib.hid HS
        go_wp2_with (first | (go_at_call 150; (with_reducible refine (clauseValue_at hr' hy' hz).mono ?_); rintro e w1 ⟨rfl, rfl⟩))
        go_roundw
        case rel => exact ⟨k + 1, cs, by omega, by go_num, by rw [HS.out]; exact HR.out⟩
        case measure => simp [intOf]; omega
    · obtain rfl : k = xss.length := by omega
      go_wp2_with fail
      go_ret
      have h := HR.post
      rw [List.take_length] at h
      exact h
end Go.Proofs.Ytkgfgheiabapoaa
