/- Contract: reading a log in the reference. -/
import Derived.Test.YtfcekfomhpmgpaaDoorLogB
namespace Go.Proofs.YtfcekfomhpmgpaaDoor
open Go.RowKit

theorem infoRec : (Tryd.prog.info? 27).map (fun i => (i.zero, i.size, i.bytes)) = some (some (.agg #[.string ByteArray.empty, .string ByteArray.empty]), 2, 32) := by kernel_rfl

/-- What has been read so far. -/
def OpenRel (s : ByteArray) (w wr : World) (v : Value) (at_ : Nat) (rs : List (List UInt8 × List UInt8)) : Prop :=
  at_ ≤ s.size ∧ rs.length ≤ 60 ∧ wr.ownsRow w.heap.size 27 2 v rs.length (rs.flatMap recEnc) ∧ (∀ x ∈ rs, recOk x) ∧
    openB 60 (bl s) = (rs ++ (openB (60 - rs.length) ((bl s).drop at_)).1, (openB (60 - rs.length) ((bl s).drop at_)).2) ∧ Below w.heap.size w wr
theorem owns_grow {w w' : World} {base : Nat} {e : TypeId} {size : Nat} {v : Value} {n : Nat} {xs : List Value} (h : w.ownsRow base e size v n xs) (hb : Below w.heap.size w w') : w'.ownsRow base e size v n xs := by
  obtain ⟨hl, h | ⟨g, cap, cur, rfl, hg, hh, r⟩⟩ := h
  · exact ⟨hl, .inl h⟩
  · have hlt : g < w.heap.size := by
      rcases Nat.lt_or_ge g w.heap.size with h | h
      · exact h
      · simp [Array.getElem?_eq_none h] at hh
    exact ⟨hl, .inr ⟨g, cap, cur, rfl, hg, by rw [hb.block g hlt]; exact hh, r⟩⟩
theorem OpenRel.grow {s : ByteArray} {w wr w' : World} {v : Value} {at_ : Nat} {rs : List (List UInt8 × List UInt8)} (h : OpenRel s w wr v at_ rs) (hb : Below wr.heap.size wr w') : OpenRel s w w' v at_ rs := by
  obtain ⟨h1, h2, h3, h4, h5, h6⟩ := h
  exact ⟨h1, h2, owns_grow h3 hb, h4, h5, btr h6 hb⟩
/-- What 'l33Open' gives. -/
def OpenPost (w : World) (l : List UInt8) (e : Ending) (w' : World) : Prop :=
  ∃ (v : Value) (F : List Nat) (n : Int), e = .returned (.tuple #[v, .int .i64 n]) ∧ n = (l.length : Int) - (openB 60 l).2.length ∧ recTy.row true w' v (openB 60 l).1 F ∧ F.Nodup ∧ (∀ b ∈ F, w.heap.size ≤ b) ∧ Below w.heap.size w w'

theorem OpenRel.done {s : ByteArray} {w wr : World} {v : Value} {at_ : Nat} {rs : List (List UInt8 × List UInt8)} (h : OpenRel s w wr v at_ rs)
    (hz : openB (60 - rs.length) ((bl s).drop at_) = ([], (bl s).drop at_)) : OpenPost w (bl s) (.returned (.tuple #[v, .int .i64 at_])) wr := by
  obtain ⟨h1, h2, hown, hg, ho, hB⟩ := h
  rw [hz] at ho
  obtain ⟨F, hr, hF, _⟩ := Ty.row_of_owns (T := recTy) (xs := rs) (G := []) hown rfl (by decide) (flat_all.2 ⟨rfl, hg, rfl⟩)
  refine ⟨v, F, at_, rfl, ?_, ?_, ?_, ?_, hB⟩
  · rw [ho]; simp [bl_length]; omega
  · rw [ho]; simpa using hr
  · rcases hF with rfl | ⟨g, _, _, _, rfl⟩ <;> simp
  · rcases hF with rfl | ⟨g, hg1, _, _, rfl⟩
    · simp
    · simpa using hg1
theorem OpenRel.stop {s : ByteArray} {w wr : World} {v : Value} {at_ : Nat} {rs : List (List UInt8 × List UInt8)} (h : OpenRel s w wr v at_ rs)
    (hz : rs.length = 60 ∨ stB ((bl s).drop at_) rs.length = none) : OpenPost w (bl s) (.returned (.tuple #[v, .int .i64 at_])) wr := by
  refine h.done ?_
  have h2 := h.2.1
  by_cases e : rs.length = 60
  · rw [e]; rfl
  · obtain ⟨m, hm⟩ : ∃ m, 60 - rs.length = m + 1 := ⟨59 - rs.length, by omega⟩
    rw [hm]
    refine openB_none ?_
    rcases hz with hz | hz
    · exact absurd hz e
    · rw [show (60 : Int) - ((m + 1 : Nat) : Int) = (rs.length : Int) by omega]; exact hz
theorem drop_past {l X Y : List UInt8} {c : UInt8} (h : l = X ++ c :: Y) : l.drop (X.length + 1) = Y := by
  subst h
  rw [show X ++ c :: Y = (X ++ [c]) ++ Y by simp]
  exact List.drop_left' (by simp)
theorem OpenRel.step {s : ByteArray} {w wr w1 : World} {v v' : Value} {at_ : Nat} {rs : List (List UInt8 × List UInt8)} {e : List UInt8 × List UInt8} {rest : List UInt8} (h : OpenRel s w wr v at_ rs) (hlt : rs.length < 60)
    (hst : stB ((bl s).drop at_) rs.length = some (e, rest)) (hown : w1.ownsRow w.heap.size 27 2 v' (rs.length + 1) (rs.flatMap recEnc ++ recEnc e)) (hB : Below w.heap.size w w1) :
    OpenRel s w w1 v' (at_ + (cutP 10 ((bl s).drop at_)).1.length + 1) (rs ++ [e]) := by
  obtain ⟨h1, h2, _, hg, ho, _⟩ := h
  obtain ⟨k0, k1, g, hl, hcut, he, hr, _⟩ := stB_facts hst
  obtain ⟨c, hc1, hc2, _⟩ := cut_shape 10 _ hcut
  have hlen := congrArg List.length hc2
  simp only [List.length_append, List.length_cons, List.length_drop, bl_length] at hlen
  have hdrop : (bl s).drop (at_ + (cutP 10 ((bl s).drop at_)).1.length + 1) = rest := by
    rw [Nat.add_assoc, ← List.drop_drop, hr]
    exact drop_past hc2
  refine ⟨by omega, by simp; omega, by simpa using hown, ?_, ?_, hB⟩
  · intro x hx
    rcases List.mem_append.1 hx with hx | hx
    · exact hg x hx
    · obtain rfl : x = e := by simpa using hx
      have := goodB_facts g
      exact ⟨by omega, by omega⟩
  · rw [ho, hdrop]
    obtain ⟨m, hm⟩ : ∃ m, 60 - rs.length = m + 1 := ⟨59 - rs.length, by omega⟩
    have hm2 : 60 - (rs ++ [e]).length = m := by simp; omega
    rw [hm, hm2, openB_some (by rw [show (60 : Int) - ((m + 1 : Nat) : Int) = (rs.length : Int) by omega]; exact hst)]
    simp

theorem has_cut (b : Int) (l : List UInt8) : (cutP b l).2.2 = hasB l b := by
  rcases cut_cases b l with h | ⟨x, c, y, rfl, h1, h2⟩
  · rw [cutP_none h, h]
  · rw [cutP_some h1 h2, hasB_append, h1, hasB_cons, h2]; rfl

set_option maxRecDepth 100000 in
set_option maxHeartbeats 2000000 in
theorem l33Open_any (s : ByteArray) (w : World) (hs : s.size ≤ 1000000) :
    Calls Tryd.prog 68 #[.string s] w (OpenPost w (bl s)) := by
  obtain ⟨i0, hi, hz0, hz1, hz2⟩ := info_parts infoRec
  go_enter Tryd.func68, Tryd.ntmps68
  go_wp2_with fail
  go_loopw [4, 5] (fun v i wr => ∃ (at_ : Nat) (rs : List (List UInt8 × List UInt8)), (∃ a c, v = .slice a rs.length c) ∧ i = .int .i64 at_ ∧ OpenRel s w wr v at_ rs) (fun _ i _ => s.size - (intOf i).toNat)
  case atStart => exact ⟨0, [], ⟨_, _, rfl⟩, rfl, Nat.zero_le _, by simp, World.ownsRow_made w #[] 0 (Nat.le_refl _) (by decide) rfl, by simp, by simp, bal (bb _) _⟩
  case round =>
    obtain ⟨at_, rs, ⟨va, vc, rfl⟩, rfl, HR⟩ := hrel
    obtain ⟨h1, h2, hown, _, _, hB⟩ := id HR
    have hsz := hB.size
    replace HR := (show Hid (OpenRel s w wr (.slice va rs.length vc) at_ rs) from HR)
    by_cases hlt : at_ < s.size
    case neg =>
      have HN : Hid (OpenPost w (bl s) (.returned (.tuple #[.slice va rs.length vc, .int .i64 at_])) wr) := HR.out.stop (Or.inr (by
        rw [List.drop_of_length_le (by rw [bl_length]; omega)]; rfl))
      go_wp2_with fail
      go_ret2
      exact HN.out
    by_cases h60 : rs.length < 60
    case neg =>
      have HN : Hid (OpenPost w (bl s) (.returned (.tuple #[.slice va rs.length vc, .int .i64 at_])) wr) := HR.out.stop (Or.inl (by omega))
      go_wp2_with fail
      go_ret2
      exact HN.out
    have hx : Hid (bl (s.extract at_ s.size) = (bl s).drop at_) := by
      unfold Hid; rw [bl_extract]; exact List.take_of_length_le (by rw [List.length_drop, bl_length]; omega)
    have hxl : (s.extract at_ s.size).size ≤ 1000000 := by simp; omega
    have hcl : (cutP 10 ((bl s).drop at_)).1.length ≤ 1000000 := by have := cutP_len 10 ((bl s).drop at_); rw [List.length_drop, bl_length] at this; omega
    obtain ⟨L, hL⟩ : ∃ L, L = (cutP 10 ((bl s).drop at_)).1 := ⟨_, rfl⟩
    rw [← hL] at hcl
    replace hL := (show Hid (L = (cutP 10 ((bl s).drop at_)).1) from hL)
    go_wp2_with fail
    refine (l1Split_head _ _ _ (by omega)).mono ?_
    rintro e w2 ⟨g, n, cap, rfl, hn0, hn1, hn2, hg, hg', hcell, hn3, hb2⟩
    rw [hx.out, ← hL.out] at hcell
    rw [hx.out] at hn1 hn3
    rw [← has_cut] at hn3
    have hn1' : (n : Int) ≤ 2000000 := by rw [List.length_drop, bl_length] at hn1; omega
    replace hn3 := (show Hid (2 ≤ n ↔ (cutP 10 ((bl s).drop at_)).2.2 = true) from hn3)
    clear hn1
    go_wp2_with fail
    refine (l33Read_any (ms L) _ _ (by omega) (by omega) (by rw [ms_size]; omega)).mono ?_
    rintro e w3 ⟨rfl, hb3⟩
    rw [bl_ms]
    have hbx : Hid (Below wr.heap.size wr w3) := (by repeat (first | exact bb _ | assumption | refine bal ?_ _ | refine bdr ?_ | refine bdn ?_ _ | refine bst ?_ (by simp <;> omega) _ | refine btr ?_ (by assumption)))
    have hsz3 : w.heap.size ≤ w3.heap.size := by have := hbx.out.size; omega
    obtain ⟨hc3, hf3⟩ := bcell hb3
    have hg3 : g < w3.heap.size := Nat.lt_of_lt_of_le hg' hb3.size
    obtain ⟨⟨⟨c0, r0⟩, ok⟩, he0⟩ : ∃ e0, e0 = readB L rs.length := ⟨_, rfl⟩
    rw [← he0]
    replace he0 := (show Hid (((c0, r0), ok) = readB L rs.length) from he0)
    by_cases hgo : 2 ≤ n ∧ ok = true
    case neg =>
      have HN : Hid (∀ o, OpenPost w (bl s) (.returned (.tuple #[.slice va rs.length vc, .int .i64 at_])) (w3.alloc o)) := fun o =>
        (HR.out.grow (bal hbx.out o)).stop (Or.inr (by
          unfold stB
          rw [← hL.out, ← he0.out, if_neg]
          intro hh
          simp only [Bool.and_eq_true] at hh
          exact hgo ⟨hn3.out.2 hh.1.1, hh.2⟩))
      by_cases hn : 2 ≤ n
      · have hok : ok = false := by
          cases ok
          · rfl
          · exact absurd ⟨hn, rfl⟩ hgo
        subst hok
        have hn' : (2 : Int) ≤ n := by omega
        clear hgo
        go_wp2_with fail
        go_ret2
        exact HN.out _
      · have hn' : (n : Int) < 2 := by omega
        clear hgo hn
        go_wp2_with fail
        go_ret2
        exact HN.out _
    obtain ⟨hn, rfl⟩ := hgo
    have hn' : (2 : Int) ≤ n := by omega
    have hst : Hid (stB ((bl s).drop at_) rs.length = some ((c0, r0), (cutP 10 ((bl s).drop at_)).2.1)) := by
      unfold Hid stB
      rw [← hL.out, ← he0.out, hn3.out.1 hn, if_pos]
      simp only [Bool.and_eq_true, inB_true]
      refine ⟨⟨trivial, ?_⟩, trivial⟩
      constructor <;> omega
    have hown3 : ∀ o, (w3.alloc o).ownsRow w.heap.size 27 2 (.slice va rs.length vc) rs.length (rs.flatMap recEnc) := fun o => owns_grow hown (bal hbx.out o)
    have hown4 := hown3 (.cells #[.string (ms c0), .string (ms r0)] 27)
    clear hown3
    go_wp2_with (at_builtin; refine wpList_append_own _ rfl _ _ 48 rfl w.heap.size 27 i0 (.agg #[.string ByteArray.empty, .string ByteArray.empty]) 2 32 Tryd.underlying48 hi hz0 hz1 hz2 rfl (by decide) _ _ _ rfl (hown4.alloc _) ⟨w3.heap.size + 1, 0, none⟩ 1 1 [.string (ms c0), .string (ms r0)] rfl rfl ?c1 ?c2 ?c3 ?c4 ?c5 ?_)
    case c1 =>
      intro j u hj
      match j, hj with
      | 0, hj => simp at hj; subst hj; simp [Addr.add]
      | 1, hj => simp at hj; subst hj; simp [Addr.add]
    case c2 => intro u hu; simp at hu; rcases hu with rfl | rfl <;> rfl
    case c3 => unfold maxLen; omega
    case c4 => omega
    case c5 => simp; omega
    intro v' w5 hown' hgrow _
    have hB5 : Below w.heap.size w w5 := Below.grown (by repeat (first | exact bb _ | assumption | refine bal ?_ _ | refine bdr ?_ | refine bdn ?_ _ | refine bst ?_ (by simp <;> omega) _ | refine btr ?_ (by assumption))) hgrow (by simp; omega) (fun q hq => (hown.lt q hq).1)
    have HN := HR.out.step h60 hst.out hown' hB5
    obtain ⟨ga, gc, hv'⟩ := Joins.ownsRow_form hown' (by simp)
    subst hv'
    have hg5 : w5.cell? ⟨g, 0, none⟩ = some (.string (ms L)) := by
      refine hgrow.cell (v := .string (ms L)) ?_ (fun e => by have := (hown.lt g e.symm).2; omega)
      have q1 := (bcell (bal (bal (bb w3) (.cells #[.string (ms c0), .string (ms r0)] 27)) (.cells #[.string (ms c0), .string (ms r0)] 27))).1 g 0 hg3
      rw [q1, hc3 g 0 hg', hcell]
    rw [← hL.out] at HN
    have hlen : (rs ++ [(c0, r0)]).length = rs.length + 1 := by simp
    replace HN := (show Hid (OpenRel s w w5 (.slice (some ⟨ga, 0, none⟩) (rs.length + 1) gc) (at_ + L.length + 1) (rs ++ [(c0, r0)])) from HN)
    replace hlen := (show Hid ((rs ++ [(c0, r0)]).length = rs.length + 1) from hlen)
    clear hgrow hown' hown4 hc3 hf3 hown hB
    go_wp2_with fail
    go_roundw
    case rel => exact ⟨at_ + L.length + 1, rs ++ [(c0, r0)], ⟨_, _, by rw [hlen.out]⟩, by go_num, HN.out⟩
    case measure => simp [intOf]; omega
end Go.Proofs.YtfcekfomhpmgpaaDoor
