/- Contracts: logs in the program. -/
import Derived.Test.YtfcekfomhpmgpaaDoorLogF
namespace Go.Proofs.YtfcekfomhpmgpaaDoor
open Go.RowKit

theorem openB_ok : ∀ (n : Nat) (l : List UInt8), ∀ x ∈ (openB n l).1, recOk x
  | 0, l => by simp [openB]
  | n + 1, l => by
    cases h : stB l (60 - (n + 1 : Nat)) with
    | none => rw [openB_none h]; simp
    | some y =>
      obtain ⟨e, rest⟩ := y
      obtain ⟨_, _, g, _⟩ := stB_facts h
      rw [openB_some h]
      intro x hx
      rcases List.mem_cons.1 hx with rfl | hx
      · have := goodB_facts g
        exact ⟨by omega, by omega⟩
      · exact openB_ok n rest x hx

theorem next_take (g : Nat) (L : List UInt8) (va : Option Addr) (n vc : Nat) (sz : Int) (a : Addr) (w : World) (hE : EnvE a w) (hR : RdIs w g L (.slice va n vc) sz) (hL : L.length ≤ 3000000) (hn : n ≤ 60) (h : nextB L n = true)
    (hsz0 : 0 ≤ sz) (hsz1 : sz ≤ 1000000000) (Bs : Nat) (rs : List (List UInt8 × List UInt8)) (hown : w.ownsRow Bs 27 2 (.slice va n vc) n (rs.flatMap recEnc)) (hne : (Value.slice va n vc).ownBlock ≠ some g) (hBs : Bs ≤ g) (hBsw : Bs ≤ w.heap.size) :
    Calls Tryd.prog 97 #[.pointer (some ⟨g, 0, none⟩)] w (NextPost Bs w g (cutP 10 L).2.1 n (rs.flatMap recEnc) (cmdB L) (repB L) (sz + ((cutP 10 L).1.length + 1 : Nat))) := by
  have h' := h
  unfold nextB at h'
  simp only [Bool.and_eq_true] at h'
  obtain ⟨⟨⟨h1, h2⟩, h3⟩, h4⟩ := h'
  have hO : encB n (cmdB L) (repB L) = ((encB n (cmdB L) (repB L)).1, true) := by rw [← h3]
  have hl : (encB n (cmdB L) (repB L)).1.length = (cutP 10 L).1.length + 1 := by rw [beq_iff_eq.1 h4]; simp
  have hst := stB_facts (nextB_yes (Int.natCast_nonneg n) h)
  have hline : (encB n (cmdB L) (repB L)).1.length ≤ 1000 := by
    have := lineB_len hst.1 hst.2.1 hst.2.2.1
    unfold encB
    split
    · exact Nat.le_trans this.1 (by decide)
    · simp
  have := next_yes g L (cutP 10 L).1 (cutP 10 L).2.1 (verB (cutP 10 L).1).1 (cutP 32 (verB (cutP 10 L).1).1).2.1 (cmdB L) (repB L) va n vc sz a w hE hR hL hn ⟨rfl, rfl, rfl, rfl, rfl, rfl⟩ h1 h2 _ hO h4 hline hsz0 hsz1 Bs rs hown hne hBs hBsw
  rwa [hl] at this
theorem next_leave (g : Nat) (L : List UInt8) (va : Option Addr) (n vc : Nat) (sz : Int) (a : Addr) (w : World) (hE : EnvE a w) (hR : RdIs w g L (.slice va n vc) sz) (hL : L.length ≤ 3000000) (h : nextB L n = false) :
    Calls Tryd.prog 97 #[.pointer (some ⟨g, 0, none⟩)] w (ErrPost w a) := by
  by_cases h1 : (cutP 10 L).2.2 = true
  case neg => exact next_no1 g L va n vc sz a w hE hR hL (by simpa using h1)
  have hN : NextIs L (cutP 10 L).1 (cutP 10 L).2.1 (verB (cutP 10 L).1).1 (cutP 32 (verB (cutP 10 L).1).1).2.1 (cmdB L) (repB L) := ⟨rfl, rfl, rfl, rfl, rfl, rfl⟩
  by_cases h2 : (verB (cutP 10 L).1).2 = true
  case neg => exact next_no2 g L _ _ _ _ _ _ va n vc sz a w hE hR hL hN h1 (by simpa using h2)
  refine next_no3 g L _ _ _ _ _ _ va n vc sz a w hE hR hL hN h1 h2 (encB n (cmdB L) (repB L)).1 (encB n (cmdB L) (repB L)).2 rfl ?_
  unfold nextB at h
  rw [h1, h2] at h
  cases h3 : (encB n (cmdB L) (repB L)).2 with
  | false => exact Or.inl rfl
  | true => exact Or.inr ⟨rfl, by rw [h3] at h; simpa using h⟩

/-- How far the reader has come. -/
structure RdRel (s : ByteArray) (a : Addr) (w wr : World) (L : List UInt8) (va : Option Addr) (vc : Nat) (rs : List (List UInt8 × List UInt8)) : Prop where
  rd : RdIs wr w.heap.size L (.slice va rs.length vc) ((s.size : Int) - L.length)
  own : wr.ownsRow w.heap.size 27 2 (.slice va rs.length vc) rs.length (rs.flatMap recEnc)
  ne : (Value.slice va rs.length vc).ownBlock ≠ some w.heap.size
  len : L.length ≤ s.size
  cnt : rs.length ≤ 60
  res : openB 60 (bl s) = (rs ++ (openB (60 - rs.length) L).1, (openB (60 - rs.length) L).2)
  env : EnvE a wr
  bel : Below w.heap.size w wr
/-- What 'readLog' gives. -/
def ReadPost (w : World) (l : List UInt8) (e : Ending) (w' : World) : Prop :=
  ∃ (va : Option Addr) (vc : Nat), e = .returned (.pointer (some ⟨w.heap.size, 0, none⟩)) ∧ RdIs w' w.heap.size (openB 60 l).2 (.slice va (openB 60 l).1.length vc) ((l.length : Int) - (openB 60 l).2.length) ∧
    w'.ownsRow w.heap.size 27 2 (.slice va (openB 60 l).1.length vc) (openB 60 l).1.length ((openB 60 l).1.flatMap recEnc) ∧ Below w.heap.size w w'

theorem RdRel.done {s : ByteArray} {a : Addr} {w wr w' : World} {L : List UInt8} {va : Option Addr} {vc : Nat} {rs : List (List UInt8 × List UInt8)} (h : RdRel s a w wr L va vc rs) (hn : nextB L rs.length = false) (hb : Below wr.heap.size wr w') :
    ReadPost w (bl s) (.returned (.pointer (some ⟨w.heap.size, 0, none⟩))) w' := by
  have hz : openB (60 - rs.length) L = ([], L) := by
    by_cases e : rs.length = 60
    · rw [e]; rfl
    · have := h.cnt
      obtain ⟨m, hm⟩ : ∃ m, 60 - rs.length = m + 1 := ⟨59 - rs.length, by omega⟩
      rw [hm]
      refine openB_none ?_
      rw [show (60 : Int) - ((m + 1 : Nat) : Int) = (rs.length : Int) by omega]; exact nextB_no hn
  have hr := h.res
  rw [hz, List.append_nil] at hr
  refine ⟨va, vc, rfl, ?_, ?_, btr h.bel hb⟩
  · rw [hr, bl_length]; exact h.rd.grow hb
  · rw [hr]; exact owns_grow h.own hb
theorem RdRel.step {s : ByteArray} {a : Addr} {w wr w' : World} {L : List UInt8} {va : Option Addr} {vc : Nat} {rs : List (List UInt8 × List UInt8)} (h : RdRel s a w wr L va vc rs) (hn : nextB L rs.length = true) (hlow : w.heap.size ≤ wr.heap.size)
    (hEw : EnvE a w) {e : Ending} (hp : NextPost w.heap.size wr w.heap.size (cutP 10 L).2.1 rs.length (rs.flatMap recEnc) (cmdB L) (repB L) (((s.size : Int) - L.length) + ((cutP 10 L).1.length + 1 : Nat)) e w') :
    e = .returned .nilIface ∧ ∃ vb vd, RdRel s a w w' (cutP 10 L).2.1 vb vd (rs ++ [(cmdB L, repB L)]) := by
  obtain ⟨rfl, vb, vd, h1, h2, h3, h4⟩ := hp
  have hst := nextB_yes (Int.natCast_nonneg _) hn
  obtain ⟨_, k1, g, _, hcut, _⟩ := stB_facts hst
  obtain ⟨c, _, hc2, _⟩ := cut_shape 10 L hcut
  have hlen := congrArg List.length hc2
  simp only [List.length_append, List.length_cons] at hlen
  have hl := h.len
  have e1 : (rs ++ [(cmdB L, repB L)]).length = rs.length + 1 := by simp
  have e2 : rs.flatMap recEnc ++ [.string (ms (cmdB L)), .string (ms (repB L))] = (rs ++ [(cmdB L, repB L)]).flatMap recEnc := by simp [recEnc]
  have e3 : ((s.size : Int) - L.length) + ((cutP 10 L).1.length + 1 : Nat) = (s.size : Int) - (cutP 10 L).2.1.length := by omega
  have hb := h.bel.trans h4
  refine ⟨rfl, vb, vd, ⟨by rw [e1, ← e3]; exact h1, by rw [e1, ← e2]; exact h2, by rw [e1]; exact h3, by omega, by rw [e1]; omega, ?_, hEw.grow hb, hb⟩⟩
  rw [h.res, e1]
  obtain ⟨m, hm⟩ : ∃ m, 60 - rs.length = m + 1 := ⟨59 - rs.length, by omega⟩
  have hm2 : 60 - (rs.length + 1) = m := by omega
  rw [hm, hm2, openB_some (by rw [show (60 : Int) - ((m + 1 : Nat) : Int) = (rs.length : Int) by omega]; exact hst)]
  simp

def restOf (w : World) (g : Nat) : Nat := match w.cell? ⟨g, 0, none⟩ with | some (.string s) => s.size | _ => 0
theorem restOf_is {w : World} {g : Nat} {L : List UInt8} {v : Value} {sz : Int} (h : RdIs w g L v sz) : restOf w g = L.length := by
  unfold restOf; rw [h.c0]; rfl

set_option maxRecDepth 100000 in
set_option maxHeartbeats 2000000 in
theorem readLog_any (s : ByteArray) (a : Addr) (w : World) (hE : EnvE a w) (hs : s.size ≤ 3000000) :
    Calls Tryd.prog 69 #[.string s] w (ReadPost w (bl s)) := by
  have hEH := Lib.hid hE
  have hlt0 := World.block_lt_of_cell? _ _ hE.err
  clear hE
  go_enter Tryd.func69, Tryd.ntmps69
  go_wp2_with fail
  go_loopw [4] (fun _ wr => ∃ (L : List UInt8) (va : Option Addr) (vc : Nat) (rs : List (List UInt8 × List UInt8)), RdRel s a w wr L va vc rs) (fun _ wr => restOf wr w.heap.size)
  case atStart =>
    refine ⟨bl s, none, 0, [], ⟨⟨by simp [go_sem, ms_bl], by simp [go_sem], by simp [go_sem, bl_length], by simp [go_sem], by simp [go_sem], by simp [go_sem]⟩, World.ownsRow_nil _ _ _ _, by simp [Value.ownBlock], by rw [bl_length]; exact Nat.le_refl _, by simp, by simp, hEH.out.grow (by repeat (first | exact bb _ | assumption | refine bal ?_ _ | refine bdr ?_ | refine bdn ?_ _ | refine bst ?_ (by simp <;> omega) _ | refine btr ?_ (by assumption))), (by repeat (first | exact bb _ | assumption | refine bal ?_ _ | refine bdr ?_ | refine bdn ?_ _ | refine bst ?_ (by simp <;> omega) _ | refine btr ?_ (by assumption)))⟩⟩
  case round =>
    obtain ⟨L, va, vc, rs, HR⟩ := hrel
    replace HR := (show Hid (RdRel s a w wr L va vc rs) from HR)
    have hsz := HR.out.bel.size
    have hL : L.length ≤ 3000000 := by have := HR.out.len; omega
    have herr := HR.out.env.err
    have hltr := World.block_lt_of_cell? _ _ herr
    by_cases hn : nextB L rs.length = true
    · replace hn := (show Hid (nextB L rs.length = true) from hn)
      go_wp2_with fail
      refine (next_take w.heap.size L va rs.length vc _ a wr HR.out.env HR.out.rd hL HR.out.cnt hn.out (by have := HR.out.len; omega) (by omega) w.heap.size rs HR.out.own HR.out.ne (Nat.le_refl _) hsz).mono ?_
      rintro e w1 hp
      obtain ⟨rfl, vb, vd, HN⟩ := HR.out.step hn.out hsz hEH.out hp
      replace HN := (show Hid (RdRel s a w w1 (cutP 10 L).2.1 vb vd (rs ++ [(cmdB L, repB L)])) from HN)
      have herr1 := HN.out.env.err
      have hm : Hid (restOf w1 w.heap.size < restOf wr w.heap.size) := by
        unfold Hid
        rw [restOf_is HN.out.rd, restOf_is HR.out.rd]
        obtain ⟨c, _, hc2, _⟩ := cut_shape 10 L (stB_facts (nextB_yes (Int.natCast_nonneg _) hn.out)).2.2.2.2.1
        have := congrArg List.length hc2
        simp only [List.length_append, List.length_cons] at this
        omega
      clear hp herr HR
      go_wp2_with (go_at_call 98; refine (is_nil _ _).mono ?_; rintro e w2 ⟨rfl, rfl⟩)
      go_roundw
      case rel => exact ⟨_, _, _, _, HN.out⟩
      case measure => exact hm.out
    · have hn' : Hid (nextB L rs.length = false) := by unfold Hid; simpa using hn
      clear hn
      go_wp2_with fail
      refine (next_leave w.heap.size L va rs.length vc _ a wr HR.out.env HR.out.rd hL hn'.out).mono ?_
      rintro e w1 ⟨rfl, hb1⟩
      have HP : Hid (ReadPost w (bl s) (.returned (.pointer (some ⟨w.heap.size, 0, none⟩))) w1) := HR.out.done hn'.out hb1
      have herr1 := ((bcell hb1).1 _ 0 hltr).trans herr
      clear HR herr hb1
      go_wp2_with (go_at_call 98; refine (is_same _ _).mono ?_; rintro e w2 ⟨rfl, rfl⟩)
      go_ret
      exact HP.out
end Go.Proofs.YtfcekfomhpmgpaaDoor
