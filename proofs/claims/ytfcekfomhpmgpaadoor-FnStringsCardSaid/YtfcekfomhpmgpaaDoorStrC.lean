/- Contracts: the bytes of a record, in the program; the law FnExactIsValidRecord. -/
import Derived.Test.YtfcekfomhpmgpaaDoorStrB
import Derived.Test.YtfcekfomhpmgpaaDoorShelf
import Derived.Lib.IndexAny
namespace Go.Proofs.YtfcekfomhpmgpaaDoor
open Go.RowKit

theorem indexAny_neg (chars : List UInt8) : ∀ l : List UInt8, (0 ≤ Lib.indexAny l chars) = (l.any chars.contains = true)
  | [] => by simp [Lib.indexAny]
  | b :: l => by
    have ih := indexAny_neg chars l
    have hg := Lib.indexAny_ge chars l
    unfold Lib.indexAny
    by_cases h : chars.contains b = true
    · rw [if_pos h, List.any_cons, h]; simp
    · have h' : chars.contains b = false := by simpa using h
      rw [if_neg h, List.any_cons, h', Bool.false_or, ← ih]
      by_cases h1 : Lib.indexAny l chars = -1
      · rw [if_pos (beq_iff_eq.2 h1), h1]
      · rw [if_neg (by rw [beq_iff_eq]; exact h1)]; exact propext (by omega)
theorem containsAny_eq (l chars : List UInt8) : Lib.containsAny l chars = l.any chars.contains := by
  unfold Lib.containsAny
  have := indexAny_neg chars l
  by_cases h : l.any chars.contains = true
  · rw [h]; rw [h] at this; simp only [eq_self] at this; simpa using this
  · have h' : l.any chars.contains = false := by simpa using h
    rw [h']; rw [h'] at this; simpa using this
theorem seenB_ascii {l : List UInt8} (h : seenB l = true) : ∀ (j : Nat) b, l[j]? = some b → b.toNat < 128 := by
  intro j b hj
  have hm : b ∈ l := List.mem_of_getElem? hj
  have := (List.all_eq_true.1 h) b hm
  have := inB_true.1 this
  omega

/-- What 'printable' tells. -/
def printB (l chars : List UInt8) : Bool := seenB l && !Lib.containsAny l chars

set_option maxHeartbeats 400000 in
theorem printable_any (s chars : ByteArray) (w : World) (hs : s.size < 4294967281) (hcs : chars.size < 4294967281) (hac : ∀ (j : Nat) b, chars.data.toList[j]? = some b → b.toNat < 128) :
    Calls Tryd.prog 90 #[.string s, .string chars] w fun e w' => e = .returned (.bool (printB (bl s) (bl chars))) ∧ Below w.heap.size w w' := by
  have HAC := hac
  replace HAC : Hid (∀ (j : Nat) b, chars.data.toList[j]? = some b → b.toNat < 128) := hac
  clear hac
  go_enter Tryd.func90, Tryd.ntmps90
  go_wp2
  go_loop [8] (fun i => ∃ k : Nat, k ≤ s.size ∧ i = .int .i64 k ∧ Hid (seenB ((bl s).take k) = true)) (fun i => s.size - (intOf i).toNat)
  case atStart => exact ⟨0, Nat.zero_le _, rfl, by simp [Hid, seenB]⟩
  case round =>
    obtain ⟨k, hk, rfl, HR⟩ := hrel
    by_cases hlt : k < s.size
    · have HS : Hid (seenB ((bl s).take (k + 1)) = inB s[k].toNat 32 126) := by
        unfold Hid; rw [bl_take_succ s k hlt, seenB_snoc, HR.out]; rfl
      have hb : (s[k].toNat : Int) ≤ 255 := by have := s[k].toNat_lt; omega
      by_cases h1 : inB s[k].toNat 32 126 = true
      · go_wp2_with (go_at_call 66; refine (within_any _ _ _ _).mono ?_; rintro e w' ⟨rfl, rfl⟩)
        go_round
        case rel => exact ⟨k + 1, by omega, by go_num, by unfold Hid; rw [HS.out, h1]⟩
        case measure => simp [intOf]; omega
      · have h1' : inB s[k].toNat 32 126 = false := by simpa using h1
        clear h1
        go_wp2_with (go_at_call 66; refine (within_any _ _ _ _).mono ?_; rintro e w' ⟨rfl, rfl⟩)
        go_ret
        exact ⟨ret_bool (by rw [printB, seenB_false_of_take (k := k + 1) (by rw [HS.out, h1'])]; rfl), bb _⟩
    · have HS : Hid (seenB (bl s) = true) := by have := HR.out; rwa [bl_take_all s k (by omega)] at this
      clear HR
      go_wp2_with (go_at_call 105; refine (Tryd.strings_ContainsAny_laid _ _ _ hs hcs (seenB_ascii HS.out) HAC.out).mono ?_; rintro e w' ⟨rfl, hw'⟩)
      go_ret
      exact ⟨ret_bool (by rw [printB, HS.out]; rfl), by assumption⟩

/-- What the program calls a good record. -/
def goodI (c r : List UInt8) : Bool := inB c.length 1 160 && decide ((r.length : Int) ≤ 200) && printB c [35, 64] && printB r [35]

theorem u8_eq (c : UInt8) (n : Nat) (h : n < 256) : (c = UInt8.ofNat n) ↔ (c.toNat : Int) = n := by
  constructor
  · rintro rfl; simp; omega
  · intro e
    apply UInt8.toNat_inj.1
    simp
    omega

theorem printB_plain (l : List UInt8) : printB l [35] = allB l := by
  unfold printB seenB allB
  rw [containsAny_eq]
  induction l with
  | nil => rfl
  | cons c l ih =>
    simp only [List.all_cons, List.any_cons, Bool.not_or] at *
    rw [← ih, okB]
    have e : ([35] : List UInt8).contains c = ((c.toNat : Int) == 35) := by
      have := u8_eq c 35 (by decide)
      rw [Bool.eq_iff_iff]; simp; exact this
    rw [e]
    cases inB c.toNat 32 126 <;> cases ((c.toNat : Int) == 35) <;> simp
theorem printB_two (l : List UInt8) : printB l [35, 64] = (allB l && !hasB l 64) := by
  unfold printB seenB allB hasB
  rw [containsAny_eq]
  induction l with
  | nil => rfl
  | cons c l ih =>
    simp only [List.all_cons, List.any_cons, Bool.not_or] at *
    have e : ([35, 64] : List UInt8).contains c = (((c.toNat : Int) == 35) || ((c.toNat : Int) == 64)) := by
      have h1 := u8_eq c 35 (by decide)
      have h2 := u8_eq c 64 (by decide)
      rw [Bool.eq_iff_iff]; simp
      exact or_congr h1 h2
    rw [e, okB]
    revert ih
    generalize (l.all fun c => inB c.toNat 32 126) = p
    generalize (l.any ([35, 64] : List UInt8).contains) = q
    generalize (l.all okB) = u
    generalize (l.any fun c => (c.toNat : Int) == 64) = v
    generalize inB c.toNat 32 126 = x
    generalize ((c.toNat : Int) == 35) = y
    generalize ((c.toNat : Int) == 64) = z
    revert p q u v x y z
    decide
theorem goodI_eq (c r : List UInt8) : goodI c r = goodB c r := by
  unfold goodI goodB plainB
  rw [printB_plain, printB_two]
  cases c with
  | nil => simp [inB]
  | cons b c =>
    have e : inB (((b :: c).length : Nat) : Int) 1 160 = decide (((b :: c).length : Int) ≤ 160) := by
      simp [inB]; omega
    rw [e]
    generalize allB (b :: c) = x
    generalize decide (((b :: c).length : Int) ≤ 160) = y
    generalize hasB (b :: c) 64 = z
    generalize allB r = u
    generalize decide ((r.length : Int) ≤ 200) = v
    simp only [List.isEmpty_cons]
    revert x y z u v
    decide

theorem ascii2 : ∀ (j : Nat) b, (ByteArray.mk #[35, 64]).data.toList[j]? = some b → b.toNat < 128 := by
  intro j b hj
  have := List.mem_of_getElem? hj
  simp at this
  rcases this with rfl | rfl <;> decide
theorem ascii1 : ∀ (j : Nat) b, (ByteArray.mk #[35]).data.toList[j]? = some b → b.toNat < 128 := by
  intro j b hj
  have := List.mem_of_getElem? hj
  simp at this
  subst this; decide

set_option maxHeartbeats 2000000 in
theorem implIsValidRecord_any (c r : ByteArray) (w : World) (hc : c.size < 4294967281) (hr : r.size < 4294967281) :
    Calls Tryd.prog 52 #[.agg #[.string c, .string r]] w fun e w' => e = .returned (.bool (goodB (bl c) (bl r))) ∧ Below w.heap.size w w' := by
  rw [← goodI_eq]
  have hB := (Below.refl w.heap.size w).alloc (Nat.le_refl _)
  by_cases h0 : inB c.size 1 160 = true
  case neg =>
    have h0' : inB c.size 1 160 = false := by simpa using h0
    clear h0
    go_enter Tryd.func52, Tryd.ntmps52
    go_wp2_with (go_at_call 66; refine (within_any _ _ _ _).mono ?_; rintro e w' ⟨rfl, rfl⟩)
    go_ret
    exact ⟨ret_bool (by rw [goodI, bl_length, h0']; rfl), hB _⟩
  by_cases h1 : (r.size : Int) ≤ 200
  case neg =>
    have h1' : decide ((r.size : Int) ≤ 200) = false := by simpa using h1
    clear h1
    go_enter Tryd.func52, Tryd.ntmps52
    go_wp2_with (go_at_call 66; refine (within_any _ _ _ _).mono ?_; rintro e w' ⟨rfl, rfl⟩)
    go_ret
    exact ⟨ret_bool (by rw [goodI, bl_length, bl_length, h0, h1']; rfl), hB _⟩
  have h1' : decide ((r.size : Int) ≤ 200) = true := by simpa using h1
  by_cases h2 : printB (bl c) [35, 64] = true
  case neg =>
    have h2' : printB (bl c) (bl ⟨#[35, 64]⟩) = false := by
      have e : printB (bl c) [35, 64] = false := by simpa using h2
      exact e
    clear h2
    go_enter Tryd.func52, Tryd.ntmps52
    go_wp2_with (first
      | (go_at_call 66; refine (within_any _ _ _ _).mono ?_; rintro e w' ⟨rfl, rfl⟩)
      | (go_at_call 90; refine (printable_any _ _ _ hc (by decide) ascii2).mono ?_; rintro e w1 ⟨rfl, hb1⟩; obtain ⟨hc1, hf1⟩ := bcell hb1))
    go_ret
    exact ⟨ret_bool (by rw [goodI, bl_length, bl_length, h0, h1']; exact (by rw [show printB (bl c) [35, 64] = false from h2']; rfl)), btr (hB _) (by assumption)⟩
  have h2' : printB (bl c) (bl ⟨#[35, 64]⟩) = true := h2
  clear h2
  go_enter Tryd.func52, Tryd.ntmps52
  go_wp2_with (first
    | (go_at_call 66; refine (within_any _ _ _ _).mono ?_; rintro e w' ⟨rfl, rfl⟩)
    | (go_at_call 90; (with_reducible refine (printable_any c _ _ hc (by decide) ascii2).mono ?_); rintro e w1 ⟨rfl, hb1⟩; obtain ⟨hc1, hf1⟩ := bcell hb1)
    | (go_at_call 90; (with_reducible refine (printable_any r _ _ hr (by decide) ascii1).mono ?_); rintro e w2 ⟨rfl, hb2⟩))
  go_ret
  refine ⟨ret_bool ?_, btr (btr (hB _) (by assumption)) (by assumption)⟩
  rw [goodI, bl_length, bl_length, h0, h1', show printB (bl c) [35, 64] = true from h2']; rfl

end Go.Proofs.YtfcekfomhpmgpaaDoor
