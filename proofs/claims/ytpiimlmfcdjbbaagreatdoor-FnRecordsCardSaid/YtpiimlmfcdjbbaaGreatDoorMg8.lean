/- Lemmas and contracts for a law, put together out of several texts: PlC BtB StrB StrD BtC RcG RcH RcI BmJ NumA PbA StrC. -/
import Derived.Test.YtpiimlmfcdjbbaaGreatDoorMg2
import Derived.Lib.IndexBytes
import Derived.Lib.IndexLaws
import Derived.Lib.IndexMore
import Derived.Test.YtpiimlmfcdjbbaaGreatDoorMg1
import Derived.Lib.QuietBelow
import Derived.BigQuiet
import Derived.Test.YtpiimlmfcdjbbaaGreatDoorMg3
import Derived.Test.YtpiimlmfcdjbbaaGreatDoorMg4
import Derived.Test.YtpiimlmfcdjbbaaGreatDoorMg7
import Derived.Deep.DeepCutAuto
import Derived.Deep.CutBlock
import Derived.Laws.StructEq
import Derived.Lib.AtoiAll
import Derived.Test.YtpiimlmfcdjbbaaGreatDoorShelf
import Derived.Lib.IndexAny
/- Plain facts: cutting and splitting at a byte; sealed strings read back. No program in sight. -/
namespace Go.Proofs.YtpiimlmfcdjbbaaGreatDoor

def eqB (c : UInt8) (b : Int) : Bool := (c.toNat : Int) == b
theorem eqB_of (c b : UInt8) : eqB c b.toNat = (c == b) := by
  unfold eqB
  rw [Bool.eq_iff_iff]
  simp only [beq_iff_eq]
  constructor
  · intro h; exact UInt8.toNat_inj.1 (by omega)
  · rintro rfl; rfl
theorem hasB_cons (c : UInt8) (l : List UInt8) (b : Int) : hasB (c :: l) b = (eqB c b || hasB l b) := rfl
theorem hasB_append (l m : List UInt8) (b : Int) : hasB (l ++ m) b = (hasB l b || hasB m b) := by simp [hasB]

/-- A string cut at the first byte b. -/
def cutP (b : Int) : List UInt8 → List UInt8 × List UInt8 × Bool
  | [] => ([], [], false)
  | c :: l => if eqB c b then ([], l, true) else (c :: (cutP b l).1, (cutP b l).2.1, (cutP b l).2.2)
theorem cutP_none {b : Int} : ∀ {l : List UInt8}, hasB l b = false → cutP b l = (l, [], false)
  | [], _ => rfl
  | c :: l, h => by
    rw [hasB_cons] at h
    have h1 : eqB c b = false := by cases e : eqB c b <;> simp_all
    have h2 : hasB l b = false := by cases e : hasB l b <;> simp_all
    rw [cutP, h1, cutP_none h2]; rfl
theorem cutP_some {b : Int} : ∀ {l : List UInt8} {c : UInt8} {m : List UInt8}, hasB l b = false → eqB c b = true → cutP b (l ++ c :: m) = (l, m, true)
  | [], c, m, _, h => by rw [List.nil_append, cutP, h]; rfl
  | x :: l, c, m, h, h' => by
    rw [hasB_cons] at h
    have h1 : eqB x b = false := by cases e : eqB x b <;> simp_all
    have h2 : hasB l b = false := by cases e : hasB l b <;> simp_all
    rw [List.cons_append, cutP, h1, cutP_some h2 h']; rfl
/-- Every string has the byte not at all, or a first time. -/
theorem cut_cases (b : Int) : ∀ l : List UInt8, hasB l b = false ∨ ∃ x c y, l = x ++ c :: y ∧ hasB x b = false ∧ eqB c b = true
  | [] => .inl rfl
  | c :: l => by
    cases e : eqB c b with
    | true => exact .inr ⟨[], c, l, rfl, rfl, e⟩
    | false =>
      rcases cut_cases b l with h | ⟨x, d, y, rfl, h1, h2⟩
      · left; rw [hasB_cons, e, h]; rfl
      · exact .inr ⟨c :: x, d, y, rfl, by rw [hasB_cons, e, h1]; rfl, h2⟩
theorem index_none {b : UInt8} {l : List UInt8} (h : hasB l b.toNat = false) : Lib.indexByte l b = -1 := by
  induction l with
  | nil => rfl
  | cons c l ih =>
    rw [hasB_cons, eqB_of] at h
    have h1 : (c == b) = false := by cases e : (c == b) <;> simp_all
    have h2 : hasB l b.toNat = false := by cases e : hasB l b.toNat <;> simp_all
    rw [Lib.indexByte, if_neg (by rw [h1]; simp), ih h2, if_pos (by decide)]
theorem index_some {b : UInt8} {l m : List UInt8} (h : hasB l b.toNat = false) : Lib.indexByte (l ++ b :: m) b = l.length := by
  induction l with
  | nil => simp [Lib.indexByte]
  | cons c l ih =>
    rw [hasB_cons, eqB_of] at h
    have h1 : (c == b) = false := by cases e : (c == b) <;> simp_all
    have h2 : hasB l b.toNat = false := by cases e : hasB l b.toNat <;> simp_all
    rw [List.cons_append, Lib.indexByte, if_neg (by rw [h1]; simp), ih h2, if_neg (by rw [beq_iff_eq]; omega)]
    simp
theorem lib_cut (b : UInt8) (l : List UInt8) : Lib.cut l [b] = cutP b.toNat l := by
  unfold Lib.cut
  rw [Lib.index_one]
  rcases cut_cases b.toNat l with h | ⟨x, c, y, rfl, h1, h2⟩
  · rw [index_none h, if_neg (by decide), cutP_none h]
  · have e : c = b := by have := eqB_of c b; rw [h2] at this; simpa using this.symm
    subst e
    rw [index_some h1, if_pos (by omega), cutP_some h1 h2]
    simp
theorem lib_has (b : UInt8) (l : List UInt8) : decide (0 ≤ Lib.indexByte l b) = hasB l b.toNat := by
  rcases cut_cases b.toNat l with h | ⟨x, c, y, rfl, h1, h2⟩
  · rw [index_none h, h]; decide
  · have e : c = b := by have := eqB_of c b; rw [h2] at this; simpa using this.symm
    subst e
    rw [index_some h1, hasB_append, hasB_cons, h2]
    simp

/-- A string split at every byte b. -/
def splitP (b : Int) : List UInt8 → List (List UInt8)
  | [] => [[]]
  | c :: l => if eqB c b then [] :: splitP b l else match splitP b l with
    | p :: ps => (c :: p) :: ps
    | [] => [[c]]
theorem splitP_none {b : Int} : ∀ {l : List UInt8}, hasB l b = false → splitP b l = [l]
  | [], _ => rfl
  | c :: l, h => by
    rw [hasB_cons] at h
    have h1 : eqB c b = false := by cases e : eqB c b <;> simp_all
    have h2 : hasB l b = false := by cases e : hasB l b <;> simp_all
    rw [splitP, h1, splitP_none h2]; rfl
theorem splitP_some {b : Int} : ∀ {l : List UInt8} {c : UInt8} {m : List UInt8}, hasB l b = false → eqB c b = true → splitP b (l ++ c :: m) = l :: splitP b m
  | [], c, m, _, h => by rw [List.nil_append, splitP, h]; rfl
  | x :: l, c, m, h, h' => by
    rw [hasB_cons] at h
    have h1 : eqB x b = false := by cases e : eqB x b <;> simp_all
    have h2 : hasB l b = false := by cases e : hasB l b <;> simp_all
    rw [List.cons_append, splitP, h1, splitP_some h2 h']; rfl
theorem splitP_ne (b : Int) : ∀ l : List UInt8, splitP b l ≠ []
  | [] => by simp [splitP]
  | c :: l => by
    rw [splitP]
    split
    · simp
    · split <;> simp
theorem splitP_head (b : Int) (l : List UInt8) : ∃ ps, splitP b l = (cutP b l).1 :: ps ∧ (ps ≠ [] ↔ hasB l b = true) := by
  rcases cut_cases b l with h | ⟨x, c, y, rfl, h1, h2⟩
  · exact ⟨[], by rw [splitP_none h, cutP_none h], by rw [h]; simp⟩
  · refine ⟨splitP b y, by rw [splitP_some h1 h2, cutP_some h1 h2], ?_⟩
    rw [hasB_append, hasB_cons, h2]
    simp [splitP_ne]
theorem splitP_len (b : Int) : ∀ l : List UInt8, (splitP b l).length ≤ l.length + 1
  | [] => by simp [splitP]
  | c :: l => by
    have := splitP_len b l
    rw [splitP]
    split
    · simp; omega
    · have hn := splitP_ne b l
      split
      · rename_i p ps e; rw [e] at this; simp at *; omega
      · simp

/-- What the reference calls a good record. -/
def goodB (c r : List UInt8) : Bool := !c.isEmpty && plainB c 160 && !hasB c 64 && plainB r 200
/-- The line of a record. -/
def lineB (k : Int) (c r : List UInt8) : List UInt8 := sealB (Lib.itoa k ++ 32 :: (c ++ 64 :: r)) ++ [10]
/-- What 'EncodeRecord' gives. -/
def encB (k : Int) (c r : List UInt8) : List UInt8 × Bool := if inB k 0 59 && goodB c r then (lineB k c r, true) else ([], false)
/-- What 'AppendChecksum' gives. -/
def appB (l : List UInt8) : List UInt8 × Bool := if decide ((l.length : Int) ≤ 4000) && !hasB l 35 && decide (((sealB l).length : Int) ≤ 4000) then (sealB l, true) else ([], false)
theorem allB_has {l : List UInt8} (h : allB l = true) : hasB l 35 = false := by
  induction l with
  | nil => rfl
  | cons c l ih =>
    simp only [allB, List.all_cons, Bool.and_eq_true] at h
    rw [hasB_cons, ih h.2]
    have := h.1
    simp only [okB, Bool.and_eq_true, Bool.not_eq_true'] at this
    show (((c.toNat : Int) == 35) || false) = false
    rw [this.2]; rfl
theorem allB_append {l m : List UInt8} : allB (l ++ m) = (allB l && allB m) := by simp [allB]
theorem allB_nl {l : List UInt8} (h : allB l = true) : hasB l 10 = false := by
  induction l with
  | nil => rfl
  | cons c l ih =>
    simp only [allB, List.all_cons, Bool.and_eq_true] at h
    rw [hasB_cons, ih h.2]
    have := h.1
    simp only [okB, Bool.and_eq_true] at this
    have := inB_true.1 this.1
    unfold eqB
    simp; omega
theorem digits_all (n u : Nat) (h : u ≤ n) : allB (Lib.decDigits u) = true := by
  simp only [allB, List.all_eq_true]
  intro c hc
  have := decDigits_digit n u h c hc
  simp only [okB, Bool.and_eq_true, inB_true, Bool.not_eq_true']
  refine ⟨by omega, ?_⟩
  simp; omega
theorem itoa_all {k : Int} (h : 0 ≤ k) : allB (Lib.itoa k) = true := by
  rw [Lib.itoa, if_neg (by omega)]; exact digits_all _ _ (Nat.le_refl _)
theorem goodB_facts {c r : List UInt8} (h : goodB c r = true) : c ≠ [] ∧ allB c = true ∧ c.length ≤ 160 ∧ hasB c 64 = false ∧ allB r = true ∧ r.length ≤ 200 := by
  simp only [goodB, plainB, Bool.and_eq_true, Bool.not_eq_true', decide_eq_true_eq] at h
  obtain ⟨⟨⟨h1, h2, h3⟩, h4⟩, h5, h6⟩ := h
  exact ⟨by rintro rfl; simp at h1, h2, by omega, h4, h5, by omega⟩
theorem appB_good {k : Int} {c r : List UInt8} (h0 : 0 ≤ k) (h1 : k ≤ 59) (h : goodB c r = true) :
    appB (Lib.itoa k ++ 32 :: (c ++ 64 :: r)) = (sealB (Lib.itoa k ++ 32 :: (c ++ 64 :: r)), true) := by
  obtain ⟨_, g1, g2, _, g4, g5⟩ := goodB_facts h
  have hk := itoa_len h0 (by omega)
  have hn : (Lib.itoa k ++ 32 :: (c ++ 64 :: r)).length ≤ 368 := by simp; omega
  have hs := sealB_length (Lib.itoa k ++ 32 :: (c ++ 64 :: r))
  have hh : hasB (Lib.itoa k ++ 32 :: (c ++ 64 :: r)) 35 = false := by
    rw [hasB_append, hasB_cons, hasB_append, hasB_cons, allB_has (itoa_all h0), allB_has g1, allB_has g4]; rfl
  unfold appB
  rw [hh, decide_eq_true (by omega : (((Lib.itoa k ++ 32 :: (c ++ 64 :: r)).length : Nat) : Int) ≤ 4000), decide_eq_true (by omega : (((sealB (Lib.itoa k ++ 32 :: (c ++ 64 :: r))).length : Nat) : Int) ≤ 4000)]
  rfl

/-- What 'VerifyChecksum' gives. -/
def verB (l : List UInt8) : List UInt8 × Bool := if (appB (cutP 35 l).1).2 && (appB (cutP 35 l).1).1 == l then ((cutP 35 l).1, true) else ([], false)
end Go.Proofs.YtpiimlmfcdjbbaaGreatDoor

/- Plain facts: the text of a book. No program in sight. -/
namespace Go.Proofs.YtpiimlmfcdjbbaaGreatDoor

/-- The letter of a system. -/
def letB (s : Int) : List UInt8 := [if s = 1 then 114 else if s = 2 then 116 else if s = 3 then 108 else 112]
/-- The line of a record. -/
def recT (r : Rec) : List UInt8 := r.name ++ [32] ++ letB r.sys ++ [32] ++ Lib.itoa r.size ++ [32] ++ Lib.itoa r.extra ++ [10]
def textB (xs : List Rec) : List UInt8 := xs.flatMap recT
theorem letter {s : Int} (h1 : 1 ≤ s) (h4 : s ≤ 4) : (ByteArray.mk #[114, 116, 108, 112]).extract (s - 1).toNat s.toNat = ms (letB s) := by
  obtain rfl | rfl | rfl | rfl : s = 1 ∨ s = 2 ∨ s = 3 ∨ s = 4 := by omega
  all_goals rfl
theorem textB_succ {xs : List Rec} {k : Nat} (hk : k < xs.length) : textB (xs.take (k + 1)) = textB (xs.take k) ++ recT xs[k] := by
  unfold textB
  rw [List.take_succ_eq_append_getElem hk, List.flatMap_append]; simp
theorem inB_iff {x a b : Int} : inB x a b = true ↔ a ≤ x ∧ x ≤ b := by simp [inB]
theorem rec_parts {r : Rec} (h : recB r = true) : (1 ≤ r.name.length ∧ r.name.length ≤ 12) ∧ r.name.all nameC = true ∧ (1 ≤ r.sys ∧ r.sys ≤ 4) ∧ (1 ≤ r.size ∧ r.size ≤ 9999) ∧ (0 ≤ r.extra ∧ r.extra ≤ 9999) := by
  simp only [recB, nameB, Bool.and_eq_true, inB_iff] at h
  obtain ⟨⟨⟨⟨⟨a, b⟩, c⟩, d⟩, e⟩, f⟩ := h
  exact ⟨⟨by omega, by omega⟩, c, d, e, f⟩
theorem itoa_four {n : Int} (h0 : 0 ≤ n) (h1 : n ≤ 9999) : (Lib.itoa n).length ≤ 5 := by
  rw [Lib.itoa, if_neg (by omega)]; exact decDigits_len 4 _ (by omega)
theorem recT_len {r : Rec} (h : recB r = true) : (recT r).length ≤ 40 := by
  obtain ⟨h1, _, _, h3, h4⟩ := rec_parts h
  have e1 := itoa_four (n := r.size) (by omega) (by omega)
  have e2 := itoa_four h4.1 h4.2
  simp [recT, letB]; omega
theorem textB_len {xs : List Rec} (h : ∀ r ∈ xs, recB r = true) : (textB xs).length ≤ 40 * xs.length := by
  induction xs with
  | nil => simp [textB]
  | cons r xs ih =>
    have h1 := recT_len (h r (by simp))
    have h2 := ih fun r hr => h r (by simp [hr])
    unfold textB at h2 ⊢
    simp only [List.flatMap_cons, List.length_append, List.length_cons]; omega
theorem book_all {xs : List Rec} (h : bookB xs = true) : ∀ r ∈ xs, recB r = true := by
  intro r hr
  obtain ⟨i, hi, rfl⟩ := List.getElem_of_mem hr
  exact book_rec h i hi
theorem book_le {xs : List Rec} (h : bookB xs = true) : xs.length ≤ 24 := by
  unfold bookB at h
  rw [Bool.and_eq_true, decide_eq_true_eq] at h
  exact h.2
theorem take_len {xs : List Rec} (h : bookB xs = true) {k : Nat} (hk : k ≤ xs.length) : (textB (xs.take k)).length ≤ 960 := by
  have h1 := textB_len (xs := xs.take k) fun r hr => book_all h r (List.mem_of_mem_take hr)
  have h2 := book_le h
  rw [List.length_take] at h1
  omega
end Go.Proofs.YtpiimlmfcdjbbaaGreatDoor

/- Contracts: the bytes of a record, in the reference. -/
namespace Go.Proofs.YtpiimlmfcdjbbaaGreatDoor
open Go.RowKit

/- left out: the seat has no spec.l33Plain -/


/- left out: the seat has no spec.l33Good -/

/- left out: the seat has no spec.IsValidRecord -/

/- left out: the seat has no laws.toLogRecord -/

/- left out: the seat has no laws.szLogRecord -/
end Go.Proofs.YtpiimlmfcdjbbaaGreatDoor

/- Contracts: decimals, checksums and sealed strings, in the reference. -/
namespace Go.Proofs.YtpiimlmfcdjbbaaGreatDoor
open Go.RowKit

theorem ret_str {s t : ByteArray} (h : s = t) : Ending.returned (.string s) = .returned (.string t) := by rw [h]

/-- One decimal digit. -/
def dgB (n : Int) : List UInt8 := [UInt8.ofNat (48 + n.toNat)]
theorem dgB_length (n : Int) : (dgB n).length = 1 := rfl

theorem digit_int (n : Int) (h0 : 0 ≤ n) (h : n < 10) : (ByteArray.mk #[48, 49, 50, 51, 52, 53, 54, 55, 56, 57]).extract n.toNat (n + 1).toNat = ms (dgB n) := by
  unfold dgB
  rw [show (n + 1).toNat = n.toNat + 1 by omega]
  exact digit_at _ (by omega)

set_option maxHeartbeats 400000 in
theorem l1Num_nat (k : Nat) : ∀ (n : Int) (w : World), 0 ≤ n → n ≤ 1000000000000 → n.toNat ≤ k →
    Calls Tryz.prog 44 #[.int .i64 n] w fun e w' => e = .returned (.string (ms (Lib.decDigits n.toNat))) ∧ Below w.heap.size w w' := by
  induction k with
  | zero =>
    intro n w h0 hb hk
    have h : n < 10 := by omega
    go_enter Tryz.func44, Tryz.ntmps44
    go_wp2_with fail
    go_ret
    exact ⟨ret_str (by rw [Lib.decDigits, dif_pos (by omega)]; exact digit_int n h0 h), bb _⟩
  | succ k ih =>
    intro n w h0 hb hk
    by_cases h : n < 10
    · go_enter Tryz.func44, Tryz.ntmps44
      go_wp2_with fail
      go_ret
      exact ⟨ret_str (by rw [Lib.decDigits, dif_pos (by omega)]; exact digit_int n h0 h), bb _⟩
    · have hl : (Lib.decDigits (n / 10).toNat).length ≤ 13 := decDigits_len 12 _ (by omega)
      have hm1 : 0 ≤ n % 10 := by omega
      have hm2 : n % 10 < 10 := by omega
      have e4 := digit_int (n % 10) hm1 hm2
      have e5 := fun w => run_add (P := Tryz.prog) w (ms (Lib.decDigits (n / 10).toNat)) (ms (dgB (n % 10))) (by rw [ms_size, ms_size, dgB_length]; omega)
      have e6 : Hid (bl (ms (Lib.decDigits (n / 10).toNat)) ++ bl (ms (dgB (n % 10))) = Lib.decDigits n.toNat) := by
        rw [bl_ms, bl_ms, decDigits_big (u := n.toNat) (by omega)]
        unfold Hid dgB
        rw [show n.toNat / 10 = (n / 10).toNat by omega, show n.toNat % 10 = (n % 10).toNat by omega]
      have q1 : 0 ≤ n / 10 := by omega
      have q2 : n / 10 ≤ 1000000000000 := by omega
      have q3 : (n / 10).toNat ≤ k := by omega
      have e1 : IntKind.i64.wrap (n.tdiv 10) = n / 10 := by rw [Int.tdiv_eq_ediv_of_nonneg h0]; exact IntWalk.i64_in _ (by omega)
      have e2 : IntKind.i64.wrap (n.tmod 10) = n % 10 := by rw [Int.tmod_eq_emod_of_nonneg h0]; exact IntWalk.i64_in _ (by clear e1; omega)
      have e3 : IntKind.i64.wrap (n % 10 + 1) = n % 10 + 1 := IntWalk.i64_in _ (by clear e1 e2; omega)
      go_enter Tryz.func44, Tryz.ntmps44
      go_wp2_with fail
      refine wp_region_quiet_below (by kernel_rfl) (by kernel_rfl) ?_
      repeat (any_goals (first | go_big_quiet_step ((go_at_call 44; exact Calls.regrown_of (ih (n / 10) _ q1 q2 q3))) | quiet_step ((go_at_call 44; exact Calls.regrown_of (ih (n / 10) _ q1 q2 q3)))))
      refine wpQuiet_nil ?_
      rintro w1 ⟨p, rfl⟩
      go_wp2_with fail
      go_ret
      exact ⟨ret_str (congrArg ms e6.out), below_regrown _ _ _⟩

theorem l1Num_pos (n : Int) (w : World) (h0 : 0 ≤ n) (h1 : n ≤ 1000000000000) :
    Calls Tryz.prog 44 #[.int .i64 n] w fun e w' => e = .returned (.string (ms (Lib.itoa n))) ∧ Below w.heap.size w w' := by
  have e : Lib.itoa n = Lib.decDigits n.toNat := by rw [Lib.itoa, if_neg (by omega)]
  rw [e]
  exact l1Num_nat n.toNat n w h0 h1 (Nat.le_refl _)

set_option maxHeartbeats 400000 in
theorem l1Num_any (n : Int) (w : World) (h0 : -1000000000000 ≤ n) (h1 : n ≤ 1000000000000) :
    Calls Tryz.prog 44 #[.int .i64 n] w fun e w' => e = .returned (.string (ms (Lib.itoa n))) ∧ Below w.heap.size w w' := by
  by_cases hn : n < 0
  · have hl : (Lib.itoa (-n)).length ≤ 13 := by
      rw [Lib.itoa, if_neg (by omega)]; exact decDigits_len 12 _ (by omega)
    have e6 : Hid (45 :: Lib.itoa (-n) = Lib.itoa n) := by
      unfold Hid
      rw [Lib.itoa, if_neg (by omega), Lib.itoa, if_pos hn, show n.natAbs = (-n).toNat by omega]
    go_enter Tryz.func44, Tryz.ntmps44
    go_wp2_with (go_at_call 44; refine (l1Num_pos (-n) _ (by omega) (by omega)).mono ?_; rintro e w1 ⟨rfl, hb1⟩)
    go_ret
    exact ⟨ret_str (by apply bl_inj; rw [bl_ms, ← e6.out]; simp [bl_append, bl_ms, bl_lit]), by assumption⟩
  · exact l1Num_pos n w (by omega) h1

/- left out: the seat has no spec.l1Sum -/

/- left out: the seat has no spec.l1Seal -/

/- left out: the seat has no spec.l33Line -/

/- left out: the seat has no spec.EncodeRecord -/
end Go.Proofs.YtpiimlmfcdjbbaaGreatDoor

/- Contracts: the text of a book, in the reference. -/
namespace Go.Proofs.YtpiimlmfcdjbbaaGreatDoor
open Go.RowKit

theorem bookGood_at {v : Value} {xs : List Rec} {F : List Nat} {w : World} {q : Bool} (hx : rcTy.row false w v xs F) (h : bookB xs = q) :
    Calls Tryz.prog 20 #[v] w fun e w' => e = .returned (.bool q) ∧ Below w.heap.size w w' := h ▸ l31Good_any v xs F w hx
theorem bookIs_at {v : Value} {xs : List Rec} {F : List Nat} {w : World} {q : Bool} (hx : rcTy.row false w v xs F) (h : bookB xs = q) :
    Calls Tryz.prog 8 #[v] w fun e w' => e = .returned (.bool q) ∧ Below w.heap.size w w' := h ▸ isBook_any v xs F w hx
theorem l1Num_at (n : Int) (h : 0 ≤ n ∧ n ≤ 9999) (w : World) :
    Calls Tryz.prog 44 #[.int .i64 n] w fun e w' => e = .returned (.string (ms (Lib.itoa n))) ∧ Below w.heap.size w w' := l1Num_pos n w h.1 (by omega)

set_option maxRecDepth 100000 in
set_option maxHeartbeats 4000000 in
theorem l31Text_any (v : Value) (xs : List Rec) (F : List Nat) (w : World) (hx : rcTy.row false w v xs F) (hb : bookB xs = true) :
    Calls Tryz.prog 37 #[v] w fun e w' => e = .returned (.string (ms (textB xs))) ∧ Below w.heap.size w w' := by
  obtain ⟨a, c, rfl, hx1, hx2, hg, hx3⟩ := row_rc hx
  clear hx
  go_enter Tryz.func37, Tryz.ntmps37
  go_wp2_with fail
  go_loopw [3, 4] (fun s i wr => ∃ k : Nat, k ≤ xs.length ∧ i = .int .i64 k ∧ s = .string (ms (textB (xs.take k))) ∧ Hid (Below w.heap.size w wr)) (fun _ i _ => xs.length - (intOf i).toNat)
  case atStart => exact ⟨0, Nat.zero_le _, rfl, rfl, bb _⟩
  case round =>
    obtain ⟨k, hk, rfl, rfl, HB⟩ := hrel
    by_cases hlt : k < xs.length
    · rcases hx3 with ⟨rfl, rfl⟩ | ⟨hxn, b, off, rfl, rfl, hxc⟩
      · exact absurd hlt (by simp)
      obtain ⟨p0, p1, p2, p3⟩ := hxc k hlt
      have hp := HB.out.block b p0.lt
      have k0 := (p0.keep hp).1
      have k1 := (p1.keep hp).1
      have k2 := (p2.keep hp).1
      have k3 := (p3.keep hp).1
      have hrk := book_all hb xs[k] (List.getElem_mem hlt)
      obtain ⟨⟨n0, n1⟩, _, ⟨s0, s1⟩, hz, he⟩ := rec_parts hrk
      have hl := take_len hb (Nat.le_of_lt hlt)
      have ht := Lib.hid (textB_succ hlt)
      have hlet := Lib.hid (letter s0 s1)
      have l1 := itoa_four (n := xs[k].size) (by omega) (by omega)
      have l2 := itoa_four he.1 he.2
      have S1 := (Sp.of_below HB.out).alloc_box #[.string (ms xs[k].name), .int .i64 xs[k].sys, .int .i64 xs[k].size, .int .i64 xs[k].extra] 30
      have b0 := cell_regrown (S1.cell (i := 0) rfl (o := 0) rfl)
      have b1 := cell_regrown (S1.cell (i := 0) rfl (o := 1) rfl)
      have b2 := cell_regrown (S1.cell (i := 0) rfl (o := 2) rfl)
      have b3 := cell_regrown (S1.cell (i := 0) rfl (o := 3) rfl)
      have hS := Lib.hid S1.below
      clear S1 p0 p1 p2 p3 hp hrk hb hxc hg
      obtain ⟨T, hT⟩ : ∃ T, textB (xs.take k) = T := ⟨_, rfl⟩
      rw [hT] at hl ht ⊢
      clear hT
      generalize xs[k] = r at *
      obtain ⟨nm, sy, sz, ex⟩ := r
      dsimp only at *
      go_wp2_with fail
      refine wp_region_quiet_below (by kernel_rfl) (by kernel_rfl) ?_
      repeat (any_goals (first | go_big_quiet_step ((go_at_call 44; first | (with_reducible exact Calls.regrown_of (l1Num_at sz (And.intro (by omega) (by omega)) _)) | (with_reducible exact Calls.regrown_of (l1Num_at ex he _))))))
      refine wpQuiet_nil ?_
      rintro w1 ⟨p, rfl⟩
      go_wp2_with fail
      go_roundw
      case rel =>
        refine ⟨k + 1, by omega, by go_num, ?_, hS.out.trans ((below_regrown _ _ _).mono hS.out.size)⟩
        have e1 := hlet.out
        refine congrArg Value.string ?_
        apply bl_inj
        rw [bl_ms, ht.out]
        simp [bl_append, bl_ms, bl_lit, recT]
        rw [show sy.toNat - 1 = (sy - 1).toNat by omega, e1, bl_ms]
      case measure => simp [intOf]; omega
    · obtain rfl : k = xs.length := by omega
      go_wp2_with fail
      go_ret
      exact ⟨ret_str (by rw [List.take_length]), HB.out⟩

set_option maxHeartbeats 1000000 in
theorem specBookText_any (v : Value) (xs : List Rec) (F : List Nat) (w : World) (hx : rcTy.row false w v xs F) :
    Calls Tryz.prog 14 #[v] w fun e w' => e = .returned (.tuple #[.string (ms (if bookB xs then textB xs else [])), .bool (bookB xs)]) ∧ Below w.heap.size w w' := by
  obtain ⟨a, c, rfl, _⟩ := row_rc hx
  cases hb : bookB xs
  · go_enter Tryz.func14, Tryz.ntmps14
    go_wp2_with (go_at_call 20; refine (bookGood_at hx hb).mono ?_; rintro e w1 ⟨rfl, hb1⟩)
    go_ret2
    exact ⟨rfl, hb1⟩
  · have hx2 := fun w1 (hb1 : Below w.heap.size w w1) => Ty.row_below hx hb1 (Ty.row_lt hx)
    go_enter Tryz.func14, Tryz.ntmps14
    go_wp2_with (go_at_call 20; refine (bookGood_at hx hb).mono ?_; rintro e w1 ⟨rfl, hb1⟩)
    go_at_call 37
    refine (l31Text_any _ xs F _ (hx2 _ hb1) hb).mono ?_
    rintro e w2 ⟨rfl, hb2⟩
    go_wp2_with fail
    go_ret2
    exact ⟨rfl, btr hb1 hb2⟩
end Go.Proofs.YtpiimlmfcdjbbaaGreatDoor

/- Contract: a book that is drawn. -/
namespace Go.Proofs.YtpiimlmfcdjbbaaGreatDoor
open Go.RowKit

theorem CS.pick {w0 w : World} {g cl cc A : Nat} {ca : Option Addr} {ps qs : List Asn} (is : List Nat) (h : CS w0 g ca cl cc A w ps) (hq : pickQ is ps = some qs) : CS w0 g ca cl cc A w qs := by
  obtain ⟨h0, h1, h2, F, h3, h4⟩ := h
  obtain ⟨F', h5, h6⟩ := sep_pick h3 hq
  exact ⟨h0, h1, h2, F', h5, fun b hb => h4 b (h6 b hb)⟩
def OkI (d : List Int) : Prop := ∀ x ∈ d, I64 x
theorem flat4_fld {ys : List Rec} {k o : Nat} {u : Value} {r : Rec} (hk : k < ys.length) (ho : o < 4) (hr : (rcEnc ys[k]).set o u = rcEnc r) : (ys.flatMap rcEnc).set (k * 4 + o) u = (ys.set k r).flatMap rcEnc := by
  have e : ys.flatMap rcEnc = (ys.take k).flatMap rcEnc ++ (rcEnc ys[k] ++ (ys.drop (k + 1)).flatMap rcEnc) := by
    rw [← List.flatMap_cons, List.getElem_cons_drop, ← List.flatMap_append, List.take_append_drop]
  have hl : ((ys.take k).flatMap rcEnc).length = k * 4 := by rw [flat4_len, List.length_take]; omega
  have e2 : (ys.set k r).flatMap rcEnc = (ys.take k).flatMap rcEnc ++ (rcEnc r ++ (ys.drop (k + 1)).flatMap rcEnc) := by
    rw [List.set_eq_take_append_cons_drop, if_pos hk, List.flatMap_append, List.flatMap_cons]
  rw [e, e2, List.set_append_right _ _ (by omega), hl, Nat.add_sub_cancel_left, List.set_append_left _ _ (by simpa [rcEnc] using ho), hr]
theorem set_ok {ys : List Rec} {k : Nat} {r : Rec} (h : ∀ x ∈ ys, rcOk x) (hr : rcOk r) : ∀ x ∈ ys.set k r, rcOk x := fun x hx => by
  rcases List.mem_or_eq_of_mem_set hx with h1 | rfl
  · exact h x h1
  · exact hr
theorem recs_form {w : World} {B : Nat} {A : Option Addr} {n c : Nat} {cells : List Value} {e : TypeId} {size : Nat} (h : w.ownsRow B e size (.slice A n c) n cells) : A = none ∨ ∃ b off, A = some ⟨b, off, none⟩ := by
  rcases Nat.eq_zero_or_pos n with h0 | h0
  · obtain ⟨-, ⟨e1, -⟩ | ⟨g, cap, cur, e1, -⟩⟩ := h
    · simp only [Value.slice.injEq] at e1
      exact .inl e1.1
    · simp only [Value.slice.injEq] at e1
      exact .inr ⟨_, _, e1.1⟩
  · obtain ⟨g, cap, cur, e1, -⟩ := own_block h h0
    simp only [Value.slice.injEq] at e1
    exact .inr ⟨_, _, e1.1⟩
theorem CS.recs {w0 w : World} {g cl cc A : Nat} {ca : Option Addr} {ps : List Asn} {i : Nat} {v : Value} {ys : List Rec} (h : CS w0 g ca cl cc A w ps) (hi : ps[i]? = some (Recs v ys)) (hg : ∀ y ∈ ys, rcOk y) :
    ∃ F, rcTy.row true w v ys F := by
  have ho := h.own hi
  obtain ⟨F, hr, -, -⟩ := Ty.row_of_owns (T := rcTy) (xs := ys) (G := []) ho rfl (by decide) (flat_all.2 ⟨rfl, hg, rfl⟩)
  exact ⟨F, hr⟩
theorem rec_ok_book {xs : List Rec} (h : bookB xs = true) : ∀ x ∈ xs, rcOk x := fun r hr => by
  obtain ⟨i, hi, rfl⟩ := List.getElem_of_mem hr
  have h1 := book_rec h i hi
  simp only [recB, nameB, Bool.and_eq_true, inB_true] at h1
  obtain ⟨⟨⟨⟨⟨a, b⟩, c⟩, d⟩, e⟩, f⟩ := h1
  refine ⟨?_, ⟨?_, ?_⟩, ⟨?_, ?_⟩, ⟨?_, ?_⟩⟩ <;> omega

set_option maxRecDepth 100000 in
set_option maxHeartbeats 16000000 in
theorem cur_book (A g : Nat) (ca : Option Addr) (cl cc : Nat) (w : World) (h : CurIs A g ca cl cc w) (hA : A ≤ 1000000) :
    Calls Tryz.prog 17 #[.pointer (some ⟨g, 0, none⟩)] w fun e w' => ∃ v xs, e = .returned v ∧ xs.length ≤ 30 ∧ (∀ x ∈ xs, rcOk x) ∧ CS w g ca cl cc (A + 300) w' [Recs v xs] := by
  obtain ⟨i0, hi0, hz0, hz1, hz2⟩ := info_parts infoRc
  have hg := h.lt
  have S0 := Lib.hid (((CS.start h).own_made 30 4).alloc_box #[.int .i64 0, .int .i64 1, .int .i64 2, .int .i64 3, .int .i64 5, .int .i64 7] 3)
  go_enter Tryz.func17, Tryz.ntmps17
  go_wp2_with fail
  refine (cur_among 0 7 (w.heap.size + 1) 0 6 6 A g ca cl cc _ S0.out.cur (by omega) (by decide) (by decide) (fun j hj => ?hc) (by omega)).mono ?_
  case hc =>
    rw [Nat.zero_add]
    have S := S0.out
    simp only [World.size_alloc] at S
    match j, hj with
    | 0, _ => exact ⟨_, by decide, by decide, S.cell (i := 0) rfl rfl⟩
    | 1, _ => exact ⟨_, by decide, by decide, S.cell (i := 0) rfl rfl⟩
    | 2, _ => exact ⟨_, by decide, by decide, S.cell (i := 0) rfl rfl⟩
    | 3, _ => exact ⟨_, by decide, by decide, S.cell (i := 0) rfl rfl⟩
    | 4, _ => exact ⟨_, by decide, by decide, S.cell (i := 0) rfl rfl⟩
    | 5, _ => exact ⟨_, by decide, by decide, S.cell (i := 0) rfl rfl⟩
  rintro e w1 ⟨_, ⟨x, hx0, hx1, rfl⟩, rfl, hi1, hc1⟩
  have S1 := Lib.hid (S0.out.tail.turn hi1 hc1)
  clear S0 hi1 hc1
  obtain ⟨N, rfl⟩ := Int.eq_ofNat_of_zero_le hx0
  go_wp2_with fail
  go_loopw [3, 4] (fun vo vn wr => ∃ (A0 : Option Addr) (c0 : Nat) (xs : List Rec) (n : Nat), vn = .int .i64 n ∧ n ≤ 7 ∧ vo = .slice A0 xs.length c0 ∧ Hid (bookB xs = true) ∧ Hid (CS w g ca cl cc (A + 2 + (7 - n) * 10) wr [Recs (.slice A0 xs.length c0) xs])) (fun _ vn _ => (intOf vn).toNat)
  case atStart => exact ⟨_, _, [], N, rfl, by omega, rfl, rfl, S1.out.mono (by omega)⟩
  case round =>
    obtain ⟨A0, c0, xs, n, rfl, hn, rfl, hb, HS⟩ := hrel
    clear S1
    by_cases hn0 : 0 < n
    · have hn1 : (0 : Int) < (n : Int) := by omega
      go_wp2_with fail
      refine (cur_name31 _ g ca cl cc _ HS.out.cur (by omega)).mono ?_
      rintro e w2 ⟨_, ⟨nm, hnm, rfl⟩, rfl, hi2, hc2⟩
      have S2 := Lib.hid (HS.out.turn hi2 hc2)
      clear HS hi2 hc2
      go_wp2_with fail
      refine (cur_pick_at (lo := 0) (hi := 3) S2.out.cur (by omega) (by omega) (by omega) (by omega) (by omega)).mono ?_
      rintro e w3 ⟨_, ⟨y1, hy1, hy1', rfl⟩, rfl, hi3, hc3⟩
      have S3 := Lib.hid (S2.out.turn hi3 hc3)
      clear S2 hi3 hc3
      go_wp2_with fail
      refine (cur_pick_at (lo := 0) (hi := 19) S3.out.cur (by omega) (by omega) (by omega) (by omega) (by omega)).mono ?_
      rintro e w4 ⟨_, ⟨y2, hy2, hy2', rfl⟩, rfl, hi4, hc4⟩
      have S4 := Lib.hid (S3.out.turn hi4 hc4)
      clear S3 hi4 hc4
      go_wp2_with fail
      refine (cur_pick_at (lo := 0) (hi := 5) S4.out.cur (by omega) (by omega) (by omega) (by omega) (by omega)).mono ?_
      rintro e w5 ⟨_, ⟨y3, hy3, hy3', rfl⟩, rfl, hi5, hc5⟩
      have S5 := Lib.hid (S4.out.turn hi5 hc5)
      clear S4 hi5 hc5
      have hw1 : IntKind.i64.wrap (1 + y1) = 1 + y1 := IntWalk.i64_in _ (by omega)
      have hw2 : IntKind.i64.wrap (1 + y2) = 1 + y2 := IntWalk.i64_in _ (by omega)
      have hok : rcOk ⟨bl nm, 1 + y1, 1 + y2, y3⟩ := by
        unfold NmLe at hnm
        refine ⟨by rw [bl_length]; omega, ⟨?_, ?_⟩, ⟨?_, ?_⟩, ⟨?_, ?_⟩⟩ <;> dsimp only <;> omega
      have S6 := S5.out.alloc_box #[.string nm, .int .i64 (1 + y1), .int .i64 (1 + y2), .int .i64 y3] 30
      obtain ⟨Fx, hrx⟩ := S6.recs (i := 1) rfl (rec_ok_book hb.out)
      have hent := l31Enter_any A0 c0 xs ⟨bl nm, 1 + y1, 1 + y2, y3⟩ Fx _ (row_read hrx) (recs_form (S6.own (i := 1) rfl)) hok (by have := book_le' hb.out; omega)
      rw [show rcV ⟨bl nm, 1 + y1, 1 + y2, y3⟩ = .agg #[.string nm, .int .i64 (1 + y1), .int .i64 (1 + y2), .int .i64 y3] by unfold rcV; simp only [ms_bl]] at hent
      replace S6 := Lib.hid S6
      clear hrx S5 hw1 hw2
      have hl6 := book_le' hb.out
      cases hq : bookB (entR xs ⟨bl nm, 1 + y1, 1 + y2, y3⟩)
      · rw [entO_no hq] at hent
        clear hq
        go_wp2_with (go_at_call 21; refine hent.mono ?_; rintro e w6 ⟨A6, c6, rfl, S7⟩)
        have S8 := Lib.hid (((S6.out.seq S7).pick [2] rfl).mono (A' := A + 2 + (7 - (n - 1)) * 10) (by omega))
        clear S6 S7 hent
        go_wp2_with fail
        go_roundw
        case rel => exact ⟨A0, c0, xs, n - 1, by go_num, by omega, rfl, hb, S8⟩
        case measure => simp [intOf]; omega
      · rw [entO_yes hq] at hent
        replace hq := Lib.hid hq
        generalize entR xs ⟨bl nm, 1 + y1, 1 + y2, y3⟩ = ys at hq hent
        go_wp2_with (go_at_call 21; refine hent.mono ?_; rintro e w6 ⟨A6, c6, rfl, S7⟩)
        have S8 := Lib.hid (((S6.out.seq S7).pick [0] rfl).mono (A' := A + 2 + (7 - (n - 1)) * 10) (by omega))
        clear S6 S7 hent
        go_wp2_with fail
        go_roundw
        case rel => exact ⟨A6, c6, ys, n - 1, by go_num, by omega, rfl, hq, S8⟩
        case measure => simp [intOf]; omega
    · obtain rfl : n = 0 := by omega
      have S1 := Lib.hid (HS.out.mono (A' := A + 72) (by omega))
      clear HS
      go_upto_if 41 with (refine (cur_one 20 _ g ca cl cc _ S1.out.cur (by omega) (by omega)).mono ?_; rintro e w2 ⟨_, ⟨q1, rfl⟩, rfl, hi2, hc2⟩; have S2 := Lib.hid (S1.out.turn hi2 hc2); clear S1 hi2 hc2)
      go_cut [3] (fun v3 wx => ∃ (A0 : Option Addr) (c0 : Nat) (xs : List Rec), v3 = .slice A0 xs.length c0 ∧ Hid (bookB xs = true) ∧ Hid (CS w g ca cl cc (A + 74) wx [Recs (.slice A0 xs.length c0) xs]))
      case first =>
        cases q1
        · go_wp2_with fail
          go_meet
          exact ⟨A0, c0, xs, rfl, hb, S2⟩
        go_wp2_with fail
        go_loopw [3, 8] (fun vo vn wr => ∃ (A0 : Option Addr) (c0 : Nat) (xs : List Rec) (n : Nat), vn = .int .i64 n ∧ n ≤ 6 ∧ vo = .slice A0 xs.length c0 ∧ Hid (bookB xs = true) ∧ Hid (CS w g ca cl cc (A + 74) wr [Recs (.slice A0 xs.length c0) xs])) (fun _ vn _ => 6 - (intOf vn).toNat)
        case atStart => exact ⟨A0, c0, xs, 0, rfl, by omega, rfl, hb, S2⟩
        case round =>
          obtain ⟨A1, c1, ys, n, rfl, hn, rfl, hb1, HS⟩ := hrel
          clear S2 hb
          by_cases hn6 : n < 6
          · have hn6' : (n : Int) < 6 := by omega
            go_wp2_with fail
            go_loopw [3, 9] (fun vo vn wr => ∃ (A0 : Option Addr) (c0 : Nat) (xs : List Rec) (k : Nat), vn = .int .i64 k ∧ 1 ≤ k ∧ k ≤ 5 ∧ vo = .slice A0 xs.length c0 ∧ Hid (bookB xs = true) ∧ Hid (CS w g ca cl cc (A + 74) wr [Recs (.slice A0 xs.length c0) xs])) (fun _ vn _ => 5 - (intOf vn).toNat)
            case atStart => exact ⟨A1, c1, ys, 1, rfl, by omega, by omega, rfl, hb1, HS⟩
            case round =>
              obtain ⟨A2, c2, zs, k, rfl, hk1, hk5, rfl, hb2, HS2⟩ := hrel
              clear HS hb1
              by_cases hk4 : k ≤ 4
              · have hk4' : (k : Int) ≤ 4 := by omega
                have hnum := l1Num_at (n : Int) (by omega) wr
                have hil := itoa_four (n := (n : Int)) (by omega) (by omega)
                obtain ⟨T, hT⟩ : ∃ T, ms (Lib.itoa (n : Int)) = T := ⟨_, rfl⟩
                rw [hT] at hnum
                have hTl : T.size ≤ 5 := by rw [← hT, ← bl_length, bl_ms]; exact hil
                clear hT hil
                go_wp2_with fail
                refine hnum.mono ?_
                rintro e w6 ⟨rfl, hb6⟩
                have S6 := HS2.out.grow hb6
                have hok : rcOk ⟨bl (⟨#[113]⟩ ++ T), k, 9999, 9999⟩ := by
                  refine ⟨by rw [bl_length, ByteArray.size_append]; show 1 + T.size ≤ _; omega, ⟨?_, ?_⟩, ⟨?_, ?_⟩, ⟨?_, ?_⟩⟩ <;> dsimp only <;> omega
                obtain ⟨Fx, hrx⟩ := S6.recs (i := 0) rfl (rec_ok_book hb2.out)
                have hent := l31Enter_any A2 c2 zs ⟨bl (⟨#[113]⟩ ++ T), k, 9999, 9999⟩ Fx _ (row_read hrx) (recs_form (S6.own (i := 0) rfl)) hok (by have := book_le' hb2.out; omega)
                rw [show rcV ⟨bl (⟨#[113]⟩ ++ T), k, 9999, 9999⟩ = .agg #[.string (⟨#[113]⟩ ++ T), .int .i64 k, .int .i64 9999, .int .i64 9999] by unfold rcV; simp only [ms_bl]] at hent
                replace S6 := Lib.hid S6
                clear hrx HS2 hb6 hnum
                cases hq : bookB (entR zs ⟨bl (⟨#[113]⟩ ++ T), k, 9999, 9999⟩)
                · rw [entO_no hq] at hent
                  clear hq
                  go_wp2_with (go_at_call 21; refine hent.mono ?_; rintro e w7 ⟨A6, c6, rfl, S7⟩)
                  have S8 := Lib.hid ((S6.out.seq S7).pick [1] rfl)
                  clear S6 S7 hent
                  go_wp2_with fail
                  go_roundw
                  case rel => exact ⟨A2, c2, zs, k + 1, by go_num, by omega, by omega, rfl, hb2, S8⟩
                  case measure => simp [intOf]; omega
                · rw [entO_yes hq] at hent
                  replace hq := Lib.hid hq
                  generalize entR zs ⟨bl (⟨#[113]⟩ ++ T), k, 9999, 9999⟩ = ys at hq hent
                  go_wp2_with (go_at_call 21; refine hent.mono ?_; rintro e w7 ⟨A6, c6, rfl, S7⟩)
                  have S8 := Lib.hid ((S6.out.seq S7).pick [0] rfl)
                  clear S6 S7 hent
                  go_wp2_with fail
                  go_roundw
                  case rel => exact ⟨A6, c6, ys, k + 1, by go_num, by omega, by omega, rfl, hq, S8⟩
                  case measure => simp [intOf]; omega
              · have hk4' : ¬ (k : Int) ≤ 4 := by omega
                go_wp2_with fail
                go_roundw
                case rel => exact ⟨A2, c2, zs, n + 1, by go_num, by omega, rfl, hb2, HS2⟩
                case measure => simp [intOf]; omega
          · have hn6' : ¬ (n : Int) < 6 := by omega
            go_wp2_with fail
            go_meet
            exact ⟨A1, c1, ys, rfl, hb1, HS⟩
      case rest =>
        obtain ⟨A1, c1, ys, rfl, hb1, HS⟩ := hcut
        clear S2 hb
        have h24 := book_le' hb1.out
        have hok1 := rec_ok_book hb1.out
        by_cases h0 : ys.length = 0
        · obtain rfl := List.length_eq_zero_iff.1 h0
          go_wp2_with fail
          go_ret
          exact ⟨_, [], rfl, by simp, by simp, HS.out.mono (by omega)⟩
        have h0' : ((ys.length : Int) == 0) = false := by rw [beq_eq_false_iff_ne]; omega
        go_wp2_with fail
        refine (cur_pick_at (lo := 0) (hi := (ys.length : Int) - 1) HS.out.cur (by omega) (by omega) (by omega) (by omega) (by omega)).mono ?_
        rintro e w3 ⟨_, ⟨y1, hy1, hy1', rfl⟩, rfl, hi3, hc3⟩
        have S3 := Lib.hid (HS.out.turn hi3 hc3)
        clear HS hi3 hc3
        obtain ⟨k, rfl⟩ := Int.eq_ofNat_of_zero_le hy1
        have hk : k < ys.length := by omega
        go_wp2_with fail
        refine (cur_pick_at (lo := 0) (hi := 19) S3.out.cur (by omega) (by omega) (by omega) (by omega) (by omega)).mono ?_
        rintro e w4 ⟨_, ⟨y2, hy2, hy2', rfl⟩, rfl, hi4, hc4⟩
        have S4 := Lib.hid (S3.out.turn hi4 hc4)
        clear S3 hi4 hc4
        by_cases e0 : y2 = 0
        · subst e0
          obtain ⟨gx, capx, curx, ex, -, hgx, hnx, hmx, hcx, htx⟩ := own_block (S4.out.own (i := 0) rfl) (by omega)
          simp only [Value.slice.injEq] at ex
          obtain ⟨rfl, -, rfl⟩ := ex
          have hw4 := S4.out.chg.size
          have S5 := Lib.hid (S4.out.alloc_box #[.int .i64 0, .int .i64 5, .int .i64 1] 3)
          clear S4 hgx hcx htx
          go_wp2_with fail
          refine (cur_among (0) 5 w4.heap.size 0 3 3 _ g ca cl cc _ S5.out.cur (by omega) (by decide) (by decide) (fun j hj => ?hc) (by omega)).mono ?_
          case hc =>
            rw [Nat.zero_add]
            have S := S5.out
            match j, hj with
            | 0, _ => exact ⟨_, by decide, by decide, S.cell (i := 0) rfl rfl⟩
            | 1, _ => exact ⟨_, by decide, by decide, S.cell (i := 0) rfl rfl⟩
            | 2, _ => exact ⟨_, by decide, by decide, S.cell (i := 0) rfl rfl⟩
          rintro e w6 ⟨_, ⟨z, hz0, hz1, rfl⟩, rfl, hi6, hc6⟩
          have S6 := S5.out.tail.turn hi6 hc6
          obtain ⟨gy, capy, cury, ey, -, hgy, hny, hmy, hcy, hty⟩ := own_block (S6.own (i := 0) rfl) (by omega)
          simp only [Value.slice.injEq, Option.some.injEq, Addr.mk.injEq] at ey
          obtain ⟨⟨rfl, -, -⟩, -, rfl⟩ := ey
          have hcell := own_at hgy hty (o := k * 4 + 1) (by omega)
          have hc0 := hcell.1
          have hc1 := hcell.2
          obtain ⟨u0, hu0⟩ : ∃ u, (ys.flatMap rcEnc)[k * 4 + 1]? = some u := ⟨_, List.getElem?_eq_getElem (by rw [flat4_len]; omega)⟩
          rw [hu0] at hc0
          have S7 := S6.own_put (i := 0) rfl (.int .i64 z) (show k * 4 + 1 < ys.length * 4 by omega)
          have hrk := hok1 _ (List.getElem_mem hk)
          rw [flat4_fld (r := { ys[k] with sys := z }) hk (by decide) rfl] at S7
          have hok2 := set_ok (k := k) hok1 (r := { ys[k] with sys := z }) (by obtain ⟨a1, a2, a3, a4⟩ := hrk; exact ⟨a1, ⟨by dsimp only; omega, by dsimp only; omega⟩, a3, a4⟩)
          have hl2 : (ys.set k { ys[k] with sys := z }).length = ys.length := List.length_set
          have hkI : (k : Int) < (ys.length : Int) := by omega
          replace S7 := Lib.hid S7
          clear S5 S6 hi6 hc6 hgy hcy hty hcell hrk
          go_wp2_with fail
          go_ret
          refine ⟨_, _, rfl, by rw [hl2]; omega, hok2, ?_⟩
          unfold Recs
          rw [hl2]
          exact S7.out.mono (by omega)
        by_cases e1 : y2 = 1
        · subst e1
          obtain ⟨gx, capx, curx, ex, -, hgx, hnx, hmx, hcx, htx⟩ := own_block (S4.out.own (i := 0) rfl) (by omega)
          simp only [Value.slice.injEq] at ex
          obtain ⟨rfl, -, rfl⟩ := ex
          have hw4 := S4.out.chg.size
          have S5 := Lib.hid (S4.out.alloc_box #[.int .i64 0, .int .i64 10000, .int .i64 (-1), .int .i64 9999] 3)
          clear S4 hgx hcx htx
          go_wp2_with fail
          refine (cur_among (-1) 10000 w4.heap.size 0 4 4 _ g ca cl cc _ S5.out.cur (by omega) (by decide) (by decide) (fun j hj => ?hc) (by omega)).mono ?_
          case hc =>
            rw [Nat.zero_add]
            have S := S5.out
            match j, hj with
            | 0, _ => exact ⟨_, by decide, by decide, S.cell (i := 0) rfl rfl⟩
            | 1, _ => exact ⟨_, by decide, by decide, S.cell (i := 0) rfl rfl⟩
            | 2, _ => exact ⟨_, by decide, by decide, S.cell (i := 0) rfl rfl⟩
            | 3, _ => exact ⟨_, by decide, by decide, S.cell (i := 0) rfl rfl⟩
          rintro e w6 ⟨_, ⟨z, hz0, hz1, rfl⟩, rfl, hi6, hc6⟩
          have S6 := S5.out.tail.turn hi6 hc6
          obtain ⟨gy, capy, cury, ey, -, hgy, hny, hmy, hcy, hty⟩ := own_block (S6.own (i := 0) rfl) (by omega)
          simp only [Value.slice.injEq, Option.some.injEq, Addr.mk.injEq] at ey
          obtain ⟨⟨rfl, -, -⟩, -, rfl⟩ := ey
          have hcell := own_at hgy hty (o := k * 4 + 2) (by omega)
          have hc0 := hcell.1
          have hc1 := hcell.2
          obtain ⟨u0, hu0⟩ : ∃ u, (ys.flatMap rcEnc)[k * 4 + 2]? = some u := ⟨_, List.getElem?_eq_getElem (by rw [flat4_len]; omega)⟩
          rw [hu0] at hc0
          have S7 := S6.own_put (i := 0) rfl (.int .i64 z) (show k * 4 + 2 < ys.length * 4 by omega)
          have hrk := hok1 _ (List.getElem_mem hk)
          rw [flat4_fld (r := { ys[k] with size := z }) hk (by decide) rfl] at S7
          have hok2 := set_ok (k := k) hok1 (r := { ys[k] with size := z }) (by obtain ⟨a1, a2, a3, a4⟩ := hrk; exact ⟨a1, a2, ⟨by dsimp only; omega, by dsimp only; omega⟩, a4⟩)
          have hl2 : (ys.set k { ys[k] with size := z }).length = ys.length := List.length_set
          have hkI : (k : Int) < (ys.length : Int) := by omega
          replace S7 := Lib.hid S7
          clear S5 S6 hi6 hc6 hgy hcy hty hcell hrk
          go_wp2_with fail
          go_ret
          refine ⟨_, _, rfl, by rw [hl2]; omega, hok2, ?_⟩
          unfold Recs
          rw [hl2]
          exact S7.out.mono (by omega)
        by_cases e2 : y2 = 2
        · subst e2
          obtain ⟨gx, capx, curx, ex, -, hgx, hnx, hmx, hcx, htx⟩ := own_block (S4.out.own (i := 0) rfl) (by omega)
          simp only [Value.slice.injEq] at ex
          obtain ⟨rfl, -, rfl⟩ := ex
          have hw4 := S4.out.chg.size
          have S5 := Lib.hid (S4.out.alloc_box #[.int .i64 (-1), .int .i64 10000] 3)
          clear S4 hgx hcx htx
          go_wp2_with fail
          refine (cur_among (-1) 10000 w4.heap.size 0 2 2 _ g ca cl cc _ S5.out.cur (by omega) (by decide) (by decide) (fun j hj => ?hc) (by omega)).mono ?_
          case hc =>
            rw [Nat.zero_add]
            have S := S5.out
            match j, hj with
            | 0, _ => exact ⟨_, by decide, by decide, S.cell (i := 0) rfl rfl⟩
            | 1, _ => exact ⟨_, by decide, by decide, S.cell (i := 0) rfl rfl⟩
          rintro e w6 ⟨_, ⟨z, hz0, hz1, rfl⟩, rfl, hi6, hc6⟩
          have S6 := S5.out.tail.turn hi6 hc6
          obtain ⟨gy, capy, cury, ey, -, hgy, hny, hmy, hcy, hty⟩ := own_block (S6.own (i := 0) rfl) (by omega)
          simp only [Value.slice.injEq, Option.some.injEq, Addr.mk.injEq] at ey
          obtain ⟨⟨rfl, -, -⟩, -, rfl⟩ := ey
          have hcell := own_at hgy hty (o := k * 4 + 3) (by omega)
          have hc0 := hcell.1
          have hc1 := hcell.2
          obtain ⟨u0, hu0⟩ : ∃ u, (ys.flatMap rcEnc)[k * 4 + 3]? = some u := ⟨_, List.getElem?_eq_getElem (by rw [flat4_len]; omega)⟩
          rw [hu0] at hc0
          have S7 := S6.own_put (i := 0) rfl (.int .i64 z) (show k * 4 + 3 < ys.length * 4 by omega)
          have hrk := hok1 _ (List.getElem_mem hk)
          rw [flat4_fld (r := { ys[k] with extra := z }) hk (by decide) rfl] at S7
          have hok2 := set_ok (k := k) hok1 (r := { ys[k] with extra := z }) (by obtain ⟨a1, a2, a3, a4⟩ := hrk; exact ⟨a1, a2, a3, ⟨by dsimp only; omega, by dsimp only; omega⟩⟩)
          have hl2 : (ys.set k { ys[k] with extra := z }).length = ys.length := List.length_set
          have hkI : (k : Int) < (ys.length : Int) := by omega
          replace S7 := Lib.hid S7
          clear S5 S6 hi6 hc6 hgy hcy hty hcell hrk
          go_wp2_with fail
          go_ret
          refine ⟨_, _, rfl, by rw [hl2]; omega, hok2, ?_⟩
          unfold Recs
          rw [hl2]
          exact S7.out.mono (by omega)
        by_cases e3 : y2 = 3
        · subst e3
          obtain ⟨gx, capx, curx, ex, -, hgx, hnx, hmx, hcx, htx⟩ := own_block (S4.out.own (i := 0) rfl) (by omega)
          simp only [Value.slice.injEq] at ex
          obtain ⟨rfl, -, rfl⟩ := ex
          have q0 := (own_at hgx htx (o := k * 4) (by omega)).1.trans (flat4_get hk (j := 0) rfl)
          have q1 := (own_at hgx htx (o := k * 4 + 1) (by omega)).1.trans (flat4_get hk (j := 1) rfl)
          have q2 := (own_at hgx htx (o := k * 4 + 2) (by omega)).1.trans (flat4_get hk (j := 2) rfl)
          have q3 := (own_at hgx htx (o := k * 4 + 3) (by omega)).1.trans (flat4_get hk (j := 3) rfl)
          have hrk := hok1 _ (List.getElem_mem hk)
          generalize ys[k] = r at q0 q1 q2 q3 hrk
          have S5 := S4.out.alloc_box #[.string (ms r.name), .int .i64 r.sys, .int .i64 r.size, .int .i64 r.extra] 30
          have hsrc := src_rec (r := r) (S5.cell (i := 0) rfl (o := 0) rfl) (S5.cell (i := 0) rfl (o := 1) rfl) (S5.cell (i := 0) rfl (o := 2) rfl) (S5.cell (i := 0) rfl (o := 3) rfl)
          have hkI : (k : Int) < (ys.length : Int) := by omega
          replace S5 := Lib.hid S5
          replace hsrc := Lib.hid hsrc
          clear S4 hgx hcx htx
          go_wp2_with (at_builtin; refine wpList_append_src rfl _ _ rfl Tryz.underlying24 hi0 hz0 hz1 hz2 rfl (by decide) _ ys.length _ rfl (S5.out.own (i := 1) rfl) _ 1 1 (rcEnc r) rfl hsrc.out (rec_one _) ?c3 ?c4 ?_)
          case c3 => unfold maxLen; omega
          case c4 => omega
          intro vY wY hownY hgY hatY
          have S6 := (S5.out.own_push (i := 1) rfl (bb _) hownY hgY (by simpa using hatY)).tail
          obtain ⟨aY, cY, rfl⟩ := own_slice hownY
          have S7 : Hid (CS w g ca cl cc (A + 300) wY [Recs (.slice aY (ys ++ [r]).length cY) (ys ++ [r])]) := by
            unfold Hid Recs
            rw [List.length_append, List.length_singleton, List.flatMap_append, List.flatMap_singleton]
            exact CS.mono S6 (by omega)
          have hl7 : ys.length + 1 = (ys ++ [r]).length := by simp
          have hok7 : ∀ x ∈ ys ++ [r], rcOk x := fun x hx => by
            rcases List.mem_append.1 hx with hx | hx
            · exact hok1 x hx
            · rw [List.mem_singleton.1 hx]; exact hrk
          rw [hl7]
          replace hl7 := Lib.hid hl7
          clear S5 S6 hownY hgY hatY hsrc q0 q1 q2 q3
          go_wp2_with fail
          go_ret
          exact ⟨_, ys ++ [r], rfl, by rw [← hl7.out]; omega, hok7, S7.out⟩
        by_cases e4 : y2 = 4
        · subst e4
          obtain ⟨gx, capx, curx, ex, -, hgx, hnx, hmx, hcx, htx⟩ := own_block (S4.out.own (i := 0) rfl) (by omega)
          simp only [Value.slice.injEq] at ex
          obtain ⟨rfl, -, rfl⟩ := ex
          have hw4 := S4.out.chg.size
          have S5 := Lib.hid (S4.out.alloc_box #[.string ⟨#[]⟩, .string ⟨#[66]⟩, .string ⟨#[112, 104, 112, 45, 50]⟩] 9)
          clear S4 hgx hcx htx
          go_wp2_with fail
          refine (cur_of NmLe w4.heap.size 0 3 3 _ g ca cl cc _ S5.out.cur (by omega) (by decide) (by decide) (fun j hj => ?hc) (by omega)).mono ?_
          case hc =>
            rw [Nat.zero_add]
            have S := S5.out
            match j, hj with
            | 0, _ => exact ⟨_, by unfold NmLe; decide, S.cell (i := 0) rfl rfl⟩
            | 1, _ => exact ⟨_, by unfold NmLe; decide, S.cell (i := 0) rfl rfl⟩
            | 2, _ => exact ⟨_, by unfold NmLe; decide, S.cell (i := 0) rfl rfl⟩
          rintro e w6 ⟨_, ⟨z, hz, rfl⟩, rfl, hi6, hc6⟩
          have S6 := S5.out.tail.turn hi6 hc6
          obtain ⟨gy, capy, cury, ey, -, hgy, hny, hmy, hcy, hty⟩ := own_block (S6.own (i := 0) rfl) (by omega)
          simp only [Value.slice.injEq, Option.some.injEq, Addr.mk.injEq] at ey
          obtain ⟨⟨rfl, -, -⟩, -, rfl⟩ := ey
          have hcell := own_at hgy hty (o := k * 4) (by omega)
          have hc0 := hcell.1
          have hc1 := hcell.2
          obtain ⟨u0, hu0⟩ : ∃ u, (ys.flatMap rcEnc)[k * 4]? = some u := ⟨_, List.getElem?_eq_getElem (by rw [flat4_len]; omega)⟩
          rw [hu0] at hc0
          have S7 := S6.own_put (i := 0) rfl (.string z) (show k * 4 < ys.length * 4 by omega)
          have hrk := hok1 _ (List.getElem_mem hk)
          have hf := flat4_fld (r := { ys[k] with name := bl z }) (o := 0) (u := .string z) hk (by decide) (by simp [rcEnc, ms_bl])
          rw [Nat.add_zero] at hf
          rw [hf] at S7
          clear hf
          have hok2 := set_ok (k := k) hok1 (r := { ys[k] with name := bl z }) (by obtain ⟨a1, a2, a3, a4⟩ := hrk; unfold NmLe at hz; exact ⟨by dsimp only; rw [bl_length]; omega, a2, a3, a4⟩)
          have hl2 : (ys.set k { ys[k] with name := bl z }).length = ys.length := List.length_set
          have hkI : (k : Int) < (ys.length : Int) := by omega
          replace S7 := Lib.hid S7
          clear S5 S6 hi6 hc6 hgy hcy hty hcell hrk
          go_wp2_with fail
          go_ret
          refine ⟨_, _, rfl, by rw [hl2]; omega, hok2, ?_⟩
          unfold Recs
          rw [hl2]
          exact S7.out.mono (by omega)
        have f0 : (y2 == 0) = false := by rw [beq_eq_false_iff_ne]; exact e0
        have f1 : (y2 == 1) = false := by rw [beq_eq_false_iff_ne]; exact e1
        have f2 : (y2 == 2) = false := by rw [beq_eq_false_iff_ne]; exact e2
        have f3 : (y2 == 3) = false := by rw [beq_eq_false_iff_ne]; exact e3
        have f4 : (y2 == 4) = false := by rw [beq_eq_false_iff_ne]; exact e4
        go_wp2_with fail
        go_ret
        exact ⟨_, ys, rfl, by omega, hok1, S4.out.mono (by omega)⟩
end Go.Proofs.YtpiimlmfcdjbbaaGreatDoor

/- Contract: two books that are drawn. -/
namespace Go.Proofs.YtpiimlmfcdjbbaaGreatDoor
open Go.RowKit

section
variable {w0 w W : World} {ps : List Asn} {g cl cc : Nat} {ca : Option Addr}
theorem Sp.alloc_cur (h : Sp w0 w ps) (ca : Option Addr) (cl cc : Nat) : Sp w0 (w.alloc (.cells #[.slice ca cl cc, .int .i64 0, .int .u64 0] 46)) (CurA 0 w.heap.size ca cl cc :: ps) :=
  h.new (bal (bb _) _) (F := [w.heap.size]) ⟨rfl, 0, 0, heap_alloc_new w _, Nat.le_refl 0, Int.le_refl 0, by omega⟩ (by simp)
theorem cur_new (hc : CodeOk w ca cl) (hs : cl ≤ 65536) : CurIs 0 w.heap.size ca cl cc (w.alloc (.cells #[.slice ca cl cc, .int .i64 0, .int .u64 0] 46)) :=
  (((Sp.start w).alloc_cur ca cl cc).cur (A' := 0) (i := 0) rfl hc hs).1
end
section
variable {w0 w w' w1 : World} {g cl cc A A' : Nat} {ca : Option Addr} {ps qs : List Asn}
theorem CS.comp (h : CS w0 g ca cl cc A w ps) (k : CS w g ca cl cc A' w' qs) : CS w0 g ca cl cc A' w' (qs ++ ps) := by
  have hg := h.glt
  have hsz := h.chg.size
  obtain ⟨h0, h1, h2, F, h3, h4⟩ := h
  obtain ⟨k0, k1, k2, G, k3, k4⟩ := k
  have hk := sep_keep h3 fun b hm => k2.block b (sep_lt h3 b hm) fun hb => by
    obtain rfl : b = g := by simpa using hb
    have := h4 b hm; omega
  refine ⟨h0, k1, h2.trans k2, G ++ F, sep_append k3 hk (fun b hb hb2 => ?_), fun b hb => ?_⟩
  · have := k4 b hb; have := sep_lt h3 b hb2; omega
  · rcases List.mem_append.1 hb with hb | hb
    · have := k4 b hb; omega
    · exact h4 b hb
end
theorem cs_sp {w w1 w' : World} {g cl cc A : Nat} {ca : Option Addr} {ps : List Asn} (h : CS w1 g ca cl cc A w' ps) (hb : Below w.heap.size w w1) (hg : w.heap.size ≤ g) : Sp w w' ps := by
  have hc := h.chg
  obtain ⟨_, _, _, F, h3, h4⟩ := h
  exact ⟨hb.trans (hc.below hb.size (by simpa using hg)), F, h3, fun b hm => Nat.le_trans hb.size (h4 b hm)⟩

set_option maxRecDepth 100000 in
set_option maxHeartbeats 4000000 in
theorem drawMerge_any (ca : Option Addr) (cl cc : Nat) (w : World) (hc : CodeOk w ca cl) (hs : cl ≤ 65536) :
    Calls Tryz.prog 5 #[.slice ca cl cc] w fun e w' => ∃ v u xs ys, e = .returned (.tuple #[v, u]) ∧ (xs.length ≤ 30 ∧ ys.length ≤ 30) ∧ ((∀ x ∈ xs, rcOk x) ∧ ∀ y ∈ ys, rcOk y) ∧ Sp w w' [Recs u ys, Recs v xs] := by
  have hnew := cur_new (cc := cc) hc hs
  go_enter Tryz.func5, Tryz.ntmps5
  go_wp2_with fail
  refine (cur_book 0 w.heap.size ca cl cc _ hnew (by omega)).mono ?_
  rintro e w1 ⟨v, xs, rfl, hx1, hx2, S1⟩
  replace S1 := Lib.hid S1
  go_wp2_with fail
  refine (cur_book _ w.heap.size ca cl cc _ S1.out.cur (by omega)).mono ?_
  rintro e w2 ⟨u, ys, rfl, hy1, hy2, S2⟩
  have S3 := Lib.hid (cs_sp (S1.out.comp S2) (bal (bb w) _) (Nat.le_refl _))
  clear S1 S2
  go_wp2_with fail
  go_ret2
  exact ⟨v, u, xs, ys, rfl, ⟨hx1, hy1⟩, ⟨hx2, hy2⟩, S3.out⟩
end Go.Proofs.YtpiimlmfcdjbbaaGreatDoor

/- Records compared with '!='. -/
namespace Go.Proofs.YtpiimlmfcdjbbaaGreatDoor
open Go.RowKit

theorem rc_held : Tryz.prog.stoodInHeld 30 = false := by kernel_rfl
theorem rc_fields : Tryz.prog.underlying 30 = some (.struct (Tryz.prog.fieldsOf 30)) := by kernel_rfl
theorem neq_rec (a : Rec) (w : World) : (binOp .neq 30 (rcV a) (rcV a)).run Tryz.prog w = .ok (.bool false) w := by
  rw [run_neq_struct, run_equalIn_agg w 9999 _ _ _ rc_fields rc_held]
  simp only [Program.fieldsOf, Tryz.underlying30]
  go_simp
end Go.Proofs.YtpiimlmfcdjbbaaGreatDoor

/- Contracts: books merged, in the reference. -/
namespace Go.Proofs.YtpiimlmfcdjbbaaGreatDoor
open Go.RowKit

theorem own_addr {w : World} {B : Nat} {e : TypeId} {size n c : Nat} {A : Option Addr} {xs : List Value} (h : w.ownsRow B e size (.slice A n c) n xs) : A = none ∨ ∃ b off, A = some ⟨b, off, none⟩ := by
  obtain ⟨_, ⟨e, _⟩ | ⟨g, cap, cur, e, _⟩⟩ := h
  · simp only [Value.slice.injEq] at e; exact .inl e.1
  · simp only [Value.slice.injEq] at e; exact .inr ⟨g, 0, e.1⟩

set_option maxRecDepth 100000 in
set_option maxHeartbeats 8000000 in
theorem specMerge_any (vx vy : Value) (xs ys : List Rec) (Fx Fy : List Nat) (w : World) (hx : rcTy.row false w vx xs Fx) (hy : rcTy.row false w vy ys Fy) :
    Calls Tryz.prog 7 #[vx, vy] w (MrgPost (mergeA xs ys) w) := by
  obtain ⟨i0, hi, hz0, hz1, hz2⟩ := info_parts infoRc
  obtain ⟨Ax, cx, rfl, hsr, hgx, -⟩ := rec_src hx
  have hyr := hy
  obtain ⟨Ay, cy, rfl, hy1, hy2, hgy, hy3⟩ := row_rc hyr
  have hx2 := Lib.hid (fun W (h : Below w.heap.size w W) => Ty.row_below hx h (Ty.row_lt hx))
  have hy4 := Lib.hid (fun W (h : Below w.heap.size w W) => Ty.row_below hy h (Ty.row_lt hy))
  replace hsr := Lib.hid hsr
  clear hx hy hyr
  obtain ⟨oo, hoo⟩ : ∃ oo, mergeA xs ys = oo := ⟨_, rfl⟩
  rw [hoo]
  cases hb1 : bookB xs
  · have hR : Hid (oo = none) := by unfold Hid; rw [← hoo]; exact merge_no (by rw [hb1]; rfl)
    clear hoo
    go_enter Tryz.func7, Tryz.ntmps7
    go_wp2_with fail
    refine (goodR_at (hx2.out _ (bb _)) hb1).mono ?_
    rintro e w1 ⟨rfl, hb1⟩
    have S1 := Lib.hid ((Sp.of_below hb1).own_made 30 4)
    clear hb1
    go_wp2_with fail
    go_ret2
    exact mrg_no hR.out S1.out
  cases hb2 : bookB ys
  · have hR : Hid (oo = none) := by unfold Hid; rw [← hoo]; exact merge_no (by rw [hb2, Bool.and_false])
    clear hoo
    go_enter Tryz.func7, Tryz.ntmps7
    go_wp2_with fail
    refine (goodR_at (hx2.out _ (bb _)) hb1).mono ?_
    rintro e w1 ⟨rfl, hw1⟩
    replace hw1 := Lib.hid hw1
    go_wp2_with fail
    refine (goodR_at (hy4.out _ hw1.out) hb2).mono ?_
    rintro e w2 ⟨rfl, hw2⟩
    have S1 := Lib.hid ((Sp.of_below (btr hw1.out hw2)).own_made 30 4)
    clear hw1 hw2
    go_wp2_with fail
    go_ret2
    exact mrg_no hR.out S1.out
  have hR : Hid (mergeTo xs ys = oo) := by unfold Hid; rw [← hoo]; exact (merge_go hb1 hb2).symm
  have h24 := book_le' hb1
  have hbx := Lib.hid hb1
  have hby := Lib.hid hb2
  have ones := Lib.hid (rec_ones xs)
  clear hoo
  go_enter Tryz.func7, Tryz.ntmps7
  go_wp2_with fail
  refine (goodR_at (hx2.out _ (bb _)) hb1).mono ?_
  rintro e w1 ⟨rfl, hw1⟩
  replace hw1 := Lib.hid hw1
  go_wp2_with fail
  refine (goodR_at (hy4.out _ hw1.out) hb2).mono ?_
  rintro e w2 ⟨rfl, hw2⟩
  have S2 := Lib.hid ((Sp.of_below (btr hw1.out hw2)).own_made 30 4)
  have hsx := Lib.hid (hsr.out.grow S2.out.below)
  clear hw1 hw2 hb1 hb2 hx2 hsr
  go_wp2_with (at_builtin; refine wpList_append_src rfl _ _ rfl Tryz.underlying24 hi hz0 hz1 hz2 rfl (by decide) _ 0 _ rfl (S2.out.own (i := 0) rfl) _ xs.length cx (xs.flatMap rcEnc) rfl hsx.out ones.out ?c3 ?c4 ?_)
  case c3 => unfold maxLen; omega
  case c4 => omega
  intro vY wY hownY hgY hatY
  have S3 := S2.out.own_push (i := 0) rfl (bb _) hownY hgY (by simpa using hatY)
  (try rw [List.nil_append] at S3)
  (try simp only [Nat.zero_add, List.set_cons_zero] at S3)
  replace S3 := Lib.hid S3
  obtain ⟨A, c, rfl⟩ := own_slice hownY
  clear S2 hownY hgY hatY hsx ones
  go_wp2_with fail
  go_loopw [6, 7] (fun vo vi wr => ∃ (k : Nat) (A : Option Addr) (c : Nat) (zs : List Rec), k ≤ ys.length ∧ vi = .int .i64 k ∧ vo = .slice A zs.length c ∧ zs.length ≤ 24 ∧ Hid (mergeTo xs (ys.take k) = some zs) ∧ Hid (∀ z ∈ zs, rcOk z) ∧ Hid (Sp w wr [Recs (.slice A zs.length c) zs])) (fun _ vi _ => ys.length - (intOf vi).toNat)
  case atStart => exact ⟨0, A, c, xs, Nat.zero_le _, rfl, by simp, h24, rfl, hgx, S3⟩
  case round =>
    obtain ⟨k, A, c, zs, hk, rfl, rfl, hz24, HM, HG, HS⟩ := hrel
    clear S3
    by_cases hlt : k < ys.length
    · rcases hy3 with ⟨rfl, rfl⟩ | ⟨hxn, b, off, rfl, rfl, hxc⟩
      · exact absurd hlt (by simp)
      obtain ⟨p0, p1, p2, p3⟩ := hxc k hlt
      have hp := HS.out.below.block b p0.lt
      have k0 := (p0.keep hp).1
      have k1 := (p1.keep hp).1
      have k2 := (p2.keep hp).1
      have k3 := (p3.keep hp).1
      have hgr := hgy _ (List.getElem_mem hlt)
      have hnx : Hid (∀ q, bookB (entR zs ys[k]) = q → (q = true → mergeTo xs (ys.take (k + 1)) = some (entR zs ys[k])) ∧ (q = false → oo = none)) := fun q hq => ⟨fun h => mergeTo_next hlt HM.out (hq.trans h), fun h => hR.out.symm.trans (mergeTo_stop hlt HM.out (hq.trans h))⟩
      have hgn := Lib.hid (entR_all HG.out hgr)
      obtain ⟨F1, hr1, -, -⟩ := HS.out.recs_row (i := 0) rfl HG.out
      have hcall := Lib.hid (l31Enter_any A c zs ys[k] F1 _ (row_read hr1) (own_addr (HS.out.own (i := 0) rfl)) hgr (by omega))
      clear p0 p1 p2 p3 hp hxc hr1 HM HG
      generalize ys[k] = r at *
      obtain ⟨q, hq⟩ : ∃ q, bookB (entR zs r) = q := ⟨_, rfl⟩
      have hnx2 := Lib.hid (hnx.out q hq)
      clear hnx hgr
      cases q
      · rw [entO_no hq] at hcall
        generalize entR zs r = es at *
        go_wp2_with fail
        refine hcall.out.mono ?_
        rintro e w4 ⟨A4, c4, rfl, S4⟩
        have hM2 := Lib.hid (hnx2.out.2 trivial)
        have S5 := Lib.hid ((HS.out.grow S4.below).own_made 30 4)
        clear HS S4 hcall hnx2 k0 k1 k2 k3
        go_wp2_with fail
        go_ret2
        exact mrg_no hM2.out (S5.out.pick [0] rfl)
      · rw [entO_yes hq] at hcall
        have h24n := book_le' hq
        generalize entR zs r = es at *
        go_wp2_with fail
        refine hcall.out.mono ?_
        rintro e w4 ⟨A4, c4, rfl, S4⟩
        have S5 := Lib.hid ((HS.out.seq S4).pick [0] rfl)
        have hM2 := Lib.hid (hnx2.out.1 trivial)
        clear HS S4 hcall hnx2 k0 k1 k2 k3
        go_wp2_with fail
        go_roundw
        case rel => exact ⟨k + 1, A4, c4, es, by omega, by go_num, rfl, h24n, hM2, hgn, S5⟩
        case measure => simp [intOf]; omega
    · obtain rfl : k = ys.length := by omega
      have hE2 : Hid (oo = some zs) := by
        have := HM.out
        rw [List.take_length] at this
        exact hR.out.symm.trans this
      clear HM hR
      go_wp2_with fail
      go_ret2
      exact mrg_yes hE2.out HS.out
end Go.Proofs.YtpiimlmfcdjbbaaGreatDoor

/- Plain facts: numbers read back from their text; a changed byte of a sealed string. No program in sight. -/
namespace Go.Proofs.YtpiimlmfcdjbbaaGreatDoor

def isDig (c : UInt8) : Bool := decide (48 ≤ c.toNat) && decide (c.toNat ≤ 57)
theorem isDig_true {c : UInt8} : isDig c = true ↔ 48 ≤ c.toNat ∧ c.toNat ≤ 57 := by simp [isDig]
/-- What digits spell. -/
def valD (l : List UInt8) : Nat := l.foldl (fun a c => a * 10 + (c.toNat - 48)) 0
theorem valD_snoc (l : List UInt8) (c : UInt8) : valD (l ++ [c]) = valD l * 10 + (c.toNat - 48) := by simp [valD]
theorem valD_lt : ∀ (n : Nat) (l : List UInt8), l.length = n → l.all isDig = true → valD l < 10 ^ n
  | 0, l, h, _ => by
    obtain rfl := List.length_eq_zero_iff.1 h
    decide
  | n + 1, l, h, hd => by
    rcases List.eq_nil_or_concat l with rfl | ⟨l', c, rfl⟩
    · simp at h
    · rw [List.concat_eq_append] at h hd ⊢
      rw [List.all_append, Bool.and_eq_true] at hd
      have h1 := valD_lt n l' (by simpa using h) hd.1
      have h2 : isDig c = true := by simpa using hd.2
      rw [isDig_true] at h2
      rw [valD_snoc, Nat.pow_succ]
      omega
theorem parse_digits : ∀ (l : List UInt8) (acc : Nat), l.all isDig = true → (acc + 1) * 10 ^ l.length ≤ 100000000000000000 → Lib.parseUint10 acc l = .ok (l.foldl (fun a c => a * 10 + (c.toNat - 48)) acc)
  | [], _, _, _ => rfl
  | c :: r, acc, hd, hb => by
    rw [List.all_cons, Bool.and_eq_true] at hd
    have h1 := isDig_true.1 hd.1
    have h2 : (acc * 10 + (c.toNat - 48) + 1) * 10 ^ r.length ≤ 100000000000000000 := by
      refine Nat.le_trans (Nat.mul_le_mul_right _ (show _ ≤ (acc + 1) * 10 by omega)) ?_
      rw [List.length_cons, Nat.pow_succ] at hb
      rw [Nat.mul_assoc, Nat.mul_comm 10]
      exact hb
    have h3 : acc + 1 ≤ 100000000000000000 := Nat.le_trans (Nat.le_mul_of_pos_right _ (Nat.pow_pos (by decide))) hb
    have h4 : acc * 10 + (c.toNat - 48) + 1 ≤ 100000000000000000 := Nat.le_trans (Nat.le_mul_of_pos_right _ (Nat.pow_pos (by decide))) h2
    rw [Lib.parseUint10, if_pos h1, if_neg (by omega), if_neg (by omega), parse_digits r _ hd.2 h2]
    rfl
theorem decDigits_all (u : Nat) : (Lib.decDigits u).all isDig = true := by
  rw [List.all_eq_true]
  intro c hc
  exact isDig_true.2 (decDigits_digit u u (Nat.le_refl _) c hc)
theorem valD_dec : ∀ (n u : Nat), u ≤ n → valD (Lib.decDigits u) = u
  | n, u, hn => by
    by_cases h : u < 10
    · rw [Lib.decDigits, dif_pos h]
      simp [valD]; omega
    · rw [decDigits_big h, valD_snoc]
      cases n with
      | zero => omega
      | succ n =>
        rw [valD_dec n (u / 10) (by omega)]
        simp; omega
termination_by n => n
theorem dec_len6 {u : Nat} (h : u ≤ 999999) : 1 ≤ (Lib.decDigits u).length ∧ (Lib.decDigits u).length ≤ 6 := by
  have h1 := decDigits_len 5 u (by omega)
  have h2 := List.length_pos_iff.2 (decDigits_ne u)
  omega
theorem dec_head {u : Nat} {c : UInt8} {r : List UInt8} (h : Lib.decDigits u = c :: r) : 48 ≤ c.toNat ∧ c.toNat ≤ 57 := decDigits_digit u u (Nat.le_refl _) c (by rw [h]; exact List.mem_cons_self)
theorem parseMag_dec {u : Nat} (h : u ≤ 999999) : Lib.parseMag (Lib.decDigits u) = .ok u := by
  have hl := dec_len6 h
  unfold Lib.parseMag
  rw [if_neg (decDigits_ne u), parse_digits _ _ (decDigits_all u) ?_]
  · exact congrArg _ (valD_dec u u (Nat.le_refl _))
  · have : 10 ^ (Lib.decDigits u).length ≤ 10 ^ 6 := Nat.pow_le_pow_right (by decide) hl.2
    omega
/-- The text of a number is read back. -/
theorem atoi_itoa {v : Int} (h0 : -999999 ≤ v) (h1 : v ≤ 999999) : Lib.atoiAll (Lib.itoa v) = .ok v := by
  rcases Int.lt_or_le v 0 with h | h
  · obtain ⟨u, rfl⟩ : ∃ u : Nat, v = -(u : Int) := ⟨v.natAbs, by omega⟩
    rw [itoa_neg u (by omega)]
    unfold Lib.atoiAll
    simp [parseMag_dec (show u ≤ 999999 by omega)]
    omega
  · obtain ⟨u, rfl⟩ := Int.eq_ofNat_of_zero_le h
    rw [itoa_nat]
    obtain ⟨c, r, hc⟩ := List.exists_cons_of_ne_nil (decDigits_ne u)
    have hh := dec_head hc
    have hm := parseMag_dec (show u ≤ 999999 by omega)
    rw [hc] at hm ⊢
    unfold Lib.atoiAll
    simp only
    rw [if_neg (by omega), hm]
    simp only
    rw [if_neg (by omega), if_neg (by omega), if_neg (by omega)]

/-- The number that a text is the text of. -/
def numB (l : List UInt8) : Int × Bool :=
  match Lib.atoiAll l with
  | .ok v => if inB v (-999999) 999999 && Lib.itoa v == l then (v, true) else (0, false)
  | _ => (0, false)
theorem numB_itoa {v : Int} (h0 : -999999 ≤ v) (h1 : v ≤ 999999) : numB (Lib.itoa v) = (v, true) := by
  unfold numB
  rw [atoi_itoa h0 h1]
  simp only
  rw [if_pos (by simp [inB_true, h0, h1])]
theorem numB_not {l : List UInt8} (h : ∀ v : Int, -999999 ≤ v → v ≤ 999999 → Lib.itoa v ≠ l) : numB l = (0, false) := by
  unfold numB
  split
  · rename_i v _
    rw [if_neg]
    intro e
    simp only [Bool.and_eq_true, inB_true, beq_iff_eq] at e
    exact h v e.1.1 e.1.2 e.2
  · rfl
theorem numB_ok {l : List UInt8} {v : Int} (h : Lib.atoiAll l = .ok v) : numB l = if inB v (-999999) 999999 && Lib.itoa v == l then (v, true) else (0, false) := by
  unfold numB; rw [h]
theorem numB_no {l : List UInt8} (h : ∀ v, Lib.atoiAll l ≠ .ok v) : numB l = (0, false) := by
  unfold numB
  split
  · rename_i v e; exact absurd e (h v)
  · rfl
/-- Text behind a sign, and the sign. -/
def negB (l : List UInt8) : Bool := decide (1 < l.length) && (l.head?.map (·.toNat) == some 45)
def magB (l : List UInt8) : List UInt8 := if negB l then l.tail else l
def sgnV (l : List UInt8) : Int := if negB l then -(valD (magB l) : Int) else valD (magB l)
/-- The reference's reading: digits, and the text of their number is the text. -/
theorem numB_read (l : List UInt8) : numB l = if inB (magB l).length 1 6 && (magB l).all isDig && Lib.itoa (sgnV l) == l then (sgnV l, true) else (0, false) := by
  by_cases hc : (inB (magB l).length 1 6 && (magB l).all isDig && Lib.itoa (sgnV l) == l) = true
  · rw [if_pos hc]
    simp only [Bool.and_eq_true, inB_true, beq_iff_eq] at hc
    obtain ⟨⟨⟨h1, h2⟩, h3⟩, h4⟩ := hc
    have hv := valD_lt _ (magB l) rfl h3
    have hp : 10 ^ (magB l).length ≤ 10 ^ 6 := Nat.pow_le_pow_right (by decide) (by omega)
    have hb : -999999 ≤ sgnV l ∧ sgnV l ≤ 999999 := by unfold sgnV; split <;> omega
    have := numB_itoa hb.1 hb.2
    rw [h4] at this
    exact this
  · rw [if_neg hc]
    refine numB_not fun v h0 h1 e => hc ?_
    subst e
    rcases Int.lt_or_le v 0 with h | h
    · obtain ⟨u, rfl⟩ : ∃ u : Nat, v = -(u : Int) := ⟨v.natAbs, by omega⟩
      have hl := dec_len6 (show u ≤ 999999 by omega)
      have hI := itoa_neg u (by omega)
      have hn : negB (Lib.itoa (-(u : Int))) = true := by rw [hI]; simp [negB]; omega
      have hm : magB (Lib.itoa (-(u : Int))) = Lib.decDigits u := by unfold magB; rw [hn, hI]; rfl
      have hs : sgnV (Lib.itoa (-(u : Int))) = -(u : Int) := by unfold sgnV; rw [hn, hm, valD_dec u u (Nat.le_refl _)]; rfl
      rw [hs, hm]
      simp only [Bool.and_eq_true, inB_true, beq_self_eq_true, and_true]
      exact ⟨by omega, decDigits_all u⟩
    · obtain ⟨u, rfl⟩ := Int.eq_ofNat_of_zero_le h
      have hl := dec_len6 (show u ≤ 999999 by omega)
      have hI := itoa_nat u
      obtain ⟨c, r, hcr⟩ := List.exists_cons_of_ne_nil (decDigits_ne u)
      have hh := dec_head hcr
      have hn : negB (Lib.itoa (u : Int)) = false := by
        rw [hI, hcr]
        simp only [negB, List.head?_cons, Option.map_some, Bool.and_eq_false_iff, beq_eq_false_iff_ne, ne_eq, Option.some.injEq]
        right; omega
      have hm : magB (Lib.itoa (u : Int)) = Lib.decDigits u := by unfold magB; rw [hn, hI]; rfl
      have hs : sgnV (Lib.itoa (u : Int)) = (u : Int) := by unfold sgnV; rw [hn, hm, valD_dec u u (Nat.le_refl _)]; rfl
      rw [hs, hm]
      simp only [Bool.and_eq_true, inB_true, beq_self_eq_true, and_true]
      exact ⟨by omega, decDigits_all u⟩

/-- One changed byte changes the checksum. -/
theorem sum_step_inj {a b : Int} {c : UInt8} (ha : 0 ≤ a ∧ a < 999979) (hb : 0 ≤ b ∧ b < 999979) (h : (41 * a + c.toNat + 1) % 999979 = (41 * b + c.toNat + 1) % 999979) : a = b := by omega
theorem sum_tail_inj : ∀ (r x y : List UInt8), sumB (x ++ r) = sumB (y ++ r) → sumB x = sumB y
  | [], x, y, h => by simpa using h
  | c :: r, x, y, h => by
    have h1 : sumB ((x ++ [c]) ++ r) = sumB ((y ++ [c]) ++ r) := by simpa using h
    have h2 := sum_tail_inj r _ _ h1
    rw [sumB_snoc, sumB_snoc] at h2
    exact sum_step_inj (sumB_range x) (sumB_range y) h2
theorem sum_change (x r : List UInt8) {c d : UInt8} (h : c ≠ d) : sumB (x ++ c :: r) ≠ sumB (x ++ d :: r) := by
  intro e
  have h1 : sumB ((x ++ [c]) ++ r) = sumB ((x ++ [d]) ++ r) := by simpa using e
  have h2 := sum_tail_inj r _ _ h1
  rw [sumB_snoc, sumB_snoc] at h2
  have hc := c.toNat_lt
  have hd := d.toNat_lt
  exact h (UInt8.toNat_inj.1 (by omega))
theorem itoa_inj {a b : Int} (ha : 0 ≤ a ∧ a < 999979) (hb : 0 ≤ b ∧ b < 999979) (h : Lib.itoa a = Lib.itoa b) : a = b := by
  have h1 := atoi_itoa (show -999999 ≤ a by omega) (show a ≤ 999999 by omega)
  rw [h, atoi_itoa (by omega) (by omega)] at h1
  injection h1 with h1
  exact h1.symm
theorem appB_no {l m : List UInt8} (h : sealB l ≠ m) : ((appB l).2 && (appB l).1 == m) = false := by
  unfold appB
  split
  · simpa using h
  · rfl
theorem appB_has {l : List UInt8} (h : (appB l).2 = true) : (appB l).1 = sealB l ∧ hasB l 35 = false := by
  unfold appB at *
  split at h
  · rename_i hc
    simp only [Bool.and_eq_true, Bool.not_eq_true'] at hc
    rw [if_pos (by simp only [Bool.and_eq_true, Bool.not_eq_true']; exact hc)]
    exact ⟨rfl, hc.1.2⟩
  · cases h
theorem digits_35 (n : Int) (h : 0 ≤ n) : hasB (Lib.itoa n) 35 = false := allB_has (itoa_all h)
theorem cut_seal {x d : List UInt8} (h : hasB x 35 = false) : cutP 35 (x ++ 35 :: d) = (x, d, true) := cutP_some h (by decide)
/-- A sealed string is accepted. -/
theorem ver_seal {x : List UInt8} (h : (appB x).2 = true) : verB (sealB x) = (x, true) := by
  obtain ⟨h1, h2⟩ := appB_has h
  unfold verB sealB
  rw [cut_seal h2]
  simp only
  rw [h, h1]
  simp [sealB]
/-- A sealed string with one byte changed is not. -/
theorem ver_change {x : List UInt8} (h : hasB x 35 = false) {k : Nat} (hk : k < (sealB x).length) {c : UInt8} (hc : c ≠ (sealB x)[k]) : (verB ((sealB x).set k c)).2 = false := by
  have hs := sumB_range x
  have hdg := digits_35 (sumB x) hs.1
  suffices hm : sealB (cutP 35 ((sealB x).set k c)).1 ≠ (sealB x).set k c by
    unfold verB
    rw [appB_no hm]; rfl
  unfold sealB at hk hc ⊢
  rcases Nat.lt_trichotomy k x.length with h1 | h1 | h1
  · -- a byte of the text
    have e1 : (x ++ 35 :: Lib.itoa (sumB x)).set k c = x.take k ++ c :: x.drop (k + 1) ++ 35 :: Lib.itoa (sumB x) := by
      rw [List.set_append_left _ _ h1, List.set_eq_take_append_cons_drop, if_pos h1]
    have e2 : x = x.take k ++ x[k] :: x.drop (k + 1) := by rw [List.getElem_cons_drop]; exact (List.take_append_drop k x).symm
    rw [List.getElem_append_left h1] at hc
    have hh := h
    rw [e2, hasB_append, hasB_cons, Bool.or_eq_false_iff, Bool.or_eq_false_iff] at hh
    obtain ⟨g1, _, g3⟩ := hh
    rw [e1]
    cases hq : eqB c 35
    · rw [cut_seal (by rw [hasB_append, hasB_cons, g1, hq, g3]; rfl)]
      intro e
      have e3 := List.append_cancel_left e
      simp only [List.cons.injEq, true_and] at e3
      have e4 := itoa_inj (sumB_range _) hs e3
      exact sum_change (x.take k) (x.drop (k + 1)) hc (e4.trans (congrArg sumB e2))
    · rw [List.append_assoc, List.cons_append, cutP_some g1 hq]
      intro e
      have e3 := List.append_cancel_left e
      simp only [List.cons.injEq] at e3
      have e4 := congrArg (fun l => hasB l 35) e3.2
      rw [digits_35 _ (sumB_range _).1, hasB_append, hasB_cons] at e4
      simp [eqB] at e4
  · -- the sign itself
    subst h1
    have e1 : (x ++ 35 :: Lib.itoa (sumB x)).set x.length c = x ++ c :: Lib.itoa (sumB x) := by
      rw [List.set_append_right _ _ (Nat.le_refl _), Nat.sub_self]; rfl
    rw [List.getElem_append_right (Nat.le_refl _)] at hc
    simp only [Nat.sub_self, List.getElem_cons_zero] at hc
    have hq : eqB c 35 = false := by
      cases e : eqB c 35 with
      | false => rfl
      | true => exact absurd (eqB_of c 35 ▸ e : (c == 35) = true) (by simpa using hc)
    rw [e1, cutP_none (by rw [hasB_append, hasB_cons, h, hq, hdg]; rfl)]
    intro e
    have := congrArg List.length e
    simp only [List.length_append, List.length_cons] at this
    omega
  · -- a digit
    have e1 : (x ++ 35 :: Lib.itoa (sumB x)).set k c = x ++ 35 :: (Lib.itoa (sumB x)).set (k - x.length - 1) c := by
      obtain ⟨j, rfl⟩ : ∃ j, k = x.length + (j + 1) := ⟨k - x.length - 1, by omega⟩
      rw [List.set_append_right _ _ (by omega), Nat.add_sub_cancel_left, List.set_cons_succ]
      simp
    rw [e1, cut_seal h]
    intro e
    have e3 := List.append_cancel_left e
    simp only [List.cons.injEq, true_and] at e3
    obtain ⟨j, rfl⟩ : ∃ j, k = x.length + (j + 1) := ⟨k - x.length - 1, by omega⟩
    rw [List.getElem_append_right (by omega)] at hc
    simp only [Nat.add_sub_cancel_left, List.getElem_cons_succ] at hc
    rw [show x.length + (j + 1) - x.length - 1 = j by omega] at e3
    have hj : j < (Lib.itoa (sumB x)).length := by simp at hk; omega
    have e4 : (Lib.itoa (sumB x))[j] = ((Lib.itoa (sumB x)).set j c)[j]'(by simpa using hj) := by congr 1
    rw [List.getElem_set_self] at e4
    exact hc e4.symm
end Go.Proofs.YtpiimlmfcdjbbaaGreatDoor

/- Plain facts: the book of a text. No program in sight. -/
namespace Go.Proofs.YtpiimlmfcdjbbaaGreatDoor

/-- The lines of a text, each with its end. -/
def linesB : List UInt8 → List (List UInt8)
  | [] => []
  | c :: l => if eqB c 10 then [c] :: linesB l else match linesB l with
    | p :: ps => (c :: p) :: ps
    | [] => [[c]]
theorem linesB_some : ∀ {l : List UInt8} {c : UInt8} {m : List UInt8}, hasB l 10 = false → eqB c 10 = true → linesB (l ++ c :: m) = (l ++ [c]) :: linesB m
  | [], c, m, _, h => by rw [List.nil_append, linesB, h]; rfl
  | x :: l, c, m, h, h' => by
    rw [hasB_cons] at h
    have h1 : eqB x 10 = false := by cases e : eqB x 10 <;> simp_all
    have h2 : hasB l 10 = false := by cases e : hasB l 10 <;> simp_all
    rw [List.cons_append, linesB, h1, linesB_some h2 h']; rfl
theorem linesB_none : ∀ {l : List UInt8}, hasB l 10 = false → l ≠ [] → linesB l = [l]
  | [], _, h => absurd rfl h
  | [x], h, _ => by
    rw [hasB_cons] at h
    have h1 : eqB x 10 = false := by cases e : eqB x 10 <;> simp_all
    rw [linesB, h1]; rfl
  | x :: y :: l, h, _ => by
    rw [hasB_cons] at h
    have h1 : eqB x 10 = false := by cases e : eqB x 10 <;> simp_all
    have h2 : hasB (y :: l) 10 = false := by cases e : hasB (y :: l) 10 <;> simp_all
    rw [linesB, h1, linesB_none h2 (by simp)]; rfl
/-- A line without its end. -/
def trimB (l : List UInt8) : List UInt8 := Lib.trimSuffix l [10]
/-- A record's number of a letter. -/
def sysB (c : UInt8) : Int := Lib.indexByte [114, 116, 108, 112] c + 1
/-- A line's words, as a record. -/
def rdW : List (List UInt8) → Option Rec
  | [a, [c], u, v] => if (numB u).2 && (numB v).2 then some ⟨a, sysB c, (numB u).1, (numB v).1⟩ else none
  | _ => none
def rdR (p : List UInt8) : Option Rec := rdW (splitP 32 p)
/-- The line of a record, without its end. -/
def recN (r : Rec) : List UInt8 := r.name ++ 32 :: (letB r.sys ++ 32 :: (Lib.itoa r.size ++ 32 :: Lib.itoa r.extra))
theorem recT_recN (r : Rec) : recT r = recN r ++ [10] := by simp [recT, recN]
theorem dig_noB {b : Int} (hb : b < 48) : ∀ (n u : Nat), u ≤ n → hasB (Lib.decDigits u) b = false := by
  intro n u hu
  unfold hasB
  rw [List.any_eq_false]
  intro c hc
  have := decDigits_digit n u hu c hc
  simp only [beq_iff_eq]
  omega
theorem itoa_noB {b : Int} (hb : b < 45) (v : Int) : hasB (Lib.itoa v) b = false := by
  unfold Lib.itoa
  split
  · rw [hasB_cons, dig_noB (by omega) _ _ (Nat.le_refl _), Bool.or_false]
    show ((((45 : UInt8).toNat : Int)) == b) = false
    rw [beq_eq_false_iff_ne]
    have : ((45 : UInt8).toNat : Int) = 45 := rfl
    omega
  · exact dig_noB (by omega) _ _ (Nat.le_refl _)
theorem name_noB {l : List UInt8} {b : Int} (h : l.all nameC = true) (hb : b < 48) : hasB l b = false := by
  unfold hasB
  rw [List.any_eq_false]
  intro c hc
  have := List.all_eq_true.1 h c hc
  simp only [nameC, Bool.or_eq_true, inB_true] at this
  simp only [beq_iff_eq]
  omega
theorem let_noB (s : Int) {b : Int} (hb : b < 108) : hasB (letB s) b = false := by
  unfold letB hasB
  simp only [List.any_cons, List.any_nil, Bool.or_false, beq_eq_false_iff_ne]
  split
  · have : ((114 : UInt8).toNat : Int) = 114 := rfl
    omega
  · split
    · have : ((116 : UInt8).toNat : Int) = 116 := rfl
      omega
    · split
      · have : ((108 : UInt8).toNat : Int) = 108 := rfl
        omega
      · have : ((112 : UInt8).toNat : Int) = 112 := rfl
        omega
theorem sys_let {s : Int} (h1 : 1 ≤ s) (h4 : s ≤ 4) : ∃ c, letB s = [c] ∧ sysB c = s := by
  obtain rfl | rfl | rfl | rfl : s = 1 ∨ s = 2 ∨ s = 3 ∨ s = 4 := by omega
  all_goals exact ⟨_, rfl, by decide⟩
theorem rd_rec {r : Rec} (h : recB r = true) : rdR (recN r) = some r := by
  obtain ⟨_, hn, ⟨s1, s4⟩, hz, he⟩ := rec_parts h
  obtain ⟨c, hc, hsy⟩ := sys_let s1 s4
  have hl := let_noB r.sys (b := 32) (by decide)
  unfold rdR recN
  rw [splitP_some (name_noB hn (by decide)) (by decide), splitP_some hl (by decide), splitP_some (itoa_noB (by decide) _) (by decide), splitP_none (itoa_noB (by decide) _), hc]
  simp only [rdW]
  rw [numB_itoa (by omega) (by omega), numB_itoa (by omega) (by omega), hsy]; rfl
theorem recN_no {r : Rec} (h : recB r = true) : hasB (recN r) 10 = false := by
  obtain ⟨_, hn, _, _, _⟩ := rec_parts h
  unfold recN
  simp only [hasB_append, hasB_cons, name_noB hn (show (10 : Int) < 48 by decide), let_noB r.sys (show (10 : Int) < 108 by decide), itoa_noB (show (10 : Int) < 45 by decide)]
  decide
theorem lines_text : ∀ {xs : List Rec}, (∀ r ∈ xs, recB r = true) → linesB (textB xs) = xs.map recT
  | [], _ => rfl
  | r :: xs, h => by
    have e : textB (r :: xs) = recN r ++ 10 :: textB xs := by
      unfold textB
      rw [List.flatMap_cons, recT_recN, List.append_assoc]; rfl
    rw [e, linesB_some (recN_no (h r (by simp))) (by decide), lines_text fun q hq => h q (by simp [hq]), List.map_cons, recT_recN]
theorem split_text : ∀ {xs : List Rec}, (∀ r ∈ xs, recB r = true) → splitP 10 (textB xs) = xs.map recN ++ [[]]
  | [], _ => rfl
  | r :: xs, h => by
    have e : textB (r :: xs) = recN r ++ 10 :: textB xs := by
      unfold textB
      rw [List.flatMap_cons, recT_recN, List.append_assoc]; rfl
    rw [e, splitP_some (recN_no (h r (by simp))) (by decide), split_text fun q hq => h q (by simp [hq])]; rfl
theorem trim_recT (r : Rec) : trimB (recT r) = recN r := by
  rw [recT_recN]
  unfold trimB Lib.trimSuffix
  simp [Lib.hasSuffix]
theorem rd_line {r : Rec} (h : recB r = true) : rdR (trimB (recT r)) = some r := by rw [trim_recT, rd_rec h]

/-- The book of a text. -/
def IsP (s : List UInt8) (xs : List Rec) : Prop := bookB xs = true ∧ textB xs = s
def parB (s : List UInt8) : List Rec × Bool :=
  let xs := (linesB s).map fun p => (rdR (trimB p)).getD ⟨[], 0, 0, 0⟩
  if bookB xs && textB xs == s then (xs, true) else ([], false)
theorem isP_lines {s : List UInt8} {xs : List Rec} (h : IsP s xs) : linesB s = xs.map recT ∧ splitP 10 s = xs.map recN ++ [[]] ∧ (∀ r ∈ xs, recB r = true) := by
  obtain ⟨h1, rfl⟩ := h
  exact ⟨lines_text (book_all h1), split_text (book_all h1), book_all h1⟩
theorem is_parB {s : List UInt8} {xs : List Rec} (h : IsP s xs) : parB s = (xs, true) := by
  obtain ⟨h1, -, h3⟩ := isP_lines h
  have e : ((linesB s).map fun p => (rdR (trimB p)).getD ⟨[], 0, 0, 0⟩) = xs := by
    rw [h1, List.map_map]
    conv => rhs; rw [← List.map_id xs]
    exact List.map_congr_left fun r hr => by simp [Function.comp, rd_line (h3 r hr)]
  unfold parB
  simp only [e]
  rw [if_pos (by rw [h.1, h.2]; simp)]
theorem parB_is {s : List UInt8} {xs : List Rec} (h : parB s = (xs, true)) : IsP s xs := by
  unfold parB at h
  simp only at h
  split at h
  · rename_i hq
    obtain ⟨rfl, -⟩ := Prod.mk.inj h
    rw [Bool.and_eq_true, beq_iff_eq] at hq
    exact hq
  · cases (Prod.mk.inj h).2
theorem parB_no {s : List UInt8} (h : ∀ xs, ¬ IsP s xs) : parB s = ([], false) := by
  cases hp : parB s with
  | mk xs q => cases q with
    | true => exact absurd (parB_is hp) (h xs)
    | false =>
      unfold parB at hp
      simp only at hp
      split at hp
      · cases (Prod.mk.inj hp).2
      · exact hp.symm
theorem map_some_inj {α : Type} : ∀ {xs ys : List α}, xs.map some = ys.map some → xs = ys
  | [], [], _ => rfl
  | [], _ :: _, h => by cases h
  | _ :: _, [], h => by cases h
  | x :: xs, y :: ys, h => by
    simp only [List.map_cons, List.cons.injEq, Option.some.injEq] at h
    rw [h.1, map_some_inj h.2]
/-- What fails in the program's course. -/
theorem line_no {s : List UInt8} {p : List UInt8} (hp : p ∈ linesB s) (h : rdR (trimB p) = none) : parB s = ([], false) :=
  parB_no fun xs hI => by
    obtain ⟨h1, -, h3⟩ := isP_lines hI
    rw [h1] at hp
    obtain ⟨r, hr, rfl⟩ := List.mem_map.1 hp
    rw [rd_line (h3 r hr)] at h
    cases h
theorem line_end {s : List UInt8} {xs : List Rec} (h : (linesB s).map (fun p => rdR (trimB p)) = xs.map some) : parB s = if bookB xs && textB xs == s then (xs, true) else ([], false) := by
  have e : ((linesB s).map fun p => (rdR (trimB p)).getD ⟨[], 0, 0, 0⟩) = xs := by
    have : ((linesB s).map fun p => (rdR (trimB p)).getD ⟨[], 0, 0, 0⟩) = ((linesB s).map (fun p => rdR (trimB p))).map (fun o => o.getD ⟨[], 0, 0, 0⟩) := by rw [List.map_map]; rfl
    rw [this, h, List.map_map]
    conv => rhs; rw [← List.map_id xs]
    exact List.map_congr_left fun r _ => rfl
  unfold parB
  simp only [e]
/-- What fails in the reference's course. -/
theorem part_no {s : List UInt8} {i : Nat} (hi : i + 1 < (splitP 10 s).length) (h : ∀ r, rdR (splitP 10 s)[i] = some r → r.sys = 0) : parB s = ([], false) :=
  parB_no fun xs hI => by
    obtain ⟨-, h1, h3⟩ := isP_lines hI
    have hl : (splitP 10 s).length = xs.length + 1 := by rw [h1]; simp
    have hix : i < xs.length := by omega
    have e : (splitP 10 s)[i] = recN xs[i] := by
      simp only [h1]
      rw [List.getElem_append_left (by simpa using hix), List.getElem_map]
    have hr := h3 xs[i] (List.getElem_mem hix)
    have := h xs[i] (by rw [e]; exact rd_rec hr)
    have := (rec_parts hr).2.2.1
    omega
theorem part_end {s : List UInt8} {i : Nat} {xs : List Rec} (hi : i + 1 ≤ (splitP 10 s).length) (h : ((splitP 10 s).take i).map rdR = xs.map some) (hq : i + 1 = (splitP 10 s).length ∨ 24 < xs.length) :
    parB s = if bookB xs && textB xs == s then (xs, true) else ([], false) := by
  cases hb : (bookB xs && textB xs == s)
  · rw [if_neg (by decide)]
    refine parB_no fun ys hI => ?_
    obtain ⟨-, h1, h3⟩ := isP_lines hI
    have hl : (splitP 10 s).length = ys.length + 1 := by rw [h1]; simp
    have hiy : i ≤ ys.length := by omega
    have e : xs = ys.take i := by
      have e1 : ((splitP 10 s).take i).map rdR = (ys.take i).map some := by
        rw [h1, List.take_append_of_le_length (by simpa using hiy), ← List.map_take, List.map_map]
        exact List.map_congr_left fun r hr => rd_rec (h3 r (List.mem_of_mem_take hr))
      rw [h] at e1
      exact map_some_inj e1
    have hly := book_le hI.1
    have hlx := congrArg List.length e
    rw [List.length_take] at hlx
    rcases hq with hq | hq
    · rw [show i = ys.length by omega, List.take_length] at e
      subst e
      rw [hI.1, hI.2] at hb
      simp at hb
    · omega
  · rw [Bool.and_eq_true, beq_iff_eq] at hb
    rw [if_pos rfl]
    exact is_parB hb
end Go.Proofs.YtpiimlmfcdjbbaaGreatDoor

/- Contracts: the bytes of a record, in the program; the law FnExactIsValidRecord. -/
namespace Go.Proofs.YtpiimlmfcdjbbaaGreatDoor
open Go.RowKit

theorem indexAny_neg (chars : List UInt8) : ∀ l : List UInt8, (0 ≤ Lib.indexAny l chars) = (l.any chars.contains = true)
  | [] => by simp [Lib.indexAny]
  | b :: l => by
    have ih := indexAny_neg chars l
    have hg := Lib.indexAny_ge chars l
    unfold Lib.indexAny
    by_cases h : chars.contains b = true
    · rw [if_pos h, List.any_cons, h]; simp
    · have h' : chars.contains b = false := by simpa using h
      rw [if_neg h, List.any_cons, h', Bool.false_or, ← ih]
      by_cases h1 : Lib.indexAny l chars = -1
      · rw [if_pos (beq_iff_eq.2 h1), h1]
      · rw [if_neg (by rw [beq_iff_eq]; exact h1)]; exact propext (by omega)
theorem containsAny_eq (l chars : List UInt8) : Lib.containsAny l chars = l.any chars.contains := by
  unfold Lib.containsAny
  have := indexAny_neg chars l
  by_cases h : l.any chars.contains = true
  · rw [h]; rw [h] at this; simp only [eq_self] at this; simpa using this
  · have h' : l.any chars.contains = false := by simpa using h
    rw [h']; rw [h'] at this; simpa using this
theorem seenB_ascii {l : List UInt8} (h : seenB l = true) : ∀ (j : Nat) b, l[j]? = some b → b.toNat < 128 := by
  intro j b hj
  have hm : b ∈ l := List.mem_of_getElem? hj
  have := (List.all_eq_true.1 h) b hm
  have := inB_true.1 this
  omega

/-- What 'printable' tells. -/
def printB (l chars : List UInt8) : Bool := seenB l && !Lib.containsAny l chars

/- left out: the seat has no impl.printable -/

/-- What the program calls a good record. -/
def goodI (c r : List UInt8) : Bool := inB c.length 1 160 && decide ((r.length : Int) ≤ 200) && printB c [35, 64] && printB r [35]

theorem u8_eq (c : UInt8) (n : Nat) (h : n < 256) : (c = UInt8.ofNat n) ↔ (c.toNat : Int) = n := by
  constructor
  · rintro rfl; simp; omega
  · intro e
    apply UInt8.toNat_inj.1
    simp
    omega

theorem printB_plain (l : List UInt8) : printB l [35] = allB l := by
  unfold printB seenB allB
  rw [containsAny_eq]
  induction l with
  | nil => rfl
  | cons c l ih =>
    simp only [List.all_cons, List.any_cons, Bool.not_or] at *
    rw [← ih, okB]
    have e : ([35] : List UInt8).contains c = ((c.toNat : Int) == 35) := by
      have := u8_eq c 35 (by decide)
      rw [Bool.eq_iff_iff]; simp; exact this
    rw [e]
    cases inB c.toNat 32 126 <;> cases ((c.toNat : Int) == 35) <;> simp
theorem printB_two (l : List UInt8) : printB l [35, 64] = (allB l && !hasB l 64) := by
  unfold printB seenB allB hasB
  rw [containsAny_eq]
  induction l with
  | nil => rfl
  | cons c l ih =>
    simp only [List.all_cons, List.any_cons, Bool.not_or] at *
    have e : ([35, 64] : List UInt8).contains c = (((c.toNat : Int) == 35) || ((c.toNat : Int) == 64)) := by
      have h1 := u8_eq c 35 (by decide)
      have h2 := u8_eq c 64 (by decide)
      rw [Bool.eq_iff_iff]; simp
      exact or_congr h1 h2
    rw [e, okB]
    revert ih
    generalize (l.all fun c => inB c.toNat 32 126) = p
    generalize (l.any ([35, 64] : List UInt8).contains) = q
    generalize (l.all okB) = u
    generalize (l.any fun c => (c.toNat : Int) == 64) = v
    generalize inB c.toNat 32 126 = x
    generalize ((c.toNat : Int) == 35) = y
    generalize ((c.toNat : Int) == 64) = z
    revert p q u v x y z
    decide
theorem goodI_eq (c r : List UInt8) : goodI c r = goodB c r := by
  unfold goodI goodB plainB
  rw [printB_plain, printB_two]
  cases c with
  | nil => simp [inB]
  | cons b c =>
    have e : inB (((b :: c).length : Nat) : Int) 1 160 = decide (((b :: c).length : Int) ≤ 160) := by
      simp [inB]; omega
    rw [e]
    generalize allB (b :: c) = x
    generalize decide (((b :: c).length : Int) ≤ 160) = y
    generalize hasB (b :: c) 64 = z
    generalize allB r = u
    generalize decide ((r.length : Int) ≤ 200) = v
    simp only [List.isEmpty_cons]
    revert x y z u v
    decide

theorem ascii2 : ∀ (j : Nat) b, (ByteArray.mk #[35, 64]).data.toList[j]? = some b → b.toNat < 128 := by
  intro j b hj
  have := List.mem_of_getElem? hj
  simp at this
  rcases this with rfl | rfl <;> decide
theorem ascii1 : ∀ (j : Nat) b, (ByteArray.mk #[35]).data.toList[j]? = some b → b.toNat < 128 := by
  intro j b hj
  have := List.mem_of_getElem? hj
  simp at this
  subst this; decide

/- left out: the seat has no impl.IsValidRecord -/

end Go.Proofs.YtpiimlmfcdjbbaaGreatDoor
