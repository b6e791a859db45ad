/- Lemmas and contracts for a law, put together out of several texts: GtL GtO GtX GtY GtZB GtCc GtM GtMB. -/
import Derived.Test.YtkhopkonddgicaaMg1
import Derived.Test.YtkhopkonddgicaaMg3
import Derived.Test.YtkhopkonddgicaaMg5
import Derived.Deep.DeepCutAuto
import Derived.BigRegion
/- Plain facts: pushing negations keeps the values. No program in sight. -/
namespace Go.Proofs.Ytkhopkonddgicaa

def dualK (k : Int) : Int := if k = 5 then 6 else if k = 6 then 5 else if k = 2 then 3 else if k = 3 then 2 else k
/-- The gates, and for each gate the number for its value and for the opposite one. -/
structure PSt where
  out : List Gt
  same : List Nat
  other : List Nat
def pushG (s : PSt) (g : Gt) : PSt :=
  if g.k = 4 then ⟨s.out, s.same ++ [s.other.getD g.a.toNat 0], s.other ++ [s.same.getD g.a.toNat 0]⟩
  else if g.k = 1 then ⟨s.out ++ [mvG (fun k => s.same.getD k 0) g] ++ [⟨4, (s.out.length : Nat), 0⟩], s.same ++ [s.out.length], s.other ++ [s.out.length + 1]⟩
  else ⟨s.out ++ [mvG (fun k => s.same.getD k 0) g] ++ [mvG (fun k => s.other.getD k 0) ⟨dualK g.k, g.a, g.b⟩], s.same ++ [s.out.length], s.other ++ [s.out.length + 1]⟩
def pushesG (gs : List Gt) : PSt := gs.foldl pushG ⟨[], [], []⟩
theorem pushes_snoc (gs : List Gt) (g : Gt) : pushesG (gs ++ [g]) = pushG (pushesG gs) g := by simp [pushesG]
structure PInv (vars : Int) (gs : List Gt) (s : PSt) : Prop where
  n1 : s.same.length = gs.length
  n2 : s.other.length = gs.length
  len : s.out.length ≤ 2 * gs.length
  ok : OkG vars s.out
  lt1 : ∀ i, i < gs.length → s.same.getD i 0 < s.out.length
  lt2 : ∀ i, i < gs.length → s.other.getD i 0 < s.out.length
  val1 : ∀ i, i < gs.length → ∀ bits, gval bits s.out (s.same.getD i 0) = gval bits gs i
  val2 : ∀ i, i < gs.length → ∀ bits, gval bits s.out (s.other.getD i 0) = !gval bits gs i
theorem getD_old {l : List Nat} {r i n : Nat} (hn : l.length = n) (hi : i < n) : (l ++ [r]).getD i 0 = l.getD i 0 := by
  rw [List.getD_eq_getElem?_getD, List.getElem?_append_left (by omega), ← List.getD_eq_getElem?_getD]
theorem getD_new {l : List Nat} {r n : Nat} (hn : l.length = n) : (l ++ [r]).getD n 0 = r := by
  rw [List.getD_eq_getElem?_getD, ← hn, List.getElem?_concat_length]; rfl
/-- One gate more. -/
theorem PInv.more {vars : Int} {gs : List Gt} {g : Gt} {s : PSt} {out' : List Gt} {a b : Nat} (h : PInv vars gs s) (hp : ∃ ms, out' = s.out ++ ms) (hl : out'.length ≤ s.out.length + 2) (hok : OkG vars out') (ha : a < out'.length) (hb : b < out'.length)
    (va : ∀ bits, gval bits out' a = gval bits (gs ++ [g]) gs.length) (vb : ∀ bits, gval bits out' b = !gval bits (gs ++ [g]) gs.length) : PInv vars (gs ++ [g]) ⟨out', s.same ++ [a], s.other ++ [b]⟩ := by
  obtain ⟨ms, rfl⟩ := hp
  have n1 := h.n1
  have n2 := h.n2
  have hlen := h.len
  refine ⟨by simp; omega, by simp; omega, by dsimp only; rw [show (gs ++ [g]).length = gs.length + 1 by simp]; omega, hok, fun i hi => ?_, fun i hi => ?_, fun i hi bits => ?_, fun i hi bits => ?_⟩
  all_goals
    rw [List.length_append, List.length_singleton] at hi
    dsimp only
    by_cases e : i < gs.length
  · rw [getD_old n1 e, List.length_append]; have := h.lt1 i e; omega
  · obtain rfl : i = gs.length := by omega
    rw [getD_new n1]; exact ha
  · rw [getD_old n2 e, List.length_append]; have := h.lt2 i e; omega
  · obtain rfl : i = gs.length := by omega
    rw [getD_new n2]; exact hb
  · rw [getD_old n1 e, gval_pre (h.lt1 i e), gval_snoc e]; exact h.val1 i e bits
  · obtain rfl : i = gs.length := by omega
    rw [getD_new n1]; exact va bits
  · rw [getD_old n2 e, gval_pre (h.lt2 i e), gval_snoc e]; exact h.val2 i e bits
  · obtain rfl : i = gs.length := by omega
    rw [getD_new n2]; exact vb bits
theorem ins_dual (g : Gt) : insG ⟨dualK g.k, g.a, g.b⟩ = insG g := by
  unfold insG dualK
  dsimp only
  by_cases h5 : g.k = 5
  · simp [h5]
  by_cases h6 : g.k = 6
  · simp [h6]
  by_cases h2 : g.k = 2
  · simp [h2]
  by_cases h3 : g.k = 3
  · simp [h3]
  simp [h5, h6, h2, h3]
theorem dual_ok {vars : Int} {i : Nat} {g : Gt} (h : gtB vars i g = true) (h1 : g.k ≠ 1) (h4 : g.k ≠ 4) : gtB vars i ⟨dualK g.k, g.a, g.b⟩ = true := by
  rw [gtB_iff] at h ⊢
  unfold dualK
  dsimp only
  by_cases h5 : g.k = 5
  · rw [if_pos h5]; omega
  by_cases h6 : g.k = 6
  · rw [if_neg h5, if_pos h6]; omega
  by_cases h2 : g.k = 2
  · rw [if_neg h5, if_neg h6, if_pos h2]; omega
  by_cases h3 : g.k = 3
  · rw [if_neg h5, if_neg h6, if_neg h2, if_pos h3]; omega
  omega
theorem dual_val {vars : Int} {i bits : Nat} {g : Gt} {p q : Nat → Bool} (h : gtB vars i g = true) (h1 : g.k ≠ 1) (h4 : g.k ≠ 4) (hpq : ∀ k ∈ insG g, p k = !q k) : gv bits p ⟨dualK g.k, g.a, g.b⟩ = !gv bits q g := by
  rw [gtB_iff] at h
  unfold insG at hpq
  have hk : g.k = 2 ∨ g.k = 3 ∨ g.k = 5 ∨ g.k = 6 := by omega
  rcases hk with hk | hk | hk | hk
  · simp [gv, dualK, hk]
  · simp [gv, dualK, hk]
  · simp only [hk] at hpq
    simp [gv, dualK, hk, hpq]
  · simp only [hk] at hpq
    simp [gv, dualK, hk, hpq]
theorem pinv_snoc {vars : Int} {gs : List Gt} {g : Gt} {s : PSt} (h : PInv vars gs s) (hg : gtB vars gs.length g = true) : PInv vars (gs ++ [g]) (pushG s g) := by
  have hlt := ins_lt hg
  have hv : ∀ bits, gval bits (gs ++ [g]) gs.length = gv bits (gval bits gs) g := fun bits => gval_new bits gs g
  unfold pushG
  by_cases h4 : g.k = 4
  · rw [if_pos h4]
    have hia : g.a.toNat < gs.length := hlt _ (by unfold insG; rw [if_pos h4]; exact List.mem_singleton.2 rfl)
    have hgv : ∀ bits, gv bits (gval bits gs) g = !gval bits gs g.a.toNat := fun bits => by simp [gv, h4]
    exact h.more ⟨[], by simp⟩ (by omega) h.ok (h.lt2 _ hia) (h.lt1 _ hia) (fun bits => by rw [hv, hgv]; exact h.val2 _ hia bits) (fun bits => by rw [hv, hgv, Bool.not_not]; exact h.val1 _ hia bits)
  rw [if_neg h4]
  have hm : gtB vars s.out.length (mvG (fun k => s.same.getD k 0) g) = true := mv_ok hg fun k hk => h.lt1 k (hlt k hk)
  have hok1 := h.ok.snoc hm
  have hl1 : (s.out ++ [mvG (fun k => s.same.getD k 0) g]).length = s.out.length + 1 := by simp
  have hv1 : ∀ bits, gval bits (s.out ++ [mvG (fun k => s.same.getD k 0) g]) s.out.length = gv bits (gval bits gs) g := fun bits => by
    rw [gval_new]; exact mv_val fun k hk => h.val1 k (hlt k hk) bits
  by_cases h1 : g.k = 1
  · rw [if_pos h1]
    have hn : gtB vars (s.out ++ [mvG (fun k => s.same.getD k 0) g]).length ⟨4, (s.out.length : Nat), 0⟩ = true := by rw [hl1, gtB_iff]; dsimp only; omega
    refine h.more ⟨[mvG (fun k => s.same.getD k 0) g, ⟨4, (s.out.length : Nat), 0⟩], by simp⟩ (by simp) (hok1.snoc hn) (by simp) (by simp) (fun bits => ?_) (fun bits => ?_)
    · rw [gval_snoc (by omega), hv1, hv]
    · have := gval_new bits (s.out ++ [mvG (fun k => s.same.getD k 0) g]) ⟨4, (s.out.length : Nat), 0⟩
      rw [hl1] at this
      rw [this, hv, ← hv1]; simp [gv]
  · rw [if_neg h1]
    have hd : gtB vars (s.out ++ [mvG (fun k => s.same.getD k 0) g]).length (mvG (fun k => s.other.getD k 0) ⟨dualK g.k, g.a, g.b⟩) = true := by
      refine mv_ok (dual_ok hg h1 h4) fun k hk => ?_
      rw [ins_dual] at hk
      rw [hl1]
      have := h.lt2 k (hlt k hk)
      omega
    refine h.more ⟨[mvG (fun k => s.same.getD k 0) g, mvG (fun k => s.other.getD k 0) ⟨dualK g.k, g.a, g.b⟩], by simp⟩ (by simp) (hok1.snoc hd) (by simp) (by simp) (fun bits => ?_) (fun bits => ?_)
    · rw [gval_snoc (by omega), hv1, hv]
    · have := gval_new bits (s.out ++ [mvG (fun k => s.same.getD k 0) g]) (mvG (fun k => s.other.getD k 0) ⟨dualK g.k, g.a, g.b⟩)
      rw [hl1] at this
      rw [this, hv]
      rw [mv_val (q := fun k => !gval bits gs k) fun k hk => ?_]
      · exact dual_val hg h1 h4 fun k _ => rfl
      · rw [ins_dual] at hk
        rw [gval_snoc (h.lt2 k (hlt k hk))]
        exact h.val2 k (hlt k hk) bits
theorem pinv {vars : Int} : ∀ (gs : List Gt), OkG vars gs → PInv vars gs (pushesG gs) := by
  intro gs
  induction gs using snoc_ind with
  | h0 => intro _; exact ⟨rfl, rfl, Nat.le_refl _, fun i hi => absurd hi (by simp [pushesG]), fun i hi => absurd hi (by simp), fun i hi => absurd hi (by simp), fun i hi => absurd hi (by simp), fun i hi => absurd hi (by simp)⟩
  | h1 gs g ih =>
    intro h
    have h1 : OkG vars gs := by
      have := h.take gs.length
      rwa [List.take_left] at this
    have h2 : gtB vars gs.length g = true := by
      have := h gs.length (by simp)
      rwa [List.getElem_concat_length rfl] at this
    rw [pushes_snoc]
    exact pinv_snoc (ih h1) h2
end Go.Proofs.Ytkhopkonddgicaa

/- Contracts: the dual kind; the closures that look a number up. -/
namespace Go.Proofs.Ytkhopkonddgicaa
open Go.RowKit

theorem dualKind_any (k : Int) (w : World) : Calls Try.prog 53 #[.int .i64 k] w fun e w' => e = .returned (.int .i64 (dualK k)) ∧ w = w' := by
  unfold dualK
  by_cases h5 : k = 5
  · subst h5
    go_enter Try.func53, Try.ntmps53
    go_wp2_with fail
    go_ret
    exact ⟨rfl, rfl⟩
  by_cases h6 : k = 6
  · subst h6
    go_enter Try.func53, Try.ntmps53
    go_wp2_with fail
    go_ret
    exact ⟨rfl, rfl⟩
  by_cases h2 : k = 2
  · subst h2
    go_enter Try.func53, Try.ntmps53
    go_wp2_with fail
    go_ret
    exact ⟨rfl, rfl⟩
  by_cases h3 : k = 3
  · subst h3
    go_enter Try.func53, Try.ntmps53
    go_wp2_with fail
    go_ret
    exact ⟨rfl, rfl⟩
  rw [if_neg h5, if_neg h6, if_neg h2, if_neg h3]
  go_enter Try.func53, Try.ntmps53
  go_wp2_with fail
  go_ret
  exact ⟨rfl, rfl⟩

theorem foldLook_any (b g n c k : Nat) (x : Int) (hk : k < n) (w : World) (h0 : w.cell? ⟨b, 0, none⟩ = some (.slice (some ⟨g, 0, none⟩) n c)) (h1 : w.cell? ⟨g, k, none⟩ = some (.int .i64 x)) :
    Calls Try.prog 89 #[.int .i64 k, .pointer (some ⟨b, 0, none⟩)] w fun e w' => e = .returned (.int .i64 x) ∧ Below w.heap.size w w' := by
  have hkl : (k : Int) < n := by omega
  go_enter Try.func89, Try.ntmps89
  go_wp2_with fail
  go_ret
  exact ⟨rfl, bb _⟩

theorem sameLook_any (b g n c k : Nat) (x : Int) (hk : k < n) (w : World) (h0 : w.cell? ⟨b, 0, none⟩ = some (.slice (some ⟨g, 0, none⟩) n c)) (h1 : w.cell? ⟨g, k, none⟩ = some (.int .i64 x)) :
    Calls Try.prog 52 #[.int .i64 k, .pointer (some ⟨b, 0, none⟩)] w fun e w' => e = .returned (.int .i64 x) ∧ Below w.heap.size w w' := by
  have hkl : (k : Int) < n := by omega
  go_enter Try.func52, Try.ntmps52
  go_wp2_with fail
  go_ret
  exact ⟨rfl, bb _⟩

theorem otherLook_any (b g n c k : Nat) (x : Int) (hk : k < n) (w : World) (h0 : w.cell? ⟨b, 0, none⟩ = some (.slice (some ⟨g, 0, none⟩) n c)) (h1 : w.cell? ⟨g, k, none⟩ = some (.int .i64 x)) :
    Calls Try.prog 54 #[.int .i64 k, .pointer (some ⟨b, 0, none⟩)] w fun e w' => e = .returned (.int .i64 x) ∧ Below w.heap.size w w' := by
  have hkl : (k : Int) < n := by omega
  go_enter Try.func54, Try.ntmps54
  go_wp2_with fail
  go_ret
  exact ⟨rfl, bb _⟩
end Go.Proofs.Ytkhopkonddgicaa

/- Contract: the folded circuit. -/
namespace Go.Proofs.Ytkhopkonddgicaa
open Go.RowKit

/-- Numbers that fill a block. -/
def numsA (n : Nat) (f : Nat → Nat) : Array Value := ((List.range n).map fun j => Value.int .i64 (f j : Nat)).toArray
theorem numsA_get {n m : Nat} {f : Nat → Nat} (h : m < n) : (numsA n f)[m]? = some (.int .i64 (f m : Nat)) := by simp [numsA, h]
theorem numsA_congr {n : Nat} {f g : Nat → Nat} (h : ∀ j, j < n → f j = g j) : numsA n f = numsA n g := by
  unfold numsA
  congr 1
  exact List.map_congr_left fun j hj => by rw [h j (List.mem_range.1 hj)]
theorem numsA_set (n m : Nat) (f : Nat → Nat) (x : Nat) : (numsA n f).setIfInBounds m (.int .i64 x) = numsA n (fun j => if j = m then x else f j) := by
  unfold numsA
  rw [List.setIfInBounds_toArray]
  congr 1
  apply List.ext_getElem?
  intro j
  rw [List.getElem?_set]
  by_cases hj : j < n
  · by_cases e : m = j
    · subst e; simp [hj]
    · simp [hj, e, Ne.symm e]
  · simp [hj]
    intro e
    omega
theorem numsA_made (n : Nat) : madeCells #[.int .i64 0] n = numsA n (fun _ => 0) := by
  apply Array.ext'
  rw [toList_madeCells_one]
  unfold numsA
  apply List.ext_getElem?
  intro j
  by_cases h : j < n
  · simp [h]
  · simp [h]

set_option maxRecDepth 100000 in
theorem mk_nums (k : Nat) (hk : k ≤ 1000000) (x : Int) (hx : x = k) (w : World) :
    (Instr.makeSlice 45 (.int .i64 x) (.int .i64 x)).run Try.prog w = .ok (.slice (some ⟨w.heap.size, 0, none⟩) k k) (w.alloc (.cells (numsA k fun _ => 0) 3)) := by
  obtain ⟨i, hi, h1, h2, h3⟩ : ∃ i, Try.prog.info? 3 = some i ∧ i.zero = some (.int .i64 0) ∧ i.size = 1 ∧ i.bytes = 8 := ⟨_, rfl, by kernel_rfl, by kernel_rfl, by kernel_rfl⟩
  subst hx
  have := run_make w 45 3 i (.int .i64 0) Try.underlying45 hi h1 .i64 .i64 (k : Int) (k : Int) (by omega) (by omega) (by rw [h3]; omega) (by omega)
  rw [h2] at this
  rw [← numsA_made]
  simpa [Value.cells] using this

/-- What the kept gates are cut to. -/
def cutK (s : List Gt × List Nat) (n : Nat) : List Gt := s.1.take (s.2.getD (n - 1) 0 + 1)
/-- The folded circuit. -/
def foldR (gs : List Gt) : List Gt := trimG (cutK (foldsG gs) gs.length) (needL (cutK (foldsG gs) gs.length))
theorem own_cap {w : World} {B : Nat} {e : TypeId} {n c size : Nat} {A : Option Addr} {cs : List Value} (h : w.ownsRow B e size (.slice A n c) n cs) : n ≤ c := by
  obtain ⟨_, ⟨e1, h0⟩ | ⟨g, cap, cur, e1, _, _, hc, _⟩⟩ := h
  · cases e1; omega
  · cases e1; omega

/-- What lies in memory while gates are folded. -/
abbrev FcSp (w : World) (n : Nat) (s : List Gt × List Nat) (sv : Value) (W : World) : Prop :=
  Sp w W [Box w.heap.size 91 #[sv], Own 41 3 sv s.1.length (s.1.flatMap gtEnc), Box (w.heap.size + 1) 3 (numsA n (fun j => s.2.getD j 0)), Box (w.heap.size + 1 + 1) 45 #[.slice (some ⟨w.heap.size + 1, 0, none⟩) n n]]
theorem folds_take {gs : List Gt} {q : Nat} (h : q < gs.length) : foldsG (gs.take (q + 1)) = ((foldG (foldsG (gs.take q)).1 (mvG (fun k => (foldsG (gs.take q)).2.getD k 0) gs[q])).1, (foldsG (gs.take q)).2 ++ [(foldG (foldsG (gs.take q)).1 (mvG (fun k => (foldsG (gs.take q)).2.getD k 0) gs[q])).2]) := by
  rw [List.take_succ_eq_append_getElem h, folds_snoc]

set_option maxRecDepth 100000 in
set_option maxHeartbeats 16000000 in
theorem foldCircuit_any {vars : Int} (A : Option Addr) (c : Nat) (gs : List Gt) (w : World) (hx : GtAt w A gs) (hg : OkG vars gs) (hp : 0 < gs.length) (hl : gs.length ≤ 1000) (hv : vars ≤ 1000) :
    Calls Try.prog 48 #[.slice A gs.length c] w fun e w' => ∃ v, e = .returned v ∧ Sp w w' [Own 41 3 v (foldR gs).length ((foldR gs).flatMap gtEnc)] := by
  have hmk := fun W => mk_nums gs.length (by omega) (gs.length : Int) rfl W
  obtain ⟨Z, hZ⟩ : ∃ Z, numsA gs.length (fun _ => 0) = Z := ⟨_, rfl⟩
  rw [hZ] at hmk
  have S1 := (((Sp.start w).alloc_box #[.slice none 0 0] 91).alloc_box Z 3).alloc_box #[.slice (some ⟨w.heap.size + 1, 0, none⟩) gs.length gs.length] 45
  simp only [World.size_alloc] at S1
  have S2 := (S1.own_nil 41 3).pick [3, 0, 1, 0] rfl
  have hZ2 : numsA gs.length (fun j => (foldsG (gs.take 0)).2.getD j 0) = Z := by
    rw [← hZ]
    exact numsA_congr fun j _ => by simp [foldsG]
  replace hZ2 := Lib.hid hZ2
  replace S2 := Lib.hid S2
  have eg : Enter1 89 := enters_of Try.func89 (by kernel_rfl) rfl
  replace eg := Lib.hid eg
  have hX := Lib.hid hx
  replace hg := Lib.hid hg
  clear S1 hZ hx
  go_enter Try.func48, Try.ntmps48
  go_wp2_with fail
  go_loopw [14] (fun i wr => ∃ (q : Nat) (sv : Value), q ≤ gs.length ∧ i = .int .i64 q ∧ Hid (FcSp w gs.length (foldsG (gs.take q)) sv wr)) (fun i _ => gs.length - (intOf i).toNat)
  case atStart =>
    refine ⟨0, .slice none 0 0, Nat.zero_le _, rfl, ?_⟩
    unfold Hid FcSp
    rw [hZ2.out]
    exact S2.out
  case round =>
    obtain ⟨q, sv, hq, rfl, hS⟩ := hrel
    by_cases hlt : q < gs.length
    · have hqi : (q : Int) < gs.length := by omega
      have hF := finv (gs.take q) (hg.out.take q)
      have hst := folds_take hlt
      have hX2 := hX.out.grow hS.out.below
      obtain ⟨bg, og, e, m0, m1, m2⟩ := hX2.at_ q hlt
      cases e
      have hgq := hg.out q hlt
      have hlt2 := ins_lt hgq
      have hgi := gtB_iff.1 hgq
      have hl2 : (gs.take q).length = q := by rw [List.length_take]; omega
      generalize foldsG (gs.take q) = s at hS hF hst
      obtain ⟨M, B⟩ := s
      generalize gs[q] = g at m0 m1 m2 hst hgq hlt2 hgi
      dsimp only at hst
      have hFn := hF.n
      have hFl := hF.len
      have hFt := hF.lt
      have hFo := hF.ok
      rw [hl2] at hFn hFl hFt
      dsimp only at hFn hFl hFt hFo
      unfold FcSp at hS
      dsimp only at hS
      have S3 := hS.out.alloc_box #[.int .i64 g.k, .int .i64 g.a, .int .i64 g.b] 41
      have d0 := S3.cell (i := 0) rfl (o := 0) rfl
      have d1 := S3.cell (i := 0) rfl (o := 1) rfl
      have d2 := S3.cell (i := 0) rfl (o := 2) rfl
      have d4 := S3.cell (i := 4) rfl (o := 0) rfl
      replace S3 := S3.drew
      have d5 := S3.cell (i := 4) rfl (o := 0) rfl
      have hmv := Lib.hid (moved_any (cb := #[.pointer (some ⟨w.heap.size + 1 + 1, 0, none⟩)]) eg.out (fun k => B.getD k 0) g (fun k hk => by have := hlt2 k hk; omega) (by omega) (by omega) _ (fun k hk W hW => foldLook_any (w.heap.size + 1 + 1) (w.heap.size + 1) gs.length gs.length k ((B.getD k 0 : Nat) : Int) (by have := hlt2 k hk; omega) W ((hW.cell (p := ⟨w.heap.size + 1 + 1, 0, none⟩) (S3.box (i := 4) rfl).2.1).trans d5) ((hW.cell (p := ⟨w.heap.size + 1, k, none⟩) (S3.box (i := 3) rfl).2.1).trans (S3.cell (i := 3) rfl (o := k) (numsA_get (by have := hlt2 k hk; omega))))))
      have hmg : gtB vars M.length (mvG (fun k => B.getD k 0) g) = true := mv_ok hgq fun k hk => hFt k (hlt2 k hk)
      generalize mvG (fun k => B.getD k 0) g = z at hmv hst hmg
      have hfo := Lib.hid (fun W ps h => fold_any (w0 := w) (ps := ps) w.heap.size sv M z W (gt_small hFo hv (by omega)) hFo (by omega) hmg h)
      generalize foldG M z = r at hst hfo
      obtain ⟨M', rr⟩ := r
      dsimp only at hst hfo
      replace hst := Lib.hid hst
      replace S3 := Lib.hid S3
      obtain ⟨gk, ga, gb⟩ := g
      dsimp only at m0 m1 m2 d0 d1 d2
      clear d5 hF hS hX2 hgi hlt2 hmg hFo hFt hgq S2 hZ2
      go_wp2_with fail
      refine wp_region_held_lit (S := (fun w' => w'.cell? ⟨w.heap.size + 1 + 1, 0, none⟩ = some (.slice (some ⟨w.heap.size + 1, 0, none⟩) gs.length gs.length) ∧ w'.cell? ⟨wr.heap.size, 0, none⟩ = some (.int .i64 gk) ∧ w'.cell? ⟨wr.heap.size, 1, none⟩ = some (.int .i64 ga) ∧ w'.cell? ⟨wr.heap.size, 2, none⟩ = some (.int .i64 gb))) 9 [false, false, false, false, false, false, false, false, false] (by kernel_rfl) (by kernel_rfl) (by kernel_rfl) ?_ ?_
      · exact ⟨d4, d0, d1, d2⟩
      intro hSc
      (refine wpAnyH_take (i := 0) (v := ?_) rfl (by kernel_rfl) (by kernel_rfl) (by kernel_rfl) (fun _ _ _ h => h) (Or.inl ⟨by rfl, ?_⟩) (by assumption) ?_; rotate_left; (focus (intro w hSw; (try dsimp only at hSw); go_simp; (try with_reducible rfl); done)); (try simp only [put_rules]))
      (refine wpAnyH_take (i := 1) (v := ?_) rfl (by kernel_rfl) (by kernel_rfl) (by kernel_rfl) (fun _ _ _ h => h) (Or.inl ⟨by rfl, ?_⟩) (by assumption) ?_; rotate_left; (focus (intro w hSw; (try dsimp only at hSw); go_simp; (try with_reducible rfl); done)); (try simp only [put_rules]))
      (refine wpAnyH_take (i := 2) (v := ?_) rfl (by kernel_rfl) (by kernel_rfl) (by kernel_rfl) (fun _ _ _ h => h) (Or.inl ⟨by rfl, ?_⟩) (by assumption) ?_; rotate_left; (focus (intro w hSw; (try dsimp only at hSw); go_simp; (try with_reducible rfl); done)); (try simp only [put_rules]))
      (refine wpAnyH_take (i := 3) (v := ?_) rfl (by kernel_rfl) (by kernel_rfl) (by kernel_rfl) (fun _ _ _ h => h) (Or.inl ⟨by rfl, ?_⟩) (by assumption) ?_; rotate_left; (focus (intro w hSw; (try dsimp only at hSw); go_simp; (try with_reducible rfl); done)); (try simp only [put_rules]))
      (refine wpAnyH_take (i := 4) (v := ?_) rfl (by kernel_rfl) (by kernel_rfl) (by kernel_rfl) (fun _ _ _ h => h) (Or.inl ⟨by rfl, ?_⟩) (by assumption) ?_; rotate_left; (focus (intro w hSw; (try dsimp only at hSw); go_simp; (try with_reducible rfl); done)); (try simp only [put_rules]))
      (refine wpAnyH_ready (rs := [5]) (by kernel_rfl) (by simp) ?_; refine AllReadyH.cons rfl (fun K hK => ?_) AllReadyH.nil)
      go_simp
      go_at_call 51
      refine hmv.out.mono ?_
      rintro e w2 ⟨rfl, hb2⟩
      have S4 := Lib.hid (S3.out.grow hb2)
      have hf2 := Lib.hid (hfo.out _ _ (S4.out.pick [1, 1, 0, 0, 0] rfl))
      clear hmv S3 hb2 hfo d0 d1 d2 d4 m0 m1 m2
      go_wp2_with fail
      refine hK.out _ _ ⟨S4.out.cell (i := 4) rfl (o := 0) rfl, S4.out.cell (i := 0) rfl (o := 0) rfl, S4.out.cell (i := 0) rfl (o := 1) rfl, S4.out.cell (i := 0) rfl (o := 2) rfl⟩ (fun hS2 => ?_)
      clear hK hSc S4
      (try simp only [put_rules])
      (refine wpAnyH_ready (rs := [6]) (by kernel_rfl) (by simp) ?_; refine AllReadyH.cons rfl (fun K hK => ?_) AllReadyH.nil)
      go_simp
      go_at_call 88
      refine hf2.out.mono ?_
      rintro e w3 ⟨sv', rfl, S5⟩
      unfold FoldSp at S5
      have t0 := S5.cell (i := 3) rfl (o := q) (numsA_get hlt)
      have t1 := S5.frozen (i := 3) rfl q
      replace S5 := Lib.hid S5
      clear hf2
      go_wp2_with fail
      refine hK.out _ _ ⟨S5.out.cell (i := 4) rfl (o := 0) rfl, S5.out.cell (i := 2) rfl (o := 0) rfl, S5.out.cell (i := 2) rfl (o := 1) rfl, S5.out.cell (i := 2) rfl (o := 2) rfl⟩ (fun hS3 => ?_)
      clear hK hS2
      (try simp only [put_rules])
      (refine wpAnyH_take (i := 7) (v := ?_) rfl (by kernel_rfl) (by kernel_rfl) (by kernel_rfl) (fun _ _ _ h => h) (Or.inl ⟨by rfl, ?_⟩) (by assumption) ?_; rotate_left; (focus (intro w hSw; (try dsimp only at hSw); go_simp; (try with_reducible rfl); done)); (try simp only [put_rules]))
      (refine wpAnyH_ready (rs := [8]) (by kernel_rfl) (by simp) ?_; refine AllReadyH.cons rfl (fun K hK => ?_) AllReadyH.nil)
      go_simp
      have S6 := S5.out.store (i := 3) rfl q (.int .i64 (rr : Nat))
      refine hK.out _ _ ⟨S6.cell (i := 4) rfl (o := 0) rfl, S6.cell (i := 2) rfl (o := 0) rfl, S6.cell (i := 2) rfl (o := 1) rfl, S6.cell (i := 2) rfl (o := 2) rfl⟩ (fun hS4 => ?_)
      have S7 := Lib.hid (S6.pick [0, 0, 1, 1] rfl)
      clear hK hS3 S5 S6 t0 t1
      (try simp only [put_rules])
      (refine wpAnyH_done (by kernel_rfl) ?_ _)
      clear hS4
      go_wp2_with fail
      go_roundw
      case rel =>
        refine ⟨q + 1, sv', by omega, by first | rfl | simp, ?_⟩
        unfold Hid FcSp
        rw [hst.out]
        have h := S7.out
        rw [numsA_set] at h
        rw [numsA_congr (g := fun j => (B ++ [rr]).getD j 0) (fun j _ => by
          by_cases e : j = q
          · subst e; rw [if_pos rfl, getD_new hFn]
          · rw [if_neg e]
            rcases Nat.lt_or_ge j q with h1 | h1
            · rw [getD_old hFn h1]
            · rw [List.getD_eq_getElem?_getD, List.getD_eq_getElem?_getD, List.getElem?_eq_none (by omega), List.getElem?_eq_none (by rw [List.length_append, List.length_singleton]; omega)])] at h
        exact h
      case measure => simp [intOf]; omega
    · obtain rfl : q = gs.length := by omega
      have hF := finv gs hg.out
      unfold FcSp at hS
      rw [List.take_length] at hS
      have hR : foldR gs = trimG (cutK (foldsG gs) gs.length) (needL (cutK (foldsG gs) gs.length)) := rfl
      unfold cutK at hR
      generalize foldsG gs = s at hS hF hR
      obtain ⟨M, B⟩ := s
      have hFl := hF.len
      have hFt := hF.lt (gs.length - 1) (by omega)
      have hFo := hF.ok
      dsimp only at hFl hFt hFo hR hS
      obtain ⟨aM, cM, e, hM⟩ := gt_own (hS.out.own (i := 1) rfl) (gt_small hFo hv (by omega))
      cases e
      have hcap := own_cap (hS.out.own (i := 1) rfl)
      obtain ⟨mb, mo, e, -, -, -⟩ := hM.at_ 0 (by omega)
      cases e
      obtain ⟨x, hx⟩ : ∃ x, B.getD (gs.length - 1) 0 = x := ⟨_, rfl⟩
      have t0 := hS.out.cell (i := 2) rfl (o := gs.length - 1) (numsA_get (by omega))
      rw [hx] at hFt hR t0
      obtain ⟨m, hm⟩ : ∃ m, gs.length - 1 = m := ⟨_, rfl⟩
      rw [hm] at t0
      have hmi : (m : Int) < gs.length := by omega
      have hw1 : IntKind.i64.wrap ((gs.length : Int) - 1) = (m : Int) := by rw [show (gs.length : Int) - 1 = m by omega]; exact IntWalk.i64_in _ (by omega)
      have hw2 : IntKind.i64.wrap ((x : Int) + 1) = ((x + 1 : Nat) : Int) := by rw [show (x : Int) + 1 = ((x + 1 : Nat) : Int) by omega]; exact IntWalk.i64_in _ (by omega)
      have hxc : (x : Int) + 1 ≤ cM := by omega
      have hx0 : (0 : Int) ≤ (x : Int) + 1 := by omega
      have htl : (M.take (x + 1)).length = x + 1 := by rw [List.length_take]; omega
      have htr := fun W (h : Below wr.heap.size wr W) => trim_any (some ⟨mb, mo, none⟩) cM (M.take (x + 1)) W ((hM.grow h).take (x + 1)) (hFo.take _) (by omega) (by omega) hv
      rw [htl, ← hR] at htr
      replace htr := Lib.hid htr
      have c0 := hS.out.cell (i := 0) rfl (o := 0) rfl
      have c1 := hS.out.cell (i := 3) rfl (o := 0) rfl
      replace hm := Lib.hid hm
      clear hF hFt hFo hR hM htl S2 hZ2
      go_wp2_with fail
      refine wp_region_held_lit (S := (fun w' => w'.cell? ⟨w.heap.size, 0, none⟩ = some (.slice (some ⟨mb, mo, none⟩) M.length cM) ∧ w'.cell? ⟨w.heap.size + 1 + 1, 0, none⟩ = some (.slice (some ⟨w.heap.size + 1, 0, none⟩) gs.length gs.length) ∧ w'.cell? ⟨w.heap.size + 1, m, none⟩ = some (.int .i64 (x : Int)))) 14 [false, false, false, false, false, false, false, false, false, false, false, false, false, false] (by kernel_rfl) (by kernel_rfl) (by kernel_rfl) ?_ ?_
      · exact ⟨c0, c1, t0⟩
      intro hSc
      (refine wpAnyH_take (i := 0) (v := ?_) rfl (by kernel_rfl) (by kernel_rfl) (by kernel_rfl) (fun _ _ _ h => h) (Or.inl ⟨by rfl, ?_⟩) (by assumption) ?_; rotate_left; (focus (intro w hSw; (try dsimp only at hSw); go_simp; (try with_reducible rfl); done)); (try simp only [put_rules]))
      (refine wpAnyH_take (i := 1) (v := ?_) rfl (by kernel_rfl) (by kernel_rfl) (by kernel_rfl) (fun _ _ _ h => h) (Or.inl ⟨by rfl, ?_⟩) (by assumption) ?_; rotate_left; (focus (intro w hSw; (try dsimp only at hSw); go_simp; (try with_reducible rfl); done)); (try simp only [put_rules]))
      (refine wpAnyH_take (i := 2) (v := ?_) rfl (by kernel_rfl) (by kernel_rfl) (by kernel_rfl) (fun _ _ _ h => h) (Or.inl ⟨by rfl, ?_⟩) (by assumption) ?_; rotate_left; (focus (intro w hSw; (try dsimp only at hSw); go_simp; (try with_reducible rfl); done)); (try simp only [put_rules]))
      (refine wpAnyH_take (i := 3) (v := ?_) rfl (by kernel_rfl) (by kernel_rfl) (by kernel_rfl) (fun _ _ _ h => h) (Or.inl ⟨by rfl, ?_⟩) (by assumption) ?_; rotate_left; (focus (intro w hSw; (try dsimp only at hSw); go_simp; (try with_reducible rfl); done)); (try simp only [put_rules]))
      (refine wpAnyH_take (i := 4) (v := ?_) rfl (by kernel_rfl) (by kernel_rfl) (by kernel_rfl) (fun _ _ _ h => h) (Or.inl ⟨by rfl, ?_⟩) (by assumption) ?_; rotate_left; (focus (intro w hSw; (try dsimp only at hSw); go_simp; (try with_reducible rfl); done)); (try simp only [put_rules]))
      (refine wpAnyH_take (i := 5) (v := ?_) rfl (by kernel_rfl) (by kernel_rfl) (by kernel_rfl) (fun _ _ _ h => h) (Or.inl ⟨by rfl, ?_⟩) (by assumption) ?_; rotate_left; (focus (intro w hSw; (try dsimp only at hSw); go_simp; (try with_reducible rfl); done)); (try simp only [put_rules]))
      (refine wpAnyH_take (i := 6) (v := ?_) rfl (by kernel_rfl) (by kernel_rfl) (by kernel_rfl) (fun _ _ _ h => h) (Or.inl ⟨by rfl, ?_⟩) (by assumption) ?_; rotate_left; (focus (intro w hSw; (try dsimp only at hSw); go_simp; (try with_reducible rfl); done)); (try simp only [put_rules]))
      (refine wpAnyH_take (i := 7) (v := ?_) rfl (by kernel_rfl) (by kernel_rfl) (by kernel_rfl) (fun _ _ _ h => h) (Or.inl ⟨by rfl, ?_⟩) (by assumption) ?_; rotate_left; (focus (intro w hSw; (try dsimp only at hSw); go_simp; (try with_reducible rfl); done)); (try simp only [put_rules]))
      (refine wpAnyH_take (i := 8) (v := ?_) rfl (by kernel_rfl) (by kernel_rfl) (by kernel_rfl) (fun _ _ _ h => h) (Or.inl ⟨by rfl, ?_⟩) (by assumption) ?_; rotate_left; (focus (intro w hSw; (try dsimp only at hSw); go_simp; (try with_reducible rfl); done)); (try simp only [put_rules]))
      (refine wpAnyH_take (i := 9) (v := ?_) rfl (by kernel_rfl) (by kernel_rfl) (by kernel_rfl) (fun _ _ _ h => h) (Or.inl ⟨by rfl, ?_⟩) (by assumption) ?_; rotate_left; (focus (intro w hSw; (try dsimp only at hSw); go_simp; (try with_reducible rfl); done)); (try simp only [put_rules]))
      (refine wpAnyH_take (i := 10) (v := ?_) rfl (by kernel_rfl) (by kernel_rfl) (by kernel_rfl) (fun _ _ _ h => h) (Or.inl ⟨by rfl, ?_⟩) (by assumption) ?_; rotate_left; (focus (intro w hSw; (try dsimp only at hSw); go_simp; (try with_reducible rfl); done)); (try simp only [put_rules]))
      (refine wpAnyH_take (i := 11) (v := ?_) rfl (by kernel_rfl) (by kernel_rfl) (by kernel_rfl) (fun _ _ _ h => h) (Or.inl ⟨by rfl, ?_⟩) (by assumption) ?_; rotate_left; (focus (intro w hSw; (try dsimp only at hSw); go_simp; (try with_reducible rfl); done)); (try simp only [put_rules]))
      have S3 := Lib.hid hS.out.drew
      have htr2 := Lib.hid (htr.out _ (bdr (bb wr)))
      clear htr hS c0 c1 t0
      (refine wpAnyH_ready (rs := [12]) (by kernel_rfl) (by simp) ?_; refine AllReadyH.cons rfl (fun K hK => ?_) AllReadyH.nil)
      go_simp
      go_at_call 55
      refine htr2.out.mono ?_
      rintro e w2 ⟨v, rfl, S4⟩
      have S5 := Lib.hid (S3.out.seq S4)
      clear htr2 S3 S4
      go_wp2_with fail
      refine hK.out _ _ ⟨S5.out.cell (i := 1) rfl (o := 0) rfl, S5.out.cell (i := 4) rfl (o := 0) rfl, by rw [← hx, ← hm.out]; exact S5.out.cell (i := 3) rfl (o := gs.length - 1) (numsA_get (by omega))⟩ (fun hS3 => ?_)
      clear hK hSc
      (try simp only [put_rules])
      (refine wpAnyH_take (i := 13) (v := ?_) rfl (by kernel_rfl) (by kernel_rfl) (by kernel_rfl) (fun _ _ _ h => h) (Or.inl ⟨by rfl, ?_⟩) (by assumption) ?_; rotate_left; (focus (intro w hSw; (try dsimp only at hSw); go_simp; (try with_reducible rfl); done)); (try simp only [put_rules]))
      (refine wpAnyH_done (by kernel_rfl) ?_ _)
      clear hS3
      go_wp2_with fail
      go_ret
      exact ⟨_, rfl, S5.out.pick [0] rfl⟩
end Go.Proofs.Ytkhopkonddgicaa

/- Contracts: circuits that are trimmed and folded. -/
namespace Go.Proofs.Ytkhopkonddgicaa
open Go.RowKit

/-- A circuit of its own and whether it is valid. -/
def GOut (w : World) (ok : Bool) (gs : List Gt) (e : Ending) (w' : World) : Prop :=
  ∃ v, e = .returned (.tuple #[v, .bool ok]) ∧ Sp w w' [Own 41 3 v (if ok then gs else []).length ((if ok then gs else []).flatMap gtEnc)]
theorem GOut.no {w w' : World} {gs : List Gt} (h : Below w.heap.size w w') : GOut w false gs (.returned (.tuple #[.slice none 0 0, .bool false])) w' := ⟨_, rfl, (Sp.of_below h).own_nil _ _⟩
theorem GOut.yes {w w' : World} {gs : List Gt} {v : Value} (h : Sp w w' [Own 41 3 v gs.length (gs.flatMap gtEnc)]) : GOut w true gs (.returned (.tuple #[v, .bool true])) w' := ⟨_, rfl, h⟩
theorem circ_vars {vars : Int} {gs : List Gt} (h : circB vars gs = true) : 0 ≤ vars ∧ vars ≤ 12 ∧ 0 < gs.length ∧ gs.length ≤ 200 ∧ OkG vars gs := by
  have h2 := h
  unfold circB at h2
  rw [Bool.and_eq_true, Bool.and_eq_true, inB_iff] at h2
  obtain ⟨n, rfl⟩ : ∃ n : Nat, vars = n := ⟨vars.toNat, by omega⟩
  have := circ_parts h
  refine ⟨by omega, by omega, this.2.1, this.2.2.1, this.2.2.2⟩

set_option maxRecDepth 100000 in
set_option maxHeartbeats 8000000 in
theorem foldM_any (vars : Int) (A : Option Addr) (c : Nat) (gs : List Gt) (w : World) (hx : GtAt w A gs) (hl : gs.length ≤ 1000) :
    Calls Try.prog 15 #[.int .i64 vars, .slice A gs.length c] w (GOut w (circB vars gs) (foldR gs)) := by
  have hc := isCircuit_any vars A c gs w hx (by omega)
  cases hq : circB vars gs
  · rw [hq] at hc
    replace hc := Lib.hid hc
    clear hx hq
    go_enter Try.func15, Try.ntmps15
    go_wp2_with fail
    refine hc.out.mono ?_
    rintro e w1 ⟨rfl, hb1⟩
    replace hb1 := Lib.hid hb1
    go_wp2_with fail
    go_ret2
    exact GOut.no hb1.out
  · rw [hq] at hc
    obtain ⟨-, hv, hp, -, hok⟩ := circ_vars hq
    have hf := Lib.hid (fun W (h : Below w.heap.size w W) => foldCircuit_any A c gs W (hx.grow h) hok hp hl (by omega))
    replace hc := Lib.hid hc
    clear hx hq hok
    go_enter Try.func15, Try.ntmps15
    go_wp2_with fail
    refine hc.out.mono ?_
    rintro e w1 ⟨rfl, hb1⟩
    have hf2 := Lib.hid (hf.out _ hb1)
    replace hb1 := Lib.hid (Sp.of_below hb1)
    clear hf hc
    go_wp2_with fail
    refine hf2.out.mono ?_
    rintro e w2 ⟨v, rfl, S2⟩
    have S3 := Lib.hid (hb1.out.seq S2)
    clear hf2 hb1 S2
    go_wp2_with fail
    go_ret2
    exact GOut.yes S3.out

set_option maxRecDepth 100000 in
set_option maxHeartbeats 8000000 in
theorem trimM_any (vars : Int) (A : Option Addr) (c : Nat) (gs : List Gt) (w : World) (hx : GtAt w A gs) (hl : gs.length ≤ 1000) :
    Calls Try.prog 19 #[.int .i64 vars, .slice A gs.length c] w (GOut w (circB vars gs) (trimG gs (needL gs))) := by
  have hc := isCircuit_any vars A c gs w hx (by omega)
  cases hq : circB vars gs
  · rw [hq] at hc
    replace hc := Lib.hid hc
    clear hx hq
    go_enter Try.func19, Try.ntmps19
    go_wp2_with fail
    refine hc.out.mono ?_
    rintro e w1 ⟨rfl, hb1⟩
    replace hb1 := Lib.hid hb1
    go_wp2_with fail
    go_ret2
    exact GOut.no hb1.out
  · rw [hq] at hc
    obtain ⟨-, hv, hp, -, hok⟩ := circ_vars hq
    have hf := Lib.hid (fun W (h : Below w.heap.size w W) => trim_any A c gs W (hx.grow h) hok hp hl (by omega))
    replace hc := Lib.hid hc
    clear hx hq hok
    go_enter Try.func19, Try.ntmps19
    go_wp2_with fail
    refine hc.out.mono ?_
    rintro e w1 ⟨rfl, hb1⟩
    have hf2 := Lib.hid (hf.out _ hb1)
    replace hb1 := Lib.hid (Sp.of_below hb1)
    clear hf hc
    go_wp2_with fail
    refine hf2.out.mono ?_
    rintro e w2 ⟨v, rfl, S2⟩
    have S3 := Lib.hid (hb1.out.seq S2)
    clear hf2 hb1 S2
    go_wp2_with fail
    go_ret2
    exact GOut.yes S3.out

end Go.Proofs.Ytkhopkonddgicaa

/- Contract: pushing negations. -/
namespace Go.Proofs.Ytkhopkonddgicaa
open Go.RowKit

/-- What lies in memory while negations are pushed. -/
abbrev PnSp (w : World) (ob n : Nat) (s : PSt) (sv : Value) (a1 a2 b1 b2 : Nat) (W : World) : Prop :=
  Sp w W [Box ob 28 #[sv], Own 41 3 sv s.out.length (s.out.flatMap gtEnc), Box b1 45 #[.slice (some ⟨a1, 0, none⟩) n n], Box b2 45 #[.slice (some ⟨a2, 0, none⟩) n n], Box a1 3 (numsA n (fun j => s.same.getD j 0)), Box a2 3 (numsA n (fun j => s.other.getD j 0))]

/-- What the pushed gates are cut to. -/
def cutP (s : PSt) (n : Nat) : List Gt := s.out.take (s.same.getD (n - 1) 0 + 1)
/-- The circuit with pushed negations. -/
def pushR (gs : List Gt) : List Gt := trimG (cutP (pushesG gs) gs.length) (needL (cutP (pushesG gs) gs.length))
theorem pushes_take {gs : List Gt} {q : Nat} (h : q < gs.length) : pushesG (gs.take (q + 1)) = pushG (pushesG (gs.take q)) gs[q] := by
  rw [List.take_succ_eq_append_getElem h, pushes_snoc]
theorem numsA_snoc {n q x : Nat} {l : List Nat} (h : l.length = q) : (numsA n (fun j => l.getD j 0)).setIfInBounds q (.int .i64 x) = numsA n (fun j => (l ++ [x]).getD j 0) := by
  rw [numsA_set]
  refine numsA_congr fun j _ => ?_
  by_cases e : j = q
  · subst e; rw [if_pos rfl, getD_new h]
  · rw [if_neg e]
    rcases Nat.lt_or_ge j q with h1 | h1
    · rw [getD_old h h1]
    · rw [List.getD_eq_getElem?_getD, List.getD_eq_getElem?_getD, List.getElem?_eq_none (by omega), List.getElem?_eq_none (by rw [List.length_append, List.length_singleton]; omega)]
theorem pushG_4 (s : PSt) (a b : Int) : pushG s ⟨4, a, b⟩ = ⟨s.out, s.same ++ [s.other.getD a.toNat 0], s.other ++ [s.same.getD a.toNat 0]⟩ := rfl
theorem pushG_1 (s : PSt) (a b : Int) : pushG s ⟨1, a, b⟩ = ⟨s.out ++ [mvG (fun k => s.same.getD k 0) ⟨1, a, b⟩] ++ [⟨4, (s.out.length : Nat), 0⟩], s.same ++ [s.out.length], s.other ++ [s.out.length + 1]⟩ := rfl
theorem pushG_o (s : PSt) {k a b : Int} (h1 : k ≠ 1) (h4 : k ≠ 4) : pushG s ⟨k, a, b⟩ = ⟨s.out ++ [mvG (fun k => s.same.getD k 0) ⟨k, a, b⟩] ++ [mvG (fun k => s.other.getD k 0) ⟨dualK k, a, b⟩], s.same ++ [s.out.length], s.other ++ [s.out.length + 1]⟩ := by
  unfold pushG
  dsimp only
  rw [if_neg h4, if_neg h1]
theorem chain4 {w W : World} {ps : List Asn} {N : Nat} (S : Sp w W ps) (hN : W.heap.size = N) (c1 c2 c3 c4 : Array Value) (t1 t2 t3 t4 : TypeId) :
    Sp w ((((W.alloc (.cells c1 t1)).alloc (.cells c2 t2)).alloc (.cells c3 t3)).alloc (.cells c4 t4)).drew (Box (N + 1 + 1 + 1) t4 c4 :: Box (N + 1 + 1) t3 c3 :: Box (N + 1) t2 c2 :: Box N t1 c1 :: ps) := by
  have h := ((((S.alloc_box c1 t1).alloc_box c2 t2).alloc_box c3 t3).alloc_box c4 t4).drew
  simp only [World.size_alloc, hN] at h
  exact h

set_option maxRecDepth 100000 in
set_option maxHeartbeats 16000000 in
theorem push_any (vars : Int) (A : Option Addr) (c : Nat) (gs : List Gt) (w : World) (hx : GtAt w A gs) (hcb : circB vars gs = true) :
    Calls Try.prog 17 #[.int .i64 vars, .slice A gs.length c] w (GOut w (decide ((pushesG gs).out.length ≤ 200)) (pushR gs)) := by
  obtain ⟨-, hv, hp, hl, hg⟩ := circ_vars hcb
  have hc := isCircuit_any vars A c gs w hx (by omega)
  rw [hcb] at hc
  replace hc := Lib.hid hc
  have hmk := fun W => mk_nums gs.length (by omega) (gs.length : Int) rfl W
  obtain ⟨Z, hZ⟩ : ∃ Z, numsA gs.length (fun _ => 0) = Z := ⟨_, rfl⟩
  rw [hZ] at hmk
  have hX := Lib.hid hx
  replace hg := Lib.hid hg
  clear hx
  go_enter Try.func17, Try.ntmps17
  go_wp2_with fail
  refine hc.out.mono ?_
  rintro e w1 ⟨rfl, hb1⟩
  have S1 := (Sp.of_below hb1).alloc_box #[.slice none 0 0] 28
  have hN : (w1.alloc (.cells #[.slice none 0 0] 28)).heap.size = w1.heap.size + 1 := by simp
  go_upto_region 5 with fail
  go_cut [8, 9] (fun s8 s9 wx => ∃ a1 a2 b1 b2 : Nat, s8 = .pointer (some ⟨b1, 0, none⟩) ∧ s9 = .pointer (some ⟨b2, 0, none⟩) ∧ Hid (Sp w wx [Box w1.heap.size 28 #[.slice none 0 0], Box b1 45 #[.slice (some ⟨a1, 0, none⟩) gs.length gs.length], Box b2 45 #[.slice (some ⟨a2, 0, none⟩) gs.length gs.length], Box a1 3 Z, Box a2 3 Z]))
  case first =>
    go_region
    all_goals go_wp2_with fail
    all_goals go_meet
    all_goals first
      | exact ⟨_, _, _, _, rfl, rfl, Lib.hid (Sp.pick [4, 0, 0, 0, 0] (chain4 S1 hN _ _ _ _ _ _ _ _) rfl)⟩
      | exact ⟨_, _, _, _, rfl, rfl, Lib.hid (Sp.pick [4, 0, 0, 1, 0] (chain4 S1 hN _ _ _ _ _ _ _ _) rfl)⟩
      | exact ⟨_, _, _, _, rfl, rfl, Lib.hid (Sp.pick [4, 0, 1, 0, 0] (chain4 S1 hN _ _ _ _ _ _ _ _) rfl)⟩
      | exact ⟨_, _, _, _, rfl, rfl, Lib.hid (Sp.pick [4, 0, 1, 1, 0] (chain4 S1 hN _ _ _ _ _ _ _ _) rfl)⟩
      | exact ⟨_, _, _, _, rfl, rfl, Lib.hid (Sp.pick [4, 0, 2, 0, 0] (chain4 S1 hN _ _ _ _ _ _ _ _) rfl)⟩
      | exact ⟨_, _, _, _, rfl, rfl, Lib.hid (Sp.pick [4, 0, 2, 1, 0] (chain4 S1 hN _ _ _ _ _ _ _ _) rfl)⟩
      | exact ⟨_, _, _, _, rfl, rfl, Lib.hid (Sp.pick [4, 1, 0, 0, 0] (chain4 S1 hN _ _ _ _ _ _ _ _) rfl)⟩
      | exact ⟨_, _, _, _, rfl, rfl, Lib.hid (Sp.pick [4, 1, 0, 1, 0] (chain4 S1 hN _ _ _ _ _ _ _ _) rfl)⟩
      | exact ⟨_, _, _, _, rfl, rfl, Lib.hid (Sp.pick [4, 1, 1, 0, 0] (chain4 S1 hN _ _ _ _ _ _ _ _) rfl)⟩
      | exact ⟨_, _, _, _, rfl, rfl, Lib.hid (Sp.pick [4, 1, 1, 1, 0] (chain4 S1 hN _ _ _ _ _ _ _ _) rfl)⟩
      | exact ⟨_, _, _, _, rfl, rfl, Lib.hid (Sp.pick [4, 1, 2, 0, 0] (chain4 S1 hN _ _ _ _ _ _ _ _) rfl)⟩
      | exact ⟨_, _, _, _, rfl, rfl, Lib.hid (Sp.pick [4, 1, 2, 1, 0] (chain4 S1 hN _ _ _ _ _ _ _ _) rfl)⟩
      | exact ⟨_, _, _, _, rfl, rfl, Lib.hid (Sp.pick [4, 2, 0, 0, 0] (chain4 S1 hN _ _ _ _ _ _ _ _) rfl)⟩
      | exact ⟨_, _, _, _, rfl, rfl, Lib.hid (Sp.pick [4, 2, 0, 1, 0] (chain4 S1 hN _ _ _ _ _ _ _ _) rfl)⟩
      | exact ⟨_, _, _, _, rfl, rfl, Lib.hid (Sp.pick [4, 2, 1, 0, 0] (chain4 S1 hN _ _ _ _ _ _ _ _) rfl)⟩
      | exact ⟨_, _, _, _, rfl, rfl, Lib.hid (Sp.pick [4, 2, 1, 1, 0] (chain4 S1 hN _ _ _ _ _ _ _ _) rfl)⟩
      | exact ⟨_, _, _, _, rfl, rfl, Lib.hid (Sp.pick [4, 2, 2, 0, 0] (chain4 S1 hN _ _ _ _ _ _ _ _) rfl)⟩
      | exact ⟨_, _, _, _, rfl, rfl, Lib.hid (Sp.pick [4, 2, 2, 1, 0] (chain4 S1 hN _ _ _ _ _ _ _ _) rfl)⟩
      | exact ⟨_, _, _, _, rfl, rfl, Lib.hid (Sp.pick [4, 3, 0, 0, 0] (chain4 S1 hN _ _ _ _ _ _ _ _) rfl)⟩
      | exact ⟨_, _, _, _, rfl, rfl, Lib.hid (Sp.pick [4, 3, 0, 1, 0] (chain4 S1 hN _ _ _ _ _ _ _ _) rfl)⟩
      | exact ⟨_, _, _, _, rfl, rfl, Lib.hid (Sp.pick [4, 3, 1, 0, 0] (chain4 S1 hN _ _ _ _ _ _ _ _) rfl)⟩
      | exact ⟨_, _, _, _, rfl, rfl, Lib.hid (Sp.pick [4, 3, 1, 1, 0] (chain4 S1 hN _ _ _ _ _ _ _ _) rfl)⟩
      | exact ⟨_, _, _, _, rfl, rfl, Lib.hid (Sp.pick [4, 3, 2, 0, 0] (chain4 S1 hN _ _ _ _ _ _ _ _) rfl)⟩
      | exact ⟨_, _, _, _, rfl, rfl, Lib.hid (Sp.pick [4, 3, 2, 1, 0] (chain4 S1 hN _ _ _ _ _ _ _ _) rfl)⟩
  case rest =>
    obtain ⟨a1, a2, b1, b2, rfl, rfl, S2⟩ := hcut
    have hZ2 : Hid (numsA gs.length (fun j => (pushesG (gs.take 0)).same.getD j 0) = Z ∧ numsA gs.length (fun j => (pushesG (gs.take 0)).other.getD j 0) = Z) := by
      unfold Hid
      rw [← hZ]
      exact ⟨numsA_congr fun j _ => by simp [pushesG], numsA_congr fun j _ => by simp [pushesG]⟩
    have S3 := Lib.hid ((S2.out.own_nil 41 3).pick [1, 0, 0, 0, 0, 0] rfl)
    obtain ⟨ob, hob⟩ : ∃ ob, w1.heap.size = ob := ⟨_, rfl⟩
    rw [hob] at S3 ⊢
    have eg2 : Enter1 52 := enters_of Try.func52 (by kernel_rfl) rfl
    have eg3 : Enter1 54 := enters_of Try.func54 (by kernel_rfl) rfl
    replace eg2 := Lib.hid eg2
    replace eg3 := Lib.hid eg3
    clear S1 S2 hN hob hc hmk hZ hb1
    go_wp2_with fail
    go_loopw [25] (fun i wr => ∃ (q : Nat) (sv : Value), q ≤ gs.length ∧ i = .int .i64 q ∧ Hid (PnSp w ob gs.length (pushesG (gs.take q)) sv a1 a2 b1 b2 wr)) (fun i _ => gs.length - (intOf i).toNat)
    case atStart =>
      refine ⟨0, .slice none 0 0, Nat.zero_le _, rfl, ?_⟩
      unfold Hid PnSp
      rw [hZ2.out.1, hZ2.out.2]
      exact S3.out
    case round =>
      obtain ⟨q, sv, hq, rfl, hS⟩ := hrel
      clear S3 hZ2
      by_cases hlt : q < gs.length
      · have hqi : (q : Int) < gs.length := by omega
        have hP := pinv (gs.take q) (hg.out.take q)
        have hst := pushes_take hlt
        have hX2 := hX.out.grow hS.out.below
        obtain ⟨bg, og, e, m0, m1, m2⟩ := hX2.at_ q hlt
        cases e
        have hgq := hg.out q hlt
        have hlt2 := ins_lt hgq
        have hgi := gtB_iff.1 hgq
        have hl2 : (gs.take q).length = q := by rw [List.length_take]; omega
        generalize pushesG (gs.take q) = s at hS hP hst
        obtain ⟨M, sm, ot⟩ := s
        generalize gs[q] = g at m0 m1 m2 hst hgq hlt2 hgi
        obtain ⟨gk, ga, gb⟩ := g
        have hn1 := hP.n1
        have hn2 := hP.n2
        have hlen := hP.len
        rw [hl2] at hn1 hn2 hlen
        dsimp only at hn1 hn2 hlen m0 m1 m2 hgi
        unfold PnSp at hS
        dsimp only at hS
        have S3 := Lib.hid (hS.out.alloc_box #[.int .i64 gk, .int .i64 ga, .int .i64 gb] 41)
        have d0 := S3.out.cell (i := 0) rfl (o := 0) rfl
        have d1 := S3.out.cell (i := 0) rfl (o := 1) rfl
        have d2 := S3.out.cell (i := 0) rfl (o := 2) rfl
        have d3 := S3.out.cell (i := 3) rfl (o := 0) rfl
        have d4 := S3.out.cell (i := 4) rfl (o := 0) rfl
        replace hgi := Lib.hid hgi
        replace hst := Lib.hid hst
        clear hP hS hX2 hgq
        by_cases h4 : gk = 4
        · subst h4
          have hins : insG ⟨4, ga, gb⟩ = [ga.toNat] := rfl
          obtain ⟨a, rfl⟩ : ∃ a : Nat, ga = a := ⟨ga.toNat, by have := hgi.out; omega⟩
          have haq : a < q := by have := hgi.out; omega
          have hai : (a : Int) < gs.length := by omega
          have t0 := S3.out.cell (i := 6) rfl (o := a) (numsA_get (by omega))
          have t1 := S3.out.cell (i := 5) rfl (o := q) (numsA_get (by omega))
          have t2 := S3.out.frozen (i := 5) rfl q
          rw [pushG_4, Int.toNat_natCast] at hst
          dsimp only at hst
          obtain ⟨x, hx⟩ : ∃ x, ot.getD a 0 = x := ⟨_, rfl⟩
          rw [hx] at hst t0
          obtain ⟨y, hy⟩ : ∃ y, sm.getD a 0 = y := ⟨_, rfl⟩
          rw [hy] at hst
          clear hins hx
          go_wp2_with fail
          go_region
          have S4 := (S3.out.store (i := 5) rfl q (.int .i64 x)).drew
          simp only [List.set_cons_zero, List.set_cons_succ] at S4
          rw [numsA_snoc hn1] at S4
          have e1 := S4.cell (i := 0) rfl (o := 1) rfl
          have e3 := S4.cell (i := 3) rfl (o := 0) rfl
          have e4 := S4.cell (i := 4) rfl (o := 0) rfl
          have t3 := S4.cell (i := 5) rfl (o := a) (numsA_get (by omega))
          rw [getD_old hn1 haq, hy] at t3
          have t4 := S4.cell (i := 6) rfl (o := q) (numsA_get (by omega))
          have t5 := S4.frozen (i := 6) rfl q
          replace S4 := Lib.hid S4
          clear S3 d0 d1 d2 d3 d4 t0 t1 t2 hy m0 m1 m2
          go_wp2_with fail
          go_region
          have S5 := (S4.out.store (i := 6) rfl q (.int .i64 y)).drew
          simp only [List.set_cons_zero, List.set_cons_succ] at S5
          rw [numsA_snoc hn2] at S5
          replace S5 := Lib.hid S5.tail
          clear S4 e1 e3 e4 t3 t4 t5
          go_wp2_with fail
          go_roundw
          case rel =>
            refine ⟨q + 1, sv, by omega, by first | rfl | simp, ?_⟩
            unfold Hid PnSp
            rw [hst.out]
            exact S5.out
          case measure => simp [intOf]; omega
        have hfa1 : ∀ k ∈ insG (⟨gk, ga, gb⟩ : Gt), k ≤ 1000000 := fun k hk => by have := hlt2 k hk; omega
        have hga0 : 0 ≤ ga := by have := hgi.out; omega
        have hgb0 : 0 ≤ gb := by have := hgi.out; omega
        have S3d := S3.out.drew
        have x3 := S3d.cell (i := 3) rfl (o := 0) rfl
        have hmv := Lib.hid (moved_any (cb := #[.pointer (some ⟨b1, 0, none⟩)]) eg2.out (fun k => sm.getD k 0) ⟨gk, ga, gb⟩ hfa1 hga0 hgb0 _ (fun k hk W hW => sameLook_any b1 a1 gs.length gs.length k ((sm.getD k 0 : Nat) : Int) (by have := hlt2 k hk; omega) W ((hW.cell (p := ⟨b1, 0, none⟩) (S3d.box (i := 3) rfl).2.1).trans x3) ((hW.cell (p := ⟨a1, k, none⟩) (S3d.box (i := 5) rfl).2.1).trans (S3d.cell (i := 5) rfl (o := k) (numsA_get (by have := hlt2 k hk; omega))))))
        have hst1 : Hid (gk = 1 → pushG ⟨M, sm, ot⟩ ⟨gk, ga, gb⟩ = ⟨M ++ [mvG (fun k => sm.getD k 0) ⟨gk, ga, gb⟩] ++ [⟨4, (M.length : Nat), 0⟩], sm ++ [M.length], ot ++ [M.length + 1]⟩) := fun e => by subst e; rfl
        have hst2 : Hid (gk ≠ 1 → pushG ⟨M, sm, ot⟩ ⟨gk, ga, gb⟩ = ⟨M ++ [mvG (fun k => sm.getD k 0) ⟨gk, ga, gb⟩] ++ [mvG (fun k => ot.getD k 0) ⟨dualK gk, ga, gb⟩], sm ++ [M.length], ot ++ [M.length + 1]⟩) := fun e => pushG_o _ e h4
        generalize mvG (fun k => sm.getD k 0) ⟨gk, ga, gb⟩ = z at hmv hst1 hst2
        replace S3 := Lib.hid S3d
        clear x3 S3d hfa1
        go_wp2_with fail
        refine wp_region_held_lit (S := (fun w' => w'.cell? ⟨b1, 0, none⟩ = some (.slice (some ⟨a1, 0, none⟩) gs.length gs.length) ∧ w'.cell? ⟨wr.heap.size, 0, none⟩ = some (.int .i64 gk) ∧ w'.cell? ⟨wr.heap.size, 1, none⟩ = some (.int .i64 ga) ∧ w'.cell? ⟨wr.heap.size, 2, none⟩ = some (.int .i64 gb))) 9 [false, false, false, false, false, false, false, false, false] (by kernel_rfl) (by kernel_rfl) (by kernel_rfl) ?_ ?_
        · exact ⟨d3, d0, d1, d2⟩
        intro hSc
        (refine wpAnyH_take (i := 0) (v := ?_) rfl (by kernel_rfl) (by kernel_rfl) (by kernel_rfl) (fun _ _ _ h => h) (Or.inl ⟨by rfl, ?_⟩) (by assumption) ?_; rotate_left; (focus (intro w hSw; (try dsimp only at hSw); go_simp; (try with_reducible rfl); done)); (try simp only [put_rules]))
        (refine wpAnyH_take (i := 1) (v := ?_) rfl (by kernel_rfl) (by kernel_rfl) (by kernel_rfl) (fun _ _ _ h => h) (Or.inl ⟨by rfl, ?_⟩) (by assumption) ?_; rotate_left; (focus (intro w hSw; (try dsimp only at hSw); go_simp; (try with_reducible rfl); done)); (try simp only [put_rules]))
        (refine wpAnyH_take (i := 2) (v := ?_) rfl (by kernel_rfl) (by kernel_rfl) (by kernel_rfl) (fun _ _ _ h => h) (Or.inl ⟨by rfl, ?_⟩) (by assumption) ?_; rotate_left; (focus (intro w hSw; (try dsimp only at hSw); go_simp; (try with_reducible rfl); done)); (try simp only [put_rules]))
        (refine wpAnyH_take (i := 3) (v := ?_) rfl (by kernel_rfl) (by kernel_rfl) (by kernel_rfl) (fun _ _ _ h => h) (Or.inl ⟨by rfl, ?_⟩) (by assumption) ?_; rotate_left; (focus (intro w hSw; (try dsimp only at hSw); go_simp; (try with_reducible rfl); done)); (try simp only [put_rules]))
        (refine wpAnyH_take (i := 4) (v := ?_) rfl (by kernel_rfl) (by kernel_rfl) (by kernel_rfl) (fun _ _ _ h => h) (Or.inl ⟨by rfl, ?_⟩) (by assumption) ?_; rotate_left; (focus (intro w hSw; (try dsimp only at hSw); go_simp; (try with_reducible rfl); done)); (try simp only [put_rules]))
        (refine wpAnyH_ready (rs := [5]) (by kernel_rfl) (by simp) ?_; refine AllReadyH.cons rfl (fun K hK => ?_) AllReadyH.nil)
        go_simp
        go_at_call 51
        refine hmv.out.mono ?_
        rintro e w2 ⟨rfl, hb2⟩
        have S4 := Lib.hid (S3.out.grow hb2)
        have hf2 := Lib.hid (addG_any ob sv M z _ (by omega) (S4.out.pick [1, 1, 0, 0, 0, 0, 0] rfl))
        clear hmv S3 hb2 d0 d1 d2 d3 d4 m0 m1 m2
        go_wp2_with fail
        refine hK.out _ _ ⟨S4.out.cell (i := 3) rfl (o := 0) rfl, S4.out.cell (i := 0) rfl (o := 0) rfl, S4.out.cell (i := 0) rfl (o := 1) rfl, S4.out.cell (i := 0) rfl (o := 2) rfl⟩ (fun hS2 => ?_)
        clear hK hSc S4
        (try simp only [put_rules])
        (refine wpAnyH_ready (rs := [6]) (by kernel_rfl) (by simp) ?_; refine AllReadyH.cons rfl (fun K hK => ?_) AllReadyH.nil)
        go_simp
        refine hf2.out.mono ?_
        rintro e w3 ⟨sv', rfl, S5⟩
        unfold AddSp at S5
        have t0 := S5.cell (i := 5) rfl (o := q) (numsA_get (by omega))
        have t1 := S5.frozen (i := 5) rfl q
        replace S5 := Lib.hid S5
        clear hf2
        go_wp2_with fail
        refine hK.out _ _ ⟨S5.out.cell (i := 3) rfl (o := 0) rfl, S5.out.cell (i := 2) rfl (o := 0) rfl, S5.out.cell (i := 2) rfl (o := 1) rfl, S5.out.cell (i := 2) rfl (o := 2) rfl⟩ (fun hS3 => ?_)
        clear hK hS2
        (try simp only [put_rules])
        (refine wpAnyH_take (i := 7) (v := ?_) rfl (by kernel_rfl) (by kernel_rfl) (by kernel_rfl) (fun _ _ _ h => h) (Or.inl ⟨by rfl, ?_⟩) (by assumption) ?_; rotate_left; (focus (intro w hSw; (try dsimp only at hSw); go_simp; (try with_reducible rfl); done)); (try simp only [put_rules]))
        (refine wpAnyH_ready (rs := [8]) (by kernel_rfl) (by simp) ?_; refine AllReadyH.cons rfl (fun K hK => ?_) AllReadyH.nil)
        go_simp
        have S6 := S5.out.store (i := 5) rfl q (.int .i64 (M.length : Nat))
        simp only [List.set_cons_zero, List.set_cons_succ] at S6
        rw [numsA_snoc hn1] at S6
        refine hK.out _ _ ⟨S6.cell (i := 3) rfl (o := 0) rfl, S6.cell (i := 2) rfl (o := 0) rfl, S6.cell (i := 2) rfl (o := 1) rfl, S6.cell (i := 2) rfl (o := 2) rfl⟩ (fun hS4 => ?_)
        clear hK hS3 S5 t0 t1
        (try simp only [put_rules])
        (refine wpAnyH_done (by kernel_rfl) ?_ _)
        clear hS4
        have v0 := S6.cell (i := 2) rfl (o := 0) rfl
        by_cases h1 : gk = 1
        · subst h1
          have hst3 := hst1.out rfl
          clear hst1 hst2 h4
          have v3 := S6.cell (i := 3) rfl (o := 0) rfl
          have v4 := S6.cell (i := 4) rfl (o := 0) rfl
          have v5 := S6.cell (i := 5) rfl (o := q) (numsA_get hlt)
          rw [getD_new hn1] at v5
          have hf3 := Lib.hid (addG_any ob sv' (M ++ [z]) ⟨4, (M.length : Nat), 0⟩ _ (by rw [List.length_append, List.length_singleton]; omega) S6.drew)
          rw [show (M ++ [z]).length = M.length + 1 by simp] at hf3
          replace S6 := Lib.hid S6
          rw [hst3] at hst
          clear hst3
          go_wp2_with fail
          refine wp_region_held_lit (S := (fun w' => w'.cell? ⟨b1, 0, none⟩ = some (.slice (some ⟨a1, 0, none⟩) gs.length gs.length) ∧ w'.cell? ⟨b2, 0, none⟩ = some (.slice (some ⟨a2, 0, none⟩) gs.length gs.length) ∧ w'.cell? ⟨a1, q, none⟩ = some (.int .i64 (M.length : Nat)))) 11 [false, false, false, false, false, false, false, false, false, false, false] (by kernel_rfl) (by kernel_rfl) (by kernel_rfl) ?_ ?_
          · exact ⟨v3, v4, v5⟩
          intro hSc
          (refine wpAnyH_take (i := 0) (v := ?_) rfl (by kernel_rfl) (by kernel_rfl) (by kernel_rfl) (fun _ _ _ h => h) (Or.inl ⟨by rfl, ?_⟩) (by assumption) ?_; rotate_left; (focus (intro w hSw; (try dsimp only at hSw); go_simp; (try with_reducible rfl); done)); (try simp only [put_rules]))
          (refine wpAnyH_take (i := 1) (v := ?_) rfl (by kernel_rfl) (by kernel_rfl) (by kernel_rfl) (fun _ _ _ h => h) (Or.inl ⟨by rfl, ?_⟩) (by assumption) ?_; rotate_left; (focus (intro w hSw; (try dsimp only at hSw); go_simp; (try with_reducible rfl); done)); (try simp only [put_rules]))
          (refine wpAnyH_take (i := 2) (v := ?_) rfl (by kernel_rfl) (by kernel_rfl) (by kernel_rfl) (fun _ _ _ h => h) (Or.inl ⟨by rfl, ?_⟩) (by assumption) ?_; rotate_left; (focus (intro w hSw; (try dsimp only at hSw); go_simp; (try with_reducible rfl); done)); (try simp only [put_rules]))
          (refine wpAnyH_take (i := 3) (v := ?_) rfl (by kernel_rfl) (by kernel_rfl) (by kernel_rfl) (fun _ _ _ h => h) (Or.inl ⟨by rfl, ?_⟩) (by assumption) ?_; rotate_left; (focus (intro w hSw; (try dsimp only at hSw); go_simp; (try with_reducible rfl); done)); (try simp only [put_rules]))
          (refine wpAnyH_take (i := 4) (v := ?_) rfl (by kernel_rfl) (by kernel_rfl) (by kernel_rfl) (fun _ _ _ h => h) (Or.inl ⟨by rfl, ?_⟩) (by assumption) ?_; rotate_left; (focus (intro w hSw; (try dsimp only at hSw); go_simp; (try with_reducible rfl); done)); (try simp only [put_rules]))
          (refine wpAnyH_take (i := 5) (v := ?_) rfl (by kernel_rfl) (by kernel_rfl) (by kernel_rfl) (fun _ _ _ h => h) (Or.inl ⟨by rfl, ?_⟩) (by assumption) ?_; rotate_left; (focus (intro w hSw; (try dsimp only at hSw); go_simp; (try with_reducible rfl); done)); (try simp only [put_rules]))
          (refine wpAnyH_take (i := 6) (v := ?_) rfl (by kernel_rfl) (by kernel_rfl) (by kernel_rfl) (fun _ _ _ h => h) (Or.inl ⟨by rfl, ?_⟩) (by assumption) ?_; rotate_left; (focus (intro w hSw; (try dsimp only at hSw); go_simp; (try with_reducible rfl); done)); (try simp only [put_rules]))
          (refine wpAnyH_take (i := 7) (v := ?_) rfl (by kernel_rfl) (by kernel_rfl) (by kernel_rfl) (fun _ _ _ h => h) (Or.inl ⟨by rfl, ?_⟩) (by assumption) ?_; rotate_left; (focus (intro w hSw; (try dsimp only at hSw); go_simp; (try with_reducible rfl); done)); (try simp only [put_rules]))
          (refine wpAnyH_ready (rs := [8]) (by kernel_rfl) (by simp) ?_; refine AllReadyH.cons rfl (fun K hK => ?_) AllReadyH.nil)
          go_simp
          refine hf3.out.mono ?_
          rintro e w4 ⟨sv2, rfl, S7⟩
          unfold AddSp at S7
          have t0 := S7.cell (i := 6) rfl (o := q) (numsA_get hlt)
          have t1 := S7.frozen (i := 6) rfl q
          have t2 := S7.cell (i := 5) rfl (o := q) (numsA_get hlt)
          rw [getD_new hn1] at t2
          replace S7 := Lib.hid S7
          clear hf3 S6
          go_wp2_with fail
          refine hK.out _ _ ⟨S7.out.cell (i := 3) rfl (o := 0) rfl, S7.out.cell (i := 4) rfl (o := 0) rfl, t2⟩ (fun hS5 => ?_)
          clear hK hSc
          (try simp only [put_rules])
          (refine wpAnyH_take (i := 9) (v := ?_) rfl (by kernel_rfl) (by kernel_rfl) (by kernel_rfl) (fun _ _ _ h => h) (Or.inl ⟨by rfl, ?_⟩) (by assumption) ?_; rotate_left; (focus (intro w hSw; (try dsimp only at hSw); go_simp; (try with_reducible rfl); done)); (try simp only [put_rules]))
          (refine wpAnyH_ready (rs := [10]) (by kernel_rfl) (by simp) ?_; refine AllReadyH.cons rfl (fun K hK => ?_) AllReadyH.nil)
          go_simp
          have S8 := S7.out.store (i := 6) rfl q (.int .i64 ((M.length + 1 : Nat) : Int))
          simp only [List.set_cons_zero, List.set_cons_succ] at S8
          rw [numsA_snoc hn2] at S8
          have t3 := S8.cell (i := 5) rfl (o := q) (numsA_get hlt)
          rw [getD_new hn1] at t3
          refine hK.out _ _ ⟨S8.cell (i := 3) rfl (o := 0) rfl, S8.cell (i := 4) rfl (o := 0) rfl, t3⟩ (fun hS6 => ?_)
          have S9 := Lib.hid (S8.pick [0, 0, 1, 1, 1, 1] rfl)
          clear hK hS5 S7 S8 t0 t1 t2 t3
          (try simp only [put_rules])
          (refine wpAnyH_done (by kernel_rfl) ?_ _)
          clear hS6 v0 v3 v4 v5
          go_wp2_with fail
          go_roundw
          case rel =>
            refine ⟨q + 1, sv2, by omega, by first | rfl | simp, ?_⟩
            unfold Hid PnSp
            rw [hst.out]
            exact S9.out
          case measure => simp [intOf]; omega
        · have hst3 := hst2.out h1
          clear hst1 hst2
          rw [hst3] at hst
          clear hst3
          have hdk := Lib.hid (fun W => dualKind_any gk W)
          have v8 := S6.frozen (i := 2) rfl 0
          have S7 := S6.store (i := 2) rfl 0 (.int .i64 (dualK gk))
          simp only [List.set_cons_zero, List.set_cons_succ] at S7
          have d0 := S7.cell (i := 2) rfl (o := 0) rfl
          have d1 := S7.cell (i := 2) rfl (o := 1) rfl
          have d2 := S7.cell (i := 2) rfl (o := 2) rfl
          have d4 := S7.cell (i := 4) rfl (o := 0) rfl
          have S7d := S7.drew
          have x4 := S7d.cell (i := 4) rfl (o := 0) rfl
          have hid2 : insG ⟨dualK gk, ga, gb⟩ = insG ⟨gk, ga, gb⟩ := ins_dual ⟨gk, ga, gb⟩
          have hmv := Lib.hid (moved_any (cb := #[.pointer (some ⟨b2, 0, none⟩)]) eg3.out (fun k => ot.getD k 0) ⟨dualK gk, ga, gb⟩ (fun k hk => by rw [hid2] at hk; have := hlt2 k hk; omega) hga0 hgb0 _ (fun k hk W hW => by
            rw [hid2] at hk
            exact otherLook_any b2 a2 gs.length gs.length k ((ot.getD k 0 : Nat) : Int) (by have := hlt2 k hk; omega) W ((hW.cell (p := ⟨b2, 0, none⟩) (S7d.box (i := 4) rfl).2.1).trans x4) ((hW.cell (p := ⟨a2, k, none⟩) (S7d.box (i := 6) rfl).2.1).trans (S7d.cell (i := 6) rfl (o := k) (numsA_get (by have := hlt2 k hk; omega))))))
          generalize mvG (fun k => ot.getD k 0) ⟨dualK gk, ga, gb⟩ = y at hmv hst
          obtain ⟨dk, hdk2⟩ : ∃ dk, dualK gk = dk := ⟨_, rfl⟩
          rw [hdk2] at hmv hdk d0 S7d
          clear hdk2 hid2 S6 S7 x4
          replace S7 := Lib.hid S7d
          clear S7d
          go_wp2_with fail
          refine (hdk.out _).mono ?_
          rintro e w4 ⟨rfl, rfl⟩
          go_wp2_with fail
          refine wp_region_held_lit (S := (fun w' => w'.cell? ⟨b2, 0, none⟩ = some (.slice (some ⟨a2, 0, none⟩) gs.length gs.length) ∧ w'.cell? ⟨wr.heap.size, 0, none⟩ = some (.int .i64 dk) ∧ w'.cell? ⟨wr.heap.size, 1, none⟩ = some (.int .i64 ga) ∧ w'.cell? ⟨wr.heap.size, 2, none⟩ = some (.int .i64 gb))) 9 [false, false, false, false, false, false, false, false, false] (by kernel_rfl) (by kernel_rfl) (by kernel_rfl) ?_ ?_
          · exact ⟨S7.out.cell (i := 4) rfl (o := 0) rfl, S7.out.cell (i := 2) rfl (o := 0) rfl, S7.out.cell (i := 2) rfl (o := 1) rfl, S7.out.cell (i := 2) rfl (o := 2) rfl⟩
          intro hSc
          (refine wpAnyH_take (i := 0) (v := ?_) rfl (by kernel_rfl) (by kernel_rfl) (by kernel_rfl) (fun _ _ _ h => h) (Or.inl ⟨by rfl, ?_⟩) (by assumption) ?_; rotate_left; (focus (intro w hSw; (try dsimp only at hSw); go_simp; (try with_reducible rfl); done)); (try simp only [put_rules]))
          (refine wpAnyH_take (i := 1) (v := ?_) rfl (by kernel_rfl) (by kernel_rfl) (by kernel_rfl) (fun _ _ _ h => h) (Or.inl ⟨by rfl, ?_⟩) (by assumption) ?_; rotate_left; (focus (intro w hSw; (try dsimp only at hSw); go_simp; (try with_reducible rfl); done)); (try simp only [put_rules]))
          (refine wpAnyH_take (i := 2) (v := ?_) rfl (by kernel_rfl) (by kernel_rfl) (by kernel_rfl) (fun _ _ _ h => h) (Or.inl ⟨by rfl, ?_⟩) (by assumption) ?_; rotate_left; (focus (intro w hSw; (try dsimp only at hSw); go_simp; (try with_reducible rfl); done)); (try simp only [put_rules]))
          (refine wpAnyH_take (i := 3) (v := ?_) rfl (by kernel_rfl) (by kernel_rfl) (by kernel_rfl) (fun _ _ _ h => h) (Or.inl ⟨by rfl, ?_⟩) (by assumption) ?_; rotate_left; (focus (intro w hSw; (try dsimp only at hSw); go_simp; (try with_reducible rfl); done)); (try simp only [put_rules]))
          (refine wpAnyH_take (i := 4) (v := ?_) rfl (by kernel_rfl) (by kernel_rfl) (by kernel_rfl) (fun _ _ _ h => h) (Or.inl ⟨by rfl, ?_⟩) (by assumption) ?_; rotate_left; (focus (intro w hSw; (try dsimp only at hSw); go_simp; (try with_reducible rfl); done)); (try simp only [put_rules]))
          (refine wpAnyH_ready (rs := [5]) (by kernel_rfl) (by simp) ?_; refine AllReadyH.cons rfl (fun K hK => ?_) AllReadyH.nil)
          go_simp
          go_at_call 51
          refine hmv.out.mono ?_
          rintro e w5 ⟨rfl, hb5⟩
          have S8 := Lib.hid (S7.out.grow hb5)
          have hf3 := Lib.hid (addG_any ob sv' (M ++ [z]) y _ (by rw [List.length_append, List.length_singleton]; omega) S8.out)
          rw [show (M ++ [z]).length = M.length + 1 by simp] at hf3
          clear hmv S7 hb5 d0 d1 d2 d4
          go_wp2_with fail
          refine hK.out _ _ ⟨S8.out.cell (i := 4) rfl (o := 0) rfl, S8.out.cell (i := 2) rfl (o := 0) rfl, S8.out.cell (i := 2) rfl (o := 1) rfl, S8.out.cell (i := 2) rfl (o := 2) rfl⟩ (fun hS5 => ?_)
          clear hK hSc S8
          (try simp only [put_rules])
          (refine wpAnyH_ready (rs := [6]) (by kernel_rfl) (by simp) ?_; refine AllReadyH.cons rfl (fun K hK => ?_) AllReadyH.nil)
          go_simp
          refine hf3.out.mono ?_
          rintro e w6 ⟨sv2, rfl, S9⟩
          unfold AddSp at S9
          have t0 := S9.cell (i := 6) rfl (o := q) (numsA_get hlt)
          have t1 := S9.frozen (i := 6) rfl q
          replace S9 := Lib.hid S9
          clear hf3
          go_wp2_with fail
          refine hK.out _ _ ⟨S9.out.cell (i := 4) rfl (o := 0) rfl, S9.out.cell (i := 2) rfl (o := 0) rfl, S9.out.cell (i := 2) rfl (o := 1) rfl, S9.out.cell (i := 2) rfl (o := 2) rfl⟩ (fun hS6 => ?_)
          clear hK hS5
          (try simp only [put_rules])
          (refine wpAnyH_take (i := 7) (v := ?_) rfl (by kernel_rfl) (by kernel_rfl) (by kernel_rfl) (fun _ _ _ h => h) (Or.inl ⟨by rfl, ?_⟩) (by assumption) ?_; rotate_left; (focus (intro w hSw; (try dsimp only at hSw); go_simp; (try with_reducible rfl); done)); (try simp only [put_rules]))
          (refine wpAnyH_ready (rs := [8]) (by kernel_rfl) (by simp) ?_; refine AllReadyH.cons rfl (fun K hK => ?_) AllReadyH.nil)
          go_simp
          have SA := S9.out.store (i := 6) rfl q (.int .i64 ((M.length + 1 : Nat) : Int))
          simp only [List.set_cons_zero, List.set_cons_succ] at SA
          rw [numsA_snoc hn2] at SA
          refine hK.out _ _ ⟨SA.cell (i := 4) rfl (o := 0) rfl, SA.cell (i := 2) rfl (o := 0) rfl, SA.cell (i := 2) rfl (o := 1) rfl, SA.cell (i := 2) rfl (o := 2) rfl⟩ (fun hS7 => ?_)
          have SB := Lib.hid (SA.pick [0, 0, 1, 1, 1, 1] rfl)
          clear hK hS6 S9 SA t0 t1
          (try simp only [put_rules])
          (refine wpAnyH_done (by kernel_rfl) ?_ _)
          clear hS7 v0
          go_wp2_with fail
          go_roundw
          case rel =>
            refine ⟨q + 1, sv2, by omega, by first | rfl | simp, ?_⟩
            unfold Hid PnSp
            rw [hst.out]
            exact SB.out
          case measure => simp [intOf]; omega
      · obtain rfl : q = gs.length := by omega
        have hP := pinv gs hg.out
        unfold PnSp at hS
        rw [List.take_length] at hS
        have hR : pushR gs = trimG (cutP (pushesG gs) gs.length) (needL (cutP (pushesG gs) gs.length)) := rfl
        unfold cutP at hR
        have hO : ∃ L, (pushesG gs).out.length = L := ⟨_, rfl⟩
        obtain ⟨L, hO⟩ := hO
        have hOL := hO
        generalize hse : pushesG gs = s at hS hP hR hOL
        clear hse
        obtain ⟨M, B, ot⟩ := s
        dsimp only at hOL
        subst hOL
        replace hO := Lib.hid hO
        have hPl := hP.len
        have hPt := hP.lt1 (gs.length - 1) (by omega)
        have hPo := hP.ok
        dsimp only at hPl hPt hPo hS hR
        obtain ⟨aM, cM, e, hM⟩ := gt_own (hS.out.own (i := 1) rfl) (gt_small hPo (by omega) (by omega))
        cases e
        have hcap := own_cap (hS.out.own (i := 1) rfl)
        obtain ⟨mb, mo, e, -, -, -⟩ := hM.at_ 0 (by omega)
        cases e
        have c0 := hS.out.cell (i := 0) rfl (o := 0) rfl
        by_cases hbig : M.length ≤ 200
        · have hd : decide ((pushesG gs).out.length ≤ 200) = true := by rw [hO.out]; exact decide_eq_true hbig
          replace hd := Lib.hid hd
          have hbi : ¬ (200 : Int) < M.length := by omega
          obtain ⟨x, hx⟩ : ∃ x, B.getD (gs.length - 1) 0 = x := ⟨_, rfl⟩
          have t0 := hS.out.cell (i := 4) rfl (o := gs.length - 1) (numsA_get (by omega))
          rw [hx] at hPt t0 hR
          obtain ⟨m, hm⟩ : ∃ m, gs.length - 1 = m := ⟨_, rfl⟩
          rw [hm] at t0
          have hmi : (m : Int) < gs.length := by omega
          have hw1 : IntKind.i64.wrap ((gs.length : Int) - 1) = (m : Int) := by rw [show (gs.length : Int) - 1 = m by omega]; exact IntWalk.i64_in _ (by omega)
          have hw2 : IntKind.i64.wrap ((x : Int) + 1) = ((x + 1 : Nat) : Int) := by rw [show (x : Int) + 1 = ((x + 1 : Nat) : Int) by omega]; exact IntWalk.i64_in _ (by omega)
          have hxc : (x : Int) + 1 ≤ cM := by omega
          have hx0 : (0 : Int) ≤ (x : Int) + 1 := by omega
          have htl : (M.take (x + 1)).length = x + 1 := by rw [List.length_take]; omega
          have htr := fun W (h : Below wr.heap.size wr W) => trim_any (some ⟨mb, mo, none⟩) cM (M.take (x + 1)) W ((hM.grow h).take (x + 1)) (hPo.take _) (by omega) (by omega) (by omega)
          rw [htl] at htr
          rw [← hR] at htr
          clear hR
          generalize hRR : pushR gs = R at htr
          replace hRR := Lib.hid hRR
          have c1 := hS.out.cell (i := 2) rfl (o := 0) rfl
          have S3 := Lib.hid hS.out.drew
          have htr2 := Lib.hid (htr _ (bdr (bb wr)))
          replace hm := Lib.hid hm
          clear hP hPt hPo hM htl htr hS
          go_wp2_with fail
          refine wp_region_held_lit (S := (fun w' => w'.cell? ⟨ob, 0, none⟩ = some (.slice (some ⟨mb, mo, none⟩) M.length cM) ∧ w'.cell? ⟨b1, 0, none⟩ = some (.slice (some ⟨a1, 0, none⟩) gs.length gs.length) ∧ w'.cell? ⟨a1, m, none⟩ = some (.int .i64 (x : Int)))) 12 [false, false, false, false, false, false, false, false, false, false, false, false] (by kernel_rfl) (by kernel_rfl) (by kernel_rfl) ?_ ?_
          · exact ⟨c0, c1, t0⟩
          intro hSc
          (refine wpAnyH_take (i := 0) (v := ?_) rfl (by kernel_rfl) (by kernel_rfl) (by kernel_rfl) (fun _ _ _ h => h) (Or.inl ⟨by rfl, ?_⟩) (by assumption) ?_; rotate_left; (focus (intro w hSw; (try dsimp only at hSw); go_simp; (try with_reducible rfl); done)); (try simp only [put_rules]))
          (refine wpAnyH_take (i := 1) (v := ?_) rfl (by kernel_rfl) (by kernel_rfl) (by kernel_rfl) (fun _ _ _ h => h) (Or.inl ⟨by rfl, ?_⟩) (by assumption) ?_; rotate_left; (focus (intro w hSw; (try dsimp only at hSw); go_simp; (try with_reducible rfl); done)); (try simp only [put_rules]))
          (refine wpAnyH_take (i := 2) (v := ?_) rfl (by kernel_rfl) (by kernel_rfl) (by kernel_rfl) (fun _ _ _ h => h) (Or.inl ⟨by rfl, ?_⟩) (by assumption) ?_; rotate_left; (focus (intro w hSw; (try dsimp only at hSw); go_simp; (try with_reducible rfl); done)); (try simp only [put_rules]))
          (refine wpAnyH_take (i := 3) (v := ?_) rfl (by kernel_rfl) (by kernel_rfl) (by kernel_rfl) (fun _ _ _ h => h) (Or.inl ⟨by rfl, ?_⟩) (by assumption) ?_; rotate_left; (focus (intro w hSw; (try dsimp only at hSw); go_simp; (try with_reducible rfl); done)); (try simp only [put_rules]))
          (refine wpAnyH_take (i := 4) (v := ?_) rfl (by kernel_rfl) (by kernel_rfl) (by kernel_rfl) (fun _ _ _ h => h) (Or.inl ⟨by rfl, ?_⟩) (by assumption) ?_; rotate_left; (focus (intro w hSw; (try dsimp only at hSw); go_simp; (try with_reducible rfl); done)); (try simp only [put_rules]))
          (refine wpAnyH_take (i := 5) (v := ?_) rfl (by kernel_rfl) (by kernel_rfl) (by kernel_rfl) (fun _ _ _ h => h) (Or.inl ⟨by rfl, ?_⟩) (by assumption) ?_; rotate_left; (focus (intro w hSw; (try dsimp only at hSw); go_simp; (try with_reducible rfl); done)); (try simp only [put_rules]))
          (refine wpAnyH_take (i := 6) (v := ?_) rfl (by kernel_rfl) (by kernel_rfl) (by kernel_rfl) (fun _ _ _ h => h) (Or.inl ⟨by rfl, ?_⟩) (by assumption) ?_; rotate_left; (focus (intro w hSw; (try dsimp only at hSw); go_simp; (try with_reducible rfl); done)); (try simp only [put_rules]))
          (refine wpAnyH_take (i := 7) (v := ?_) rfl (by kernel_rfl) (by kernel_rfl) (by kernel_rfl) (fun _ _ _ h => h) (Or.inl ⟨by rfl, ?_⟩) (by assumption) ?_; rotate_left; (focus (intro w hSw; (try dsimp only at hSw); go_simp; (try with_reducible rfl); done)); (try simp only [put_rules]))
          (refine wpAnyH_take (i := 8) (v := ?_) rfl (by kernel_rfl) (by kernel_rfl) (by kernel_rfl) (fun _ _ _ h => h) (Or.inl ⟨by rfl, ?_⟩) (by assumption) ?_; rotate_left; (focus (intro w hSw; (try dsimp only at hSw); go_simp; (try with_reducible rfl); done)); (try simp only [put_rules]))
          clear c0 c1 t0
          (refine wpAnyH_ready (rs := [9]) (by kernel_rfl) (by simp) ?_; refine AllReadyH.cons rfl (fun K hK => ?_) AllReadyH.nil)
          go_simp
          go_at_call 55
          refine htr2.out.mono ?_
          rintro e w2 ⟨v, rfl, S4⟩
          have S5 := Lib.hid (S3.out.seq S4)
          clear htr2 S3 S4
          go_wp2_with fail
          refine hK.out _ _ ⟨S5.out.cell (i := 1) rfl (o := 0) rfl, S5.out.cell (i := 3) rfl (o := 0) rfl, by rw [← hx, ← hm.out]; exact S5.out.cell (i := 5) rfl (o := gs.length - 1) (numsA_get (by omega))⟩ (fun hS3 => ?_)
          clear hK hSc
          (try simp only [put_rules])
          (refine wpAnyH_take (i := 10) (v := ?_) rfl (by kernel_rfl) (by kernel_rfl) (by kernel_rfl) (fun _ _ _ h => h) (Or.inl ⟨by rfl, ?_⟩) (by assumption) ?_; rotate_left; (focus (intro w hSw; (try dsimp only at hSw); go_simp; (try with_reducible rfl); done)); (try simp only [put_rules]))
          (refine wpAnyH_take (i := 11) (v := ?_) rfl (by kernel_rfl) (by kernel_rfl) (by kernel_rfl) (fun _ _ _ h => h) (Or.inl ⟨by rfl, ?_⟩) (by assumption) ?_; rotate_left; (focus (intro w hSw; (try dsimp only at hSw); go_simp; (try with_reducible rfl); done)); (try simp only [put_rules]))
          (refine wpAnyH_done (by kernel_rfl) ?_ _)
          clear hS3
          go_wp2_with fail
          go_ret2
          rw [hd.out, hRR.out]
          exact GOut.yes (S5.out.pick [0] rfl)
        · have hd : decide ((pushesG gs).out.length ≤ 200) = false := by rw [hO.out]; exact decide_eq_false hbig
          replace hd := Lib.hid hd
          have hbi : (200 : Int) < M.length := by omega
          have hB := Lib.hid hS.out.below
          clear hP hPt hPo hM hS hR
          go_wp2_with fail
          go_ret2
          rw [hd.out]
          exact GOut.no hB.out

set_option maxRecDepth 100000 in
set_option maxHeartbeats 8000000 in
theorem pushM_any (vars : Int) (A : Option Addr) (c : Nat) (gs : List Gt) (w : World) (hx : GtAt w A gs) (hl : gs.length ≤ 1000) :
    Calls Try.prog 17 #[.int .i64 vars, .slice A gs.length c] w (GOut w (circB vars gs && decide ((pushesG gs).out.length ≤ 200)) (pushR gs)) := by
  have hc := isCircuit_any vars A c gs w hx (by omega)
  cases hq : circB vars gs
  · rw [hq] at hc
    replace hc := Lib.hid hc
    clear hx hq
    rw [Bool.false_and]
    go_enter Try.func17, Try.ntmps17
    go_wp2_with fail
    refine hc.out.mono ?_
    rintro e w1 ⟨rfl, hb1⟩
    replace hb1 := Lib.hid hb1
    go_wp2_with fail
    go_ret2
    exact GOut.no hb1.out
  · rw [Bool.true_and]
    exact push_any vars A c gs w hx hq
end Go.Proofs.Ytkhopkonddgicaa

/- Facts: what trimming, folding and pushing make of a valid circuit. -/
namespace Go.Proofs.Ytkhopkonddgicaa
open Go.RowKit

theorem need_pos {vars : Int} {gs : List Gt} (hg : OkG vars gs) (hp : 0 < gs.length) : 0 < (needL gs).length := by
  have h := (need_needs hg hp).2
  rcases Nat.eq_zero_or_pos (needL gs).length with h0 | h0
  · rw [List.length_eq_zero_iff.1 h0] at h
    cases h
  · exact h0
theorem circ_make {vars : Int} {gs : List Gt} (h0 : 0 ≤ vars) (h1 : vars ≤ 12) (hp : 0 < gs.length) (hl : gs.length ≤ 200) (h : OkG vars gs) : circB vars gs = true := by
  obtain ⟨n, rfl⟩ : ∃ n : Nat, vars = n := ⟨vars.toNat, by omega⟩
  exact circ_of (by omega) hp hl h
theorem trim_facts {vars : Int} {gs : List Gt} (h : circB vars gs = true) : circB vars (trimG gs (needL gs)) = true ∧ ∀ b, cval (trimG gs (needL gs)) b = cval gs b := by
  obtain ⟨h0, h1, hp, hl, hg⟩ := circ_vars h
  have hN := need_needs hg hp
  have hlen := needL_len hg hp
  have hpos := need_pos hg hp
  exact ⟨circ_make h0 h1 (by rw [trim_len]; exact hpos) (by rw [trim_len]; omega) (trim_ok hg hN.1), fun b => trim_cval hg hN.1 hN.2 b⟩
theorem cut_facts {vars : Int} {M : List Gt} {x : Nat} (h0 : 0 ≤ vars) (h1 : vars ≤ 12) (hM : OkG vars M) (hx : x < M.length) (hl : M.length ≤ 200) :
    circB vars (trimG (M.take (x + 1)) (needL (M.take (x + 1)))) = true ∧ ∀ b, cval (trimG (M.take (x + 1)) (needL (M.take (x + 1)))) b = gval b M x := by
  have hK : circB vars (M.take (x + 1)) = true := circ_make h0 h1 (by rw [List.length_take]; omega) (by rw [List.length_take]; omega) (hM.take _)
  have := trim_facts hK
  exact ⟨this.1, fun b => by rw [this.2, cval_take b hx]⟩
theorem fold_facts {vars : Int} {gs : List Gt} (h : circB vars gs = true) : circB vars (foldR gs) = true ∧ ∀ b, cval (foldR gs) b = cval gs b := by
  obtain ⟨h0, h1, hp, hl, hg⟩ := circ_vars h
  have hF := finv gs hg
  have hc := cut_facts h0 h1 hF.ok (hF.lt (gs.length - 1) (by omega)) (by have := hF.len; omega)
  unfold foldR cutK
  exact ⟨hc.1, fun b => by rw [hc.2, hF.val (gs.length - 1) (by omega)]; rfl⟩
theorem push_facts {vars : Int} {gs : List Gt} (h : circB vars gs = true) (hl2 : (pushesG gs).out.length ≤ 200) : circB vars (pushR gs) = true ∧ ∀ b, cval (pushR gs) b = cval gs b := by
  obtain ⟨h0, h1, hp, hl, hg⟩ := circ_vars h
  have hP := pinv gs hg
  have hc := cut_facts h0 h1 hP.ok (hP.lt1 (gs.length - 1) (by omega)) hl2
  unfold pushR cutP
  exact ⟨hc.1, fun b => by rw [hc.2, hP.val1 (gs.length - 1) (by omega)]; rfl⟩
/-- The opposite circuit. -/
def notG (gs : List Gt) : List Gt := gs ++ [⟨4, ((gs.length - 1 : Nat) : Int), 0⟩]
theorem not_facts {vars : Int} {gs : List Gt} (h : circB vars gs = true) (hl2 : gs.length < 200) : circB vars (notG gs) = true ∧ ∀ b, cval (notG gs) b = !cval gs b := by
  obtain ⟨h0, h1, hp, hl, hg⟩ := circ_vars h
  unfold notG
  refine ⟨circ_make h0 h1 (by simp) (by simp; omega) (hg.snoc (gtB_iff.2 (by dsimp only; omega))), fun b => ?_⟩
  unfold cval
  rw [List.length_append, List.length_singleton, Nat.add_sub_cancel, gval_new]
  simp [gv]
theorem cnt_not (P : Nat → Bool) : ∀ n, cntP (fun b => !P b) n + cntP P n = n
  | 0 => rfl
  | n + 1 => by
    have := cnt_not P n
    cases h : P n
    · rw [cntP_yes (by simp [h]), cntP_no h]; omega
    · rw [cntP_no (by simp [h]), cntP_yes h]; omega
end Go.Proofs.Ytkhopkonddgicaa

/- Plain facts: the circuit of a Cnf and its values. No program in sight. -/
namespace Go.Proofs.Ytkhopkonddgicaa

def baseG (n : Nat) : List Gt := ((List.range n).map fun (v : Nat) => (⟨1, (v : Int) + 1, 0⟩ : Gt)) ++ ((List.range n).map fun (v : Nat) => (⟨4, (v : Int), 0⟩ : Gt)) ++ [⟨2, 0, 0⟩, ⟨3, 0, 0⟩]
def litIx (n : Nat) (l : Int) : Int := if l < 0 then n - l - 1 else l - 1
def litG (n : Nat) (s : List Gt × Nat) (l : Int) : List Gt × Nat := (s.1 ++ [⟨6, (s.2 : Nat), litIx n l⟩], s.1.length)
def clG (n : Nat) (s : List Gt × Nat) (c : List Int) : List Gt × Nat :=
  ((c.foldl (litG n) (s.1, 2 * n + 1)).1 ++ [⟨5, (s.2 : Nat), ((c.foldl (litG n) (s.1, 2 * n + 1)).2 : Nat)⟩], (c.foldl (litG n) (s.1, 2 * n + 1)).1.length)
def cnfG (n : Nat) (xss : List (List Int)) : List Gt × Nat := xss.foldl (clG n) (baseG n, 2 * n)
def circR (n : Nat) (xss : List (List Int)) : List Gt := (cnfG n xss).1 ++ (if xss = [] then [⟨2, 0, 0⟩] else [])

theorem base_len (n : Nat) : (baseG n).length = 2 * n + 2 := by simp [baseG]; omega
theorem base_var {n v : Nat} (h : v < n) : (baseG n)[v]? = some ⟨1, (v : Int) + 1, 0⟩ := by
  unfold baseG
  rw [List.append_assoc, List.getElem?_append_left (by simp; exact h)]; simp [h]
theorem base_not {n v : Nat} (h : v < n) : (baseG n)[n + v]? = some ⟨4, (v : Int), 0⟩ := by
  unfold baseG
  rw [List.append_assoc, List.getElem?_append_right (by simp), List.getElem?_append_left (by simp; omega)]; simp [h]
theorem base_two (n : Nat) : (baseG n)[2 * n]? = some ⟨2, 0, 0⟩ ∧ (baseG n)[2 * n + 1]? = some ⟨3, 0, 0⟩ := by
  unfold baseG
  refine ⟨?_, ?_⟩
  · rw [List.getElem?_append_right (by simp; omega)]
    simp only [List.length_append, List.length_map, List.length_range]
    rw [show 2 * n - (n + n) = 0 by omega]; rfl
  · rw [List.getElem?_append_right (by simp; omega)]
    simp only [List.length_append, List.length_map, List.length_range]
    rw [show 2 * n + 1 - (n + n) = 1 by omega]; rfl
theorem get_of {l : List Gt} {i : Nat} {g : Gt} (h : l[i]? = some g) (hi : i < l.length) : l[i] = g := by
  rw [List.getElem?_eq_getElem hi] at h; exact Option.some.inj h
theorem base_ok (n : Nat) : OkG n (baseG n) := by
  intro i hi
  have hl := base_len n
  rcases Nat.lt_or_ge i n with h | h
  · rw [get_of (base_var h) hi, gtB_iff]; dsimp only; omega
  rcases Nat.lt_or_ge i (2 * n) with h2 | h2
  · obtain ⟨v, rfl⟩ : ∃ v, i = n + v := ⟨i - n, by omega⟩
    rw [get_of (base_not (v := v) (by omega)) hi, gtB_iff]; dsimp only; omega
  · rcases (show i = 2 * n ∨ i = 2 * n + 1 by omega) with rfl | rfl
    · rw [get_of (base_two n).1 hi, gtB_iff]; dsimp only; omega
    · rw [get_of (base_two n).2 hi, gtB_iff]; dsimp only; omega
theorem base_true (n bits : Nat) : gval bits (baseG n) (2 * n) = true := by
  rw [(base_ok n).val bits (show 2 * n < (baseG n).length by rw [base_len]; omega), get_of (base_two n).1]; rfl
theorem base_false (n bits : Nat) : gval bits (baseG n) (2 * n + 1) = false := by
  rw [(base_ok n).val bits (show 2 * n + 1 < (baseG n).length by rw [base_len]; omega), get_of (base_two n).2]; rfl
theorem base_lit {n : Nat} {l : Int} (h0 : l ≠ 0) (h1 : -(n : Int) ≤ l) (h2 : l ≤ n) (bits : Nat) : 0 ≤ litIx n l ∧ (litIx n l).toNat < 2 * n ∧ gval bits (baseG n) (litIx n l).toNat = litT bits l := by
  have hvar : ∀ v, v < n → gval bits (baseG n) v = bits.testBit v := fun v hv => by
    rw [(base_ok n).val bits (show v < (baseG n).length by rw [base_len]; omega), get_of (base_var hv)]
    simp [gv, bitG]
  unfold litIx litT
  by_cases hn : l < 0
  · rw [if_pos hn]
    obtain ⟨v, rfl⟩ : ∃ v : Nat, l = -((v : Int) + 1) := ⟨(-l - 1).toNat, by omega⟩
    have e : ((n : Int) - -((v : Int) + 1) - 1).toNat = n + v := by omega
    have hv : v < n := by omega
    refine ⟨by omega, by omega, ?_⟩
    rw [e, (base_ok n).val bits (show n + v < (baseG n).length by rw [base_len]; omega), get_of (base_not hv)]
    have e2 : (-((v : Int) + 1)).natAbs - 1 = v := by omega
    have e3 : decide ((0 : Int) < -((v : Int) + 1)) = false := decide_eq_false (by omega)
    rw [e2, e3]
    simp [gv, hvar v hv]
  · rw [if_neg hn]
    obtain ⟨v, rfl⟩ : ∃ v : Nat, l = (v : Int) + 1 := ⟨(l - 1).toNat, by omega⟩
    have e : ((v : Int) + 1 - 1).toNat = v := by omega
    have hv : v < n := by omega
    refine ⟨by omega, by omega, ?_⟩
    have e2 : ((v : Int) + 1).natAbs - 1 = v := by omega
    have e3 : decide ((0 : Int) < (v : Int) + 1) = true := decide_eq_true (by omega)
    rw [e, hvar v hv, e2, e3]
    simp
/-- What is known while clauses are added: the base lies ahead; the number's value is this. -/
structure CInv (n : Nat) (s : List Gt × Nat) (val : Nat → Bool) : Prop where
  pre : ∃ ms, s.1 = baseG n ++ ms
  ok : OkG n s.1
  lt : s.2 < s.1.length
  val : ∀ bits, gval bits s.1 s.2 = val bits
def LitN (n : Nat) (l : Int) : Prop := l ≠ 0 ∧ -(n : Int) ≤ l ∧ l ≤ n
theorem CInv.lit {n : Nat} {s : List Gt × Nat} {val : Nat → Bool} {l : Int} (h : CInv n s val) (hl : LitN n l) : CInv n (litG n s l) (fun bits => val bits || litT bits l) := by
  obtain ⟨ms, hms⟩ := h.pre
  have hb := base_len n
  have hlen : (baseG n).length ≤ s.1.length := by rw [hms, List.length_append]; omega
  obtain ⟨b0, b1, -⟩ := base_lit hl.1 hl.2.1 hl.2.2 0
  have hlt := h.lt
  have hg : gtB n s.1.length ⟨6, (s.2 : Nat), litIx n l⟩ = true := by rw [gtB_iff]; dsimp only; omega
  unfold litG
  refine ⟨⟨ms ++ [⟨6, (s.2 : Nat), litIx n l⟩], by dsimp only; rw [hms, List.append_assoc]⟩, h.ok.snoc hg, by simp, fun bits => ?_⟩
  dsimp only
  rw [gval_new]
  have e := h.val bits
  have e2 : gval bits s.1 (litIx n l).toNat = litT bits l := by
    rw [hms, gval_pre (by omega)]
    exact (base_lit hl.1 hl.2.1 hl.2.2 bits).2.2
  simp [gv, e, e2]
theorem CInv.lits {n : Nat} : ∀ {c : List Int} {s : List Gt × Nat} {val : Nat → Bool}, CInv n s val → (∀ l ∈ c, LitN n l) → CInv n (c.foldl (litG n) s) (fun bits => val bits || c.any (litT bits)) ∧ ∃ ms, (c.foldl (litG n) s).1 = s.1 ++ ms
  | [], s, val, h, _ => ⟨⟨h.pre, h.ok, h.lt, fun bits => by simp [h.val]⟩, [], by simp⟩
  | l :: c, s, val, h, hl => by
    obtain ⟨h1, ms, h2⟩ := (h.lit (hl l (by simp))).lits (c := c) (fun x hx => hl x (by simp [hx]))
    rw [List.foldl_cons]
    refine ⟨⟨h1.pre, h1.ok, h1.lt, fun bits => by rw [h1.val, List.any_cons, Bool.or_assoc]⟩, [⟨6, (s.2 : Nat), litIx n l⟩] ++ ms, ?_⟩
    rw [h2, ← List.append_assoc]; rfl
theorem CInv.clause {n : Nat} {s : List Gt × Nat} {val : Nat → Bool} {c : List Int} (h : CInv n s val) (hc : ∀ l ∈ c, LitN n l) : CInv n (clG n s c) (fun bits => val bits && clT c bits) := by
  have hb := base_len n
  obtain ⟨ms, hms⟩ := h.pre
  have hlen : (baseG n).length ≤ s.1.length := by rw [hms, List.length_append]; omega
  have h0 : CInv n (s.1, 2 * n + 1) (fun _ => false) := ⟨⟨ms, hms⟩, h.ok, by dsimp only; omega, fun bits => by
    dsimp only
    rw [hms, gval_pre (by omega)]; exact base_false n bits⟩
  obtain ⟨h1, ks, hks⟩ := h0.lits (c := c) hc
  have hlt := h.lt
  have hl1 := h1.lt
  have hlen2 : s.1.length ≤ (c.foldl (litG n) (s.1, 2 * n + 1)).1.length := by rw [hks, List.length_append]; dsimp only; omega
  have hold : ∀ bits, gval bits (c.foldl (litG n) (s.1, 2 * n + 1)).1 s.2 = val bits := fun bits => by rw [hks, gval_pre hlt]; exact h.val bits
  unfold clG
  generalize c.foldl (litG n) (s.1, 2 * n + 1) = t at *
  have hg : gtB n t.1.length ⟨5, (s.2 : Nat), (t.2 : Nat)⟩ = true := by rw [gtB_iff]; dsimp only; omega
  refine ⟨?_, h1.ok.snoc hg, by simp, fun bits => ?_⟩
  · obtain ⟨ms2, hms2⟩ := h1.pre
    exact ⟨ms2 ++ [⟨5, (s.2 : Nat), (t.2 : Nat)⟩], by dsimp only; rw [hms2, List.append_assoc]⟩
  · dsimp only
    rw [gval_new]
    simp [gv, hold bits, h1.val bits, clT]
theorem CInv.clauses {n : Nat} : ∀ {xss : List (List Int)} {s : List Gt × Nat} {val : Nat → Bool}, CInv n s val → (∀ c ∈ xss, ∀ l ∈ c, LitN n l) → CInv n (xss.foldl (clG n) s) (fun bits => val bits && modT xss bits)
  | [], s, val, h, _ => ⟨h.pre, h.ok, h.lt, fun bits => by simp [h.val, modT]⟩
  | c :: xss, s, val, h, hc => by
    have h1 := (h.clause (hc c (by simp))).clauses (xss := xss) (fun x hx => hc x (by simp [hx]))
    rw [List.foldl_cons]
    exact ⟨h1.pre, h1.ok, h1.lt, fun bits => by rw [h1.val]; simp [modT, Bool.and_assoc]⟩
theorem cnf_inv {n : Nat} {xss : List (List Int)} (h : ∀ c ∈ xss, ∀ l ∈ c, LitN n l) : CInv n (cnfG n xss) (modT xss) := by
  have h0 : CInv n (baseG n, 2 * n) (fun _ => true) := ⟨⟨[], by simp⟩, base_ok n, by dsimp only; rw [base_len]; omega, base_true n⟩
  have := h0.clauses h
  exact ⟨this.pre, this.ok, this.lt, fun bits => by rw [show cnfG n xss = xss.foldl (clG n) (baseG n, 2 * n) from rfl, this.val]; rfl⟩
theorem clG_last (n : Nat) (s : List Gt × Nat) (c : List Int) : (clG n s c).1.length = (clG n s c).2 + 1 := by simp [clG]
theorem cnf_last (n : Nat) {xss : List (List Int)} (h : xss ≠ []) : (cnfG n xss).1.length = (cnfG n xss).2 + 1 := by
  induction xss using snoc_ind with
  | h0 => exact absurd rfl h
  | h1 l a _ =>
    unfold cnfG
    rw [List.foldl_append]
    exact clG_last n _ _
/-- The circuit of a Cnf is valid and true just for its models. -/
theorem circ_value {n : Nat} {xss : List (List Int)} (h : ∀ c ∈ xss, ∀ l ∈ c, LitN n l) : OkG n (circR n xss) ∧ ∀ bits, cval (circR n xss) bits = modT xss bits := by
  have hi := cnf_inv h
  unfold circR
  by_cases e : xss = []
  · rw [if_pos e]
    refine ⟨hi.ok.snoc rfl, fun bits => ?_⟩
    unfold cval
    rw [List.length_append, List.length_singleton, Nat.add_sub_cancel, gval_new, e]; rfl
  · rw [if_neg e, List.append_nil]
    refine ⟨hi.ok, fun bits => ?_⟩
    unfold cval
    rw [cnf_last n e, Nat.add_sub_cancel]; exact hi.val bits
end Go.Proofs.Ytkhopkonddgicaa

/- Plain facts: the circuit of a Cnf, gate by gate. No program in sight. -/
namespace Go.Proofs.Ytkhopkonddgicaa

theorem litsG_len (n : Nat) : ∀ (c : List Int) (s : List Gt × Nat), (c.foldl (litG n) s).1.length = s.1.length + c.length
  | [], s => rfl
  | l :: c, s => by
    rw [List.foldl_cons, litsG_len n c, List.length_cons]
    simp [litG]; omega
theorem lits_take {n q : Nat} {c : List Int} (s : List Gt × Nat) (h : q < c.length) : (c.take (q + 1)).foldl (litG n) s = litG n ((c.take q).foldl (litG n) s) c[q] := by
  rw [List.take_succ_eq_append_getElem h, List.foldl_append]
  rfl
theorem cnfG_take {n j : Nat} {xss : List (List Int)} (h : j < xss.length) : cnfG n (xss.take (j + 1)) = clG n (cnfG n (xss.take j)) xss[j] := by
  unfold cnfG
  rw [List.take_succ_eq_append_getElem h, List.foldl_append]
  rfl
theorem clG_len (n : Nat) (s : List Gt × Nat) (c : List Int) : (clG n s c).1.length = s.1.length + c.length + 1 := by
  unfold clG
  dsimp only
  rw [List.length_append, litsG_len]
  rfl
theorem cnfG_len {n : Nat} : ∀ {xss : List (List Int)}, (∀ c ∈ xss, c.length ≤ 1000) → (cnfG n xss).1.length ≤ 2 * n + 2 + 1001 * xss.length := by
  intro xss
  induction xss using snoc_ind with
  | h0 => intro _; show (baseG n).length ≤ _; rw [base_len]; omega
  | h1 l a ih =>
    intro h
    have h1 := ih (fun c hc => h c (by simp [hc]))
    have h2 := h a (by simp)
    have e : cnfG n (l ++ [a]) = clG n (cnfG n l) a := by unfold cnfG; rw [List.foldl_append]; rfl
    rw [e, clG_len, List.length_append, List.length_singleton]
    omega
/-- The literals of a valid Cnf. -/
theorem good_lits {n : Nat} {xss : List (List Int)} (h : goodB n xss = true) : ∀ c ∈ xss, ∀ l ∈ c, LitN n l := by
  intro c hc l hl
  have hp := clause_parts ((good_cnf h).2.2.1 c hc)
  have := hp.2.1 l hl
  unfold LitN
  omega
/-- The first gates. -/
def base1 (j : Nat) : List Gt := (List.range j).map fun (v : Nat) => (⟨1, (v : Int) + 1, 0⟩ : Gt)
def base2 (n j : Nat) : List Gt := base1 n ++ (List.range j).map fun (v : Nat) => (⟨4, (v : Int), 0⟩ : Gt)
theorem base1_succ (j : Nat) : base1 (j + 1) = base1 j ++ [⟨1, (j : Int) + 1, 0⟩] := by simp [base1, List.range_succ]
theorem base2_succ (n j : Nat) : base2 n (j + 1) = base2 n j ++ [⟨4, (j : Int), 0⟩] := by simp [base2, List.range_succ]
theorem base2_zero (n : Nat) : base2 n 0 = base1 n := by simp [base2]
theorem base1_len (j : Nat) : (base1 j).length = j := by simp [base1]
theorem base2_len (n j : Nat) : (base2 n j).length = n + j := by simp [base2, base1]
theorem base_eq (n : Nat) : baseG n = base2 n n ++ [⟨2, 0, 0⟩, ⟨3, 0, 0⟩] := rfl
end Go.Proofs.Ytkhopkonddgicaa
