/- Lemmas and contracts for a law, put together out of several texts: GtG GtH GtI GtN MdC Cur CurS NwH ClO ClQ CurK MdD MdE MdF. -/
import Derived.Test.YtkhopkonddgicaaMg3
import Derived.Test.YtkhopkonddgicaaMg1
import Derived.RangeFuncNested
import Derived.RangeFuncBound
import Derived.RangeFuncCalls
import Derived.RangeFuncLeaves
import Derived.RangeFuncBox
import Derived.Shelf.Abstract
import Derived.Shelf.RegionOpen
import Derived.WalkKit
import Derived.OwnWalkIn
import Derived.TacticsInMore
import Derived.LoopNIn
import Derived.LoopIn
import Derived.Test.YtkhopkonddgicaaMg2
import Derived.Test.YtkhopkonddgicaaProg
import Derived.WalkLawsBesides
import Derived.WalkSpells
import Derived.Lib.Hide
import Derived.Deep.DeepCutAuto
import Derived.Deep.CutBlock
/- Contract: the gates that a gate asks. -/
namespace Go.Proofs.Ytkhopkonddgicaa
open Go.RowKit

/-- Numbers as they lie in memory. -/
def natI (l : List Nat) : List Int := l.map (fun (k : Nat) => (k : Int))
theorem natI_len (l : List Nat) : (natI l).length = l.length := by simp [natI]
set_option maxRecDepth 100000 in
set_option maxHeartbeats 8000000 in
theorem inputs_any (g : Gt) (ha : 0 ≤ g.a ∧ g.a ≤ 1000000) (hb : 0 ≤ g.b ∧ g.b ≤ 1000000) (w : World) :
    Calls Try.prog 96 #[gtV g] w fun e w' => ∃ A c, e = .returned (.slice A (insG g).length c) ∧ IntsAt w' A (natI (insG g)) ∧ Below w.heap.size w w' := by
  obtain ⟨k, a', b'⟩ := g
  dsimp only at ha hb
  obtain ⟨a, rfl⟩ : ∃ a : Nat, a' = a := ⟨a'.toNat, by omega⟩
  obtain ⟨b, rfl⟩ : ∃ b : Nat, b' = b := ⟨b'.toNat, by omega⟩
  have hB0 := Lib.hid (bal (bb w) (.cells #[.int .i64 k, .int .i64 (a : Int), .int .i64 (b : Int)] 41))
  by_cases h4 : k = 4
  · subst h4
    have hM : insG ⟨4, (a : Int), (b : Int)⟩ = [a] := by simp [insG]
    rw [hM]
    have S1 := ((Sp.start w).alloc_box #[.int .i64 4, .int .i64 (a : Int), .int .i64 (b : Int)] 41).alloc_box #[.int .i64 (a : Int)] 3
    simp only [World.size_alloc] at S1
    have k0 := S1.cell (i := 0) rfl (o := 0) rfl
    have hB1 := S1.below
    clear S1 hM
    go_enter Try.func96, Try.ntmps96
    go_wp2_with fail
    go_ret
    refine ⟨_, _, rfl, ⟨fun j hj => ⟨_, 0, rfl, ?_⟩, fun c hc => ?_⟩, hB1⟩
    · obtain rfl : j = 0 := by simp [natI] at hj; omega
      exact k0
    · simp [natI] at hc; subst hc; unfold I64; omega
  by_cases h5 : k = 5 ∨ k = 6
  · have hM : insG ⟨k, (a : Int), (b : Int)⟩ = [a, b] := by simp [insG, h4, h5]
    rw [hM]
    have S1 := ((Sp.start w).alloc_box #[.int .i64 k, .int .i64 (a : Int), .int .i64 (b : Int)] 41).alloc_box #[.int .i64 (a : Int), .int .i64 (b : Int)] 3
    simp only [World.size_alloc] at S1
    have k0 := S1.cell (i := 0) rfl (o := 0) rfl
    have k1 := S1.cell (i := 0) rfl (o := 1) rfl
    have hB1 := S1.below
    clear S1 hM h4
    rcases h5 with rfl | rfl
    all_goals
      go_enter Try.func96, Try.ntmps96
      go_wp2_with fail
      go_ret
      refine ⟨_, _, rfl, ⟨fun j hj => ⟨_, 0, rfl, ?_⟩, fun c hc => ?_⟩, hB1⟩
      · have : j = 0 ∨ j = 1 := by simp [natI] at hj; omega
        rcases this with rfl | rfl
        · exact k0
        · exact k1
      · simp [natI] at hc; rcases hc with rfl | rfl <;> unfold I64 <;> omega
  · have hM : insG ⟨k, (a : Int), (b : Int)⟩ = [] := by simp [insG, h4, h5]
    have h5' : k ≠ 5 := fun e => h5 (.inl e)
    have h6' : k ≠ 6 := fun e => h5 (.inr e)
    rw [hM]
    clear hM h5
    go_enter Try.func96, Try.ntmps96
    go_wp2_with fail
    go_ret
    exact ⟨_, _, rfl, .nil _ _, hB0.out⟩
end Go.Proofs.Ytkhopkonddgicaa

/- Plain facts: which gates are needed, as the program finds them. No program in sight. -/
namespace Go.Proofs.Ytkhopkonddgicaa

/-- One gate is looked at: where it is needed, so are those that it asks. -/
def needStep (gs : List Gt) (s : (Nat → Bool) × List Nat) (i : Nat) : (Nat → Bool) × List Nat :=
  if s.1 i then (fun j => s.1 j || decide (j ∈ insG (gs.getD i ⟨0, 0, 0⟩)), s.2 ++ [i]) else s
def needF (gs : List Gt) (pre : List Nat) : (Nat → Bool) × List Nat := pre.foldl (needStep gs) (fun j => decide (j = gs.length - 1), [])
theorem needF_snoc (gs : List Gt) (pre : List Nat) (i : Nat) : needF gs (pre ++ [i]) = needStep gs (needF gs pre) i := by simp [needF]
theorem needF_len (gs : List Gt) (pre : List Nat) : (needF gs pre).2.length ≤ pre.length := by
  induction pre using snoc_ind with
  | h0 => simp [needF]
  | h1 l a ih =>
    rw [needF_snoc]
    unfold needStep
    split
    · simp; omega
    · simp; omega
/-- The numbers from the last one down. -/
def downN : Nat → List Nat
  | 0 => []
  | n + 1 => n :: downN n
def needL (gs : List Gt) : List Nat := (needF gs (downN gs.length)).2.reverse
structure NInv (gs : List Gt) (m : Nat) (s : (Nat → Bool) × List Nat) : Prop where
  asc : s.2.Pairwise (· > ·)
  mem : ∀ i, i ∈ s.2 ↔ m ≤ i ∧ s.1 i = true
  lt : ∀ j, s.1 j = true → j < gs.length
  ins : ∀ i ∈ s.2, ∀ k ∈ insG (gs.getD i ⟨0, 0, 0⟩), s.1 k = true
  top : s.1 (gs.length - 1) = true
  head : m < gs.length → s.2.head? = some (gs.length - 1)
theorem NInv.step {vars : Int} {gs : List Gt} {m : Nat} {s : (Nat → Bool) × List Nat} (hg : OkG vars gs) (hm : m < gs.length) (h : NInv gs (m + 1) s) : NInv gs m (needStep gs s m) := by
  have hd : gs.getD m ⟨0, 0, 0⟩ = gs[m] := by rw [List.getD_eq_getElem?_getD, List.getElem?_eq_getElem hm]; rfl
  have hlt : ∀ k ∈ insG (gs.getD m ⟨0, 0, 0⟩), k < m := by rw [hd]; exact ins_lt (hg m hm)
  unfold needStep
  cases hs : s.1 m
  · rw [if_neg (by simp)]
    refine ⟨h.asc, fun i => ?_, h.lt, h.ins, h.top, fun h2 => ?_⟩
    · rw [h.mem]
      constructor
      · rintro ⟨h1, h2⟩; exact ⟨by omega, h2⟩
      · rintro ⟨h1, h2⟩
        refine ⟨?_, h2⟩
        rcases Nat.lt_or_ge m i with h3 | h3
        · exact h3
        · obtain rfl : i = m := by omega
          rw [hs] at h2; exact absurd h2 (by decide)
    · rcases Nat.lt_or_ge (m + 1) gs.length with h3 | h3
      · exact h.head h3
      · obtain e : gs.length - 1 = m := by omega
        have := h.top
        rw [e, hs] at this; exact absurd this (by decide)
  · rw [if_pos rfl]
    refine ⟨?_, fun i => ?_, fun j hj => ?_, fun i hi k hk => ?_, ?_, fun h2 => ?_⟩
    · rw [List.pairwise_append]
      refine ⟨h.asc, List.pairwise_singleton _ _, fun a ha b hb => ?_⟩
      rw [List.mem_singleton] at hb
      have := ((h.mem a).1 ha).1
      omega
    · simp only [List.mem_append, List.mem_singleton, Bool.or_eq_true, decide_eq_true_eq]
      rw [h.mem]
      constructor
      · rintro (⟨h1, h2⟩ | rfl)
        · exact ⟨by omega, .inl h2⟩
        · exact ⟨Nat.le_refl _, .inl hs⟩
      · rintro ⟨h1, h2 | h2⟩
        · rcases Nat.lt_or_ge m i with h3 | h3
          · exact .inl ⟨h3, h2⟩
          · exact .inr (by omega)
        · have := hlt i h2; omega
    · simp only [Bool.or_eq_true, decide_eq_true_eq] at hj
      rcases hj with hj | hj
      · exact h.lt j hj
      · have := hlt j hj; omega
    · simp only [Bool.or_eq_true, decide_eq_true_eq]
      rcases List.mem_append.1 hi with hi | hi
      · exact .inl (h.ins i hi k hk)
      · rw [List.mem_singleton] at hi
        subst hi
        exact .inr hk
    · simp only [Bool.or_eq_true]; exact .inl h.top
    · rcases Nat.lt_or_ge (m + 1) gs.length with h3 | h3
      · have := h.head h3
        rw [List.head?_append, this]; rfl
      · obtain e : gs.length - 1 = m := by omega
        have hnil : s.2 = [] := by
          rw [List.eq_nil_iff_forall_not_mem]
          intro i hi
          have h5 := (h.mem i).1 hi
          have h6 := h.lt i h5.2
          omega
        rw [hnil, e]; rfl
theorem ninv_all {vars : Int} {gs : List Gt} (hg : OkG vars gs) : ∀ m s, m ≤ gs.length → NInv gs m s → NInv gs 0 ((downN m).foldl (needStep gs) s)
  | 0, _, _, h => h
  | m + 1, s, hm, h => ninv_all hg m (needStep gs s m) (by omega) (h.step hg (by omega))
theorem need_inv {vars : Int} {gs : List Gt} (hg : OkG vars gs) (hp : 0 < gs.length) : NInv gs 0 (needF gs (downN gs.length)) := by
  refine ninv_all hg gs.length _ (Nat.le_refl _) ⟨List.Pairwise.nil, fun i => ?_, fun j hj => ?_, fun i hi => ?_, by simp, fun h => absurd h (Nat.lt_irrefl _)⟩
  · simp only [List.not_mem_nil, decide_eq_true_eq, false_iff]; omega
  · simp only [decide_eq_true_eq] at hj; omega
  · exact absurd hi (by simp)
theorem need_needs {vars : Int} {gs : List Gt} (hg : OkG vars gs) (hp : 0 < gs.length) : Needs gs (needL gs) ∧ (needL gs).getLast? = some (gs.length - 1) := by
  have h := need_inv hg hp
  unfold needL
  refine ⟨⟨?_, fun i hi => ?_, fun i hi k hk => ?_⟩, ?_⟩
  · rw [List.pairwise_reverse]; exact h.asc
  · rw [List.mem_reverse] at hi
    exact h.lt i ((h.mem i).1 hi).2
  · rw [List.mem_reverse] at hi ⊢
    exact (h.mem k).2 ⟨Nat.zero_le _, h.ins i hi k hk⟩
  · rw [List.getLast?_reverse]; exact h.head hp
end Go.Proofs.Ytkhopkonddgicaa

/- Contract: slices.Backward over gates, as an iterator. -/
namespace Go.Proofs.Ytkhopkonddgicaa
open Go.RowKit Go.Shelf

attribute [local go_sem] Oper.semAt_some

/-- What has come when c rounds are over. -/
def comeF (n : Nat) : Nat → List (Fin n)
  | 0 => []
  | c + 1 => if h : c < n then comeF n c ++ [⟨n - 1 - c, by omega⟩] else comeF n c
theorem comeF_succ {n c : Nat} (h : c < n) : comeF n (c + 1) = comeF n c ++ [⟨n - 1 - c, by omega⟩] := by rw [comeF, dif_pos h]
theorem comeF_len {n : Nat} : ∀ c, c ≤ n → (comeF n c).length = c
  | 0, _ => rfl
  | c + 1, h => by rw [comeF_succ (by omega), List.length_append, comeF_len c (by omega)]; rfl
theorem comeF_down {n : Nat} : ∀ c, c ≤ n → (comeF n c).map Fin.val ++ downN (n - c) = downN n
  | 0, _ => rfl
  | c + 1, h => by
    rw [comeF_succ (by omega), List.map_append, List.append_assoc]
    have h1 := comeF_down (n := n) c (by omega)
    rw [show n - c = (n - (c + 1)) + 1 by omega, downN] at h1
    rw [← h1]
    simp only [List.map_cons, List.map_nil, List.singleton_append]
    rw [show n - 1 - c = n - (c + 1) by omega]
theorem comeF_all (n : Nat) : (comeF n n).map Fin.val = downN n := by
  have := comeF_down (n := n) n (Nat.le_refl _)
  rwa [Nat.sub_self, downN, List.append_nil] at this

/-- What a round must keep: what lay below, and the iterator's own box. -/
def KeepB (n₀ Bs : Nat) (W W' : World) : Prop := Below n₀ W W' ∧ W'.heap[Bs]? = W.heap[Bs]?
theorem keepB_t {n₀ Bs : Nat} {A B C : World} (h1 : KeepB n₀ Bs A B) (h2 : KeepB n₀ Bs B C) : KeepB n₀ Bs A C := ⟨h1.1.trans h2.1, h2.2.trans h1.2⟩
theorem KeepB.box {n₀ Bs : Nat} {W W' : World} (h : KeepB n₀ Bs W W') {v : Value} (hc : W.cell? ⟨Bs, 0, none⟩ = some v) : W'.cell? ⟨Bs, 0, none⟩ = some v :=
  (World.cell?_of_block (a := ⟨Bs, 0, none⟩) h.2).trans hc
/-- What the iterator hands on: a number and its gate. -/
def gtEncs (gs : List Gt) (i : Fin gs.length) : Array Value := #[.int .i64 (i.val : Int), gtV gs[i.val]]

set_option maxRecDepth 100000 in
set_option maxHeartbeats 4000000 in
theorem backward1_in (F : Fence) (n : Nat) (hF : F.fn 115) (hro : F.round = none) (hn : 1 ≤ n) (l Bs n₀ : Nat) (gs : List Gt) (A : Option Addr) (cap : Nat) (hl : gs.length ≤ 1000000)
    (hlow : ∀ a, A = some a → a.block < n₀) (J Jx : List (Fin gs.length) → World → Prop)
    (hY : ∀ pre x W, J pre W → pre.length < gs.length → YieldAt F (n - 1) Try.prog l (gtEncs gs x) W fun e W' =>
      (e = .returned (.bool true) ∧ J (pre ++ [x]) W' ∧ KeepB n₀ Bs W W') ∨ (e = .returned (.bool false) ∧ Jx (pre ++ [x]) W'))
    (W : World) (hBs : W.cell? ⟨Bs, 0, none⟩ = some (.slice A gs.length cap)) (hc : GtAt W A gs) (h0 : J [] W) :
    CallsIn F n Try.prog 115 #[.func (.yield l) #[] #[], .pointer (some ⟨Bs, 0, none⟩)] W fun e W' => (∃ v, e = .returned v) ∧
      ((∃ ys, ys = comeF gs.length gs.length ∧ J ys W') ∨ (∃ pre, True ∧ Jx pre W')) := by
  have hw0 : IntKind.i64.wrap ((gs.length : Int) - 1) = (gs.length : Int) - 1 := IntWalk.i64_in _ (by omega)
  refine callsIn_of_wp Try.func115 rfl hF ?_ hro
  simp only [Try.ntmps115, List.size_toArray, List.length_cons, List.length_nil, Nat.reduceAdd, Nat.reduceSub, Array.replicate_succ, Array.replicate_zero, List.push_toArray, List.append_toArray, List.nil_append, List.cons_append]
  gi_wp2
  gi_loopw [3] (fun i wr => ∃ (c : Nat) (z : Int), c ≤ gs.length ∧ i = .int .i64 z ∧ z = (gs.length : Int) - 1 - c ∧ J (comeF gs.length c) wr ∧ Below n₀ W wr ∧ wr.cell? ⟨Bs, 0, none⟩ = some (.slice A gs.length cap))
    (fun i _ => (intOf i + 1).toNat)
  case atStart => exact ⟨0, _, Nat.zero_le _, rfl, by omega, h0, Below.refl _ _, hBs⟩
  case round =>
    obtain ⟨c, z, hc2, rfl, hz, hJs, hnx, kb⟩ := hrel
    by_cases hlt : c < gs.length
    · obtain ⟨m, hm⟩ : ∃ m, gs.length - 1 - c = m := ⟨_, rfl⟩
      have hml : m < gs.length := by omega
      have hsucc : comeF gs.length (c + 1) = comeF gs.length c ++ [⟨m, hml⟩] := by subst hm; exact comeF_succ hlt
      obtain ⟨fn, tmps, assign, body, hy, hR⟩ := hY _ ⟨m, hml⟩ wr hJs (by rw [comeF_len c hc2]; exact hlt)
      obtain rfl : z = (m : Int) := by omega
      have hz0 : (0 : Int) ≤ (m : Int) := by omega
      have hzl : (m : Int) < gs.length := by omega
      have hw1 : IntKind.i64.wrap ((m : Int) - 1) = (m : Int) - 1 := IntWalk.i64_in _ (by omega)
      obtain ⟨b, off, rfl, m0, m1, m2⟩ := hc.at_ m hml
      have hb := hlow _ rfl
      have k0 := (hnx.cell (p := ⟨b, off + m * 3, none⟩) hb).trans m0
      have k1 := (hnx.cell (p := ⟨b, off + m * 3 + 1, none⟩) hb).trans m1
      have k2 := (hnx.cell (p := ⟨b, off + m * 3 + 2, none⟩) hb).trans m2
      unfold gtEncs at hy
      dsimp only at hy
      replace hsucc := Lib.hid hsucc
      replace hz := Lib.hid hz
      replace hm := Lib.hid hm
      clear m0 m1 m2
      generalize hgm : gs[m] = g at *
      obtain ⟨gk, ga, gb⟩ := g
      dsimp only at *
      clear hgm
      gi_wp2
      refine hR.mono ?_
      rintro e W3 (⟨rfl, hJ3, hk3⟩ | ⟨rfl, hJx3⟩)
      · gi_wp2
        go_roundw
        case rel => exact ⟨c + 1, _, by omega, rfl, by have := hz.out; omega, by rw [hsucc.out]; exact hJ3, hnx.trans hk3.1, hk3.box kb⟩
        case measure => simp [intOf]
      · gi_wp2
        refine bodyPost_ret (results_none rfl _ _ _) rfl ?_
        exact ⟨⟨_, rfl⟩, .inr ⟨_, trivial, hJx3⟩⟩
    · obtain rfl : c = gs.length := by omega
      have hz0 : ¬ (0 : Int) ≤ z := by omega
      gi_wp2
      go_end0
      first | exact ⟨⟨_, rfl⟩, .inl ⟨_, rfl, hJs⟩⟩ | exact ⟨⟨_, rfl⟩, .inl hJs⟩ | (refine ⟨⟨_, rfl⟩, ?_⟩; simp; exact .inl hJs)

set_option maxHeartbeats 1000000 in
/-- slices.Backward: the slice is boxed; the function value captures the box. -/
theorem backward_in (F : Fence) (n : Nat) (hF : F.fn 95) (hro : F.round = none) (a : Option Addr) (len cap : Nat) (w : World) :
    CallsIn F n Try.prog 95 #[.slice a len cap] w fun e w' => e = .returned (.func (.func 115) #[] #[.pointer (some ⟨w.heap.size, 0, none⟩)]) ∧ w' = w.alloc (.cells #[.slice a len cap] 28) := by
  refine callsIn_of_wp Try.func95 rfl hF ?_ hro
  simp only [Try.ntmps95, List.size_toArray, List.length_cons, List.length_nil, Nat.reduceAdd, Nat.reduceSub, Array.replicate_succ, Array.replicate_zero, List.push_toArray, List.append_toArray, List.nil_append, List.cons_append]
  gi_wp2
  go_ret
  exact ⟨rfl, rfl⟩

/-- What it hands back is an iterator: all gates, from the last one down. -/
theorem backward_stops (F : Fence) (n : Nat) (hF : F.fn 115) (hro : F.round = none) (hn : 1 ≤ n) (Bs n₀ : Nat) (gs : List Gt) (A : Option Addr) (cap : Nat) (hl : gs.length ≤ 1000000) (w : World)
    (hBs : Bs < w.heap.size) (hlow : ∀ a, A = some a → a.block < n₀) (hc : w.cell? ⟨Bs, 0, none⟩ = some (.slice A gs.length cap)) (hI : GtAt w A gs) :
    SeqStopsK F n Try.prog 115 #[.pointer (some ⟨Bs, 0, none⟩)] (gtEncs gs) (KeepB n₀ Bs) (fun ys => ys = comeF gs.length gs.length) (fun _ => True) gs.length w := fun l J Jx W hW _ _ hY h0 =>
  backward1_in F n hF hro hn l Bs n₀ gs A cap hl hlow J Jx hY W ((hW.cell (p := ⟨Bs, 0, none⟩) hBs).trans hc) (hI.grow hW) h0
end Go.Proofs.Ytkhopkonddgicaa

/- Memory in parts, within a range over a function: the parts abide the turn of a block that is no cells. -/
namespace Go.Proofs.Ytkhopkonddgicaa
open Go.RowKit

/-- The blocks of a part are cells. -/
def Cellish (q : Asn) : Prop := ∀ w F, q.p w F → ∀ b ∈ F, ∀ o, w.heap[b]? = some o → o.isCells = true
theorem cellish_box (b : Nat) (t : TypeId) (cs : Array Value) : Cellish (Box b t cs) := by
  rintro w F ⟨rfl, h⟩ b' hb o ho
  obtain rfl : b' = b := by simpa using hb
  rw [h] at ho; cases ho; rfl
theorem cellish_own (e : TypeId) (size : Nat) (v : Value) (n : Nat) (xs : List Value) : Cellish (Own e size v n xs) := by
  rintro w F ⟨rfl, -, ⟨rfl, -⟩ | ⟨g, cap, cur, rfl, -, hh, -⟩⟩ b hb o ho
  · simp [Value.ownBlock] at hb
  · obtain rfl : b = g := by simpa [Value.ownBlock] using hb
    rw [hh] at ho; cases ho; rfl
theorem sep_cellish {w : World} : ∀ {ps : List Asn} {F : List Nat}, sep ps w F → (∀ q ∈ ps, Cellish q) → ∀ b ∈ F, ∀ o, w.heap[b]? = some o → o.isCells = true
  | [], _, h, _ => by subst h; simp
  | q :: ps, _, h, hq => by
    obtain ⟨F1, F2, rfl, _, h1, h2⟩ := h
    intro b hb o ho
    rcases List.mem_append.1 hb with hb | hb
    · exact hq q (by simp) w F1 h1 b hb o ho
    · exact sep_cellish h2 (fun x hx => hq x (by simp [hx])) b hb o ho
theorem Sp.turn {w0 A B : World} {ps : List Asn} {row : Option Nat} (h : Sp w0 A ps) (hq : ∀ q ∈ ps, Cellish q) (hg : A.grownBy B row) (hr : ∀ r, row = some r → w0.heap.size ≤ r ∧ ∃ o : Obj, A.heap[r]? = some o ∧ o.isCells = false) : Sp w0 B ps := by
  obtain ⟨h1, F, h2, h3⟩ := h
  refine ⟨h1.grown hg h1.size (fun k e => by have := (hr k e).1; omega), F, sep_keep h2 fun b hb => hg.block b (sep_lt h2 b hb) (fun e => ?_), h3⟩
  obtain ⟨-, o, ho, hc⟩ := hr b e.symm
  have := sep_cellish h2 hq b hb o ho
  rw [hc] at this; exact absurd this (by decide)
/-- Parts that follow what has come are an invariant of a range over a function. -/
theorem sp_ownFrom {β : Type} {w0 : World} (B : Nat) (hB : w0.heap.size ≤ B) (I : β → World → Prop) (hI : ∀ s W, I s W → ∃ ps, Sp w0 W ps ∧ (∀ q ∈ ps, Cellish q) ∧ ∀ W', Sp w0 W' ps → I s W') : OwnFrom B I := by
  intro s W W' row hs hg hr
  obtain ⟨ps, h1, h2, h3⟩ := hI s W hs
  exact h3 W' (h1.turn h2 hg fun r e => ⟨Nat.le_trans hB (hr r e).1, (hr r e).2⟩)
theorem keepB_b {n₀ Bs : Nat} {w : World} (hn : n₀ ≤ w.heap.size) (hb : Bs < w.heap.size) (W : World) (l : Nat) (o o' : Obj) (hl : w.heap.size ≤ l) (h : W.heap[l]? = some o) (h1 : o.isCells = false) (h2 : o.isWalk = false) : KeepB n₀ Bs W (W.putObj l o') :=
  ⟨belowK_b hn W l o o' hl h h1 h2, World.putObj_heap_other (by omega)⟩
end Go.Proofs.Ytkhopkonddgicaa

/- Contracts: the least model, satisfiability and implied clauses, in the reference. -/
namespace Go.Proofs.Ytkhopkonddgicaa
open Go.RowKit

theorem first_at {p : Nat → Bool} {k N : Nat} (hk : k < N) (h0 : (List.range k).any p = false) (h1 : p k = true) : idxP p (List.range N) = (k : Int) := by
  unfold idxP
  have ha : (List.range N).any p = true := List.any_eq_true.2 ⟨k, List.mem_range.2 hk, h1⟩
  rw [if_pos ha]
  have hl : k < (List.range N).length := by simpa using hk
  have : (List.range N).findIdx p = k := (List.findIdx_eq hl).2 ⟨by simpa using h1, fun j hj => by
    rw [List.any_eq_false] at h0
    have := h0 j (List.mem_range.2 hj)
    simpa using this⟩
  rw [this]
theorem first_no {p : Nat → Bool} {N : Nat} (h0 : (List.range N).any p = false) : idxP p (List.range N) = -1 := by
  unfold idxP
  rw [if_neg (by rw [h0]; decide)]
theorem rany_next {p : Nat → Bool} {k : Nat} : (List.range (k + 1)).any p = ((List.range k).any p || p k) := by
  simp [List.range_succ, List.any_append]
theorem rany_yes {p : Nat → Bool} {k N : Nat} (hk : k < N) (h : p k = true) : (List.range N).any p = true := List.any_eq_true.2 ⟨k, List.mem_range.2 hk, h⟩

/- left out: the seat has no spec.l5First -/

/- left out: the seat has no spec.l5Sat -/

/- left out: the seat has no spec.l5Implies -/
end Go.Proofs.Ytkhopkonddgicaa

/- Contracts: the cursor that draws from bytes. -/
namespace Go.Proofs.Ytkhopkonddgicaa
open Go.RowKit

/-- The bytes that a slice holds can be read. -/
def CodeOk (w : World) (ca : Option Addr) (cl : Nat) : Prop := ∀ j, j < cl → ∃ cb off x, ca = some ⟨cb, off, none⟩ ∧ w.cell? ⟨cb, off + j, none⟩ = some (.int .u8 x) ∧ 0 ≤ x ∧ x ≤ 255
/-- The cursor's block. -/
structure CurIs (A : Nat) (g : Nat) (ca : Option Addr) (cl cc : Nat) (w : World) : Prop where
  ok : ∃ (i : Nat) (s : Int), w.heap[g]? = some (.cells #[.slice ca cl cc, .int .i64 i, .int .u64 s] 78 (0, 0)) ∧ i ≤ A ∧ 0 ≤ s ∧ s < 18446744073709551616
  code : CodeOk w ca cl
  far : 0 < cl → ∀ a, ca = some a → a.block ≠ g
  small : cl ≤ 65536
theorem CodeOk.keep {w w' : World} {ca : Option Addr} {cl : Nat} (h : CodeOk w ca cl) (hk : ∀ a, ca = some a → w'.heap[a.block]? = w.heap[a.block]?) : CodeOk w' ca cl := fun j hj => by
  obtain ⟨cb, off, x, rfl, h1, h2⟩ := h j hj
  exact ⟨cb, off, x, rfl, (World.cell?_of_block (a := ⟨cb, off + j, none⟩) (hk ⟨cb, off, none⟩ rfl)).trans h1, h2⟩
theorem CodeOk.lt {w : World} {ca : Option Addr} {cl : Nat} (h : CodeOk w ca cl) (hl : 0 < cl) : ∀ a, ca = some a → a.block < w.heap.size := by
  obtain ⟨cb, off, x, rfl, h1, _⟩ := h 0 hl
  rintro a e
  cases e
  exact World.block_lt_of_cell? _ _ h1
theorem CodeOk.zero (w : World) (ca : Option Addr) : CodeOk w ca 0 := fun j hj => absurd hj (by omega)
theorem CodeOk.grow {w w' : World} {ca : Option Addr} {cl : Nat} (h : CodeOk w ca cl) (hb : Below w.heap.size w w') : CodeOk w' ca cl := by
  rcases Nat.eq_zero_or_pos cl with rfl | hl
  · exact .zero _ _
  · exact h.keep fun a ha => hb.block _ (h.lt hl a ha)
theorem CurIs.lt {A g : Nat} {ca : Option Addr} {cl cc : Nat} {w : World} (h : CurIs A g ca cl cc w) : g < w.heap.size := by
  obtain ⟨i, s, h, _⟩ := h.ok
  rcases Nat.lt_or_ge g w.heap.size with h' | h'
  · exact h'
  · rw [Array.getElem?_eq_none h'] at h; cases h
theorem CurIs.mono {A A' g : Nat} {ca : Option Addr} {cl cc : Nat} {w : World} (h : CurIs A g ca cl cc w) (hA : A ≤ A') : CurIs A' g ca cl cc w := by
  obtain ⟨⟨i, s, h1, h2, h3⟩, h4, h5, h6⟩ := h
  exact ⟨⟨i, s, h1, by omega, h3⟩, h4, h5, h6⟩
theorem CurIs.grow {A g : Nat} {ca : Option Addr} {cl cc : Nat} {w w' : World} (h : CurIs A g ca cl cc w) (hb : Below w.heap.size w w') : CurIs A g ca cl cc w' := by
  have hlt := h.lt
  obtain ⟨⟨i, s, h1, h2⟩, h4, h5, h6⟩ := h
  refine ⟨⟨i, s, (hb.block g hlt).trans h1, h2⟩, ?_, h5, h6⟩
  rcases Nat.eq_zero_or_pos cl with rfl | hl
  · exact .zero _ _
  · exact h4.keep fun a ha => hb.block _ (h4.lt hl a ha)
/-- A call that turns the cursor alone. -/
def CurPost (R : Value → Prop) (A g : Nat) (ca : Option Addr) (cl cc : Nat) (w : World) (e : Ending) (w' : World) : Prop := ∃ v, R v ∧ e = .returned v ∧ CurIs A g ca cl cc w' ∧ Chg [g] w w'
/-- A number in bounds. -/
def IntIn (lo hi : Int) (v : Value) : Prop := ∃ n : Int, lo ≤ n ∧ n ≤ hi ∧ v = .int .i64 n
/-- The part of the memory that the cursor is. -/
def CurA (A g : Nat) (ca : Option Addr) (cl cc : Nat) : Asn where
  p w F := F = [g] ∧ ∃ (i : Nat) (s : Int), w.heap[g]? = some (.cells #[.slice ca cl cc, .int .i64 i, .int .u64 s] 78 (0, 0)) ∧ i ≤ A ∧ 0 ≤ s ∧ s < 18446744073709551616
  lt := by
    rintro w F ⟨rfl, i, s, h, _⟩ b hb
    obtain rfl : b = g := by simpa using hb
    rcases Nat.lt_or_ge b w.heap.size with h' | h'
    · exact h'
    · rw [Array.getElem?_eq_none h'] at h; cases h
  keep := by
    rintro w w' F ⟨rfl, i, s, h, h2⟩ hk
    exact ⟨rfl, i, s, (hk g (by simp)).trans h, h2⟩
section
variable {w0 w w' : World} {ps : List Asn} {i A A' g cl cc : Nat} {ca : Option Addr}
theorem Sp.cur (h : Sp w0 w ps) (hi : ps[i]? = some (CurA A g ca cl cc)) (hc : CodeOk w0 ca cl) (hs : cl ≤ 65536) :
    CurIs A g ca cl cc w ∧ ∀ w', CurIs A' g ca cl cc w' → Chg [g] w w' → Sp w0 w' (ps.set i (CurA A' g ca cl cc)) := by
  obtain ⟨F, ⟨rfl, hh⟩, hF, hall⟩ := h.upd hi
  have hg := hF g (by simp)
  refine ⟨⟨hh, hc.grow h.below, fun hp a ha => by have := hc.lt hp a ha; omega, hs⟩, fun w' h1 h2 => hall w' _ [g] h2 ⟨rfl, h1.ok⟩ fun b hb => .inl hb⟩
end

theorem u64_in (x : Int) : 0 ≤ IntKind.u64.wrap x ∧ IntKind.u64.wrap x < 18446744073709551616 := by
  have h : IntKind.u64.wrap x = x % 18446744073709551616 := by rfl
  rw [h]; omega
theorem and255 (y : Int) : 0 ≤ bits .and .u64 y 255 ∧ bits .and .u64 y 255 ≤ 255 := by
  have h : bits .and .u64 y 255 = IntKind.u64.wrap (((BitVec.ofInt 64 y &&& BitVec.ofInt 64 255).toNat : Nat) : Int) := rfl
  have h2 : (BitVec.ofInt 64 y &&& BitVec.ofInt 64 255).toNat ≤ 255 := by
    rw [BitVec.toNat_and]
    exact Nat.le_trans Nat.and_le_right (by decide)
  rw [h, IntKind.wrap_u64]
  omega
theorem and255w (y : Int) : 0 ≤ wrap64 (bits .and .u64 y 255) ∧ wrap64 (bits .and .u64 y 255) ≤ 255 := by
  have := and255 y
  unfold wrap64
  omega
theorem cur_step {A g cl cc i : Nat} {ca : Option Addr} {w : World} {s s' : Int} (hg : w.heap[g]? = some (.cells #[.slice ca cl cc, .int .i64 i, .int .u64 s] 78 (0, 0))) (hi : i ≤ A) (hs : 0 ≤ s' ∧ s' < 18446744073709551616)
    (hcode : CodeOk w ca cl) (hfar : 0 < cl → ∀ a, ca = some a → a.block ≠ g) (hsm : cl ≤ 65536) (n m : Nat) :
    CurIs (A + 1) g ca cl cc ((((w.drewN n).setCell ⟨g, 1, none⟩ (.int .i64 ((i : Int) + 1))).setCell ⟨g, 2, none⟩ (.int .u64 s')).drewN m) ∧ Chg [g] w ((((w.drewN n).setCell ⟨g, 1, none⟩ (.int .i64 ((i : Int) + 1))).setCell ⟨g, 2, none⟩ (.int .u64 s')).drewN m) := by
  have hother : ∀ k, k ≠ g → ((((w.drewN n).setCell ⟨g, 1, none⟩ (.int .i64 ((i : Int) + 1))).setCell ⟨g, 2, none⟩ (.int .u64 s')).drewN m).heap[k]? = w.heap[k]? := fun k hk => by
    show (((w.drewN n).setCell ⟨g, 1, none⟩ (.int .i64 ((i : Int) + 1))).setCell ⟨g, 2, none⟩ (.int .u64 s')).heap[k]? = _
    rw [Below.heap_setCell _ _ _ _ hk, Below.heap_setCell _ _ _ _ hk]
    rfl
  have hg' : (w.drewN n).heap[g]? = some (.cells #[.slice ca cl cc, .int .i64 i, .int .u64 s] 78 (0, 0)) := hg
  have hcodeN : CodeOk ((((w.drewN n).setCell ⟨g, 1, none⟩ (.int .i64 ((i : Int) + 1))).setCell ⟨g, 2, none⟩ (.int .u64 s')).drewN m) ca cl := by
    rcases Nat.eq_zero_or_pos cl with h0 | hp
    · rw [h0]; exact .zero _ _
    · exact hcode.keep fun a ha => hother _ (hfar hp a ha)
  refine ⟨⟨⟨i + 1, s', ?_, by omega, hs⟩, hcodeN, hfar, hsm⟩, ⟨rfl, rfl, rfl, by show _ ≤ (((w.drewN n).setCell _ _).setCell _ _).heap.size; simp [World.setCell], fun k _ hn => hother k (by simpa using hn)⟩⟩
  show (((w.drewN n).setCell ⟨g, 1, none⟩ (.int .i64 ((i : Int) + 1))).setCell ⟨g, 2, none⟩ (.int .u64 s')).heap[g]? = _
  simp [World.setCell, Array.getElem?_modify]
  exact ⟨_, hg', rfl⟩

set_option maxRecDepth 100000 in
set_option maxHeartbeats 2000000 in
theorem cur_next (A g : Nat) (ca : Option Addr) (cl cc : Nat) (w : World) (h : CurIs A g ca cl cc w) (hA : A ≤ 1000000000) :
    Calls Try.prog 101 #[.pointer (some ⟨g, 0, none⟩)] w (CurPost (IntIn 0 255) (A + 1) g ca cl cc w) := by
  obtain ⟨⟨i, s, hg, hiA, hs0, hs1⟩, hcode, hfar, hsm⟩ := h
  have S0 : Sp w w [] := Sp.start w
  have c0 : w.cell? ⟨g, 0, none⟩ = some (.slice ca cl cc) := by simp [World.cell?, hg]
  have c1 : w.cell? ⟨g, 1, none⟩ = some (.int .i64 i) := by simp [World.cell?, hg]
  have c2 : w.cell? ⟨g, 2, none⟩ = some (.int .u64 s) := by simp [World.cell?, hg]
  have f1 : w.frozen? ⟨g, 1, none⟩ = false := by simp [World.frozen?, hg]
  have f2 : w.frozen? ⟨g, 2, none⟩ = false := by simp [World.frozen?, hg]
  by_cases hlt : i < cl
  · obtain ⟨cb, off, x, rfl, hx, hx0, hx1⟩ := hcode i hlt
    have hne := hfar (by omega) _ rfl
    have hlt' : (i : Int) < (cl : Int) := by omega
    go_enter Try.func101, Try.ntmps101
    go_wp2_with fail
    go_quiet (fail)
    go_wp2_with fail
    go_quiet (fail)
    go_wp2_with fail
    go_quiet (fail)
    go_wp2_with fail
    go_ret
    obtain ⟨h1, h2⟩ := cur_step hg hiA (u64_in _) hcode hfar hsm _ _
    exact ⟨_, ⟨x, hx0, hx1, rfl⟩, rfl, h1, h2⟩
  · have hge : ¬ (i : Int) < (cl : Int) := by omega
    go_enter Try.func101, Try.ntmps101
    go_wp2_with fail
    go_quiet (fail)
    go_wp2_with fail
    go_quiet (fail)
    go_wp2_with fail
    go_ret
    obtain ⟨h1, h2⟩ := cur_step hg hiA (u64_in _) hcode hfar hsm _ _
    exact ⟨_, ⟨_, (and255w _).1, (and255w _).2, rfl⟩, rfl, h1, h2⟩

theorem Chg.cell {F : List Nat} {w w' : World} {b o : Nat} {v : Value} (h : Chg F w w') (hc : w.cell? ⟨b, o, none⟩ = some v) (hb : b ∉ F) : w'.cell? ⟨b, o, none⟩ = some v :=
  (World.cell?_of_block (a := ⟨b, o, none⟩) (h.block b (World.block_lt_of_cell? _ _ hc) hb)).trans hc

set_option maxHeartbeats 2000000 in
theorem cur_pick (n : Int) (A g : Nat) (ca : Option Addr) (cl cc : Nat) (w : World) (h : CurIs A g ca cl cc w) (hA : A ≤ 100000000) (hn : n ≤ 1000000000) :
    Calls Try.prog 69 #[.pointer (some ⟨g, 0, none⟩), .int .i64 n] w (CurPost (IntIn 0 (if n ≤ 1 then 0 else n - 1)) (A + 2) g ca cl cc w) := by
  by_cases h1 : n ≤ 1
  · rw [if_pos h1]
    go_enter Try.func69, Try.ntmps69
    go_wp2_with fail
    go_ret
    exact ⟨_, ⟨0, by omega, by omega, rfl⟩, rfl, h.mono (by omega), Chg.refl _ _⟩
  rw [if_neg h1]
  have hn1 : 1 < n := by omega
  have hn0 : 0 < n := by omega
  by_cases h2 : 200 < n
  · go_enter Try.func69, Try.ntmps69
    go_wp2_with fail
    refine (cur_next A g ca cl cc w h (by omega)).mono ?_
    rintro e w1 ⟨_, ⟨x, hx0, hx1, rfl⟩, rfl, hi1, hc1⟩
    go_wp2_with fail
    refine (cur_next (A + 1) g ca cl cc w1 hi1 (by omega)).mono ?_
    rintro e w2 ⟨_, ⟨y, hy0, hy1, rfl⟩, rfl, hi2, hc2⟩
    have hxy : 0 ≤ x * 256 + y := by omega
    have hm := Int.emod_nonneg (x * 256 + y) (by omega : n ≠ 0)
    have hm2 := Int.emod_lt_of_pos (x * 256 + y) hn0
    have hc := hc1.trans hc2
    replace hm := Lib.hid hm
    replace hm2 := Lib.hid hm2
    go_wp2_with fail
    go_ret
    exact ⟨_, ⟨_, hm.out, by have := hm2.out; omega, rfl⟩, rfl, hi2, hc⟩
  · go_enter Try.func69, Try.ntmps69
    go_wp2_with fail
    refine (cur_next A g ca cl cc w h (by omega)).mono ?_
    rintro e w1 ⟨_, ⟨x, hx0, hx1, rfl⟩, rfl, hi1, hc1⟩
    have hm := Int.emod_nonneg x (by omega : n ≠ 0)
    have hm2 := Int.emod_lt_of_pos x hn0
    replace hm := Lib.hid hm
    replace hm2 := Lib.hid hm2
    go_wp2_with fail
    go_ret
    exact ⟨_, ⟨_, hm.out, by have := hm2.out; omega, rfl⟩, rfl, hi1.mono (by omega), hc1⟩
theorem cur_pick_at {lo hi : Int} {n : Int} {A g : Nat} {ca : Option Addr} {cl cc : Nat} {w : World} (h : CurIs A g ca cl cc w) (hA : A ≤ 100000000) (hn : n ≤ 1000000000) (h1 : lo ≤ 0) (h2 : 0 ≤ hi) (h3 : n - 1 ≤ hi) :
    Calls Try.prog 69 #[.pointer (some ⟨g, 0, none⟩), .int .i64 n] w (CurPost (IntIn lo hi) (A + 2) g ca cl cc w) :=
  (cur_pick n A g ca cl cc w h hA hn).mono fun e w' ⟨v, ⟨x, hx0, hx1, hx⟩, r⟩ => ⟨v, ⟨x, by omega, by split at hx1 <;> omega, hx⟩, r⟩

/-- Some bool. -/
def IsBool (v : Value) : Prop := ∃ q : Bool, v = .bool q
theorem cur_one (n : Int) (A g : Nat) (ca : Option Addr) (cl cc : Nat) (w : World) (h : CurIs A g ca cl cc w) (hA : A ≤ 100000000) (hn : n ≤ 1000000000) :
    Calls Try.prog 72 #[.pointer (some ⟨g, 0, none⟩), .int .i64 n] w (CurPost IsBool (A + 2) g ca cl cc w) := by
  go_enter Try.func72, Try.ntmps72
  go_wp2_with fail
  refine (cur_pick n A g ca cl cc w h hA hn).mono ?_
  rintro e w1 ⟨_, ⟨x, _, _, rfl⟩, rfl, hi1, hc1⟩
  go_wp2_with fail
  go_ret
  exact ⟨_, ⟨_, rfl⟩, rfl, hi1, hc1⟩

/-- A string of which R holds. -/
def StrR (R : ByteArray → Prop) (v : Value) : Prop := ∃ s, R s ∧ v = .string s
/-- A list of strings of which R holds. -/
def StrsR (R : ByteArray → Prop) (w : World) (b off m : Nat) : Prop := ∀ j, j < m → ∃ s, R s ∧ w.cell? ⟨b, off + j, none⟩ = some (.string s)

set_option maxHeartbeats 2000000 in
theorem cur_of (R : ByteArray → Prop) (b off m c : Nat) (A g : Nat) (ca : Option Addr) (cl cc : Nat) (w : World) (h : CurIs A g ca cl cc w) (hA : A ≤ 100000000) (hm0 : 0 < m) (hm : m ≤ 1000000) (hs : StrsR R w b off m) (hb : b ≠ g) :
    Calls Try.prog 120 #[.pointer (some ⟨g, 0, none⟩), .slice (some ⟨b, off, none⟩) m c] w (CurPost (StrR R) (A + 2) g ca cl cc w) := by
  go_enter Try.func120, Try.ntmps120
  go_wp2_with fail
  refine (cur_pick_at (lo := 0) (hi := (m : Int) - 1) h hA (by omega) (by omega) (by omega) (by omega)).mono ?_
  rintro e w1 ⟨_, ⟨x, hx0, hx1, rfl⟩, rfl, hi1, hc1⟩
  obtain ⟨k, rfl⟩ := Int.eq_ofNat_of_zero_le hx0
  have hk : k < m := by omega
  have hk' : (k : Int) < (m : Int) := by omega
  obtain ⟨s, hR, hcell⟩ := hs k hk
  have k0 := hc1.cell hcell (by simpa using hb)
  clear hx1
  go_wp2_with fail
  go_ret
  exact ⟨_, ⟨s, hR, rfl⟩, rfl, hi1, hc1⟩

set_option maxHeartbeats 2000000 in
theorem cur_among (lo hi : Int) (b off m c : Nat) (A g : Nat) (ca : Option Addr) (cl cc : Nat) (w : World) (h : CurIs A g ca cl cc w) (hA : A ≤ 100000000) (hm0 : 0 < m) (hm : m ≤ 1000000) (hs : ∀ j, j < m → ∃ x, lo ≤ x ∧ x ≤ hi ∧ w.cell? ⟨b, off + j, none⟩ = some (.int .i64 x)) (hb : b ≠ g) :
    Calls Try.prog 73 #[.pointer (some ⟨g, 0, none⟩), .slice (some ⟨b, off, none⟩) m c] w (CurPost (IntIn lo hi) (A + 2) g ca cl cc w) := by
  go_enter Try.func73, Try.ntmps73
  go_wp2_with fail
  refine (cur_pick_at (lo := 0) (hi := (m : Int) - 1) h hA (by omega) (by omega) (by omega) (by omega)).mono ?_
  rintro e w1 ⟨_, ⟨x, hx0, hx1, rfl⟩, rfl, hi1, hc1⟩
  obtain ⟨k, rfl⟩ := Int.eq_ofNat_of_zero_le hx0
  have hk : k < m := by omega
  have hk' : (k : Int) < (m : Int) := by omega
  obtain ⟨y, hy0, hy1, hcell⟩ := hs k hk
  have k0 := hc1.cell hcell (by simpa using hb)
  clear hx1
  go_wp2_with fail
  go_ret
  exact ⟨_, ⟨y, hy0, hy1, rfl⟩, rfl, hi1, hc1⟩
end Go.Proofs.Ytkhopkonddgicaa

/- Memory in parts beside a cursor that turns. -/
namespace Go.Proofs.Ytkhopkonddgicaa
open Go.RowKit

theorem ints_new {lo hi : Int} {W : World} {cs : Array Value} {t : TypeId} {b n : Nat} (hb : b = W.heap.size) (h : ∀ j, j < n → ∃ x, cs[j]? = some (.int .i64 x) ∧ lo ≤ x ∧ x ≤ hi) : ∀ j, j < n → ∃ x, lo ≤ x ∧ x ≤ hi ∧ (W.alloc (.cells cs t)).cell? ⟨b, 0 + j, none⟩ = some (.int .i64 x) := fun j hj => by
  obtain ⟨x, h1, h2, h3⟩ := h j hj
  subst hb
  refine ⟨x, h2, h3, ?_⟩
  rw [Nat.zero_add]
  exact (cell_of_row _ _ _ _ _ _ (heap_alloc_new W _)).trans h1
theorem CurPost.chg {R : Value → Prop} {A g : Nat} {ca : Option Addr} {cl cc : Nat} {w w1 : World} {e : Ending} {w' : World} (h : CurPost R A g ca cl cc w1 e w') (hc : Chg [g] w w1) : CurPost R A g ca cl cc w e w' := by
  obtain ⟨v, h1, h2, h3, h4⟩ := h
  exact ⟨v, h1, h2, h3, hc.trans h4⟩
theorem CurIs.stay {A A' g cl cc : Nat} {ca : Option Addr} {w W W' : World} (h : CurIs A g ca cl cc w) (hi : CurIs A' g ca cl cc W) (hk : ∀ k, k < w.heap.size → W'.heap[k]? = W.heap[k]?) : CurIs A' g ca cl cc W' := by
  have hg := h.lt
  have hl := h.code
  obtain ⟨⟨i, s, h1, h2⟩, h3, h4, h5⟩ := hi
  refine ⟨⟨i, s, (hk g hg).trans h1, h2⟩, ?_, h4, h5⟩
  rcases Nat.eq_zero_or_pos cl with rfl | hp
  · exact .zero _ _
  · exact h3.keep fun a ha => hk _ (hl.lt hp a ha)

/-- Parts of the call's own, beside a cursor g that was there. -/
def CS (w0 : World) (g : Nat) (ca : Option Addr) (cl cc A : Nat) (w : World) (ps : List Asn) : Prop :=
  (∃ A0, CurIs A0 g ca cl cc w0) ∧ CurIs A g ca cl cc w ∧ Chg [g] w0 w ∧ ∃ F, sep ps w F ∧ ∀ b ∈ F, w0.heap.size ≤ b
section
variable {w0 w w' w1 : World} {g cl cc A A' i b o n n' size : Nat} {ca : Option Addr} {ps : List Asn} {q : Asn} {t e : TypeId} {cs : Array Value} {v v' : Value} {xs xs' : List Value}
theorem CS.start (h : CurIs A g ca cl cc w) : CS w g ca cl cc A w [] := ⟨⟨A, h⟩, h, Chg.refl _ _, [], rfl, by simp⟩
theorem CS.cur (h : CS w0 g ca cl cc A w ps) : CurIs A g ca cl cc w := h.2.1
theorem CS.chg (h : CS w0 g ca cl cc A w ps) : Chg [g] w0 w := h.2.2.1
theorem CS.glt (h : CS w0 g ca cl cc A w ps) : g < w0.heap.size := by obtain ⟨⟨A0, h0⟩, _⟩ := h; exact h0.lt
theorem CS.mono (h : CS w0 g ca cl cc A w ps) (hA : A ≤ A') : CS w0 g ca cl cc A' w ps := ⟨h.1, h.2.1.mono hA, h.2.2⟩
theorem CS.turn (h : CS w0 g ca cl cc A w ps) (hi : CurIs A' g ca cl cc w') (hc : Chg [g] w w') : CS w0 g ca cl cc A' w' ps := by
  have hg := h.glt
  obtain ⟨h0, h1, h2, F, h3, h4⟩ := h
  exact ⟨h0, hi, h2.trans hc, F, sep_keep h3 fun b hm => hc.block b (sep_lt h3 b hm) fun hb => by
    obtain rfl : b = g := by simpa using hb
    have := h4 b hm; omega, h4⟩
theorem CS.grow (h : CS w0 g ca cl cc A w ps) (hb : Below w.heap.size w w') : CS w0 g ca cl cc A w' ps := by
  obtain ⟨h0, h1, h2, F, h3, h4⟩ := h
  exact ⟨h0, h1.grow hb, h2.then hb, F, sep_keep h3 fun b hm => hb.block b (sep_lt h3 b hm), h4⟩
theorem CS.new {F : List Nat} (h : CS w0 g ca cl cc A w ps) (hb : Below w.heap.size w w') (hq : q.p w' F) (hF : ∀ b ∈ F, w.heap.size ≤ b) : CS w0 g ca cl cc A w' (q :: ps) := by
  have hsz := h.chg.size
  obtain ⟨h0, h1, h2, F', h3, h4⟩ := h
  refine ⟨h0, h1.grow hb, h2.then hb, F ++ F', ⟨F, F', rfl, fun b hm hm2 => ?_, hq, sep_keep h3 fun b hm => hb.block b (sep_lt h3 b hm)⟩, fun b hm => ?_⟩
  · have := hF b hm; have := sep_lt h3 b hm2; omega
  · rcases List.mem_append.1 hm with hm | hm
    · have := hF b hm; omega
    · exact h4 b hm
theorem CS.upd (h : CS w0 g ca cl cc A w ps) (hi : ps[i]? = some q) : ∃ Fi, q.p w Fi ∧ (∀ b ∈ Fi, w0.heap.size ≤ b) ∧
    ∀ w' q' Fi', Chg Fi w w' → q'.p w' Fi' → (∀ b ∈ Fi', b ∈ Fi ∨ w.heap.size ≤ b) → CS w0 g ca cl cc A w' (ps.set i q') := by
  have hsz := h.chg.size
  obtain ⟨h0, h1, h2, F, h3, h4⟩ := h
  obtain ⟨Fi, hp, hsub, hall⟩ := sep_upd h3 hi
  refine ⟨Fi, hp, fun b hb => h4 b (hsub b hb), fun w' q' Fi' hc hq hF => ?_⟩
  obtain ⟨F', hs, hF'⟩ := hall w' q' Fi' hc hq hF
  have hk : ∀ k, k < w0.heap.size → w'.heap[k]? = w.heap[k]? := fun k hk => hc.block k (Nat.lt_of_lt_of_le hk hsz) fun hm => by have := h4 k (hsub k hm); omega
  obtain ⟨A0, h0'⟩ := h0
  exact ⟨⟨A0, h0'⟩, h0'.stay h1 hk, ⟨hc.os.trans h2.os, hc.tape.trans h2.tape, hc.output.trans h2.output, Nat.le_trans h2.size hc.size, fun k hk' hn => (hk k hk').trans (h2.block k hk' hn)⟩, F', hs, fun b hb => (hF' b hb).elim (h4 b) (Nat.le_trans hsz)⟩
theorem CS.get (h : CS w0 g ca cl cc A w ps) (hi : ps[i]? = some q) : ∃ Fi, q.p w Fi ∧ (∀ b ∈ Fi, w0.heap.size ≤ b) := by
  obtain ⟨Fi, h1, h2, _⟩ := h.upd hi
  exact ⟨Fi, h1, h2⟩
theorem CS.tail (h : CS w0 g ca cl cc A w (q :: ps)) : CS w0 g ca cl cc A w ps := by
  obtain ⟨h0, h1, h2, F, ⟨F1, F2, rfl, _, _, h3⟩, h4⟩ := h
  exact ⟨h0, h1, h2, F2, h3, fun b hb => h4 b (List.mem_append.2 (.inr hb))⟩
theorem CS.swap {q' : Asn} (h : CS w0 g ca cl cc A w (q :: q' :: ps)) : CS w0 g ca cl cc A w (q' :: q :: ps) := by
  obtain ⟨h0, h1, h2, F, ⟨F1, F2, rfl, hd, hq, F3, F4, rfl, hd2, hq', h3⟩, h4⟩ := h
  refine ⟨h0, h1, h2, F3 ++ (F1 ++ F4), ⟨F3, F1 ++ F4, rfl, fun b hb hb2 => ?_, hq', F1, F4, rfl, fun b hb hb2 => hd b hb (List.mem_append.2 (.inr hb2)), hq, h3⟩, fun b hb => ?_⟩
  · rcases List.mem_append.1 hb2 with hb2 | hb2
    · exact hd b hb2 (List.mem_append.2 (.inl hb))
    · exact hd2 b hb hb2
  · apply h4
    simp only [List.mem_append] at hb ⊢
    rcases hb with h | h | h
    · exact .inr (.inl h)
    · exact .inl h
    · exact .inr (.inr h)
theorem CS.third {q1 q2 q3 : Asn} (h : CS w0 g ca cl cc A w (q1 :: q2 :: q3 :: ps)) : CS w0 g ca cl cc A w (q1 :: q2 :: ps) := by
  obtain ⟨h0, h1, h2, F, ⟨F1, F2, rfl, hd, hq, F3, F4, rfl, hd2, hq', F5, F6, rfl, hd3, hq3, h3⟩, h4⟩ := h
  refine ⟨h0, h1, h2, F1 ++ (F3 ++ F6), ⟨F1, F3 ++ F6, rfl, fun b hb hb2 => hd b hb ?_, hq, F3, F6, rfl, fun b hb hb2 => hd2 b hb (List.mem_append.2 (.inr hb2)), hq', h3⟩, fun b hb => h4 b ?_⟩
  · rcases List.mem_append.1 hb2 with h | h
    · exact List.mem_append.2 (.inl h)
    · exact List.mem_append.2 (.inr (List.mem_append.2 (.inr h)))
  · simp only [List.mem_append] at hb ⊢
    rcases hb with h | h | h
    · exact .inl h
    · exact .inr (.inl h)
    · exact .inr (.inr (.inr h))
/-- The second part is let go. -/
theorem CS.third2 {q1 q2 : Asn} (h : CS w0 g ca cl cc A w (q1 :: q2 :: ps)) : CS w0 g ca cl cc A w (q1 :: ps) := h.swap.tail
theorem CS.drew (h : CS w0 g ca cl cc A w ps) : CS w0 g ca cl cc A w.drew ps := h.grow (bdr (bb _))
theorem CS.alloc (h : CS w0 g ca cl cc A w ps) (o : Obj) : CS w0 g ca cl cc A (w.alloc o) ps := h.grow (bal (bb _) o)
theorem CS.alloc_box (h : CS w0 g ca cl cc A w ps) (cs : Array Value) (t : TypeId) : CS w0 g ca cl cc A (w.alloc (.cells cs t)) (Box w.heap.size t cs :: ps) :=
  h.new (bal (bb _) _) (F := [w.heap.size]) ⟨rfl, heap_alloc_new w _⟩ (by simp)
theorem CS.box (h : CS w0 g ca cl cc A w ps) (hi : ps[i]? = some (Box b t cs)) : w0.heap.size ≤ b ∧ b < w.heap.size ∧ w.heap[b]? = some (.cells cs t (0, 0)) := by
  obtain ⟨F, hp, hF⟩ := h.get hi
  have hlt := (Box b t cs).lt hp b
  obtain ⟨rfl, hh⟩ := hp
  exact ⟨hF b (by simp), hlt (by simp), hh⟩
theorem CS.cell (h : CS w0 g ca cl cc A w ps) (hi : ps[i]? = some (Box b t cs)) {u : Value} (ho : cs[o]? = some u) : w.cell? ⟨b, o, none⟩ = some u := by
  simp [World.cell?, (h.box hi).2.2, ho]
theorem CS.frozen (h : CS w0 g ca cl cc A w ps) (hi : ps[i]? = some (Box b t cs)) (o : Nat) : w.frozen? ⟨b, o, none⟩ = false := by
  simp [World.frozen?, (h.box hi).2.2]
theorem CS.store (h : CS w0 g ca cl cc A w ps) (hi : ps[i]? = some (Box b t cs)) (o : Nat) (u : Value) : CS w0 g ca cl cc A (w.setCell ⟨b, o, none⟩ u) (ps.set i (Box b t (cs.setIfInBounds o u))) := by
  obtain ⟨Fi, ⟨rfl, hh⟩, hF, hall⟩ := h.upd hi
  exact hall _ (Box b t (cs.setIfInBounds o u)) [b] ((Chg.refl _ _).set (by simp) _) ⟨rfl, by simp [World.setCell, Array.getElem?_modify, hh]⟩ fun b hb => .inl hb
theorem CS.own (h : CS w0 g ca cl cc A w ps) (hi : ps[i]? = some (Own e size v n xs)) : w.ownsRow 0 e size v n xs := by
  obtain ⟨F, hp, _⟩ := h.get hi
  exact hp.2
theorem CS.owns_end (h : CS w0 g ca cl cc A w ps) (hi : ps[i]? = some (Own e size v n xs)) : w.ownsRow w0.heap.size e size v n xs := by
  obtain ⟨F, ⟨rfl, h1⟩, h2⟩ := h.get hi
  exact owns_base h1 fun g hg => h2 g (by simp [hg])
theorem CS.own_new (h : CS w0 g ca cl cc A w ps) (hb : Below w.heap.size w w') (ho : w'.ownsRow 0 e size v n xs) (hv : ∀ g, v.ownBlock = some g → w.heap.size ≤ g) : CS w0 g ca cl cc A w' (Own e size v n xs :: ps) :=
  h.new hb (F := v.ownBlock.toList) ⟨rfl, ho⟩ fun b hm => hv b (by simpa using hm)
theorem CS.own_made (h : CS w0 g ca cl cc A w ps) (e : TypeId) (size : Nat) : CS w0 g ca cl cc A (w.alloc (.cells #[] e)) (Own e size (.slice (some ⟨w.heap.size, 0, none⟩) 0 0) 0 [] :: ps) :=
  h.own_new (bal (bb _) _) ⟨by simp, .inr ⟨w.heap.size, 0, #[], rfl, Nat.zero_le _, heap_alloc_new w _, Nat.le_refl _, by decide, by simp, by simp⟩⟩ (fun g hg => by
    have : w.heap.size = g := by simpa [Value.ownBlock] using hg
    omega)
theorem CS.own_push (h : CS w0 g ca cl cc A w ps) (hi : ps[i]? = some (Own e size v n xs)) (hb : Below w.heap.size w w1) (ho : w'.ownsRow 0 e size v' n' xs') (hg : w1.grownBy w' v.ownBlock)
    (hat : v'.ownBlock = v.ownBlock ∨ v'.ownBlock = some w1.heap.size) : CS w0 g ca cl cc A w' (ps.set i (Own e size v' n' xs')) := by
  obtain ⟨F, ⟨rfl, hh⟩, hF, hall⟩ := h.upd hi
  refine hall w' _ v'.ownBlock.toList ?_ ⟨rfl, ho⟩ fun b hm => ?_
  · exact ⟨hg.os.trans hb.os, hg.tape.trans hb.tape, hg.output.trans hb.output, Nat.le_trans hb.size hg.size, fun k hk hn =>
      (hg.block k (Nat.lt_of_lt_of_le hk hb.size) (fun e => hn (by simp [← e]))).trans (hb.block k hk)⟩
  · rcases hat with h1 | h1
    · exact .inl (by rw [h1] at hm; exact hm)
    · rw [h1] at hm
      obtain rfl : b = w1.heap.size := by simpa using hm
      exact .inr hb.size
/-- A store into an own row. -/
theorem CS.own_put {cap : Nat} {gx : Nat} (h : CS w0 g ca cl cc A w ps) (hi : ps[i]? = some (Own e size (.slice (some ⟨gx, 0, none⟩) n cap) n xs)) (u : Value) (ho : o < n * size) :
    CS w0 g ca cl cc A (w.setCell ⟨gx, o, none⟩ u) (ps.set i (Own e size (.slice (some ⟨gx, 0, none⟩) n cap) n (xs.set o u))) := by
  obtain ⟨F, ⟨rfl, hh⟩, hF, hall⟩ := h.upd hi
  have hlen := hh.1
  obtain ⟨g', cap', cur, e1, h0, hg, hn, hm, hc, ht⟩ := own_block hh (by
    rcases Nat.eq_zero_or_pos n with rfl | h
    · simp at ho
    · exact h)
  simp only [Value.slice.injEq, Option.some.injEq, Addr.mk.injEq] at e1
  obtain ⟨⟨rfl, _⟩, _, rfl⟩ := e1
  have hset : (w.setCell ⟨gx, o, none⟩ u).heap[gx]? = some (.cells (cur.setIfInBounds o u) e (0, 0)) := by
    simp [World.setCell, Array.getElem?_modify]
    exact ⟨_, hg, rfl⟩
  refine hall _ _ [gx] ?_ ⟨rfl, by rw [List.length_set]; exact hlen, .inr ⟨gx, cap, cur.setIfInBounds o u, rfl, Nat.zero_le _, hset, hn, hm, by rw [Array.size_setIfInBounds]; exact hc, ?_⟩⟩ fun b hb => .inl hb
  · exact ⟨rfl, rfl, rfl, by simp [World.setCell], fun k _ hn => Below.heap_setCell _ _ _ _ (by simpa [Value.ownBlock] using hn)⟩
  · rw [Array.toList_setIfInBounds, List.take_set, ht]
/-- Parts of a call's own go in front. -/
theorem CS.seq {qs : List Asn} (h : CS w0 g ca cl cc A w ps) (k : Sp w w' qs) : CS w0 g ca cl cc A w' (qs ++ ps) := by
  have hsz := h.chg.size
  obtain ⟨h0, h1, h2, G, h3, h4⟩ := h
  obtain ⟨k1, F, k2, k3⟩ := k
  refine ⟨h0, h1.grow k1, h2.then k1, F ++ G, sep_append k2 (sep_keep h3 fun b hm => k1.block b (sep_lt h3 b hm)) (fun b hb hb2 => ?_), fun b hb => ?_⟩
  · have := k3 b hb; have := sep_lt h3 b hb2; omega
  · rcases List.mem_append.1 hb with hm | hm
    · have := k3 b hm; omega
    · exact h4 b hm
end
end Go.Proofs.Ytkhopkonddgicaa

/- Contracts: a number in a row, in the reference. -/
namespace Go.Proofs.Ytkhopkonddgicaa
open Go.RowKit

/-- A number is in a row. -/
def hasI (xs : List Int) (x : Int) : Bool := xs.contains x
theorem hasI_no {xs : List Int} {x : Int} {k : Nat} (hk : k < xs.length) (h0 : hasI (xs.take k) x = false) (h : ¬ xs[k] = x) : hasI (xs.take (k + 1)) x = false := by
  unfold hasI at *
  rw [List.take_succ_eq_append_getElem hk, List.contains_append, h0]
  simp
  exact fun e => h e.symm
theorem hasI_yes {xs : List Int} {x : Int} {k : Nat} (hk : k < xs.length) (h : xs[k] = x) : hasI xs x = true := by
  unfold hasI
  subst h
  simp

set_option maxHeartbeats 1000000 in
theorem l1Has_any (v : Value) (xs : List Int) (F : List Nat) (x : Int) (w : World) (h : Ty.int.row false w v xs F) :
    Calls Try.prog 151 #[v, .int .i64 x] w fun e w' => e = .returned (.bool (hasI xs x)) ∧ w = w' := by
  obtain ⟨a, cap, rfl, hx1, hx2, _, hx3⟩ := row_int h
  go_enter Try.func151, Try.ntmps151
  go_wp2_with fail
  go_loopw [5] (fun i wr => ∃ k : Nat, k ≤ xs.length ∧ i = .int .i64 k ∧ Hid (hasI (xs.take k) x = false) ∧ w = wr) (fun i _ => xs.length - (intOf i).toNat)
  case atStart => exact ⟨0, Nat.zero_le _, rfl, by simp [Hid, hasI], rfl⟩
  case round =>
    obtain ⟨k, hk, rfl, HR, rfl⟩ := hrel
    by_cases hlt : k < xs.length
    · rcases hx3 with ⟨rfl, rfl⟩ | ⟨hxn, b, off, rfl, rfl, hxc⟩
      · exact absurd hlt (by simp)
      have k0 := (hxc k hlt).1
      by_cases he : xs[k] = x
      · have HN : Hid (hasI xs x = true) := hasI_yes hlt he
        have he' : (xs[k] == x) = true := by simpa using he
        clear he HR
        go_wp2_with fail
        go_ret
        exact ⟨ret_bool HN.out.symm, rfl⟩
      · have HN : Hid (hasI (xs.take (k + 1)) x = false) := hasI_no hlt HR.out he
        have he' : (xs[k] == x) = false := by simpa using he
        clear he HR
        go_wp2_with fail
        go_roundw
        case rel => exact ⟨k + 1, by omega, by go_num, HN, by first | rfl | trivial⟩
        case measure => simp [intOf]; omega
    · obtain rfl : k = xs.length := by omega
      have HN := HR.out
      rw [List.take_length] at HN
      replace HN := Lib.hid HN
      clear HR
      go_wp2_with fail
      go_ret
      exact ⟨ret_bool HN.out.symm, rfl⟩

set_option maxHeartbeats 1000000 in
theorem l2Has_any (v : Value) (xs : List Int) (F : List Nat) (x : Int) (w : World) (h : Ty.int.row false w v xs F) :
    Calls Try.prog 139 #[v, .int .i64 x] w fun e w' => e = .returned (.bool (hasI xs x)) ∧ w = w' := by
  go_enter Try.func139, Try.ntmps139
  go_wp2_with (go_at_call 151; refine (l1Has_any _ _ _ _ _ h).mono ?_; rintro e w1 ⟨rfl, rfl⟩)
  go_ret
  exact ⟨rfl, rfl⟩
theorem l2Has_at {v : Value} {xs : List Int} {F : List Nat} {x : Int} {w : World} {q : Bool} (h : Ty.int.row false w v xs F) (hq : hasI xs x = q) :
    Calls Try.prog 139 #[v, .int .i64 x] w fun e w' => e = .returned (.bool q) ∧ w = w' := hq ▸ l2Has_any v xs F x w h
end Go.Proofs.Ytkhopkonddgicaa

/- Contracts: clauses in the reference: copying, comparing, finding the place. -/
namespace Go.Proofs.Ytkhopkonddgicaa
open Go.RowKit

/-- An own row of numbers. -/
def OwnsPost (w : World) (xs : List Int) (e : Ending) (w' : World) : Prop := ∃ v, e = .returned v ∧ w'.ownsRow w.heap.size 3 1 v xs.length (xs.map (.int .i64)) ∧ Below w.heap.size w w'
theorem ints_one (xs : List Int) : ∀ u ∈ xs.map (Value.int .i64), u.oneCell' = true := by
  intro u hu
  obtain ⟨x, _, rfl⟩ := List.mem_map.1 hu
  rfl

set_option maxHeartbeats 1000000 in
theorem l1Own_any (v : Value) (xs : List Int) (F : List Nat) (w : World) (h : Ty.int.row false w v xs F) (hl : xs.length ≤ 10000000000) :
    Calls Try.prog 140 #[v] w (OwnsPost w xs) := by
  obtain ⟨i0, hi, hz0, hz1, hz2⟩ := info_parts infoInt
  have S0 := (Sp.start w).own_made 3 1
  have hB0 := S0.below
  obtain ⟨A, c, rfl, hsrc⟩ := row_src_int (Ty.row_grow h hB0)
  replace S0 := Lib.hid S0
  go_enter Try.func140, Try.ntmps140
  go_wp2_with (at_builtin; refine wpList_append_src rfl _ _ rfl Try.underlying45 hi hz0 hz1 hz2 rfl (by decide) _ _ _ rfl (S0.out.own (i := 0) rfl) A xs.length c _ rfl hsrc (ints_one xs) ?c3 ?c4 ?_)
  case c3 => unfold maxLen; omega
  case c4 => omega
  intro v' w1 hown hg hat
  have S1 := S0.out.own_push (i := 0) rfl (bb _) hown hg (by simpa using hat)
  have ho := S1.owns_end (i := 0) rfl
  have hB := S1.below
  obtain ⟨a, c', rfl⟩ := owns_form ho
  replace ho := Lib.hid ho
  clear hown hg hat S1 S0
  go_wp2_with fail
  go_ret
  exact ⟨_, rfl, ho.out, hB⟩

/- left out: the seat has no spec.l1Same -/

/- left out: the seat has no spec.l2Key -/

/- left out: the seat has no spec.l2Before -/
end Go.Proofs.Ytkhopkonddgicaa

/- Contracts: clauses in the reference: a literal put in, a variable left out, resolvents. -/
namespace Go.Proofs.Ytkhopkonddgicaa
open Go.RowKit

/-- A clause without a variable. -/
def withoutB (c : List Int) (v : Int) : List Int := c.filter (fun l => !(absV l == v))
theorem without_step {c : List Int} {v : Int} {k : Nat} {q : Bool} (hk : k < c.length) (h : (absV c[k] == v) = q) : withoutB (c.take (k + 1)) v = withoutB (c.take k) v ++ (if q then [] else [c[k]]) := by
  unfold withoutB
  rw [List.take_succ_eq_append_getElem hk, List.filter_append]
  cases q <;> simp [h]
theorem without_len (c : List Int) (v : Int) (k : Nat) : (withoutB (c.take k) v).length ≤ k := Nat.le_trans (List.length_filter_le _ _) (by rw [List.length_take]; omega)

set_option maxRecDepth 100000 in
set_option maxHeartbeats 2000000 in
theorem l2Without_any (u : Value) (c : List Int) (v : Int) (F : List Nat) (w : World) (hx : Ty.int.row false w u c F) (hc : c.length ≤ 10000000000) :
    Calls Try.prog 123 #[u, .int .i64 v] w (OwnsPost w (withoutB c v)) := by
  obtain ⟨i0, hi, hz0, hz1, hz2⟩ := info_parts infoInt
  obtain ⟨ad, cap, rfl, hx1, hx2, hxI, hx3⟩ := row_int hx
  have S0 := (Sp.start w).own_made 3 1
  replace S0 := Lib.hid S0
  go_enter Try.func123, Try.ntmps123
  go_wp2_with fail
  go_loopw [5, 6] (fun s i wr => ∃ k : Nat, k ≤ c.length ∧ i = .int .i64 k ∧ Sp w wr [Own 3 1 s (withoutB (c.take k) v).length ((withoutB (c.take k) v).map (.int .i64))]) (fun _ i _ => c.length - (intOf i).toNat)
  case atStart => exact ⟨0, Nat.zero_le _, rfl, S0.out⟩
  case round =>
    obtain ⟨k, hk, rfl, HS⟩ := hrel
    have hB := HS.below
    have hown := HS.own (i := 0) rfl
    have hlen := without_len c v k
    obtain ⟨sa, sc, rfl⟩ := owns_form hown
    replace HS := Lib.hid HS
    replace hown := Lib.hid hown
    by_cases hlt : k < c.length
    · rcases hx3 with ⟨rfl, rfl⟩ | ⟨hxn, b, off, rfl, rfl, hxc⟩
      · exact absurd hlt (by simp)
      have k0 := ((hxc k hlt).keep (hB.block b (hxc k hlt).lt)).1
      cases hq : absV c[k] == v
      · have HT : Hid (withoutB (c.take (k + 1)) v = withoutB (c.take k) v ++ [c[k]]) := without_step hlt hq
        have hq' : (absV c[k] != v) = true := by simp [bne, hq]
        have ho2 := Lib.hid ((HS.out.alloc (.cells #[.int .i64 c[k]] 3)).own (i := 0) rfl)
        go_wp2_with (first
          | (go_at_call 110; (with_reducible refine (l2Var_any _ _).mono ?_); rintro e w1 ⟨rfl, rfl⟩)
          | (at_builtin; refine wpList_append_src rfl _ _ rfl Try.underlying45 hi hz0 hz1 hz2 rfl (by decide) _ _ _ rfl ho2.out (some ⟨wr.heap.size, 0, none⟩) 1 1 [.int .i64 c[k]] rfl (Src.one (by simp [go_sem])) (by simp [Value.oneCell']) (by unfold maxLen; omega) (by omega) ?_))
        intro v' w1 hown1 hg1 hat1
        have HN := (HS.out.alloc _).own_push (i := 0) rfl (bb _) hown1 hg1 (by simpa using hat1)
        have HN2 : Sp w w1 [Own 3 1 v' (withoutB (c.take (k + 1)) v).length ((withoutB (c.take (k + 1)) v).map (.int .i64))] := by rw [HT.out, List.length_append, List.map_append]; exact HN
        replace HN2 := Lib.hid HN2
        clear HN hown1 hg1 hat1 HS hown
        go_wp2_with fail
        go_roundw
        case rel => exact ⟨k + 1, by omega, by go_num, HN2.out⟩
        case measure => simp [intOf]; omega
      · have HT : Hid (withoutB (c.take (k + 1)) v = withoutB (c.take k) v) := (without_step hlt hq).trans (List.append_nil _)
        have hq' : (absV c[k] != v) = false := by simp [bne, hq]
        go_wp2_with (go_at_call 110; (with_reducible refine (l2Var_any _ _).mono ?_); rintro e w1 ⟨rfl, rfl⟩)
        go_roundw
        case rel => exact ⟨k + 1, by omega, by go_num, by rw [HT.out]; exact HS.out⟩
        case measure => simp [intOf]; omega
    · obtain rfl : k = c.length := by omega
      have h := HS.out
      rw [List.take_length] at h
      have ho := h.owns_end (i := 0) rfl
      replace ho := Lib.hid ho
      clear hown HS h
      go_wp2_with fail
      go_ret
      rw [List.take_length] at *
      exact ⟨_, rfl, ho.out, hB⟩

theorem row_int_take {wr : Bool} {w : World} {a : Option Addr} {n cap : Nat} {xs : List Int} {F : List Nat} {k : Nat} (h : Ty.int.row wr w (.slice a n cap) xs F) (hk : k ≤ xs.length) :
    ∃ F', Ty.int.row wr w (.slice a k cap) (xs.take k) F' ∧ ∀ b ∈ F', b ∈ F := by
  obtain ⟨a', cap', e, h1, h2, hI, h3⟩ := row_int h
  simp only [Value.slice.injEq] at e
  obtain ⟨rfl, rfl, rfl⟩ := e
  have hl : (xs.take k).length = k := by rw [List.length_take]; omega
  by_cases h0 : k = 0
  · subst h0
    exact ⟨[], Ty.row_nil _ _ _ _ _ h2, by simp⟩
  · rcases h3 with ⟨rfl, rfl⟩ | ⟨hne, b, off, rfl, rfl, hc⟩
    · simp at hk; omega
    · refine ⟨[b], ?_, fun _ h => h⟩
      have := row_int_mk (wr := wr) (w := w) (b := b) (off := off) (cap := cap) (xs := xs.take k) (fun x hx => hI x (List.mem_of_mem_take hx)) (by omega) h2 (by intro e; rw [e] at hl; simp at hl; omega) (fun j hj => by
        rw [List.getElem_take]
        exact hc j (by omega))
      rw [hl] at this
      exact this
/-- The rest of a row, as a source. -/
theorem row_int_from {wr : Bool} {w : World} {a : Option Addr} {n cap : Nat} {xs : List Int} {F : List Nat} {k : Nat} (h : Ty.int.row wr w (.slice a n cap) xs F) (hk : k ≤ xs.length) :
    Src w (cutA a cap k 1) (xs.length - k) 1 ((xs.drop k).map (.int .i64)) := by
  obtain ⟨A, c, e, hs⟩ := row_src_int h
  obtain ⟨a', cap', e', h1, h2, hI, h3⟩ := row_int h
  simp only [Value.slice.injEq] at e e'
  obtain ⟨rfl, rfl, rfl⟩ := e
  obtain ⟨rfl, _, rfl⟩ := e'
  rcases h3 with ⟨rfl, rfl⟩ | ⟨hne, b, off, rfl, rfl, hc⟩
  · exact .inl ⟨by simp, by simp⟩
  · have := hs.from hk h1
    rw [Nat.mul_one] at this
    rw [List.map_drop]
    exact this

/-- Where a literal goes. -/
def litAt (c : List Int) (l : Int) : Nat := (c.takeWhile (fun x => decide (absV x < absV l))).length
/-- A clause with a literal put in. -/
def putB (c : List Int) (l : Int) : List Int := c.take (litAt c l) ++ l :: c.drop (litAt c l)
theorem litAt_end {c : List Int} {l : Int} {k : Nat} (h : (c.take k).all (fun x => decide (absV x < absV l)) = true) (hk : k ≤ c.length) (he : k = c.length ∨ ∃ h : k < c.length, ¬ absV c[k] < absV l) : litAt c l = k := by
  unfold litAt
  have h1 : c.takeWhile (fun x => decide (absV x < absV l)) = c.take k := by
    conv => lhs; rw [← List.take_append_drop k c]
    rw [List.takeWhile_append_of_pos (by simpa [List.all_eq_true] using h)]
    rcases he with rfl | ⟨hlt, hn⟩
    · simp
    · rw [List.drop_eq_getElem_cons hlt, List.takeWhile_cons, if_neg (by simpa using hn), List.append_nil]
  rw [h1, List.length_take]; omega
theorem put_len (c : List Int) (l : Int) : (putB c l).length = c.length + 1 := by
  unfold putB
  have : litAt c l ≤ c.length := by unfold litAt; exact (List.takeWhile_sublist _).length_le
  simp; omega

set_option maxRecDepth 100000 in
set_option maxHeartbeats 4000000 in
theorem l2Put_any (u : Value) (c : List Int) (l : Int) (F : List Nat) (w : World) (hx : Ty.int.row false w u c F) (hc : c.length ≤ 1000000000) :
    Calls Try.prog 124 #[u, .int .i64 l] w (OwnsPost w (putB c l)) := by
  obtain ⟨i0, hi, hz0, hz1, hz2⟩ := info_parts infoInt
  obtain ⟨ad, cap, rfl, hx1, hx2, hxI, hx3⟩ := row_int hx
  go_enter Try.func124, Try.ntmps124
  go_wp2_with fail
  go_loop [5] (fun i => ∃ k : Nat, k ≤ c.length ∧ i = .int .i64 k ∧ Hid ((c.take k).all (fun x => decide (absV x < absV l)) = true)) (fun i => c.length - (intOf i).toNat)
  case atStart => exact ⟨0, Nat.zero_le _, rfl, by simp [Hid]⟩
  case round =>
    obtain ⟨k, hk, rfl, HR⟩ := hrel
    by_cases hgo : ∃ h : k < c.length, absV c[k] < absV l
    · obtain ⟨hlt, hgo⟩ := hgo
      rcases hx3 with ⟨rfl, rfl⟩ | ⟨hxn, b, off, rfl, rfl, hxc⟩
      · exact absurd hlt (by simp)
      have k0 := (hxc k hlt).1
      have HN : Hid ((c.take (k + 1)).all (fun x => decide (absV x < absV l)) = true) := by
        unfold Hid
        rw [List.take_succ_eq_append_getElem hlt, List.all_append, HR.out]
        simp [hgo]
      have hd : decide (absV c[k] < absV l) = true := by simpa using hgo
      clear HR
      go_wp2_with (go_at_call 110; (with_reducible refine (l2Var_any _ _).mono ?_); rintro e w1 ⟨rfl, rfl⟩)
      go_round
      case rel => exact ⟨k + 1, by omega, by go_num, HN⟩
      case measure => simp [intOf]; omega
    · have hat : Hid (litAt c l = k) := by
        refine litAt_end HR.out hk ?_
        by_cases h : k < c.length
        · exact .inr ⟨h, fun h2 => hgo ⟨h, h2⟩⟩
        · exact .inl (by omega)
      have hto := row_int_take (k := k) (Ty.row_grow hx (bdr (bb w))) hk
      obtain ⟨F', hto, _⟩ := hto
      have hfr := Lib.hid (row_int_from (k := k) hx hk)
      have hP : Hid (putB c l = c.take k ++ l :: c.drop k) := by unfold Hid putB; rw [hat.out]
      have hlk : (c.take k).length = k := by rw [List.length_take]; omega
      replace hto := Lib.hid hto
      have h9 : c.length - k ≤ c.length := by omega
      by_cases hlt : k < c.length
      · rcases hx3 with ⟨rfl, rfl⟩ | ⟨hxn, b, off, rfl, rfl, hxc⟩
        · exact absurd hlt (by simp)
        have k0 := (hxc k hlt).1
        have hd : decide (absV c[k] < absV l) = false := by simpa using fun h2 => hgo ⟨hlt, h2⟩
        clear hgo HR hat
        go_wp2_with (go_at_call 110; (with_reducible refine (l2Var_any _ _).mono ?_); rintro e w1 ⟨rfl, rfl⟩)
        refine wp_region_tail (S := (fun _ => True)) 10 (by kernel_rfl) (by kernel_rfl) ?_ ?_
        · trivial
        intro hS
        (refine walkT_take (i := 0) (v := ?_) rfl (by kernel_rfl) (by decide) (by kernel_rfl) (by kernel_rfl) (fun _ _ _ h => h) (Or.inl ⟨by rfl, ?_⟩) (by assumption) ?_; rotate_left; (focus (intro w hSw; (try dsimp only at hSw); go_simp; (try with_reducible rfl); done)); (try simp only [put_rules]))
        (refine walkT_take (i := 1) (v := ?_) rfl (by kernel_rfl) (by decide) (by kernel_rfl) (by kernel_rfl) (fun _ _ _ h => h) (Or.inl ⟨by rfl, ?_⟩) (by assumption) ?_; rotate_left; (focus (intro w hSw; (try dsimp only at hSw); go_simp; (try with_reducible rfl); done)); (try simp only [put_rules]))
        (refine walkT_take (i := 2) (v := .slice _ k cap) rfl (by kernel_rfl) (by decide) (by kernel_rfl) (by kernel_rfl) (fun _ _ _ h => h) (Or.inl ⟨by rfl, fun _ _ => exec_slice_to rfl rfl rfl Try.underlying45 hi (by omega)⟩) (by assumption) ?_; (try simp only [put_rules]))
        (refine walkT_take (i := 4) (v := ?_) rfl (by kernel_rfl) (by decide) (by kernel_rfl) (by kernel_rfl) (fun _ _ _ h => h) (Or.inl ⟨by rfl, ?_⟩) (by assumption) ?_; rotate_left; (focus (intro w hSw; (try dsimp only at hSw); go_simp; (try with_reducible rfl); done)); (try simp only [put_rules]))
        (refine walkT_take (i := 7) (v := ?_) rfl (by kernel_rfl) (by decide) (by kernel_rfl) (by kernel_rfl) (fun _ _ _ h => h) (Or.inl ⟨by rfl, ?_⟩) (by assumption) ?_; rotate_left; (focus (intro w hSw; (try dsimp only at hSw); go_simp; (try with_reducible rfl); done)); (try simp only [put_rules]))
        (refine walkT_take (i := 8) (v := ?_) rfl (by kernel_rfl) (by decide) (by kernel_rfl) (by kernel_rfl) (fun _ _ _ h => h) (Or.inl ⟨by rfl, ?_⟩) (by assumption) ?_; rotate_left; (focus (intro w hSw; (try dsimp only at hSw); go_simp; (try with_reducible rfl); done)); (try simp only [put_rules]))
        (refine walkT_take (i := 9) (v := .slice (cutA _ cap k 1) (c.length - k) (cap - k)) rfl (by kernel_rfl) (by decide) (by kernel_rfl) (by kernel_rfl) (fun _ _ _ h => h) (Or.inl ⟨by rfl, fun _ _ => exec_slice_from rfl rfl rfl Try.underlying45 hi hz1 (by omega)⟩) (by assumption) ?_; (try simp only [put_rules]))
        (refine walkT_ready (rs := [3, 5]) (by kernel_rfl) (by simp) (by decide) ?_; refine AllT.cons rfl (fun K hK => ?_) (AllT.cons rfl (fun K hK => ?_) AllT.nil))
        · go_simp
          go_at_call 140
          refine (l1Own_any _ (c.take k) F' _ hto.out (by omega)).mono ?_
          rintro e w1 ⟨v1, rfl, ho1, hb1⟩
          rw [hlk] at ho1
          obtain ⟨a1, c1, rfl⟩ := owns_form ho1
          have S1 := Lib.hid ((Sp.start w).drew.own_call hb1 ho1)
          clear ho1
          go_wp2_with fail
          refine hK.out _ _ trivial (fun _ => ?_)
          clear hK
          (try simp only [put_rules])
          (refine walkT_ready (rs := [5]) (by kernel_rfl) (by simp) (by decide) ?_; refine AllT.cons rfl (fun K hK => ?_) AllT.nil)
          go_simp
          refine hK.out _ _ trivial (fun _ => ?_)
          clear hK
          (try simp only [put_rules])
          (refine walkT_ready (rs := [6]) (by kernel_rfl) (by simp) (by decide) ?_; refine AllT.cons rfl (fun K hK => ?_) AllT.nil)
          have S2 := Lib.hid (S1.out.alloc (.cells #[.int .i64 l] 3))
          (refine step_append_src rfl _ _ rfl Try.underlying45 hi hz0 hz1 hz2 rfl (by decide) _ k _ rfl (S2.out.own (i := 0) rfl) (some ⟨w1.heap.size, 0, none⟩) 1 1 [.int .i64 l] rfl (Src.one (by simp [go_sem])) (by simp [Value.oneCell']) (by unfold maxLen; omega) (by omega) ?_; intro v2 w2 hown2 hg2 hat2)
          have S3 := Lib.hid (S2.out.own_push (i := 0) rfl (bb _) hown2 hg2 hat2)
          obtain ⟨a2, c2, rfl⟩ := owns_form hown2
          clear hown2 hg2 hat2 S2 S1
          refine hK.out _ _ trivial (fun _ => ?_)
          clear hK
          (try simp only [put_rules])
          (refine walkT_done (by kernel_rfl) ?_)
          simp only [List.drop_succ_cons, List.drop_zero]
          have hfr2 := hfr.out.grow S3.out.below
          (refine wpList_append_src rfl _ _ rfl Try.underlying45 hi hz0 hz1 hz2 rfl (by decide) _ (k + 1) _ rfl (S3.out.own (i := 0) rfl) _ (c.length - k) _ _ rfl hfr2 (ints_one _) (by unfold maxLen; omega) (by omega) ?_; intro v5 w5 hown5 hg5 hat5)
          have S5 := S3.out.own_push (i := 0) rfl (bb _) hown5 hg5 hat5
          have ho5 := S5.owns_end (i := 0) rfl
          have hB5 := S5.below
          obtain ⟨a5, c5, rfl⟩ := owns_form ho5
          have hf : OwnsPost w (putB c l) (.returned (.slice a5 (k + 1 + (c.length - k)) c5)) w5 := by
            refine ⟨_, rfl, ?_, hB5⟩
            rw [hP.out]
            have e : (c.take k ++ l :: c.drop k).length = k + 1 + (c.length - k) := by rw [List.length_append, List.length_cons, List.length_drop, hlk]; omega
            rw [e]
            simpa using ho5
          replace hf := Lib.hid hf
          clear S5 ho5 hown5 hg5 hat5 S3 hfr2
          go_wp2_with fail
          go_ret
          exact hf.out
        · go_simp
          have S0 := Lib.hid ((Sp.start w).drew.alloc_box #[.int .i64 l] 3)
          refine hK.out _ _ trivial (fun _ => ?_)
          clear hK
          (try simp only [put_rules])
          (refine walkT_ready (rs := [3]) (by kernel_rfl) (by simp) (by decide) ?_; refine AllT.cons rfl (fun K hK => ?_) AllT.nil)
          go_simp
          go_at_call 140
          refine (l1Own_any _ (c.take k) F' _ (Ty.row_grow hto.out (bal (bb _) _)) (by omega)).mono ?_
          rintro e w1 ⟨v1, rfl, ho1, hb1⟩
          rw [hlk] at ho1
          obtain ⟨a1, c1, rfl⟩ := owns_form ho1
          have S1 := Lib.hid (S0.out.own_call hb1 ho1)
          have k9 : w1.cell? ⟨w.heap.size, 0, none⟩ = some (.int .i64 l) := S1.out.cell (i := 1) rfl (o := 0) rfl
          clear ho1 S0
          go_wp2_with fail
          refine hK.out _ _ trivial (fun _ => ?_)
          clear hK
          (try simp only [put_rules])
          (refine walkT_ready (rs := [6]) (by kernel_rfl) (by simp) (by decide) ?_; refine AllT.cons rfl (fun K hK => ?_) AllT.nil)
          (refine step_append_src rfl _ _ rfl Try.underlying45 hi hz0 hz1 hz2 rfl (by decide) _ k _ rfl (S1.out.own (i := 0) rfl) (some ⟨w.heap.size, 0, none⟩) 1 1 [.int .i64 l] rfl (Src.one k9) (by simp [Value.oneCell']) (by unfold maxLen; omega) (by omega) ?_; intro v2 w2 hown2 hg2 hat2)
          have S3 := Lib.hid (S1.out.own_push (i := 0) rfl (bb _) hown2 hg2 hat2)
          obtain ⟨a2, c2, rfl⟩ := owns_form hown2
          clear hown2 hg2 hat2 S1 k9
          refine hK.out _ _ trivial (fun _ => ?_)
          clear hK
          (try simp only [put_rules])
          (refine walkT_done (by kernel_rfl) ?_)
          simp only [List.drop_succ_cons, List.drop_zero]
          have hfr2 := hfr.out.grow S3.out.below
          (refine wpList_append_src rfl _ _ rfl Try.underlying45 hi hz0 hz1 hz2 rfl (by decide) _ (k + 1) _ rfl (S3.out.own (i := 0) rfl) _ (c.length - k) _ _ rfl hfr2 (ints_one _) (by unfold maxLen; omega) (by omega) ?_; intro v5 w5 hown5 hg5 hat5)
          have S5 := S3.out.own_push (i := 0) rfl (bb _) hown5 hg5 hat5
          have ho5 := S5.owns_end (i := 0) rfl
          have hB5 := S5.below
          obtain ⟨a5, c5, rfl⟩ := owns_form ho5
          have hf : OwnsPost w (putB c l) (.returned (.slice a5 (k + 1 + (c.length - k)) c5)) w5 := by
            refine ⟨_, rfl, ?_, hB5⟩
            rw [hP.out]
            have e : (c.take k ++ l :: c.drop k).length = k + 1 + (c.length - k) := by rw [List.length_append, List.length_cons, List.length_drop, hlk]; omega
            rw [e]
            simpa using ho5
          replace hf := Lib.hid hf
          clear S5 ho5 hown5 hg5 hat5 S3 hfr2
          go_wp2_with fail
          go_ret
          exact hf.out
      · clear hgo HR hat
        go_wp2_with fail
        refine wp_region_tail (S := (fun _ => True)) 10 (by kernel_rfl) (by kernel_rfl) ?_ ?_
        · trivial
        intro hS
        (refine walkT_take (i := 0) (v := ?_) rfl (by kernel_rfl) (by decide) (by kernel_rfl) (by kernel_rfl) (fun _ _ _ h => h) (Or.inl ⟨by rfl, ?_⟩) (by assumption) ?_; rotate_left; (focus (intro w hSw; (try dsimp only at hSw); go_simp; (try with_reducible rfl); done)); (try simp only [put_rules]))
        (refine walkT_take (i := 1) (v := ?_) rfl (by kernel_rfl) (by decide) (by kernel_rfl) (by kernel_rfl) (fun _ _ _ h => h) (Or.inl ⟨by rfl, ?_⟩) (by assumption) ?_; rotate_left; (focus (intro w hSw; (try dsimp only at hSw); go_simp; (try with_reducible rfl); done)); (try simp only [put_rules]))
        (refine walkT_take (i := 2) (v := .slice _ k cap) rfl (by kernel_rfl) (by decide) (by kernel_rfl) (by kernel_rfl) (fun _ _ _ h => h) (Or.inl ⟨by rfl, fun _ _ => exec_slice_to rfl rfl rfl Try.underlying45 hi (by omega)⟩) (by assumption) ?_; (try simp only [put_rules]))
        (refine walkT_take (i := 4) (v := ?_) rfl (by kernel_rfl) (by decide) (by kernel_rfl) (by kernel_rfl) (fun _ _ _ h => h) (Or.inl ⟨by rfl, ?_⟩) (by assumption) ?_; rotate_left; (focus (intro w hSw; (try dsimp only at hSw); go_simp; (try with_reducible rfl); done)); (try simp only [put_rules]))
        (refine walkT_take (i := 7) (v := ?_) rfl (by kernel_rfl) (by decide) (by kernel_rfl) (by kernel_rfl) (fun _ _ _ h => h) (Or.inl ⟨by rfl, ?_⟩) (by assumption) ?_; rotate_left; (focus (intro w hSw; (try dsimp only at hSw); go_simp; (try with_reducible rfl); done)); (try simp only [put_rules]))
        (refine walkT_take (i := 8) (v := ?_) rfl (by kernel_rfl) (by decide) (by kernel_rfl) (by kernel_rfl) (fun _ _ _ h => h) (Or.inl ⟨by rfl, ?_⟩) (by assumption) ?_; rotate_left; (focus (intro w hSw; (try dsimp only at hSw); go_simp; (try with_reducible rfl); done)); (try simp only [put_rules]))
        (refine walkT_take (i := 9) (v := .slice (cutA _ cap k 1) (c.length - k) (cap - k)) rfl (by kernel_rfl) (by decide) (by kernel_rfl) (by kernel_rfl) (fun _ _ _ h => h) (Or.inl ⟨by rfl, fun _ _ => exec_slice_from rfl rfl rfl Try.underlying45 hi hz1 (by omega)⟩) (by assumption) ?_; (try simp only [put_rules]))
        (refine walkT_ready (rs := [3, 5]) (by kernel_rfl) (by simp) (by decide) ?_; refine AllT.cons rfl (fun K hK => ?_) (AllT.cons rfl (fun K hK => ?_) AllT.nil))
        · go_simp
          go_at_call 140
          refine (l1Own_any _ (c.take k) F' _ hto.out (by omega)).mono ?_
          rintro e w1 ⟨v1, rfl, ho1, hb1⟩
          rw [hlk] at ho1
          obtain ⟨a1, c1, rfl⟩ := owns_form ho1
          have S1 := Lib.hid ((Sp.start w).drew.own_call hb1 ho1)
          clear ho1
          go_wp2_with fail
          refine hK.out _ _ trivial (fun _ => ?_)
          clear hK
          (try simp only [put_rules])
          (refine walkT_ready (rs := [5]) (by kernel_rfl) (by simp) (by decide) ?_; refine AllT.cons rfl (fun K hK => ?_) AllT.nil)
          go_simp
          refine hK.out _ _ trivial (fun _ => ?_)
          clear hK
          (try simp only [put_rules])
          (refine walkT_ready (rs := [6]) (by kernel_rfl) (by simp) (by decide) ?_; refine AllT.cons rfl (fun K hK => ?_) AllT.nil)
          have S2 := Lib.hid (S1.out.alloc (.cells #[.int .i64 l] 3))
          (refine step_append_src rfl _ _ rfl Try.underlying45 hi hz0 hz1 hz2 rfl (by decide) _ k _ rfl (S2.out.own (i := 0) rfl) (some ⟨w1.heap.size, 0, none⟩) 1 1 [.int .i64 l] rfl (Src.one (by simp [go_sem])) (by simp [Value.oneCell']) (by unfold maxLen; omega) (by omega) ?_; intro v2 w2 hown2 hg2 hat2)
          have S3 := Lib.hid (S2.out.own_push (i := 0) rfl (bb _) hown2 hg2 hat2)
          obtain ⟨a2, c2, rfl⟩ := owns_form hown2
          clear hown2 hg2 hat2 S2 S1
          refine hK.out _ _ trivial (fun _ => ?_)
          clear hK
          (try simp only [put_rules])
          (refine walkT_done (by kernel_rfl) ?_)
          simp only [List.drop_succ_cons, List.drop_zero]
          have hfr2 := hfr.out.grow S3.out.below
          (refine wpList_append_src rfl _ _ rfl Try.underlying45 hi hz0 hz1 hz2 rfl (by decide) _ (k + 1) _ rfl (S3.out.own (i := 0) rfl) _ (c.length - k) _ _ rfl hfr2 (ints_one _) (by unfold maxLen; omega) (by omega) ?_; intro v5 w5 hown5 hg5 hat5)
          have S5 := S3.out.own_push (i := 0) rfl (bb _) hown5 hg5 hat5
          have ho5 := S5.owns_end (i := 0) rfl
          have hB5 := S5.below
          obtain ⟨a5, c5, rfl⟩ := owns_form ho5
          have hf : OwnsPost w (putB c l) (.returned (.slice a5 (k + 1 + (c.length - k)) c5)) w5 := by
            refine ⟨_, rfl, ?_, hB5⟩
            rw [hP.out]
            have e : (c.take k ++ l :: c.drop k).length = k + 1 + (c.length - k) := by rw [List.length_append, List.length_cons, List.length_drop, hlk]; omega
            rw [e]
            simpa using ho5
          replace hf := Lib.hid hf
          clear S5 ho5 hown5 hg5 hat5 S3 hfr2
          go_wp2_with fail
          go_ret
          exact hf.out
        · go_simp
          have S0 := Lib.hid ((Sp.start w).drew.alloc_box #[.int .i64 l] 3)
          refine hK.out _ _ trivial (fun _ => ?_)
          clear hK
          (try simp only [put_rules])
          (refine walkT_ready (rs := [3]) (by kernel_rfl) (by simp) (by decide) ?_; refine AllT.cons rfl (fun K hK => ?_) AllT.nil)
          go_simp
          go_at_call 140
          refine (l1Own_any _ (c.take k) F' _ (Ty.row_grow hto.out (bal (bb _) _)) (by omega)).mono ?_
          rintro e w1 ⟨v1, rfl, ho1, hb1⟩
          rw [hlk] at ho1
          obtain ⟨a1, c1, rfl⟩ := owns_form ho1
          have S1 := Lib.hid (S0.out.own_call hb1 ho1)
          have k9 : w1.cell? ⟨w.heap.size, 0, none⟩ = some (.int .i64 l) := S1.out.cell (i := 1) rfl (o := 0) rfl
          clear ho1 S0
          go_wp2_with fail
          refine hK.out _ _ trivial (fun _ => ?_)
          clear hK
          (try simp only [put_rules])
          (refine walkT_ready (rs := [6]) (by kernel_rfl) (by simp) (by decide) ?_; refine AllT.cons rfl (fun K hK => ?_) AllT.nil)
          (refine step_append_src rfl _ _ rfl Try.underlying45 hi hz0 hz1 hz2 rfl (by decide) _ k _ rfl (S1.out.own (i := 0) rfl) (some ⟨w.heap.size, 0, none⟩) 1 1 [.int .i64 l] rfl (Src.one k9) (by simp [Value.oneCell']) (by unfold maxLen; omega) (by omega) ?_; intro v2 w2 hown2 hg2 hat2)
          have S3 := Lib.hid (S1.out.own_push (i := 0) rfl (bb _) hown2 hg2 hat2)
          obtain ⟨a2, c2, rfl⟩ := owns_form hown2
          clear hown2 hg2 hat2 S1 k9
          refine hK.out _ _ trivial (fun _ => ?_)
          clear hK
          (try simp only [put_rules])
          (refine walkT_done (by kernel_rfl) ?_)
          simp only [List.drop_succ_cons, List.drop_zero]
          have hfr2 := hfr.out.grow S3.out.below
          (refine wpList_append_src rfl _ _ rfl Try.underlying45 hi hz0 hz1 hz2 rfl (by decide) _ (k + 1) _ rfl (S3.out.own (i := 0) rfl) _ (c.length - k) _ _ rfl hfr2 (ints_one _) (by unfold maxLen; omega) (by omega) ?_; intro v5 w5 hown5 hg5 hat5)
          have S5 := S3.out.own_push (i := 0) rfl (bb _) hown5 hg5 hat5
          have ho5 := S5.owns_end (i := 0) rfl
          have hB5 := S5.below
          obtain ⟨a5, c5, rfl⟩ := owns_form ho5
          have hf : OwnsPost w (putB c l) (.returned (.slice a5 (k + 1 + (c.length - k)) c5)) w5 := by
            refine ⟨_, rfl, ?_, hB5⟩
            rw [hP.out]
            have e : (c.take k ++ l :: c.drop k).length = k + 1 + (c.length - k) := by rw [List.length_append, List.length_cons, List.length_drop, hlk]; omega
            rw [e]
            simpa using ho5
          replace hf := Lib.hid hf
          clear S5 ho5 hown5 hg5 hat5 S3 hfr2
          go_wp2_with fail
          go_ret
          exact hf.out
end Go.Proofs.Ytkhopkonddgicaa

/- Contracts: clauses that are drawn. -/
namespace Go.Proofs.Ytkhopkonddgicaa
open Go.RowKit

theorem own_row {w : World} {B : Nat} {e : TypeId} {v : Value} {cs : List Int} (h : w.ownsRow B e 1 v cs.length (cs.map (.int .i64))) (hok : ∀ c ∈ cs, I64 c) : ∃ F, Ty.int.row true w v cs F ∧ F.Nodup ∧ ∀ b ∈ F, B ≤ b := by
  obtain ⟨F, hr, hF, hB⟩ := Ty.row_of_owns (T := Ty.int) h rfl (by decide) (Ty.all_int hok)
  refine ⟨F, hr, ?_, ?_⟩
  · rcases hF with rfl | ⟨g, _, _, _, rfl⟩ <;> simp
  · rcases hF with rfl | ⟨g, hg, _, _, rfl⟩
    · simp
    · intro b hb
      simp at hb
      omega
/-- Numbers that lie within bounds. -/
def Within (m : Int) (c : List Int) : Prop := ∀ x ∈ c, -m ≤ x ∧ x ≤ m
theorem Within.i64 {m : Int} {c : List Int} (h : Within m c) (hm : m ≤ 1000000) : ∀ x ∈ c, I64 x := fun x hx => by
  have := h x hx; unfold I64; omega
theorem within_without {m : Int} {c : List Int} (h : Within m c) (v : Int) : Within m (withoutB c v) := fun x hx => h x (List.mem_filter.1 hx).1
theorem within_put {m : Int} {c : List Int} {l : Int} (h : Within m c) (hl : -m ≤ l ∧ l ≤ m) : Within m (putB c l) := fun x hx => by
  unfold putB at hx
  rcases List.mem_append.1 hx with hx | hx
  · exact h x (List.mem_of_mem_take hx)
  · rcases List.mem_cons.1 hx with rfl | hx
    · exact hl
    · exact h x (List.mem_of_mem_drop hx)
/-- A drawn row of numbers. -/
def RowPost (n : Nat) (R : List Int → Prop) (A g : Nat) (ca : Option Addr) (cl cc : Nat) (w : World) (e : Ending) (w' : World) : Prop :=
  ∃ v c, e = .returned v ∧ w'.ownsRow w.heap.size 3 1 v c.length (c.map (.int .i64)) ∧ c.length ≤ n ∧ R c ∧ CurIs A g ca cl cc w' ∧ Chg [g] w w'

set_option maxRecDepth 100000 in
set_option maxHeartbeats 8000000 in
theorem cur_clause (vars : Int) (hv : -1 ≤ vars ∧ vars ≤ 13) (A g : Nat) (ca : Option Addr) (cl cc : Nat) (w : World) (h : CurIs A g ca cl cc w) (hA : A ≤ 50000000) :
    Calls Try.prog 105 #[.pointer (some ⟨g, 0, none⟩), .int .i64 vars] w (RowPost 4 (Within 13) (A + 60) g ca cl cc w) := by
  have hg := h.lt
  have S0 := (CS.start h).own_made 3 1
  have S2 := Lib.hid (S0.alloc (.cells #[.int .i64 1, .int .i64 2, .int .i64 2, .int .i64 3, .int .i64 3, .int .i64 4, .int .i64 0, .int .i64 2] 3))
  have hcall := Lib.hid (cur_among 0 4 (w.heap.size + 1) 0 8 8 A g ca cl cc _ S2.out.cur (by omega) (by decide) (by decide) (ints_new (by simp) fun j hj => by
    match j, hj with
    | 0, _ => exact ⟨_, rfl, by decide, by decide⟩
    | 1, _ => exact ⟨_, rfl, by decide, by decide⟩
    | 2, _ => exact ⟨_, rfl, by decide, by decide⟩
    | 3, _ => exact ⟨_, rfl, by decide, by decide⟩
    | 4, _ => exact ⟨_, rfl, by decide, by decide⟩
    | 5, _ => exact ⟨_, rfl, by decide, by decide⟩
    | 6, _ => exact ⟨_, rfl, by decide, by decide⟩
    | 7, _ => exact ⟨_, rfl, by decide, by decide⟩) (by omega))
  clear S0
  go_enter Try.func105, Try.ntmps105
  go_wp2_with fail
  refine hcall.out.mono ?_
  rintro e w2 ⟨_, ⟨m0, hm0, hm1, rfl⟩, rfl, hi2, hc2⟩
  have S3 := S2.out.turn hi2 hc2
  obtain ⟨m, rfl⟩ := Int.eq_ofNat_of_zero_le hm0
  have HS0 : Hid (CS w g ca cl cc (A + 10 + 10 * (4 - m)) w2 [Own 3 1 (.slice (some ⟨w.heap.size, 0, none⟩) ([] : List Int).length 0) ([] : List Int).length (([] : List Int).map (.int .i64))]) := S3.mono (by omega)
  clear S2 S3 hcall hi2 hc2
  go_wp2_with fail
  go_loopw [5, 6, 7] (fun vo vn _ wr => ∃ (m : Nat) (c : List Int) (B : Option Addr) (cap : Nat), m ≤ 4 ∧ c.length + m ≤ 4 ∧ vn = .int .i64 m ∧ vo = .slice B c.length cap ∧ Hid (Within 13 c) ∧ Hid (CS w g ca cl cc (A + 10 + 10 * (4 - m)) wr [Own 3 1 (.slice B c.length cap) c.length (c.map (.int .i64))])) (fun _ vn _ _ => (intOf vn).toNat)
  case atStart => exact ⟨m, [], _, _, by omega, by simp; omega, rfl, rfl, fun x hx => by simp at hx, HS0⟩
  case round =>
    obtain ⟨m, c, B, cap, hm4, hcm, rfl, rfl, HW, HS⟩ := hrel
    clear HS0
    go_upto_region 3 with fail
    go_cut [17] (fun s wx => ∃ q : Bool, s = .bool q ∧ Hid (q = true → 0 < m ∧ 0 < vars) ∧ Hid (CS w g ca cl cc (A + 10 + 10 * (4 - m)) wx [Own 3 1 (.slice B c.length cap) c.length (c.map (.int .i64))]))
    case first =>
      have hcond : (0 < m ∧ 0 < vars) ∨ ¬ 0 < m ∨ (0 < m ∧ ¬ 0 < vars) := by omega
      rcases hcond with ⟨hm, hn0⟩ | hm | ⟨hm, hn0⟩
      · have d1 : decide ((0 : Int) < (m : Int)) = true := decide_eq_true (by omega)
        have d2 : decide ((0 : Int) < vars) = true := decide_eq_true (by omega)
        go_wp2_with fail
        go_meet
        exact ⟨true, rfl, fun _ => ⟨hm, hn0⟩, HS⟩
      · have d1 : decide ((0 : Int) < (m : Int)) = false := decide_eq_false (by omega)
        go_wp2_with fail
        go_meet
        exact ⟨false, rfl, (fun e => by cases e), HS⟩
      · have d1 : decide ((0 : Int) < (m : Int)) = true := decide_eq_true (by omega)
        have d2 : decide ((0 : Int) < vars) = false := decide_eq_false (by omega)
        go_wp2_with fail
        go_meet
        exact ⟨false, rfl, (fun e => by cases e), HS⟩
    case rest =>
    clear HS
    obtain ⟨q, rfl, hq, HS⟩ := hcut
    cases q
    · have ho := Lib.hid (HS.out.owns_end (i := 0) rfl)
      have hI := Lib.hid (HS.out.cur.mono (show A + 10 + 10 * (4 - m) ≤ A + 60 by omega))
      have hC := Lib.hid HS.out.chg
      clear HS hq
      go_wp2_with fail
      go_ret
      exact ⟨_, c, rfl, ho.out, by omega, HW.out, hI.out, hC.out⟩
    · obtain ⟨hm, hn0⟩ := hq.out rfl
      clear hq
      have hcur := Lib.hid HS.out.cur
      have hmw : IntKind.i64.wrap ((m : Int) - 1) = ((m - 1 : Nat) : Int) := by rw [IntWalk.i64_in _ (by omega)]; omega
      go_wp2_with fail
      refine (cur_pick_at (lo := 0) (hi := vars - 1) hcur.out (by omega) (by omega) (by omega) (by omega) (by omega)).mono ?_
      rintro e w3 ⟨_, ⟨x, hx0, hx1, rfl⟩, rfl, hi3, hc3⟩
      have hxw : IntKind.i64.wrap (1 + x) = 1 + x := IntWalk.i64_in _ (by omega)
      have hxw2 : IntKind.i64.wrap (-(1 + x)) = -(1 + x) := IntWalk.i64_in _ (by omega)
      have S3 := HS.out.turn hi3 hc3
      obtain ⟨F, hr, _, _⟩ := own_row (S3.own (i := 0) rfl) (HW.out.i64 (by decide))
      have hwo := Lib.hid (l2Without_any _ c (1 + x) F w3 (Ty.row_down hr) (by omega))
      replace S3 := Lib.hid S3
      clear HS hcur hi3 hc3 hr
      go_wp2_with fail
      refine hwo.out.mono ?_
      rintro e w4 ⟨v4, rfl, ho4, hb4⟩
      have S4 := (S3.out.own_new hb4 (owns_zero ho4) (owns_ge ho4)).third2
      have HW4 := Lib.hid (within_without HW.out (1 + x))
      have hl4 : (withoutB c (1 + x)).length ≤ c.length := List.length_filter_le _ _
      obtain ⟨B4, cap4, rfl⟩ := own_slice ho4
      generalize withoutB c (1 + x) = c4 at *
      replace S4 := Lib.hid S4
      clear S3 hwo ho4 hb4 HW
      go_wp2_with fail
      refine (cur_one 2 _ g ca cl cc _ S4.out.cur (by omega) (by omega)).mono ?_
      rintro e w5 ⟨_, ⟨q, rfl⟩, rfl, hi5, hc5⟩
      have S5 := Lib.hid (S4.out.turn hi5 hc5)
      clear S4 hi5 hc5
      go_upto_if 28 with fail
      go_cut [7] (fun s wx => ∃ l : Int, s = .int .i64 l ∧ -13 ≤ l ∧ l ≤ 13 ∧ Hid (CS w g ca cl cc (A + 10 + 10 * (4 - m) + 4) wx [Own 3 1 (.slice B4 c4.length cap4) c4.length (c4.map (.int .i64))]))
      case first =>
        cases q
        · go_wp2_with fail
          go_meet
          exact ⟨1 + x, rfl, by omega, by omega, S5.out.mono (by omega)⟩
        · go_wp2_with fail
          go_meet
          exact ⟨-(1 + x), rfl, by omega, by omega, S5.out.mono (by omega)⟩
      case rest =>
      clear S5
      obtain ⟨l, rfl, hl0, hl1, HS⟩ := hcut
      obtain ⟨F5, hr5, _, _⟩ := own_row (HS.out.own (i := 0) rfl) (HW4.out.i64 (by decide))
      have hpu := Lib.hid (l2Put_any _ c4 l F5 _ (Ty.row_down hr5) (by omega))
      clear hr5
      go_wp2_with fail
      refine hpu.out.mono ?_
      rintro e w6 ⟨v6, rfl, ho6, hb6⟩
      have S6 := (HS.out.own_new hb6 (owns_zero ho6) (owns_ge ho6)).third2
      have HW6 := Lib.hid (within_put HW4.out ⟨hl0, hl1⟩)
      have hl6 := put_len c4 l
      obtain ⟨B6, cap6, rfl⟩ := own_slice ho6
      generalize putB c4 l = c6 at *
      have S7 : Hid (CS w g ca cl cc (A + 10 + 10 * (4 - (m - 1))) w6 [Own 3 1 (.slice B6 c6.length cap6) c6.length (c6.map (.int .i64))]) := S6.mono (by omega)
      replace hl6 := Lib.hid hl6
      clear HS hpu ho6 hb6 S6
      go_wp2_with fail
      go_roundw
      case rel => exact ⟨m - 1, c6, B6, cap6, by omega, by rw [hl6.out]; omega, rfl, rfl, HW6, S7⟩
      case measure => simp [intOf]; omega
end Go.Proofs.Ytkhopkonddgicaa

/- Contracts: counted and listed models, and implied clauses, of a Cnf in the reference. -/
namespace Go.Proofs.Ytkhopkonddgicaa
open Go.RowKit

/-- Numbers that are told, and whether they are. -/
def IAns (w : World) (ok : Bool) (zs : List Int) (e : Ending) (w' : World) : Prop :=
  ∃ B cap, e = .returned (.tuple #[.slice B zs.length cap, .bool ok]) ∧ IntsAt w' B zs ∧ Below w.heap.size w w'
def allN (p : Nat → Bool) (k : Nat) : List Int := ((List.range k).filter p).map fun (m : Nat) => (m : Int)
theorem allN_no {p : Nat → Bool} {k : Nat} (h : p k = false) : allN p (k + 1) = allN p k := by simp [allN, List.range_succ, List.filter_append, h]
theorem allN_yes {p : Nat → Bool} {k : Nat} (h : p k = true) : allN p (k + 1) = allN p k ++ [(k : Int)] := by simp [allN, List.range_succ, List.filter_append, h]
theorem allN_len (p : Nat → Bool) (k : Nat) : (allN p k).length = cntP p k := by simp [allN, cntP]
theorem allN_ok (p : Nat → Bool) {k : Nat} (hk : k ≤ 4096) : ∀ x ∈ allN p k, I64 x := by
  intro x hx
  unfold allN at hx
  rw [List.mem_map] at hx
  obtain ⟨m, hm, rfl⟩ := hx
  have := List.mem_range.1 (List.mem_filter.1 hm).1
  unfold I64; omega

/- left out: the seat has no spec.CountCnfModels -/

/- left out: the seat has no spec.AllModels -/
end Go.Proofs.Ytkhopkonddgicaa

/- Contract: an implied clause of a Cnf in the reference. -/
namespace Go.Proofs.Ytkhopkonddgicaa
open Go.RowKit

/-- A clause is true for all models. -/
def impB (n : Nat) (xss : List (List Int)) (d : List Int) : Bool := !((List.range (2 ^ n)).any fun b => !clT d b && modT xss b)
theorem ints_lone {w : World} {b : Nat} {z : Int} (h : w.cell? ⟨b, 0, none⟩ = some (.int .i64 z)) (hz : I64 z) : IntsAt w (some ⟨b, 0, none⟩) [z] :=
  ⟨fun j hj => by
    obtain rfl : j = 0 := by simpa using hj
    exact ⟨b, 0, rfl, h⟩, fun c hc => by
    obtain rfl : c = z := by simpa using hc
    exact hz⟩

/- left out: the seat has no spec.ImpliesClause -/
end Go.Proofs.Ytkhopkonddgicaa

/- Contract: the backbone of a Cnf in the reference. -/
namespace Go.Proofs.Ytkhopkonddgicaa
open Go.RowKit

/-- The literals of the first variables that are true for all models. -/
def boneTo (n : Nat) (xss : List (List Int)) : Nat → List Int
  | 0 => []
  | k + 1 => boneTo n xss k ++ ((if impB n xss [(k : Int) + 1] then [(k : Int) + 1] else []) ++ (if impB n xss [-((k : Int) + 1)] then [-((k : Int) + 1)] else []))
theorem bone_len (n : Nat) (xss : List (List Int)) : ∀ k, (boneTo n xss k).length ≤ 2 * k
  | 0 => by simp [boneTo]
  | k + 1 => by
    have := bone_len n xss k
    unfold boneTo
    rw [List.length_append, List.length_append]
    split <;> split <;> simp <;> omega
theorem bone_ok (n : Nat) (xss : List (List Int)) : ∀ k, k ≤ 1000 → ∀ x ∈ boneTo n xss k, I64 x
  | 0, _ => by simp [boneTo]
  | k + 1, h => by
    have := bone_ok n xss k (by omega)
    unfold boneTo
    intro x hx
    rcases List.mem_append.1 hx with hx | hx
    · exact this x hx
    · rcases List.mem_append.1 hx with hx | hx
      · split at hx
        · obtain rfl : x = (k : Int) + 1 := by simpa using hx
          unfold I64; omega
        · simp at hx
      · split at hx
        · obtain rfl : x = -((k : Int) + 1) := by simpa using hx
          unfold I64; omega
        · simp at hx
theorem cls_lone {z : Int} (h0 : z ≠ 0) (h1 : -1000 ≤ z) (h2 : z ≤ 1000) : ClS [z] := ⟨fun l hl => by
  obtain rfl : l = z := by simpa using hl
  exact ⟨h0, h1, h2⟩, by simp⟩

/- left out: the seat has no spec.BackboneOf -/
end Go.Proofs.Ytkhopkonddgicaa
