/- Lemmas and contracts for a law, put together out of several texts: SdD SdE SdF SdG SdH SdI MdG MdH MdI MdJ CoF CoG SdJ SdK SdL MdQ AsA AsB AsC AsD TcA MdK MdS PnC AsE AsF AsG AsH AsI. -/
import Derived.Test.YtahbepajeplcmaaGreatDoorMg9
import Derived.Test.YtahbepajeplcmaaGreatDoorMg4
import Derived.Test.YtahbepajeplcmaaGreatDoorMg2
import Derived.Test.YtahbepajeplcmaaGreatDoorMg7
import Derived.Test.YtahbepajeplcmaaGreatDoorMg1
import Derived.Test.YtahbepajeplcmaaGreatDoorMg3
import Derived.Shelf.Spec.SlicesGrow
import Derived.Laws.BitsLemmas
import Derived.Test.YtahbepajeplcmaaGreatDoorShelfB
/- Contracts: the sides of a Cnf, in the reference. -/
namespace Go.Proofs.YtahbepajeplcmaaGreatDoor
open Go.RowKit

set_option maxHeartbeats 1000000 in
theorem l1HasI_any (xs : List Int) (A : Option Addr) (cap : Nat) (x : Int) (w : World) (hx : IntsAt w A xs) (hl : xs.length ≤ 1000000) :
    Calls Tryz.prog 180 #[.slice A xs.length cap, .int .i64 x] w fun e w' => e = .returned (.bool (hasI xs x)) ∧ w = w' := by
  have hX := Lib.hid hx
  clear hx
  go_enter Tryz.func180, Tryz.ntmps180
  go_wp2_with fail
  go_loopw [5] (fun i wr => ∃ k : Nat, k ≤ xs.length ∧ i = .int .i64 k ∧ Hid (hasI (xs.take k) x = false) ∧ w = wr) (fun i _ => xs.length - (intOf i).toNat)
  case atStart => exact ⟨0, Nat.zero_le _, rfl, by simp [Hid, hasI], rfl⟩
  case round =>
    obtain ⟨k, hk, rfl, HR, rfl⟩ := hrel
    by_cases hlt : k < xs.length
    · obtain ⟨b, off, rfl, k0⟩ := hX.out.at_ k hlt
      by_cases he : xs[k] = x
      · have HN : Hid (hasI xs x = true) := hasI_yes hlt he
        have he' : (xs[k] == x) = true := by simpa using he
        clear he HR
        go_wp2_with fail
        go_ret
        exact ⟨ret_bool HN.out.symm, rfl⟩
      · have HN : Hid (hasI (xs.take (k + 1)) x = false) := hasI_no hlt HR.out he
        have he' : (xs[k] == x) = false := by simpa using he
        clear he HR
        go_wp2_with fail
        go_roundw
        case rel => exact ⟨k + 1, by omega, by go_num, HN, by first | rfl | trivial⟩
        case measure => simp [intOf]; omega
    · obtain rfl : k = xs.length := by omega
      have HN := HR.out
      rw [List.take_length] at HN
      replace HN := Lib.hid HN
      clear HR
      go_wp2_with fail
      go_ret
      exact ⟨ret_bool HN.out.symm, rfl⟩

set_option maxHeartbeats 1000000 in
theorem l2HasI_any (xs : List Int) (A : Option Addr) (cap : Nat) (x : Int) (w : World) (hx : IntsAt w A xs) (hl : xs.length ≤ 1000000) :
    Calls Tryz.prog 146 #[.slice A xs.length cap, .int .i64 x] w fun e w' => e = .returned (.bool (hasI xs x)) ∧ w = w' := by
  have hc := Lib.hid (l1HasI_any xs A cap x w hx hl)
  clear hx
  go_enter Tryz.func146, Tryz.ntmps146
  go_wp2_with fail
  refine hc.out.mono ?_
  rintro e w1 ⟨rfl, rfl⟩
  go_wp2_with fail
  go_ret
  exact ⟨rfl, rfl⟩

/-- A literal is in some clause. -/
def occB (cls : List (List Int)) (l : Int) : Bool := cls.any fun c => hasI c l
theorem occ_used {cls : List (List Int)} {v : Nat} : (occB cls v || occB cls (-v)) = usedB cls v := by
  unfold occB usedB hasI
  rw [Bool.eq_iff_iff]
  simp only [Bool.or_eq_true, List.any_eq_true, List.contains_iff_mem, beq_iff_eq]
  constructor
  · rintro (⟨c, hc, h⟩ | ⟨c, hc, h⟩)
    · exact ⟨c, hc, _, h, by simp⟩
    · exact ⟨c, hc, _, h, by simp⟩
  · rintro ⟨c, hc, l, hl, rfl⟩
    rcases Int.natAbs_eq l with e | e
    · exact .inl ⟨c, hc, by rw [← e]; exact hl⟩
    · exact .inr ⟨c, hc, by rw [← e]; exact hl⟩
theorem occ_yes {cls : List (List Int)} {l : Int} {k : Nat} (hk : k < cls.length) (h : hasI cls[k] l = true) : occB cls l = true := List.any_eq_true.2 ⟨_, List.getElem_mem hk, h⟩
theorem occ_no {cls : List (List Int)} {l : Int} {k : Nat} (hk : k < cls.length) (h0 : occB (cls.take k) l = false) (h : hasI cls[k] l = false) : occB (cls.take (k + 1)) l = false := by
  unfold occB at *
  rw [List.take_succ_eq_append_getElem hk, List.any_append, h0]
  simp [h]

/- left out: the seat has no spec.l2Occurs -/

theorem ClsAt.to {w : World} {A : Option Addr} {cls : List (List Int)} (h : ClsAt w A cls) (k : Nat) : ClsAt w A (cls.take k) := ⟨fun j hj => by
  have hj2 : j < cls.length := by rw [List.length_take] at hj; omega
  obtain ⟨b, off, B, c, e, h1, h2⟩ := h.at_ j hj2
  exact ⟨b, off, B, c, e, by rw [List.getElem_take]; exact h1, by rw [List.getElem_take]; exact h2⟩⟩
theorem ClsAt.from {w : World} {A : Option Addr} {cls : List (List Int)} {cap : Nat} (h : ClsAt w A cls) (k : Nat) (hc : cls.length ≤ cap) : ClsAt w (cutA A cap k 1) (cls.drop k) := ⟨fun j hj => by
  rw [List.length_drop] at hj
  obtain ⟨b, off, B, c, e, h1, h2⟩ := h.at_ (k + j) (by omega)
  subst e
  refine ⟨b, off + k, B, c, ?_, ?_, ?_⟩
  · unfold cutA
    rw [if_neg (by omega), Option.map_some, add_none, Nat.mul_one]
  · rw [List.getElem_drop, Nat.add_assoc]; exact h1
  · rw [List.getElem_drop]; exact h2⟩

/-- A side is asked for. -/
def askB (vars : Int) (xss : List (List Int)) (k : Int) : Bool := goodB vars xss && inB k 0 xss.length

/- left out: the seat has no spec.l29Asked -/

/- left out: the seat has no spec.l29Left -/
end Go.Proofs.YtahbepajeplcmaaGreatDoor

/- Contracts: the variables of both sides, in the reference. -/
namespace Go.Proofs.YtahbepajeplcmaaGreatDoor
open Go.RowKit

/-- The parts of what the reference tells of the sides. -/
def onlyL (L R : List (List Int)) (v : Nat) : Bool := usedB L v && !usedB R v
def bothL (L R : List (List Int)) (v : Nat) : Bool := usedB L v && usedB R v
theorem varF_yes {n : Nat} {p : Nat → Bool} {z : Int} (hz : (n : Int) + 1 = z) (h : p (n + 1) = true) : varF n p ++ [z] = varF (n + 1) p := by
  rw [varF_snoc, if_pos h, ← hz]; rfl
theorem varF_no {n : Nat} {p : Nat → Bool} (h : p (n + 1) = false) : varF n p = varF (n + 1) p := by
  rw [varF_snoc, h]; simp
/-- Three rows of numbers. -/
def Ints3 (w : World) (a b c : List Int) (e : Ending) (w' : World) : Prop :=
  ∃ D dc E ec G gc, e = .returned (.tuple #[.slice D a.length dc, .slice E b.length ec, .slice G c.length gc]) ∧ Sp w w' [Own 3 1 (.slice D a.length dc) a.length (a.map (.int .i64)), Own 3 1 (.slice E b.length ec) b.length (b.map (.int .i64)), Own 3 1 (.slice G c.length gc) c.length (c.map (.int .i64))]

/- left out: the seat has no spec.l29Sides -/

end Go.Proofs.YtahbepajeplcmaaGreatDoor

/- Contract: the sides of a Cnf, in the reference. -/
namespace Go.Proofs.YtahbepajeplcmaaGreatDoor
open Go.RowKit

/-- Three rows of numbers, and whether they are told. -/
def Ints4 (w : World) (ok : Bool) (a b c : List Int) (e : Ending) (w' : World) : Prop :=
  ∃ D dc E ec G gc, e = .returned (.tuple #[.slice D a.length dc, .slice E b.length ec, .slice G c.length gc, .bool ok]) ∧ IntsAt w' D a ∧ IntsAt w' E b ∧ IntsAt w' G c ∧ Below w.heap.size w w'
/-- What is told of the sides. -/
def sideL (vars : Int) (xss : List (List Int)) (k : Int) (L R : List (List Int)) : List Int := if askB vars xss k then varF vars.toNat (onlyL L R) else []
def sideB (vars : Int) (xss : List (List Int)) (k : Int) (L R : List (List Int)) : List Int := if askB vars xss k then varF vars.toNat (bothL L R) else []
theorem varF_ok {n : Nat} (hn : n ≤ 1000) {p : Nat → Bool} : ∀ x ∈ varF n p, I64 x := fun x hx => by
  have := varF_mem.1 hx
  unfold I64; omega
theorem Sp.ints {w0 w : World} {ps : List Asn} {i : Nat} {A : Option Addr} {cs : List Int} {c : Nat} {e : TypeId} (h : Sp w0 w ps) (hi : ps[i]? = some (Own e 1 (.slice A cs.length c) cs.length (cs.map (.int .i64)))) (hok : ∀ x ∈ cs, I64 x) : IntsAt w A cs := by
  obtain ⟨A', c', e1, hI⟩ := ints_own (h.own hi) hok
  cases e1
  exact hI
theorem ask_parts {vars : Int} {xss : List (List Int)} {k : Int} (h : askB vars xss k = true) : goodB vars xss = true ∧ 0 ≤ k ∧ k ≤ xss.length := by
  unfold askB at h
  rw [Bool.and_eq_true, inB_true] at h
  exact ⟨h.1, h.2.1, h.2.2⟩

/- left out: the seat has no spec.SidesOf -/
end Go.Proofs.YtahbepajeplcmaaGreatDoor

/- Contracts: a Cnf with its left clauses, in the program. -/
namespace Go.Proofs.YtahbepajeplcmaaGreatDoor
open Go.RowKit

theorem containsIA_any (xs : List Int) (A : Option Addr) (cap : Nat) (x : Int) (w : World) (hx : IntsAt w A xs) (hl : xs.length ≤ 1000000) :
    Calls Tryz.prog 152 #[.slice A xs.length cap, .int .i64 x] w fun e w' => e = .returned (.bool (hasI xs x)) ∧ w' = w := by
  rcases Nat.eq_zero_or_pos xs.length with h0 | h0
  · obtain rfl : xs = [] := List.length_eq_zero_iff.1 h0
    exact Tryz.slices_Contains_int_empty A cap x w
  · obtain ⟨b, off, rfl, -⟩ := hx.at_ 0 h0
    have h := Tryz.slices_Contains_int b off xs.length cap xs x w (Nat.le_refl _) (by omega) fun j hj => by
      obtain ⟨b', off', e, h1⟩ := hx.at_ j hj
      cases e
      rw [h1, List.getD_eq_getElem?_getD, List.getElem?_eq_getElem hj]; rfl
    rw [List.take_length] at h
    exact h

theorem has_varF {n : Nat} {q : Nat → Bool} {x : Int} (h1 : 1 ≤ x) (h2 : x ≤ n) : hasI (varF n q) x = q x.toNat := by
  unfold hasI
  rw [Bool.eq_iff_iff, List.contains_iff_mem, varF_mem]
  exact ⟨fun h => h.2.2, fun h => ⟨h1, h2, h⟩⟩
theorem filt_both (n : Nat) (p q : Nat → Bool) : ((varF n p).filter fun x => !(!hasI (varF n q) x)) = varF n fun v => p v && q v := by
  rw [← varF_sub]
  apply List.filter_congr
  intro x hx
  obtain ⟨h1, h2, -⟩ := varF_mem.1 hx
  rw [Bool.not_not, has_varF h1 h2]
theorem filt_only (n : Nat) (p q : Nat → Bool) : ((varF n p).filter fun x => !hasI (varF n fun v => p v && q v) x) = varF n fun v => p v && !q v := by
  rw [← varF_sub n p (fun v => !q v)]
  apply List.filter_congr
  intro x hx
  obtain ⟨h1, h2, h3⟩ := varF_mem.1 hx
  rw [has_varF h1 h2, h3, Bool.true_and]

/- left out: the seat has no (*loop.example/g01080/impl.split).left -/

/- left out: the seat has no (*loop.example/g01080/impl.split).right -/

/- left out: the seat has no impl.splitOf$1 -/
end Go.Proofs.YtahbepajeplcmaaGreatDoor

/- Contracts: a Cnf with its left clauses, in the program: made. -/
namespace Go.Proofs.YtahbepajeplcmaaGreatDoor
open Go.RowKit

/- left out: the seat has no impl.splitOf -/

/- left out: the seat has no impl.split -/

/- left out: the seat has no impl.splitOf -/
end Go.Proofs.YtahbepajeplcmaaGreatDoor

/- Contract: the sides of a Cnf, in the program. -/
namespace Go.Proofs.YtahbepajeplcmaaGreatDoor
open Go.RowKit

/- left out: the seat has no impl.SidesOf$1$1 -/

/-- A row of numbers of the call's own. -/
def OneI (w : World) (zs : List Int) (e : Ending) (w' : World) : Prop := ∃ D dc, e = .returned (.slice D zs.length dc) ∧ Sp w w' [Own 3 1 (.slice D zs.length dc) zs.length (zs.map (.int .i64))]
theorem cell_below {w w' : World} {a : Addr} {u : Value} (h : w.cell? a = some u) (hb : Below w.heap.size w w') : w'.cell? a = some u := (hb.cell (World.block_lt_of_cell? _ _ h)).trans h

/- left out: the seat has no impl.SidesOf$1 -/

/- left out: the seat has no impl.SidesOf -/
end Go.Proofs.YtahbepajeplcmaaGreatDoor

/- Contracts: counted models and the first one, in the program. -/
namespace Go.Proofs.YtahbepajeplcmaaGreatDoor
open Go.RowKit

/- left out: the seat has no impl.CountCnfModels -/

/- left out: the seat has no impl.CountCnfModels -/

theorem idxP_next {p : Nat → Bool} {k : Nat} (h : p k = false) : idxP p (List.range (k + 1)) = idxP p (List.range k) := by
  unfold idxP
  rw [rany_next, h, Bool.or_false]
  cases ha : (List.range k).any p
  · rfl
  · rw [if_pos rfl, if_pos rfl, List.range_succ, List.findIdx_append, if_pos (List.findIdx_lt_length_of_exists (by simpa using List.any_eq_true.1 ha))]

/- left out: the seat has no impl.FirstModel -/
end Go.Proofs.YtahbepajeplcmaaGreatDoor

/- Contract: a loop over all models with a closure that may turn blocks that it made. -/
namespace Go.Proofs.YtahbepajeplcmaaGreatDoor
open Go.RowKit

/- left out: the seat has no impl.models -/
end Go.Proofs.YtahbepajeplcmaaGreatDoor

/- Contract: the closure that lists models, in the program. -/
namespace Go.Proofs.YtahbepajeplcmaaGreatDoor
open Go.RowKit

/- left out: the seat has no impl.AllModels$1 -/
end Go.Proofs.YtahbepajeplcmaaGreatDoor

/- Contract: all models listed, in the program. -/
namespace Go.Proofs.YtahbepajeplcmaaGreatDoor
open Go.RowKit

theorem cntP_mono {p : Nat → Bool} {k : Nat} : ∀ d, cntP p k ≤ cntP p (k + d)
  | 0 => Nat.le_refl _
  | d + 1 => by
    have := cntP_mono (p := p) (k := k) d
    cases h : p (k + d)
    · rw [show k + (d + 1) = (k + d) + 1 from rfl, cntP_no h]; exact this
    · rw [show k + (d + 1) = (k + d) + 1 from rfl, cntP_yes h]; omega
/-- What is listed before k, at most 301 numbers. -/
def AllP (w : World) (p : Nat → Bool) (N o m fb : Nat) (fcs : Array Value) (k : Nat) (V : World) : Prop :=
  ∃ (ts : List Int) (B : Option Addr) (cc : Nat), (ts.length ≤ 300 → ts = allN p k) ∧ (300 < ts.length → 300 < cntP p N) ∧ (k < N → ts.length ≤ 300) ∧ (∀ g, (Value.slice B ts.length cc).ownBlock = some g → g ≠ m) ∧
    Sp w V [Own 3 1 (.slice B ts.length cc) ts.length (ts.map (.int .i64)), Box o 43 #[.slice B ts.length cc], Box fb 61 fcs]

/- left out: the seat has no impl.AllModels -/
end Go.Proofs.YtahbepajeplcmaaGreatDoor

/- Contract: the core of a Cnf, in the program. -/
namespace Go.Proofs.YtahbepajeplcmaaGreatDoor
open Go.RowKit

theorem own_cap' {w : World} {B : Nat} {e : TypeId} {size n c : Nat} {A : Option Addr} {xs : List Value} (h : w.ownsRow B e size (.slice A n c) n xs) : n ≤ c := by
  obtain ⟨_, ⟨h1, _⟩ | ⟨g, cap, cur, h1, _, _, hn, _⟩⟩ := h
  · cases h1; exact Nat.le_refl _
  · cases h1; exact hn

/- left out: the seat has no impl.CoreOf -/
end Go.Proofs.YtahbepajeplcmaaGreatDoor

/- Contracts: lists of indices and the core of a Cnf, in the reference. -/
namespace Go.Proofs.YtahbepajeplcmaaGreatDoor
open Go.RowKit

theorem ints_src {w : World} {A : Option Addr} {xs : List Int} {n : Nat} (hx : IntsAt w A xs) (hn : xs.length = n) : Src w A n 1 (xs.map (.int .i64)) := by
  rcases Nat.eq_zero_or_pos n with h0 | h0
  · exact .inl ⟨h0, by rw [List.length_eq_zero_iff.1 (hn.trans h0)]; rfl⟩
  · obtain ⟨b, off, rfl, -⟩ := hx.at_ 0 (by omega)
    refine .inr ⟨_, rfl, by simp [hn], fun j u hu => ?_⟩
    rw [List.getElem?_map] at hu
    have hj : j < xs.length := by
      rcases Nat.lt_or_ge j xs.length with h | h
      · exact h
      · rw [List.getElem?_eq_none h] at hu; cases hu
    rw [List.getElem?_eq_getElem hj] at hu
    simp only [Option.map_some, Option.some.injEq] at hu
    rw [add_none, hx.get hj, hu]
theorem ints_one_cell {xs : List Int} : ∀ u ∈ xs.map (Value.int .i64), u.oneCell' = true := fun u hu => by
  obtain ⟨x, -, rfl⟩ := List.mem_map.1 hu
  rfl

/- left out: the seat has no spec.l5Skip -/

/- left out: the seat has no spec.l5Indices -/
end Go.Proofs.YtahbepajeplcmaaGreatDoor

/- Contracts: Cnfs compared in the laws; rows and lists of rows copied, on both sides. -/
namespace Go.Proofs.YtahbepajeplcmaaGreatDoor
open Go.RowKit

set_option maxRecDepth 100000 in
set_option maxHeartbeats 4000000 in
theorem vTable_same (A A' : Option Addr) (c c' : Nat) (xss : List (List Int)) (w : World) (hx : ClsAt w A xss) (hy : ClsAt w A' xss) (hl : xss.length ≤ 1000000) (hs : ∀ c ∈ xss, c.length ≤ 1000000) :
    Calls Tryz.prog 104 #[.slice A xss.length c, .slice A' xss.length c'] w fun e w' => e = .returned (.bool true) ∧ Below w.heap.size w w' := by
  have hN := Lib.hid hx
  have hM := Lib.hid hy
  have hS := Lib.hid hs
  clear hx hy hs
  go_enter Tryz.func104, Tryz.ntmps104
  go_wp2_with fail
  go_loopw [5] (fun i wr => ∃ k : Nat, k ≤ xss.length ∧ i = .int .i64 k ∧ Hid (Below w.heap.size w wr)) (fun i _ => xss.length - (intOf i).toNat)
  case atStart => exact ⟨0, Nat.zero_le _, rfl, bb _⟩
  case round =>
    obtain ⟨k, hk, rfl, HS⟩ := hrel
    by_cases hlt : k < xss.length
    · obtain ⟨b, off, D, dc, rfl, m0, hI⟩ := (hN.out.grow HS.out).at_ k hlt
      obtain ⟨b', off', E, ec, rfl, p0, hJ⟩ := (hM.out.grow HS.out).at_ k hlt
      have hcall := Lib.hid (fun W (h : Below wr.heap.size wr W) => vInts_same D E dc ec xss[k] W (hI.grow h) (hJ.grow h) (hS.out _ (List.getElem_mem hlt)))
      have k0 := cell_regrown m0
      have q0 := cell_regrown p0
      generalize xss[k] = v at *
      clear m0 p0 hI hJ
      go_wp2_with fail
      refine wp_region_quiet_below (by kernel_rfl) (by kernel_rfl) ?_
      repeat (any_goals (first | go_big_quiet_step ((go_at_call 23; exact Calls.regrown_of (hcall.out _ (below_regrown _ _ _))))))
      refine wpQuiet_nil ?_
      rintro w3 ⟨p, rfl⟩
      have HS4 := Lib.hid (btr HS.out (below_regrown _ p.d p.os))
      clear HS k0 q0 hcall
      go_wp2_with fail
      go_roundw
      case rel => exact ⟨k + 1, by omega, by go_num, HS4⟩
      case measure => simp [intOf]; omega
    · obtain rfl : k = xss.length := by omega
      have hB := HS.out
      go_wp2_with fail
      go_ret
      exact ⟨rfl, hB⟩

set_option maxHeartbeats 2000000 in
theorem vCnf_same (vars : Int) (A A' : Option Addr) (c c' : Nat) (xss : List (List Int)) (w : World) (hx : ClsAt w A xss) (hy : ClsAt w A' xss) (hl : xss.length ≤ 1000000) (hs : ∀ c ∈ xss, c.length ≤ 1000000) :
    Calls Tryz.prog 41 #[.agg #[.int .i64 vars, .slice A xss.length c], .agg #[.int .i64 vars, .slice A' xss.length c']] w fun e w' => e = .returned (.bool true) ∧ Below w.heap.size w w' := by
  have S0 := ((Sp.start w).alloc_box #[.int .i64 vars, .slice A xss.length c] 61).alloc_box #[.int .i64 vars, .slice A' xss.length c'] 61
  simp only [World.size_alloc] at S0
  have hcall := Lib.hid (vTable_same A A' c c' xss _ (hx.grow S0.below) (hy.grow S0.below) hl hs)
  have a0 := S0.cell (i := 1) rfl (o := 0) rfl
  have a1 := S0.cell (i := 1) rfl (o := 1) rfl
  have b0 := S0.cell (i := 0) rfl (o := 0) rfl
  have b1 := S0.cell (i := 0) rfl (o := 1) rfl
  replace S0 := Lib.hid S0
  generalize xss.length = m at *
  have hv : (vars == vars) = true := by simp
  clear hx hy hs
  go_enter Tryz.func41, Tryz.ntmps41
  go_wp2_with fail
  refine hcall.out.mono ?_
  rintro e w1 ⟨rfl, hb1⟩
  have hB := Lib.hid (S0.out.grow hb1).below
  clear S0 hcall hb1 a0 a1 b0 b1
  go_wp2_with fail
  go_ret
  exact ⟨rfl, hB.out⟩

/-- A copy of a row of numbers. -/
theorem cloneA_any (A : Option Addr) (cap : Nat) (xs : List Int) (w : World) (hx : IntsAt w A xs) (hl : xs.length ≤ 1000000) :
    Calls Tryz.prog 78 #[.slice A xs.length cap] w (OneI w xs) := by
  rcases Nat.eq_zero_or_pos xs.length with h0 | h0
  · obtain rfl : xs = [] := List.length_eq_zero_iff.1 h0
    cases A with
    | none =>
      refine (Tryz.slices_Clone_int_nil 0 cap w).mono ?_
      rintro e w' ⟨rfl, rfl⟩
      exact ⟨none, 0, rfl, (Sp.start _).own_nil _ _⟩
    | some a =>
      refine (Tryz.slices_Clone_int_zero a cap w).mono ?_
      rintro e w' ⟨v, rfl, ho, -, hb⟩
      have S := (Sp.start w).own_new hb (owns_zero ho) (owns_ge ho)
      obtain ⟨B, c, rfl⟩ := own_slice ho
      exact ⟨B, c, rfl, S⟩
  · obtain ⟨b, off, rfl, -⟩ := hx.at_ 0 h0
    have h := Tryz.slices_Clone_int b off xs.length cap xs w (Nat.le_refl _) (by omega) fun j hj => by
      obtain ⟨b', off', e, h1⟩ := hx.at_ j hj
      cases e
      rw [h1, List.getD_eq_getElem?_getD, List.getElem?_eq_getElem hj]; rfl
    refine h.mono ?_
    rintro e w' ⟨v, rfl, ho, -, hb⟩
    rw [List.take_length] at ho
    have S := (Sp.start w).own_new hb (owns_zero ho) (owns_ge ho)
    obtain ⟨B, c, rfl⟩ := own_slice ho
    exact ⟨B, c, rfl, S⟩

set_option maxHeartbeats 1000000 in
theorem l1OwnI_any (A : Option Addr) (cap : Nat) (xs : List Int) (w : World) (hx : IntsAt w A xs) (hl : xs.length ≤ 1000000) :
    Calls Tryz.prog 116 #[.slice A xs.length cap] w (OneI w xs) := by
  obtain ⟨i0, hi, hz0, hz1, hz2⟩ := info_parts infoInt
  have S0 := (Sp.start w).own_made 3 1
  have hsrc := ints_src (hx.grow S0.below) rfl
  replace S0 := Lib.hid S0
  replace hsrc := Lib.hid hsrc
  clear hx
  go_enter Tryz.func116, Tryz.ntmps116
  go_wp2_with (at_builtin; refine wpList_append_src rfl _ _ rfl Tryz.underlying43 hi hz0 hz1 hz2 rfl (by decide) _ _ _ rfl (S0.out.own (i := 0) rfl) A xs.length cap _ rfl hsrc.out (ints_one xs) ?c3 ?c4 ?_)
  case c3 => unfold maxLen; omega
  case c4 => omega
  intro v' w1 hown hg hat
  have S1 := S0.out.own_push (i := 0) rfl (bb _) hown hg (by simpa using hat)
  obtain ⟨a, c', rfl⟩ := own_slice hown
  replace S1 := Lib.hid S1
  clear hown hg hat S0
  go_wp2_with fail
  go_ret
  exact ⟨a, c', rfl, S1.out⟩
end Go.Proofs.YtahbepajeplcmaaGreatDoor

/- Contracts: lists of rows copied, on both sides. -/
namespace Go.Proofs.YtahbepajeplcmaaGreatDoor
open Go.RowKit Go.Shelf

/-- Rows of the call's own. -/
def RowsP (w : World) (xss : List (List Int)) (e : Ending) (w' : World) : Prop := ∃ B cap cs, e = .returned (.slice B xss.length cap) ∧ Sp w w' [Rows Ty.int 43 (.slice B xss.length cap) cs xss]
theorem take_snoc {α : Type} {l : List α} {k : Nat} (h : k < l.length) : l.take k ++ [l[k]] = l.take (k + 1) := (List.take_succ_eq_append_getElem h).symm

set_option maxRecDepth 100000 in
set_option maxHeartbeats 4000000 in
theorem cloneLists_any (cls : List (List Int)) (A : Option Addr) (cap : Nat) (w : World) (hx : ClsAt w A cls) (hl : cls.length ≤ 1000) (hs : ∀ c ∈ cls, c.length ≤ 1000000) :
    Calls Tryz.prog 110 #[.slice A cls.length cap] w (RowsP w cls) := by
  obtain ⟨i1, hi, hz0, hz1, hz2⟩ := info_parts infoRow
  have S0 := Lib.hid ((Sp.start w).rows_nil Ty.int 43)
  have hX := Lib.hid hx
  have hS := Lib.hid hs
  clear hx hs
  go_enter Tryz.func110, Tryz.ntmps110
  go_wp2_with fail
  go_loopw [3, 5, 8] (fun v3 _ v8 wr => ∃ (k : Nat) (B : Option Addr) (cc : Nat) (cs : List Value) (ys : List (List Int)), k ≤ cls.length ∧ v8 = .int .i64 k ∧ v3 = .slice B ys.length cc ∧ ys.length = k ∧ Hid (ys = cls.take k) ∧ Hid (Sp w wr [Rows Ty.int 43 (.slice B ys.length cc) cs ys])) (fun _ _ v8 _ => cls.length - (intOf v8).toNat)
  case atStart => exact ⟨0, none, 0, [], [], Nat.zero_le _, rfl, rfl, rfl, rfl, S0⟩
  case round =>
    clear S0
    obtain ⟨k, B, cc, cs, ys, hk, rfl, rfl, hyk, hys, HS⟩ := hrel
    by_cases hlt : k < cls.length
    · obtain ⟨ab, aoff, D, dc, rfl, m0, hI⟩ := hX.out.at_ k hlt
      have n0 := cell_below m0 HS.out.below
      have hcl := Lib.hid (cloneA_any D dc cls[k] _ (hI.grow HS.out.below) (hS.out _ (List.getElem_mem hlt)))
      have hok := Lib.hid hI.ok
      have hnx : Hid (ys ++ [cls[k]] = cls.take (k + 1)) := by unfold Hid; rw [hys.out, take_snoc hlt]
      generalize cls[k] = c at *
      clear m0 hI hys
      replace hyk := Lib.hid hyk
      go_wp2_with fail
      refine hcl.out.mono ?_
      rintro e w2 ⟨E, ec, rfl, T⟩
      have S3 := Sp.own_to_row (HS.out.seq T) hok.out
      have hrows := Lib.hid ((S3.rows (i := 1) rfl).alloc (.cells #[.slice E c.length ec] 43))
      have kB : (w2.alloc (.cells #[.slice E c.length ec] 43)).cell? ⟨w2.heap.size, 0, none⟩ = some (.slice E c.length ec) := cell_of_row _ _ _ _ _ _ (heap_alloc_new w2 _)
      have S4 := Lib.hid (S3.alloc (.cells #[.slice E c.length ec] 43))
      have hyl : ys.length ≤ 1000 := by have := hyk.out; omega
      clear HS T S3 n0 hcl
      go_wp2_with (at_builtin; refine wpList_append_src rfl _ _ rfl Tryz.underlying59 hi hz0 hz1 hz2 rfl (by decide) _ ys.length _ rfl hrows.out _ 1 1 [.slice E c.length ec] rfl (Src.one kB) (by simp [Value.oneCell']) ?c3 ?c4 ?_)
      case c3 => unfold maxLen; omega
      case c4 => omega
      intro vY wY hownY hgY hatY
      have S5 := S4.out.rows_push (bb _) hownY hgY (by simpa using hatY)
      obtain ⟨aY, cY, rfl⟩ := own_slice hownY
      have hlen : ys.length + 1 = (ys ++ [c]).length := by simp
      rw [hlen] at S5 ⊢
      have hyk2 : (ys ++ [c]).length = k + 1 := by rw [← hlen, hyk.out]
      clear S4 hrows kB hownY hgY hatY hlen hyk hyl
      replace S5 := Lib.hid S5
      replace hyk2 := Lib.hid hyk2
      generalize ys ++ [c] = ys2 at *
      go_wp2_with fail
      go_roundw
      case rel => exact ⟨k + 1, aY, cY, cs ++ [.slice E c.length ec], ys2, by omega, by go_num, rfl, hyk2.out, hnx, S5⟩
      case measure => simp [intOf]; omega
    · obtain rfl : k = cls.length := by omega
      have hy2 : ys = cls := by have := hys.out; rwa [List.take_length] at this
      subst hy2
      clear hys hyk
      go_wp2_with fail
      go_ret
      exact ⟨B, cc, cs, rfl, HS.out⟩
end Go.Proofs.YtahbepajeplcmaaGreatDoor

/- Contracts: two lists of rows put together, in the library. -/
namespace Go.Proofs.YtahbepajeplcmaaGreatDoor
open Go.RowKit Go.Shelf

/- left out: the seat has no slices.Grow[[][]int,[]int] -/

/- left out: the seat has no slices.Grow[[][]int,[]int] -/

def szK (n1 n2 : Nat) : Nat → Nat
  | 0 => 0
  | 1 => n1
  | _ => n1 + n2
def catK (us1 us2 : List Value) : Nat → List Value
  | 0 => []
  | 1 => us1
  | _ => us1 ++ us2

/- left out: the seat has no slices.Concat[[][]int,[]int] -/
end Go.Proofs.YtahbepajeplcmaaGreatDoor

/- Contracts: clauses joined and resolved in the reference, told weakly. -/
namespace Go.Proofs.YtahbepajeplcmaaGreatDoor
open Go.RowKit

/-- A row of its own within bounds, and a flag. -/
def JoinW (n : Nat) (w : World) (e : Ending) (w' : World) : Prop :=
  ∃ v c q, e = .returned (.tuple #[v, .bool q]) ∧ w'.ownsRow w.heap.size 3 1 v c.length (c.map (.int .i64)) ∧ c.length ≤ n ∧ Within 1000 c ∧ Below w.heap.size w w'
theorem Sp.drop2w {w0 w : World} {p q : Asn} {ps : List Asn} (h : Sp w0 w (p :: q :: ps)) : Sp w0 w (p :: ps) := h.swap.tail

set_option maxRecDepth 100000 in
set_option maxHeartbeats 4000000 in
theorem l2JoinW_any (v u : Value) (a b : List Int) (F G : List Nat) (w : World) (hx : Ty.int.row false w v a F) (hy : Ty.int.row false w u b G) (wa : Within 1000 a) (wb : Within 1000 b) (la : a.length ≤ 1000) (lb : b.length ≤ 1000) :
    Calls Tryz.prog 81 #[v, u] w (JoinW (a.length + b.length) w) := by
  obtain ⟨aa, ac, rfl, _, _⟩ := Ty.row_len hx
  obtain ⟨ba, bc, rfl, hy1, hy2, _, hy3⟩ := row_int hy
  go_enter Tryz.func81, Tryz.ntmps81
  go_wp2_with fail
  refine (l1Own_any _ a F w hx (by omega)).mono ?_
  rintro e w1 ⟨v1, rfl, ho1, hb1⟩
  have S0 := (Sp.start w).own_call hb1 ho1
  obtain ⟨a1, c1, rfl⟩ := owns_form ho1
  replace S0 := Lib.hid S0
  have hW0 := Lib.hid wa
  clear ho1 hb1
  go_wp2_with fail
  go_loopw [6, 7] (fun s i wr => ∃ (k : Nat) (out : List Int), k ≤ b.length ∧ i = .int .i64 k ∧ out.length ≤ a.length + k ∧ Hid (Within 1000 out) ∧ Hid (Sp w wr [Own 3 1 s out.length (out.map (.int .i64))])) (fun _ i _ => b.length - (intOf i).toNat)
  case atStart => exact ⟨0, a, Nat.zero_le _, rfl, by omega, hW0, S0⟩
  case round =>
    obtain ⟨k, out, hk, rfl, hol, HW, HS⟩ := hrel
    clear S0
    obtain ⟨sa, sc, rfl⟩ := owns_form (HS.out.own (i := 0) rfl)
    by_cases hlt : k < b.length
    · rcases hy3 with ⟨rfl, rfl⟩ | ⟨hyn, bk, off, rfl, rfl, hyc⟩
      · exact absurd hlt (by simp)
      have hB := HS.out.below
      have k0 := ((hyc k hlt).keep (hB.block bk (hyc k hlt).lt)).1
      have hl6 := wb _ (List.getElem_mem hlt)
      obtain ⟨H, hrow', -, -⟩ := own_row (HS.out.own (i := 0) rfl) (HW.out.i64 (by decide))
      have hrow := Ty.row_down hrow'
      obtain ⟨l, hl⟩ : ∃ l, l = b[k] := ⟨_, rfl⟩
      rw [← hl] at k0 hl6
      have hneg : wrap64 (-l) = -l := by unfold wrap64; omega
      have hl0 : -1000 ≤ l := hl6.1
      have hl1 : l ≤ 1000 := hl6.2
      replace hl := Lib.hid hl
      clear hyc hB hl hl6 hrow'
      cases hq : hasI out (-l)
      · cases hq2 : hasI out l
        · have HN := Lib.hid (within_put HW.out ⟨hl0, hl1⟩)
          have hpl := Lib.hid (put_len out l)
          have hol9 : out.length ≤ 1000000000 := by omega
          go_wp2_with (first
            | (go_at_call 146; (first | (with_reducible refine (l2Has_at hrow hq).mono ?_) | (with_reducible refine (l2Has_at hrow hq2).mono ?_)); rintro e w2 ⟨rfl, rfl⟩)
            | (go_at_call 147; (with_reducible refine (l2Put_any _ out l H _ hrow hol9).mono ?_); rintro e w2 ⟨v2, rfl, ho2, hb2⟩))
          have S1 := (HS.out.own_call hb2 ho2).drop2w
          obtain ⟨a2, c2, rfl⟩ := owns_form ho2
          replace S1 := Lib.hid S1
          clear ho2 hb2 HS hrow
          generalize putB out l = out2 at *
          go_wp2_with fail
          go_roundw
          case rel => exact ⟨k + 1, out2, by omega, by go_num, by rw [hpl.out]; omega, HN, S1⟩
          case measure => simp [intOf]; omega
        · go_wp2_with (first
            | (go_at_call 146; (first | (with_reducible refine (l2Has_at hrow hq).mono ?_) | (with_reducible refine (l2Has_at hrow hq2).mono ?_)); rintro e w2 ⟨rfl, rfl⟩))
          go_roundw
          case rel => exact ⟨k + 1, out, by omega, by go_num, by omega, HW, HS⟩
          case measure => simp [intOf]; omega
      · go_wp2_with (first
          | (go_at_call 146; (first | (with_reducible refine (l2Has_at hrow hq).mono ?_)); rintro e w2 ⟨rfl, rfl⟩))
        have S1 := Lib.hid (HS.out.own_made 3 1)
        go_ret2
        exact ⟨_, [], false, rfl, S1.out.owns_end (i := 0) rfl, by simp, fun x hx => by simp at hx, S1.out.below⟩
    · obtain rfl : k = b.length := by omega
      go_wp2_with fail
      go_ret2
      exact ⟨_, out, true, rfl, HS.out.owns_end (i := 0) rfl, by omega, HW.out, HS.out.below⟩

/- left out: the seat has no spec.l2Resolve -/
end Go.Proofs.YtahbepajeplcmaaGreatDoor

/- Plain facts: clauses of up to a thousand variables: literals in order, put in, joined. No program in sight. -/
namespace Go.Proofs.YtahbepajeplcmaaGreatDoor
open Go.RowKit

theorem hasS_iff {xs : List Int} {x : Int} : hasI xs x = true ↔ x ∈ xs := by unfold hasI; simp
theorem hasS_not {xs : List Int} {x : Int} : hasI xs x = false ↔ x ∉ xs := by rw [← hasS_iff]; simp
theorem LitS.abs {l : Int} (h : LitS l) : absV l = if l < 0 then -l else l := by
  rw [absV_lit h]; split <;> omega
def AscS (x y : Int) : Prop := absV x < absV y
/-- A clause in order. -/
structure GoodS (c : List Int) : Prop where
  mem : ∀ l ∈ c, LitS l
  asc : c.Pairwise AscS
theorem good_s {vars : Int} {c : List Int} (h : clauseB vars c = true) : GoodS c := by
  have h1 := (clause_s h).1
  refine ⟨h1, ?_⟩
  have h2 := clause_rising h
  rw [List.pairwise_iff_getElem] at h2 ⊢
  intro i j hi hj hij
  unfold AscS
  rw [absV_lit (h1 _ (List.getElem_mem hi)), absV_lit (h1 _ (List.getElem_mem hj))]
  exact Int.ofNat_lt.2 (h2 i j hi hj hij)
theorem GoodS.clash {c : List Int} (h : GoodS c) {x : Int} (hx : x ∈ c) (hy : -x ∈ c) : False := by
  have hl := h.mem x hx
  have key : ∀ {y z : Int}, y ∈ c → z ∈ c → absV y = absV z → y = z := fun {y z} hy hz e => by
    obtain ⟨i, hi, rfl⟩ := List.getElem_of_mem hy
    obtain ⟨j, hj, rfl⟩ := List.getElem_of_mem hz
    have hp := List.pairwise_iff_getElem.1 h.asc
    rcases Nat.lt_trichotomy i j with hij | hij | hij
    · have := hp i j hi hj hij; unfold AscS at this; omega
    · subst hij; rfl
    · have := hp j i hj hi hij; unfold AscS at this; omega
  have := key hx hy (by rw [hl.abs, (h.mem _ hy).abs]; unfold LitS at hl; split <;> split <;> omega)
  unfold LitS at hl
  omega
theorem GoodS.ext {a b : List Int} (ha : GoodS a) (hb : GoodS b) (h : ∀ x, x ∈ a ↔ x ∈ b) : a = b := by
  have key : ∀ {a b : List Int}, a.Pairwise AscS → b.Pairwise AscS → (∀ x, x ∈ a ↔ x ∈ b) → a = b := by
    intro a
    induction a with
    | nil =>
      intro b _ _ h
      cases b with
      | nil => rfl
      | cons y b => exact absurd ((h y).2 List.mem_cons_self) (by simp)
    | cons x a ih =>
      intro b ha hb h
      cases b with
      | nil => exact absurd ((h x).1 List.mem_cons_self) (by simp)
      | cons y b =>
        rw [List.pairwise_cons] at ha hb
        unfold AscS at ha hb
        have e : x = y := by
          rcases List.mem_cons.1 ((h x).1 List.mem_cons_self) with e | hx
          · exact e
          rcases List.mem_cons.1 ((h y).2 List.mem_cons_self) with e | hy
          · exact e.symm
          have := hb.1 x hx; have := ha.1 y hy; omega
        subst e
        congr 1
        refine ih ha.2 hb.2 fun z => ⟨fun hz => ?_, fun hz => ?_⟩
        · rcases List.mem_cons.1 ((h z).1 (List.mem_cons_of_mem _ hz)) with e | h2
          · have := ha.1 z hz; rw [e] at this; omega
          · exact h2
        · rcases List.mem_cons.1 ((h z).2 (List.mem_cons_of_mem _ hz)) with e | h2
          · have := hb.1 z hz; rw [e] at this; omega
          · exact h2
  exact key ha.asc hb.asc h
theorem memS_putB {c : List Int} {l x : Int} : x ∈ putB c l ↔ x = l ∨ x ∈ c := by
  unfold putB
  rw [List.mem_append, List.mem_cons]
  conv => rhs; rw [← List.take_append_drop (litAt c l) c, List.mem_append]
  exact ⟨fun h => by rcases h with h | h | h <;> simp [h], fun h => by rcases h with h | h | h <;> simp [h]⟩
theorem GoodS.put {c : List Int} (h : GoodS c) {l : Int} (hl : LitS l) (hn : ∀ y ∈ c, absV y ≠ absV l) : GoodS (putB c l) := by
  refine ⟨fun x hx => ?_, ?_⟩
  · rcases memS_putB.1 hx with rfl | hx
    · exact hl
    · exact h.mem x hx
  · have e0 := List.takeWhile_append_dropWhile (p := fun x => decide (absV x < absV l)) (l := c)
    have e1 : c.take (litAt c l) = c.takeWhile (fun x => decide (absV x < absV l)) := by
      have := congrArg (List.take (litAt c l)) e0
      rw [← this]; exact List.take_left' rfl
    have e2 : c.drop (litAt c l) = c.dropWhile (fun x => decide (absV x < absV l)) := by
      have := congrArg (List.drop (litAt c l)) e0
      rw [← this]; exact List.drop_left' rfl
    unfold putB
    rw [List.pairwise_append, List.pairwise_cons]
    have hd : ∀ y ∈ c.drop (litAt c l), absV l < absV y := by
      intro y hy
      have hne := hn y (List.mem_of_mem_drop hy)
      rw [e2] at hy
      have hp : (c.dropWhile (fun x => decide (absV x < absV l))).Pairwise AscS := by rw [← e2]; exact h.asc.drop
      cases hdw : c.dropWhile (fun x => decide (absV x < absV l)) with
      | nil => rw [hdw] at hy; cases hy
      | cons z t =>
        have hz : ¬ absV z < absV l := by
          have := List.head_dropWhile_not (fun x => decide (absV x < absV l)) (l := c) (by rw [hdw]; simp)
          simp only [hdw, List.head_cons] at this
          simpa using this
        rw [hdw] at hy hp
        rcases List.mem_cons.1 hy with rfl | hy
        · omega
        · have := (List.pairwise_cons.1 hp).1 y hy
          unfold AscS at this; omega
    have ht : ∀ y ∈ c.take (litAt c l), absV y < absV l := by
      intro y hy
      rw [e1] at hy
      simpa using List.all_eq_true.1 (List.all_takeWhile (p := fun x => decide (absV x < absV l)) (l := c)) y hy
    exact ⟨h.asc.take, ⟨hd, h.asc.drop⟩, fun a ha b hb => by
      rcases List.mem_cons.1 hb with rfl | hb
      · exact ht a ha
      · have := ht a ha; have := hd b hb; show absV a < absV b; omega⟩

def joinS (out : List Int) : List Int → Option (List Int)
  | [] => some out
  | l :: b => if hasI out (-l) then none else joinS (if hasI out l then out else putB out l) b
theorem joinS_spec : ∀ {b out : List Int}, GoodS out → GoodS b →
    (joinS out b = none ∧ ∃ l ∈ b, -l ∈ out) ∨ (∃ c, joinS out b = some c ∧ GoodS c ∧ (∀ x, x ∈ c ↔ x ∈ out ∨ x ∈ b) ∧ ∀ l ∈ b, -l ∉ out)
  | [], out, ho, _ => .inr ⟨out, rfl, ho, by simp, by simp⟩
  | l :: b, out, ho, hb => by
    have hl := hb.mem l List.mem_cons_self
    have hb2 : GoodS b := ⟨fun x hx => hb.mem x (List.mem_cons_of_mem _ hx), (List.pairwise_cons.1 hb.asc).2⟩
    have hlb : ∀ x ∈ b, absV l < absV x := (List.pairwise_cons.1 hb.asc).1
    unfold joinS
    by_cases hc : -l ∈ out
    · rw [if_pos (hasS_iff.2 hc)]
      exact .inl ⟨rfl, l, List.mem_cons_self, hc⟩
    · rw [if_neg (by rw [hasS_iff]; exact hc)]
      have hout : ∃ out', (if hasI out l then out else putB out l) = out' ∧ GoodS out' ∧ ∀ x, x ∈ out' ↔ x = l ∨ x ∈ out := by
        by_cases h : l ∈ out
        · rw [if_pos (hasS_iff.2 h)]
          exact ⟨_, rfl, ho, fun x => ⟨.inr, fun hx => by rcases hx with rfl | hx; exact h; exact hx⟩⟩
        · rw [if_neg (by rw [hasS_iff]; exact h)]
          refine ⟨_, rfl, ho.put hl fun y hy e => ?_, fun x => memS_putB⟩
          have hy6 := ho.mem y hy
          rw [hy6.abs, hl.abs] at e
          have : y = l ∨ y = -l := by
            have h1 := hy6; have h2 := hl
            unfold LitS at h1 h2
            split at e <;> split at e <;> omega
          rcases this with rfl | rfl
          · exact h hy
          · exact hc hy
      obtain ⟨out', he, hg, hm⟩ := hout
      rw [he]
      rcases joinS_spec hg hb2 with ⟨h1, x, hx, hx2⟩ | ⟨c, h1, h2, h3, h4⟩
      · refine .inl ⟨h1, x, List.mem_cons_of_mem _ hx, ?_⟩
        rcases (hm _).1 hx2 with e | e
        · exfalso
          have h5 := hlb x hx
          have h6 := hb.mem x (List.mem_cons_of_mem _ hx)
          rw [hl.abs, h6.abs] at h5
          unfold LitS at h6 hl
          split at h5 <;> split at h5 <;> omega
        · exact e
      · refine .inr ⟨c, h1, h2, fun x => ?_, fun x hx => ?_⟩
        · rw [h3, hm, List.mem_cons]
          exact ⟨fun h => by rcases h with (h | h) | h <;> simp [h], fun h => by rcases h with h | h | h <;> simp [h]⟩
        · rcases List.mem_cons.1 hx with rfl | hx
          · exact hc
          · exact fun h => h4 x hx ((hm _).2 (.inr h))
end Go.Proofs.YtahbepajeplcmaaGreatDoor

/- Plain facts: literals sorted by their variables, without repetitions. No program in sight. -/
namespace Go.Proofs.YtahbepajeplcmaaGreatDoor
open Go.RowKit

/-- The size of a number, as the program reckons it. -/
def absW (l : Int) : Int := if l < wrap64 (-l) then wrap64 (-l) else l
theorem absW_lit {l : Int} (h : LitS l) : absW l = absV l := by
  rw [h.abs]
  unfold LitS at h
  unfold absW wrap64
  split <;> split <;> omega
/-- The order of literals: by variables, the positive one first. -/
def cmpL (a b : Int) : Int := if absW a < absW b then -1 else if absW b < absW a then 1 else if b < a then -1 else if a < b then 1 else 0
def befL (x y : Int) : Prop := absW x < absW y ∨ (absW x = absW y ∧ y < x)
theorem cmpL_neg {x y : Int} : cmpL x y < 0 ↔ befL x y := by
  unfold cmpL befL
  split
  · simp; omega
  · split
    · simp; omega
    · split
      · simp; omega
      · split <;> simp <;> omega
theorem befL_trans {a b c : Int} (h : befL a b) (k : befL b c) : befL a c := by unfold befL at *; omega
theorem befL_or {x y : Int} (h : ¬ befL y x) : befL x y ∨ x = y := by unfold befL at *; omega
def sortL (zs : List Int) : List Int := zs.mergeSort fun x y => !decide (cmpL y x < 0)
theorem sortL_weak (zs : List Int) : (sortL zs).Pairwise fun a b => befL a b ∨ a = b := by
  have h := List.pairwise_mergeSort (le := fun x y : Int => !decide (cmpL y x < 0)) (fun a b c h1 h2 => by
    simp only [Bool.not_eq_true', decide_eq_false_iff_not, cmpL_neg] at *
    unfold befL at *; omega) (fun a b => by
    simp only [Bool.or_eq_true, Bool.not_eq_true', decide_eq_false_iff_not, cmpL_neg]
    unfold befL; omega) zs
  refine h.imp fun h => befL_or ?_
  simpa only [Bool.not_eq_true', decide_eq_false_iff_not, cmpL_neg] using h
theorem compactR_asc {R : Int → Int → Prop} (ht : ∀ a b c, R a b → R b c → R a c) {l : List Int} (h : l.Pairwise fun a b => R a b ∨ a = b) : (Lib.compact l).Pairwise R := by
  unfold Lib.compact Lib.compactUpTo
  rw [List.pairwise_map]
  have hr : ((List.range l.length).filter (Lib.keeps l.toArray)).Pairwise (· < ·) := List.Pairwise.filter _ List.pairwise_lt_range
  refine hr.imp_of_mem fun {i j} hi hj hij => ?_
  have hil := List.mem_range.1 (List.mem_filter.1 hi).1
  have hjl := List.mem_range.1 (List.mem_filter.1 hj).1
  have hk := (List.mem_filter.1 hj).2
  rw [bangI hil, bangI hjl]
  have hget := List.pairwise_iff_getElem.1 h
  have hne : l[j] ≠ l[j - 1]'(by omega) := fun e => by
    have : Lib.keeps l.toArray j = false := Lib.keeps_neg (by omega) (by rw [bangI hjl, bangI (by omega)]; exact e)
    rw [this] at hk; cases hk
  have h1 : R (l[j - 1]'(by omega)) l[j] := by
    rcases hget (j - 1) j (by omega) hjl (by omega) with h | h
    · exact h
    · exact absurd h.symm hne
  by_cases e : i = j - 1
  · subst e; exact h1
  · rcases hget i (j - 1) hil (by omega) (by omega) with h | h
    · exact ht _ _ _ h h1
    · rw [h]; exact h1
def cptL (zs : List Int) : List Int := Lib.compact (sortL zs)
theorem cptL_asc (zs : List Int) : (cptL zs).Pairwise befL := by
  unfold cptL
  exact compactR_asc (R := befL) (fun _ _ _ => befL_trans) (sortL_weak zs)
theorem cptL_mem {zs : List Int} {x : Int} : x ∈ cptL zs ↔ x ∈ zs := by unfold cptL sortL; rw [compactI_mem, List.mem_mergeSort]
theorem cptL_len (zs : List Int) : (cptL zs).length ≤ zs.length := by
  have := Lib.compact_length_le (sortL zs)
  unfold cptL
  have h2 : (sortL zs).length = zs.length := List.length_mergeSort _
  omega
/-- No literal is followed by its negation, up to a place. -/
def okTo (out : List Int) (k : Nat) : Bool := (List.range k).all fun i => !(out.getD (i + 1) 0 == -(out.getD i 0))
theorem okTo_next {out : List Int} {k : Nat} (h : okTo out k = true) (h2 : (out.getD (k + 1) 0 == -(out.getD k 0)) = false) : okTo out (k + 1) = true := by
  unfold okTo at *
  rw [List.range_succ, List.all_append, h, Bool.true_and]
  simp only [List.all_cons, List.all_nil, Bool.and_true, h2]
  rfl
theorem okTo_no {out : List Int} {k n : Nat} (hk : k < n) (h : (out.getD (k + 1) 0 == -(out.getD k 0)) = true) : okTo out n = false := by
  unfold okTo
  rw [List.all_eq_false]
  exact ⟨k, List.mem_range.2 hk, by rw [h]; decide⟩
/-- The clause of literals. -/
def clauseR (zs : List Int) : Option (List Int) := if okTo (cptL zs) ((cptL zs).length - 1) then some (cptL zs) else none
theorem clauseR_some {zs : List Int} (hl : ∀ x ∈ zs, LitS x) (hn : ∀ x ∈ zs, -x ∉ zs) : clauseR zs = some (cptL zs) ∧ GoodS (cptL zs) := by
  have hm : ∀ x ∈ cptL zs, LitS x := fun x hx => hl x (cptL_mem.1 hx)
  constructor
  · unfold clauseR
    rw [if_pos]
    unfold okTo
    rw [List.all_eq_true]
    intro i hi
    have hi := List.mem_range.1 hi
    have h1 : i + 1 < (cptL zs).length := by omega
    rw [List.getD_eq_getElem?_getD, List.getD_eq_getElem?_getD, List.getElem?_eq_getElem h1, List.getElem?_eq_getElem (by omega : i < (cptL zs).length)]
    simp only [Option.getD_some, Bool.not_eq_true', beq_eq_false_iff_ne]
    intro e
    refine hn _ (cptL_mem.1 (List.getElem_mem (by omega : i < (cptL zs).length))) ?_
    rw [← e]
    exact cptL_mem.1 (List.getElem_mem h1)
  · refine ⟨hm, ?_⟩
    refine (cptL_asc zs).imp_of_mem fun {a b} ha hb h => ?_
    have la := hm a ha; have lb := hm b hb
    unfold befL at h
    rw [absW_lit la, absW_lit lb] at h
    rcases h with h | ⟨h, h2⟩
    · exact h
    · exfalso
      have : b = -a := by
        rw [la.abs, lb.abs] at h
        unfold LitS at la lb
        split at h <;> split at h <;> omega
      refine hn a (cptL_mem.1 ha) ?_
      rw [← this]
      exact cptL_mem.1 hb
theorem clauseR_none {zs : List Int} (hl : ∀ x ∈ zs, LitS x) {y : Int} (hy : y ∈ zs) (hy2 : -y ∈ zs) : clauseR zs = none := by
  have hm : ∀ x ∈ cptL zs, LitS x := fun x hx => hl x (cptL_mem.1 hx)
  obtain ⟨x, hx, hx2, h0⟩ : ∃ x, x ∈ cptL zs ∧ -x ∈ cptL zs ∧ 0 < x := by
    have := hl y hy
    unfold LitS at this
    by_cases h : 0 < y
    · exact ⟨y, cptL_mem.2 hy, cptL_mem.2 hy2, h⟩
    · exact ⟨-y, cptL_mem.2 hy2, by rw [Int.neg_neg]; exact cptL_mem.2 hy, by omega⟩
  unfold clauseR
  rw [if_neg]
  obtain ⟨i, hi, rfl⟩ := List.getElem_of_mem hx
  obtain ⟨j, hj, e⟩ := List.getElem_of_mem hx2
  have hp := List.pairwise_iff_getElem.1 (cptL_asc zs)
  have lx := hm _ (List.getElem_mem hi)
  have habs : absW (-(cptL zs)[i]) = absW (cptL zs)[i] := by
    have l2 := hm _ hx2
    rw [absW_lit lx, absW_lit l2, lx.abs, l2.abs]
    split <;> split <;> omega
  have hij : i < j := by
    rcases Nat.lt_trichotomy i j with h | h | h
    · exact h
    · subst h; omega
    · have := hp j i hj hi h
      rw [e] at this
      unfold befL at this; omega
  have hjn : j = i + 1 := by
    rcases Nat.lt_or_ge (i + 1) j with h | h
    · exfalso
      have h1 := hp i (i + 1) hi (by omega) (by omega)
      have h2 := hp (i + 1) j (by omega) hj h
      rw [e] at h2
      have l3 := hm _ (List.getElem_mem (by omega : i + 1 < (cptL zs).length))
      have l2 := hm _ hx2
      unfold befL at h1 h2
      rw [absW_lit lx, absW_lit l3, lx.abs, l3.abs] at h1
      rw [absW_lit l3, absW_lit l2, l3.abs, l2.abs] at h2
      unfold LitS at l3
      split at h1 <;> split at h1 <;> split at h2 <;> omega
    · omega
  rw [Bool.not_eq_true]
  refine okTo_no (k := i) (by omega) ?_
  rw [List.getD_eq_getElem?_getD, List.getD_eq_getElem?_getD, List.getElem?_eq_getElem (by omega : i + 1 < (cptL zs).length), List.getElem?_eq_getElem hi]
  subst hjn
  simp only [Option.getD_some, beq_iff_eq]
  exact e
theorem clauseR_join {a b : List Int} (ga : GoodS a) (gb : GoodS b) : clauseR (a ++ b) = joinS a b := by
  have hl : ∀ x ∈ a ++ b, LitS x := fun x hx => by
    rcases List.mem_append.1 hx with h | h
    · exact ga.mem x h
    · exact gb.mem x h
  rcases joinS_spec ga gb with ⟨h1, l, hl2, hn⟩ | ⟨c, h1, gc, hm, hn⟩
  · rw [h1]
    exact clauseR_none hl (List.mem_append.2 (.inr hl2)) (List.mem_append.2 (.inl hn))
  · rw [h1]
    obtain ⟨h2, g2⟩ := clauseR_some hl fun x hx hx2 => by
      rcases List.mem_append.1 hx with h | h <;> rcases List.mem_append.1 hx2 with h' | h'
      · exact ga.clash h h'
      · exact hn _ h' (by rw [Int.neg_neg]; exact h)
      · exact hn x h h'
      · exact gb.clash h h'
    rw [h2]
    congr 1
    exact g2.ext gc fun x => by rw [cptL_mem, List.mem_append, hm]
theorem without_good {c : List Int} (h : GoodS c) (v : Int) : GoodS (withoutB c v) := ⟨fun l hl => h.mem l (List.mem_filter.1 hl).1, h.asc.filter _⟩
theorem memS_without {c : List Int} {v x : Int} : x ∈ withoutB c v ↔ x ∈ c ∧ absV x ≠ v := by
  unfold withoutB
  rw [List.mem_filter]
  simp
/-- A literal is set. -/
def setS (a : List Int) (l : Int) : List Int := putB (withoutB a (absV l)) l
theorem set_good {a : List Int} (ga : GoodS a) {l : Int} (hl : LitS l) : GoodS (setS a l) := (without_good ga _).put hl fun y hy => (memS_without.1 hy).2
theorem clauseR_set {a : List Int} (ga : GoodS a) {l : Int} (hl : LitS l) : clauseR (withoutB a (absV l) ++ [l]) = some (setS a l) := by
  have gw := without_good ga (absV l)
  have habs : absV (-l) = absV l := by
    have h2 : LitS (-l) := by unfold LitS at *; omega
    rw [hl.abs, h2.abs]; split <;> split <;> omega
  obtain ⟨h2, g2⟩ := clauseR_some (zs := withoutB a (absV l) ++ [l]) (fun x hx => by
    rcases List.mem_append.1 hx with h | h
    · exact gw.mem x h
    · obtain rfl : x = l := by simpa using h
      exact hl) fun x hx hx2 => by
    rcases List.mem_append.1 hx with h | h <;> rcases List.mem_append.1 hx2 with h' | h'
    · exact gw.clash h h'
    · have e : -x = l := by simpa using h'
      have : x = -l := by omega
      subst this
      exact (memS_without.1 h).2 habs
    · obtain rfl : x = l := by simpa using h
      exact (memS_without.1 h').2 habs
    · obtain rfl : x = l := by simpa using h
      have e : -x = x := by simpa using h'
      unfold LitS at hl; omega
  rw [h2]
  congr 1
  exact g2.ext (set_good ga hl) fun x => by
    unfold setS
    rw [cptL_mem, memS_putB, List.mem_append]
    simp [or_comm]
end Go.Proofs.YtahbepajeplcmaaGreatDoor

/- Contract: clauses joined, in the reference, to the word. -/
namespace Go.Proofs.YtahbepajeplcmaaGreatDoor
open Go.RowKit

theorem joinS_no {out b : List Int} {l : Int} (h : hasI out (-l) = true) : joinS out (l :: b) = none := by unfold joinS; rw [if_pos h]
theorem joinS_has {out b : List Int} {l : Int} (h : hasI out (-l) = false) (h2 : hasI out l = true) : joinS out (l :: b) = joinS out b := by rw [joinS, if_neg (by rw [h]; simp), if_pos h2]
theorem joinS_put {out b : List Int} {l : Int} (h : hasI out (-l) = false) (h2 : hasI out l = false) : joinS out (l :: b) = joinS (putB out l) b := by rw [joinS, if_neg (by rw [h]; simp), if_neg (by rw [h2]; simp)]

set_option maxRecDepth 100000 in
set_option maxHeartbeats 4000000 in
theorem l2JoinS_any (v u : Value) (a b : List Int) (F G : List Nat) (w : World) (hx : Ty.int.row false w v a F) (hy : Ty.int.row false w u b G) (wa : Within 1000 a) (wb : Within 1000 b) (la : a.length ≤ 1000) (lb : b.length ≤ 1000) :
    Calls Tryz.prog 81 #[v, u] w (IAns w (joinS a b).isSome ((joinS a b).getD [])) := by
  obtain ⟨aa, ac, rfl, _, _⟩ := Ty.row_len hx
  obtain ⟨ba, bc, rfl, hy1, hy2, _, hy3⟩ := row_int hy
  go_enter Tryz.func81, Tryz.ntmps81
  go_wp2_with fail
  refine (l1Own_any _ a F w hx (by omega)).mono ?_
  rintro e w1 ⟨v1, rfl, ho1, hb1⟩
  have S0 := (Sp.start w).own_call hb1 ho1
  obtain ⟨a1, c1, rfl⟩ := owns_form ho1
  replace S0 := Lib.hid S0
  have hW0 := Lib.hid wa
  have hj0 : Hid (joinS a (b.drop 0) = joinS a b) := by unfold Hid; rw [List.drop_zero]
  clear ho1 hb1
  go_wp2_with fail
  go_loopw [6, 7] (fun s i wr => ∃ (k : Nat) (out : List Int), k ≤ b.length ∧ i = .int .i64 k ∧ out.length ≤ a.length + k ∧ Hid (Within 1000 out) ∧ Hid (joinS out (b.drop k) = joinS a b) ∧ Hid (Sp w wr [Own 3 1 s out.length (out.map (.int .i64))])) (fun _ i _ => b.length - (intOf i).toNat)
  case atStart => exact ⟨0, a, Nat.zero_le _, rfl, by omega, hW0, hj0, S0⟩
  case round =>
    obtain ⟨k, out, hk, rfl, hol, HW, HJ, HS⟩ := hrel
    clear hj0
    clear S0
    obtain ⟨sa, sc, rfl⟩ := owns_form (HS.out.own (i := 0) rfl)
    by_cases hlt : k < b.length
    · rcases hy3 with ⟨rfl, rfl⟩ | ⟨hyn, bk, off, rfl, rfl, hyc⟩
      · exact absurd hlt (by simp)
      have hB := HS.out.below
      have k0 := ((hyc k hlt).keep (hB.block bk (hyc k hlt).lt)).1
      have hl6 := wb _ (List.getElem_mem hlt)
      obtain ⟨H, hrow', -, -⟩ := own_row (HS.out.own (i := 0) rfl) (HW.out.i64 (by decide))
      have hrow := Ty.row_down hrow'
      have hd := List.drop_eq_getElem_cons hlt
      obtain ⟨l, hl⟩ : ∃ l, l = b[k] := ⟨_, rfl⟩
      rw [← hl] at k0 hl6 hd
      have HJ2 := HJ.out
      rw [hd] at HJ2
      replace hd := Lib.hid hd
      have hneg : wrap64 (-l) = -l := by unfold wrap64; omega
      have hl0 : -1000 ≤ l := hl6.1
      have hl1 : l ≤ 1000 := hl6.2
      replace hl := Lib.hid hl
      clear hyc hB hl hl6 hrow'
      cases hq : hasI out (-l)
      · cases hq2 : hasI out l
        · rw [joinS_put hq hq2] at HJ2
          replace HJ2 := Lib.hid HJ2
          have HN := Lib.hid (within_put HW.out ⟨hl0, hl1⟩)
          have hpl := Lib.hid (put_len out l)
          have hol9 : out.length ≤ 1000000000 := by omega
          go_wp2_with (first
            | (go_at_call 146; (first | (with_reducible refine (l2Has_at hrow hq).mono ?_) | (with_reducible refine (l2Has_at hrow hq2).mono ?_)); rintro e w2 ⟨rfl, rfl⟩)
            | (go_at_call 147; (with_reducible refine (l2Put_any _ out l H _ hrow hol9).mono ?_); rintro e w2 ⟨v2, rfl, ho2, hb2⟩))
          have S1 := (HS.out.own_call hb2 ho2).drop2w
          obtain ⟨a2, c2, rfl⟩ := owns_form ho2
          replace S1 := Lib.hid S1
          clear ho2 hb2 HS hrow HJ hd
          generalize putB out l = out2 at *
          go_wp2_with fail
          go_roundw
          case rel => exact ⟨k + 1, out2, by omega, by go_num, by rw [hpl.out]; omega, HN, HJ2, S1⟩
          case measure => simp [intOf]; omega
        · rw [joinS_has hq hq2] at HJ2
          replace HJ2 := Lib.hid HJ2
          clear HJ hd
          go_wp2_with (first
            | (go_at_call 146; (first | (with_reducible refine (l2Has_at hrow hq).mono ?_) | (with_reducible refine (l2Has_at hrow hq2).mono ?_)); rintro e w2 ⟨rfl, rfl⟩))
          go_roundw
          case rel => exact ⟨k + 1, out, by omega, by go_num, by omega, HW, HJ2, HS⟩
          case measure => simp [intOf]; omega
      · rw [joinS_no hq] at HJ2
        replace HJ2 := Lib.hid HJ2
        clear HJ hd
        go_wp2_with (first
          | (go_at_call 146; (first | (with_reducible refine (l2Has_at hrow hq).mono ?_)); rintro e w2 ⟨rfl, rfl⟩))
        have S1 := Lib.hid (HS.out.own_made 3 1)
        go_ret2
        rw [← HJ2.out]
        exact ⟨_, _, rfl, IntsAt.nil _ _, S1.out.below⟩
    · obtain rfl : k = b.length := by omega
      have HJ2 := HJ.out
      rw [List.drop_length] at HJ2
      replace HJ2 := Lib.hid HJ2
      clear HJ
      go_wp2_with fail
      go_ret2
      rw [← HJ2.out]
      exact ⟨_, _, rfl, HS.out.ints (i := 0) rfl (HW.out.i64 (by decide)), HS.out.below⟩

end Go.Proofs.YtahbepajeplcmaaGreatDoor

/- Contracts: two rows of numbers put together, in the library; a variable left out of a clause, in the program. -/
namespace Go.Proofs.YtahbepajeplcmaaGreatDoor
open Go.RowKit Go.Shelf

/- left out: the seat has no slices.Grow[[]int,int] -/

/- left out: the seat has no slices.Grow[[]int,int] -/

/- left out: the seat has no slices.Concat[[]int,int] -/

set_option maxHeartbeats 1000000 in
theorem withoutVar1_any (l v : Int) (hl : LitS l) (b : Nat) (w : World) (c0 : w.cell? ⟨b, 0, none⟩ = some (.int .i64 v)) :
    Calls Tryz.prog 149 #[.int .i64 l, .pointer (some ⟨b, 0, none⟩)] w fun e w' => e = .returned (.bool (absV l == v)) ∧ Below w.heap.size w w' := by
  obtain ⟨x, hx⟩ : ∃ x, absV l = x := ⟨_, rfl⟩
  have habs := Lib.hid (fun W => abs_at hl.i64 hx W)
  rw [hx]
  have k0 := cell_regrown c0
  clear hx c0
  go_enter Tryz.func149, Tryz.ntmps149
  go_wp2_with fail
  refine wp_region_quiet_below (by kernel_rfl) (by kernel_rfl) ?_
  repeat (any_goals (first | go_big_quiet_step ((go_at_call 84; exact Calls.regrown_of (habs.out _)))))
  refine wpQuiet_nil ?_
  rintro w3 ⟨p, rfl⟩
  have hB := Lib.hid (below_regrown w p.d p.os)
  clear k0
  go_wp2_with fail
  go_ret
  exact ⟨rfl, hB.out⟩

set_option maxHeartbeats 1000000 in
theorem withoutVar_any (c : List Int) (A : Option Addr) (cap : Nat) (v : Int) (w : World) (hx : IntsAt w A c) (hc : ∀ l ∈ c, LitS l) (hl : c.length ≤ 1000) :
    Calls Tryz.prog 83 #[.slice A c.length cap, .int .i64 v] w (OneI w (withoutB c v)) := by
  have eg : Enter1 149 := enters_of Tryz.func149 (by kernel_rfl) rfl
  have S0 := (Sp.start w).alloc_box #[.int .i64 v] 3
  have hcl := Lib.hid (cloneA_any A cap c _ (hx.grow S0.below) (by omega))
  have hok := Lib.hid hx.ok
  have hcH := Lib.hid hc
  replace S0 := Lib.hid S0
  obtain ⟨zs, hzs⟩ : ∃ zs, withoutB c v = zs := ⟨_, rfl⟩
  rw [hzs]
  unfold withoutB at hzs
  replace hzs := Lib.hid hzs
  clear hx hc
  go_enter Tryz.func83, Tryz.ntmps83
  go_wp2_with fail
  refine hcl.out.mono ?_
  rintro e w1 ⟨D, dc, rfl, T⟩
  have S1 : Sp w w1 [Own 3 1 (.slice D c.length dc) c.length (c.map (.int .i64)), Box w.heap.size 3 #[.int .i64 v]] := S0.out.seq T
  have hdel := Lib.hid (deleteFuncI_any (cb := #[.pointer (some ⟨w.heap.size, 0, none⟩)]) (p := fun l => absV l == v) (R := LitS) eg c D dc w w1 _ S1 hok.out (by omega) hcH.out fun x ys W hR SW => withoutVar1_any x v hR w.heap.size W (SW.cell (i := 1) rfl (o := 0) rfl))
  rw [hzs.out] at hdel
  clear S0 S1 T hcl
  go_wp2_with fail
  refine hdel.out.mono ?_
  rintro e w2 ⟨rfl, S8, -⟩
  have S9 := Lib.hid (S8.pick (qs := [Own 3 1 (.slice D zs.length dc) zs.length (zs.map (.int .i64))]) [0] rfl)
  clear S8 hdel
  go_wp2_with fail
  go_ret
  exact ⟨D, dc, rfl, S9.out⟩
end Go.Proofs.YtahbepajeplcmaaGreatDoor

/- Contracts: total assignments and the value of a clause, in the reference. -/
namespace Go.Proofs.YtahbepajeplcmaaGreatDoor
open Go.RowKit

/-- The total assignment of bits. -/
def totI (b i : Nat) : Int := if b.testBit i then (i : Int) + 1 else -((i : Int) + 1)
def totB (n b : Nat) : List Int := (List.range n).map (totI b)
theorem tot_len (n b : Nat) : (totB n b).length = n := by simp [totB]
theorem tot_snoc (n b : Nat) : totB (n + 1) b = totB n b ++ [totI b n] := by simp [totB, List.range_succ]
theorem tot_ok (n b : Nat) (hn : n ≤ 1000) : ∀ x ∈ totB n b, I64 x := by
  intro x hx
  obtain ⟨i, hi, rfl⟩ := List.mem_map.1 hx
  have := List.mem_range.1 hi
  unfold totI I64
  split <;> omega
theorem has_tot {n b : Nat} {l : Int} (h0 : l ≠ 0) (h1 : -(n : Int) ≤ l) (h2 : l ≤ n) : hasI (totB n b) l = litT b l := by
  unfold hasI litT
  rw [Bool.eq_iff_iff, List.contains_iff_mem]
  constructor
  · intro hm
    obtain ⟨i, hi, he⟩ := List.mem_map.1 hm
    unfold totI at he
    by_cases ht : b.testBit i = true
    · rw [if_pos ht] at he
      rw [show l.natAbs - 1 = i by omega, ht, decide_eq_true (by omega)]; rfl
    · rw [if_neg ht] at he
      rw [show l.natAbs - 1 = i by omega, Bool.eq_false_iff.2 ht, decide_eq_false (by omega)]; rfl
  · intro hb
    refine List.mem_map.2 ⟨l.natAbs - 1, List.mem_range.2 (by omega), ?_⟩
    unfold totI
    by_cases hp : 0 < l
    · rw [decide_eq_true hp] at hb
      have : b.testBit (l.natAbs - 1) = true := by simpa using hb
      rw [if_pos this]; omega
    · rw [decide_eq_false hp] at hb
      have : b.testBit (l.natAbs - 1) = false := by simpa using hb
      rw [this, if_neg (by simp)]; omega

/- left out: the seat has no spec.l3Total -/

/-- What l3Value tells. -/
def valP (c a : List Int) (e : Ending) : Prop := ∃ z : Int, e = .returned (.int .i64 z) ∧ (z == 1) = c.any (hasI a)
/- left out: the seat has no spec.l3Value -/
end Go.Proofs.YtahbepajeplcmaaGreatDoor

/- Contract: total assignments in the program. -/
namespace Go.Proofs.YtahbepajeplcmaaGreatDoor
open Go.RowKit

/- left out: the seat has no impl.total -/
end Go.Proofs.YtahbepajeplcmaaGreatDoor

/- Contract: the backbone of a Cnf, in the program. -/
namespace Go.Proofs.YtahbepajeplcmaaGreatDoor
open Go.RowKit

/-- The literals of a model that are true for all models up to k. -/
def keepK (n : Nat) (xss : List (List Int)) (f k : Nat) : List Int := (totB n f).filter fun l => (mods (modT xss) k).all fun b => litT b l
theorem mods_no {p : Nat → Bool} {k : Nat} (h : p k = false) : mods p (k + 1) = mods p k := by simp [mods, List.range_succ, List.filter_append, h]
theorem mods_yes {p : Nat → Bool} {k : Nat} (h : p k = true) : mods p (k + 1) = mods p k ++ [k] := by simp [mods, List.range_succ, List.filter_append, h]
theorem keep_no {n f k : Nat} {xss : List (List Int)} (h : modT xss k = false) : keepK n xss f (k + 1) = keepK n xss f k := by unfold keepK; rw [mods_no h]
theorem keep_yes {n f k : Nat} {xss : List (List Int)} (h : modT xss k = true) : keepK n xss f (k + 1) = (keepK n xss f k).filter fun l => !(!litT k l) := by
  unfold keepK
  rw [mods_yes h, List.filter_filter]
  congr 1
  funext l
  rw [List.all_append, Bool.and_comm]
  simp
theorem keep_zero (n f : Nat) (xss : List (List Int)) : keepK n xss f 0 = totB n f := by
  unfold keepK
  rw [List.filter_eq_self]
  intro l _
  rfl
theorem keep_len (n : Nat) (xss : List (List Int)) (f k : Nat) : (keepK n xss f k).length ≤ n := Nat.le_trans (List.length_filter_le _ _) (by rw [tot_len]; exact Nat.le_refl _)
theorem tot_lit {n f : Nat} (hn : n ≤ 12) : ∀ l ∈ totB n f, LitS l := by
  intro l hl
  obtain ⟨i, hi, rfl⟩ := List.mem_map.1 hl
  have := List.mem_range.1 hi
  unfold totI LitS
  split <;> omega
theorem keep_lit {n f k : Nat} (hn : n ≤ 12) {xss : List (List Int)} : ∀ l ∈ keepK n xss f k, LitS l := fun l hl => tot_lit hn l (List.mem_filter.1 hl).1
theorem keep_bone_k (n : Nat) (xss : List (List Int)) (f : Nat) (hf : f ∈ mods (modT xss) (2 ^ n)) : ∀ k, (totB k f).filter (fun l => (mods (modT xss) (2 ^ n)).all fun b => litT b l) = boneTo n xss k
  | 0 => rfl
  | k + 1 => by
    rw [tot_snoc, List.filter_append, keep_bone_k n xss f hf k, bone_next]
    congr 1
    have himp : ∀ x, impB n xss [x] = (mods (modT xss) (2 ^ n)).all fun b => litT b x := fun x => by
      rw [imp_mods]
      congr 1
      funext b
      exact cl_one x b
    rw [himp, himp]
    unfold totI
    have hp : ∀ (q : Bool), f.testBit k = q → ((mods (modT xss) (2 ^ n)).all fun b => litT b ((k : Int) + 1)) = true → q = true := fun q hq h => by
      have := List.all_eq_true.1 h f hf
      rw [lit_pos, hq] at this
      exact this
    have hm : ∀ (q : Bool), f.testBit k = q → ((mods (modT xss) (2 ^ n)).all fun b => litT b (-((k : Int) + 1))) = true → q = false := fun q hq h => by
      have := List.all_eq_true.1 h f hf
      rw [lit_neg, hq] at this
      simpa using this
    cases hq : f.testBit k
    · have h1 : ((mods (modT xss) (2 ^ n)).all fun b => litT b ((k : Int) + 1)) = false := by
        cases h : ((mods (modT xss) (2 ^ n)).all fun b => litT b ((k : Int) + 1))
        · rfl
        · exact absurd (hp _ hq h) (by simp)
      rw [h1]
      cases h2 : ((mods (modT xss) (2 ^ n)).all fun b => litT b (-((k : Int) + 1)))
      · simp [List.filter, h2]
      · simp [List.filter, h2]
    · have h1 : ((mods (modT xss) (2 ^ n)).all fun b => litT b (-((k : Int) + 1))) = false := by
        cases h : ((mods (modT xss) (2 ^ n)).all fun b => litT b (-((k : Int) + 1)))
        · rfl
        · exact absurd (hm _ hq h) (by simp)
      rw [h1]
      cases h2 : ((mods (modT xss) (2 ^ n)).all fun b => litT b ((k : Int) + 1))
      · simp [List.filter, h2]
      · simp [List.filter, h2]
theorem keep_bone {n : Nat} {xss : List (List Int)} {f : Nat} (h1 : f < 2 ^ n) (h2 : modT xss f = true) : keepK n xss f (2 ^ n) = boneTo n xss n :=
  keep_bone_k n xss f (List.mem_filter.2 ⟨List.mem_range.2 h1, h2⟩) n
theorem idx_model {p : Nat → Bool} {N : Nat} (h : (List.range N).any p = true) : ∃ f : Nat, idxP p (List.range N) = (f : Int) ∧ f < N ∧ p f = true := by
  have hlt : (List.range N).findIdx p < (List.range N).length := List.findIdx_lt_length_of_exists (by simpa using List.any_eq_true.1 h)
  refine ⟨(List.range N).findIdx p, by unfold idxP; rw [if_pos h], by simpa using hlt, ?_⟩
  have := List.findIdx_getElem (w := hlt)
  simpa using this

/- left out: the seat has no impl.BackboneOf$1$1 -/

/- left out: the seat has no impl.BackboneOf$1 -/

/-- What is left of the first model's literals before k. -/
def BoneP (w : World) (n : Nat) (xss : List (List Int)) (f o m fb : Nat) (fcs : Array Value) (k : Nat) (V : World) : Prop :=
  ∃ (ts : List Int) (B : Option Addr) (cc : Nat), ts = keepK n xss f k ∧ (∀ g, (Value.slice B ts.length cc).ownBlock = some g → g ≠ m) ∧
    Sp w V [Own 3 1 (.slice B ts.length cc) ts.length (ts.map (.int .i64)), Box o 43 #[.slice B ts.length cc], Box fb 61 fcs]

/- left out: the seat has no impl.BackboneOf -/
end Go.Proofs.YtahbepajeplcmaaGreatDoor

/- Contracts: inequalities over bits, in the program. -/
namespace Go.Proofs.YtahbepajeplcmaaGreatDoor
open Go.RowKit

theorem within_at {x a b : Int} {q : Bool} (h : inB x a b = q) (w : World) : Calls Tryz.prog 57 #[.int .i64 x, .int .i64 a, .int .i64 b] w fun e w' => e = .returned (.bool q) ∧ w = w' := h ▸ within_any x a b w
theorem varsOk_at {x : Int} {q : Bool} (h : inB x 0 12 = q) (w : World) : Calls Tryz.prog 85 #[.int .i64 x] w fun e w' => e = .returned (.bool q) ∧ w = w' := h ▸ varsOk_any x w
/- left out: the seat has no impl.IsInequality$1 -/

/- left out: the seat has no impl.IsInequality -/

/- left out: the seat has no impl.planeHolds -/
end Go.Proofs.YtahbepajeplcmaaGreatDoor

/- Contracts: total assignments and their bits, on both sides. -/
namespace Go.Proofs.YtahbepajeplcmaaGreatDoor
open Go.RowKit

/-- A row of the call's own, and whether it is told. -/
def OwnAns (w : World) (ok : Bool) (zs : List Int) (e : Ending) (w' : World) : Prop := ∃ D dc, e = .returned (.tuple #[.slice D zs.length dc, .bool ok]) ∧ Sp w w' [Own 3 1 (.slice D zs.length dc) zs.length (zs.map (.int .i64))]
def totOk (vars bits : Int) : Bool := inB vars 0 12 && inB bits 0 (((2 ^ vars.toNat : Nat) : Int) - 1)
def totL (vars bits : Int) : List Int := if totOk vars bits then totB vars.toNat bits.toNat else []
theorem totOk_parts {vars bits : Int} (h : totOk vars bits = true) : 0 ≤ vars ∧ vars ≤ 12 ∧ 0 ≤ bits ∧ bits.toNat < 2 ^ vars.toNat := by
  unfold totOk at h
  rw [Bool.and_eq_true, inB_true, inB_true] at h
  have h1 : 1 ≤ 2 ^ vars.toNat := Nat.one_le_two_pow
  omega

/- left out: the seat has no impl.TotalOf -/

/- left out: the seat has no spec.TotalOf -/
end Go.Proofs.YtahbepajeplcmaaGreatDoor

/- Contracts: literals compared and sorted, and the clause of literals, in the program. -/
namespace Go.Proofs.YtahbepajeplcmaaGreatDoor
open Go.RowKit Go.Sort

def orL (x y : Int) : Int := if x = 0 then y else x
theorem cmpL_or (a b : Int) : orL (Lib.compareInt (absW a) (absW b)) (Lib.compareInt b a) = cmpL a b := by
  unfold orL cmpL Lib.compareInt
  by_cases h1 : absW a < absW b
  · simp [h1]
  · by_cases h2 : absW b < absW a
    · simp [h1, h2]
    · simp [h1, h2]
set_option maxHeartbeats 400000 in
theorem absW_any (l : Int) (w : World) : Calls Tryz.prog 84 #[.int .i64 l] w fun e w' => e = .returned (.int .i64 (absW l)) ∧ w = w' := by
  have hd : Hid (absW l = if l < wrap64 (-l) then wrap64 (-l) else l) := rfl
  go_enter Tryz.func84, Tryz.ntmps84
  by_cases h : l < wrap64 (-l)
  · go_wp2
    go_ret
    exact ⟨ret_int (by first | (rw [hd.out, if_pos h]; done) | (rw [hd.out, if_pos h]; exact Int.max_eq_right (Int.le_of_lt h))), rfl⟩
  · go_wp2
    go_ret
    exact ⟨ret_int (by first | (rw [hd.out, if_neg (Int.not_lt.mpr h)]; done) | (rw [hd.out, if_neg (by omega)]; exact Int.max_eq_left (by omega))), rfl⟩
set_option maxHeartbeats 1000000 in
theorem cmpOrL_any (b : Nat) (x y : Int) (w : World) (k0 : w.cell? ⟨b, 0, none⟩ = some (.int .i64 x)) (k1 : w.cell? ⟨b, 1, none⟩ = some (.int .i64 y)) :
    Calls Tryz.prog 132 #[.slice (some ⟨b, 0, none⟩) 2 2] w fun e w' => e = .returned (.int .i64 (orL x y)) ∧ w = w' := by
  by_cases hx : x = 0
  · have hR : Hid (orL x y = y) := by unfold Hid orL; rw [if_pos hx]
    subst hx
    by_cases hy : y = 0
    · subst hy
      go_enter Tryz.func132, Tryz.ntmps132
      go_wp2_with fail
      refine wp_loop_rounds 3 ?_
      rw [rounds_succ]
      go_wp2_with fail
      rw [rounds_succ]
      go_wp2_with fail
      rw [rounds_succ]
      go_wp2_with fail
      go_ret
      exact ⟨ret_int hR.out.symm, rfl⟩
    · have hy2 : (y != 0) = true := by simpa using hy
      go_enter Tryz.func132, Tryz.ntmps132
      go_wp2_with fail
      refine wp_loop_rounds 3 ?_
      rw [rounds_succ]
      go_wp2_with fail
      rw [rounds_succ]
      go_wp2_with fail
      go_ret
      exact ⟨ret_int hR.out.symm, rfl⟩
  · have hR : Hid (orL x y = x) := by unfold Hid orL; rw [if_neg hx]
    have hx2 : (x != 0) = true := by simpa using hx
    go_enter Tryz.func132, Tryz.ntmps132
    go_wp2_with fail
    refine wp_loop_rounds 3 ?_
    rw [rounds_succ]
    go_wp2_with fail
    go_ret
    exact ⟨ret_int hR.out.symm, rfl⟩

set_option maxHeartbeats 1000000 in
theorem compareLiterals_any (a b : Int) (W : World) :
    Calls Tryz.prog 143 #[.int .i64 a, .int .i64 b] W fun e w' => e = .returned (.int .i64 (cmpL a b)) ∧ ∃ q os, w' = grow (W.drewN q) os := by
  have h1 := Lib.hid (fun V => absW_any a V)
  have h2 := Lib.hid (fun V => absW_any b V)
  have h3 := Lib.hid (fun V => Tryz.cmp_Compare_int (absW a) (absW b) V)
  have h4 := Lib.hid (fun V => Tryz.cmp_Compare_int b a V)
  obtain ⟨r, hr⟩ : ∃ r, cmpL a b = r := ⟨_, rfl⟩
  have hor := cmpL_or a b
  rw [hr] at hor ⊢
  obtain ⟨x, hx⟩ : ∃ x, Lib.compareInt (absW a) (absW b) = x := ⟨_, rfl⟩
  obtain ⟨y, hy⟩ : ∃ y, Lib.compareInt b a = y := ⟨_, rfl⟩
  rw [hx] at h3 hor
  rw [hy] at h4 hor
  clear hx hy
  generalize absW a = aa at *
  generalize absW b = ab at *
  have hcO := Lib.hid (fun V k0 k1 => cmpOrL_any W.heap.size x y V k0 k1)
  rw [hor] at hcO
  clear hr hor
  go_enter Tryz.func143, Tryz.ntmps143
  go_wp2_with fail
  refine (h1.out _).mono ?_
  rintro e w1 ⟨rfl, rfl⟩
  go_wp2_with fail
  refine (h2.out _).mono ?_
  rintro e w1 ⟨rfl, rfl⟩
  go_wp2_with fail
  refine (h3.out _).mono ?_
  rintro e w1 ⟨rfl, hw⟩
  subst hw
  go_wp2_with fail
  refine (h4.out _).mono ?_
  rintro e w1 ⟨rfl, hw⟩
  subst hw
  go_wp2_with fail
  have k0 : (w1.alloc (.cells #[.int .i64 x, .int .i64 y] 3)).cell? ⟨w1.heap.size, 0, none⟩ = some (.int .i64 x) := cell_of_row _ _ _ _ _ _ (heap_alloc_new w1 _)
  have k1 : (w1.alloc (.cells #[.int .i64 x, .int .i64 y] 3)).cell? ⟨w1.heap.size, 1, none⟩ = some (.int .i64 y) := cell_of_row _ _ _ _ _ _ (heap_alloc_new w1 _)
  refine (hcO.out _ k0 k1).mono ?_
  rintro e w2 ⟨rfl, hw⟩
  clear k0 k1
  subst hw
  go_wp2_with fail
  go_ret
  exact ⟨rfl, 0, #[_], alloc_eq_grow _ _⟩

theorem ltL {x y : Int} : ltOf cmpL x y = true ↔ befL x y := by unfold ltOf; rw [decide_eq_true_eq, cmpL_neg]
theorem ltL_no {x y : Int} : ltOf cmpL x y = false ↔ ¬ befL x y := by rw [← ltL]; simp
theorem cmpL_swo : SWO (ltOf cmpL) where
  irrefl x := by rw [ltL_no]; unfold befL; omega
  trans x y z h1 h2 := by rw [ltL] at *; exact befL_trans h1 h2
  ntrans x y z h1 h2 := by rw [ltL_no] at *; unfold befL at *; omega

theorem sortFuncL_any (xs : List Int) (B : Option Addr) (cc : Nat) (w0 w : World) (ps : List Asn) (S : Sp w0 w (Own 3 1 (.slice B xs.length cc) xs.length (xs.map (.int .i64)) :: ps)) (hl : xs.length ≤ 1000000) :
    Calls Tryz.prog 142 #[.slice B xs.length cc, .func (.func 143) #[] #[]] w fun e w' => e = .returned (.tuple #[]) ∧ Sp w0 w' (Own 3 1 (.slice B xs.length cc) xs.length ((sortL xs).map (.int .i64)) :: ps) := by
  rcases Nat.eq_zero_or_pos xs.length with h0 | h0
  · obtain rfl : xs = [] := List.length_eq_zero_iff.1 h0
    refine (Tryz.slices_SortFunc_none B cc _ w).mono ?_
    rintro e w' ⟨rfl, rfl⟩
    refine ⟨rfl, ?_⟩
    unfold sortL
    rw [List.mergeSort_nil]
    exact S
  · have eg : ∀ args w, (callFunc 143 args).run Tryz.prog w = .ok (.enter 143 args) w := enters_of Tryz.func143 (by kernel_rfl) rfl
    obtain ⟨g, cap, cur, e1, h0', hg, hnc, hmx, hc, ht⟩ := own_block (S.own (i := 0) rfl) h0
    simp only [Value.slice.injEq] at e1
    obtain ⟨rfl, -, rfl⟩ := e1
    rw [Nat.mul_one] at ht
    have hH := holds_of_blockI hg ht
    have h := Any.slices_SortFunc_total Tryz.laysSlF6_f142 (Value.int .i64) (fun _ => rfl) cmpL cmpL_swo 143 #[] g 0 cc xs.toArray w eg (fun m os dk _ x y => compareLiterals_any x y _) hH (S.own (i := 0) rfl |> fun h => owns_lt h rfl) (by simp; omega) (fun x y h1 h2 => by
      rw [ltL_no] at h1 h2
      unfold befL at h1 h2
      omega)
    have hsz : xs.toArray.size = xs.length := by simp
    rw [hsz] at h
    refine Calls.mono h ?_
    rintro e w' ⟨rfl, n, os, rfl⟩
    refine ⟨rfl, ?_⟩
    have e2 : (xs.toArray.toList.mergeSort fun x y => !(ltOf cmpL) y x) = sortL xs := by
      unfold sortL ltOf; rfl
    rw [e2]
    exact S.own_push (i := 0) rfl (bb _) (ownsRow_sortedI (by unfold sortL; exact List.length_mergeSort _) (Nat.zero_le _) hg hnc hmx hc) (grownBy_sortedI _) (.inl rfl)
end Go.Proofs.YtahbepajeplcmaaGreatDoor

/- Contracts: the clause of literals, literals that are set, in the program. -/
namespace Go.Proofs.YtahbepajeplcmaaGreatDoor
open Go.RowKit

set_option maxRecDepth 100000 in
set_option maxHeartbeats 4000000 in
theorem clause_any (zs : List Int) (A : Option Addr) (cap : Nat) (w : World) (hx : IntsAt w A zs) (hz : ∀ x ∈ zs, LitS x) (hl : zs.length ≤ 2000) :
    Calls Tryz.prog 77 #[.slice A zs.length cap] w (OwnAns w (clauseR zs).isSome ((clauseR zs).getD [])) := by
  have hcl := Lib.hid (cloneA_any A cap zs w hx (by omega))
  have hsl : (sortL zs).length = zs.length := List.length_mergeSort _
  have hcpl := cptL_len zs
  have hlit := Lib.hid (fun x (h : x ∈ cptL zs) => hz x (cptL_mem.1 h))
  have hR : Hid (clauseR zs = if okTo (cptL zs) ((cptL zs).length - 1) then some (cptL zs) else none) := rfl
  have hcp : Hid (cptL zs = Lib.compact (sortL zs)) := rfl
  generalize clauseR zs = R at *
  replace hsl := Lib.hid hsl
  clear hx hz
  go_enter Tryz.func77, Tryz.ntmps77
  go_wp2_with fail
  refine hcl.out.mono ?_
  rintro e w1 ⟨D, dc, rfl, T⟩
  have hso := Lib.hid (sortFuncL_any zs D dc w w1 [] T (by omega))
  clear T hcl
  go_wp2_with fail
  refine hso.out.mono ?_
  rintro e w2 ⟨rfl, S2⟩
  rw [← hsl.out] at S2 ⊢
  have hsl2 : (sortL zs).length ≤ 1000000 := by rw [hsl.out]; omega
  have hco := Lib.hid (compactI_any _ D dc w _ [] S2 hsl2)
  rw [← hcp.out] at hco
  clear S2 hso hcp hsl2
  generalize sortL zs = sz at *
  replace hsl := Lib.hid hsl
  have hcl2 : (cptL zs).length ≤ 2000 := by omega
  clear hcpl
  generalize cptL zs = out at *
  go_wp2_with fail
  refine hco.out.mono ?_
  rintro e w3 ⟨rfl, S3⟩
  replace S3 := Lib.hid S3
  clear hco
  go_wp2_with fail
  go_loopw [5] (fun v5 wr => ∃ (k : Nat) (z : Int), k + 1 ≤ out.length + 1 ∧ 1 ≤ z ∧ z ≤ 3000 ∧ Hid ((k : Int) + 1 = z) ∧ v5 = .int .i64 z ∧ Hid (okTo out k = true) ∧ Hid (Sp w wr [Own 3 1 (.slice D out.length dc) out.length (out.map (.int .i64))])) (fun v5 _ => 4000 - (intOf v5).toNat)
  case atStart => exact ⟨0, 1, by omega, by decide, by decide, rfl, rfl, rfl, S3⟩
  case round =>
    clear S3
    obtain ⟨k, z, hk, hz1, hz2, hkz, rfl, hok, HS⟩ := hrel
    by_cases hlt : z < (out.length : Int)
    · have hk1 : k + 1 < out.length := by have := hkz.out; omega
      have hI := HS.out.ints (i := 0) rfl (fun x hx => (hlit.out x hx).i64)
      obtain ⟨b, off, rfl, m1⟩ := hI.at_ (k + 1) hk1
      obtain ⟨b', off', e1, m0⟩ := hI.at_ k (by omega)
      cases e1
      have k1 := cell_regrown m1
      have k0 := cell_regrown m0
      have hL1 := hlit.out _ (List.getElem_mem hk1)
      have hL0 := hlit.out _ (List.getElem_mem (show k < out.length by omega))
      have hneg : IntKind.i64.wrap (-out[k]) = -out[k] := IntWalk.i64_in _ (by unfold LitS at hL0; omega)
      have hzk : (z : Int) = ((k + 1 : Nat) : Int) := by have := hkz.out; omega
      have hyes := Lib.hid (fun (h : (out.getD (k + 1) 0 == -(out.getD k 0)) = true) => okTo_no (n := out.length - 1) (by omega) h)
      have hno := Lib.hid (fun (h : (out.getD (k + 1) 0 == -(out.getD k 0)) = false) => okTo_next hok.out h)
      have hg1 : out.getD (k + 1) 0 = out[k + 1] := by rw [List.getD_eq_getElem?_getD, List.getElem?_eq_getElem hk1]; rfl
      have hg0 : out.getD k 0 = out[k] := by rw [List.getD_eq_getElem?_getD, List.getElem?_eq_getElem (by omega)]; rfl
      rw [hg1, hg0] at hyes hno
      have hwz : IntKind.i64.wrap (((k + 1 : Nat) : Int) - 1) = (k : Int) := by rw [IntWalk.i64_in _ (by omega)]; omega
      have hwz2 : IntKind.i64.wrap (((k + 1 : Nat) : Int) + 1) = ((k + 1 + 1 : Nat) : Int) := by rw [IntWalk.i64_in _ (by omega)]; omega
      have hkz2 : Hid (((k + 1 : Nat) : Int) + 1 = ((k + 1 + 1 : Nat) : Int)) := rfl
      generalize out[k + 1] = y at *
      generalize out[k] = x at *
      subst hzk
      obtain ⟨q, hq⟩ : ∃ q, (y == -x) = q := ⟨_, rfl⟩
      rw [hq] at hyes hno
      clear m1 m0 hI hL1 hL0 hg1 hg0 hkz hok
      cases q
      · have hok2 := Lib.hid (hno.out rfl)
        clear hno hyes
        go_wp2_with fail
        refine wp_region_quiet_below (by kernel_rfl) (by kernel_rfl) ?_
        repeat (any_goals (go_big_quiet_step (fail)))
        refine wpQuiet_nil ?_
        rintro w4 ⟨p, rfl⟩
        have HS4 := Lib.hid (HS.out.grow (below_regrown _ p.d p.os))
        clear HS k0 k1
        go_wp2_with fail
        go_roundw
        case rel => exact ⟨k + 1, ((k + 1 + 1 : Nat) : Int), by omega, by omega, by omega, hkz2, rfl, hok2, HS4⟩
        case measure => simp [intOf]; omega
      · have hok2 := Lib.hid (hyes.out rfl)
        clear hno hyes
        go_wp2_with fail
        refine wp_region_quiet_below (by kernel_rfl) (by kernel_rfl) ?_
        repeat (any_goals (go_big_quiet_step (fail)))
        refine wpQuiet_nil ?_
        rintro w4 ⟨p, rfl⟩
        have HS4 := Lib.hid ((Sp.of_below (HS.out.grow (below_regrown _ p.d p.os)).below).own_nil 3 1)
        have hRn : Hid (R = none) := by unfold Hid; rw [hR.out, if_neg (by rw [hok2.out]; simp)]
        clear HS k0 k1 hR
        go_wp2_with fail
        go_ret2
        rw [hRn.out]
        exact ⟨none, 0, rfl, HS4.out⟩
    · have hRs : Hid (R = some out) := by
        unfold Hid
        rw [hR.out, if_pos]
        have h1 := hok.out
        have : out.length - 1 ≤ k := by have := hkz.out; omega
        unfold okTo at h1 ⊢
        rw [List.all_eq_true] at h1 ⊢
        exact fun i hi => h1 i (List.mem_range.2 (by have := List.mem_range.1 hi; omega))
      clear hR
      go_wp2_with fail
      go_ret2
      rw [hRs.out]
      exact ⟨D, dc, rfl, HS.out⟩
end Go.Proofs.YtahbepajeplcmaaGreatDoor

/- Contracts: literals set, assignments merged, on both sides. -/
namespace Go.Proofs.YtahbepajeplcmaaGreatDoor
open Go.RowKit

def mergeR (vars : Int) (a b : List Int) : Option (List Int) := if clauseB vars a && clauseB vars b then joinS a b else none
def setR (vars : Int) (a : List Int) (l : Int) : Option (List Int) := if clauseB vars a && litB vars l then some (setS a l) else none
theorem good_len_s {vars : Int} {c : List Int} (h : clauseB vars c = true) : c.length ≤ 1000 := (clause_s h).2
theorem isVarS_any (n x : Int) (w : World) : Calls Tryz.prog 82 #[.int .i64 n, .int .i64 x] w fun e w' => e = .returned (.bool (inB x 1 n)) ∧ w = w' := by
  obtain ⟨q, hq⟩ : ∃ q, inB x 1 n = q := ⟨_, rfl⟩
  have hc := Lib.hid (hq ▸ within_any x 1 n w)
  rw [hq]
  clear hq
  go_enter Tryz.func82, Tryz.ntmps82
  go_wp2_with fail
  refine hc.out.mono ?_
  rintro e w1 ⟨rfl, rfl⟩
  go_wp2_with fail
  go_ret
  exact ⟨rfl, rfl⟩

/- left out: the seat has no impl.mustClause -/

/- left out: the seat has no impl.set -/

/- left out: the seat has no spec.l3Set -/

/- left out: the seat has no impl.SetLiteral -/

/- left out: the seat has no spec.SetLiteral -/
end Go.Proofs.YtahbepajeplcmaaGreatDoor

/- Contracts: assignments merged, on both sides; extended, unset, and their bits, in the program. -/
namespace Go.Proofs.YtahbepajeplcmaaGreatDoor
open Go.RowKit

/- left out: the seat has no impl.MergeAssignments -/

/- left out: the seat has no spec.MergeAssignments -/

set_option maxHeartbeats 1000000 in
theorem part1_any (x : Int) (rb : Nat) (R : Option Addr) (rc : Nat) (rs : List Int) (w : World) (c0 : w.cell? ⟨rb, 0, none⟩ = some (.slice R rs.length rc)) (hR : IntsAt w R rs) (hl : rs.length ≤ 1000) :
    Calls Tryz.prog 151 #[.int .i64 x, .pointer (some ⟨rb, 0, none⟩)] w fun e w' => e = .returned (.bool (!hasI rs x)) ∧ Below w.heap.size w w' := by
  have hc := Lib.hid (containsIA_any rs R rc x w hR (by omega))
  clear hR
  go_enter Tryz.func151, Tryz.ntmps151
  go_wp2_with fail
  refine hc.out.mono ?_
  rintro e w1 ⟨rfl, rfl⟩
  go_wp2_with fail
  go_ret
  exact ⟨rfl, bb _⟩
set_option maxHeartbeats 1000000 in
theorem part_any (a b : List Int) (A B : Option Addr) (ac bc : Nat) (w : World) (hx : IntsAt w A a) (hy : IntsAt w B b) (la : a.length ≤ 1000) (lb : b.length ≤ 1000) :
    Calls Tryz.prog 86 #[.slice A a.length ac, .slice B b.length bc] w fun e w' => e = .returned (.bool (a.all (hasI b))) ∧ Below w.heap.size w w' := by
  have eg : Enter1 151 := enters_of Tryz.func151 (by kernel_rfl) rfl
  have S0 := (Sp.start w).alloc_box #[.slice B b.length bc] 43
  have c0 := S0.cell (i := 0) rfl (o := 0) rfl
  have hcon := Lib.hid (containsI_any (cb := #[.pointer (some ⟨w.heap.size, 0, none⟩)]) (p := fun x => !hasI b x) (R := fun _ => True) eg a A ac _ (hx.grow S0.below) (by omega) (fun _ _ => trivial) fun x W _ hb => part1_any x w.heap.size B bc b W (cell_below c0 hb) ((hy.grow S0.below).grow hb) lb)
  have hq : (a.all (hasI b)) = !(a.any fun x => !hasI b x) := by rw [List.all_eq_not_any_not]
  rw [hq]
  generalize (a.any fun x => !hasI b x) = q at *
  replace S0 := Lib.hid S0
  clear hx hy c0 hq
  go_enter Tryz.func86, Tryz.ntmps86
  go_wp2_with fail
  refine hcon.out.mono ?_
  rintro e w1 ⟨rfl, hb1⟩
  have hB := Lib.hid (S0.out.grow hb1).below
  clear hcon S0 hb1
  go_wp2_with fail
  go_ret
  exact ⟨rfl, hB.out⟩

/- left out: the seat has no impl.DoesExtend -/

/- left out: the seat has no impl.UnsetVar -/
end Go.Proofs.YtahbepajeplcmaaGreatDoor
