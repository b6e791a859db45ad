/- Lemmas and contracts for a law, put together out of several texts: AsB AsC AsD TcA MdK MdS PnC AsE AsF AsG AsH AsI LtF LtG AsJ PnN CyA CyB. -/
import Derived.Test.YtahbepajeplcmaaGreatDoorMg7
import Derived.Test.YtahbepajeplcmaaGreatDoorMg4
import Derived.Test.YtahbepajeplcmaaGreatDoorMg2
import Derived.Test.YtahbepajeplcmaaGreatDoorMg3
import Derived.Test.YtahbepajeplcmaaGreatDoorMg6
import Derived.Laws.BitsLemmas
import Derived.Test.YtahbepajeplcmaaGreatDoorShelfB
import Derived.Test.YtahbepajeplcmaaGreatDoorMg5
/- Plain facts: literals sorted by their variables, without repetitions. No program in sight. -/
namespace Go.Proofs.YtahbepajeplcmaaGreatDoor
open Go.RowKit

/-- The size of a number, as the program reckons it. -/
def absW (l : Int) : Int := if l < wrap64 (-l) then wrap64 (-l) else l
theorem absW_lit {l : Int} (h : LitS l) : absW l = absV l := by
  rw [h.abs]
  unfold LitS at h
  unfold absW wrap64
  split <;> split <;> omega
/-- The order of literals: by variables, the positive one first. -/
def cmpL (a b : Int) : Int := if absW a < absW b then -1 else if absW b < absW a then 1 else if b < a then -1 else if a < b then 1 else 0
def befL (x y : Int) : Prop := absW x < absW y ∨ (absW x = absW y ∧ y < x)
theorem cmpL_neg {x y : Int} : cmpL x y < 0 ↔ befL x y := by
  unfold cmpL befL
  split
  · simp; omega
  · split
    · simp; omega
    · split
      · simp; omega
      · split <;> simp <;> omega
theorem befL_trans {a b c : Int} (h : befL a b) (k : befL b c) : befL a c := by unfold befL at *; omega
theorem befL_or {x y : Int} (h : ¬ befL y x) : befL x y ∨ x = y := by unfold befL at *; omega
def sortL (zs : List Int) : List Int := zs.mergeSort fun x y => !decide (cmpL y x < 0)
theorem sortL_weak (zs : List Int) : (sortL zs).Pairwise fun a b => befL a b ∨ a = b := by
  have h := List.pairwise_mergeSort (le := fun x y : Int => !decide (cmpL y x < 0)) (fun a b c h1 h2 => by
    simp only [Bool.not_eq_true', decide_eq_false_iff_not, cmpL_neg] at *
    unfold befL at *; omega) (fun a b => by
    simp only [Bool.or_eq_true, Bool.not_eq_true', decide_eq_false_iff_not, cmpL_neg]
    unfold befL; omega) zs
  refine h.imp fun h => befL_or ?_
  simpa only [Bool.not_eq_true', decide_eq_false_iff_not, cmpL_neg] using h
theorem compactR_asc {R : Int → Int → Prop} (ht : ∀ a b c, R a b → R b c → R a c) {l : List Int} (h : l.Pairwise fun a b => R a b ∨ a = b) : (Lib.compact l).Pairwise R := by
  unfold Lib.compact Lib.compactUpTo
  rw [List.pairwise_map]
  have hr : ((List.range l.length).filter (Lib.keeps l.toArray)).Pairwise (· < ·) := List.Pairwise.filter _ List.pairwise_lt_range
  refine hr.imp_of_mem fun {i j} hi hj hij => ?_
  have hil := List.mem_range.1 (List.mem_filter.1 hi).1
  have hjl := List.mem_range.1 (List.mem_filter.1 hj).1
  have hk := (List.mem_filter.1 hj).2
  rw [bangI hil, bangI hjl]
  have hget := List.pairwise_iff_getElem.1 h
  have hne : l[j] ≠ l[j - 1]'(by omega) := fun e => by
    have : Lib.keeps l.toArray j = false := Lib.keeps_neg (by omega) (by rw [bangI hjl, bangI (by omega)]; exact e)
    rw [this] at hk; cases hk
  have h1 : R (l[j - 1]'(by omega)) l[j] := by
    rcases hget (j - 1) j (by omega) hjl (by omega) with h | h
    · exact h
    · exact absurd h.symm hne
  by_cases e : i = j - 1
  · subst e; exact h1
  · rcases hget i (j - 1) hil (by omega) (by omega) with h | h
    · exact ht _ _ _ h h1
    · rw [h]; exact h1
def cptL (zs : List Int) : List Int := Lib.compact (sortL zs)
theorem cptL_asc (zs : List Int) : (cptL zs).Pairwise befL := by
  unfold cptL
  exact compactR_asc (R := befL) (fun _ _ _ => befL_trans) (sortL_weak zs)
theorem cptL_mem {zs : List Int} {x : Int} : x ∈ cptL zs ↔ x ∈ zs := by unfold cptL sortL; rw [compactI_mem, List.mem_mergeSort]
theorem cptL_len (zs : List Int) : (cptL zs).length ≤ zs.length := by
  have := Lib.compact_length_le (sortL zs)
  unfold cptL
  have h2 : (sortL zs).length = zs.length := List.length_mergeSort _
  omega
/-- No literal is followed by its negation, up to a place. -/
def okTo (out : List Int) (k : Nat) : Bool := (List.range k).all fun i => !(out.getD (i + 1) 0 == -(out.getD i 0))
theorem okTo_next {out : List Int} {k : Nat} (h : okTo out k = true) (h2 : (out.getD (k + 1) 0 == -(out.getD k 0)) = false) : okTo out (k + 1) = true := by
  unfold okTo at *
  rw [List.range_succ, List.all_append, h, Bool.true_and]
  simp only [List.all_cons, List.all_nil, Bool.and_true, h2]
  rfl
theorem okTo_no {out : List Int} {k n : Nat} (hk : k < n) (h : (out.getD (k + 1) 0 == -(out.getD k 0)) = true) : okTo out n = false := by
  unfold okTo
  rw [List.all_eq_false]
  exact ⟨k, List.mem_range.2 hk, by rw [h]; decide⟩
/-- The clause of literals. -/
def clauseR (zs : List Int) : Option (List Int) := if okTo (cptL zs) ((cptL zs).length - 1) then some (cptL zs) else none
theorem clauseR_some {zs : List Int} (hl : ∀ x ∈ zs, LitS x) (hn : ∀ x ∈ zs, -x ∉ zs) : clauseR zs = some (cptL zs) ∧ GoodS (cptL zs) := by
  have hm : ∀ x ∈ cptL zs, LitS x := fun x hx => hl x (cptL_mem.1 hx)
  constructor
  · unfold clauseR
    rw [if_pos]
    unfold okTo
    rw [List.all_eq_true]
    intro i hi
    have hi := List.mem_range.1 hi
    have h1 : i + 1 < (cptL zs).length := by omega
    rw [List.getD_eq_getElem?_getD, List.getD_eq_getElem?_getD, List.getElem?_eq_getElem h1, List.getElem?_eq_getElem (by omega : i < (cptL zs).length)]
    simp only [Option.getD_some, Bool.not_eq_true', beq_eq_false_iff_ne]
    intro e
    refine hn _ (cptL_mem.1 (List.getElem_mem (by omega : i < (cptL zs).length))) ?_
    rw [← e]
    exact cptL_mem.1 (List.getElem_mem h1)
  · refine ⟨hm, ?_⟩
    refine (cptL_asc zs).imp_of_mem fun {a b} ha hb h => ?_
    have la := hm a ha; have lb := hm b hb
    unfold befL at h
    rw [absW_lit la, absW_lit lb] at h
    rcases h with h | ⟨h, h2⟩
    · exact h
    · exfalso
      have : b = -a := by
        rw [la.abs, lb.abs] at h
        unfold LitS at la lb
        split at h <;> split at h <;> omega
      refine hn a (cptL_mem.1 ha) ?_
      rw [← this]
      exact cptL_mem.1 hb
theorem clauseR_none {zs : List Int} (hl : ∀ x ∈ zs, LitS x) {y : Int} (hy : y ∈ zs) (hy2 : -y ∈ zs) : clauseR zs = none := by
  have hm : ∀ x ∈ cptL zs, LitS x := fun x hx => hl x (cptL_mem.1 hx)
  obtain ⟨x, hx, hx2, h0⟩ : ∃ x, x ∈ cptL zs ∧ -x ∈ cptL zs ∧ 0 < x := by
    have := hl y hy
    unfold LitS at this
    by_cases h : 0 < y
    · exact ⟨y, cptL_mem.2 hy, cptL_mem.2 hy2, h⟩
    · exact ⟨-y, cptL_mem.2 hy2, by rw [Int.neg_neg]; exact cptL_mem.2 hy, by omega⟩
  unfold clauseR
  rw [if_neg]
  obtain ⟨i, hi, rfl⟩ := List.getElem_of_mem hx
  obtain ⟨j, hj, e⟩ := List.getElem_of_mem hx2
  have hp := List.pairwise_iff_getElem.1 (cptL_asc zs)
  have lx := hm _ (List.getElem_mem hi)
  have habs : absW (-(cptL zs)[i]) = absW (cptL zs)[i] := by
    have l2 := hm _ hx2
    rw [absW_lit lx, absW_lit l2, lx.abs, l2.abs]
    split <;> split <;> omega
  have hij : i < j := by
    rcases Nat.lt_trichotomy i j with h | h | h
    · exact h
    · subst h; omega
    · have := hp j i hj hi h
      rw [e] at this
      unfold befL at this; omega
  have hjn : j = i + 1 := by
    rcases Nat.lt_or_ge (i + 1) j with h | h
    · exfalso
      have h1 := hp i (i + 1) hi (by omega) (by omega)
      have h2 := hp (i + 1) j (by omega) hj h
      rw [e] at h2
      have l3 := hm _ (List.getElem_mem (by omega : i + 1 < (cptL zs).length))
      have l2 := hm _ hx2
      unfold befL at h1 h2
      rw [absW_lit lx, absW_lit l3, lx.abs, l3.abs] at h1
      rw [absW_lit l3, absW_lit l2, l3.abs, l2.abs] at h2
      unfold LitS at l3
      split at h1 <;> split at h1 <;> split at h2 <;> omega
    · omega
  rw [Bool.not_eq_true]
  refine okTo_no (k := i) (by omega) ?_
  rw [List.getD_eq_getElem?_getD, List.getD_eq_getElem?_getD, List.getElem?_eq_getElem (by omega : i + 1 < (cptL zs).length), List.getElem?_eq_getElem hi]
  subst hjn
  simp only [Option.getD_some, beq_iff_eq]
  exact e
theorem clauseR_join {a b : List Int} (ga : GoodS a) (gb : GoodS b) : clauseR (a ++ b) = joinS a b := by
  have hl : ∀ x ∈ a ++ b, LitS x := fun x hx => by
    rcases List.mem_append.1 hx with h | h
    · exact ga.mem x h
    · exact gb.mem x h
  rcases joinS_spec ga gb with ⟨h1, l, hl2, hn⟩ | ⟨c, h1, gc, hm, hn⟩
  · rw [h1]
    exact clauseR_none hl (List.mem_append.2 (.inr hl2)) (List.mem_append.2 (.inl hn))
  · rw [h1]
    obtain ⟨h2, g2⟩ := clauseR_some hl fun x hx hx2 => by
      rcases List.mem_append.1 hx with h | h <;> rcases List.mem_append.1 hx2 with h' | h'
      · exact ga.clash h h'
      · exact hn _ h' (by rw [Int.neg_neg]; exact h)
      · exact hn x h h'
      · exact gb.clash h h'
    rw [h2]
    congr 1
    exact g2.ext gc fun x => by rw [cptL_mem, List.mem_append, hm]
theorem without_good {c : List Int} (h : GoodS c) (v : Int) : GoodS (withoutB c v) := ⟨fun l hl => h.mem l (List.mem_filter.1 hl).1, h.asc.filter _⟩
theorem memS_without {c : List Int} {v x : Int} : x ∈ withoutB c v ↔ x ∈ c ∧ absV x ≠ v := by
  unfold withoutB
  rw [List.mem_filter]
  simp
/-- A literal is set. -/
def setS (a : List Int) (l : Int) : List Int := putB (withoutB a (absV l)) l
theorem set_good {a : List Int} (ga : GoodS a) {l : Int} (hl : LitS l) : GoodS (setS a l) := (without_good ga _).put hl fun y hy => (memS_without.1 hy).2
theorem clauseR_set {a : List Int} (ga : GoodS a) {l : Int} (hl : LitS l) : clauseR (withoutB a (absV l) ++ [l]) = some (setS a l) := by
  have gw := without_good ga (absV l)
  have habs : absV (-l) = absV l := by
    have h2 : LitS (-l) := by unfold LitS at *; omega
    rw [hl.abs, h2.abs]; split <;> split <;> omega
  obtain ⟨h2, g2⟩ := clauseR_some (zs := withoutB a (absV l) ++ [l]) (fun x hx => by
    rcases List.mem_append.1 hx with h | h
    · exact gw.mem x h
    · obtain rfl : x = l := by simpa using h
      exact hl) fun x hx hx2 => by
    rcases List.mem_append.1 hx with h | h <;> rcases List.mem_append.1 hx2 with h' | h'
    · exact gw.clash h h'
    · have e : -x = l := by simpa using h'
      have : x = -l := by omega
      subst this
      exact (memS_without.1 h).2 habs
    · obtain rfl : x = l := by simpa using h
      exact (memS_without.1 h').2 habs
    · obtain rfl : x = l := by simpa using h
      have e : -x = x := by simpa using h'
      unfold LitS at hl; omega
  rw [h2]
  congr 1
  exact g2.ext (set_good ga hl) fun x => by
    unfold setS
    rw [cptL_mem, memS_putB, List.mem_append]
    simp [or_comm]
end Go.Proofs.YtahbepajeplcmaaGreatDoor

/- Contract: clauses joined, in the reference, to the word. -/
namespace Go.Proofs.YtahbepajeplcmaaGreatDoor
open Go.RowKit

theorem joinS_no {out b : List Int} {l : Int} (h : hasI out (-l) = true) : joinS out (l :: b) = none := by unfold joinS; rw [if_pos h]
theorem joinS_has {out b : List Int} {l : Int} (h : hasI out (-l) = false) (h2 : hasI out l = true) : joinS out (l :: b) = joinS out b := by rw [joinS, if_neg (by rw [h]; simp), if_pos h2]
theorem joinS_put {out b : List Int} {l : Int} (h : hasI out (-l) = false) (h2 : hasI out l = false) : joinS out (l :: b) = joinS (putB out l) b := by rw [joinS, if_neg (by rw [h]; simp), if_neg (by rw [h2]; simp)]

set_option maxRecDepth 100000 in
set_option maxHeartbeats 4000000 in
theorem l2JoinS_any (v u : Value) (a b : List Int) (F G : List Nat) (w : World) (hx : Ty.int.row false w v a F) (hy : Ty.int.row false w u b G) (wa : Within 1000 a) (wb : Within 1000 b) (la : a.length ≤ 1000) (lb : b.length ≤ 1000) :
    Calls Tryz.prog 81 #[v, u] w (IAns w (joinS a b).isSome ((joinS a b).getD [])) := by
  obtain ⟨aa, ac, rfl, _, _⟩ := Ty.row_len hx
  obtain ⟨ba, bc, rfl, hy1, hy2, _, hy3⟩ := row_int hy
  go_enter Tryz.func81, Tryz.ntmps81
  go_wp2_with fail
  refine (l1Own_any _ a F w hx (by omega)).mono ?_
  rintro e w1 ⟨v1, rfl, ho1, hb1⟩
  have S0 := (Sp.start w).own_call hb1 ho1
  obtain ⟨a1, c1, rfl⟩ := owns_form ho1
  replace S0 := Lib.hid S0
  have hW0 := Lib.hid wa
  have hj0 : Hid (joinS a (b.drop 0) = joinS a b) := by unfold Hid; rw [List.drop_zero]
  clear ho1 hb1
  go_wp2_with fail
  go_loopw [6, 7] (fun s i wr => ∃ (k : Nat) (out : List Int), k ≤ b.length ∧ i = .int .i64 k ∧ out.length ≤ a.length + k ∧ Hid (Within 1000 out) ∧ Hid (joinS out (b.drop k) = joinS a b) ∧ Hid (Sp w wr [Own 3 1 s out.length (out.map (.int .i64))])) (fun _ i _ => b.length - (intOf i).toNat)
  case atStart => exact ⟨0, a, Nat.zero_le _, rfl, by omega, hW0, hj0, S0⟩
  case round =>
    obtain ⟨k, out, hk, rfl, hol, HW, HJ, HS⟩ := hrel
    clear hj0
    clear S0
    obtain ⟨sa, sc, rfl⟩ := owns_form (HS.out.own (i := 0) rfl)
    by_cases hlt : k < b.length
    · rcases hy3 with ⟨rfl, rfl⟩ | ⟨hyn, bk, off, rfl, rfl, hyc⟩
      · exact absurd hlt (by simp)
      have hB := HS.out.below
      have k0 := ((hyc k hlt).keep (hB.block bk (hyc k hlt).lt)).1
      have hl6 := wb _ (List.getElem_mem hlt)
      obtain ⟨H, hrow', -, -⟩ := own_row (HS.out.own (i := 0) rfl) (HW.out.i64 (by decide))
      have hrow := Ty.row_down hrow'
      have hd := List.drop_eq_getElem_cons hlt
      obtain ⟨l, hl⟩ : ∃ l, l = b[k] := ⟨_, rfl⟩
      rw [← hl] at k0 hl6 hd
      have HJ2 := HJ.out
      rw [hd] at HJ2
      replace hd := Lib.hid hd
      have hneg : wrap64 (-l) = -l := by unfold wrap64; omega
      have hl0 : -1000 ≤ l := hl6.1
      have hl1 : l ≤ 1000 := hl6.2
      replace hl := Lib.hid hl
      clear hyc hB hl hl6 hrow'
      cases hq : hasI out (-l)
      · cases hq2 : hasI out l
        · rw [joinS_put hq hq2] at HJ2
          replace HJ2 := Lib.hid HJ2
          have HN := Lib.hid (within_put HW.out ⟨hl0, hl1⟩)
          have hpl := Lib.hid (put_len out l)
          have hol9 : out.length ≤ 1000000000 := by omega
          go_wp2_with (first
            | (go_at_call 146; (first | (with_reducible refine (l2Has_at hrow hq).mono ?_) | (with_reducible refine (l2Has_at hrow hq2).mono ?_)); rintro e w2 ⟨rfl, rfl⟩)
            | (go_at_call 147; (with_reducible refine (l2Put_any _ out l H _ hrow hol9).mono ?_); rintro e w2 ⟨v2, rfl, ho2, hb2⟩))
          have S1 := (HS.out.own_call hb2 ho2).drop2w
          obtain ⟨a2, c2, rfl⟩ := owns_form ho2
          replace S1 := Lib.hid S1
          clear ho2 hb2 HS hrow HJ hd
          generalize putB out l = out2 at *
          go_wp2_with fail
          go_roundw
          case rel => exact ⟨k + 1, out2, by omega, by go_num, by rw [hpl.out]; omega, HN, HJ2, S1⟩
          case measure => simp [intOf]; omega
        · rw [joinS_has hq hq2] at HJ2
          replace HJ2 := Lib.hid HJ2
          clear HJ hd
          go_wp2_with (first
            | (go_at_call 146; (first | (with_reducible refine (l2Has_at hrow hq).mono ?_) | (with_reducible refine (l2Has_at hrow hq2).mono ?_)); rintro e w2 ⟨rfl, rfl⟩))
          go_roundw
          case rel => exact ⟨k + 1, out, by omega, by go_num, by omega, HW, HJ2, HS⟩
          case measure => simp [intOf]; omega
      · rw [joinS_no hq] at HJ2
        replace HJ2 := Lib.hid HJ2
        clear HJ hd
        go_wp2_with (first
          | (go_at_call 146; (first | (with_reducible refine (l2Has_at hrow hq).mono ?_)); rintro e w2 ⟨rfl, rfl⟩))
        have S1 := Lib.hid (HS.out.own_made 3 1)
        go_ret2
        rw [← HJ2.out]
        exact ⟨_, _, rfl, IntsAt.nil _ _, S1.out.below⟩
    · obtain rfl : k = b.length := by omega
      have HJ2 := HJ.out
      rw [List.drop_length] at HJ2
      replace HJ2 := Lib.hid HJ2
      clear HJ
      go_wp2_with fail
      go_ret2
      rw [← HJ2.out]
      exact ⟨_, _, rfl, HS.out.ints (i := 0) rfl (HW.out.i64 (by decide)), HS.out.below⟩

end Go.Proofs.YtahbepajeplcmaaGreatDoor

/- Contracts: two rows of numbers put together, in the library; a variable left out of a clause, in the program. -/
namespace Go.Proofs.YtahbepajeplcmaaGreatDoor
open Go.RowKit Go.Shelf

/- left out: the seat has no slices.Grow[[]int,int] -/

/- left out: the seat has no slices.Grow[[]int,int] -/

/- left out: the seat has no slices.Concat[[]int,int] -/

set_option maxHeartbeats 1000000 in
theorem withoutVar1_any (l v : Int) (hl : LitS l) (b : Nat) (w : World) (c0 : w.cell? ⟨b, 0, none⟩ = some (.int .i64 v)) :
    Calls Tryz.prog 149 #[.int .i64 l, .pointer (some ⟨b, 0, none⟩)] w fun e w' => e = .returned (.bool (absV l == v)) ∧ Below w.heap.size w w' := by
  obtain ⟨x, hx⟩ : ∃ x, absV l = x := ⟨_, rfl⟩
  have habs := Lib.hid (fun W => abs_at hl.i64 hx W)
  rw [hx]
  have k0 := cell_regrown c0
  clear hx c0
  go_enter Tryz.func149, Tryz.ntmps149
  go_wp2_with fail
  refine wp_region_quiet_below (by kernel_rfl) (by kernel_rfl) ?_
  repeat (any_goals (first | go_big_quiet_step ((go_at_call 84; exact Calls.regrown_of (habs.out _)))))
  refine wpQuiet_nil ?_
  rintro w3 ⟨p, rfl⟩
  have hB := Lib.hid (below_regrown w p.d p.os)
  clear k0
  go_wp2_with fail
  go_ret
  exact ⟨rfl, hB.out⟩

set_option maxHeartbeats 1000000 in
theorem withoutVar_any (c : List Int) (A : Option Addr) (cap : Nat) (v : Int) (w : World) (hx : IntsAt w A c) (hc : ∀ l ∈ c, LitS l) (hl : c.length ≤ 1000) :
    Calls Tryz.prog 83 #[.slice A c.length cap, .int .i64 v] w (OneI w (withoutB c v)) := by
  have eg : Enter1 149 := enters_of Tryz.func149 (by kernel_rfl) rfl
  have S0 := (Sp.start w).alloc_box #[.int .i64 v] 3
  have hcl := Lib.hid (cloneA_any A cap c _ (hx.grow S0.below) (by omega))
  have hok := Lib.hid hx.ok
  have hcH := Lib.hid hc
  replace S0 := Lib.hid S0
  obtain ⟨zs, hzs⟩ : ∃ zs, withoutB c v = zs := ⟨_, rfl⟩
  rw [hzs]
  unfold withoutB at hzs
  replace hzs := Lib.hid hzs
  clear hx hc
  go_enter Tryz.func83, Tryz.ntmps83
  go_wp2_with fail
  refine hcl.out.mono ?_
  rintro e w1 ⟨D, dc, rfl, T⟩
  have S1 : Sp w w1 [Own 3 1 (.slice D c.length dc) c.length (c.map (.int .i64)), Box w.heap.size 3 #[.int .i64 v]] := S0.out.seq T
  have hdel := Lib.hid (deleteFuncI_any (cb := #[.pointer (some ⟨w.heap.size, 0, none⟩)]) (p := fun l => absV l == v) (R := LitS) eg c D dc w w1 _ S1 hok.out (by omega) hcH.out fun x ys W hR SW => withoutVar1_any x v hR w.heap.size W (SW.cell (i := 1) rfl (o := 0) rfl))
  rw [hzs.out] at hdel
  clear S0 S1 T hcl
  go_wp2_with fail
  refine hdel.out.mono ?_
  rintro e w2 ⟨rfl, S8, -⟩
  have S9 := Lib.hid (S8.pick (qs := [Own 3 1 (.slice D zs.length dc) zs.length (zs.map (.int .i64))]) [0] rfl)
  clear S8 hdel
  go_wp2_with fail
  go_ret
  exact ⟨D, dc, rfl, S9.out⟩
end Go.Proofs.YtahbepajeplcmaaGreatDoor

/- Contracts: total assignments and the value of a clause, in the reference. -/
namespace Go.Proofs.YtahbepajeplcmaaGreatDoor
open Go.RowKit

/-- The total assignment of bits. -/
def totI (b i : Nat) : Int := if b.testBit i then (i : Int) + 1 else -((i : Int) + 1)
def totB (n b : Nat) : List Int := (List.range n).map (totI b)
theorem tot_len (n b : Nat) : (totB n b).length = n := by simp [totB]
theorem tot_snoc (n b : Nat) : totB (n + 1) b = totB n b ++ [totI b n] := by simp [totB, List.range_succ]
theorem tot_ok (n b : Nat) (hn : n ≤ 1000) : ∀ x ∈ totB n b, I64 x := by
  intro x hx
  obtain ⟨i, hi, rfl⟩ := List.mem_map.1 hx
  have := List.mem_range.1 hi
  unfold totI I64
  split <;> omega
theorem has_tot {n b : Nat} {l : Int} (h0 : l ≠ 0) (h1 : -(n : Int) ≤ l) (h2 : l ≤ n) : hasI (totB n b) l = litT b l := by
  unfold hasI litT
  rw [Bool.eq_iff_iff, List.contains_iff_mem]
  constructor
  · intro hm
    obtain ⟨i, hi, he⟩ := List.mem_map.1 hm
    unfold totI at he
    by_cases ht : b.testBit i = true
    · rw [if_pos ht] at he
      rw [show l.natAbs - 1 = i by omega, ht, decide_eq_true (by omega)]; rfl
    · rw [if_neg ht] at he
      rw [show l.natAbs - 1 = i by omega, Bool.eq_false_iff.2 ht, decide_eq_false (by omega)]; rfl
  · intro hb
    refine List.mem_map.2 ⟨l.natAbs - 1, List.mem_range.2 (by omega), ?_⟩
    unfold totI
    by_cases hp : 0 < l
    · rw [decide_eq_true hp] at hb
      have : b.testBit (l.natAbs - 1) = true := by simpa using hb
      rw [if_pos this]; omega
    · rw [decide_eq_false hp] at hb
      have : b.testBit (l.natAbs - 1) = false := by simpa using hb
      rw [this, if_neg (by simp)]; omega

/- left out: the seat has no spec.l3Total -/

/-- What l3Value tells. -/
def valP (c a : List Int) (e : Ending) : Prop := ∃ z : Int, e = .returned (.int .i64 z) ∧ (z == 1) = c.any (hasI a)
/- left out: the seat has no spec.l3Value -/
end Go.Proofs.YtahbepajeplcmaaGreatDoor

/- Contract: total assignments in the program. -/
namespace Go.Proofs.YtahbepajeplcmaaGreatDoor
open Go.RowKit

/- left out: the seat has no impl.total -/
end Go.Proofs.YtahbepajeplcmaaGreatDoor

/- Contract: the backbone of a Cnf, in the program. -/
namespace Go.Proofs.YtahbepajeplcmaaGreatDoor
open Go.RowKit

/-- The literals of a model that are true for all models up to k. -/
def keepK (n : Nat) (xss : List (List Int)) (f k : Nat) : List Int := (totB n f).filter fun l => (mods (modT xss) k).all fun b => litT b l
theorem mods_no {p : Nat → Bool} {k : Nat} (h : p k = false) : mods p (k + 1) = mods p k := by simp [mods, List.range_succ, List.filter_append, h]
theorem mods_yes {p : Nat → Bool} {k : Nat} (h : p k = true) : mods p (k + 1) = mods p k ++ [k] := by simp [mods, List.range_succ, List.filter_append, h]
theorem keep_no {n f k : Nat} {xss : List (List Int)} (h : modT xss k = false) : keepK n xss f (k + 1) = keepK n xss f k := by unfold keepK; rw [mods_no h]
theorem keep_yes {n f k : Nat} {xss : List (List Int)} (h : modT xss k = true) : keepK n xss f (k + 1) = (keepK n xss f k).filter fun l => !(!litT k l) := by
  unfold keepK
  rw [mods_yes h, List.filter_filter]
  congr 1
  funext l
  rw [List.all_append, Bool.and_comm]
  simp
theorem keep_zero (n f : Nat) (xss : List (List Int)) : keepK n xss f 0 = totB n f := by
  unfold keepK
  rw [List.filter_eq_self]
  intro l _
  rfl
theorem keep_len (n : Nat) (xss : List (List Int)) (f k : Nat) : (keepK n xss f k).length ≤ n := Nat.le_trans (List.length_filter_le _ _) (by rw [tot_len]; exact Nat.le_refl _)
theorem tot_lit {n f : Nat} (hn : n ≤ 12) : ∀ l ∈ totB n f, LitS l := by
  intro l hl
  obtain ⟨i, hi, rfl⟩ := List.mem_map.1 hl
  have := List.mem_range.1 hi
  unfold totI LitS
  split <;> omega
theorem keep_lit {n f k : Nat} (hn : n ≤ 12) {xss : List (List Int)} : ∀ l ∈ keepK n xss f k, LitS l := fun l hl => tot_lit hn l (List.mem_filter.1 hl).1
theorem keep_bone_k (n : Nat) (xss : List (List Int)) (f : Nat) (hf : f ∈ mods (modT xss) (2 ^ n)) : ∀ k, (totB k f).filter (fun l => (mods (modT xss) (2 ^ n)).all fun b => litT b l) = boneTo n xss k
  | 0 => rfl
  | k + 1 => by
    rw [tot_snoc, List.filter_append, keep_bone_k n xss f hf k, bone_next]
    congr 1
    have himp : ∀ x, impB n xss [x] = (mods (modT xss) (2 ^ n)).all fun b => litT b x := fun x => by
      rw [imp_mods]
      congr 1
      funext b
      exact cl_one x b
    rw [himp, himp]
    unfold totI
    have hp : ∀ (q : Bool), f.testBit k = q → ((mods (modT xss) (2 ^ n)).all fun b => litT b ((k : Int) + 1)) = true → q = true := fun q hq h => by
      have := List.all_eq_true.1 h f hf
      rw [lit_pos, hq] at this
      exact this
    have hm : ∀ (q : Bool), f.testBit k = q → ((mods (modT xss) (2 ^ n)).all fun b => litT b (-((k : Int) + 1))) = true → q = false := fun q hq h => by
      have := List.all_eq_true.1 h f hf
      rw [lit_neg, hq] at this
      simpa using this
    cases hq : f.testBit k
    · have h1 : ((mods (modT xss) (2 ^ n)).all fun b => litT b ((k : Int) + 1)) = false := by
        cases h : ((mods (modT xss) (2 ^ n)).all fun b => litT b ((k : Int) + 1))
        · rfl
        · exact absurd (hp _ hq h) (by simp)
      rw [h1]
      cases h2 : ((mods (modT xss) (2 ^ n)).all fun b => litT b (-((k : Int) + 1)))
      · simp [List.filter, h2]
      · simp [List.filter, h2]
    · have h1 : ((mods (modT xss) (2 ^ n)).all fun b => litT b (-((k : Int) + 1))) = false := by
        cases h : ((mods (modT xss) (2 ^ n)).all fun b => litT b (-((k : Int) + 1)))
        · rfl
        · exact absurd (hm _ hq h) (by simp)
      rw [h1]
      cases h2 : ((mods (modT xss) (2 ^ n)).all fun b => litT b ((k : Int) + 1))
      · simp [List.filter, h2]
      · simp [List.filter, h2]
theorem keep_bone {n : Nat} {xss : List (List Int)} {f : Nat} (h1 : f < 2 ^ n) (h2 : modT xss f = true) : keepK n xss f (2 ^ n) = boneTo n xss n :=
  keep_bone_k n xss f (List.mem_filter.2 ⟨List.mem_range.2 h1, h2⟩) n
theorem idx_model {p : Nat → Bool} {N : Nat} (h : (List.range N).any p = true) : ∃ f : Nat, idxP p (List.range N) = (f : Int) ∧ f < N ∧ p f = true := by
  have hlt : (List.range N).findIdx p < (List.range N).length := List.findIdx_lt_length_of_exists (by simpa using List.any_eq_true.1 h)
  refine ⟨(List.range N).findIdx p, by unfold idxP; rw [if_pos h], by simpa using hlt, ?_⟩
  have := List.findIdx_getElem (w := hlt)
  simpa using this

/- left out: the seat has no impl.BackboneOf$1$1 -/

/- left out: the seat has no impl.BackboneOf$1 -/

/-- What is left of the first model's literals before k. -/
def BoneP (w : World) (n : Nat) (xss : List (List Int)) (f o m fb : Nat) (fcs : Array Value) (k : Nat) (V : World) : Prop :=
  ∃ (ts : List Int) (B : Option Addr) (cc : Nat), ts = keepK n xss f k ∧ (∀ g, (Value.slice B ts.length cc).ownBlock = some g → g ≠ m) ∧
    Sp w V [Own 3 1 (.slice B ts.length cc) ts.length (ts.map (.int .i64)), Box o 43 #[.slice B ts.length cc], Box fb 61 fcs]

/- left out: the seat has no impl.BackboneOf -/
end Go.Proofs.YtahbepajeplcmaaGreatDoor

/- Contracts: inequalities over bits, in the program. -/
namespace Go.Proofs.YtahbepajeplcmaaGreatDoor
open Go.RowKit

theorem within_at {x a b : Int} {q : Bool} (h : inB x a b = q) (w : World) : Calls Tryz.prog 57 #[.int .i64 x, .int .i64 a, .int .i64 b] w fun e w' => e = .returned (.bool q) ∧ w = w' := h ▸ within_any x a b w
theorem varsOk_at {x : Int} {q : Bool} (h : inB x 0 12 = q) (w : World) : Calls Tryz.prog 85 #[.int .i64 x] w fun e w' => e = .returned (.bool q) ∧ w = w' := h ▸ varsOk_any x w
/- left out: the seat has no impl.IsInequality$1 -/

/- left out: the seat has no impl.IsInequality -/

/- left out: the seat has no impl.planeHolds -/
end Go.Proofs.YtahbepajeplcmaaGreatDoor

/- Contracts: total assignments and their bits, on both sides. -/
namespace Go.Proofs.YtahbepajeplcmaaGreatDoor
open Go.RowKit

/-- A row of the call's own, and whether it is told. -/
def OwnAns (w : World) (ok : Bool) (zs : List Int) (e : Ending) (w' : World) : Prop := ∃ D dc, e = .returned (.tuple #[.slice D zs.length dc, .bool ok]) ∧ Sp w w' [Own 3 1 (.slice D zs.length dc) zs.length (zs.map (.int .i64))]
def totOk (vars bits : Int) : Bool := inB vars 0 12 && inB bits 0 (((2 ^ vars.toNat : Nat) : Int) - 1)
def totL (vars bits : Int) : List Int := if totOk vars bits then totB vars.toNat bits.toNat else []
theorem totOk_parts {vars bits : Int} (h : totOk vars bits = true) : 0 ≤ vars ∧ vars ≤ 12 ∧ 0 ≤ bits ∧ bits.toNat < 2 ^ vars.toNat := by
  unfold totOk at h
  rw [Bool.and_eq_true, inB_true, inB_true] at h
  have h1 : 1 ≤ 2 ^ vars.toNat := Nat.one_le_two_pow
  omega

/- left out: the seat has no impl.TotalOf -/

/- left out: the seat has no spec.TotalOf -/
end Go.Proofs.YtahbepajeplcmaaGreatDoor

/- Contracts: literals compared and sorted, and the clause of literals, in the program. -/
namespace Go.Proofs.YtahbepajeplcmaaGreatDoor
open Go.RowKit Go.Sort

def orL (x y : Int) : Int := if x = 0 then y else x
theorem cmpL_or (a b : Int) : orL (Lib.compareInt (absW a) (absW b)) (Lib.compareInt b a) = cmpL a b := by
  unfold orL cmpL Lib.compareInt
  by_cases h1 : absW a < absW b
  · simp [h1]
  · by_cases h2 : absW b < absW a
    · simp [h1, h2]
    · simp [h1, h2]
set_option maxHeartbeats 400000 in
theorem absW_any (l : Int) (w : World) : Calls Tryz.prog 84 #[.int .i64 l] w fun e w' => e = .returned (.int .i64 (absW l)) ∧ w = w' := by
  have hd : Hid (absW l = if l < wrap64 (-l) then wrap64 (-l) else l) := rfl
  go_enter Tryz.func84, Tryz.ntmps84
  by_cases h : l < wrap64 (-l)
  · go_wp2
    go_ret
    exact ⟨ret_int (by first | (rw [hd.out, if_pos h]; done) | (rw [hd.out, if_pos h]; exact Int.max_eq_right (Int.le_of_lt h))), rfl⟩
  · go_wp2
    go_ret
    exact ⟨ret_int (by first | (rw [hd.out, if_neg (Int.not_lt.mpr h)]; done) | (rw [hd.out, if_neg (by omega)]; exact Int.max_eq_left (by omega))), rfl⟩
set_option maxHeartbeats 1000000 in
theorem cmpOrL_any (b : Nat) (x y : Int) (w : World) (k0 : w.cell? ⟨b, 0, none⟩ = some (.int .i64 x)) (k1 : w.cell? ⟨b, 1, none⟩ = some (.int .i64 y)) :
    Calls Tryz.prog 132 #[.slice (some ⟨b, 0, none⟩) 2 2] w fun e w' => e = .returned (.int .i64 (orL x y)) ∧ w = w' := by
  by_cases hx : x = 0
  · have hR : Hid (orL x y = y) := by unfold Hid orL; rw [if_pos hx]
    subst hx
    by_cases hy : y = 0
    · subst hy
      go_enter Tryz.func132, Tryz.ntmps132
      go_wp2_with fail
      refine wp_loop_rounds 3 ?_
      rw [rounds_succ]
      go_wp2_with fail
      rw [rounds_succ]
      go_wp2_with fail
      rw [rounds_succ]
      go_wp2_with fail
      go_ret
      exact ⟨ret_int hR.out.symm, rfl⟩
    · have hy2 : (y != 0) = true := by simpa using hy
      go_enter Tryz.func132, Tryz.ntmps132
      go_wp2_with fail
      refine wp_loop_rounds 3 ?_
      rw [rounds_succ]
      go_wp2_with fail
      rw [rounds_succ]
      go_wp2_with fail
      go_ret
      exact ⟨ret_int hR.out.symm, rfl⟩
  · have hR : Hid (orL x y = x) := by unfold Hid orL; rw [if_neg hx]
    have hx2 : (x != 0) = true := by simpa using hx
    go_enter Tryz.func132, Tryz.ntmps132
    go_wp2_with fail
    refine wp_loop_rounds 3 ?_
    rw [rounds_succ]
    go_wp2_with fail
    go_ret
    exact ⟨ret_int hR.out.symm, rfl⟩

set_option maxHeartbeats 1000000 in
theorem compareLiterals_any (a b : Int) (W : World) :
    Calls Tryz.prog 143 #[.int .i64 a, .int .i64 b] W fun e w' => e = .returned (.int .i64 (cmpL a b)) ∧ ∃ q os, w' = grow (W.drewN q) os := by
  have h1 := Lib.hid (fun V => absW_any a V)
  have h2 := Lib.hid (fun V => absW_any b V)
  have h3 := Lib.hid (fun V => Tryz.cmp_Compare_int (absW a) (absW b) V)
  have h4 := Lib.hid (fun V => Tryz.cmp_Compare_int b a V)
  obtain ⟨r, hr⟩ : ∃ r, cmpL a b = r := ⟨_, rfl⟩
  have hor := cmpL_or a b
  rw [hr] at hor ⊢
  obtain ⟨x, hx⟩ : ∃ x, Lib.compareInt (absW a) (absW b) = x := ⟨_, rfl⟩
  obtain ⟨y, hy⟩ : ∃ y, Lib.compareInt b a = y := ⟨_, rfl⟩
  rw [hx] at h3 hor
  rw [hy] at h4 hor
  clear hx hy
  generalize absW a = aa at *
  generalize absW b = ab at *
  have hcO := Lib.hid (fun V k0 k1 => cmpOrL_any W.heap.size x y V k0 k1)
  rw [hor] at hcO
  clear hr hor
  go_enter Tryz.func143, Tryz.ntmps143
  go_wp2_with fail
  refine (h1.out _).mono ?_
  rintro e w1 ⟨rfl, rfl⟩
  go_wp2_with fail
  refine (h2.out _).mono ?_
  rintro e w1 ⟨rfl, rfl⟩
  go_wp2_with fail
  refine (h3.out _).mono ?_
  rintro e w1 ⟨rfl, hw⟩
  subst hw
  go_wp2_with fail
  refine (h4.out _).mono ?_
  rintro e w1 ⟨rfl, hw⟩
  subst hw
  go_wp2_with fail
  have k0 : (w1.alloc (.cells #[.int .i64 x, .int .i64 y] 3)).cell? ⟨w1.heap.size, 0, none⟩ = some (.int .i64 x) := cell_of_row _ _ _ _ _ _ (heap_alloc_new w1 _)
  have k1 : (w1.alloc (.cells #[.int .i64 x, .int .i64 y] 3)).cell? ⟨w1.heap.size, 1, none⟩ = some (.int .i64 y) := cell_of_row _ _ _ _ _ _ (heap_alloc_new w1 _)
  refine (hcO.out _ k0 k1).mono ?_
  rintro e w2 ⟨rfl, hw⟩
  clear k0 k1
  subst hw
  go_wp2_with fail
  go_ret
  exact ⟨rfl, 0, #[_], alloc_eq_grow _ _⟩

theorem ltL {x y : Int} : ltOf cmpL x y = true ↔ befL x y := by unfold ltOf; rw [decide_eq_true_eq, cmpL_neg]
theorem ltL_no {x y : Int} : ltOf cmpL x y = false ↔ ¬ befL x y := by rw [← ltL]; simp
theorem cmpL_swo : SWO (ltOf cmpL) where
  irrefl x := by rw [ltL_no]; unfold befL; omega
  trans x y z h1 h2 := by rw [ltL] at *; exact befL_trans h1 h2
  ntrans x y z h1 h2 := by rw [ltL_no] at *; unfold befL at *; omega

theorem sortFuncL_any (xs : List Int) (B : Option Addr) (cc : Nat) (w0 w : World) (ps : List Asn) (S : Sp w0 w (Own 3 1 (.slice B xs.length cc) xs.length (xs.map (.int .i64)) :: ps)) (hl : xs.length ≤ 1000000) :
    Calls Tryz.prog 142 #[.slice B xs.length cc, .func (.func 143) #[] #[]] w fun e w' => e = .returned (.tuple #[]) ∧ Sp w0 w' (Own 3 1 (.slice B xs.length cc) xs.length ((sortL xs).map (.int .i64)) :: ps) := by
  rcases Nat.eq_zero_or_pos xs.length with h0 | h0
  · obtain rfl : xs = [] := List.length_eq_zero_iff.1 h0
    refine (Tryz.slices_SortFunc_none B cc _ w).mono ?_
    rintro e w' ⟨rfl, rfl⟩
    refine ⟨rfl, ?_⟩
    unfold sortL
    rw [List.mergeSort_nil]
    exact S
  · have eg : ∀ args w, (callFunc 143 args).run Tryz.prog w = .ok (.enter 143 args) w := enters_of Tryz.func143 (by kernel_rfl) rfl
    obtain ⟨g, cap, cur, e1, h0', hg, hnc, hmx, hc, ht⟩ := own_block (S.own (i := 0) rfl) h0
    simp only [Value.slice.injEq] at e1
    obtain ⟨rfl, -, rfl⟩ := e1
    rw [Nat.mul_one] at ht
    have hH := holds_of_blockI hg ht
    have h := Any.slices_SortFunc_total Tryz.laysSlF6_f142 (Value.int .i64) (fun _ => rfl) cmpL cmpL_swo 143 #[] g 0 cc xs.toArray w eg (fun m os dk _ x y => compareLiterals_any x y _) hH (S.own (i := 0) rfl |> fun h => owns_lt h rfl) (by simp; omega) (fun x y h1 h2 => by
      rw [ltL_no] at h1 h2
      unfold befL at h1 h2
      omega)
    have hsz : xs.toArray.size = xs.length := by simp
    rw [hsz] at h
    refine Calls.mono h ?_
    rintro e w' ⟨rfl, n, os, rfl⟩
    refine ⟨rfl, ?_⟩
    have e2 : (xs.toArray.toList.mergeSort fun x y => !(ltOf cmpL) y x) = sortL xs := by
      unfold sortL ltOf; rfl
    rw [e2]
    exact S.own_push (i := 0) rfl (bb _) (ownsRow_sortedI (by unfold sortL; exact List.length_mergeSort _) (Nat.zero_le _) hg hnc hmx hc) (grownBy_sortedI _) (.inl rfl)
end Go.Proofs.YtahbepajeplcmaaGreatDoor

/- Contracts: the clause of literals, literals that are set, in the program. -/
namespace Go.Proofs.YtahbepajeplcmaaGreatDoor
open Go.RowKit

set_option maxRecDepth 100000 in
set_option maxHeartbeats 4000000 in
theorem clause_any (zs : List Int) (A : Option Addr) (cap : Nat) (w : World) (hx : IntsAt w A zs) (hz : ∀ x ∈ zs, LitS x) (hl : zs.length ≤ 2000) :
    Calls Tryz.prog 77 #[.slice A zs.length cap] w (OwnAns w (clauseR zs).isSome ((clauseR zs).getD [])) := by
  have hcl := Lib.hid (cloneA_any A cap zs w hx (by omega))
  have hsl : (sortL zs).length = zs.length := List.length_mergeSort _
  have hcpl := cptL_len zs
  have hlit := Lib.hid (fun x (h : x ∈ cptL zs) => hz x (cptL_mem.1 h))
  have hR : Hid (clauseR zs = if okTo (cptL zs) ((cptL zs).length - 1) then some (cptL zs) else none) := rfl
  have hcp : Hid (cptL zs = Lib.compact (sortL zs)) := rfl
  generalize clauseR zs = R at *
  replace hsl := Lib.hid hsl
  clear hx hz
  go_enter Tryz.func77, Tryz.ntmps77
  go_wp2_with fail
  refine hcl.out.mono ?_
  rintro e w1 ⟨D, dc, rfl, T⟩
  have hso := Lib.hid (sortFuncL_any zs D dc w w1 [] T (by omega))
  clear T hcl
  go_wp2_with fail
  refine hso.out.mono ?_
  rintro e w2 ⟨rfl, S2⟩
  rw [← hsl.out] at S2 ⊢
  have hsl2 : (sortL zs).length ≤ 1000000 := by rw [hsl.out]; omega
  have hco := Lib.hid (compactI_any _ D dc w _ [] S2 hsl2)
  rw [← hcp.out] at hco
  clear S2 hso hcp hsl2
  generalize sortL zs = sz at *
  replace hsl := Lib.hid hsl
  have hcl2 : (cptL zs).length ≤ 2000 := by omega
  clear hcpl
  generalize cptL zs = out at *
  go_wp2_with fail
  refine hco.out.mono ?_
  rintro e w3 ⟨rfl, S3⟩
  replace S3 := Lib.hid S3
  clear hco
  go_wp2_with fail
  go_loopw [5] (fun v5 wr => ∃ (k : Nat) (z : Int), k + 1 ≤ out.length + 1 ∧ 1 ≤ z ∧ z ≤ 3000 ∧ Hid ((k : Int) + 1 = z) ∧ v5 = .int .i64 z ∧ Hid (okTo out k = true) ∧ Hid (Sp w wr [Own 3 1 (.slice D out.length dc) out.length (out.map (.int .i64))])) (fun v5 _ => 4000 - (intOf v5).toNat)
  case atStart => exact ⟨0, 1, by omega, by decide, by decide, rfl, rfl, rfl, S3⟩
  case round =>
    clear S3
    obtain ⟨k, z, hk, hz1, hz2, hkz, rfl, hok, HS⟩ := hrel
    by_cases hlt : z < (out.length : Int)
    · have hk1 : k + 1 < out.length := by have := hkz.out; omega
      have hI := HS.out.ints (i := 0) rfl (fun x hx => (hlit.out x hx).i64)
      obtain ⟨b, off, rfl, m1⟩ := hI.at_ (k + 1) hk1
      obtain ⟨b', off', e1, m0⟩ := hI.at_ k (by omega)
      cases e1
      have k1 := cell_regrown m1
      have k0 := cell_regrown m0
      have hL1 := hlit.out _ (List.getElem_mem hk1)
      have hL0 := hlit.out _ (List.getElem_mem (show k < out.length by omega))
      have hneg : IntKind.i64.wrap (-out[k]) = -out[k] := IntWalk.i64_in _ (by unfold LitS at hL0; omega)
      have hzk : (z : Int) = ((k + 1 : Nat) : Int) := by have := hkz.out; omega
      have hyes := Lib.hid (fun (h : (out.getD (k + 1) 0 == -(out.getD k 0)) = true) => okTo_no (n := out.length - 1) (by omega) h)
      have hno := Lib.hid (fun (h : (out.getD (k + 1) 0 == -(out.getD k 0)) = false) => okTo_next hok.out h)
      have hg1 : out.getD (k + 1) 0 = out[k + 1] := by rw [List.getD_eq_getElem?_getD, List.getElem?_eq_getElem hk1]; rfl
      have hg0 : out.getD k 0 = out[k] := by rw [List.getD_eq_getElem?_getD, List.getElem?_eq_getElem (by omega)]; rfl
      rw [hg1, hg0] at hyes hno
      have hwz : IntKind.i64.wrap (((k + 1 : Nat) : Int) - 1) = (k : Int) := by rw [IntWalk.i64_in _ (by omega)]; omega
      have hwz2 : IntKind.i64.wrap (((k + 1 : Nat) : Int) + 1) = ((k + 1 + 1 : Nat) : Int) := by rw [IntWalk.i64_in _ (by omega)]; omega
      have hkz2 : Hid (((k + 1 : Nat) : Int) + 1 = ((k + 1 + 1 : Nat) : Int)) := rfl
      generalize out[k + 1] = y at *
      generalize out[k] = x at *
      subst hzk
      obtain ⟨q, hq⟩ : ∃ q, (y == -x) = q := ⟨_, rfl⟩
      rw [hq] at hyes hno
      clear m1 m0 hI hL1 hL0 hg1 hg0 hkz hok
      cases q
      · have hok2 := Lib.hid (hno.out rfl)
        clear hno hyes
        go_wp2_with fail
        refine wp_region_quiet_below (by kernel_rfl) (by kernel_rfl) ?_
        repeat (any_goals (go_big_quiet_step (fail)))
        refine wpQuiet_nil ?_
        rintro w4 ⟨p, rfl⟩
        have HS4 := Lib.hid (HS.out.grow (below_regrown _ p.d p.os))
        clear HS k0 k1
        go_wp2_with fail
        go_roundw
        case rel => exact ⟨k + 1, ((k + 1 + 1 : Nat) : Int), by omega, by omega, by omega, hkz2, rfl, hok2, HS4⟩
        case measure => simp [intOf]; omega
      · have hok2 := Lib.hid (hyes.out rfl)
        clear hno hyes
        go_wp2_with fail
        refine wp_region_quiet_below (by kernel_rfl) (by kernel_rfl) ?_
        repeat (any_goals (go_big_quiet_step (fail)))
        refine wpQuiet_nil ?_
        rintro w4 ⟨p, rfl⟩
        have HS4 := Lib.hid ((Sp.of_below (HS.out.grow (below_regrown _ p.d p.os)).below).own_nil 3 1)
        have hRn : Hid (R = none) := by unfold Hid; rw [hR.out, if_neg (by rw [hok2.out]; simp)]
        clear HS k0 k1 hR
        go_wp2_with fail
        go_ret2
        rw [hRn.out]
        exact ⟨none, 0, rfl, HS4.out⟩
    · have hRs : Hid (R = some out) := by
        unfold Hid
        rw [hR.out, if_pos]
        have h1 := hok.out
        have : out.length - 1 ≤ k := by have := hkz.out; omega
        unfold okTo at h1 ⊢
        rw [List.all_eq_true] at h1 ⊢
        exact fun i hi => h1 i (List.mem_range.2 (by have := List.mem_range.1 hi; omega))
      clear hR
      go_wp2_with fail
      go_ret2
      rw [hRs.out]
      exact ⟨D, dc, rfl, HS.out⟩
end Go.Proofs.YtahbepajeplcmaaGreatDoor

/- Contracts: literals set, assignments merged, on both sides. -/
namespace Go.Proofs.YtahbepajeplcmaaGreatDoor
open Go.RowKit

def mergeR (vars : Int) (a b : List Int) : Option (List Int) := if clauseB vars a && clauseB vars b then joinS a b else none
def setR (vars : Int) (a : List Int) (l : Int) : Option (List Int) := if clauseB vars a && litB vars l then some (setS a l) else none
theorem good_len_s {vars : Int} {c : List Int} (h : clauseB vars c = true) : c.length ≤ 1000 := (clause_s h).2
theorem isVarS_any (n x : Int) (w : World) : Calls Tryz.prog 82 #[.int .i64 n, .int .i64 x] w fun e w' => e = .returned (.bool (inB x 1 n)) ∧ w = w' := by
  obtain ⟨q, hq⟩ : ∃ q, inB x 1 n = q := ⟨_, rfl⟩
  have hc := Lib.hid (hq ▸ within_any x 1 n w)
  rw [hq]
  clear hq
  go_enter Tryz.func82, Tryz.ntmps82
  go_wp2_with fail
  refine hc.out.mono ?_
  rintro e w1 ⟨rfl, rfl⟩
  go_wp2_with fail
  go_ret
  exact ⟨rfl, rfl⟩

/- left out: the seat has no impl.mustClause -/

/- left out: the seat has no impl.set -/

/- left out: the seat has no spec.l3Set -/

/- left out: the seat has no impl.SetLiteral -/

/- left out: the seat has no spec.SetLiteral -/
end Go.Proofs.YtahbepajeplcmaaGreatDoor

/- Contracts: assignments merged, on both sides; extended, unset, and their bits, in the program. -/
namespace Go.Proofs.YtahbepajeplcmaaGreatDoor
open Go.RowKit

/- left out: the seat has no impl.MergeAssignments -/

/- left out: the seat has no spec.MergeAssignments -/

set_option maxHeartbeats 1000000 in
theorem part1_any (x : Int) (rb : Nat) (R : Option Addr) (rc : Nat) (rs : List Int) (w : World) (c0 : w.cell? ⟨rb, 0, none⟩ = some (.slice R rs.length rc)) (hR : IntsAt w R rs) (hl : rs.length ≤ 1000) :
    Calls Tryz.prog 151 #[.int .i64 x, .pointer (some ⟨rb, 0, none⟩)] w fun e w' => e = .returned (.bool (!hasI rs x)) ∧ Below w.heap.size w w' := by
  have hc := Lib.hid (containsIA_any rs R rc x w hR (by omega))
  clear hR
  go_enter Tryz.func151, Tryz.ntmps151
  go_wp2_with fail
  refine hc.out.mono ?_
  rintro e w1 ⟨rfl, rfl⟩
  go_wp2_with fail
  go_ret
  exact ⟨rfl, bb _⟩
set_option maxHeartbeats 1000000 in
theorem part_any (a b : List Int) (A B : Option Addr) (ac bc : Nat) (w : World) (hx : IntsAt w A a) (hy : IntsAt w B b) (la : a.length ≤ 1000) (lb : b.length ≤ 1000) :
    Calls Tryz.prog 86 #[.slice A a.length ac, .slice B b.length bc] w fun e w' => e = .returned (.bool (a.all (hasI b))) ∧ Below w.heap.size w w' := by
  have eg : Enter1 151 := enters_of Tryz.func151 (by kernel_rfl) rfl
  have S0 := (Sp.start w).alloc_box #[.slice B b.length bc] 43
  have c0 := S0.cell (i := 0) rfl (o := 0) rfl
  have hcon := Lib.hid (containsI_any (cb := #[.pointer (some ⟨w.heap.size, 0, none⟩)]) (p := fun x => !hasI b x) (R := fun _ => True) eg a A ac _ (hx.grow S0.below) (by omega) (fun _ _ => trivial) fun x W _ hb => part1_any x w.heap.size B bc b W (cell_below c0 hb) ((hy.grow S0.below).grow hb) lb)
  have hq : (a.all (hasI b)) = !(a.any fun x => !hasI b x) := by rw [List.all_eq_not_any_not]
  rw [hq]
  generalize (a.any fun x => !hasI b x) = q at *
  replace S0 := Lib.hid S0
  clear hx hy c0 hq
  go_enter Tryz.func86, Tryz.ntmps86
  go_wp2_with fail
  refine hcon.out.mono ?_
  rintro e w1 ⟨rfl, hb1⟩
  have hB := Lib.hid (S0.out.grow hb1).below
  clear hcon S0 hb1
  go_wp2_with fail
  go_ret
  exact ⟨rfl, hB.out⟩

/- left out: the seat has no impl.DoesExtend -/

/- left out: the seat has no impl.UnsetVar -/
end Go.Proofs.YtahbepajeplcmaaGreatDoor

/- Contracts: a literal added to a clause, a variable left out, a clause that is part of another one. -/
namespace Go.Proofs.YtahbepajeplcmaaGreatDoor
open Go.RowKit

def addOk (vars : Int) (c : List Int) (l : Int) : Bool := clauseB vars c && litB vars l
def addR (vars : Int) (c : List Int) (l : Int) : List Int × Bool := if addOk vars c l then ((joinS c [l]).getD [], (joinS c [l]).isSome) else ([], false)
theorem addR_yes {vars : Int} {c : List Int} {l : Int} (h : addOk vars c l = true) : addR vars c l = ((joinS c [l]).getD [], (joinS c [l]).isSome) := if_pos h
theorem addR_no {vars : Int} {c : List Int} {l : Int} (h : addOk vars c l = false) : addR vars c l = ([], false) := if_neg (by rw [h]; decide)
def remOk (vars : Int) (c : List Int) (v : Int) : Bool := clauseB vars c && inB v 1 vars
def remR (vars : Int) (c : List Int) (v : Int) : List Int × Bool := if remOk vars c v then (withoutB c v, true) else ([], false)
theorem remR_yes {vars : Int} {c : List Int} {v : Int} (h : remOk vars c v = true) : remR vars c v = (withoutB c v, true) := if_pos h
theorem remR_no {vars : Int} {c : List Int} {v : Int} (h : remOk vars c v = false) : remR vars c v = ([], false) := if_neg (by rw [h]; decide)
theorem lit_vals {vars l : Int} (hv : 0 ≤ vars ∧ vars ≤ 12) (h : litB vars l = true) : LitS l ∧ -12 ≤ l ∧ l ≤ 12 := by
  unfold litB at h
  rw [Bool.and_eq_true, inB_true, bne_iff_ne] at h
  have hn : negV vars = -vars := IntWalk.wrap64_in _ (by omega)
  rw [hn] at h
  exact ⟨⟨h.2, by omega, by omega⟩, by omega, by omega⟩
theorem lit_one {l : Int} (h : LitS l) : GoodS [l] := ⟨by simpa using h, by simp⟩

set_option maxRecDepth 100000 in
set_option maxHeartbeats 4000000 in
theorem implAdd_any (vars : Int) (v : Value) (c : List Int) (l : Int) (F : List Nat) (w : World) (hx : Ty.int.row false w v c F) :
    Calls Tryz.prog 21 #[.int .i64 vars, v, .int .i64 l] w (PCPost (addR vars c l) w) := by
  obtain ⟨i0, hi, hz0, hz1, hz2⟩ := info_parts infoIntL
  obtain ⟨A, cap, rfl, hI⟩ := ints_row hx
  obtain ⟨q1, h1⟩ : ∃ q, clauseB vars c = q := ⟨_, rfl⟩
  obtain ⟨q2, h2⟩ : ∃ q, litB vars l = q := ⟨_, rfl⟩
  have hcl := Lib.hid (implIsClause_at (w := w) hx h1)
  have hli := Lib.hid (fun W => isLiteral_at h2 W)
  cases q1
  · have hR := Lib.hid (addR_no (vars := vars) (c := c) (l := l) (by unfold addOk; rw [h1]; rfl))
    go_enter Tryz.func21, Tryz.ntmps21
    go_wp2_with fail
    refine hcl.out.mono ?_
    rintro e w1 ⟨rfl, hb1⟩
    replace hb1 := Lib.hid hb1
    go_wp2_with fail
    go_ret2
    exact pc_nil hR.out hb1.out
  cases q2
  · have hR := Lib.hid (addR_no (vars := vars) (c := c) (l := l) (by unfold addOk; rw [h1, h2]; rfl))
    go_enter Tryz.func21, Tryz.ntmps21
    go_wp2_with fail
    refine hcl.out.mono ?_
    rintro e w1 ⟨rfl, hb1⟩
    replace hb1 := Lib.hid hb1
    go_wp2_with fail
    refine (hli.out _).mono ?_
    rintro e w2 ⟨rfl, hb2⟩
    have hB := Lib.hid (btr hb1.out hb2)
    go_wp2_with fail
    go_ret2
    exact pc_nil hR.out hB.out
  have hR := Lib.hid (addR_yes (vars := vars) (c := c) (l := l) (by unfold addOk; rw [h1, h2]; rfl))
  obtain ⟨hv0, hv1⟩ := (clause_parts h1).1
  have hgc := good_s h1
  have hL := (lit_vals ⟨hv0, hv1⟩ h2).1
  have hlen := clause_len h1
  have hcs : ∀ x ∈ c, LitS x := (clause_s h1).1
  have hjn := Lib.hid (clauseR_join hgc (lit_one hL))
  have hall : ∀ x ∈ c ++ [l], LitS x := by
    intro x hx
    rcases List.mem_append.1 hx with hx | hx
    · exact hcs x hx
    · obtain rfl : x = l := by simpa using hx
      exact hL
  have hi64 : ∀ x ∈ c ++ [l], I64 x := fun x hx => by have := hall x hx; unfold LitS at this; unfold I64; omega
  go_enter Tryz.func21, Tryz.ntmps21
  go_wp2_with fail
  refine hcl.out.mono ?_
  rintro e w1 ⟨rfl, hb1⟩
  replace hb1 := Lib.hid hb1
  go_wp2_with fail
  refine (hli.out _).mono ?_
  rintro e w2 ⟨rfl, hb2⟩
  have S2 := Lib.hid (Sp.of_below (btr hb1.out hb2))
  have hclo := Lib.hid (cloneA_any A cap c w2 (hI.grow S2.out.below) (by omega))
  clear hb1 hb2 hcl hli hI
  go_wp2_with fail
  refine hclo.out.mono ?_
  rintro e w3 ⟨D, dc, rfl, T3⟩
  have S3 := (S2.out.seq T3).alloc_box #[.int .i64 l] 3
  have kB := S3.cell (i := 0) rfl (o := 0) rfl
  replace S3 := Lib.hid S3
  clear S2 T3 hclo
  go_wp2_with (at_builtin; refine wpList_append_src rfl _ _ rfl Tryz.underlying43 hi hz0 hz1 hz2 rfl (by decide) _ _ _ rfl (S3.out.own (i := 1) rfl) _ 1 1 [.int .i64 l] rfl (Src.one kB) (by simp [Value.oneCell']) ?c3 ?c4 ?_)
  case c3 => unfold maxLen; omega
  case c4 => omega
  intro vY wY hownY hgY hatY
  have S4 := (S3.out.own_push (i := 1) rfl (bb _) hownY hgY (by simpa using hatY)).tail
  obtain ⟨aY, cY, rfl⟩ := own_slice hownY
  have S5 : Hid (Sp w wY [Own 3 1 (.slice aY (c ++ [l]).length cY) (c ++ [l]).length ((c ++ [l]).map (.int .i64))]) := by
    have e1 : (c ++ [l]).length = c.length + 1 := by simp
    unfold Hid
    rw [e1, List.map_append]
    exact S4
  have hlen2 : c.length + 1 = (c ++ [l]).length := by simp
  obtain ⟨A', c', e', hIY⟩ := ints_own (S5.out.own (i := 0) rfl) hi64
  cases e'
  have hfin := Lib.hid (clause_any (c ++ [l]) aY cY wY hIY hall (by rw [← hlen2]; omega))
  rw [hjn.out] at hfin
  clear S3 S4 kB hownY hgY hatY hIY hall hi64 hjn
  rw [hlen2]
  generalize c ++ [l] = zs at *
  replace hlen2 := Lib.hid hlen2
  go_wp2_with fail
  refine hfin.out.mono ?_
  rintro e w5 ⟨E, ec, rfl, T5⟩
  have S6 := Lib.hid ((S5.out.seq T5).pick [0] rfl)
  clear S5 T5 hfin
  go_wp2_with fail
  go_ret2
  unfold PCPost
  rw [hR.out]
  exact ⟨_, _, rfl, S6.out⟩

set_option maxRecDepth 100000 in
set_option maxHeartbeats 4000000 in
theorem implRemove_any (vars : Int) (v : Value) (c : List Int) (l : Int) (F : List Nat) (w : World) (hx : Ty.int.row false w v c F) :
    Calls Tryz.prog 24 #[.int .i64 vars, v, .int .i64 l] w (PCPost (remR vars c l) w) := by
  obtain ⟨A, cap, rfl, hI⟩ := ints_row hx
  obtain ⟨q1, h1⟩ : ∃ q, clauseB vars c = q := ⟨_, rfl⟩
  obtain ⟨q2, h2⟩ : ∃ q, inB l 1 vars = q := ⟨_, rfl⟩
  have hcl := Lib.hid (implIsClause_at (w := w) hx h1)
  have hli := Lib.hid (fun W => isVarS_any vars l W)
  rw [h2] at hli
  cases q1
  · have hR := Lib.hid (remR_no (vars := vars) (c := c) (v := l) (by unfold remOk; rw [h1]; rfl))
    go_enter Tryz.func24, Tryz.ntmps24
    go_wp2_with fail
    refine hcl.out.mono ?_
    rintro e w1 ⟨rfl, hb1⟩
    replace hb1 := Lib.hid hb1
    go_wp2_with fail
    go_ret2
    exact pc_nil hR.out hb1.out
  cases q2
  · have hR := Lib.hid (remR_no (vars := vars) (c := c) (v := l) (by unfold remOk; rw [h1, h2]; rfl))
    go_enter Tryz.func24, Tryz.ntmps24
    go_wp2_with fail
    refine hcl.out.mono ?_
    rintro e w1 ⟨rfl, hb1⟩
    replace hb1 := Lib.hid hb1
    go_wp2_with fail
    refine (hli.out _).mono ?_
    rintro e w2 ⟨rfl, rfl⟩
    go_wp2_with fail
    go_ret2
    exact pc_nil hR.out hb1.out
  have hR := Lib.hid (remR_yes (vars := vars) (c := c) (v := l) (by unfold remOk; rw [h1, h2]; rfl))
  have hlen := clause_len h1
  have hcs : ∀ x ∈ c, LitS x := (clause_s h1).1
  go_enter Tryz.func24, Tryz.ntmps24
  go_wp2_with fail
  refine hcl.out.mono ?_
  rintro e w1 ⟨rfl, hb1⟩
  replace hb1 := Lib.hid hb1
  go_wp2_with fail
  refine (hli.out _).mono ?_
  rintro e w2 ⟨rfl, rfl⟩
  have hwo := Lib.hid (withoutVar_any c A cap l w1 (hI.grow hb1.out) hcs (by omega))
  clear hcl hli hI hcs
  go_wp2_with fail
  refine hwo.out.mono ?_
  rintro e w3 ⟨D, dc, rfl, T3⟩
  have S3 := Lib.hid (((Sp.of_below hb1.out).seq T3).pick [0] rfl)
  clear hb1 T3 hwo
  go_wp2_with fail
  go_ret2
  unfold PCPost
  rw [hR.out]
  exact ⟨_, _, rfl, S3.out⟩

set_option maxRecDepth 100000 in
set_option maxHeartbeats 4000000 in
theorem isPart_any (vars : Int) (v u : Value) (a b : List Int) (F G : List Nat) (w : World) (hx : Ty.int.row false w v a F) (hy : Ty.int.row false w u b G) (h1 : clauseB vars a = true) (h2 : clauseB vars b = true) :
    Calls Tryz.prog 27 #[.int .i64 vars, v, u] w fun e w' => e = .returned (.tuple #[.bool (a.all (hasI b)), .bool true]) ∧ Below w.heap.size w w' := by
  obtain ⟨A, cap, rfl, hI⟩ := ints_row hx
  obtain ⟨B, cap2, rfl, hJ⟩ := ints_row hy
  have hcl := Lib.hid (implIsClause_at (w := w) hx h1)
  have hli := Lib.hid (fun W (h : Below w.heap.size w W) => implIsClause_at (w := W) (Ty.row_below hy h (Ty.row_lt hy)) h2)
  have la := clause_len h1
  have lb := clause_len h2
  have hpt := Lib.hid (fun W (h : Below w.heap.size w W) => part_any a b A B cap cap2 W (hI.grow h) (hJ.grow h) (by omega) (by omega))
  clear hx hy hI hJ h1 h2
  generalize a.all (hasI b) = q at *
  go_enter Tryz.func27, Tryz.ntmps27
  go_wp2_with fail
  refine hcl.out.mono ?_
  rintro e w1 ⟨rfl, hb1⟩
  replace hb1 := Lib.hid hb1
  go_wp2_with fail
  refine (hli.out _ hb1.out).mono ?_
  rintro e w2 ⟨rfl, hb2⟩
  have hB := Lib.hid (btr hb1.out hb2)
  clear hb1 hb2
  go_wp2_with fail
  refine (hpt.out _ hB.out).mono ?_
  rintro e w3 ⟨rfl, hb3⟩
  have hB2 := Lib.hid (btr hB.out hb3)
  clear hb3 hB
  go_wp2_with fail
  go_ret2
  exact ⟨rfl, hB2.out⟩
end Go.Proofs.YtahbepajeplcmaaGreatDoor

/- Contracts: a literal added to a clause and a variable left out, in the reference. -/
namespace Go.Proofs.YtahbepajeplcmaaGreatDoor
open Go.RowKit

theorem ia_made {r : List Int × Bool} {q : Bool} {w w' : World} {A : Option Addr} {c : Nat} (h : r = ([], q)) (hS : Sp w w' [Own 3 1 (.slice A 0 c) 0 []]) : IAns w r.2 r.1 (.returned (.tuple #[.slice A 0 c, .bool q])) w' := by
  subst h
  exact ⟨A, c, rfl, IntsAt.nil _ _, hS.below⟩

set_option maxRecDepth 100000 in
set_option maxHeartbeats 4000000 in
theorem specAdd_any (vars : Int) (v : Value) (c : List Int) (l : Int) (F : List Nat) (w : World) (hx : Ty.int.row false w v c F) :
    Calls Tryz.prog 22 #[.int .i64 vars, v, .int .i64 l] w (IAns w (addR vars c l).2 (addR vars c l).1) := by
  obtain ⟨A, cap, rfl, hI⟩ := ints_row hx
  obtain ⟨q1, h1⟩ : ∃ q, clauseB vars c = q := ⟨_, rfl⟩
  obtain ⟨q2, h2⟩ : ∃ q, litB vars l = q := ⟨_, rfl⟩
  have hcl := Lib.hid (l2Clause_at (w := w) hx h1)
  have hli := Lib.hid (fun W => l2Lit_at h2 W)
  cases q1
  · have hR := Lib.hid (addR_no (vars := vars) (c := c) (l := l) (by unfold addOk; rw [h1]; rfl))
    go_enter Tryz.func22, Tryz.ntmps22
    go_wp2_with fail
    refine hcl.out.mono ?_
    rintro e w1 ⟨rfl, hb1⟩
    have S1 := Lib.hid ((Sp.of_below hb1).own_made 3 1)
    clear hcl hli hb1
    go_wp2_with fail
    go_ret2
    exact ia_made hR.out S1.out
  cases q2
  · have hR := Lib.hid (addR_no (vars := vars) (c := c) (l := l) (by unfold addOk; rw [h1, h2]; rfl))
    go_enter Tryz.func22, Tryz.ntmps22
    go_wp2_with fail
    refine hcl.out.mono ?_
    rintro e w1 ⟨rfl, hb1⟩
    replace hb1 := Lib.hid hb1
    go_wp2_with fail
    refine (hli.out _).mono ?_
    rintro e w2 ⟨rfl, hb2⟩
    have S1 := Lib.hid ((Sp.of_below (btr hb1.out hb2)).own_made 3 1)
    clear hcl hli hb1 hb2
    go_wp2_with fail
    go_ret2
    exact ia_made hR.out S1.out
  rw [addR_yes (vars := vars) (c := c) (l := l) (by unfold addOk; rw [h1, h2]; rfl)]
  obtain ⟨hv0, hv1⟩ := (clause_parts h1).1
  have hL := (lit_vals ⟨hv0, hv1⟩ h2).1
  have hlen := clause_len h1
  have hwa : Within 1000 c := fun x hx => by have := (clause_s h1).1 x hx; unfold LitS at this; omega
  have hwb : Within 1000 [l] := fun x hx => by
    obtain rfl : x = l := by simpa using hx
    unfold LitS at hL; omega
  have h64 : I64 l := by unfold LitS at hL; unfold I64; omega
  have hjo := Lib.hid (fun W (h : Below w.heap.size w W) => l2JoinS_any _ _ c [l] F [W.heap.size] (W.alloc (.cells #[.int .i64 l] 3)) (Ty.row_below hx (bal h _) (Ty.row_lt hx)) (row_int_mk (xs := [l]) (cap := 1) (off := 0) (b := W.heap.size) (fun x hx => by
    obtain rfl : x = l := by simpa using hx
    exact h64) (by simp) (by omega) (by simp) (fun j hj => by
      have e : j = 0 := by simpa using hj
      subst e
      exact ⟨((Sp.of_below h).alloc_box #[.int .i64 l] 3).cell (i := 0) rfl (o := 0) rfl, fun h => by cases h⟩)) hwa hwb (by omega) (by simp))
  generalize (joinS c [l]).isSome = q at *
  generalize (joinS c [l]).getD [] = zs at *
  clear hx hI hwa hwb h1 h2
  go_enter Tryz.func22, Tryz.ntmps22
  go_wp2_with fail
  refine hcl.out.mono ?_
  rintro e w1 ⟨rfl, hb1⟩
  replace hb1 := Lib.hid hb1
  go_wp2_with fail
  refine (hli.out _).mono ?_
  rintro e w2 ⟨rfl, hb2⟩
  have hB := Lib.hid (btr hb1.out hb2)
  have hj := Lib.hid (hjo.out w2 hB.out)
  clear hb1 hb2 hjo hcl hli
  go_wp2_with fail
  refine hj.out.mono ?_
  rintro e w3 ⟨D, dc, rfl, hZ, hb3⟩
  have hB3 := Lib.hid (btr (bal hB.out _) hb3)
  replace hZ := Lib.hid hZ
  clear hB hb3 hj
  go_wp2_with fail
  go_ret2
  exact ⟨D, dc, rfl, hZ.out, hB3.out⟩

set_option maxRecDepth 100000 in
set_option maxHeartbeats 4000000 in
theorem specRemove_any (vars : Int) (v : Value) (c : List Int) (l : Int) (F : List Nat) (w : World) (hx : Ty.int.row false w v c F) :
    Calls Tryz.prog 29 #[.int .i64 vars, v, .int .i64 l] w (IAns w (remR vars c l).2 (remR vars c l).1) := by
  obtain ⟨A, cap, rfl, hI⟩ := ints_row hx
  obtain ⟨q1, h1⟩ : ∃ q, clauseB vars c = q := ⟨_, rfl⟩
  obtain ⟨q2, h2⟩ : ∃ q, inB l 1 vars = q := ⟨_, rfl⟩
  have hcl := Lib.hid (l2Clause_at (w := w) hx h1)
  have hli := Lib.hid (fun W => l1In_any l 1 vars W)
  rw [h2] at hli
  cases q1
  · have hR := Lib.hid (remR_no (vars := vars) (c := c) (v := l) (by unfold remOk; rw [h1]; rfl))
    go_enter Tryz.func29, Tryz.ntmps29
    go_wp2_with fail
    refine hcl.out.mono ?_
    rintro e w1 ⟨rfl, hb1⟩
    have S1 := Lib.hid ((Sp.of_below hb1).own_made 3 1)
    clear hcl hli hb1
    go_wp2_with fail
    go_ret2
    exact ia_made hR.out S1.out
  cases q2
  · have hR := Lib.hid (remR_no (vars := vars) (c := c) (v := l) (by unfold remOk; rw [h1, h2]; rfl))
    go_enter Tryz.func29, Tryz.ntmps29
    go_wp2_with fail
    refine hcl.out.mono ?_
    rintro e w1 ⟨rfl, hb1⟩
    have S1 := Lib.hid ((Sp.of_below hb1).own_made 3 1)
    clear hcl hb1
    go_wp2_with fail
    refine (hli.out _).mono ?_
    rintro e w2 ⟨rfl, rfl⟩
    go_wp2_with fail
    go_ret2
    exact ia_made hR.out S1.out
  rw [remR_yes (vars := vars) (c := c) (v := l) (by unfold remOk; rw [h1, h2]; rfl)]
  have hlen := clause_len h1
  have h64 : ∀ x ∈ withoutB c l, I64 x := fun x hx => by
    have := (clause_s h1).1 x (List.mem_filter.1 hx).1
    unfold LitS at this; unfold I64; omega
  have hwo := Lib.hid (fun W (h : Below w.heap.size w W) => l2Without_any _ c l F W (Ty.row_below hx h (Ty.row_lt hx)) (by omega))
  generalize withoutB c l = zs at *
  clear hx hI h1 h2
  go_enter Tryz.func29, Tryz.ntmps29
  go_wp2_with fail
  refine hcl.out.mono ?_
  rintro e w1 ⟨rfl, hb1⟩
  have hw := Lib.hid (hwo.out w1 hb1)
  replace hb1 := Lib.hid hb1
  clear hcl hwo
  go_wp2_with fail
  refine (hli.out _).mono ?_
  rintro e w2 ⟨rfl, rfl⟩
  clear hli
  go_wp2_with fail
  refine hw.out.mono ?_
  rintro e w3 ⟨v2, rfl, ho, hb2⟩
  obtain ⟨D, dc, rfl⟩ := own_slice ho
  obtain ⟨A', c', e', hIY⟩ := ints_own ho h64
  cases e'
  have hB := Lib.hid (btr hb1.out hb2)
  clear ho hb2 hb1 hw h64
  replace hIY := Lib.hid hIY
  go_wp2_with fail
  go_ret2
  exact ⟨D, dc, rfl, hIY.out, hB.out⟩
end Go.Proofs.YtahbepajeplcmaaGreatDoor

/- Contracts: the bits of a total assignment, in the program; numbers held, in the laws. -/
namespace Go.Proofs.YtahbepajeplcmaaGreatDoor
open Go.RowKit

theorem or_natS (a b : Nat) (ha : a < 2 ^ 62) (hb : b < 2 ^ 62) : bits .or .i64 (a : Int) (b : Int) = ((a ||| b : Nat) : Int) := by
  have h := bits_nat .i64 62 (by decide) (fun n h0 h1 => by rw [IntKind.wrap_i64]; have : (2 : Int) ^ 62 = 4611686018427387904 := by decide
                                                            omega) a b ha hb
  exact h.2
theorem modS_next (b k : Nat) : b % 2 ^ (k + 1) = if b.testBit k then (b % 2 ^ k) ||| 2 ^ k else b % 2 ^ k := by
  rw [Nat.mod_pow_succ, Nat.testBit_eq_decide_div_mod_eq]
  have h : b % 2 ^ k < 2 ^ k := Nat.mod_lt _ (Nat.two_pow_pos k)
  have h3 : b / 2 ^ k % 2 < 2 := Nat.mod_lt _ (by decide)
  by_cases h1 : b / 2 ^ k % 2 = 1
  · rw [h1, decide_eq_true rfl, if_pos rfl, Nat.mul_one]
    have h2 := Nat.two_pow_add_eq_or_of_lt h 1
    rw [Nat.mul_one] at h2
    rw [Nat.or_comm, ← h2, Nat.add_comm]
  · have h4 : b / 2 ^ k % 2 = 0 := by omega
    rw [h4]
    simp

/- left out: the seat has no impl.bitsOf -/

/- left out: the seat has no impl.BitsOfTotal -/

set_option maxHeartbeats 1000000 in
theorem vHas_any (xs : List Int) (A : Option Addr) (cap : Nat) (x : Int) (w : World) (hx : IntsAt w A xs) (hl : xs.length ≤ 1000000) :
    Calls Tryz.prog 26 #[.slice A xs.length cap, .int .i64 x] w fun e w' => e = .returned (.bool (hasI xs x)) ∧ w = w' := by
  have hX := Lib.hid hx
  clear hx
  go_enter Tryz.func26, Tryz.ntmps26
  go_wp2_with fail
  go_loopw [5] (fun i wr => ∃ k : Nat, k ≤ xs.length ∧ i = .int .i64 k ∧ Hid (hasI (xs.take k) x = false) ∧ w = wr) (fun i _ => xs.length - (intOf i).toNat)
  case atStart => exact ⟨0, Nat.zero_le _, rfl, by simp [Hid, hasI], rfl⟩
  case round =>
    obtain ⟨k, hk, rfl, HR, rfl⟩ := hrel
    by_cases hlt : k < xs.length
    · obtain ⟨b, off, rfl, k0⟩ := hX.out.at_ k hlt
      by_cases he : xs[k] = x
      · have HN : Hid (hasI xs x = true) := hasI_yes hlt he
        have he' : (xs[k] == x) = true := by simpa using he
        clear he HR
        go_wp2_with fail
        go_ret
        exact ⟨ret_bool HN.out.symm, rfl⟩
      · have HN : Hid (hasI (xs.take (k + 1)) x = false) := hasI_no hlt HR.out he
        have he' : (xs[k] == x) = false := by simpa using he
        clear he HR
        go_wp2_with fail
        go_roundw
        case rel => exact ⟨k + 1, by omega, by go_num, HN, by first | rfl | trivial⟩
        case measure => simp [intOf]; omega
    · obtain rfl : k = xs.length := by omega
      have HN := HR.out
      rw [List.take_length] at HN
      replace HN := Lib.hid HN
      clear HR
      go_wp2_with fail
      go_ret
      exact ⟨ret_bool HN.out.symm, rfl⟩
end Go.Proofs.YtahbepajeplcmaaGreatDoor

/- Contracts: numbers of variables and literals that are drawn, up to thirteen. -/
namespace Go.Proofs.YtahbepajeplcmaaGreatDoor
open Go.RowKit

/- left out: the seat has no (*loop.example/g01080/spec.l1Cur).vars6 -/

theorem lit_three13 {w1 : World} {vars : Int} {g A cl cc : Nat} {ca : Option Addr} (h : CurIs A g ca cl cc w1) (hv : -1 ≤ vars ∧ vars ≤ 13) (hA : A ≤ 80000000) :
    Calls Tryz.prog 87 #[.pointer (some ⟨g, 0, none⟩), .slice (some ⟨w1.heap.size, 0, none⟩) 3 3] (w1.alloc (.cells #[.int .i64 0, .int .i64 (vars + 1), .int .i64 (-vars - 1)] 3)) (CurPost (IntIn (-14) 14) (A + 2) g ca cl cc (w1.alloc (.cells #[.int .i64 0, .int .i64 (vars + 1), .int .i64 (-vars - 1)] 3))) := by
  have hg := h.lt
  refine cur_among (-14) 14 w1.heap.size 0 3 3 A g ca cl cc _ (h.grow (bal (bb _) _)) (by omega) (by decide) (by decide) (ints_new rfl fun j hj => ?_) (by omega)
  match j, hj with
  | 0, _ => exact ⟨_, rfl, by decide, by decide⟩
  | 1, _ => exact ⟨_, rfl, by omega, by omega⟩
  | 2, _ => exact ⟨_, rfl, by omega, by omega⟩

set_option maxRecDepth 100000 in
set_option maxHeartbeats 4000000 in
theorem cur_lit13 (vars : Int) (hv : -1 ≤ vars ∧ vars ≤ 13) (A g : Nat) (ca : Option Addr) (cl cc : Nat) (w : World) (h : CurIs A g ca cl cc w) (hA : A ≤ 70000000) :
    Calls Tryz.prog 75 #[.pointer (some ⟨g, 0, none⟩), .int .i64 vars] w (CurPost (IntIn (-14) 14) (A + 8) g ca cl cc w) := by
  have hg := h.lt
  have w1' : IntKind.i64.wrap (vars + 1) = vars + 1 := IntWalk.i64_in _ (by omega)
  have w2' : IntKind.i64.wrap (-vars) = -vars := IntWalk.i64_in _ (by omega)
  have w3' : IntKind.i64.wrap (-vars - 1) = -vars - 1 := IntWalk.i64_in _ (by omega)
  have S0 := Lib.hid (CS.start h)
  by_cases hlt : vars < 1
  · have hcall := Lib.hid (lit_three13 h hv (by omega))
    go_enter Tryz.func75, Tryz.ntmps75
    go_wp2_with fail
    refine hcall.out.mono ?_
    rintro e w2 ⟨_, ⟨z, hz0, hz1, rfl⟩, rfl, hi2, hc2⟩
    have hC := ((S0.out.alloc _).turn hi2 hc2).chg
    clear S0 hc2 hcall
    go_wp2_with fail
    go_ret
    exact ⟨_, ⟨z, hz0, hz1, rfl⟩, rfl, hi2.mono (by omega), hC⟩
  · go_enter Tryz.func75, Tryz.ntmps75
    go_wp2_with fail
    refine (cur_one 40 A g ca cl cc w h (by omega) (by omega)).mono ?_
    rintro e w1 ⟨_, ⟨q, rfl⟩, rfl, hi1, hc1⟩
    have S1 := Lib.hid (S0.out.turn hi1 hc1)
    have hg1 := hi1.lt
    clear S0 hc1
    cases q
    · go_wp2_with fail
      refine (cur_pick_at (lo := 0) (hi := vars - 1) hi1 (by omega) (by omega) (by omega) (by omega) (by omega)).mono ?_
      rintro e w2 ⟨_, ⟨x, hx0, hx1, rfl⟩, rfl, hi2, hc2⟩
      have S2 := Lib.hid (S1.out.turn hi2 hc2)
      have w4 : IntKind.i64.wrap (1 + x) = 1 + x := IntWalk.i64_in _ (by omega)
      have w5 : IntKind.i64.wrap (-(1 + x)) = -(1 + x) := IntWalk.i64_in _ (by omega)
      clear S1 hc2
      go_wp2_with fail
      refine (cur_one 2 _ g ca cl cc _ hi2 (by omega) (by omega)).mono ?_
      rintro e w3 ⟨_, ⟨q, rfl⟩, rfl, hi3, hc3⟩
      have hC := (S2.out.turn hi3 hc3).chg
      clear S2 hc3
      cases q
      · go_wp2_with fail
        go_ret
        exact ⟨_, ⟨1 + x, by omega, by omega, rfl⟩, rfl, hi3.mono (by omega), hC⟩
      · go_wp2_with fail
        go_ret
        exact ⟨_, ⟨-(1 + x), by omega, by omega, rfl⟩, rfl, hi3.mono (by omega), hC⟩
    · have hcall := Lib.hid (lit_three13 hi1 hv (by omega))
      go_wp2_with fail
      refine hcall.out.mono ?_
      rintro e w2 ⟨_, ⟨z, hz0, hz1, rfl⟩, rfl, hi2, hc2⟩
      have hC := ((S1.out.alloc _).turn hi2 hc2).chg
      clear S1 hc2 hcall
      go_wp2_with fail
      go_ret
      exact ⟨_, ⟨z, hz0, hz1, rfl⟩, rfl, hi2.mono (by omega), hC⟩

theorem among_four {w1 : World} {vars : Int} {g A cl cc : Nat} {ca : Option Addr} (h : CurIs A g ca cl cc w1) (hv : -1 ≤ vars ∧ vars ≤ 13) (hA : A ≤ 80000000) :
    Calls Tryz.prog 87 #[.pointer (some ⟨g, 0, none⟩), .slice (some ⟨w1.heap.size, 0, none⟩) 4 4] (w1.alloc (.cells #[.int .i64 0, .int .i64 (vars + 1), .int .i64 (-vars - 1), .int .i64 (-9223372036854775808)] 3)) (CurPost (IntIn (-9223372036854775808) 14) (A + 2) g ca cl cc (w1.alloc (.cells #[.int .i64 0, .int .i64 (vars + 1), .int .i64 (-vars - 1), .int .i64 (-9223372036854775808)] 3))) := by
  have hg := h.lt
  refine cur_among (-9223372036854775808) 14 w1.heap.size 0 4 4 A g ca cl cc _ (h.grow (bal (bb _) _)) (by omega) (by decide) (by decide) (ints_new rfl fun j hj => ?_) (by omega)
  match j, hj with
  | 0, _ => exact ⟨_, rfl, by decide, by decide⟩
  | 1, _ => exact ⟨_, rfl, by omega, by omega⟩
  | 2, _ => exact ⟨_, rfl, by omega, by omega⟩
  | 3, _ => exact ⟨_, rfl, by decide, by decide⟩
def AllI (c : List Int) : Prop := ∀ x ∈ c, I64 x
theorem rowPost_of {n : Nat} {R : List Int → Prop} {A A0 g : Nat} {ca : Option Addr} {cl cc : Nat} {w w' : World} {ps : List Asn} {i : Nat} {B : Option Addr} {cap : Nat} {c : List Int} (h : CS w g ca cl cc A0 w' ps)
    (hi : ps[i]? = some (Own 3 1 (.slice B c.length cap) c.length (c.map (.int .i64)))) (hl : c.length ≤ n) (hR : R c) (hA : A0 ≤ A) : RowPost n R A g ca cl cc w (.returned (.slice B c.length cap)) w' :=
  ⟨_, c, rfl, h.owns_end hi, hl, hR, h.cur.mono hA, h.chg⟩

set_option maxRecDepth 100000 in
set_option maxHeartbeats 8000000 in
theorem cur_anyClause (vars : Int) (hv : -1 ≤ vars ∧ vars ≤ 13) (A g : Nat) (ca : Option Addr) (cl cc : Nat) (w : World) (h : CurIs A g ca cl cc w) (hA : A ≤ 50000000) :
    Calls Tryz.prog 74 #[.pointer (some ⟨g, 0, none⟩), .int .i64 vars] w (RowPost 5 AllI (A + 80) g ca cl cc w) := by
  have hg := h.lt
  have S0 := Lib.hid (CS.start h)
  have w1' : IntKind.i64.wrap (vars + 1) = vars + 1 := IntWalk.i64_in _ (by omega)
  have w2' : IntKind.i64.wrap (-vars) = -vars := IntWalk.i64_in _ (by omega)
  have w3' : IntKind.i64.wrap (-vars - 1) = -vars - 1 := IntWalk.i64_in _ (by omega)
  go_enter Tryz.func74, Tryz.ntmps74
  go_wp2_with fail
  refine (cur_clause vars hv A g ca cl cc w h (by omega)).mono ?_
  rintro e w1 ⟨v, c, rfl, ho, hl, hW, hi1, hc1⟩
  have hne := owns_ge ho
  obtain ⟨B, cap, rfl⟩ := own_slice ho
  have hI := Lib.hid (hW.i64 (by decide))
  have S1 : Hid (CS w g ca cl cc (A + 60) w1 [Own 3 1 (.slice B c.length cap) c.length (c.map (.int .i64))]) := by
    refine ⟨⟨A, h⟩, hi1, hc1, _, ⟨(Value.slice B c.length cap).ownBlock.toList, [], by rw [List.append_nil], by simp, ⟨rfl, owns_zero ho⟩, rfl⟩, fun b hb => ?_⟩
    exact hne b (by simpa using hb)
  clear ho hW hi1 hc1 hne S0
  have hcur := Lib.hid S1.out.cur
  go_wp2_with fail
  refine (cur_pick_at (lo := 0) (hi := 31) hcur.out (by omega) (by omega) (by omega) (by omega) (by omega)).mono ?_
  rintro e w2 ⟨_, ⟨x, hx0, hx1, rfl⟩, rfl, hi2, hc2⟩
  have S2 := Lib.hid (S1.out.turn hi2 hc2)
  clear S1 hcur hi2 hc2
  have hx5 : x = 0 ∨ x = 1 ∨ x = 2 ∨ 2 < x := by omega
  rcases hx5 with rfl | rfl | rfl | hx5
  · have hlit := Lib.hid (cur_lit13 vars hv _ g ca cl cc _ S2.out.cur (by omega))
    obtain ⟨i0, hi0, hz0, hz1, hz2⟩ := info_parts infoInt
    go_wp2_with fail
    refine hlit.out.mono ?_
    rintro e w3 ⟨_, ⟨z, hz3, hz4, rfl⟩, rfl, hi3, hc3⟩
    have S3 := (S2.out.turn hi3 hc3).alloc_box #[.int .i64 z] 3
    have kB := S3.cell (i := 0) rfl (o := 0) rfl
    replace S3 := Lib.hid S3
    clear S2 hlit hi3 hc3
    go_wp2_with (at_builtin; refine wpList_append_src rfl _ _ rfl Tryz.underlying43 hi0 hz0 hz1 hz2 rfl (by decide) _ _ _ rfl (S3.out.own (i := 1) rfl) _ 1 1 [.int .i64 z] rfl (Src.one kB) (by simp [Value.oneCell']) ?c3 ?c4 ?_)
    case c3 => unfold maxLen; omega
    case c4 => omega
    intro vY wY hownY hgY hatY
    have S4 := (S3.out.own_push (i := 1) rfl (bb _) hownY hgY (by simpa using hatY)).tail
    obtain ⟨aY, cY, rfl⟩ := own_slice hownY
    have hlen : c.length + 1 = (c ++ [z]).length := by simp
    have hI2 : AllI (c ++ [z]) := fun y hy => by
      rcases List.mem_append.1 hy with hy | hy
      · exact hI.out y hy
      · obtain rfl : y = z := by simpa using hy
        unfold I64; omega
    have S5 : CS w g ca cl cc (A + 60 + 10 + 8) wY [Own 3 1 (.slice aY (c ++ [z]).length cY) (c ++ [z]).length ((c ++ [z]).map (.int .i64))] := by
      rw [← hlen, List.map_append]; exact S4.mono (by omega)
    have hl2 : (c ++ [z]).length ≤ 5 := by omega
    rw [hlen]
    generalize c ++ [z] = c2 at *
    have hP := Lib.hid (rowPost_of (n := 5) (R := AllI) (A := A + 80) S5 (i := 0) rfl hl2 hI2 (by omega))
    clear S3 S4 S5 hlen hI2 hl2 kB hownY hgY hatY
    go_wp2_with fail
    go_ret
    exact hP.out
  · by_cases hl0 : 0 < c.length
    · have d0 : decide ((0 : Int) < (c.length : Int)) = true := decide_eq_true (by omega)
      have hcall := Lib.hid (among_four S2.out.cur hv (by omega))
      go_wp2_with fail
      refine hcall.out.mono ?_
      rintro e w3 ⟨_, ⟨z, hz3, hz4, rfl⟩, rfl, hi3, hc3⟩
      have S3 := (S2.out.alloc _).turn hi3 hc3
      obtain ⟨gx, cap', cur, e1, -, hh, -, -, -, ht⟩ := own_block (S3.own (i := 0) rfl) hl0
      simp only [Value.slice.injEq] at e1
      obtain ⟨rfl, -, rfl⟩ := e1
      have hcx := (own_at hh ht (o := 0) (by omega)).1
      have hfx := (own_at hh ht (o := 0) (by omega)).2
      have S4 := S3.own_put (i := 0) rfl (.int .i64 z) (o := 0) (by omega)
      have hI2 : AllI (c.set 0 z) := fun y hy => by
        rcases List.mem_or_eq_of_mem_set hy with hy | rfl
        · exact hI.out y hy
        · unfold I64; omega
      have hlen : (c.set 0 z).length = c.length := by simp
      have S5 : CS w g ca cl cc (A + 80) (w3.setCell ⟨gx, 0, none⟩ (.int .i64 z)) [Own 3 1 (.slice (some ⟨gx, 0, none⟩) (c.set 0 z).length cap) (c.set 0 z).length ((c.set 0 z).map (.int .i64))] := by
        rw [hlen, List.map_set]; exact S4.mono (by omega)
      have hP := rowPost_of (n := 5) (R := AllI) (A := A + 80) S5 (i := 0) rfl (by omega) hI2 (by omega)
      rw [hlen] at hP
      replace hP := Lib.hid hP
      have hcx' : ∃ u, w3.cell? ⟨gx, 0, none⟩ = some u := by
        rw [hcx]
        exact ⟨_, List.getElem?_eq_getElem (by simp; omega)⟩
      obtain ⟨u, hu⟩ := hcx'
      clear S2 S3 S4 S5 hI2 hh ht hcx hi3 hc3 hcall hlen
      go_wp2_with fail
      go_ret
      exact hP.out
    · have d0 : decide ((0 : Int) < (c.length : Int)) = false := decide_eq_false (by omega)
      have hP := Lib.hid (rowPost_of (n := 5) (R := AllI) (A := A + 80) S2.out (i := 0) rfl (by omega) hI.out (by omega))
      clear S2
      go_wp2_with fail
      go_ret
      exact hP.out
  · by_cases hl0 : 1 < c.length
    · have d0 : decide ((1 : Int) < (c.length : Int)) = true := decide_eq_true (by omega)
      obtain ⟨gx, cap', cur, e1, -, hh, -, -, -, ht⟩ := own_block (S2.out.own (i := 0) rfl) (by omega)
      simp only [Value.slice.injEq] at e1
      obtain ⟨rfl, -, rfl⟩ := e1
      obtain ⟨x0, hx0'⟩ : ∃ z, (c.map (Value.int .i64))[0]? = some (.int .i64 z) ∧ c[0]? = some z := ⟨c[0], by rw [List.getElem?_map, List.getElem?_eq_getElem]; rfl, List.getElem?_eq_getElem _⟩
      obtain ⟨x1, hx1'⟩ : ∃ z, (c.map (Value.int .i64))[1]? = some (.int .i64 z) ∧ c[1]? = some z := ⟨c[1], by rw [List.getElem?_map, List.getElem?_eq_getElem]; rfl, List.getElem?_eq_getElem _⟩
      have k0 := (own_at hh ht (o := 0) (by omega)).1.trans hx0'.1
      have k1 := (own_at hh ht (o := 1) (by omega)).1.trans hx1'.1
      have f0 := (own_at hh ht (o := 0) (by omega)).2
      have f1 := (own_at hh ht (o := 1) (by omega)).2
      have S3 := S2.out.own_put (i := 0) rfl (.int .i64 x1) (o := 0) (by omega)
      have S4 := S3.own_put (i := 0) rfl (.int .i64 x0) (o := 1) (by omega)
      have hI2 : AllI ((c.set 0 x1).set 1 x0) := fun y hy => by
        rcases List.mem_or_eq_of_mem_set hy with hy | rfl
        · rcases List.mem_or_eq_of_mem_set hy with hy | rfl
          · exact hI.out y hy
          · exact hI.out _ (List.mem_of_getElem? hx1'.2)
        · exact hI.out _ (List.mem_of_getElem? hx0'.2)
      have hlen : ((c.set 0 x1).set 1 x0).length = c.length := by simp
      have S5 : CS w g ca cl cc (A + 80) ((w2.setCell ⟨gx, 0, none⟩ (.int .i64 x1)).setCell ⟨gx, 1, none⟩ (.int .i64 x0)) [Own 3 1 (.slice (some ⟨gx, 0, none⟩) ((c.set 0 x1).set 1 x0).length cap) ((c.set 0 x1).set 1 x0).length (((c.set 0 x1).set 1 x0).map (.int .i64))] := by
        rw [hlen, List.map_set, List.map_set]; exact S4.mono (by omega)
      have hP := rowPost_of (n := 5) (R := AllI) (A := A + 80) S5 (i := 0) rfl (by omega) hI2 (by omega)
      rw [hlen] at hP
      replace hP := Lib.hid hP
      have hI64a : I64 x0 := hI.out _ (List.mem_of_getElem? hx0'.2)
      have hI64b : I64 x1 := hI.out _ (List.mem_of_getElem? hx1'.2)
      clear S2 S3 S4 S5 hI2 hh ht hlen hx0' hx1'
      go_wp2_with fail
      go_ret
      exact hP.out
    · have d0 : decide ((1 : Int) < (c.length : Int)) = false := decide_eq_false (by omega)
      have hP := Lib.hid (rowPost_of (n := 5) (R := AllI) (A := A + 80) S2.out (i := 0) rfl (by omega) hI.out (by omega))
      clear S2
      go_wp2_with fail
      go_ret
      exact hP.out
  · have x0 : (x == 0) = false := by simp; omega
    have x1 : (x == 1) = false := by simp; omega
    have x2 : (x == 2) = false := by simp; omega
    have hP := Lib.hid (rowPost_of (n := 5) (R := AllI) (A := A + 80) S2.out (i := 0) rfl (by omega) hI.out (by omega))
    clear S2
    go_wp2_with fail
    go_ret
    exact hP.out
end Go.Proofs.YtahbepajeplcmaaGreatDoor

/- Contracts: numbers of variables that are drawn, mostly up to five. -/
namespace Go.Proofs.YtahbepajeplcmaaGreatDoor
open Go.RowKit

set_option maxRecDepth 100000 in
set_option maxHeartbeats 4000000 in
theorem cur_vars2 (A g : Nat) (ca : Option Addr) (cl cc : Nat) (w : World) (h : CurIs A g ca cl cc w) (hA : A ≤ 80000000) :
    Calls Tryz.prog 73 #[.pointer (some ⟨g, 0, none⟩)] w (CurPost (IntIn (-1) 13) (A + 4) g ca cl cc w) := by
  have hg := h.lt
  have S0 := Lib.hid ((CS.start h).alloc_box #[.int .i64 3, .int .i64 3, .int .i64 4, .int .i64 4, .int .i64 5, .int .i64 2, .int .i64 12, .int .i64 1, .int .i64 0, .int .i64 13, .int .i64 (-1)] 3)
  go_enter Tryz.func73, Tryz.ntmps73
  go_wp2_with fail
  refine (cur_pick_at (lo := 0) (hi := 23) S0.out.cur (by omega) (by omega) (by omega) (by omega) (by omega)).mono ?_
  rintro e w1 ⟨_, ⟨x, hx0, hx1, rfl⟩, rfl, hi1, hc1⟩
  have S1 := Lib.hid (S0.out.turn hi1 hc1)
  have hcell : ∀ j, j < 11 → ∃ x, (-1 : Int) ≤ x ∧ x ≤ 13 ∧ w1.cell? ⟨w.heap.size, 0 + j, none⟩ = some (.int .i64 x) := fun j hj => by
    rw [Nat.zero_add]
    match j, hj with
    | 0, _ => exact ⟨_, by decide, by decide, S1.out.cell (i := 0) rfl rfl⟩
    | 1, _ => exact ⟨_, by decide, by decide, S1.out.cell (i := 0) rfl rfl⟩
    | 2, _ => exact ⟨_, by decide, by decide, S1.out.cell (i := 0) rfl rfl⟩
    | 3, _ => exact ⟨_, by decide, by decide, S1.out.cell (i := 0) rfl rfl⟩
    | 4, _ => exact ⟨_, by decide, by decide, S1.out.cell (i := 0) rfl rfl⟩
    | 5, _ => exact ⟨_, by decide, by decide, S1.out.cell (i := 0) rfl rfl⟩
    | 6, _ => exact ⟨_, by decide, by decide, S1.out.cell (i := 0) rfl rfl⟩
    | 7, _ => exact ⟨_, by decide, by decide, S1.out.cell (i := 0) rfl rfl⟩
    | 8, _ => exact ⟨_, by decide, by decide, S1.out.cell (i := 0) rfl rfl⟩
    | 9, _ => exact ⟨_, by decide, by decide, S1.out.cell (i := 0) rfl rfl⟩
    | 10, _ => exact ⟨_, by decide, by decide, S1.out.cell (i := 0) rfl rfl⟩
  replace hcell := Lib.hid hcell
  clear S0 hc1
  obtain ⟨k, hk, hkx⟩ : ∃ k : Nat, k ≤ 3 ∧ x.tdiv 6 = (k : Int) := ⟨(x / 6).toNat, by omega, by rw [Int.tdiv_eq_ediv_of_nonneg hx0]; omega⟩
  have hq : ∀ m, 7 ≤ m → m ≤ 11 → Calls Tryz.prog 87 #[.pointer (some ⟨g, 0, none⟩), .slice (some ⟨w.heap.size, 0, none⟩) m 11] w1 (CurPost (IntIn (-1) 13) (A + 2 + 2) g ca cl cc w1) := fun m h1 h2 =>
    cur_among (-1) 13 w.heap.size 0 m 11 (A + 2) g ca cl cc w1 hi1 (by omega) (by omega) (by omega) (fun j hj => hcell.out j (by omega)) (by omega)
  replace hq := Lib.hid hq
  clear hi1
  have hk3 : k = 0 ∨ k = 1 ∨ k = 2 ∨ k = 3 := by omega
  rcases hk3 with rfl | rfl | rfl | rfl
  all_goals
    go_wp2_with fail
    refine (hq.out _ (by decide) (by decide)).mono ?_
    rintro e w2 ⟨_, ⟨z, hz0, hz1, rfl⟩, rfl, hi2, hc2⟩
    have S2 := S1.out.turn hi2 hc2
    have hC := S2.chg
    clear S1 S2 hc2 hq hcell
    go_wp2_with fail
    go_ret
    exact ⟨_, ⟨z, hz0, hz1, rfl⟩, rfl, hi2, hC⟩
end Go.Proofs.YtahbepajeplcmaaGreatDoor

/- Joined parts beside a cursor; a known Cnf, weakly, and the texts without models. -/
namespace Go.Proofs.YtahbepajeplcmaaGreatDoor
open Go.RowKit

section
variable {w0 w w' : World} {g cl cc A A' : Nat} {ca : Option Addr} {ps qs : List Asn}
theorem CS.comp (h : CS w0 g ca cl cc A w ps) (k : CS w g ca cl cc A' w' qs) : CS w0 g ca cl cc A' w' (qs ++ ps) := by
  have hg := h.glt
  have hsz := h.chg.size
  obtain ⟨h0, h1, h2, F, h3, h4⟩ := h
  obtain ⟨k0, k1, k2, G, k3, k4⟩ := k
  have hk := sep_keep h3 fun b hm => k2.block b (sep_lt h3 b hm) fun hb => by
    obtain rfl : b = g := by simpa using hb
    have := h4 b hm; omega
  refine ⟨h0, k1, h2.trans k2, G ++ F, sep_append k3 hk (fun b hb hb2 => ?_), fun b hb => ?_⟩
  · have := k4 b hb; have := sep_lt h3 b hb2; omega
  · rcases List.mem_append.1 hb with hb | hb
    · have := k4 b hb; omega
    · exact h4 b hb
theorem CS.front (h : CS w0 g ca cl cc A w (qs ++ ps)) : CS w0 g ca cl cc A w qs := by
  obtain ⟨h0, h1, h2, F, h3, h4⟩ := h
  obtain ⟨G, h5, h6⟩ := sep_front h3
  exact ⟨h0, h1, h2, G, h5, fun b hb => h4 b (h6 b hb)⟩
theorem row_cs {v : Value} {c : List Int} (h : CurIs A g ca cl cc w) (hi : CurIs A' g ca cl cc w') (hc : Chg [g] w w') (ho : w'.ownsRow w.heap.size 3 1 v c.length (c.map (.int .i64))) :
    CS w g ca cl cc A' w' [Own 3 1 v c.length (c.map (.int .i64))] :=
  ⟨⟨A, h⟩, hi, hc, _, ⟨v.ownBlock.toList, [], by rw [List.append_nil], by simp, ⟨rfl, owns_zero ho⟩, rfl⟩, fun b hb => owns_ge ho b (by simpa using hb)⟩
end
def TextLe (n : Nat) (s : ByteArray) : Prop := s.size ≤ n
theorem text_le {n : Nat} {s : ByteArray} (h : decide (s.size ≤ n) = true) : TextLe n s := show s.size ≤ n from of_decide_eq_true h
theorem strsR_new {R : ByteArray → Prop} {W : World} {cs : Array Value} {t : TypeId} {b n : Nat} (hb : b = W.heap.size) (h : ∀ j, j < n → ∃ s, cs[j]? = some (.string s) ∧ R s) : StrsR R (W.alloc (.cells cs t)) b 0 n := fun j hj => by
  obtain ⟨s, h1, h2⟩ := h j hj
  subst hb
  refine ⟨s, h2, ?_⟩
  rw [Nat.zero_add]
  exact (cell_of_row _ _ _ _ _ _ (heap_alloc_new W _)).trans h1

/-- A small Cnf of its own. -/
def CnfV (w : World) (e : Ending) (w' : World) : Prop := ∃ (vars : Int) (B : Option Addr) (cap : Nat) (cs : List Value) (xss : List (List Int)), e = .returned (.agg #[.int .i64 vars, .slice B xss.length cap]) ∧ 0 ≤ vars ∧ vars ≤ 12 ∧ xss.length ≤ 60 ∧ SmallC xss ∧
  Sp w w' [Rows Ty.int 43 (.slice B xss.length cap) cs xss]

set_option maxHeartbeats 2000000 in
theorem l2KnownW_any (s : ByteArray) (w : World) (hs : s.size ≤ 100000) : Calls Tryz.prog 106 #[.string s] w (CnfV w) := by
  have S0 := Lib.hid ((Sp.start w).alloc_box #[.int .i64 0, .slice none 0 0] 61)
  go_enter Tryz.func106, Tryz.ntmps106
  go_wp2_with fail
  refine (parseCnfW_any s _ hs).mono ?_
  rintro e w1 ⟨vars, B, cap, cs, xss, q, rfl, hv0, hv1, hl, HC, T1⟩
  replace HC := Lib.hid HC
  have S1 := (S0.out.seq T1).alloc_box #[.int .i64 vars, .slice B xss.length cap] 61
  obtain ⟨ob, hob⟩ : ∃ ob, w1.heap.size = ob := ⟨_, rfl⟩
  rw [hob] at S1
  have l0 := S1.cell (i := 0) rfl (o := 0) rfl
  have l1 := S1.cell (i := 0) rfl (o := 1) rfl
  have r0 := S1.cell (i := 2) rfl (o := 0) rfl
  have r1 := S1.cell (i := 2) rfl (o := 1) rfl
  have f0 := S1.frozen (i := 2) rfl 0
  have f1 := S1.frozen (i := 2) rfl 1
  have SF := (S1.store (i := 2) rfl 0 (.int .i64 vars)).store (i := 2) rfl 1 (.slice B xss.length cap)
  have j0 := SF.cell (i := 2) rfl (o := 0) rfl
  have j1 := SF.cell (i := 2) rfl (o := 1) rfl
  have hR := Lib.hid (Sp.front (qs := [_]) SF.tail)
  clear SF S1 S0 T1
  go_wp2_with fail
  exact bodyPost_ret (v := .agg #[.int .i64 vars, .slice B xss.length cap]) (by simp [results, Tryz.results106, go_sem, j0, j1]) rfl ⟨vars, B, cap, cs, xss, rfl, hv0, hv1, hl, HC.out, hR.out⟩

set_option maxHeartbeats 2000000 in
theorem l2Hard_any (w : World) : Calls Tryz.prog 186 #[] w fun e w' => e = .returned (.slice (some ⟨w.heap.size, 0, none⟩) 15 15) ∧ StrsR (TextLe 100) w' w.heap.size 0 15 ∧ Below w.heap.size w w' := by
  go_enter Tryz.func186, Tryz.ntmps186
  go_wp2_with fail
  go_ret
  refine ⟨rfl, strsR_new rfl fun j hj => ?_, bal (bb _) _⟩
  match j, hj with
  | 0, _ => exact ⟨_, rfl, text_le (by decide)⟩
  | 1, _ => exact ⟨_, rfl, text_le (by decide)⟩
  | 2, _ => exact ⟨_, rfl, text_le (by decide)⟩
  | 3, _ => exact ⟨_, rfl, text_le (by decide)⟩
  | 4, _ => exact ⟨_, rfl, text_le (by decide)⟩
  | 5, _ => exact ⟨_, rfl, text_le (by decide)⟩
  | 6, _ => exact ⟨_, rfl, text_le (by decide)⟩
  | 7, _ => exact ⟨_, rfl, text_le (by decide)⟩
  | 8, _ => exact ⟨_, rfl, text_le (by decide)⟩
  | 9, _ => exact ⟨_, rfl, text_le (by decide)⟩
  | 10, _ => exact ⟨_, rfl, text_le (by decide)⟩
  | 11, _ => exact ⟨_, rfl, text_le (by decide)⟩
  | 12, _ => exact ⟨_, rfl, text_le (by decide)⟩
  | 13, _ => exact ⟨_, rfl, text_le (by decide)⟩
  | 14, _ => exact ⟨_, rfl, text_le (by decide)⟩
end Go.Proofs.YtahbepajeplcmaaGreatDoor
