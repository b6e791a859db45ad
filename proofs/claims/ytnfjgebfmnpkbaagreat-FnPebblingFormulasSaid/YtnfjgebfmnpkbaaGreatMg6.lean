/- Lemmas and contracts for a law, put together out of several texts: AsB AsC AsD TcA MdK MdS PnC AsE CtC CtD CtE CtS DuD CtF CtG AsF AsG AsH AsI. -/
import Derived.Test.YtnfjgebfmnpkbaaGreatMg5
import Derived.Test.YtnfjgebfmnpkbaaGreatMg4
import Derived.Test.YtnfjgebfmnpkbaaGreatMg2
import Derived.Test.YtnfjgebfmnpkbaaGreatMg3
import Derived.Test.YtnfjgebfmnpkbaaGreatMg1
import Derived.Laws.BitsLemmas
import Derived.Test.YtnfjgebfmnpkbaaGreatShelfB
/- Plain facts: literals sorted by their variables, without repetitions. No program in sight. -/
namespace Go.Proofs.YtnfjgebfmnpkbaaGreat
open Go.RowKit

/-- The size of a number, as the program reckons it. -/
def absW (l : Int) : Int := if l < wrap64 (-l) then wrap64 (-l) else l
theorem absW_lit {l : Int} (h : LitS l) : absW l = absV l := by
  rw [h.abs]
  unfold LitS at h
  unfold absW wrap64
  split <;> split <;> omega
/-- The order of literals: by variables, the positive one first. -/
def cmpL (a b : Int) : Int := if absW a < absW b then -1 else if absW b < absW a then 1 else if b < a then -1 else if a < b then 1 else 0
def befL (x y : Int) : Prop := absW x < absW y ∨ (absW x = absW y ∧ y < x)
theorem cmpL_neg {x y : Int} : cmpL x y < 0 ↔ befL x y := by
  unfold cmpL befL
  split
  · simp; omega
  · split
    · simp; omega
    · split
      · simp; omega
      · split <;> simp <;> omega
theorem befL_trans {a b c : Int} (h : befL a b) (k : befL b c) : befL a c := by unfold befL at *; omega
theorem befL_or {x y : Int} (h : ¬ befL y x) : befL x y ∨ x = y := by unfold befL at *; omega
def sortL (zs : List Int) : List Int := zs.mergeSort fun x y => !decide (cmpL y x < 0)
theorem sortL_weak (zs : List Int) : (sortL zs).Pairwise fun a b => befL a b ∨ a = b := by
  have h := List.pairwise_mergeSort (le := fun x y : Int => !decide (cmpL y x < 0)) (fun a b c h1 h2 => by
    simp only [Bool.not_eq_true', decide_eq_false_iff_not, cmpL_neg] at *
    unfold befL at *; omega) (fun a b => by
    simp only [Bool.or_eq_true, Bool.not_eq_true', decide_eq_false_iff_not, cmpL_neg]
    unfold befL; omega) zs
  refine h.imp fun h => befL_or ?_
  simpa only [Bool.not_eq_true', decide_eq_false_iff_not, cmpL_neg] using h
theorem compactR_asc {R : Int → Int → Prop} (ht : ∀ a b c, R a b → R b c → R a c) {l : List Int} (h : l.Pairwise fun a b => R a b ∨ a = b) : (Lib.compact l).Pairwise R := by
  unfold Lib.compact Lib.compactUpTo
  rw [List.pairwise_map]
  have hr : ((List.range l.length).filter (Lib.keeps l.toArray)).Pairwise (· < ·) := List.Pairwise.filter _ List.pairwise_lt_range
  refine hr.imp_of_mem fun {i j} hi hj hij => ?_
  have hil := List.mem_range.1 (List.mem_filter.1 hi).1
  have hjl := List.mem_range.1 (List.mem_filter.1 hj).1
  have hk := (List.mem_filter.1 hj).2
  rw [bangI hil, bangI hjl]
  have hget := List.pairwise_iff_getElem.1 h
  have hne : l[j] ≠ l[j - 1]'(by omega) := fun e => by
    have : Lib.keeps l.toArray j = false := Lib.keeps_neg (by omega) (by rw [bangI hjl, bangI (by omega)]; exact e)
    rw [this] at hk; cases hk
  have h1 : R (l[j - 1]'(by omega)) l[j] := by
    rcases hget (j - 1) j (by omega) hjl (by omega) with h | h
    · exact h
    · exact absurd h.symm hne
  by_cases e : i = j - 1
  · subst e; exact h1
  · rcases hget i (j - 1) hil (by omega) (by omega) with h | h
    · exact ht _ _ _ h h1
    · rw [h]; exact h1
def cptL (zs : List Int) : List Int := Lib.compact (sortL zs)
theorem cptL_asc (zs : List Int) : (cptL zs).Pairwise befL := by
  unfold cptL
  exact compactR_asc (R := befL) (fun _ _ _ => befL_trans) (sortL_weak zs)
theorem cptL_mem {zs : List Int} {x : Int} : x ∈ cptL zs ↔ x ∈ zs := by unfold cptL sortL; rw [compactI_mem, List.mem_mergeSort]
theorem cptL_len (zs : List Int) : (cptL zs).length ≤ zs.length := by
  have := Lib.compact_length_le (sortL zs)
  unfold cptL
  have h2 : (sortL zs).length = zs.length := List.length_mergeSort _
  omega
/-- No literal is followed by its negation, up to a place. -/
def okTo (out : List Int) (k : Nat) : Bool := (List.range k).all fun i => !(out.getD (i + 1) 0 == -(out.getD i 0))
theorem okTo_next {out : List Int} {k : Nat} (h : okTo out k = true) (h2 : (out.getD (k + 1) 0 == -(out.getD k 0)) = false) : okTo out (k + 1) = true := by
  unfold okTo at *
  rw [List.range_succ, List.all_append, h, Bool.true_and]
  simp only [List.all_cons, List.all_nil, Bool.and_true, h2]
  rfl
theorem okTo_no {out : List Int} {k n : Nat} (hk : k < n) (h : (out.getD (k + 1) 0 == -(out.getD k 0)) = true) : okTo out n = false := by
  unfold okTo
  rw [List.all_eq_false]
  exact ⟨k, List.mem_range.2 hk, by rw [h]; decide⟩
/-- The clause of literals. -/
def clauseR (zs : List Int) : Option (List Int) := if okTo (cptL zs) ((cptL zs).length - 1) then some (cptL zs) else none
theorem clauseR_some {zs : List Int} (hl : ∀ x ∈ zs, LitS x) (hn : ∀ x ∈ zs, -x ∉ zs) : clauseR zs = some (cptL zs) ∧ GoodS (cptL zs) := by
  have hm : ∀ x ∈ cptL zs, LitS x := fun x hx => hl x (cptL_mem.1 hx)
  constructor
  · unfold clauseR
    rw [if_pos]
    unfold okTo
    rw [List.all_eq_true]
    intro i hi
    have hi := List.mem_range.1 hi
    have h1 : i + 1 < (cptL zs).length := by omega
    rw [List.getD_eq_getElem?_getD, List.getD_eq_getElem?_getD, List.getElem?_eq_getElem h1, List.getElem?_eq_getElem (by omega : i < (cptL zs).length)]
    simp only [Option.getD_some, Bool.not_eq_true', beq_eq_false_iff_ne]
    intro e
    refine hn _ (cptL_mem.1 (List.getElem_mem (by omega : i < (cptL zs).length))) ?_
    rw [← e]
    exact cptL_mem.1 (List.getElem_mem h1)
  · refine ⟨hm, ?_⟩
    refine (cptL_asc zs).imp_of_mem fun {a b} ha hb h => ?_
    have la := hm a ha; have lb := hm b hb
    unfold befL at h
    rw [absW_lit la, absW_lit lb] at h
    rcases h with h | ⟨h, h2⟩
    · exact h
    · exfalso
      have : b = -a := by
        rw [la.abs, lb.abs] at h
        unfold LitS at la lb
        split at h <;> split at h <;> omega
      refine hn a (cptL_mem.1 ha) ?_
      rw [← this]
      exact cptL_mem.1 hb
theorem clauseR_none {zs : List Int} (hl : ∀ x ∈ zs, LitS x) {y : Int} (hy : y ∈ zs) (hy2 : -y ∈ zs) : clauseR zs = none := by
  have hm : ∀ x ∈ cptL zs, LitS x := fun x hx => hl x (cptL_mem.1 hx)
  obtain ⟨x, hx, hx2, h0⟩ : ∃ x, x ∈ cptL zs ∧ -x ∈ cptL zs ∧ 0 < x := by
    have := hl y hy
    unfold LitS at this
    by_cases h : 0 < y
    · exact ⟨y, cptL_mem.2 hy, cptL_mem.2 hy2, h⟩
    · exact ⟨-y, cptL_mem.2 hy2, by rw [Int.neg_neg]; exact cptL_mem.2 hy, by omega⟩
  unfold clauseR
  rw [if_neg]
  obtain ⟨i, hi, rfl⟩ := List.getElem_of_mem hx
  obtain ⟨j, hj, e⟩ := List.getElem_of_mem hx2
  have hp := List.pairwise_iff_getElem.1 (cptL_asc zs)
  have lx := hm _ (List.getElem_mem hi)
  have habs : absW (-(cptL zs)[i]) = absW (cptL zs)[i] := by
    have l2 := hm _ hx2
    rw [absW_lit lx, absW_lit l2, lx.abs, l2.abs]
    split <;> split <;> omega
  have hij : i < j := by
    rcases Nat.lt_trichotomy i j with h | h | h
    · exact h
    · subst h; omega
    · have := hp j i hj hi h
      rw [e] at this
      unfold befL at this; omega
  have hjn : j = i + 1 := by
    rcases Nat.lt_or_ge (i + 1) j with h | h
    · exfalso
      have h1 := hp i (i + 1) hi (by omega) (by omega)
      have h2 := hp (i + 1) j (by omega) hj h
      rw [e] at h2
      have l3 := hm _ (List.getElem_mem (by omega : i + 1 < (cptL zs).length))
      have l2 := hm _ hx2
      unfold befL at h1 h2
      rw [absW_lit lx, absW_lit l3, lx.abs, l3.abs] at h1
      rw [absW_lit l3, absW_lit l2, l3.abs, l2.abs] at h2
      unfold LitS at l3
      split at h1 <;> split at h1 <;> split at h2 <;> omega
    · omega
  rw [Bool.not_eq_true]
  refine okTo_no (k := i) (by omega) ?_
  rw [List.getD_eq_getElem?_getD, List.getD_eq_getElem?_getD, List.getElem?_eq_getElem (by omega : i + 1 < (cptL zs).length), List.getElem?_eq_getElem hi]
  subst hjn
  simp only [Option.getD_some, beq_iff_eq]
  exact e
theorem clauseR_join {a b : List Int} (ga : GoodS a) (gb : GoodS b) : clauseR (a ++ b) = joinS a b := by
  have hl : ∀ x ∈ a ++ b, LitS x := fun x hx => by
    rcases List.mem_append.1 hx with h | h
    · exact ga.mem x h
    · exact gb.mem x h
  rcases joinS_spec ga gb with ⟨h1, l, hl2, hn⟩ | ⟨c, h1, gc, hm, hn⟩
  · rw [h1]
    exact clauseR_none hl (List.mem_append.2 (.inr hl2)) (List.mem_append.2 (.inl hn))
  · rw [h1]
    obtain ⟨h2, g2⟩ := clauseR_some hl fun x hx hx2 => by
      rcases List.mem_append.1 hx with h | h <;> rcases List.mem_append.1 hx2 with h' | h'
      · exact ga.clash h h'
      · exact hn _ h' (by rw [Int.neg_neg]; exact h)
      · exact hn x h h'
      · exact gb.clash h h'
    rw [h2]
    congr 1
    exact g2.ext gc fun x => by rw [cptL_mem, List.mem_append, hm]
theorem without_good {c : List Int} (h : GoodS c) (v : Int) : GoodS (withoutB c v) := ⟨fun l hl => h.mem l (List.mem_filter.1 hl).1, h.asc.filter _⟩
theorem memS_without {c : List Int} {v x : Int} : x ∈ withoutB c v ↔ x ∈ c ∧ absV x ≠ v := by
  unfold withoutB
  rw [List.mem_filter]
  simp
/-- A literal is set. -/
def setS (a : List Int) (l : Int) : List Int := putB (withoutB a (absV l)) l
theorem set_good {a : List Int} (ga : GoodS a) {l : Int} (hl : LitS l) : GoodS (setS a l) := (without_good ga _).put hl fun y hy => (memS_without.1 hy).2
theorem clauseR_set {a : List Int} (ga : GoodS a) {l : Int} (hl : LitS l) : clauseR (withoutB a (absV l) ++ [l]) = some (setS a l) := by
  have gw := without_good ga (absV l)
  have habs : absV (-l) = absV l := by
    have h2 : LitS (-l) := by unfold LitS at *; omega
    rw [hl.abs, h2.abs]; split <;> split <;> omega
  obtain ⟨h2, g2⟩ := clauseR_some (zs := withoutB a (absV l) ++ [l]) (fun x hx => by
    rcases List.mem_append.1 hx with h | h
    · exact gw.mem x h
    · obtain rfl : x = l := by simpa using h
      exact hl) fun x hx hx2 => by
    rcases List.mem_append.1 hx with h | h <;> rcases List.mem_append.1 hx2 with h' | h'
    · exact gw.clash h h'
    · have e : -x = l := by simpa using h'
      have : x = -l := by omega
      subst this
      exact (memS_without.1 h).2 habs
    · obtain rfl : x = l := by simpa using h
      exact (memS_without.1 h').2 habs
    · obtain rfl : x = l := by simpa using h
      have e : -x = x := by simpa using h'
      unfold LitS at hl; omega
  rw [h2]
  congr 1
  exact g2.ext (set_good ga hl) fun x => by
    unfold setS
    rw [cptL_mem, memS_putB, List.mem_append]
    simp [or_comm]
end Go.Proofs.YtnfjgebfmnpkbaaGreat

/- Contract: clauses joined, in the reference, to the word. -/
namespace Go.Proofs.YtnfjgebfmnpkbaaGreat
open Go.RowKit

theorem joinS_no {out b : List Int} {l : Int} (h : hasI out (-l) = true) : joinS out (l :: b) = none := by unfold joinS; rw [if_pos h]
theorem joinS_has {out b : List Int} {l : Int} (h : hasI out (-l) = false) (h2 : hasI out l = true) : joinS out (l :: b) = joinS out b := by rw [joinS, if_neg (by rw [h]; simp), if_pos h2]
theorem joinS_put {out b : List Int} {l : Int} (h : hasI out (-l) = false) (h2 : hasI out l = false) : joinS out (l :: b) = joinS (putB out l) b := by rw [joinS, if_neg (by rw [h]; simp), if_neg (by rw [h2]; simp)]

set_option maxRecDepth 100000 in
set_option maxHeartbeats 4000000 in
theorem l2JoinS_any (v u : Value) (a b : List Int) (F G : List Nat) (w : World) (hx : Ty.int.row false w v a F) (hy : Ty.int.row false w u b G) (wa : Within 1000 a) (wb : Within 1000 b) (la : a.length ≤ 1000) (lb : b.length ≤ 1000) :
    Calls Tryz.prog 78 #[v, u] w (IAns w (joinS a b).isSome ((joinS a b).getD [])) := by
  obtain ⟨aa, ac, rfl, _, _⟩ := Ty.row_len hx
  obtain ⟨ba, bc, rfl, hy1, hy2, _, hy3⟩ := row_int hy
  go_enter Tryz.func78, Tryz.ntmps78
  go_wp2_with fail
  refine (l1Own_any _ a F w hx (by omega)).mono ?_
  rintro e w1 ⟨v1, rfl, ho1, hb1⟩
  have S0 := (Sp.start w).own_call hb1 ho1
  obtain ⟨a1, c1, rfl⟩ := owns_form ho1
  replace S0 := Lib.hid S0
  have hW0 := Lib.hid wa
  have hj0 : Hid (joinS a (b.drop 0) = joinS a b) := by unfold Hid; rw [List.drop_zero]
  clear ho1 hb1
  go_wp2_with fail
  go_loopw [6, 7] (fun s i wr => ∃ (k : Nat) (out : List Int), k ≤ b.length ∧ i = .int .i64 k ∧ out.length ≤ a.length + k ∧ Hid (Within 1000 out) ∧ Hid (joinS out (b.drop k) = joinS a b) ∧ Hid (Sp w wr [Own 3 1 s out.length (out.map (.int .i64))])) (fun _ i _ => b.length - (intOf i).toNat)
  case atStart => exact ⟨0, a, Nat.zero_le _, rfl, by omega, hW0, hj0, S0⟩
  case round =>
    obtain ⟨k, out, hk, rfl, hol, HW, HJ, HS⟩ := hrel
    clear hj0
    clear S0
    obtain ⟨sa, sc, rfl⟩ := owns_form (HS.out.own (i := 0) rfl)
    by_cases hlt : k < b.length
    · rcases hy3 with ⟨rfl, rfl⟩ | ⟨hyn, bk, off, rfl, rfl, hyc⟩
      · exact absurd hlt (by simp)
      have hB := HS.out.below
      have k0 := ((hyc k hlt).keep (hB.block bk (hyc k hlt).lt)).1
      have hl6 := wb _ (List.getElem_mem hlt)
      obtain ⟨H, hrow', -, -⟩ := own_row (HS.out.own (i := 0) rfl) (HW.out.i64 (by decide))
      have hrow := Ty.row_down hrow'
      have hd := List.drop_eq_getElem_cons hlt
      obtain ⟨l, hl⟩ : ∃ l, l = b[k] := ⟨_, rfl⟩
      rw [← hl] at k0 hl6 hd
      have HJ2 := HJ.out
      rw [hd] at HJ2
      replace hd := Lib.hid hd
      have hneg : wrap64 (-l) = -l := by unfold wrap64; omega
      have hl0 : -1000 ≤ l := hl6.1
      have hl1 : l ≤ 1000 := hl6.2
      replace hl := Lib.hid hl
      clear hyc hB hl hl6 hrow'
      cases hq : hasI out (-l)
      · cases hq2 : hasI out l
        · rw [joinS_put hq hq2] at HJ2
          replace HJ2 := Lib.hid HJ2
          have HN := Lib.hid (within_put HW.out ⟨hl0, hl1⟩)
          have hpl := Lib.hid (put_len out l)
          have hol9 : out.length ≤ 1000000000 := by omega
          go_wp2_with (first
            | (go_at_call 89; (first | (with_reducible refine (l2Has_at hrow hq).mono ?_) | (with_reducible refine (l2Has_at hrow hq2).mono ?_)); rintro e w2 ⟨rfl, rfl⟩)
            | (go_at_call 90; (with_reducible refine (l2Put_any _ out l H _ hrow hol9).mono ?_); rintro e w2 ⟨v2, rfl, ho2, hb2⟩))
          have S1 := (HS.out.own_call hb2 ho2).drop2w
          obtain ⟨a2, c2, rfl⟩ := owns_form ho2
          replace S1 := Lib.hid S1
          clear ho2 hb2 HS hrow HJ hd
          generalize putB out l = out2 at *
          go_wp2_with fail
          go_roundw
          case rel => exact ⟨k + 1, out2, by omega, by go_num, by rw [hpl.out]; omega, HN, HJ2, S1⟩
          case measure => simp [intOf]; omega
        · rw [joinS_has hq hq2] at HJ2
          replace HJ2 := Lib.hid HJ2
          clear HJ hd
          go_wp2_with (first
            | (go_at_call 89; (first | (with_reducible refine (l2Has_at hrow hq).mono ?_) | (with_reducible refine (l2Has_at hrow hq2).mono ?_)); rintro e w2 ⟨rfl, rfl⟩))
          go_roundw
          case rel => exact ⟨k + 1, out, by omega, by go_num, by omega, HW, HJ2, HS⟩
          case measure => simp [intOf]; omega
      · rw [joinS_no hq] at HJ2
        replace HJ2 := Lib.hid HJ2
        clear HJ hd
        go_wp2_with (first
          | (go_at_call 89; (first | (with_reducible refine (l2Has_at hrow hq).mono ?_)); rintro e w2 ⟨rfl, rfl⟩))
        have S1 := Lib.hid (HS.out.own_made 3 1)
        go_ret2
        rw [← HJ2.out]
        exact ⟨_, _, rfl, IntsAt.nil _ _, S1.out.below⟩
    · obtain rfl : k = b.length := by omega
      have HJ2 := HJ.out
      rw [List.drop_length] at HJ2
      replace HJ2 := Lib.hid HJ2
      clear HJ
      go_wp2_with fail
      go_ret2
      rw [← HJ2.out]
      exact ⟨_, _, rfl, HS.out.ints (i := 0) rfl (HW.out.i64 (by decide)), HS.out.below⟩

end Go.Proofs.YtnfjgebfmnpkbaaGreat

/- Contracts: two rows of numbers put together, in the library; a variable left out of a clause, in the program. -/
namespace Go.Proofs.YtnfjgebfmnpkbaaGreat
open Go.RowKit Go.Shelf

/- left out: the seat has no slices.Grow[[]int,int] -/

/- left out: the seat has no slices.Grow[[]int,int] -/

/- left out: the seat has no slices.Concat[[]int,int] -/

set_option maxHeartbeats 1000000 in
theorem withoutVar1_any (l v : Int) (hl : LitS l) (b : Nat) (w : World) (c0 : w.cell? ⟨b, 0, none⟩ = some (.int .i64 v)) :
    Calls Tryz.prog 81 #[.int .i64 l, .pointer (some ⟨b, 0, none⟩)] w fun e w' => e = .returned (.bool (absV l == v)) ∧ Below w.heap.size w w' := by
  obtain ⟨x, hx⟩ : ∃ x, absV l = x := ⟨_, rfl⟩
  have habs := Lib.hid (fun W => abs_at hl.i64 hx W)
  rw [hx]
  have k0 := cell_regrown c0
  clear hx c0
  go_enter Tryz.func81, Tryz.ntmps81
  go_wp2_with fail
  refine wp_region_quiet_below (by kernel_rfl) (by kernel_rfl) ?_
  repeat (any_goals (first | go_big_quiet_step ((go_at_call 70; exact Calls.regrown_of (habs.out _)))))
  refine wpQuiet_nil ?_
  rintro w3 ⟨p, rfl⟩
  have hB := Lib.hid (below_regrown w p.d p.os)
  clear k0
  go_wp2_with fail
  go_ret
  exact ⟨rfl, hB.out⟩

set_option maxHeartbeats 1000000 in
theorem withoutVar_any (c : List Int) (A : Option Addr) (cap : Nat) (v : Int) (w : World) (hx : IntsAt w A c) (hc : ∀ l ∈ c, LitS l) (hl : c.length ≤ 1000) :
    Calls Tryz.prog 73 #[.slice A c.length cap, .int .i64 v] w (OneI w (withoutB c v)) := by
  have eg : Enter1 81 := enters_of Tryz.func81 (by kernel_rfl) rfl
  have S0 := (Sp.start w).alloc_box #[.int .i64 v] 3
  have hcl := Lib.hid (cloneA_any A cap c _ (hx.grow S0.below) (by omega))
  have hok := Lib.hid hx.ok
  have hcH := Lib.hid hc
  replace S0 := Lib.hid S0
  obtain ⟨zs, hzs⟩ : ∃ zs, withoutB c v = zs := ⟨_, rfl⟩
  rw [hzs]
  unfold withoutB at hzs
  replace hzs := Lib.hid hzs
  clear hx hc
  go_enter Tryz.func73, Tryz.ntmps73
  go_wp2_with fail
  refine hcl.out.mono ?_
  rintro e w1 ⟨D, dc, rfl, T⟩
  have S1 : Sp w w1 [Own 3 1 (.slice D c.length dc) c.length (c.map (.int .i64)), Box w.heap.size 3 #[.int .i64 v]] := S0.out.seq T
  have hdel := Lib.hid (deleteFuncI_any (cb := #[.pointer (some ⟨w.heap.size, 0, none⟩)]) (p := fun l => absV l == v) (R := LitS) eg c D dc w w1 _ S1 hok.out (by omega) hcH.out fun x ys W hR SW => withoutVar1_any x v hR w.heap.size W (SW.cell (i := 1) rfl (o := 0) rfl))
  rw [hzs.out] at hdel
  clear S0 S1 T hcl
  go_wp2_with fail
  refine hdel.out.mono ?_
  rintro e w2 ⟨rfl, S8, -⟩
  have S9 := Lib.hid (S8.pick (qs := [Own 3 1 (.slice D zs.length dc) zs.length (zs.map (.int .i64))]) [0] rfl)
  clear S8 hdel
  go_wp2_with fail
  go_ret
  exact ⟨D, dc, rfl, S9.out⟩
end Go.Proofs.YtnfjgebfmnpkbaaGreat

/- Contracts: total assignments and the value of a clause, in the reference. -/
namespace Go.Proofs.YtnfjgebfmnpkbaaGreat
open Go.RowKit

/-- The total assignment of bits. -/
def totI (b i : Nat) : Int := if b.testBit i then (i : Int) + 1 else -((i : Int) + 1)
def totB (n b : Nat) : List Int := (List.range n).map (totI b)
theorem tot_len (n b : Nat) : (totB n b).length = n := by simp [totB]
theorem tot_snoc (n b : Nat) : totB (n + 1) b = totB n b ++ [totI b n] := by simp [totB, List.range_succ]
theorem tot_ok (n b : Nat) (hn : n ≤ 1000) : ∀ x ∈ totB n b, I64 x := by
  intro x hx
  obtain ⟨i, hi, rfl⟩ := List.mem_map.1 hx
  have := List.mem_range.1 hi
  unfold totI I64
  split <;> omega
theorem has_tot {n b : Nat} {l : Int} (h0 : l ≠ 0) (h1 : -(n : Int) ≤ l) (h2 : l ≤ n) : hasI (totB n b) l = litT b l := by
  unfold hasI litT
  rw [Bool.eq_iff_iff, List.contains_iff_mem]
  constructor
  · intro hm
    obtain ⟨i, hi, he⟩ := List.mem_map.1 hm
    unfold totI at he
    by_cases ht : b.testBit i = true
    · rw [if_pos ht] at he
      rw [show l.natAbs - 1 = i by omega, ht, decide_eq_true (by omega)]; rfl
    · rw [if_neg ht] at he
      rw [show l.natAbs - 1 = i by omega, Bool.eq_false_iff.2 ht, decide_eq_false (by omega)]; rfl
  · intro hb
    refine List.mem_map.2 ⟨l.natAbs - 1, List.mem_range.2 (by omega), ?_⟩
    unfold totI
    by_cases hp : 0 < l
    · rw [decide_eq_true hp] at hb
      have : b.testBit (l.natAbs - 1) = true := by simpa using hb
      rw [if_pos this]; omega
    · rw [decide_eq_false hp] at hb
      have : b.testBit (l.natAbs - 1) = false := by simpa using hb
      rw [this, if_neg (by simp)]; omega

/- left out: the seat has no spec.l3Total -/

/-- What l3Value tells. -/
def valP (c a : List Int) (e : Ending) : Prop := ∃ z : Int, e = .returned (.int .i64 z) ∧ (z == 1) = c.any (hasI a)
/- left out: the seat has no spec.l3Value -/
end Go.Proofs.YtnfjgebfmnpkbaaGreat

/- Contract: total assignments in the program. -/
namespace Go.Proofs.YtnfjgebfmnpkbaaGreat
open Go.RowKit

/- left out: the seat has no impl.total -/
end Go.Proofs.YtnfjgebfmnpkbaaGreat

/- Contract: the backbone of a Cnf, in the program. -/
namespace Go.Proofs.YtnfjgebfmnpkbaaGreat
open Go.RowKit

/-- The literals of a model that are true for all models up to k. -/
def keepK (n : Nat) (xss : List (List Int)) (f k : Nat) : List Int := (totB n f).filter fun l => (mods (modT xss) k).all fun b => litT b l
theorem mods_no {p : Nat → Bool} {k : Nat} (h : p k = false) : mods p (k + 1) = mods p k := by simp [mods, List.range_succ, List.filter_append, h]
theorem mods_yes {p : Nat → Bool} {k : Nat} (h : p k = true) : mods p (k + 1) = mods p k ++ [k] := by simp [mods, List.range_succ, List.filter_append, h]
theorem keep_no {n f k : Nat} {xss : List (List Int)} (h : modT xss k = false) : keepK n xss f (k + 1) = keepK n xss f k := by unfold keepK; rw [mods_no h]
theorem keep_yes {n f k : Nat} {xss : List (List Int)} (h : modT xss k = true) : keepK n xss f (k + 1) = (keepK n xss f k).filter fun l => !(!litT k l) := by
  unfold keepK
  rw [mods_yes h, List.filter_filter]
  congr 1
  funext l
  rw [List.all_append, Bool.and_comm]
  simp
theorem keep_zero (n f : Nat) (xss : List (List Int)) : keepK n xss f 0 = totB n f := by
  unfold keepK
  rw [List.filter_eq_self]
  intro l _
  rfl
theorem keep_len (n : Nat) (xss : List (List Int)) (f k : Nat) : (keepK n xss f k).length ≤ n := Nat.le_trans (List.length_filter_le _ _) (by rw [tot_len]; exact Nat.le_refl _)
theorem tot_lit {n f : Nat} (hn : n ≤ 12) : ∀ l ∈ totB n f, LitS l := by
  intro l hl
  obtain ⟨i, hi, rfl⟩ := List.mem_map.1 hl
  have := List.mem_range.1 hi
  unfold totI LitS
  split <;> omega
theorem keep_lit {n f k : Nat} (hn : n ≤ 12) {xss : List (List Int)} : ∀ l ∈ keepK n xss f k, LitS l := fun l hl => tot_lit hn l (List.mem_filter.1 hl).1
theorem keep_bone_k (n : Nat) (xss : List (List Int)) (f : Nat) (hf : f ∈ mods (modT xss) (2 ^ n)) : ∀ k, (totB k f).filter (fun l => (mods (modT xss) (2 ^ n)).all fun b => litT b l) = boneTo n xss k
  | 0 => rfl
  | k + 1 => by
    rw [tot_snoc, List.filter_append, keep_bone_k n xss f hf k, bone_next]
    congr 1
    have himp : ∀ x, impB n xss [x] = (mods (modT xss) (2 ^ n)).all fun b => litT b x := fun x => by
      rw [imp_mods]
      congr 1
      funext b
      exact cl_one x b
    rw [himp, himp]
    unfold totI
    have hp : ∀ (q : Bool), f.testBit k = q → ((mods (modT xss) (2 ^ n)).all fun b => litT b ((k : Int) + 1)) = true → q = true := fun q hq h => by
      have := List.all_eq_true.1 h f hf
      rw [lit_pos, hq] at this
      exact this
    have hm : ∀ (q : Bool), f.testBit k = q → ((mods (modT xss) (2 ^ n)).all fun b => litT b (-((k : Int) + 1))) = true → q = false := fun q hq h => by
      have := List.all_eq_true.1 h f hf
      rw [lit_neg, hq] at this
      simpa using this
    cases hq : f.testBit k
    · have h1 : ((mods (modT xss) (2 ^ n)).all fun b => litT b ((k : Int) + 1)) = false := by
        cases h : ((mods (modT xss) (2 ^ n)).all fun b => litT b ((k : Int) + 1))
        · rfl
        · exact absurd (hp _ hq h) (by simp)
      rw [h1]
      cases h2 : ((mods (modT xss) (2 ^ n)).all fun b => litT b (-((k : Int) + 1)))
      · simp [List.filter, h2]
      · simp [List.filter, h2]
    · have h1 : ((mods (modT xss) (2 ^ n)).all fun b => litT b (-((k : Int) + 1))) = false := by
        cases h : ((mods (modT xss) (2 ^ n)).all fun b => litT b (-((k : Int) + 1)))
        · rfl
        · exact absurd (hm _ hq h) (by simp)
      rw [h1]
      cases h2 : ((mods (modT xss) (2 ^ n)).all fun b => litT b ((k : Int) + 1))
      · simp [List.filter, h2]
      · simp [List.filter, h2]
theorem keep_bone {n : Nat} {xss : List (List Int)} {f : Nat} (h1 : f < 2 ^ n) (h2 : modT xss f = true) : keepK n xss f (2 ^ n) = boneTo n xss n :=
  keep_bone_k n xss f (List.mem_filter.2 ⟨List.mem_range.2 h1, h2⟩) n
theorem idx_model {p : Nat → Bool} {N : Nat} (h : (List.range N).any p = true) : ∃ f : Nat, idxP p (List.range N) = (f : Int) ∧ f < N ∧ p f = true := by
  have hlt : (List.range N).findIdx p < (List.range N).length := List.findIdx_lt_length_of_exists (by simpa using List.any_eq_true.1 h)
  refine ⟨(List.range N).findIdx p, by unfold idxP; rw [if_pos h], by simpa using hlt, ?_⟩
  have := List.findIdx_getElem (w := hlt)
  simpa using this

/- left out: the seat has no impl.BackboneOf$1$1 -/

/- left out: the seat has no impl.BackboneOf$1 -/

/-- What is left of the first model's literals before k. -/
def BoneP (w : World) (n : Nat) (xss : List (List Int)) (f o m fb : Nat) (fcs : Array Value) (k : Nat) (V : World) : Prop :=
  ∃ (ts : List Int) (B : Option Addr) (cc : Nat), ts = keepK n xss f k ∧ (∀ g, (Value.slice B ts.length cc).ownBlock = some g → g ≠ m) ∧
    Sp w V [Own 3 1 (.slice B ts.length cc) ts.length (ts.map (.int .i64)), Box o 33 #[.slice B ts.length cc], Box fb 29 fcs]

/- left out: the seat has no impl.BackboneOf -/
end Go.Proofs.YtnfjgebfmnpkbaaGreat

/- Contracts: inequalities over bits, in the program. -/
namespace Go.Proofs.YtnfjgebfmnpkbaaGreat
open Go.RowKit

theorem within_at {x a b : Int} {q : Bool} (h : inB x a b = q) (w : World) : Calls Tryz.prog 37 #[.int .i64 x, .int .i64 a, .int .i64 b] w fun e w' => e = .returned (.bool q) ∧ w = w' := h ▸ within_any x a b w
theorem varsOk_at {x : Int} {q : Bool} (h : inB x 0 12 = q) (w : World) : Calls Tryz.prog 58 #[.int .i64 x] w fun e w' => e = .returned (.bool q) ∧ w = w' := h ▸ varsOk_any x w
/- left out: the seat has no impl.IsInequality$1 -/

/- left out: the seat has no impl.IsInequality -/

/- left out: the seat has no impl.planeHolds -/
end Go.Proofs.YtnfjgebfmnpkbaaGreat

/- Contracts: total assignments and their bits, on both sides. -/
namespace Go.Proofs.YtnfjgebfmnpkbaaGreat
open Go.RowKit

/-- A row of the call's own, and whether it is told. -/
def OwnAns (w : World) (ok : Bool) (zs : List Int) (e : Ending) (w' : World) : Prop := ∃ D dc, e = .returned (.tuple #[.slice D zs.length dc, .bool ok]) ∧ Sp w w' [Own 3 1 (.slice D zs.length dc) zs.length (zs.map (.int .i64))]
def totOk (vars bits : Int) : Bool := inB vars 0 12 && inB bits 0 (((2 ^ vars.toNat : Nat) : Int) - 1)
def totL (vars bits : Int) : List Int := if totOk vars bits then totB vars.toNat bits.toNat else []
theorem totOk_parts {vars bits : Int} (h : totOk vars bits = true) : 0 ≤ vars ∧ vars ≤ 12 ∧ 0 ≤ bits ∧ bits.toNat < 2 ^ vars.toNat := by
  unfold totOk at h
  rw [Bool.and_eq_true, inB_true, inB_true] at h
  have h1 : 1 ≤ 2 ^ vars.toNat := Nat.one_le_two_pow
  omega

/- left out: the seat has no impl.TotalOf -/

/- left out: the seat has no spec.TotalOf -/
end Go.Proofs.YtnfjgebfmnpkbaaGreat

/- Contracts: the collector of clauses, in the program. -/
namespace Go.Proofs.YtnfjgebfmnpkbaaGreat
open Go.RowKit

/-- The collector: its clauses and its box. -/
abbrev FamP (fb : Nat) (vars : Int) (B : Option Addr) (c : Nat) (cs : List Value) (xss : List (List Int)) (ps : List Asn) : List Asn :=
  Rows Ty.int 33 (.slice B xss.length c) cs xss :: Box fb 50 #[.int .i64 vars, .slice B xss.length c] :: ps

set_option maxRecDepth 100000 in
set_option maxHeartbeats 4000000 in
theorem famAdd_any (fb : Nat) (vars : Int) (B : Option Addr) (c : Nat) (cs : List Value) (xss : List (List Int)) (ps : List Asn) (w0 W : World) (R : List Int) (A : Option Addr) (k cap : Nat) (hcl : ∀ W', Below W.heap.size W W' → Calls Tryz.prog 45 #[.slice A k cap] W' (OneI W' R)) (hI : ∀ x ∈ R, I64 x) (hm : xss.length ≤ 1000)
    (S : Sp w0 W (FamP fb vars B c cs xss ps)) :
    Calls Tryz.prog 24 #[.pointer (some ⟨fb, 0, none⟩), .slice A k cap] W fun e w' => e = .returned (.tuple #[]) ∧ ∃ B' c' cs', Sp w0 w' (FamP fb vars B' c' cs' (xss ++ [R]) ps) := by
  obtain ⟨i0, hi, hz0, hz1, hz2⟩ := info_parts infoRow
  replace hcl := Lib.hid hcl
  have c1 := S.cell (i := 1) rfl (o := 1) rfl
  have S1 := Lib.hid S.drew
  clear S
  replace hI := Lib.hid hI
  go_enter Tryz.func24, Tryz.ntmps24
  go_wp2_with fail
  refine wp_region_tail_lit (S := (fun w' => w'.cell? ⟨fb, 1, none⟩ = some (.slice B xss.length c))) 9 [false, false, false, false, false, false, false, false, false, false, false, false] (by kernel_rfl) (by kernel_rfl) (by kernel_rfl) ?_ ?_
  · exact c1
  intro hSc
  (refine walkT_take (i := 0) (v := ?_) rfl (by kernel_rfl) (by decide) (by kernel_rfl) (by kernel_rfl) (fun _ _ _ h => h) (Or.inl ⟨by rfl, ?_⟩) (by assumption) ?_; rotate_left; (focus (intro w hSw; (try dsimp only at hSw); go_simp; (try with_reducible rfl); done)); (try simp only [put_rules]))
  (refine walkT_take (i := 1) (v := ?_) rfl (by kernel_rfl) (by decide) (by kernel_rfl) (by kernel_rfl) (fun _ _ _ h => h) (Or.inl ⟨by rfl, ?_⟩) (by assumption) ?_; rotate_left; (focus (intro w hSw; (try dsimp only at hSw); go_simp; (try with_reducible rfl); done)); (try simp only [put_rules]))
  (refine walkT_take (i := 2) (v := ?_) rfl (by kernel_rfl) (by decide) (by kernel_rfl) (by kernel_rfl) (fun _ _ _ h => h) (Or.inl ⟨by rfl, ?_⟩) (by assumption) ?_; rotate_left; (focus (intro w hSw; (try dsimp only at hSw); go_simp; (try with_reducible rfl); done)); (try simp only [put_rules]))
  (refine walkT_take (i := 3) (v := ?_) rfl (by kernel_rfl) (by decide) (by kernel_rfl) (by kernel_rfl) (fun _ _ _ h => h) (Or.inl ⟨by rfl, ?_⟩) (by assumption) ?_; rotate_left; (focus (intro w hSw; (try dsimp only at hSw); go_simp; (try with_reducible rfl); done)); (try simp only [put_rules]))
  (refine walkT_take (i := 4) (v := ?_) rfl (by kernel_rfl) (by decide) (by kernel_rfl) (by kernel_rfl) (fun _ _ _ h => h) (Or.inl ⟨by rfl, ?_⟩) (by assumption) ?_; rotate_left; (focus (intro w hSw; (try dsimp only at hSw); go_simp; (try with_reducible rfl); done)); (try simp only [put_rules]))
  (refine walkT_take (i := 5) (v := ?_) rfl (by kernel_rfl) (by decide) (by kernel_rfl) (by kernel_rfl) (fun _ _ _ h => h) (Or.inl ⟨by rfl, ?_⟩) (by assumption) ?_; rotate_left; (focus (intro w hSw; (try dsimp only at hSw); go_simp; (try with_reducible rfl); done)); (try simp only [put_rules]))
  (refine walkT_ready (rs := [6]) (by kernel_rfl) (by simp) (by decide) ?_; refine AllT.cons rfl (fun K hK => ?_) AllT.nil)
  go_simp
  go_at_call 45
  refine (hcl.out _ (bdr (bb W))).mono ?_
  rintro e w2 ⟨D, dc, rfl, T⟩
  have S2 := Lib.hid (Sp.own_to_row (S1.out.seq T) hI.out)
  clear hcl S1 T c1
  go_wp2_with fail
  refine hK.out _ _ (S2.out.cell (i := 2) rfl (o := 1) rfl) (fun hS2 => ?_)
  clear hK hSc
  (try simp only [put_rules])
  (refine walkT_ready (rs := [7]) (by kernel_rfl) (by simp) (by decide) ?_; refine AllT.cons rfl (fun K hK => ?_) AllT.nil)
  go_simp
  have S3 := Lib.hid (S2.out.alloc_box #[.slice D R.length dc] 33)
  refine hK.out _ _ (S3.out.cell (i := 3) rfl (o := 1) rfl) (fun hS3 => ?_)
  clear hK hS2
  (try simp only [put_rules])
  (refine walkT_ready (rs := [8]) (by kernel_rfl) (by simp) (by decide) ?_; refine AllT.cons rfl (fun K hK => ?_) AllT.nil)
  (refine step_append_src rfl _ _ rfl Tryz.underlying24 hi hz0 hz1 hz2 rfl (by decide) _ xss.length _ rfl (S3.out.rows (i := 2) rfl) _ 1 1 [.slice D R.length dc] rfl (Src.one (S3.out.cell (i := 0) rfl (o := 0) rfl)) (by simp [Value.oneCell']) (by unfold maxLen; omega) (by omega) ?_; intro vE wE hownE hgE hatE)
  have S4 := S2.out.rows_push (bal (bb _) _) hownE hgE hatE
  obtain ⟨aE, cE, rfl⟩ := own_slice hownE
  refine hK.out _ _ (S4.cell (i := 1) rfl (o := 1) rfl) (fun _ => ?_)
  clear hK S2 S3 hownE hgE hatE
  have hfz := S4.frozen (i := 1) rfl 1
  have hc4 := S4.cell (i := 1) rfl (o := 1) rfl
  have S5 := Lib.hid (S4.store (i := 1) rfl 1 (.slice aE (xss.length + 1) cE))
  clear S4
  (try simp only [put_rules])
  (refine walkT_done (by kernel_rfl) ?_)
  simp only [List.drop_succ_cons, List.drop_zero]
  have hlen : xss.length + 1 = (xss ++ [R]).length := by simp
  have S6 : Hid (Sp w0 (wE.setCell ⟨fb, 1, none⟩ (.slice aE (xss.length + 1) cE)) (FamP fb vars aE cE (cs ++ [.slice D R.length dc]) (xss ++ [R]) ps)) := by
    unfold Hid FamP
    rw [← hlen]
    exact S5.out
  clear S5 hlen
  go_wp2_with fail
  exact bodyPost_end (v := .tuple #[]) (by simp [results, Tryz.results24, go_sem]) rfl ⟨rfl, aE, cE, _, S6.out⟩
end Go.Proofs.YtnfjgebfmnpkbaaGreat

/- Contracts: a Cnf is given if it is valid, on both sides. -/
namespace Go.Proofs.YtnfjgebfmnpkbaaGreat
open Go.RowKit

def giveV (vars : Int) (xss : List (List Int)) : Int := if goodB vars xss then vars else 0
def giveL (vars : Int) (xss : List (List Int)) : List (List Int) := if goodB vars xss then xss else []
theorem give_yes {vars : Int} {xss : List (List Int)} (h : goodB vars xss = true) : giveV vars xss = vars ∧ giveL vars xss = xss := by unfold giveV giveL; rw [if_pos h, if_pos h]; exact ⟨rfl, rfl⟩
theorem give_no {vars : Int} {xss : List (List Int)} (h : goodB vars xss = false) : giveV vars xss = 0 ∧ giveL vars xss = [] := by unfold giveV giveL; rw [h]; exact ⟨rfl, rfl⟩
/-- A Cnf and whether it is told; it can be read. -/
def CnfR (w : World) (va : Int) (ys : List (List Int)) (ok : Bool) (e : Ending) (w' : World) : Prop :=
  ∃ B cc F, e = .returned (.tuple #[.agg #[.int .i64 va, .slice B ys.length cc], .bool ok]) ∧ (Ty.slice Ty.int).row false w' (.slice B ys.length cc) ys F ∧ Below w.heap.size w w'
/-- The same Cnf, or nothing. -/
def GiveP (w : World) (vars : Int) (B : Option Addr) (c : Nat) (xss : List (List Int)) (e : Ending) (w' : World) : Prop :=
  ∃ va A' n' c', e = .returned (.tuple #[.agg #[.int .i64 va, .slice A' n' c'], .bool (goodB vars xss)]) ∧ Below w.heap.size w w' ∧ (goodB vars xss = true → va = vars ∧ A' = B ∧ n' = xss.length ∧ c' = c) ∧ (goodB vars xss = false → va = 0 ∧ A' = none ∧ n' = 0 ∧ c' = 0)
theorem CnfR.of {w wF : World} {vars va : Int} {A' : Option Addr} {n' c' : Nat} {xss : List (List Int)} {B : Option Addr} {c : Nat} {cs : List Value} {t : TypeId} {ps : List Asn} (SF : Sp w wF (Rows Ty.int t (.slice B xss.length c) cs xss :: ps))
    (h1 : goodB vars xss = true → va = vars ∧ A' = B ∧ n' = xss.length ∧ c' = c) (h2 : goodB vars xss = false → va = 0 ∧ A' = none ∧ n' = 0 ∧ c' = 0) :
    CnfR w (giveV vars xss) (giveL vars xss) (goodB vars xss) (.returned (.tuple #[.agg #[.int .i64 va, .slice A' n' c'], .bool (goodB vars xss)])) wF := by
  cases hg : goodB vars xss with
  | false =>
    obtain ⟨rfl, rfl, rfl, rfl⟩ := h2 hg
    rw [(give_no hg).1, (give_no hg).2]
    exact ⟨none, 0, [], rfl, Ty.row_nil _ _ _ _ _ (by decide), SF.below⟩
  | true =>
    obtain ⟨rfl, rfl, rfl, rfl⟩ := h1 hg
    rw [(give_yes hg).1, (give_yes hg).2]
    obtain ⟨F, hr, -, -⟩ := SF.rows_done (i := 0) rfl
    exact ⟨_, _, F, rfl, Ty.row_down hr, SF.below⟩
theorem CnfR.from {w w1 : World} {va : Int} {ys : List (List Int)} {ok : Bool} {e : Ending} {w' : World} (hb : Below w.heap.size w w1) (h : CnfR w1 va ys ok e w') : CnfR w va ys ok e w' := by
  obtain ⟨B, cc, F, rfl, hr, hb2⟩ := h
  exact ⟨B, cc, F, rfl, hr, hb.trans (hb2.mono hb.size)⟩

set_option maxRecDepth 100000 in
set_option maxHeartbeats 4000000 in
theorem famCnf_any (fb : Nat) (vars : Int) (B : Option Addr) (c : Nat) (xss : List (List Int)) (F : List Nat) (W : World) (c0 : W.cell? ⟨fb, 0, none⟩ = some (.int .i64 vars)) (c1 : W.cell? ⟨fb, 1, none⟩ = some (.slice B xss.length c)) (hx : (Ty.slice Ty.int).row false W (.slice B xss.length c) xss F) :
    Calls Tryz.prog 25 #[.pointer (some ⟨fb, 0, none⟩)] W (GiveP W vars B c xss) := by
  unfold GiveP
  have Sa := (Sp.start W).alloc_box #[.int .i64 0, .slice none 0 0] 29
  have n0 := cell_below c0 Sa.below
  have n1 := cell_below c1 Sa.below
  have Sb := (Sa.drew).alloc_box #[.int .i64 0, .slice none 0 0] 29
  have m0 := cell_below c0 Sb.below
  have m1 := cell_below c1 Sb.below
  have S0 := (Sa.alloc_box #[.int .i64 vars, .slice B xss.length c] 29).drew
  simp only [World.size_alloc] at S0
  have hcall := Lib.hid (implIsCnf_any vars _ xss F _ (Ty.row_below hx S0.below (Ty.row_lt hx)))
  have a0 := S0.cell (i := 0) rfl (o := 0) rfl
  have a1 := S0.cell (i := 0) rfl (o := 1) rfl
  replace S0 := Lib.hid S0
  clear Sa Sb
  clear hx
  cases hg : goodB vars xss with
  | false =>
    rw [hg] at hcall
    clear hg
    go_enter Tryz.func25, Tryz.ntmps25
    go_wp2_with fail
    refine wp_region_tail_lit (S := (fun w' => w'.cell? ⟨fb, 0, none⟩ = some (.int .i64 vars) ∧ w'.cell? ⟨fb, 1, none⟩ = some (.slice B xss.length c))) 10 [false, false, false, false, false, false, false, false, false, false, false] (by kernel_rfl) (by kernel_rfl) (by kernel_rfl) ?_ ?_
    · exact ⟨n0, n1⟩
    intro hSc
    (refine walkT_take (i := 0) (v := ?_) rfl (by kernel_rfl) (by decide) (by kernel_rfl) (by kernel_rfl) (fun _ _ _ h => h) (Or.inl ⟨by rfl, ?_⟩) (by assumption) ?_; rotate_left; (focus (intro w hSw; (try dsimp only at hSw); go_simp; (try with_reducible rfl); done)); (try simp only [put_rules]))
    (refine walkT_take (i := 1) (v := ?_) rfl (by kernel_rfl) (by decide) (by kernel_rfl) (by kernel_rfl) (fun _ _ _ h => h) (Or.inl ⟨by rfl, ?_⟩) (by assumption) ?_; rotate_left; (focus (intro w hSw; (try dsimp only at hSw); go_simp; (try with_reducible rfl); done)); (try simp only [put_rules]))
    (refine walkT_take (i := 2) (v := ?_) rfl (by kernel_rfl) (by decide) (by kernel_rfl) (by kernel_rfl) (fun _ _ _ h => h) (Or.inl ⟨by rfl, ?_⟩) (by assumption) ?_; rotate_left; (focus (intro w hSw; (try dsimp only at hSw); go_simp; (try with_reducible rfl); done)); (try simp only [put_rules]))
    (refine walkT_take (i := 3) (v := ?_) rfl (by kernel_rfl) (by decide) (by kernel_rfl) (by kernel_rfl) (fun _ _ _ h => h) (Or.inl ⟨by rfl, ?_⟩) (by assumption) ?_; rotate_left; (focus (intro w hSw; (try dsimp only at hSw); go_simp; (try with_reducible rfl); done)); (try simp only [put_rules]))
    (refine walkT_take (i := 4) (v := ?_) rfl (by kernel_rfl) (by decide) (by kernel_rfl) (by kernel_rfl) (fun _ _ _ h => h) (Or.inl ⟨by rfl, ?_⟩) (by assumption) ?_; rotate_left; (focus (intro w hSw; (try dsimp only at hSw); go_simp; (try with_reducible rfl); done)); (try simp only [put_rules]))
    (refine walkT_take (i := 5) (v := ?_) rfl (by kernel_rfl) (by decide) (by kernel_rfl) (by kernel_rfl) (fun _ _ _ h => h) (Or.inl ⟨by rfl, ?_⟩) (by assumption) ?_; rotate_left; (focus (intro w hSw; (try dsimp only at hSw); go_simp; (try with_reducible rfl); done)); (try simp only [put_rules]))
    (refine walkT_take (i := 6) (v := ?_) rfl (by kernel_rfl) (by decide) (by kernel_rfl) (by kernel_rfl) (fun _ _ _ h => h) (Or.inl ⟨by rfl, ?_⟩) (by assumption) ?_; rotate_left; (focus (intro w hSw; (try dsimp only at hSw); go_simp; (try with_reducible rfl); done)); (try simp only [put_rules]))
    (refine walkT_take (i := 7) (v := ?_) rfl (by kernel_rfl) (by decide) (by kernel_rfl) (by kernel_rfl) (fun _ _ _ h => h) (Or.inl ⟨by rfl, ?_⟩) (by assumption) ?_; rotate_left; (focus (intro w hSw; (try dsimp only at hSw); go_simp; (try with_reducible rfl); done)); (try simp only [put_rules]))
    (refine walkT_take (i := 8) (v := ?_) rfl (by kernel_rfl) (by decide) (by kernel_rfl) (by kernel_rfl) (fun _ _ _ h => h) (Or.inl ⟨by rfl, ?_⟩) (by assumption) ?_; rotate_left; (focus (intro w hSw; (try dsimp only at hSw); go_simp; (try with_reducible rfl); done)); (try simp only [put_rules]))
    (refine walkT_ready (rs := [9]) (by kernel_rfl) (by simp) (by decide) ?_; refine AllT.cons rfl (fun K hK => ?_) AllT.nil)
    go_simp
    refine hK.out _ _ ⟨m0, m1⟩ (fun _ => ?_)
    clear hK hSc n0 n1 m0 m1 c0 c1
    (try simp only [put_rules])
    (refine walkT_done (by kernel_rfl) ?_)
    simp only [List.drop_succ_cons, List.drop_zero]
    go_wp2_with fail
    refine hcall.out.mono ?_
    rintro e w1 ⟨rfl, hb1⟩
    have S1 := S0.out.grow hb1
    clear hcall S0 hb1 a0 a1
    have r0 := S1.cell (i := 1) rfl (o := 0) rfl
    have r1 := S1.cell (i := 1) rfl (o := 1) rfl
    have f0 := S1.frozen (i := 1) rfl 0
    have f1 := S1.frozen (i := 1) rfl 1
    have SF := (S1.store (i := 1) rfl 0 (.int .i64 0)).store (i := 1) rfl 1 (.slice none 0 0)
    have j0 := SF.cell (i := 1) rfl (o := 0) rfl
    have j1 := SF.cell (i := 1) rfl (o := 1) rfl
    have hB := Lib.hid SF.below
    clear S1 SF
    go_wp2_with fail
    exact bodyPost_ret (v := .tuple #[.agg #[.int .i64 0, .slice none 0 0], .bool false]) (by simp [results, Tryz.results25, go_sem, j0, j1]) rfl ⟨0, none, 0, 0, rfl, hB.out, (fun h => by cases h), (fun _ => ⟨rfl, rfl, rfl, rfl⟩)⟩
  | true =>
    rw [hg] at hcall
    clear hg
    go_enter Tryz.func25, Tryz.ntmps25
    go_wp2_with fail
    refine wp_region_tail_lit (S := (fun w' => w'.cell? ⟨fb, 0, none⟩ = some (.int .i64 vars) ∧ w'.cell? ⟨fb, 1, none⟩ = some (.slice B xss.length c))) 10 [false, false, false, false, false, false, false, false, false, false, false] (by kernel_rfl) (by kernel_rfl) (by kernel_rfl) ?_ ?_
    · exact ⟨n0, n1⟩
    intro hSc
    (refine walkT_take (i := 0) (v := ?_) rfl (by kernel_rfl) (by decide) (by kernel_rfl) (by kernel_rfl) (fun _ _ _ h => h) (Or.inl ⟨by rfl, ?_⟩) (by assumption) ?_; rotate_left; (focus (intro w hSw; (try dsimp only at hSw); go_simp; (try with_reducible rfl); done)); (try simp only [put_rules]))
    (refine walkT_take (i := 1) (v := ?_) rfl (by kernel_rfl) (by decide) (by kernel_rfl) (by kernel_rfl) (fun _ _ _ h => h) (Or.inl ⟨by rfl, ?_⟩) (by assumption) ?_; rotate_left; (focus (intro w hSw; (try dsimp only at hSw); go_simp; (try with_reducible rfl); done)); (try simp only [put_rules]))
    (refine walkT_take (i := 2) (v := ?_) rfl (by kernel_rfl) (by decide) (by kernel_rfl) (by kernel_rfl) (fun _ _ _ h => h) (Or.inl ⟨by rfl, ?_⟩) (by assumption) ?_; rotate_left; (focus (intro w hSw; (try dsimp only at hSw); go_simp; (try with_reducible rfl); done)); (try simp only [put_rules]))
    (refine walkT_take (i := 3) (v := ?_) rfl (by kernel_rfl) (by decide) (by kernel_rfl) (by kernel_rfl) (fun _ _ _ h => h) (Or.inl ⟨by rfl, ?_⟩) (by assumption) ?_; rotate_left; (focus (intro w hSw; (try dsimp only at hSw); go_simp; (try with_reducible rfl); done)); (try simp only [put_rules]))
    (refine walkT_take (i := 4) (v := ?_) rfl (by kernel_rfl) (by decide) (by kernel_rfl) (by kernel_rfl) (fun _ _ _ h => h) (Or.inl ⟨by rfl, ?_⟩) (by assumption) ?_; rotate_left; (focus (intro w hSw; (try dsimp only at hSw); go_simp; (try with_reducible rfl); done)); (try simp only [put_rules]))
    (refine walkT_take (i := 5) (v := ?_) rfl (by kernel_rfl) (by decide) (by kernel_rfl) (by kernel_rfl) (fun _ _ _ h => h) (Or.inl ⟨by rfl, ?_⟩) (by assumption) ?_; rotate_left; (focus (intro w hSw; (try dsimp only at hSw); go_simp; (try with_reducible rfl); done)); (try simp only [put_rules]))
    (refine walkT_take (i := 6) (v := ?_) rfl (by kernel_rfl) (by decide) (by kernel_rfl) (by kernel_rfl) (fun _ _ _ h => h) (Or.inl ⟨by rfl, ?_⟩) (by assumption) ?_; rotate_left; (focus (intro w hSw; (try dsimp only at hSw); go_simp; (try with_reducible rfl); done)); (try simp only [put_rules]))
    (refine walkT_take (i := 7) (v := ?_) rfl (by kernel_rfl) (by decide) (by kernel_rfl) (by kernel_rfl) (fun _ _ _ h => h) (Or.inl ⟨by rfl, ?_⟩) (by assumption) ?_; rotate_left; (focus (intro w hSw; (try dsimp only at hSw); go_simp; (try with_reducible rfl); done)); (try simp only [put_rules]))
    (refine walkT_take (i := 8) (v := ?_) rfl (by kernel_rfl) (by decide) (by kernel_rfl) (by kernel_rfl) (fun _ _ _ h => h) (Or.inl ⟨by rfl, ?_⟩) (by assumption) ?_; rotate_left; (focus (intro w hSw; (try dsimp only at hSw); go_simp; (try with_reducible rfl); done)); (try simp only [put_rules]))
    (refine walkT_ready (rs := [9]) (by kernel_rfl) (by simp) (by decide) ?_; refine AllT.cons rfl (fun K hK => ?_) AllT.nil)
    go_simp
    refine hK.out _ _ ⟨m0, m1⟩ (fun _ => ?_)
    clear hK hSc n0 n1 m0 m1 c0 c1
    (try simp only [put_rules])
    (refine walkT_done (by kernel_rfl) ?_)
    simp only [List.drop_succ_cons, List.drop_zero]
    go_wp2_with fail
    refine hcall.out.mono ?_
    rintro e w1 ⟨rfl, hb1⟩
    have S1 := S0.out.grow hb1
    clear hcall S0 hb1 a0 a1
    have g0 := S1.cell (i := 0) rfl (o := 0) rfl
    have g1 := S1.cell (i := 0) rfl (o := 1) rfl
    have r0 := S1.cell (i := 1) rfl (o := 0) rfl
    have r1 := S1.cell (i := 1) rfl (o := 1) rfl
    have f0 := S1.frozen (i := 1) rfl 0
    have f1 := S1.frozen (i := 1) rfl 1
    have SF := (S1.store (i := 1) rfl 0 (.int .i64 vars)).store (i := 1) rfl 1 (.slice B xss.length c)
    have j0 := SF.cell (i := 1) rfl (o := 0) rfl
    have j1 := SF.cell (i := 1) rfl (o := 1) rfl
    have hB := Lib.hid SF.below
    clear S1 SF
    go_wp2_with fail
    exact bodyPost_ret (v := .tuple #[.agg #[.int .i64 vars, .slice B xss.length c], .bool true]) (by simp [results, Tryz.results25, go_sem, j0, j1]) rfl ⟨vars, B, xss.length, c, rfl, hB.out, (fun _ => ⟨rfl, rfl, rfl, rfl⟩), (fun h => by cases h)⟩

/- left out: the seat has no spec.l4Give -/

set_option maxRecDepth 100000 in
set_option maxHeartbeats 4000000 in
theorem l4New_any (vars : Int) (w : World) :
    Calls Tryz.prog 47 #[.int .i64 vars] w fun e w' => ∃ B cc, e = .returned (.agg #[.int .i64 vars, .slice B 0 cc]) ∧ Sp w w' [Rows Ty.int 33 (.slice B 0 cc) [] []] := by
  have S0 := ((Sp.start w).alloc_box #[.int .i64 vars, .slice (some ⟨w.heap.size + 1, 0, none⟩) 0 0] 29).rows_made Ty.int 33
  simp only [World.size_alloc] at S0
  have j0 := S0.cell (i := 1) rfl (o := 0) rfl
  have j1 := S0.cell (i := 1) rfl (o := 1) rfl
  have S1 := Lib.hid (Sp.pick [0] S0 rfl)
  clear S0
  go_enter Tryz.func47, Tryz.ntmps47
  go_wp2_with fail
  exact bodyPost_ret (v := .agg #[.int .i64 vars, .slice (some ⟨w.heap.size + 1, 0, none⟩) 0 0]) (by simp [results, Tryz.results47, go_sem, j0, j1]) rfl ⟨_, _, rfl, S1.out⟩
end Go.Proofs.YtnfjgebfmnpkbaaGreat

/- Plain: choices as clauses; what at most and at least have for clauses. -/
namespace Go.Proofs.YtnfjgebfmnpkbaaGreat
open Go.RowKit

theorem clauseR_self {c : List Int} (h : GoodS c) : clauseR c = some c := by
  obtain ⟨h1, h2⟩ := clauseR_some (zs := c) h.mem (fun x hx hy => h.clash hx hy)
  rw [h1, GoodS.ext h2 h (fun x => cptL_mem)]
/-- A choice with a sign. -/
def sgC (s : Int) (c : List Int) : List Int := c.map fun x => s * x
theorem goL_mem {n d : Nat} {c : List Int} (h : c ∈ goL (n + 1) [] d 1) : ∃ l : List Nat, c = ofN l ∧ l.Pairwise (· < ·) ∧ (∀ i ∈ l, 1 ≤ i ∧ i < n + 1) ∧ l.length = d := by
  unfold goL at h
  obtain ⟨l, hl, rfl⟩ := List.mem_map.1 h
  obtain ⟨h1, h2, h3⟩ := combs_asc d 1 l hl
  exact ⟨l, by simp, h1, h2, h3⟩
theorem goL_good {n d : Nat} (hn : n ≤ 12) {s : Int} (hs : s = 1 ∨ s = -1) {c : List Int} (h : c ∈ goL (n + 1) [] d 1) : GoodS (sgC s c) ∧ c.length = d ∧ d ≤ 12 := by
  obtain ⟨l, rfl, h1, h2, h3⟩ := goL_mem h
  have hlit : ∀ i : Nat, 1 ≤ i ∧ i < n + 1 → LitS (s * (i : Int)) ∧ absV (s * (i : Int)) = (i : Int) := fun i hi => by
    have hL : LitS (s * (i : Int)) := by unfold LitS; rcases hs with rfl | rfl <;> omega
    refine ⟨hL, ?_⟩
    rw [hL.abs]
    rcases hs with rfl | rfl
    · rw [if_neg (by omega)]; omega
    · rw [if_pos (by omega)]; omega
  refine ⟨⟨?_, ?_⟩, by simp [ofN]; exact h3, ?_⟩
  · intro x hx
    obtain ⟨y, hy, rfl⟩ := List.mem_map.1 hx
    obtain ⟨i, hi, rfl⟩ := List.mem_map.1 (show y ∈ l.map (fun i : Nat => (i : Int)) from hy)
    exact (hlit i (h2 i hi)).1
  · show ((ofN l).map fun x => s * x).Pairwise AscS
    rw [List.pairwise_map, show ofN l = l.map (fun i : Nat => (i : Int)) from rfl, List.pairwise_map]
    refine List.Pairwise.imp_of_mem ?_ h1
    intro a b ha hb hab
    unfold AscS
    rw [(hlit a (h2 a ha)).2, (hlit b (h2 b hb)).2]
    omega
  · rw [← h3]
    have : l.length ≤ n := by
      have hsub : l.Nodup := h1.imp (fun h => Nat.ne_of_lt h)
      have := List.Nodup.length_le_of_subset hsub (l₂ := (List.range' 1 n)) (fun i hi => by rw [List.mem_range'_1]; have := h2 i hi; omega)
      simpa using this
    omega
theorem sgC_one (c : List Int) : sgC 1 c = c := by unfold sgC; simp
theorem sgC_neg (c : List Int) : sgC (-1) c = c.map fun x => -x := by unfold sgC; apply List.map_congr_left; intro x _; omega
/-- The choices, up to one more than the most clauses. -/
def chL (n d : Nat) : List (List Int) := capL 60 (goL (n + 1) [] d 1)
def mostL (n k : Nat) : List (List Int) := (chL n (k + 1)).map (sgC (-1))
def leastL (n k : Nat) : List (List Int) := if k = 0 then [] else chL n (n + 1 - k)
theorem chL_len (n d : Nat) : (chL n d).length ≤ 61 := capL_len _
theorem chL_good {n d : Nat} (hn : n ≤ 12) {s : Int} (hs : s = 1 ∨ s = -1) {c : List Int} (h : c ∈ chL n d) : GoodS (sgC s c) ∧ c.length = d ∧ d ≤ 12 := goL_good hn hs (capL_mem h)
theorem chL_zero (n : Nat) : chL n 0 = [[]] := by unfold chL; rw [goL_zero]; rfl
end Go.Proofs.YtnfjgebfmnpkbaaGreat

/- Plain: the models of at most and at least. -/
namespace Go.Proofs.YtnfjgebfmnpkbaaGreat
open Go.RowKit

theorem combs_mem {m : Nat} : ∀ (k a : Nat) (l : List Nat), l.Pairwise (· < ·) → (∀ i ∈ l, a ≤ i ∧ i < m) → l.length = k → l ∈ combs m k a
  | 0, a, l, _, _, h => by
    obtain rfl := List.length_eq_zero_iff.1 h
    simp [combs]
  | k + 1, a, [], _, _, h => by simp at h
  | k + 1, a, v :: t, hp, hr, h => by
    rw [List.pairwise_cons] at hp
    have hv := hr v List.mem_cons_self
    unfold combs
    refine List.mem_flatMap.2 ⟨v, List.mem_range'_1.2 ⟨hv.1, by omega⟩, List.mem_map.2 ⟨t, combs_mem k (v + 1) t hp.2 (fun i hi => ⟨hp.1 i hi, (hr i (List.mem_cons_of_mem _ hi)).2⟩) (by simpa using h), rfl⟩⟩
theorem combs_hit {n d : Nat} (p : Nat → Bool) : (∀ l ∈ combs (n + 1) d 1, ∃ i ∈ l, p i = false) ↔ ((List.range' 1 n).filter p).length < d := by
  constructor
  · intro h
    rcases Nat.lt_or_ge ((List.range' 1 n).filter p).length d with h1 | h1
    · exact h1
    exfalso
    have hsub : (((List.range' 1 n).filter p).take d).Sublist (List.range' 1 n) := (List.take_sublist _ _).trans List.filter_sublist
    obtain ⟨i, hi, h2⟩ := h (((List.range' 1 n).filter p).take d) (combs_mem d 1 _ ((List.pairwise_lt_range' (s := 1) (n := n)).sublist hsub) (fun i hi => by
      have := List.mem_range'_1.1 (hsub.subset hi); omega) (by rw [List.length_take]; omega))
    have := (List.mem_filter.1 (List.mem_of_mem_take hi)).2
    rw [h2] at this; cases this
  · intro h l hl
    obtain ⟨h1, h2, h3⟩ := combs_asc d 1 l hl
    by_cases hno : ∃ i ∈ l, p i = false
    · exact hno
    exfalso
    have hsub : ∀ i ∈ l, i ∈ (List.range' 1 n).filter p := fun i hi => List.mem_filter.2 ⟨List.mem_range'_1.2 (by have := h2 i hi; omega), by
      cases e : p i
      · exact absurd ⟨i, hi, e⟩ hno
      · rfl⟩
    have := List.Nodup.length_le_of_subset (h1.imp fun h => Nat.ne_of_lt h) hsub
    omega
/-- The number of variables that are true. -/
def popW (n b : Nat) : Nat := ((List.range' 1 n).filter fun i => b.testBit (i - 1)).length
theorem popW_le (n b : Nat) : popW n b ≤ n := by
  have := List.length_filter_le (fun i => b.testBit (i - 1)) (List.range' 1 n)
  unfold popW; simpa using this
theorem popW_off (n b : Nat) : ((List.range' 1 n).filter fun i => !(b.testBit (i - 1))).length = n - popW n b := by
  have h := List.length_eq_countP_add_countP (fun i => b.testBit (i - 1)) (l := List.range' 1 n)
  unfold popW
  rw [← List.countP_eq_length_filter, ← List.countP_eq_length_filter]
  simp only [List.length_range'] at h
  have e : List.countP (fun i => !(b.testBit (i - 1))) (List.range' 1 n) = List.countP (fun a => decide ¬ (b.testBit (a - 1)) = true) (List.range' 1 n) := by
    congr 1; funext i; cases b.testBit (i - 1) <;> rfl
  omega
theorem clT_neg {l : List Nat} (h : ∀ i ∈ l, 1 ≤ i) (b : Nat) : clT (sgC (-1) (ofN l)) b = true ↔ ∃ i ∈ l, b.testBit (i - 1) = false := by
  unfold clT sgC ofN
  rw [List.any_eq_true]
  constructor
  · rintro ⟨x, hx, h2⟩
    rw [List.map_map, List.mem_map] at hx
    obtain ⟨i, hi, rfl⟩ := hx
    have := h i hi
    refine ⟨i, hi, ?_⟩
    simp only [Function.comp, litT] at h2
    rw [show decide (0 < -1 * (i : Int)) = false from decide_eq_false (by omega), show (-1 * (i : Int)).natAbs = i by omega] at h2
    simpa using h2
  · rintro ⟨i, hi, h2⟩
    have := h i hi
    refine ⟨-1 * (i : Int), by rw [List.map_map]; exact List.mem_map.2 ⟨i, hi, rfl⟩, ?_⟩
    unfold litT
    rw [show decide (0 < -1 * (i : Int)) = false from decide_eq_false (by omega), show (-1 * (i : Int)).natAbs = i by omega, h2]; rfl
theorem clT_pos {l : List Nat} (h : ∀ i ∈ l, 1 ≤ i) (b : Nat) : clT (ofN l) b = true ↔ ∃ i ∈ l, (!(b.testBit (i - 1))) = false := by
  unfold clT ofN
  rw [List.any_eq_true]
  constructor
  · rintro ⟨x, hx, h2⟩
    obtain ⟨i, hi, rfl⟩ := List.mem_map.1 hx
    have := h i hi
    refine ⟨i, hi, ?_⟩
    simp only [litT] at h2
    rw [show decide (0 < (i : Int)) = true from decide_eq_true (by omega), show ((i : Int)).natAbs = i by omega] at h2
    simpa using h2
  · rintro ⟨i, hi, h2⟩
    have := h i hi
    refine ⟨(i : Int), List.mem_map.2 ⟨i, hi, rfl⟩, ?_⟩
    unfold litT
    rw [show decide (0 < (i : Int)) = true from decide_eq_true (by omega), show ((i : Int)).natAbs = i by omega]
    simpa using h2
theorem mod_most {n d b : Nat} : modT ((goL (n + 1) [] d 1).map (sgC (-1))) b = true ↔ popW n b < d := by
  unfold modT popW
  rw [← combs_hit, List.all_eq_true]
  unfold goL
  constructor
  · intro h l hl
    exact (clT_neg (fun i hi => ((combs_asc d 1 l hl).2.1 i hi).1) b).1 (h _ (by rw [List.map_map]; exact List.mem_map.2 ⟨l, hl, by simp⟩))
  · intro h c hc
    rw [List.map_map, List.mem_map] at hc
    obtain ⟨l, hl, rfl⟩ := hc
    have := (clT_neg (fun i hi => ((combs_asc d 1 l hl).2.1 i hi).1) b).2 (h l hl)
    simpa using this
theorem mod_least {n d b : Nat} : modT (goL (n + 1) [] d 1) b = true ↔ n - popW n b < d := by
  rw [← popW_off]
  unfold modT
  rw [← combs_hit, List.all_eq_true]
  unfold goL
  constructor
  · intro h l hl
    exact (clT_pos (fun i hi => ((combs_asc d 1 l hl).2.1 i hi).1) b).1 (h _ (List.mem_map.2 ⟨l, hl, by simp⟩))
  · intro h c hc
    obtain ⟨l, hl, rfl⟩ := List.mem_map.1 hc
    have := (clT_pos (fun i hi => ((combs_asc d 1 l hl).2.1 i hi).1) b).2 (h l hl)
    simpa using this
theorem chL_full {n d : Nat} (h : (chL n d).length ≤ 60) : chL n d = goL (n + 1) [] d 1 := by
  unfold chL capL at h ⊢
  rw [List.length_take] at h
  exact List.take_of_length_le (by omega)
/-- At most k and at least k: just k. -/
theorem mod_both {n k b : Nat} (h1 : (mostL n k).length ≤ 60) (h2 : (leastL n k).length ≤ 60) : modT (mostL n k ++ leastL n k) b = decide (popW n b = k) := by
  have hm : modT (mostL n k) b = decide (popW n b ≤ k) := by
    unfold mostL at h1 ⊢
    rw [List.length_map] at h1
    rw [chL_full h1, Bool.eq_iff_iff, mod_most, decide_eq_true_eq]
    omega
  have hl : modT (leastL n k) b = decide (k ≤ popW n b) := by
    have hp := popW_le n b
    unfold leastL at h2 ⊢
    split
    · rename_i e; subst e; simp [modT]
    · rename_i e
      rw [if_neg e] at h2
      rw [chL_full h2, Bool.eq_iff_iff, mod_least, decide_eq_true_eq]
      omega
  show (mostL n k ++ leastL n k).all (fun c => clT c b) = _
  rw [List.all_append]
  show (modT (mostL n k) b && modT (leastL n k) b) = _
  rw [hm, hl, Bool.eq_iff_iff, Bool.and_eq_true, decide_eq_true_eq, decide_eq_true_eq, decide_eq_true_eq]
  omega
theorem cnt_split (p : Nat → Bool) (a : Nat) : ∀ c, cntP p (a + c) = cntP p a + cntP (fun i => p (a + i)) c
  | 0 => by simp [cntP]
  | c + 1 => by
    have ih := cnt_split p a c
    rw [show a + (c + 1) = (a + c) + 1 from rfl]
    cases e : p (a + c)
    · rw [cntP_no e, cntP_no (p := fun i => p (a + i)) e, ih]
    · rw [cntP_yes e, cntP_yes (p := fun i => p (a + i)) e, ih]; omega
theorem cntW_congr {p q : Nat → Bool} {N : Nat} (h : ∀ b, b < N → p b = q b) : cntP p N = cntP q N := by
  unfold cntP
  rw [List.filter_congr fun b hb => h b (List.mem_range.1 hb)]
theorem popW_low {n b : Nat} (h : b < 2 ^ n) : popW (n + 1) b = popW n b := by
  unfold popW
  rw [List.range'_concat, List.filter_append]
  simp [Nat.testBit_lt_two_pow h]
theorem popW_high {n b : Nat} (h : b < 2 ^ n) : popW (n + 1) (2 ^ n + b) = popW n b + 1 := by
  unfold popW
  rw [List.range'_concat, List.filter_append, List.length_append]
  have h1 : (2 ^ n + b).testBit n = true := by
    rw [Nat.testBit_two_pow_add_eq, Nat.testBit_lt_two_pow h]; rfl
  congr 1
  · congr 1
    apply List.filter_congr
    intro i hi
    have := List.mem_range'_1.1 hi
    rw [Nat.testBit_two_pow_add_gt (by omega)]
  · simp [h1]
/-- The number of choices. -/
def binN : Nat → Nat → Nat
  | _, 0 => 1
  | 0, _ + 1 => 0
  | n + 1, k + 1 => binN n (k + 1) + binN n k
theorem cnt_bin : ∀ (n k : Nat), cntP (fun b => decide (popW n b = k)) (2 ^ n) = binN n k
  | 0, 0 => by decide
  | 0, k + 1 => by
    unfold binN cntP popW
    simp
  | n + 1, k => by
    rw [show 2 ^ (n + 1) = 2 ^ n + 2 ^ n by rw [Nat.pow_succ]; omega, cnt_split,
      cntW_congr (q := fun b => decide (popW n b = k)) (fun b hb => by rw [popW_low hb]),
      cntW_congr (p := fun i => decide (popW (n + 1) (2 ^ n + i) = k)) (q := fun b => decide (popW n b + 1 = k)) (fun b hb => by rw [popW_high hb]), cnt_bin n k]
    cases k with
    | zero =>
      have : cntP (fun b => decide (popW n b + 1 = 0)) (2 ^ n) = 0 := by simp [cntP]
      rw [this]
      cases n <;> simp [binN]
    | succ k =>
      have : cntP (fun b => decide (popW n b + 1 = k + 1)) (2 ^ n) = binN n k := by
        rw [← cnt_bin n k]
        apply cntW_congr
        intro b _
        simp
      rw [this, binN]
/-- What the loop of the law reckons. -/
def chsI (n : Int) : Nat → Int
  | 0 => 1
  | i + 1 => (chsI n i * (n - i)).tdiv (i + 1)
theorem chs_bin : ∀ n : Nat, n < 13 → ∀ k : Nat, k < 13 → k ≤ n → chsI (n : Int) k = (binN n k : Int) := by decide
theorem bin_over : ∀ (n k : Nat), n < k → binN n k = 0
  | 0, k + 1, _ => rfl
  | n + 1, k + 1, h => by rw [binN, bin_over n (k + 1) (by omega), bin_over n k (by omega)]
theorem chs_small : ∀ n : Nat, n < 13 → ∀ k : Nat, k < 13 → -100000 ≤ chsI (n : Int) k ∧ chsI (n : Int) k ≤ 100000 := by decide
end Go.Proofs.YtnfjgebfmnpkbaaGreat

/- Memory: rows of numbers that are only read, beside own rows of slices; contracts: a copy, negated literals. -/
namespace Go.Proofs.YtnfjgebfmnpkbaaGreat
open Go.RowKit

/-- Rows of numbers that are only read, with all that they reach. -/
def IPool (K : List (Value × List Int)) : Asn where
  p w F := (∀ b ∈ F, b < w.heap.size) ∧ ∀ q ∈ K, ∃ A c, q.1 = .slice A q.2.length c ∧ IntsAt w A q.2 ∧ (q.2 ≠ [] → ∀ a, A = some a → a.block ∈ F)
  lt h := h.1
  keep := by
    rintro w w' F ⟨h1, h2⟩ hk
    refine ⟨fun b hb => ?_, fun q hq => ?_⟩
    · have := hk b hb
      rw [Array.getElem?_eq_getElem (h1 b hb)] at this
      exact (Array.getElem?_eq_some_iff.1 this).1
    · obtain ⟨A, c, e, h3, h4⟩ := h2 q hq
      refine ⟨A, c, e, ?_, h4⟩
      by_cases hn : q.2 = []
      · rw [hn]; exact IntsAt.nil _ _
      · exact h3.keep fun a ha => hk _ (h4 hn a ha)
def IOf (w : World) (q : Value × List Int) : Prop := ∃ A c, q.1 = .slice A q.2.length c ∧ IntsAt w A q.2
/-- Two parts are told as one. -/
theorem Sp.merge {w0 w : World} {q1 q2 q : Asn} {ps : List Asn} (h : Sp w0 w (q1 :: q2 :: ps)) (hm : ∀ F1 F2, q1.p w F1 → q2.p w F2 → q.p w (F1 ++ F2)) : Sp w0 w (q :: ps) := by
  obtain ⟨h1, G, ⟨F1, G1, rfl, d1, p1, F2, G2, rfl, d2, p2, h5⟩, h3⟩ := h
  refine ⟨h1, (F1 ++ F2) ++ G2, ⟨F1 ++ F2, G2, rfl, fun b hb hb2 => ?_, hm F1 F2 p1 p2, h5⟩, fun b hb => h3 b ?_⟩
  · rcases List.mem_append.1 hb with h | h
    · exact d1 b h (List.mem_append.2 (.inr hb2))
    · exact d2 b h hb2
  · simp only [List.mem_append] at hb ⊢
    rcases hb with (h | h) | h
    · exact .inl h
    · exact .inr (.inl h)
    · exact .inr (.inr h)
section
variable {w0 w w' : World} {ps : List Asn} {i : Nat} {K : List (Value × List Int)} {v : Value} {xs : List Int}
theorem Sp.ipool_nil (h : Sp w0 w ps) : Sp w0 w (IPool [] :: ps) := h.new (F := []) (bb _) ⟨by simp, by simp⟩ (by simp)
theorem Sp.ipool_at (h : Sp w0 w ps) (hi : ps[i]? = some (IPool K)) : ∀ q ∈ K, IOf w q := fun q hq => by
  obtain ⟨F, hp, _⟩ := h.get hi
  obtain ⟨A, c, e, h1, -⟩ := hp.2 q hq
  exact ⟨A, c, e, h1⟩
/-- An own row is let go: it is only read from now on. -/
theorem Sp.ipool_in (h : Sp w0 w (Own 3 1 v xs.length (xs.map (.int .i64)) :: IPool K :: ps)) (hI : ∀ x ∈ xs, I64 x) : Sp w0 w (IPool ((v, xs) :: K) :: ps) :=
  h.merge fun F1 F2 h1 h2 => by
    obtain ⟨rfl, ho⟩ := h1
    obtain ⟨A, c, rfl, hx⟩ := ints_own ho hI
    refine ⟨fun b hb => ?_, fun q hq => ?_⟩
    · rcases List.mem_append.1 hb with hb | hb
      · exact owns_lt ho (by simpa using hb)
      · exact h2.1 b hb
    · rcases List.mem_cons.1 hq with rfl | hq
      · exact ⟨A, c, rfl, hx, fun _ a ha => by subst ha; simp [Value.ownBlock]⟩
      · obtain ⟨A', c', e, h3, h4⟩ := h2.2 q hq
        exact ⟨A', c', e, h3, fun hn a ha => List.mem_append.2 (.inr (h4 hn a ha))⟩
theorem Sp.ipool_empty (h : Sp w0 w (IPool K :: ps)) : Sp w0 w (IPool ((.slice none 0 0, []) :: K) :: ps) := by
  obtain ⟨h1, G, ⟨F1, G1, rfl, d1, p1, h5⟩, h3⟩ := h
  refine ⟨h1, F1 ++ G1, ⟨F1, G1, rfl, d1, ⟨p1.1, fun q hq => ?_⟩, h5⟩, h3⟩
  rcases List.mem_cons.1 hq with rfl | hq
  · exact ⟨none, 0, rfl, IntsAt.nil _ _, fun hn => absurd rfl hn⟩
  · exact p1.2 q hq
end
/-- An own row of slices, told with what they hold. -/
abbrev SRow (v : Value) (ks : List (Value × List Int)) : Asn := Own 33 1 v ks.length (ks.map Prod.fst)
theorem cls_own {w : World} {B : Nat} {e : TypeId} {v : Value} {ks : List (Value × List Int)} (h : w.ownsRow B e 1 v ks.length (ks.map Prod.fst)) (hok : ∀ x ∈ ks, IOf w x) : ∃ A c, v = .slice A ks.length c ∧ ClsAt w A (ks.map Prod.snd) := by
  obtain ⟨_, ⟨rfl, h0⟩ | ⟨g, cap, cur, rfl, _, hh, _, _, hs, ht⟩⟩ := h
  · have : ks = [] := List.length_eq_zero_iff.1 h0
    subst this
    exact ⟨none, 0, rfl, ⟨fun j hj => absurd hj (by simp)⟩⟩
  · refine ⟨_, cap, rfl, ⟨fun j hj => ?_⟩⟩
    have hj2 : j < ks.length := by simpa using hj
    obtain ⟨A, c, e2, hN⟩ := hok ks[j] (List.getElem_mem hj2)
    refine ⟨g, 0, A, c, rfl, ?_, by simpa using hN⟩
    have := hown_cell hh ht (j := j) (by omega)
    rw [Nat.zero_add, this, List.getElem?_map, List.getElem?_eq_getElem hj2]
    simp [e2]

set_option maxRecDepth 100000 in
set_option maxHeartbeats 1000000 in
theorem cloneD_any (A : Option Addr) (cap : Nat) (xs : List Int) (w : World) (hx : IntsAt w A xs) (hl : xs.length ≤ 1000) :
    Calls Tryz.prog 59 #[.slice A xs.length cap] w fun e w' => ∃ B c, e = .returned (.slice B xs.length c) ∧ Sp w w' [Own 3 1 (.slice B xs.length c) xs.length (xs.map (.int .i64))] := by
  obtain ⟨i0, hi, hz0, hz1, hz2⟩ := info_parts infoInt
  have qT : ∀ (w : World) (a : Option Addr) (n c n' c' : Nat), (binOp .eql 33 (.slice a n c) (.slice none n' c')).run Tryz.prog w = .ok (.bool a.isNone) w := fun w a n c n' c' => Lib.run_eql_slice_nil w _ _ a n c n' c' Tryz.underlying33
  cases A with
  | none =>
    have he : xs = [] := by
      cases xs with
      | nil => rfl
      | cons x xs =>
        obtain ⟨b, off, e, -⟩ := hx.at_ 0 (by simp)
        cases e
    subst he
    go_enter Tryz.func59, Tryz.ntmps59
    go_wp2_with fail
    go_ret
    exact ⟨none, 0, rfl, (Sp.start w).own_nil _ _⟩
  | some ad =>
    have S0 := Lib.hid ((Sp.start w).own_made 3 1)
    have hsrc : Src (w.alloc (.cells #[] 3)) (some ad) xs.length 1 (xs.map (.int .i64)) := by
      rcases Nat.eq_zero_or_pos xs.length with h0 | h0
      · exact .inl ⟨h0, by rw [List.length_eq_zero_iff.1 h0]; rfl⟩
      · obtain ⟨b, off, e, -⟩ := hx.at_ 0 h0
        cases e
        exact .inr ⟨_, rfl, by simp, fun j u hj => by
          obtain ⟨hj1, hj2⟩ := List.getElem?_eq_some_iff.1 hj
          rw [add_none]
          have := (hx.grow (bal (bb w) (.cells #[] 3))).get (j := j) (by simpa using hj1)
          rw [this, ← hj2]; simp⟩
    have hone : ∀ u ∈ xs.map (Value.int .i64), u.oneCell' = true := fun u hu => by
      obtain ⟨x, _, rfl⟩ := List.mem_map.1 hu
      rfl
    replace hsrc := Lib.hid hsrc
    replace hone := Lib.hid hone
    generalize xs.map (Value.int .i64) = l at *
    generalize xs.length = m at *
    clear hx
    go_enter Tryz.func59, Tryz.ntmps59
    go_wp2_with (at_builtin; refine wpList_append_src rfl _ _ rfl Tryz.underlying33 hi hz0 hz1 hz2 rfl (by decide) _ _ _ rfl (S0.out.own (i := 0) rfl) (some ad) m cap l rfl hsrc.out hone.out ?c3 ?c4 ?_)
    case c3 => unfold maxLen; omega
    case c4 => omega
    intro v' w1 hown hg hat
    have S1 := S0.out.own_push (i := 0) rfl (bb _) hown hg (by simpa using hat)
    obtain ⟨a', c', rfl⟩ := owns_form hown
    replace S1 := Lib.hid S1
    clear S0 hown hg hat hsrc
    go_wp2_with fail
    go_ret
    exact ⟨a', c', rfl, S1.out⟩

/- left out: the seat has no impl.negated -/
end Go.Proofs.YtnfjgebfmnpkbaaGreat

/- Contract: at most, in the program. -/
namespace Go.Proofs.YtnfjgebfmnpkbaaGreat
open Go.RowKit

/-- What is asked of mustClause. -/
def MustC : Prop := ∀ (zs : List Int) (A : Option Addr) (cap : Nat) (w : World), IntsAt w A zs → (∀ x ∈ zs, LitS x) → zs.length ≤ 2000 → Calls Tryz.prog 45 #[.slice A zs.length cap] w (OneI w ((clauseR zs).getD []))

/- left out: the seat has no impl.AtMostCnf -/

/- left out: the seat has no impl.AtMostCnf -/
end Go.Proofs.YtnfjgebfmnpkbaaGreat

/- Contract: at least, in the program. -/
namespace Go.Proofs.YtnfjgebfmnpkbaaGreat
open Go.RowKit

theorem leastL_zero (n : Nat) : leastL n 0 = [] := rfl
theorem leastL_over {n k : Nat} (h : n < k) : leastL n k = [[]] := by unfold leastL; rw [if_neg (by omega), show n + 1 - k = 0 by omega, chL_zero]
theorem leastL_mid {n k : Nat} (h : 0 < k) : leastL n k = chL n (n + 1 - k) := by unfold leastL; rw [if_neg (by omega)]
theorem good_nil : GoodS [] := ⟨by simp, by simp⟩

/- left out: the seat has no impl.AtLeastCnf -/

/- left out: the seat has no impl.AtLeastCnf -/
end Go.Proofs.YtnfjgebfmnpkbaaGreat

/- Contracts: literals compared and sorted, and the clause of literals, in the program. -/
namespace Go.Proofs.YtnfjgebfmnpkbaaGreat
open Go.RowKit Go.Sort

def orL (x y : Int) : Int := if x = 0 then y else x
theorem cmpL_or (a b : Int) : orL (Lib.compareInt (absW a) (absW b)) (Lib.compareInt b a) = cmpL a b := by
  unfold orL cmpL Lib.compareInt
  by_cases h1 : absW a < absW b
  · simp [h1]
  · by_cases h2 : absW b < absW a
    · simp [h1, h2]
    · simp [h1, h2]
set_option maxHeartbeats 400000 in
theorem absW_any (l : Int) (w : World) : Calls Tryz.prog 70 #[.int .i64 l] w fun e w' => e = .returned (.int .i64 (absW l)) ∧ w = w' := by
  have hd : Hid (absW l = if l < wrap64 (-l) then wrap64 (-l) else l) := rfl
  go_enter Tryz.func70, Tryz.ntmps70
  by_cases h : l < wrap64 (-l)
  · go_wp2
    go_ret
    exact ⟨ret_int (by first | (rw [hd.out, if_pos h]; done) | (rw [hd.out, if_pos h]; exact Int.max_eq_right (Int.le_of_lt h))), rfl⟩
  · go_wp2
    go_ret
    exact ⟨ret_int (by first | (rw [hd.out, if_neg (Int.not_lt.mpr h)]; done) | (rw [hd.out, if_neg (by omega)]; exact Int.max_eq_left (by omega))), rfl⟩
set_option maxHeartbeats 1000000 in
theorem cmpOrL_any (b : Nat) (x y : Int) (w : World) (k0 : w.cell? ⟨b, 0, none⟩ = some (.int .i64 x)) (k1 : w.cell? ⟨b, 1, none⟩ = some (.int .i64 y)) :
    Calls Tryz.prog 86 #[.slice (some ⟨b, 0, none⟩) 2 2] w fun e w' => e = .returned (.int .i64 (orL x y)) ∧ w = w' := by
  by_cases hx : x = 0
  · have hR : Hid (orL x y = y) := by unfold Hid orL; rw [if_pos hx]
    subst hx
    by_cases hy : y = 0
    · subst hy
      go_enter Tryz.func86, Tryz.ntmps86
      go_wp2_with fail
      refine wp_loop_rounds 3 ?_
      rw [rounds_succ]
      go_wp2_with fail
      rw [rounds_succ]
      go_wp2_with fail
      rw [rounds_succ]
      go_wp2_with fail
      go_ret
      exact ⟨ret_int hR.out.symm, rfl⟩
    · have hy2 : (y != 0) = true := by simpa using hy
      go_enter Tryz.func86, Tryz.ntmps86
      go_wp2_with fail
      refine wp_loop_rounds 3 ?_
      rw [rounds_succ]
      go_wp2_with fail
      rw [rounds_succ]
      go_wp2_with fail
      go_ret
      exact ⟨ret_int hR.out.symm, rfl⟩
  · have hR : Hid (orL x y = x) := by unfold Hid orL; rw [if_neg hx]
    have hx2 : (x != 0) = true := by simpa using hx
    go_enter Tryz.func86, Tryz.ntmps86
    go_wp2_with fail
    refine wp_loop_rounds 3 ?_
    rw [rounds_succ]
    go_wp2_with fail
    go_ret
    exact ⟨ret_int hR.out.symm, rfl⟩

set_option maxHeartbeats 1000000 in
theorem compareLiterals_any (a b : Int) (W : World) :
    Calls Tryz.prog 76 #[.int .i64 a, .int .i64 b] W fun e w' => e = .returned (.int .i64 (cmpL a b)) ∧ ∃ q os, w' = grow (W.drewN q) os := by
  have h1 := Lib.hid (fun V => absW_any a V)
  have h2 := Lib.hid (fun V => absW_any b V)
  have h3 := Lib.hid (fun V => Tryz.cmp_Compare_int (absW a) (absW b) V)
  have h4 := Lib.hid (fun V => Tryz.cmp_Compare_int b a V)
  obtain ⟨r, hr⟩ : ∃ r, cmpL a b = r := ⟨_, rfl⟩
  have hor := cmpL_or a b
  rw [hr] at hor ⊢
  obtain ⟨x, hx⟩ : ∃ x, Lib.compareInt (absW a) (absW b) = x := ⟨_, rfl⟩
  obtain ⟨y, hy⟩ : ∃ y, Lib.compareInt b a = y := ⟨_, rfl⟩
  rw [hx] at h3 hor
  rw [hy] at h4 hor
  clear hx hy
  generalize absW a = aa at *
  generalize absW b = ab at *
  have hcO := Lib.hid (fun V k0 k1 => cmpOrL_any W.heap.size x y V k0 k1)
  rw [hor] at hcO
  clear hr hor
  go_enter Tryz.func76, Tryz.ntmps76
  go_wp2_with fail
  refine (h1.out _).mono ?_
  rintro e w1 ⟨rfl, rfl⟩
  go_wp2_with fail
  refine (h2.out _).mono ?_
  rintro e w1 ⟨rfl, rfl⟩
  go_wp2_with fail
  refine (h3.out _).mono ?_
  rintro e w1 ⟨rfl, hw⟩
  subst hw
  go_wp2_with fail
  refine (h4.out _).mono ?_
  rintro e w1 ⟨rfl, hw⟩
  subst hw
  go_wp2_with fail
  have k0 : (w1.alloc (.cells #[.int .i64 x, .int .i64 y] 3)).cell? ⟨w1.heap.size, 0, none⟩ = some (.int .i64 x) := cell_of_row _ _ _ _ _ _ (heap_alloc_new w1 _)
  have k1 : (w1.alloc (.cells #[.int .i64 x, .int .i64 y] 3)).cell? ⟨w1.heap.size, 1, none⟩ = some (.int .i64 y) := cell_of_row _ _ _ _ _ _ (heap_alloc_new w1 _)
  refine (hcO.out _ k0 k1).mono ?_
  rintro e w2 ⟨rfl, hw⟩
  clear k0 k1
  subst hw
  go_wp2_with fail
  go_ret
  exact ⟨rfl, 0, #[_], alloc_eq_grow _ _⟩

theorem ltL {x y : Int} : ltOf cmpL x y = true ↔ befL x y := by unfold ltOf; rw [decide_eq_true_eq, cmpL_neg]
theorem ltL_no {x y : Int} : ltOf cmpL x y = false ↔ ¬ befL x y := by rw [← ltL]; simp
theorem cmpL_swo : SWO (ltOf cmpL) where
  irrefl x := by rw [ltL_no]; unfold befL; omega
  trans x y z h1 h2 := by rw [ltL] at *; exact befL_trans h1 h2
  ntrans x y z h1 h2 := by rw [ltL_no] at *; unfold befL at *; omega

theorem sortFuncL_any (xs : List Int) (B : Option Addr) (cc : Nat) (w0 w : World) (ps : List Asn) (S : Sp w0 w (Own 3 1 (.slice B xs.length cc) xs.length (xs.map (.int .i64)) :: ps)) (hl : xs.length ≤ 1000000) :
    Calls Tryz.prog 75 #[.slice B xs.length cc, .func (.func 76) #[] #[]] w fun e w' => e = .returned (.tuple #[]) ∧ Sp w0 w' (Own 3 1 (.slice B xs.length cc) xs.length ((sortL xs).map (.int .i64)) :: ps) := by
  rcases Nat.eq_zero_or_pos xs.length with h0 | h0
  · obtain rfl : xs = [] := List.length_eq_zero_iff.1 h0
    refine Calls.mono (by first | exact Tryz.slices_SortFunc_none B cc _ w | exact Tryz.slices_SortFunc_none (α := Nat) B cc _ w) ?_
    rintro e w' ⟨rfl, rfl⟩
    refine ⟨rfl, ?_⟩
    unfold sortL
    rw [List.mergeSort_nil]
    exact S
  · have eg : ∀ args w, (callFunc 76 args).run Tryz.prog w = .ok (.enter 76 args) w := enters_of Tryz.func76 (by kernel_rfl) rfl
    obtain ⟨g, cap, cur, e1, h0', hg, hnc, hmx, hc, ht⟩ := own_block (S.own (i := 0) rfl) h0
    simp only [Value.slice.injEq] at e1
    obtain ⟨rfl, -, rfl⟩ := e1
    rw [Nat.mul_one] at ht
    have hH := holds_of_blockI hg ht
    have h := Any.slices_SortFunc_total Tryz.laysSlF6_f75 (Value.int .i64) (fun _ => rfl) cmpL cmpL_swo 76 #[] g 0 cc xs.toArray w eg (fun m os dk _ x y => compareLiterals_any x y _) hH (S.own (i := 0) rfl |> fun h => owns_lt h rfl) (by simp; omega) (fun x y h1 h2 => by
      rw [ltL_no] at h1 h2
      unfold befL at h1 h2
      omega)
    have hsz : xs.toArray.size = xs.length := by simp
    rw [hsz] at h
    refine Calls.mono h ?_
    rintro e w' ⟨rfl, n, os, rfl⟩
    refine ⟨rfl, ?_⟩
    have e2 : (xs.toArray.toList.mergeSort fun x y => !(ltOf cmpL) y x) = sortL xs := by
      unfold sortL ltOf; rfl
    rw [e2]
    exact S.own_push (i := 0) rfl (bb _) (ownsRow_sortedI (by unfold sortL; exact List.length_mergeSort _) (Nat.zero_le _) hg hnc hmx hc) (grownBy_sortedI _) (.inl rfl)
end Go.Proofs.YtnfjgebfmnpkbaaGreat

/- Contracts: the clause of literals, literals that are set, in the program. -/
namespace Go.Proofs.YtnfjgebfmnpkbaaGreat
open Go.RowKit

set_option maxRecDepth 100000 in
set_option maxHeartbeats 4000000 in
theorem clause_any (zs : List Int) (A : Option Addr) (cap : Nat) (w : World) (hx : IntsAt w A zs) (hz : ∀ x ∈ zs, LitS x) (hl : zs.length ≤ 2000) :
    Calls Tryz.prog 66 #[.slice A zs.length cap] w (OwnAns w (clauseR zs).isSome ((clauseR zs).getD [])) := by
  have hcl := Lib.hid (cloneA_any A cap zs w hx (by omega))
  have hsl : (sortL zs).length = zs.length := List.length_mergeSort _
  have hcpl := cptL_len zs
  have hlit := Lib.hid (fun x (h : x ∈ cptL zs) => hz x (cptL_mem.1 h))
  have hR : Hid (clauseR zs = if okTo (cptL zs) ((cptL zs).length - 1) then some (cptL zs) else none) := rfl
  have hcp : Hid (cptL zs = Lib.compact (sortL zs)) := rfl
  generalize clauseR zs = R at *
  replace hsl := Lib.hid hsl
  clear hx hz
  go_enter Tryz.func66, Tryz.ntmps66
  go_wp2_with fail
  refine hcl.out.mono ?_
  rintro e w1 ⟨D, dc, rfl, T⟩
  have hso := Lib.hid (sortFuncL_any zs D dc w w1 [] T (by omega))
  clear T hcl
  go_wp2_with fail
  refine hso.out.mono ?_
  rintro e w2 ⟨rfl, S2⟩
  rw [← hsl.out] at S2 ⊢
  have hsl2 : (sortL zs).length ≤ 1000000 := by rw [hsl.out]; omega
  have hco := Lib.hid (compactI_any _ D dc w _ [] S2 hsl2)
  rw [← hcp.out] at hco
  clear S2 hso hcp hsl2
  generalize sortL zs = sz at *
  replace hsl := Lib.hid hsl
  have hcl2 : (cptL zs).length ≤ 2000 := by omega
  clear hcpl
  generalize cptL zs = out at *
  go_wp2_with fail
  refine hco.out.mono ?_
  rintro e w3 ⟨rfl, S3⟩
  replace S3 := Lib.hid S3
  clear hco
  go_wp2_with fail
  go_loopw [5] (fun v5 wr => ∃ (k : Nat) (z : Int), k + 1 ≤ out.length + 1 ∧ 1 ≤ z ∧ z ≤ 3000 ∧ Hid ((k : Int) + 1 = z) ∧ v5 = .int .i64 z ∧ Hid (okTo out k = true) ∧ Hid (Sp w wr [Own 3 1 (.slice D out.length dc) out.length (out.map (.int .i64))])) (fun v5 _ => 4000 - (intOf v5).toNat)
  case atStart => exact ⟨0, 1, by omega, by decide, by decide, rfl, rfl, rfl, S3⟩
  case round =>
    clear S3
    obtain ⟨k, z, hk, hz1, hz2, hkz, rfl, hok, HS⟩ := hrel
    by_cases hlt : z < (out.length : Int)
    · have hk1 : k + 1 < out.length := by have := hkz.out; omega
      have hI := HS.out.ints (i := 0) rfl (fun x hx => (hlit.out x hx).i64)
      obtain ⟨b, off, rfl, m1⟩ := hI.at_ (k + 1) hk1
      obtain ⟨b', off', e1, m0⟩ := hI.at_ k (by omega)
      cases e1
      have k1 := cell_regrown m1
      have k0 := cell_regrown m0
      have hL1 := hlit.out _ (List.getElem_mem hk1)
      have hL0 := hlit.out _ (List.getElem_mem (show k < out.length by omega))
      have hneg : IntKind.i64.wrap (-out[k]) = -out[k] := IntWalk.i64_in _ (by unfold LitS at hL0; omega)
      have hzk : (z : Int) = ((k + 1 : Nat) : Int) := by have := hkz.out; omega
      have hyes := Lib.hid (fun (h : (out.getD (k + 1) 0 == -(out.getD k 0)) = true) => okTo_no (n := out.length - 1) (by omega) h)
      have hno := Lib.hid (fun (h : (out.getD (k + 1) 0 == -(out.getD k 0)) = false) => okTo_next hok.out h)
      have hg1 : out.getD (k + 1) 0 = out[k + 1] := by rw [List.getD_eq_getElem?_getD, List.getElem?_eq_getElem hk1]; rfl
      have hg0 : out.getD k 0 = out[k] := by rw [List.getD_eq_getElem?_getD, List.getElem?_eq_getElem (by omega)]; rfl
      rw [hg1, hg0] at hyes hno
      have hwz : IntKind.i64.wrap (((k + 1 : Nat) : Int) - 1) = (k : Int) := by rw [IntWalk.i64_in _ (by omega)]; omega
      have hwz2 : IntKind.i64.wrap (((k + 1 : Nat) : Int) + 1) = ((k + 1 + 1 : Nat) : Int) := by rw [IntWalk.i64_in _ (by omega)]; omega
      have hkz2 : Hid (((k + 1 : Nat) : Int) + 1 = ((k + 1 + 1 : Nat) : Int)) := rfl
      generalize out[k + 1] = y at *
      generalize out[k] = x at *
      subst hzk
      obtain ⟨q, hq⟩ : ∃ q, (y == -x) = q := ⟨_, rfl⟩
      rw [hq] at hyes hno
      clear m1 m0 hI hL1 hL0 hg1 hg0 hkz hok
      cases q
      · have hok2 := Lib.hid (hno.out rfl)
        clear hno hyes
        go_wp2_with fail
        refine wp_region_quiet_below (by kernel_rfl) (by kernel_rfl) ?_
        repeat (any_goals (go_big_quiet_step (fail)))
        refine wpQuiet_nil ?_
        rintro w4 ⟨p, rfl⟩
        have HS4 := Lib.hid (HS.out.grow (below_regrown _ p.d p.os))
        clear HS k0 k1
        go_wp2_with fail
        go_roundw
        case rel => exact ⟨k + 1, ((k + 1 + 1 : Nat) : Int), by omega, by omega, by omega, hkz2, rfl, hok2, HS4⟩
        case measure => simp [intOf]; omega
      · have hok2 := Lib.hid (hyes.out rfl)
        clear hno hyes
        go_wp2_with fail
        refine wp_region_quiet_below (by kernel_rfl) (by kernel_rfl) ?_
        repeat (any_goals (go_big_quiet_step (fail)))
        refine wpQuiet_nil ?_
        rintro w4 ⟨p, rfl⟩
        have HS4 := Lib.hid ((Sp.of_below (HS.out.grow (below_regrown _ p.d p.os)).below).own_nil 3 1)
        have hRn : Hid (R = none) := by unfold Hid; rw [hR.out, if_neg (by rw [hok2.out]; simp)]
        clear HS k0 k1 hR
        go_wp2_with fail
        go_ret2
        rw [hRn.out]
        exact ⟨none, 0, rfl, HS4.out⟩
    · have hRs : Hid (R = some out) := by
        unfold Hid
        rw [hR.out, if_pos]
        have h1 := hok.out
        have : out.length - 1 ≤ k := by have := hkz.out; omega
        unfold okTo at h1 ⊢
        rw [List.all_eq_true] at h1 ⊢
        exact fun i hi => h1 i (List.mem_range.2 (by have := List.mem_range.1 hi; omega))
      clear hR
      go_wp2_with fail
      go_ret2
      rw [hRs.out]
      exact ⟨D, dc, rfl, HS.out⟩
end Go.Proofs.YtnfjgebfmnpkbaaGreat

/- Contracts: literals set, assignments merged, on both sides. -/
namespace Go.Proofs.YtnfjgebfmnpkbaaGreat
open Go.RowKit

def mergeR (vars : Int) (a b : List Int) : Option (List Int) := if clauseB vars a && clauseB vars b then joinS a b else none
def setR (vars : Int) (a : List Int) (l : Int) : Option (List Int) := if clauseB vars a && litB vars l then some (setS a l) else none
theorem good_len_s {vars : Int} {c : List Int} (h : clauseB vars c = true) : c.length ≤ 1000 := (clause_s h).2
/- left out: the seat has no impl.isVar -/

set_option maxHeartbeats 1000000 in
theorem mustClause_any (zs : List Int) (A : Option Addr) (cap : Nat) (w : World) (hx : IntsAt w A zs) (hz : ∀ x ∈ zs, LitS x) (hl : zs.length ≤ 2000) :
    Calls Tryz.prog 45 #[.slice A zs.length cap] w (OneI w ((clauseR zs).getD [])) := by
  have hc := Lib.hid (clause_any zs A cap w hx hz hl)
  generalize (clauseR zs).getD [] = R at *
  generalize (clauseR zs).isSome = q at *
  clear hx hz
  go_enter Tryz.func45, Tryz.ntmps45
  go_wp2_with fail
  refine hc.out.mono ?_
  rintro e w1 ⟨D, dc, rfl, T⟩
  replace T := Lib.hid T
  go_wp2_with fail
  go_ret
  exact ⟨D, dc, rfl, T.out⟩

set_option maxRecDepth 100000 in
set_option maxHeartbeats 2000000 in
theorem setI_any (a : List Int) (A : Option Addr) (cap : Nat) (l : Int) (w : World) (hx : IntsAt w A a) (ga : GoodS a) (hl : LitS l) (hal : a.length ≤ 1000) :
    Calls Tryz.prog 63 #[.slice A a.length cap, .int .i64 l] w (OneI w (setS a l)) := by
  obtain ⟨i0, hi0, hy0, hy1, hy2⟩ := info_parts infoInt
  have hab := Lib.hid (fun W => abs_at hl.i64 (rfl : absV l = absV l) W)
  have hwo := Lib.hid (fun W (h : Below w.heap.size w W) => withoutVar_any a A cap (absV l) W (hx.grow h) ga.mem hal)
  have hwl : (withoutB a (absV l)).length ≤ a.length := List.length_filter_le _ _
  have hlit : Hid (∀ x ∈ withoutB a (absV l) ++ [l], LitS x) := fun x hx => by
    rcases List.mem_append.1 hx with h | h
    · exact (without_good ga _).mem x h
    · obtain rfl : x = l := by simpa using h
      exact hl
  have hR := Lib.hid (clauseR_set ga hl)
  generalize setS a l = R at *
  generalize withoutB a (absV l) = b at *
  generalize absV l = v at *
  clear hx ga
  go_enter Tryz.func63, Tryz.ntmps63
  go_wp2_with fail
  refine (hab.out _).mono ?_
  rintro e w1 ⟨rfl, hb1⟩
  have S0 := Lib.hid (Sp.of_below hb1)
  have hwo2 := Lib.hid (hwo.out w1 hb1)
  clear hab hwo hb1
  go_wp2_with fail
  refine hwo2.out.mono ?_
  rintro e w2 ⟨D, dc, rfl, T⟩
  have S1 : Hid (Sp w w2 [Own 3 1 (.slice D b.length dc) b.length (b.map (.int .i64))]) := S0.out.seq T
  clear hwo2 S0 T
  have S3 := S1.out.alloc_box #[.int .i64 l] 3
  (try simp only [World.size_setCell] at S3)
  have kB := S3.cell (i := 0) rfl (o := 0) rfl
  replace S3 := Lib.hid S3
  clear S1
  go_wp2_with (at_builtin; refine wpList_append_src rfl _ _ rfl Tryz.underlying33 hi0 hy0 hy1 hy2 rfl (by decide) _ _ _ rfl (S3.out.own (i := 1) rfl) _ 1 1 [.int .i64 l] rfl (Src.one kB) (by simp [Value.oneCell']) ?c3 ?c4 ?_)
  case c3 => unfold maxLen; omega
  case c4 => omega
  intro vY wY hownY hgY hatY
  have S4 := (S3.out.own_push (i := 1) rfl (bb _) hownY hgY (by simpa using hatY)).tail
  obtain ⟨aY, cY, rfl⟩ := own_slice hownY
  have S5 := Lib.hid (ownI_snoc (d := b) (x := l) S4)
  clear S3 S4 kB hownY hgY hatY
  have hlen : b.length + 1 = (b ++ [l]).length := by simp
  rw [hlen]
  replace hlen := Lib.hid hlen
  have hI := S5.out.ints (i := 0) rfl (fun x hx => (hlit.out x hx).i64)
  have hbl : (b ++ [l]).length ≤ 2000 := by rw [← hlen.out]; omega
  have hmu := Lib.hid (mustClause_any (b ++ [l]) aY cY _ hI hlit.out hbl)
  rw [hR.out] at hmu
  clear hI hlit hR hlen hbl
  generalize b ++ [l] = zs at *
  go_wp2_with fail
  refine hmu.out.mono ?_
  rintro e w3 ⟨E, ec, rfl, T⟩
  have S6 := Lib.hid ((S5.out.seq T).pick (qs := [Own 3 1 (.slice E R.length ec) R.length (R.map (.int .i64))]) [0] rfl)
  clear S5 T hmu
  go_wp2_with fail
  go_ret
  exact ⟨E, ec, rfl, S6.out⟩

/- left out: the seat has no spec.l3Set -/

/- left out: the seat has no impl.SetLiteral -/

/- left out: the seat has no spec.SetLiteral -/
end Go.Proofs.YtnfjgebfmnpkbaaGreat

/- Contracts: assignments merged, on both sides; extended, unset, and their bits, in the program. -/
namespace Go.Proofs.YtnfjgebfmnpkbaaGreat
open Go.RowKit

/- left out: the seat has no impl.MergeAssignments -/

/- left out: the seat has no spec.MergeAssignments -/

/- left out: the seat has no impl.part$1 -/

/- left out: the seat has no impl.DoesExtend -/

/- left out: the seat has no impl.UnsetVar -/
end Go.Proofs.YtnfjgebfmnpkbaaGreat
