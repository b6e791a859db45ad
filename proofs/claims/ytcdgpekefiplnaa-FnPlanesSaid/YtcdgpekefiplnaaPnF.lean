/- Contracts: sums, multiples and quotients of inequalities, in the program. -/
import Derived.Test.YtcdgpekefiplnaaPnE
namespace Go.Proofs.Ytcdgpekefiplnaa
open Go.RowKit

def zq (q : Bool) (cs : List Int) : List Int := if q then cs else []
def zb (q : Bool) (b : Int) : Int := if q then b else 0
/-- An inequality is given back, or the zero one. -/
def GPost (w : World) (q : Bool) (b : Int) (cs : List Int) (e : Ending) (w' : World) : Prop :=
  ∃ A c, e = .returned (.tuple #[.agg #[.slice A (zq q cs).length c, .int .i64 (zb q b)], .bool q]) ∧ IntsAt w' A (zq q cs) ∧ Below w.heap.size w w'
theorem gpost_no {w w' : World} {q : Bool} {b : Int} {cs : List Int} (h : q = false) (hb : Below w.heap.size w w') : GPost w q b cs (.returned (.tuple #[.agg #[.slice none 0 0, .int .i64 0], .bool false])) w' := by
  subst h
  exact ⟨none, 0, rfl, IntsAt.nil _ _, hb⟩
theorem gpost_yes {w w' : World} {q : Bool} {b : Int} {cs : List Int} {A : Option Addr} {c : Nat} (h : q = true) (hI : IntsAt w' A cs) (hb : Below w.heap.size w w') : GPost w q b cs (.returned (.tuple #[.agg #[.slice A cs.length c, .int .i64 b], .bool true])) w' := by
  subst h
  exact ⟨A, c, rfl, hI, hb⟩
theorem gpost_up {w w1 w' : World} {q : Bool} {b : Int} {cs : List Int} {e : Ending} (hb : Below w.heap.size w w1) (h : GPost w1 q b cs e w') : GPost w q b cs e w' := by
  obtain ⟨A, c, h1, h2, h3⟩ := h
  exact ⟨A, c, h1, h2, btr hb h3⟩
theorem sp_ints {w W : World} {ps : List Asn} {A : Option Addr} {cs : List Int} (h : Sp w W ps) (hx : IntsAt w A cs) : IntsAt W A cs := hx.grow h.below

set_option maxRecDepth 100000 in
set_option maxHeartbeats 2000000 in
theorem checkedPlane_no (vars b : Int) (cs : List Int) (A : Option Addr) (cap : Nat) (w : World) (hx : IntsAt w A cs) (hl : cs.length ≤ 1000000) (hq : goodQ vars b cs = false) :
    Calls Try.prog 25 #[.int .i64 vars, .agg #[.slice A cs.length cap, .int .i64 b], .bool true] w fun e w' => e = .returned (.tuple #[.agg #[.slice none 0 0, .int .i64 0], .bool false]) ∧ Below w.heap.size w w' := by
  have S0 := ((Sp.start w).alloc_box #[.slice A cs.length cap, .int .i64 b] 26).alloc_box #[.slice none 0 0, .int .i64 0] 26
  simp only [World.size_alloc] at S0
  have c0 := S0.cell (i := 1) rfl (o := 0) rfl
  have c1 := S0.cell (i := 1) rfl (o := 1) rfl
  have h1 := Lib.hid (isInequality_any vars b cs A cap _ (sp_ints S0 hx) hl)
  replace S0 := Lib.hid S0
  rw [hq] at h1
  clear hx hq
  go_enter Try.func25, Try.ntmps25
  go_wp2_with fail
  refine h1.out.mono ?_
  rintro e w1 ⟨rfl, hb1⟩
  have S1 := Lib.hid (S0.out.grow hb1)
  clear S0 h1 hb1 c0 c1
  have r0 := S1.out.cell (i := 0) rfl (o := 0) rfl
  have r1 := S1.out.cell (i := 0) rfl (o := 1) rfl
  have f0 := S1.out.frozen (i := 0) rfl 0
  have f1 := S1.out.frozen (i := 0) rfl 1
  have SF := (S1.out.store (i := 0) rfl 0 (.slice none 0 0)).store (i := 0) rfl 1 (.int .i64 0)
  have j0 := SF.cell (i := 0) rfl (o := 0) rfl
  have j1 := SF.cell (i := 0) rfl (o := 1) rfl
  have hB := SF.below
  clear SF
  go_wp2_with fail
  exact bodyPost_ret (v := .tuple #[.agg #[.slice none 0 0, .int .i64 0], .bool false]) (by simp [results, Try.results25, go_sem, j0, j1]) rfl (⟨rfl, hB⟩)

set_option maxRecDepth 100000 in
set_option maxHeartbeats 2000000 in
theorem checkedPlane_yes (vars b : Int) (cs : List Int) (A : Option Addr) (cap : Nat) (w : World) (hx : IntsAt w A cs) (hl : cs.length ≤ 1000000) (hq : goodQ vars b cs = true) :
    Calls Try.prog 25 #[.int .i64 vars, .agg #[.slice A cs.length cap, .int .i64 b], .bool true] w fun e w' => e = .returned (.tuple #[.agg #[.slice A cs.length cap, .int .i64 b], .bool true]) ∧ Below w.heap.size w w' := by
  have S0 := ((Sp.start w).alloc_box #[.slice A cs.length cap, .int .i64 b] 26).alloc_box #[.slice none 0 0, .int .i64 0] 26
  simp only [World.size_alloc] at S0
  have c0 := S0.cell (i := 1) rfl (o := 0) rfl
  have c1 := S0.cell (i := 1) rfl (o := 1) rfl
  have h1 := Lib.hid (isInequality_any vars b cs A cap _ (sp_ints S0 hx) hl)
  replace S0 := Lib.hid S0
  rw [hq] at h1
  clear hx hq
  go_enter Try.func25, Try.ntmps25
  go_wp2_with fail
  refine h1.out.mono ?_
  rintro e w1 ⟨rfl, hb1⟩
  have S1 := Lib.hid (S0.out.grow hb1)
  have d0 := S1.out.cell (i := 1) rfl (o := 0) rfl
  have d1 := S1.out.cell (i := 1) rfl (o := 1) rfl
  clear S0 h1 hb1 c0 c1
  have r0 := S1.out.cell (i := 0) rfl (o := 0) rfl
  have r1 := S1.out.cell (i := 0) rfl (o := 1) rfl
  have f0 := S1.out.frozen (i := 0) rfl 0
  have f1 := S1.out.frozen (i := 0) rfl 1
  have SF := (S1.out.store (i := 0) rfl 0 (.slice A cs.length cap)).store (i := 0) rfl 1 (.int .i64 b)
  have j0 := SF.cell (i := 0) rfl (o := 0) rfl
  have j1 := SF.cell (i := 0) rfl (o := 1) rfl
  have hB := SF.below
  clear SF
  go_wp2_with fail
  exact bodyPost_ret (v := .tuple #[.agg #[.slice A cs.length cap, .int .i64 b], .bool true]) (by simp [results, Try.results25, go_sem, j0, j1]) rfl (⟨rfl, hB⟩)

def addF (x y : Int) : Int := x + y
set_option maxRecDepth 100000 in
theorem addPlanes1_any (w : World) : Fn2 w 53 #[] addF := by
  intro x y w hx hy hb
  have hw : IntKind.i64.wrap (x + y) = x + y := IntWalk.i64_in _ (by unfold Near at hx hy; omega)
  show Calls Try.prog 53 #[.int .i64 x, .int .i64 y] w _
  go_enter Try.func53, Try.ntmps53
  go_wp2_with fail
  go_ret
  exact ⟨rfl, bb _⟩
theorem near_of {cs : List Int} (h : ∀ c ∈ cs, -1000 ≤ c ∧ c ≤ 1000) : ∀ c ∈ cs, Near c := fun c hc => by have := h c hc; unfold Near; omega

set_option maxRecDepth 100000 in
set_option maxHeartbeats 2000000 in
theorem addPlanes_any (cs ds : List Int) (b d : Int) (A B : Option Addr) (ca da : Nat) (w : World) (hx : IntsAt w A cs) (hy : IntsAt w B ds) (hl : cs.length ≤ 12) (hd : ds.length = cs.length)
    (hc : ∀ c ∈ cs, Near c) (hcd : ∀ c ∈ ds, Near c) (hb : Near b) (he : Near d) :
    Calls Try.prog 26 #[.agg #[.slice A cs.length ca, .int .i64 b], .agg #[.slice B cs.length da, .int .i64 d]] w (QPost w (b + d) (combK addF cs ds cs.length)) := by
  have eg : Enter1 53 := enters_of Try.func53 (by kernel_rfl) rfl
  have S0 := ((Sp.start w).alloc_box #[.slice A cs.length ca, .int .i64 b] 26).alloc_box #[.slice B cs.length da, .int .i64 d] 26 |>.alloc_box #[.slice none 0 0, .int .i64 0] 26
  simp only [World.size_alloc] at S0
  have c0 := S0.cell (i := 2) rfl (o := 0) rfl
  have c1 := S0.cell (i := 2) rfl (o := 1) rfl
  have c2 := S0.cell (i := 1) rfl (o := 0) rfl
  have c3 := S0.cell (i := 1) rfl (o := 1) rfl
  have h1 := Lib.hid (combined_any (cb := #[]) eg cs ds b d A B ca da _ (sp_ints S0 hx) (sp_ints S0 hy) hl hd hc hcd hb he (fun x y hx hy => by unfold addF I64; unfold Near at hx hy; omega) (addPlanes1_any _))
  rw [show addF b d = b + d from rfl] at h1
  replace S0 := Lib.hid S0
  generalize combK addF cs ds cs.length = es at *
  generalize b + d = z at *
  clear hx hy hc hcd hd eg
  go_enter Try.func26, Try.ntmps26
  go_wp2_with fail
  refine h1.out.mono ?_
  rintro e w1 ⟨E, ec, rfl, hI, hfr, hb1⟩
  have S1 := Lib.hid (S0.out.grow hb1)
  replace hI := Lib.hid hI
  simp only [World.size_alloc] at hfr
  replace hfr := Lib.hid hfr
  clear S0 h1 c0 c1 c2 c3 hb1
  have r0 := S1.out.cell (i := 0) rfl (o := 0) rfl
  have r1 := S1.out.cell (i := 0) rfl (o := 1) rfl
  have f0 := S1.out.frozen (i := 0) rfl 0
  have f1 := S1.out.frozen (i := 0) rfl 1
  have SF := (S1.out.store (i := 0) rfl 0 (.slice E es.length ec)).store (i := 0) rfl 1 (.int .i64 z)
  have j0 := SF.cell (i := 0) rfl (o := 0) rfl
  have j1 := SF.cell (i := 0) rfl (o := 1) rfl
  have hB := SF.below
  clear SF
  go_wp2_with fail
  exact bodyPost_ret (v := .agg #[.slice E es.length ec, .int .i64 z]) (by simp [results, Try.results26, go_sem, j0, j1]) rfl (⟨E, ec, rfl, (hI.out.set (fun a ha => by have := hfr.out a ha; omega) 0 _).set (fun a ha => by have := hfr.out a ha; omega) 1 _, fun a ha => by have := hfr.out a ha; omega, hB⟩)

def mulF (k x _y : Int) : Int := k * x
theorem mul_near {k x : Int} (hk : -1000 ≤ k ∧ k ≤ 1000) (hx : Near x) : -10000000 ≤ k * x ∧ k * x ≤ 10000000 := by
  have h : (k * x).natAbs ≤ 1000 * 10000 := by rw [Int.natAbs_mul]; unfold Near at hx; exact Nat.mul_le_mul (by omega) (by omega)
  omega
set_option maxRecDepth 100000 in
theorem scalePlane1_any (k : Int) (hk : -1000 ≤ k ∧ k ≤ 1000) (g : Nat) (w0 : World) (c0 : w0.cell? ⟨g, 0, none⟩ = some (.int .i64 k)) : Fn2 w0 61 #[.pointer (some ⟨g, 0, none⟩)] (mulF k) := by
  intro x y w hx hy hb
  have hm := mul_near hk hx
  have hw : IntKind.i64.wrap (k * x) = k * x := IntWalk.i64_in _ (by omega)
  have c1 := ((bcell hb).1 _ _ (World.block_lt_of_cell? _ _ c0)).trans c0
  have hR : Hid (mulF k x y = k * x) := rfl
  clear c0 hb hm
  show Calls Try.prog 61 #[.int .i64 x, .int .i64 y, .pointer (some ⟨g, 0, none⟩)] w _
  go_enter Try.func61, Try.ntmps61
  go_wp2_with fail
  go_ret
  exact ⟨ret_int hR.out.symm, bb _⟩

set_option maxRecDepth 100000 in
set_option maxHeartbeats 2000000 in
theorem scalePlane_any (k : Int) (hk : -1000 ≤ k ∧ k ≤ 1000) (cs : List Int) (b : Int) (A : Option Addr) (ca : Nat) (w : World) (hx : IntsAt w A cs) (hl : cs.length ≤ 12) (hc : ∀ c ∈ cs, Near c) (hb : Near b) :
    Calls Try.prog 37 #[.agg #[.slice A cs.length ca, .int .i64 b], .int .i64 k] w (QPost w (k * b) (combK (mulF k) cs cs cs.length)) := by
  have eg : Enter1 61 := enters_of Try.func61 (by kernel_rfl) rfl
  have S0 := ((Sp.start w).alloc_box #[.slice A cs.length ca, .int .i64 b] 26).alloc_box #[.int .i64 k] 3 |>.alloc_box #[.slice none 0 0, .int .i64 0] 26
  simp only [World.size_alloc] at S0
  have c0 := S0.cell (i := 2) rfl (o := 0) rfl
  have c1 := S0.cell (i := 2) rfl (o := 1) rfl
  have c2 := S0.cell (i := 1) rfl (o := 0) rfl
  have h1 := Lib.hid (combined_any (cb := #[.pointer (some ⟨w.heap.size + 1, 0, none⟩)]) eg cs cs b b A A ca ca _ (sp_ints S0 hx) (sp_ints S0 hx) hl rfl hc hc hb hb (fun x y hx hy => by have := mul_near hk hx; unfold mulF I64; omega) (scalePlane1_any k hk _ _ c2))
  rw [show mulF k b b = k * b from rfl] at h1
  replace S0 := Lib.hid S0
  generalize combK (mulF k) cs cs cs.length = es at *
  generalize k * b = z at *
  clear hx hc eg c2
  go_enter Try.func37, Try.ntmps37
  go_wp2_with fail
  refine h1.out.mono ?_
  rintro e w1 ⟨E, ec, rfl, hI, hfr, hb1⟩
  have S1 := Lib.hid (S0.out.grow hb1)
  replace hI := Lib.hid hI
  simp only [World.size_alloc] at hfr
  replace hfr := Lib.hid hfr
  clear S0 h1 c0 c1 hb1
  have r0 := S1.out.cell (i := 0) rfl (o := 0) rfl
  have r1 := S1.out.cell (i := 0) rfl (o := 1) rfl
  have f0 := S1.out.frozen (i := 0) rfl 0
  have f1 := S1.out.frozen (i := 0) rfl 1
  have SF := (S1.out.store (i := 0) rfl 0 (.slice E es.length ec)).store (i := 0) rfl 1 (.int .i64 z)
  have j0 := SF.cell (i := 0) rfl (o := 0) rfl
  have j1 := SF.cell (i := 0) rfl (o := 1) rfl
  have hB := SF.below
  clear SF
  go_wp2_with fail
  exact bodyPost_ret (v := .agg #[.slice E es.length ec, .int .i64 z]) (by simp [results, Try.results37, go_sem, j0, j1]) rfl (⟨E, ec, rfl, (hI.out.set (fun a ha => by have := hfr.out a ha; omega) 0 _).set (fun a ha => by have := hfr.out a ha; omega) 1 _, fun a ha => by have := hfr.out a ha; omega, hB⟩)
end Go.Proofs.Ytcdgpekefiplnaa
