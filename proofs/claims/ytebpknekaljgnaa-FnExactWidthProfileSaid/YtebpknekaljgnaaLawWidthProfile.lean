/- FnExactWidthProfile returns true for every input: no condition. -/
import Derived.Test.YtebpknekaljgnaaRows
import Derived.Test.YtebpknekaljgnaaWalkWidthProfile
import Derived.Test.YtebpknekaljgnaaOpenA
import Derived.ChangeOld
namespace Go.Proofs.Ytebpknekaljgnaa.fnExactWidthProfileDone
open Go.ChangeShapes Go.WideShapes Go.ChangeAt Go.RowKit
open Go.ChangeMaps (open_string shut_string)

theorem own : ownKnob Try.prog.godebug = none := by kernel_rfl
theorem laidOut : laidOutB Try.prog = true := by kernel_rfl
theorem opens_f : Opens Try.prog 24 ((Ty.int).pair ((((Ty.int).slice).slice).pair (Ty.unit))) :=
  (Opens.struct Try.underlying24 (by kernel_rfl) (OpensF.cons rfl (by kernel_rfl) (Opens.int Try.underlying3) (OpensF.cons rfl (by kernel_rfl) (Opens.slice Try.underlying22 (by kernel_rfl) (by decide) (Opens.slice Try.underlying25 (by kernel_rfl) (by decide) (Opens.int Try.underlying3))) OpensF.nil)))

set_option maxHeartbeats 2000000 in
set_option maxRecDepth 100000 in
theorem lifted (os : Os) (started : os.Started) (H : Type) (enc : TypeId × Value → H) :
    ReturnsInHanded {} Try.checked os 7 .any (Rows.fnExactWidthProfileSpec.pre6 enc Try.prog Try.f7 Rows.fnExactWidthProfileRow.domain false) (Rows.fnExactWidthProfileSpec.post enc Try.prog Try.f7 false true false false) := by
  refine returnsInHanded_of_change (C := Try.checked) own started (by kernel_rfl) Try.func7
    (ChangeSpec.witness6 (enc := enc) (C := Try.checked) false ⟨#[], #[.agg #[.int .i64 0, .slice none 0 0], .int .i64 0], []⟩ 8 (by kernel_rfl) (by kernel_rfl) (by kernel_rfl) (by kernel_rfl)) ?_
  intro W base args ds gs before hval0 hW hcnd _
  have hval : ∀ (j : Nat) t v, Try.f7.params[j]? = some t → args[j]? = some v → Value.okWide Try.prog W .any base t v := hval0
  have hW' := hW
  obtain ⟨p, q, hA0, hV, rfl, hfz, hnd⟩ := hW
  have hA : DataW.TrodAll enc Try.prog W 0 (fun _ => true) true Try.f7.params.toList args.toList ds p := hA0
  rw [Try.params7] at hA hval
  obtain ⟨v0, vs0, d0, ds0, p0, q0, hargs, rfl, rfl, h0, r0⟩ := trodAll_cons hA
  obtain ⟨v1, vs1, d1, ds1, p1, q1, rfl, rfl, rfl, h1, r1⟩ := trodAll_cons r0
  obtain ⟨rfl, rfl, rfl⟩ := trodAll_nil r1
  obtain rfl : args = #[v0, v1] := by cases args; simp_all
  obtain ⟨rfl, rfl⟩ := trodVars_none hV
  have k0 := h0
  have lt0 : ∀ x ∈ p0, x.block < W.heap.size := by obtain ⟨m, hm⟩ := k0; exact DataW.trod_lt m _ _ _ hm
  obtain ⟨cs0, rfl, _⟩ := okWide_struct Try.underlying24 (hval 0 24 v0 rfl rfl)
  obtain ⟨fuel0, hf0⟩ := h0
  obtain ⟨⟨f_v, x_f_c, _⟩, F_f, _, _, _, _, e1, _, ⟨rfl, i_f_v, rfl⟩, _, _, _, _, e2, _, ⟨u_f_c, rfl, h_f_c⟩, rfl, rfl⟩ := opens_f H enc W _ _ fuel0 _ _ hf0
  subst e2
  have ec0 : cs0 = #[.int .i64 f_v, u_f_c] := by
    have : cs0.toList = [.int .i64 f_v, u_f_c] := by simpa [Value.cells] using e1
    cases cs0; simp_all
  subst ec0
  obtain ⟨k, rfl, rfl, rfl, w1⟩ := open_int Try.underlying3 (hval 1 3 v1 rfl rfl) h1
  have i_k := bounds_i64 w1
  clear hA0 hval0
  refine (FnExactWidthProfile_walk f_v k u_f_c x_f_c _ W h_f_c).mono fun e W' ⟨he, bel⟩ => ?_
  subst he
  exact ⟨_, rfl, _, _, _, [], _, [], hW', trodAll_mk1 (shut_bool Try.underlying4 _), (trodAll_cons_mk (Below.trod laidOut (by kernel_rfl) (of_decide_eq_true (by kernel_rfl)) k0 bel lt0) (trodAll_cons_mk (shut_int Try.underlying3 w1) trodAll_mk0)), rfl, bel.frame _, fun h => by cases h⟩

theorem over : Rows.fnExactWidthProfileRow.holds Try.pinned (OpenSpec.ofChange Rows.fnExactWidthProfileSpec) :=
  OpenClaim.holds_of_wide 7 Try.f7 rfl rfl rfl rfl rfl rfl rfl ⟨rfl, rfl, rfl, rfl, rfl⟩ rfl rfl rfl rfl rfl (by kernel_rfl) Try.func7 (by kernel_rfl)
    (of_decide_eq_true (by kernel_rfl)) (by unfold Func.isWrapper; first | (rw [if_pos (by decide +kernel)]; kernel_rfl) | (rw [if_neg (by decide +kernel)]; exact ⟨rfl, rfl⟩))
    (fun os started H enc _ => lifted os started H enc)

theorem proved : Rows.FnExactWidthProfileSaid := over
#print axioms proved
end Go.Proofs.Ytebpknekaljgnaa.fnExactWidthProfileDone
