/- FnExactLeastWidth returns true for every input: no condition. -/
import Derived.Test.YtebpknekaljgnaaRows
import Derived.Test.YtebpknekaljgnaaWalkLeastWidth
import Derived.Test.YtebpknekaljgnaaOpenA
import Derived.ChangeOld
namespace Go.Proofs.Ytebpknekaljgnaa.fnExactLeastWidthDone
open Go.ChangeShapes Go.WideShapes Go.ChangeAt Go.RowKit
open Go.ChangeMaps (open_string shut_string)

theorem own : ownKnob Try.prog.godebug = none := by kernel_rfl
theorem laidOut : laidOutB Try.prog = true := by kernel_rfl
theorem opens_f : Opens Try.prog 24 ((Ty.int).pair ((((Ty.int).slice).slice).pair (Ty.unit))) :=
  (Opens.struct Try.underlying24 (by kernel_rfl) (OpensF.cons rfl (by kernel_rfl) (Opens.int Try.underlying3) (OpensF.cons rfl (by kernel_rfl) (Opens.slice Try.underlying22 (by kernel_rfl) (by decide) (Opens.slice Try.underlying25 (by kernel_rfl) (by decide) (Opens.int Try.underlying3))) OpensF.nil)))

set_option maxHeartbeats 2000000 in
set_option maxRecDepth 100000 in
theorem lifted (os : Os) (started : os.Started) (H : Type) (enc : TypeId × Value → H) :
    ReturnsInHanded {} Try.checked os 6 .any (Rows.fnExactLeastWidthSpec.pre6 enc Try.prog Try.f6 Rows.fnExactLeastWidthRow.domain false) (Rows.fnExactLeastWidthSpec.post enc Try.prog Try.f6 false true false false) := by
  refine returnsInHanded_of_change (C := Try.checked) own started (by kernel_rfl) Try.func6
    (ChangeSpec.witness6 (enc := enc) (C := Try.checked) false ⟨#[], #[.agg #[.int .i64 0, .slice none 0 0]], []⟩ 8 (by kernel_rfl) (by kernel_rfl) (by kernel_rfl) (by kernel_rfl)) ?_
  intro W base args ds gs before hval0 hW hcnd _
  have hval : ∀ (j : Nat) t v, Try.f6.params[j]? = some t → args[j]? = some v → Value.okWide Try.prog W .any base t v := hval0
  have hW' := hW
  obtain ⟨p, q, hA0, hV, rfl, hfz, hnd⟩ := hW
  have hA : DataW.TrodAll enc Try.prog W 0 (fun _ => true) true Try.f6.params.toList args.toList ds p := hA0
  rw [Try.params6] at hA hval
  obtain ⟨v0, vs0, d0, ds0, p0, q0, hargs, rfl, rfl, h0, r0⟩ := trodAll_cons hA
  obtain ⟨rfl, rfl, rfl⟩ := trodAll_nil r0
  obtain rfl : args = #[v0] := by cases args; simp_all
  obtain ⟨rfl, rfl⟩ := trodVars_none hV
  have k0 := h0
  have lt0 : ∀ x ∈ p0, x.block < W.heap.size := by obtain ⟨m, hm⟩ := k0; exact DataW.trod_lt m _ _ _ hm
  obtain ⟨cs0, rfl, _⟩ := okWide_struct Try.underlying24 (hval 0 24 v0 rfl rfl)
  obtain ⟨fuel0, hf0⟩ := h0
  obtain ⟨⟨f_v, x_f_c, _⟩, F_f, _, _, _, _, e1, _, ⟨rfl, i_f_v, rfl⟩, _, _, _, _, e2, _, ⟨u_f_c, rfl, h_f_c⟩, rfl, rfl⟩ := opens_f H enc W _ _ fuel0 _ _ hf0
  subst e2
  have ec0 : cs0 = #[.int .i64 f_v, u_f_c] := by
    have : cs0.toList = [.int .i64 f_v, u_f_c] := by simpa [Value.cells] using e1
    cases cs0; simp_all
  subst ec0
  clear hA0 hval0
  refine (FnExactLeastWidth_walk f_v u_f_c x_f_c _ W h_f_c).mono fun e W' ⟨he, bel⟩ => ?_
  subst he
  exact ⟨_, rfl, _, _, _, [], _, [], hW', trodAll_mk1 (shut_bool Try.underlying4 _), (trodAll_cons_mk (Below.trod laidOut (by kernel_rfl) (of_decide_eq_true (by kernel_rfl)) k0 bel lt0) trodAll_mk0), rfl, bel.frame _, fun h => by cases h⟩

theorem over : Rows.fnExactLeastWidthRow.holds Try.pinned (OpenSpec.ofChange Rows.fnExactLeastWidthSpec) :=
  OpenClaim.holds_of_wide 6 Try.f6 rfl rfl rfl rfl rfl rfl rfl ⟨rfl, rfl, rfl, rfl, rfl⟩ rfl rfl rfl rfl rfl (by kernel_rfl) Try.func6 (by kernel_rfl)
    (of_decide_eq_true (by kernel_rfl)) (by unfold Func.isWrapper; first | (rw [if_pos (by decide +kernel)]; kernel_rfl) | (rw [if_neg (by decide +kernel)]; exact ⟨rfl, rfl⟩))
    (fun os started H enc _ => lifted os started H enc)

theorem proved : Rows.FnExactLeastWidthSaid := over
#print axioms proved
end Go.Proofs.Ytebpknekaljgnaa.fnExactLeastWidthDone
