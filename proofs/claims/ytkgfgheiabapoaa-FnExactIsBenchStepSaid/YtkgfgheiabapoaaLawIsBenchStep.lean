/- FnExactIsBenchStep returns true for every input: no condition. -/
import Derived.Test.YtkgfgheiabapoaaRows
import Derived.Test.YtkgfgheiabapoaaBenchE
import Derived.Test.YtkgfgheiabapoaaOpenA
import Derived.ChangeOld
namespace Go.Proofs.Ytkgfgheiabapoaa.fnExactIsBenchStepDone
open Go.ChangeShapes Go.WideShapes Go.ChangeAt Go.RowKit
open Go.ChangeMaps (open_string shut_string)

theorem own : ownKnob Try.prog.godebug = none := by kernel_rfl
theorem laidOut : laidOutB Try.prog = true := by kernel_rfl
theorem opens_s : Opens Try.prog 24 ((Ty.int).pair ((Ty.str).pair ((Ty.int).pair ((Ty.int).pair ((Ty.int).pair (((Ty.int).slice).pair (Ty.unit))))))) :=
  (Opens.struct Try.underlying24 (by kernel_rfl) (OpensF.cons rfl (by kernel_rfl) (Opens.int Try.underlying3) (OpensF.cons rfl (by kernel_rfl) (Opens.str Try.underlying9) (OpensF.cons rfl (by kernel_rfl) (Opens.int Try.underlying3) (OpensF.cons rfl (by kernel_rfl) (Opens.int Try.underlying3) (OpensF.cons rfl (by kernel_rfl) (Opens.int Try.underlying3) (OpensF.cons rfl (by kernel_rfl) (Opens.slice Try.underlying22 (by kernel_rfl) (by decide) (Opens.int Try.underlying3)) OpensF.nil)))))))

set_option maxRecDepth 100000 in
theorem lifted (os : Os) (started : os.Started) (H : Type) (enc : TypeId × Value → H) :
    ReturnsInHanded {} Try.checked os 3 .any (Rows.fnExactIsBenchStepSpec.pre6 enc Try.prog Try.f3 Rows.fnExactIsBenchStepRow.domain false) (Rows.fnExactIsBenchStepSpec.post enc Try.prog Try.f3 false true false false) := by
  refine returnsInHanded_of_change (C := Try.checked) own started (by kernel_rfl) Try.func3
    (ChangeSpec.witness6 (enc := enc) (C := Try.checked) false ⟨#[], #[.agg #[.int .i64 0, .string ByteArray.empty, .int .i64 0, .int .i64 0, .int .i64 0, .slice none 0 0]], []⟩ 8 (by kernel_rfl) (by kernel_rfl) (by kernel_rfl) (by kernel_rfl)) ?_
  intro W base args ds gs before hval0 hW hcnd _
  have hval : ∀ (j : Nat) t v, Try.f3.params[j]? = some t → args[j]? = some v → Value.okWide Try.prog W .any base t v := hval0
  have hW' := hW
  obtain ⟨p, q, hA0, hV, rfl, hfz, hnd⟩ := hW
  have hA : DataW.TrodAll enc Try.prog W 0 (fun _ => true) true Try.f3.params.toList args.toList ds p := hA0
  rw [Try.params3] at hA hval
  obtain ⟨v0, vs0, d0, ds0, p0, q0, hargs, rfl, rfl, h0, r0⟩ := trodAll_cons hA
  obtain ⟨rfl, rfl, rfl⟩ := trodAll_nil r0
  obtain rfl : args = #[v0] := by cases args; simp_all
  obtain ⟨rfl, rfl⟩ := trodVars_none hV
  have k0 := h0
  have lt0 : ∀ x ∈ p0, x.block < W.heap.size := by obtain ⟨m, hm⟩ := k0; exact DataW.trod_lt m _ _ _ hm
  obtain ⟨cs0, rfl, _⟩ := okWide_struct Try.underlying24 (hval 0 24 v0 rfl rfl)
  obtain ⟨fuel0, hf0⟩ := h0
  obtain ⟨⟨s_k, s_t, s_a, s_b, s_v, x_s_l, _⟩, F_s, _, _, _, _, e1, _, ⟨rfl, i_s_k, rfl⟩, _, _, _, _, e2, _, ⟨rfl, i_s_t, rfl⟩, _, _, _, _, e3, _, ⟨rfl, i_s_a, rfl⟩, _, _, _, _, e4, _, ⟨rfl, i_s_b, rfl⟩, _, _, _, _, e5, _, ⟨rfl, i_s_v, rfl⟩, _, _, _, _, e6, _, ⟨u_s_l, rfl, h_s_l⟩, rfl, rfl⟩ := opens_s H enc W _ _ fuel0 _ _ hf0
  subst e2
  subst e3
  subst e4
  subst e5
  subst e6
  have ec0 : cs0 = #[.int .i64 s_k, .string s_t, .int .i64 s_a, .int .i64 s_b, .int .i64 s_v, u_s_l] := by
    have : cs0.toList = [.int .i64 s_k, .string s_t, .int .i64 s_a, .int .i64 s_b, .int .i64 s_v, u_s_l] := by simpa [Value.cells] using e1
    cases cs0; simp_all
  subst ec0
  clear hA0 hval0
  refine (FnExactIsBenchStep_walk s_k s_a s_b s_v s_t u_s_l x_s_l _ W h_s_l i_s_t).mono fun e W' ⟨he, bel⟩ => ?_
  subst he
  exact ⟨_, rfl, _, _, _, [], _, [], hW', trodAll_mk1 (shut_bool Try.underlying4 _), (trodAll_cons_mk (Below.trod laidOut (by kernel_rfl) (of_decide_eq_true (by kernel_rfl)) k0 bel lt0) trodAll_mk0), rfl, bel.frame _, fun h => by cases h⟩

theorem over : Rows.fnExactIsBenchStepRow.holds Try.pinned (OpenSpec.ofChange Rows.fnExactIsBenchStepSpec) :=
  OpenClaim.holds_of_wide 3 Try.f3 rfl rfl rfl rfl rfl rfl rfl ⟨rfl, rfl, rfl, rfl, rfl⟩ rfl rfl rfl rfl rfl (by kernel_rfl) Try.func3 (by kernel_rfl)
    (of_decide_eq_true (by kernel_rfl)) (by unfold Func.isWrapper; first | (rw [if_pos (by decide +kernel)]; kernel_rfl) | (rw [if_neg (by decide +kernel)]; exact ⟨rfl, rfl⟩))
    (fun os started H enc _ => lifted os started H enc)

theorem proved : Rows.FnExactIsBenchStepSaid := over
#print axioms proved
end Go.Proofs.Ytkgfgheiabapoaa.fnExactIsBenchStepDone
