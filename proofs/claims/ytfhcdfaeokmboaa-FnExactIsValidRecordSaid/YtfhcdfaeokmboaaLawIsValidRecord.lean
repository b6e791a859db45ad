/- FnExactIsValidRecord returns true for every input: no condition. -/
import Derived.Test.YtfhcdfaeokmboaaRows
import Derived.Test.YtfhcdfaeokmboaaStrC
import Derived.Test.YtfhcdfaeokmboaaOpenA
import Derived.ChangeOld
namespace Go.Proofs.Ytfhcdfaeokmboaa
open Go.ChangeShapes Go.WideShapes Go.ChangeAt Go.RowKit

theorem own : ownKnob Try.prog.godebug = none := by kernel_rfl
theorem laidOut : laidOutB Try.prog = true := by kernel_rfl

/-- The type of a record in the laws: two strings. -/
theorem opens_LogRecord : Opens Try.prog 51 (Ty.str.pair (Ty.str.pair Ty.unit)) :=
  Opens.struct Try.underlying51 (by kernel_rfl) (OpensF.cons rfl (by kernel_rfl) (Opens.str Try.underlying9) (OpensF.cons rfl (by kernel_rfl) (Opens.str Try.underlying9) OpensF.nil))

set_option maxRecDepth 100000 in
theorem fnExactIsValidRecord_lifted (os : Os) (started : os.Started) (H : Type) (enc : TypeId × Value → H) :
    ReturnsInHanded {} Try.checked os 6 .any (Rows.fnExactIsValidRecordSpec.pre6 enc Try.prog Try.f6 Rows.fnExactIsValidRecordRow.domain false) (Rows.fnExactIsValidRecordSpec.post enc Try.prog Try.f6 false true false false) := by
  refine returnsInHanded_of_change (C := Try.checked) own started (by kernel_rfl) Try.func6
    (ChangeSpec.witness6 (enc := enc) (C := Try.checked) false ⟨#[], #[.agg #[.string ByteArray.empty, .string ByteArray.empty]], []⟩ 8 (by kernel_rfl) (by kernel_rfl) (by kernel_rfl) (by kernel_rfl)) ?_
  intro W base args ds gs before hval0 hW hcnd _
  have hval : ∀ (j : Nat) t v, Try.f6.params[j]? = some t → args[j]? = some v → Value.okWide Try.prog W .any base t v := hval0
  have hW' := hW
  obtain ⟨p, q, hA0, hV, rfl, hfz, hnd⟩ := hW
  have hA : DataW.TrodAll enc Try.prog W 0 (fun _ => true) true Try.f6.params.toList args.toList ds p := hA0
  rw [Try.params6] at hA hval
  obtain ⟨v0, vs0, d0, ds0, p0, q0, hargs, rfl, rfl, h0, r0⟩ := trodAll_cons hA
  obtain ⟨rfl, rfl, rfl⟩ := trodAll_nil r0
  obtain rfl : args = #[v0] := by cases args; simp_all
  obtain ⟨rfl, rfl⟩ := trodVars_none hV
  obtain ⟨cs0, rfl, _⟩ := okWide_struct Try.underlying51 (hval 0 51 v0 rfl rfl)
  have k0 := h0
  have lt0 : ∀ x ∈ p0, x.block < W.heap.size := by obtain ⟨m, hm⟩ := k0; exact DataW.trod_lt m _ _ _ hm
  obtain ⟨fuel, hf⟩ := h0
  obtain ⟨⟨c, r, u⟩, F, _, _, _, _, e1, e2, ⟨rfl, hc, rfl⟩, _, _, _, _, e3, e4, ⟨rfl, hr, rfl⟩, rfl, rfl⟩ := opens_LogRecord H enc W _ _ fuel _ _ hf
  subst e3
  have ec : cs0 = #[.string c, .string r] := by
    have : cs0.toList = [.string c, .string r] := by simpa [Value.cells] using e1
    cases cs0; simp_all
  subst ec
  clear hA0 hval0
  refine (FnExactIsValidRecord_walk c r W (by simpa using hc) (by simpa using hr)).mono fun e W' ⟨he, bel⟩ => ?_
  subst he
  exact ⟨_, rfl, _, _, _, [], _, [], hW', trodAll_mk1 (shut_bool Try.underlying4 _), (trodAll_cons_mk (Below.trod laidOut (by kernel_rfl) (of_decide_eq_true (by kernel_rfl)) k0 bel lt0) trodAll_mk0), rfl, bel.frame _, fun h => by cases h⟩

theorem fnExactIsValidRecord_over : Rows.fnExactIsValidRecordRow.holds Try.pinned (OpenSpec.ofChange Rows.fnExactIsValidRecordSpec) :=
  OpenClaim.holds_of_wide 6 Try.f6 rfl rfl rfl rfl rfl rfl rfl ⟨rfl, rfl, rfl, rfl, rfl⟩ rfl rfl rfl rfl rfl (by kernel_rfl) Try.func6 (by kernel_rfl)
    (of_decide_eq_true (by kernel_rfl)) (by unfold Func.isWrapper; first | (rw [if_pos (by decide +kernel)]; kernel_rfl) | (rw [if_neg (by decide +kernel)]; exact ⟨rfl, rfl⟩))
    (fun os started H enc _ => fnExactIsValidRecord_lifted os started H enc)

theorem FnExactIsValidRecord_proved : Rows.FnExactIsValidRecordSaid := fnExactIsValidRecord_over
#print axioms FnExactIsValidRecord_proved
end Go.Proofs.Ytfhcdfaeokmboaa
