/- FnExactEncodeRecord returns true for every input; its listed variables start as the program's text lays them. -/
import Derived.Test.YtfcekfomhpmgpaaDoorWalkEncodeRecord
namespace Go.Proofs.YtfcekfomhpmgpaaDoor
open Go.ChangeShapes Go.WideShapes Go.ChangeAt Go.RowKit

theorem encodeRecord_reads (os : Os) {H : Type} (enc : TypeId × Value → H) : ∃ places, DataW.whole enc Tryd.prog ((World.doorLaid Tryd.prog 4000 os).forCall (fun _ _ => 0) ⟨#[], #[.int .i64 0, .agg #[.string ByteArray.empty, .string ByteArray.empty]], []⟩).memory Tryd.f3.params.toList Rows.fnExactEncodeRecordSpec.vars false #[Value.int .i64 0, .agg #[.string ByteArray.empty, .string ByteArray.empty]].toList 8 = some ([.lit (.int .i64 0), .agg [.lit (.string []), .lit (.string [])]], [], places) :=
  ⟨[], by kernel_rfl⟩

set_option maxRecDepth 100000 in
theorem fnExactEncodeRecord_lifted (os : Os) (started : os.Started) (H : Type) (enc : TypeId × Value → H) (F : Stop.Interp) :
    ReturnsInHanded {} Tryd.checked os 3 .any ((OpenSpec.ofChange Rows.fnExactEncodeRecordSpec).preRow enc Tryd.prog Tryd.f3 Rows.fnExactEncodeRecordRow.domain false Rows.fnExactEncodeRecordRow.laid) (((OpenSpec.ofChange Rows.fnExactEncodeRecordSpec).at F).post enc Tryd.prog Tryd.f3 false true false false) := by
  obtain ⟨places, hx⟩ := encodeRecord_reads os enc
  refine returnsInHanded_of_row (C := Tryd.checked) (s := OpenSpec.ofChange Rows.fnExactEncodeRecordSpec) own started (by kernel_rfl) Tryd.func3
    (witness_row_atRef (enc := enc) (C := Tryd.checked) false (World.doorLaid Tryd.prog 4000 os) #[.int .i64 0, .agg #[.string ByteArray.empty, .string ByteArray.empty]] rfl (by kernel_rfl) (by kernel_rfl) (by kernel_rfl)
      (OpenSpec.preRow_of_cond 8 hx (by kernel_rfl) (fun k hk => by cases hk) (by kernel_rfl) (door_met3 os _))) ?_
  intro W base args ds gs before hval hW _ _ _ hL hs _
  exact fnExactEncodeRecord_contract H enc W base args ds gs before hval hW hL hs

theorem fnExactEncodeRecord_said : Rows.FnExactEncodeRecordSaid :=
  OpenClaim.holds_of_cond 3 Tryd.f3 rfl rfl rfl rfl rfl rfl rfl ⟨rfl, rfl, rfl, rfl, rfl⟩ rfl rfl rfl rfl rfl (by kernel_rfl) Tryd.func3 (by kernel_rfl)
    (of_decide_eq_true (by kernel_rfl)) (by unfold Func.isWrapper; first | (rw [if_pos (by decide +kernel)]; kernel_rfl) | (rw [if_neg (by decide +kernel)]; exact ⟨rfl, rfl⟩))
    (fun os started H enc _ F => by rw [OpenClaim.pre_eq_preRow]; exact fnExactEncodeRecord_lifted os started H enc F)

theorem fnExactEncodeRecord_plain (f : FuncId) (fn : Func) (hf : Tryd.pinned.checked.prog.funcNamed "loop.example/g01080/laws.FnExactEncodeRecord" = some f) (hfn : Tryd.pinned.checked.prog.funcs[f]? = some fn) :
    true = Tryd.pinned.checked.prog.looks [] ∧ ∀ (j : Nat) t, fn.params[j]? = some t → Tryd.pinned.checked.prog.wantsStandIn t = false := by
  obtain rfl : f = 3 := Option.some.inj ((show Tryd.prog.funcNamed "loop.example/g01080/laws.FnExactEncodeRecord" = some 3 by kernel_rfl).symm.trans hf) |>.symm
  obtain rfl : fn = Tryd.f3 := (Option.some.inj (Tryd.func3.symm.trans hfn)).symm
  refine ⟨by kernel_rfl, fun j t ht => ?_⟩
  rw [Tryd.params3] at ht
  have hm := Array.mem_of_getElem? ht
  simp only [List.mem_toArray, List.mem_cons, List.mem_nil_iff, or_false] at hm
  rcases hm with rfl | rfl
  · exact (show Tryd.prog.wantsStandIn 3 = false by kernel_rfl)
  · exact (show Tryd.prog.wantsStandIn 23 = false by kernel_rfl)

theorem FnExactEncodeRecord_proved : Rows.FnExactEncodeRecordCardSaid :=
  Claim7.holds_tied_plain_at .later [] _ _ _ _ fnExactEncodeRecord_said (fun _ h => by cases h) (by kernel_rfl) (fun _ h => by cases h) fnExactEncodeRecord_row_tie rfl ⟨rfl, rfl⟩ (by kernel_rfl) rfl fnExactEncodeRecord_plain (by kernel_rfl)
#print axioms FnExactEncodeRecord_proved
end Go.Proofs.YtfcekfomhpmgpaaDoor
