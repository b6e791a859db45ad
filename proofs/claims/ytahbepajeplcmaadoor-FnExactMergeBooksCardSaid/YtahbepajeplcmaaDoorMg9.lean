/- Lemmas and contracts for a law, put together out of several texts: BkO BmK. -/
import Derived.Test.YtahbepajeplcmaaDoorMg2
import Derived.Test.YtahbepajeplcmaaDoorMg1
import Derived.Test.YtahbepajeplcmaaDoorCards
import Derived.Test.YtahbepajeplcmaaDoorTie
import Derived.Test.YtahbepajeplcmaaDoorMg8
import Derived.LaidMore
import Derived.LaidLaws
import Derived.Stop.LaidErr
import Derived.OpenVars
import Derived.Deep.DeepHandedRow
import Derived.Deep.DeepWitnessRowRef
/- A record that comes in. -/
namespace Go.Proofs.YtahbepajeplcmaaDoor
open Go.RowKit

theorem openRc : Opens Tryd.prog 35 rcTy :=
  Opens.flat (Opens.struct Tryd.underlying35 (by kernel_rfl) (OpensF.cons rfl (by kernel_rfl) (Opens.str Tryd.underlying9) (OpensF.cons rfl (by kernel_rfl) (Opens.int Tryd.underlying3) (OpensF.cons rfl (by kernel_rfl) (Opens.int Tryd.underlying3) (OpensF.cons rfl (by kernel_rfl) (Opens.int Tryd.underlying3) OpensF.nil))))) (fun x : ByteArray × Int × Int × Int × Unit => (⟨bl x.1, x.2.1, x.2.2.1, x.2.2.2.1⟩ : Rec)) fun w cs x F h => by
    obtain ⟨_, _, _, _, rfl, rfl, ⟨rfl, h1, rfl⟩, _, _, _, _, rfl, rfl, ⟨rfl, h2, rfl⟩, _, _, _, _, rfl, rfl, ⟨rfl, h3, rfl⟩, _, _, _, _, rfl, rfl, ⟨rfl, h4, rfl⟩, rfl, rfl⟩ := h
    exact ⟨rfl, ⟨h1, h2, h3, h4⟩, rfl⟩
end Go.Proofs.YtahbepajeplcmaaDoor

/- What the list of FnExactMergeBooks gives its walk: the sentinel of the books. -/
namespace Go.Proofs.YtahbepajeplcmaaDoor
open Go.ChangeShapes Go.WideShapes Go.ChangeAt Go.RowKit

theorem own : ownKnob Tryd.prog.godebug = none := by kernel_rfl
theorem laidOut : laidOutB Tryd.prog = true := by kernel_rfl
theorem globalErrB : Tryd.prog.globalNamed "loop.example/g01080/impl.errBook" = some 0 := by kernel_rfl
theorem errStar : "*" ++ "errors.errorString" = "*errors.errorString" := by decide
theorem errRow (u : TypeId) (h : Tryd.prog.typeName? 3 u = some "*errors.errorString") : u = 125 :=
  typeName_ptr_named (nm := "errors.errorString") (by rw [errStar]; kernel_rfl) (by kernel_rfl) (by decide) u (by rw [errStar]; exact h)
theorem errB_of_list {W : World} (hL : laidMet Tryd.prog [("loop.example/g01080/impl.errBook", Rows.laid_loop_example_g01080_impl_errBook)] W) : ∃ a, ErrB a W := by
  obtain ⟨a, s, hv, _⟩ := laid_sentinel (P := Tryd.prog) (tp := 125) hL globalErrB (by kernel_rfl) Tryd.underlying42 errRow Tryd.underlying125 Tryd.underlying127 rfl rfl Tryd.underlying9 (by kernel_rfl) (by kernel_rfl)
  refine ⟨a, ?_⟩
  have := World.var?_cell globalErrB hv 0
  unfold ErrB
  simpa using this
end Go.Proofs.YtahbepajeplcmaaDoor
