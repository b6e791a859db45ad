/- A record that comes in. -/
import Derived.Test.YtcapiijpfoapkaaDoorBookC
import Derived.Test.YtcapiijpfoapkaaDoorOpenA
namespace Go.Proofs.YtcapiijpfoapkaaDoor
open Go.RowKit

theorem openRc : Opens Tryd.prog 36 rcTy :=
  Opens.flat (Opens.struct Tryd.underlying36 (by kernel_rfl) (OpensF.cons rfl (by kernel_rfl) (Opens.str Tryd.underlying9) (OpensF.cons rfl (by kernel_rfl) (Opens.int Tryd.underlying3) (OpensF.cons rfl (by kernel_rfl) (Opens.int Tryd.underlying3) (OpensF.cons rfl (by kernel_rfl) (Opens.int Tryd.underlying3) OpensF.nil))))) (fun x : ByteArray × Int × Int × Int × Unit => (⟨bl x.1, x.2.1, x.2.2.1, x.2.2.2.1⟩ : Rec)) fun w cs x F h => by
    obtain ⟨_, _, _, _, rfl, rfl, ⟨rfl, h1, rfl⟩, _, _, _, _, rfl, rfl, ⟨rfl, h2, rfl⟩, _, _, _, _, rfl, rfl, ⟨rfl, h3, rfl⟩, _, _, _, _, rfl, rfl, ⟨rfl, h4, rfl⟩, rfl, rfl⟩ := h
    exact ⟨rfl, ⟨h1, h2, h3, h4⟩, rfl⟩
end Go.Proofs.YtcapiijpfoapkaaDoor
