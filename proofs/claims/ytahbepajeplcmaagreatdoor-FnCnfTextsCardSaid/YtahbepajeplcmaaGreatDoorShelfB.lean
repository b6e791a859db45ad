/- slices.SortFunc at no element, over the numbers and over the clauses: names for two theorems of the laid shelf. -/
import Derived.Shelf.SlSortCmp.NoneTotal
import Derived.Test.YtahbepajeplcmaaGreatDoorShelf
namespace Go.Proofs
open Go.Shelf
theorem Tryz.slices_SortFunc_none (p : Option Addr) (cap : Nat) (fv : Value) (w : World) :
    Calls Tryz.prog 142 #[.slice p 0 cap, fv] w fun e w' => e = .returned (.tuple #[]) ∧ w' = w := AnyF.slices_SortFunc_none { Tryz.laysSlF6_f142 with } p cap fv w
theorem Tryz.slices_SortFunc_noneC (p : Option Addr) (cap : Nat) (fv : Value) (w : World) :
    Calls Tryz.prog 111 #[.slice p 0 cap, fv] w fun e w' => e = .returned (.tuple #[]) ∧ w' = w := AnyF.slices_SortFunc_none { Tryz.laysSlF6_f111 with } p cap fv w
end Go.Proofs
