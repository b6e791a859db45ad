/- What the list of FnStrings gives its walk: the tables, the errors of the reading of numbers. -/
import Derived.Test.YtfcekfomhpmgpaaDoorDoorA
import Derived.Test.YtfcekfomhpmgpaaDoorNumB
import Derived.Stop.LaidErr
import Derived.OpenVars
import Derived.LaidLaws
namespace Go.Proofs.YtfcekfomhpmgpaaDoor
open Go.ChangeShapes Go.WideShapes Go.ChangeAt Go.RowKit

theorem globalSyn : Tryd.prog.globalNamed "strconv.ErrSyntax" = some 1 := by kernel_rfl
theorem globalRan : Tryd.prog.globalNamed "strconv.ErrRange" = some 2 := by kernel_rfl
theorem errStarN : "*" ++ "errors.errorString" = "*errors.errorString" := by decide
theorem errRowN (u : TypeId) (h : Tryd.prog.typeName? 3 u = some "*errors.errorString") : u = 178 :=
  typeName_ptr_named (nm := "errors.errorString") (by rw [errStarN]; kernel_rfl) (by kernel_rfl) (by decide) u (by rw [errStarN]; exact h)

theorem numEnv_of_list {W : World} {x y : String × DataW Unit} (hL : laidMet Tryd.prog [x, y, ("internal/strconv.uint64pow10", Rows.laid_internal_strconv_uint64pow10), ("strconv.ErrRange", Rows.laid_strconv_ErrRange), ("strconv.ErrSyntax", Rows.laid_strconv_ErrSyntax)] W) (hs : W.ShapedOpen Tryd.prog) : NumEnv W := by
  have h2 := laidMet.tail (laidMet.tail hL)
  have h3 := laidMet.tail h2
  have h4 := laidMet.tail h3
  obtain ⟨m, hm⟩ := Tryd.laysM144.s1_3 W hs
  have hp : Lib.TabIs Tryd.prog W "internal/strconv.uint64pow10" .u64 Lib.pow10Tab :=
    Lib.tabIs_of_head (rest := _) globalPow (by kernel_rfl) Tryd.underlying173 Tryd.underlying88 (by kernel_rfl) (by kernel_rfl) h2
  have hl1 := World.block_lt_of_cell? W _ hm
  obtain ⟨a, s, hv, _⟩ := laid_sentinel (P := Tryd.prog) (tp := 178) h3 globalRan (by kernel_rfl) Tryd.underlying97 errRowN Tryd.underlying178 Tryd.underlying180 rfl rfl Tryd.underlying9 (by kernel_rfl) (by kernel_rfl)
  obtain ⟨b, t, hu, _⟩ := laid_sentinel (P := Tryd.prog) (tp := 178) h4 globalSyn (by kernel_rfl) Tryd.underlying97 errRowN Tryd.underlying178 Tryd.underlying180 rfl rfl Tryd.underlying9 (by kernel_rfl) (by kernel_rfl)
  refine ⟨⟨⟨m, hm⟩, hp, hl1, World.block_lt_of_cell? W _ (hp.cell globalPow 0 (by decide))⟩, ⟨178, .pointer (some b), ?_⟩, ⟨178, .pointer (some a), ?_⟩⟩
  · have := World.var?_cell globalSyn hu 0
    simpa using this
  · have := World.var?_cell globalRan hv 0
    simpa using this
end Go.Proofs.YtfcekfomhpmgpaaDoor
