/- What the rows' lists give the walks: the tables, the sentinel of the log reader. -/
import Derived.Test.YtfcekfomhpmgpaaDoorDoorA
import Derived.Test.YtfcekfomhpmgpaaDoorLogF
import Derived.Stop.LaidErr
import Derived.OpenVars
import Derived.LaidLaws
namespace Go.Proofs.YtfcekfomhpmgpaaDoor
open Go.ChangeShapes Go.WideShapes Go.ChangeAt Go.RowKit

theorem env_of_list {W : World} {r : List (String × DataW Unit)} (hL : laidMet Tryd.prog (("internal/strconv.uint64pow10", Rows.laid_internal_strconv_uint64pow10) :: r) W) (hs : W.ShapedOpen Tryd.prog) : Env W := by
  obtain ⟨m, hm⟩ := Tryd.laysM144.s1_3 W hs
  have hp : Lib.TabIs Tryd.prog W "internal/strconv.uint64pow10" .u64 Lib.pow10Tab :=
    Lib.tabIs_of_head (rest := r) globalPow (by kernel_rfl) Tryd.underlying173 Tryd.underlying88 (by kernel_rfl) (by kernel_rfl) hL
  have hl1 : 3 < W.heap.size := World.block_lt_of_cell? W _ hm
  refine ⟨⟨m, hm⟩, hp, hl1, ?_⟩
  exact World.block_lt_of_cell? W _ (hp.cell globalPow 0 (by decide))

theorem globalErr : Tryd.prog.globalNamed "loop.example/g01080/impl.errRecord" = some 0 := by kernel_rfl

theorem errStar : "*" ++ "errors.errorString" = "*errors.errorString" := by decide
theorem errRow (u : TypeId) (h : Tryd.prog.typeName? 3 u = some "*errors.errorString") : u = 178 :=
  typeName_ptr_named (nm := "errors.errorString") (by rw [errStar]; kernel_rfl) (by kernel_rfl) (by decide) u (by rw [errStar]; exact h)

/-- The list of a row that reads the tables and the log reader's sentinel. -/
theorem envE_of_list {W : World} {x y : String × DataW Unit} (hL : laidMet Tryd.prog [x, y, ("internal/strconv.uint64pow10", Rows.laid_internal_strconv_uint64pow10), ("loop.example/g01080/impl.errRecord", Rows.laid_loop_example_g01080_impl_errRecord)] W) (hs : W.ShapedOpen Tryd.prog) :
    ∃ a, EnvE a W := by
  have h2 := laidMet.tail (laidMet.tail hL)
  have h3 := laidMet.tail h2
  obtain ⟨a, s, hv, _⟩ := laid_sentinel (P := Tryd.prog) (tp := 178) h3 globalErr (by kernel_rfl) Tryd.underlying97 errRow Tryd.underlying178 Tryd.underlying180 rfl rfl Tryd.underlying9 (by kernel_rfl) (by kernel_rfl)
  refine ⟨a, env_of_list h2 hs, ?_⟩
  have := World.var?_cell globalErr hv 0
  simpa using this
end Go.Proofs.YtfcekfomhpmgpaaDoor
