/- Lemmas and contracts for a law, put together out of several texts: BkO PbK. -/
import Derived.Test.YtahbepajeplcmaaDoorMg2
import Derived.Test.YtahbepajeplcmaaDoorCards
import Derived.Test.YtahbepajeplcmaaDoorTie
import Derived.Test.YtahbepajeplcmaaDoorMg4
import Derived.Test.YtahbepajeplcmaaDoorMg10
import Derived.LaidMore
import Derived.Deep.DeepHandedRow
import Derived.Deep.DeepWitnessRowRef
import Derived.Stop.LaidErr
import Derived.OpenVars
import Derived.LaidLaws
/- A record that comes in. -/
namespace Go.Proofs.YtahbepajeplcmaaDoor
open Go.RowKit

theorem openRc : Opens Tryd.prog 35 rcTy :=
  Opens.flat (Opens.struct Tryd.underlying35 (by kernel_rfl) (OpensF.cons rfl (by kernel_rfl) (Opens.str Tryd.underlying9) (OpensF.cons rfl (by kernel_rfl) (Opens.int Tryd.underlying3) (OpensF.cons rfl (by kernel_rfl) (Opens.int Tryd.underlying3) (OpensF.cons rfl (by kernel_rfl) (Opens.int Tryd.underlying3) OpensF.nil))))) (fun x : ByteArray × Int × Int × Int × Unit => (⟨bl x.1, x.2.1, x.2.2.1, x.2.2.2.1⟩ : Rec)) fun w cs x F h => by
    obtain ⟨_, _, _, _, rfl, rfl, ⟨rfl, h1, rfl⟩, _, _, _, _, rfl, rfl, ⟨rfl, h2, rfl⟩, _, _, _, _, rfl, rfl, ⟨rfl, h3, rfl⟩, _, _, _, _, rfl, rfl, ⟨rfl, h4, rfl⟩, rfl, rfl⟩ := h
    exact ⟨rfl, ⟨h1, h2, h3, h4⟩, rfl⟩
end Go.Proofs.YtahbepajeplcmaaDoor

/- What the list of FnExactParseBook gives its walk: the tables, the errors of the reading of numbers. -/
namespace Go.Proofs.YtahbepajeplcmaaDoor
open Go.ChangeShapes Go.WideShapes Go.ChangeAt Go.RowKit

theorem own : ownKnob Tryd.prog.godebug = none := by kernel_rfl
theorem laidOut : laidOutB Tryd.prog = true := by kernel_rfl
theorem globalSyn : Tryd.prog.globalNamed "strconv.ErrSyntax" = some 4 := by kernel_rfl
theorem globalRan : Tryd.prog.globalNamed "strconv.ErrRange" = some 5 := by kernel_rfl
theorem errStarN : "*" ++ "errors.errorString" = "*errors.errorString" := by decide
theorem errRowN (u : TypeId) (h : Tryd.prog.typeName? 3 u = some "*errors.errorString") : u = 125 :=
  typeName_ptr_named (nm := "errors.errorString") (by rw [errStarN]; kernel_rfl) (by kernel_rfl) (by decide) u (by rw [errStarN]; exact h)

theorem pEnv_of_list {W : World} {x y z u : String × DataW Unit} (hL : laidMet Tryd.prog [x, y, ("internal/strconv.uint64pow10", Rows.laid_internal_strconv_uint64pow10), z, ("strconv.ErrRange", Rows.laid_strconv_ErrRange), ("strconv.ErrSyntax", Rows.laid_strconv_ErrSyntax), u] W) (hs : W.ShapedOpen Tryd.prog) : PEnv W := by
  have h2 := laidMet.tail (laidMet.tail hL)
  have h3 := laidMet.tail (laidMet.tail h2)
  have h4 := laidMet.tail h3
  obtain ⟨m, hm⟩ : ∃ m : Int, W.cell? ⟨1, 0, none⟩ = some (.int .i64 m) :=
    Go.Proofs.cell_of_shapedOpen_int (zero := #[.int .i64 0]) (t := 3) hs (of_decide_eq_true (by kernel_rfl)) (by kernel_rfl) rfl (by kernel_rfl) (by kernel_rfl) Tryd.underlying3
  have hp : Lib.TabIs Tryd.prog W "internal/strconv.uint64pow10" .u64 Lib.pow10Tab :=
    Lib.tabIs_of_head (rest := _) globalPowI (by kernel_rfl) Tryd.underlying121 Tryd.underlying105 (by kernel_rfl) (by kernel_rfl) h2
  obtain ⟨a, s, hv, _⟩ := laid_sentinel (P := Tryd.prog) (tp := 125) h3 globalRan (by kernel_rfl) Tryd.underlying42 errRowN Tryd.underlying125 Tryd.underlying127 rfl rfl Tryd.underlying9 (by kernel_rfl) (by kernel_rfl)
  obtain ⟨b, t, hu, _⟩ := laid_sentinel (P := Tryd.prog) (tp := 125) h4 globalSyn (by kernel_rfl) Tryd.underlying42 errRowN Tryd.underlying125 Tryd.underlying127 rfl rfl Tryd.underlying9 (by kernel_rfl) (by kernel_rfl)
  refine ⟨⟨hp, World.block_lt_of_cell? W _ (hp.cell globalPowI 0 (by decide))⟩, ⟨m, hm⟩, ⟨125, .pointer (some b), ?_⟩, ⟨125, .pointer (some a), ?_⟩⟩
  · have := World.var?_cell globalSyn hu 0
    simpa using this
  · have := World.var?_cell globalRan hv 0
    simpa using this
end Go.Proofs.YtahbepajeplcmaaDoor
