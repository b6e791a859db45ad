/- Lemmas and contracts for a law, put together out of several texts: BkO OpenB OpenC RcL. -/
import Derived.Test.YtpiimlmfcdjbbaaGreatDoorMg2
import Derived.Test.YtpiimlmfcdjbbaaGreatDoorMg1
import Derived.Test.YtpiimlmfcdjbbaaGreatDoorMg4
import Derived.Test.YtpiimlmfcdjbbaaGreatDoorCards
import Derived.Test.YtpiimlmfcdjbbaaGreatDoorTie
import Derived.Test.YtpiimlmfcdjbbaaGreatDoorMg12
import Derived.LaidMore
import Derived.Deep.DeepHandedRow
import Derived.Deep.DeepWitnessRowRef
import Derived.Stop.LaidErr
import Derived.OpenVars
import Derived.LaidLaws
/- A record that comes in. -/
namespace Go.Proofs.YtpiimlmfcdjbbaaGreatDoor
open Go.RowKit

/- left out: the seat has no laws.Record -/
end Go.Proofs.YtpiimlmfcdjbbaaGreatDoor

/- Rows of bytes, read from the form's arguments. No program in sight. -/
namespace Go.Proofs.YtpiimlmfcdjbbaaGreatDoor
open Go.RowKit Go.Deep

def U8 (n : Int) : Prop := 0 ≤ n ∧ n ≤ 255
def Ty.byte : Ty Int where
  size := 1
  rep _ _ cs n F := cs = [.int .u8 n] ∧ U8 n ∧ F = []
  len h := by obtain ⟨rfl, _, _⟩ := h; rfl
  lt h := by obtain ⟨_, _, rfl⟩ := h; simp
  keep h _ := h
  down h := h
theorem Opens.byte {P : Program} {t : TypeId} (ht : P.underlying t = some (.int .u8)) : Opens P t Ty.byte := by
  intro H enc w spare held fuel cs y h
  obtain ⟨n, rfl, _, hw⟩ := DataW.trod_int ht h
  have hb : 0 ≤ n ∧ n ≤ 255 := by
    simp [Lit.wf, IntKind.min, IntKind.max, IntKind.signed, IntKind.bits] at hw
    omega
  exact ⟨n, [], rfl, hb, rfl⟩
theorem Ty.all_byte_inv {wr : Bool} {w : World} : ∀ {cs : List Value} {xs : List Int} {F : List Nat}, Ty.byte.all wr w cs xs F → cs = xs.map (.int .u8) ∧ F = [] ∧ ∀ x ∈ xs, U8 x
  | _, [], _, h => ⟨h.1, h.2, by simp⟩
  | _, x :: xs, _, h => by
    obtain ⟨c, d, F1, F2, rfl, rfl, ⟨rfl, hx, rfl⟩, h2⟩ := h
    obtain ⟨rfl, rfl, h3⟩ := Ty.all_byte_inv h2
    exact ⟨rfl, rfl, fun y hy => by rcases List.mem_cons.1 hy with rfl | hy; exact hx; exact h3 y hy⟩
/-- A row of bytes: its slice and its cells. -/
theorem row_byte {wr : Bool} {w : World} {v : Value} {xs : List Int} {F : List Nat} (h : Ty.byte.row wr w v xs F) :
    ∃ a cap, v = .slice a xs.length cap ∧ ∀ j, j < xs.length → ∃ cb off x, a = some ⟨cb, off, none⟩ ∧ w.cell? ⟨cb, off + j, none⟩ = some (.int .u8 x) ∧ 0 ≤ x ∧ x ≤ 255 := by
  obtain ⟨a, cap, cs, G, rfl, h1, h2, hall, h⟩ := h
  obtain ⟨rfl, rfl, hi⟩ := Ty.all_byte_inv hall
  refine ⟨a, cap, rfl, fun j hj => ?_⟩
  rcases h with ⟨rfl, _⟩ | ⟨_, hne, b, off, rfl, rfl, hc⟩
  · simp at hj
  · have := hc j (by simpa using hj)
    have hx := hi xs[j] (List.getElem_mem hj)
    exact ⟨b, off, xs[j], rfl, by have h3 := this.1; simpa using h3, hx.1, hx.2⟩
end Go.Proofs.YtpiimlmfcdjbbaaGreatDoor

/- A row of bytes as the cursor's code. -/
namespace Go.Proofs.YtpiimlmfcdjbbaaGreatDoor
open Go.RowKit

theorem codeOk {wr : Bool} {w : World} {a : Option Addr} {n c : Nat} {xs : List Int} {F : List Nat} (h : Ty.byte.row wr w (.slice a n c) xs F) : CodeOk w a n := by
  obtain ⟨a', c', e, hh⟩ := row_byte h
  simp only [Value.slice.injEq] at e
  obtain ⟨rfl, rfl, rfl⟩ := e
  exact hh
end Go.Proofs.YtpiimlmfcdjbbaaGreatDoor

/- What the list of FnRecords gives its walk: the sentinel of the books, the tables, the errors of the reading of numbers. -/
namespace Go.Proofs.YtpiimlmfcdjbbaaGreatDoor
open Go.ChangeShapes Go.WideShapes Go.ChangeAt Go.RowKit

theorem own : ownKnob Tryz.prog.godebug = none := by kernel_rfl
theorem laidOut : laidOutB Tryz.prog = true := by kernel_rfl
theorem globalSyn : Tryz.prog.globalNamed "strconv.ErrSyntax" = some 5 := by kernel_rfl
theorem globalRan : Tryz.prog.globalNamed "strconv.ErrRange" = some 6 := by kernel_rfl
theorem globalErrB : Tryz.prog.globalNamed "loop.example/g01080/impl.errBook" = some 0 := by kernel_rfl
theorem errStarN : "*" ++ "errors.errorString" = "*errors.errorString" := by decide
theorem errRowN (u : TypeId) (h : Tryz.prog.typeName? 3 u = some "*errors.errorString") : u = 138 :=
  typeName_ptr_named (nm := "errors.errorString") (by rw [errStarN]; kernel_rfl) (by kernel_rfl) (by decide) u (by rw [errStarN]; exact h)

/-- The sentinel of the books, the tables and the errors of the reading of numbers. -/
theorem envs_of_list {W : World} {x y z u : String × DataW Unit} (hL : laidMet Tryz.prog [x, y, ("internal/strconv.uint64pow10", Rows.laid_internal_strconv_uint64pow10), z, ("strconv.ErrRange", Rows.laid_strconv_ErrRange), ("strconv.ErrSyntax", Rows.laid_strconv_ErrSyntax), ("loop.example/g01080/impl.errBook", Rows.laid_loop_example_g01080_impl_errBook), u] W) (hs : W.ShapedOpen Tryz.prog) : (∃ a, ErrB a W) ∧ PEnv W := by
  have h2 := laidMet.tail (laidMet.tail hL)
  have h3 := laidMet.tail (laidMet.tail h2)
  have h4 := laidMet.tail h3
  have h5 := laidMet.tail h4
  obtain ⟨m, hm⟩ : ∃ m : Int, W.cell? ⟨1, 0, none⟩ = some (.int .i64 m) :=
    Go.Proofs.cell_of_shapedOpen_int (zero := #[.int .i64 0]) (t := 3) hs (of_decide_eq_true (by kernel_rfl)) (by kernel_rfl) rfl (by kernel_rfl) (by kernel_rfl) Tryz.underlying3
  have hp : Lib.TabIs Tryz.prog W "internal/strconv.uint64pow10" .u64 Lib.pow10Tab :=
    Lib.tabIs_of_head (rest := _) globalPowI (by kernel_rfl) Tryz.underlying115 Tryz.underlying44 (by kernel_rfl) (by kernel_rfl) h2
  obtain ⟨a, s, hv, _⟩ := laid_sentinel (P := Tryz.prog) (tp := 138) h3 globalRan (by kernel_rfl) Tryz.underlying50 errRowN Tryz.underlying138 Tryz.underlying140 rfl rfl Tryz.underlying9 (by kernel_rfl) (by kernel_rfl)
  obtain ⟨b, t, hu, _⟩ := laid_sentinel (P := Tryz.prog) (tp := 138) h4 globalSyn (by kernel_rfl) Tryz.underlying50 errRowN Tryz.underlying138 Tryz.underlying140 rfl rfl Tryz.underlying9 (by kernel_rfl) (by kernel_rfl)
  obtain ⟨c, r, hb, _⟩ := laid_sentinel (P := Tryz.prog) (tp := 138) h5 globalErrB (by kernel_rfl) Tryz.underlying50 errRowN Tryz.underlying138 Tryz.underlying140 rfl rfl Tryz.underlying9 (by kernel_rfl) (by kernel_rfl)
  refine ⟨⟨c, ?_⟩, ⟨⟨hp, World.block_lt_of_cell? W _ (hp.cell globalPowI 0 (by decide))⟩, ⟨m, hm⟩, ⟨138, .pointer (some b), ?_⟩, ⟨138, .pointer (some a), ?_⟩⟩⟩
  · have := World.var?_cell globalErrB hb 0
    unfold ErrB
    simpa using this
  · have := World.var?_cell globalSyn hu 0
    simpa using this
  · have := World.var?_cell globalRan hv 0
    simpa using this
end Go.Proofs.YtpiimlmfcdjbbaaGreatDoor
