/- The law of diagrams, in plain terms; contracts that the walk of the law calls. -/
import Derived.Test.YtgcdifabbaoomaaDgU
import Derived.Test.YtgcdifabbaoomaaDgL
namespace Go.Proofs.Ytgcdifabbaoomaa
open Go.RowKit

theorem deM_law {n : Nat} (f g : Nat → Bool) :
    dgN n (fun b => valD (dgR n fun b => !f b) (dgN n fun b => !f b) b || valD (dgR n fun b => !g b) (dgN n fun b => !g b) b) = dgN n (fun b => !(valD (dgR n fun b => f b && g b) (dgN n fun b => f b && g b) b)) ∧
    dgR n (fun b => valD (dgR n fun b => !f b) (dgN n fun b => !f b) b || valD (dgR n fun b => !g b) (dgN n fun b => !g b) b) = dgR n (fun b => !(valD (dgR n fun b => f b && g b) (dgN n fun b => f b && g b) b)) :=
  dg_congr fun b hb => by rw [dg_val hb, dg_val hb, dg_val hb, Bool.not_and]
theorem cnt_law {n : Nat} (f g : Nat → Bool) :
    cntB n f + cntB n g = cntB n (valD (dgR n fun b => f b && g b) (dgN n fun b => f b && g b)) + cntB n (valD (dgR n fun b => f b || g b) (dgN n fun b => f b || g b)) := by
  rw [cnt_and_or n f g]
  congr 1
  · exact cnt_congr fun b hb => (dg_val (f := fun b => f b && g b) hb).symm
  · exact cnt_congr fun b hb => (dg_val (f := fun b => f b || g b) hb).symm
theorem forget_law {n : Nat} (f g : Nat → Bool) :
    dgN n (fun b => valD (dgR n f) (dgN n f) b || valD (dgR n g) (dgN n g) b) = dgN n (fun b => f b || g b) ∧ dgR n (fun b => valD (dgR n f) (dgN n f) b || valD (dgR n g) (dgN n g) b) = dgR n (fun b => f b || g b) :=
  dg_congr fun b hb => by rw [dg_val hb, dg_val hb]
theorem cnt_small {n : Nat} (hn : n ≤ 6) (f : Nat → Bool) : cntB n f ≤ 64 := by
  have h := cntK_le (2 ^ n) f
  have := (pow_small hn).2
  exact Nat.le_trans h this

/-- A diagram and true. -/
def DgYes (w : World) (r : Int) (ns : List Nd) (e : Ending) (w' : World) : Prop := ∃ A c, e = .returned (.tuple #[dgV r (.slice A ns.length c), .bool true]) ∧ NdAt w' A ns ∧ Below w.heap.size w w'
theorem DgTold.yes {w : World} {ok : Bool} {n : Nat} {f : Nat → Bool} {e : Ending} {w' : World} (h : DgTold w ok (outR ok n f) (outN ok n f) e w') (hok : ok = true) : DgYes w (dgR n f) (dgN n f) e w' := by
  subst hok
  obtain ⟨A, c, h1, h2, _, h4⟩ := h
  exact ⟨A, c, h1, h2, h4⟩
section
variable {n : Nat}
theorem not_yes (r : Int) (A : Option Addr) (c : Nat) (ns : List Nd) (w : World) (hx : NdAt w A ns) (hl : ns.length ≤ 1000000) (hg : goodD n r ns = true) :
    Calls Try.prog 12 #[.int .i64 n, dgV r (.slice A ns.length c)] w (DgYes w (dgR n fun b => !(valD r ns b)) (dgN n fun b => !(valD r ns b))) :=
  (notD_any n r A c ns w hx hl).mono fun e w' h => h.yes (by rw [hg]; rfl)
theorem or_yes (r r' : Int) (A A' : Option Addr) (c c' : Nat) (ns ns' : List Nd) (w : World) (hx : NdAt w A ns) (hy : NdAt w A' ns') (hl : ns.length ≤ 1000000) (hl' : ns'.length ≤ 1000000) (hg : goodD n r ns = true) (hg' : goodD n r' ns' = true) :
    Calls Try.prog 10 #[.int .i64 n, dgV r (.slice A ns.length c), dgV r' (.slice A' ns'.length c')] w (DgYes w (dgR n fun b => valD r ns b || valD r' ns' b) (dgN n fun b => valD r ns b || valD r' ns' b)) :=
  (orD_any n r r' A A' c c' ns ns' w hx hy hl hl').mono fun e w' h => h.yes (by rw [hg, hg']; rfl)
theorem set_yes (r l : Int) (A : Option Addr) (c : Nat) (ns : List Nd) (w : World) (hx : NdAt w A ns) (hl : ns.length ≤ 1000000) (hg : goodD n r ns = true) (hg' : litB n l = true) :
    Calls Try.prog 17 #[.int .i64 n, dgV r (.slice A ns.length c), .int .i64 l] w (DgYes w (dgR n fun b => valD r ns (setL b l)) (dgN n fun b => valD r ns (setL b l))) :=
  (setIn_any n r l A c ns w hx hl).mono fun e w' h => h.yes (by rw [hg, hg']; rfl)
theorem cnt_yes (r : Int) (A : Option Addr) (c : Nat) (ns : List Nd) (w : World) (hx : NdAt w A ns) (hl : ns.length ≤ 1000000) (hg : goodD n r ns = true) :
    Calls Try.prog 13 #[.int .i64 n, dgV r (.slice A ns.length c)] w fun e w' => e = .returned (.tuple #[.int .i64 (cntB n (valD r ns) : Nat), .bool true]) ∧ Below w.heap.size w w' :=
  (count_any n r A c ns w hx hl).mono fun e w' h => by rw [hg] at h; exact h
end
theorem vBig_any (ca : Option Addr) (cl cc : Nat) (w : World) : Calls Try.prog 5 #[.slice ca cl cc] w fun e w' => e = .returned (.bool (decide ((65536 : Int) < (cl : Int)))) ∧ w' = w := by
  go_enter Try.func5, Try.ntmps5
  go_wp2_with fail
  go_ret
  exact ⟨rfl, rfl⟩

theorem out_len (ok : Bool) {vars : Int} (hv : vars ≤ 7) (f : Nat → Bool) : (outN ok vars f).length ≤ 1000 := by
  unfold outN
  split
  · have h1 := plan_len f vars.toNat 1 0 []
    have h2 : 2 ^ vars.toNat ≤ 2 ^ 7 := Nat.pow_le_pow_right (by decide) (by omega)
    unfold dgN
    simp only [List.length_nil] at h1
    omega
  · simp
end Go.Proofs.Ytgcdifabbaoomaa
