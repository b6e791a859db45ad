/- A pair of ints that comes in as an array. -/
import Derived.Test.YtebhkfhdjdgokaaChB
import Derived.Test.YtebhkfhdjdgokaaOpenA
namespace Go.Proofs.Ytebhkfhdjdgokaa
open Go.RowKit Go.Deep

set_option maxRecDepth 100000 in
theorem openPair : Opens Try.prog 85 tmTy := by
  intro H enc w spare held fuel cs y h
  obtain ⟨xs, m, rfl, rfl, hl, hlen, hxs⟩ := DataW.trod_array Try.underlying85 h
  have hC : Try.prog.cellsOf 85 = 2 := by kernel_rfl
  have hc1 : Try.prog.cellsOf 3 = 1 := by kernel_rfl
  rw [hC] at hl
  generalize Try.prog.cellsOf 3 = z at hxs hc1
  subst hc1
  have h0 := hxs 0 (by decide)
  have h1 := hxs 1 (by decide)
  rw [List.getElem?_eq_getElem (show 0 < xs.length by omega)] at h0
  rw [List.getElem?_eq_getElem (show 1 < xs.length by omega)] at h1
  match cs, hl with
  | [u0, u1], _ =>
    obtain ⟨n0, e0, _, w0⟩ := DataW.trod_int Try.underlying3 h0
    obtain ⟨n1, e1, _, w1⟩ := DataW.trod_int Try.underlying3 h1
    simp at e0 e1
    subst e0 e1
    have b0 := bounds_i64 w0
    have b1 := bounds_i64 w1
    exact ⟨(n0, n1), [], rfl, ⟨⟨by show _ ≤ n0; omega, by show n0 ≤ _; omega⟩, ⟨by show _ ≤ n1; omega, by show n1 ≤ _; omega⟩⟩, rfl⟩
end Go.Proofs.Ytebhkfhdjdgokaa
