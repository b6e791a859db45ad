/- Memory facts: what a call has written; rows of ints. No program in sight. -/
import Derived.Test.YtcdgpekefiplnaaRepA
import Derived.Lib.QuietBelow
import Derived.BigQuiet
namespace Go.Proofs.Ytcdgpekefiplnaa
open Go.RowKit

/-- Of the blocks that were there none but those of F has turned. -/
structure Chg (F : List Nat) (w w' : World) : Prop where
  os : w'.os = w.os
  tape : w'.tape = w.tape
  output : w'.output = w.output
  size : w.heap.size ≤ w'.heap.size
  block : ∀ k, k < w.heap.size → k ∉ F → w'.heap[k]? = w.heap[k]?
theorem Chg.refl (F : List Nat) (w : World) : Chg F w w := ⟨rfl, rfl, rfl, Nat.le_refl _, fun _ _ _ => rfl⟩
theorem Chg.of_below {F : List Nat} {w w' : World} (h : Below w.heap.size w w') : Chg F w w' := ⟨h.os, h.tape, h.output, h.size, fun k hk _ => h.block k hk⟩
theorem Chg.mono {F G : List Nat} {w w' : World} (h : Chg F w w') (hs : ∀ b ∈ F, b ∈ G) : Chg G w w' := ⟨h.os, h.tape, h.output, h.size, fun k hk hn => h.block k hk fun hm => hn (hs k hm)⟩
theorem Chg.trans {F : List Nat} {a b c : World} (h : Chg F a b) (k : Chg F b c) : Chg F a c :=
  ⟨k.os.trans h.os, k.tape.trans h.tape, k.output.trans h.output, Nat.le_trans h.size k.size, fun i hi hn => (k.block i (Nat.lt_of_lt_of_le hi h.size) hn).trans (h.block i hi hn)⟩
theorem Chg.then {F : List Nat} {a b c : World} (h : Chg F a b) (k : Below b.heap.size b c) : Chg F a c := h.trans (.of_below k)
theorem Chg.alloc {F : List Nat} {a w : World} (h : Chg F a w) (o : Obj) : Chg F a (w.alloc o) := h.then (bal (bb _) o)
theorem Chg.set {F : List Nat} {a w : World} (h : Chg F a w) {p : Addr} (hp : p.block ∈ F) (u : Value) : Chg F a (w.setCell p u) :=
  h.trans ⟨rfl, rfl, rfl, by simp [World.setCell], fun k _ hn => Below.heap_setCell _ _ _ _ (fun e => hn (e ▸ hp))⟩
theorem Chg.below {F : List Nat} {B : Nat} {w w' : World} (h : Chg F w w') (hB : B ≤ w.heap.size) (hF : ∀ b ∈ F, B ≤ b) : Below B w w' :=
  ⟨h.os, h.tape, h.output, h.size, fun k hk => h.block k (Nat.lt_of_lt_of_le hk hB) fun hm => Nat.not_lt.2 (hF k hm) hk⟩
theorem Chg.row {α : Type} {T : Ty α} {F G : List Nat} {wr : Bool} {w w' : World} {v : Value} {xs : List α} (h : Chg F w w') (hr : T.row wr w v xs G) (hd : ∀ b ∈ G, b ∉ F) : T.row wr w' v xs G :=
  Ty.row_keep hr fun b hb => h.block b (Ty.row_lt hr b hb) (hd b hb)

theorem Ty.all_int {wr : Bool} {w : World} : ∀ {xs : List Int}, (∀ x ∈ xs, I64 x) → Ty.int.all wr w (xs.map (.int .i64)) xs []
  | [], _ => ⟨rfl, rfl⟩
  | x :: xs, h => ⟨[.int .i64 x], xs.map (.int .i64), [], [], rfl, rfl, ⟨rfl, h x List.mem_cons_self, rfl⟩, Ty.all_int fun y hy => h y (List.mem_cons_of_mem _ hy)⟩
theorem Ty.all_int_inv {wr : Bool} {w : World} : ∀ {cs : List Value} {xs : List Int} {F : List Nat}, Ty.int.all wr w cs xs F → cs = xs.map (.int .i64) ∧ F = [] ∧ ∀ x ∈ xs, I64 x
  | _, [], _, h => ⟨h.1, h.2, by simp⟩
  | _, x :: xs, _, h => by
    obtain ⟨c, d, F1, F2, rfl, rfl, ⟨rfl, hx, rfl⟩, h2⟩ := h
    obtain ⟨rfl, rfl, h3⟩ := Ty.all_int_inv h2
    exact ⟨rfl, rfl, fun y hy => by rcases List.mem_cons.1 hy with rfl | hy; exact hx; exact h3 y hy⟩
/-- A row of ints: nil or empty; or its cells. -/
theorem row_int {wr : Bool} {w : World} {v : Value} {xs : List Int} {F : List Nat} (h : Ty.int.row wr w v xs F) :
    ∃ a cap, v = .slice a xs.length cap ∧ xs.length ≤ cap ∧ cap ≤ 9223372036854775807 ∧ (∀ x ∈ xs, I64 x) ∧
      ((xs = [] ∧ F = []) ∨ (xs ≠ [] ∧ ∃ b off, a = some ⟨b, off, none⟩ ∧ F = [b] ∧ ∀ j (hj : j < xs.length), cellIs wr w b (off + j) (.int .i64 xs[j]))) := by
  obtain ⟨a, cap, cs, G, rfl, h1, h2, hall, h⟩ := h
  obtain ⟨rfl, rfl, hi⟩ := Ty.all_int_inv hall
  refine ⟨a, cap, rfl, h1, h2, hi, h.imp id ?_⟩
  rintro ⟨_, hne, b, off, rfl, rfl, hc⟩
  exact ⟨hne, b, off, rfl, rfl, fun j hj => by have := hc j (by simpa using hj); simpa using this⟩
theorem row_int_mk {wr : Bool} {w : World} {b off cap : Nat} {xs : List Int} (hi : ∀ x ∈ xs, I64 x) (h1 : xs.length ≤ cap) (h2 : cap ≤ 9223372036854775807) (hne : xs ≠ [])
    (hc : ∀ j (hj : j < xs.length), cellIs wr w b (off + j) (.int .i64 xs[j])) : Ty.int.row wr w (.slice (some ⟨b, off, none⟩) xs.length cap) xs [b] :=
  ⟨_, cap, xs.map (.int .i64), [], rfl, h1, h2, Ty.all_int hi, .inr ⟨by decide, hne, b, off, rfl, rfl, fun j hj => by simpa using hc j (by simpa using hj)⟩⟩

/-- m, m+1, ..: n numbers. -/
def marks (m : Int) (n : Nat) : List Int := (List.range n).map fun (j : Nat) => m + (j : Int)
theorem marks_length (m : Int) (n : Nat) : (marks m n).length = n := by simp [marks]
theorem marks_get (m : Int) (n j : Nat) (h : j < (marks m n).length) : (marks m n)[j] = m + j := by simp [marks]
theorem marks_i64 {m : Int} {n : Nat} (h0 : 0 ≤ m) (h1 : m + n ≤ 1000000000000000000) : ∀ x ∈ marks m n, I64 x := by
  intro x hx
  simp only [marks, List.mem_map, List.mem_range] at hx
  obtain ⟨j, hj, rfl⟩ := hx
  unfold I64; omega
end Go.Proofs.Ytcdgpekefiplnaa
