/- Lemmas and contracts for a law, put together out of several texts: RcK. -/
import Derived.Test.YtpiimlmfcdjbbaaGreatDoorMg1
import Derived.Test.YtpiimlmfcdjbbaaGreatDoorMg3
import Derived.Test.YtpiimlmfcdjbbaaGreatDoorMg4
import Derived.Test.YtpiimlmfcdjbbaaGreatDoorMg8
import Derived.Test.YtpiimlmfcdjbbaaGreatDoorMg10
/- Contracts for the second half of FnRecords: what a book's text, names and systems give, at a book. -/
namespace Go.Proofs.YtpiimlmfcdjbbaaGreatDoor
open Go.RowKit

/-- Names in a block that stays. -/
def NmPost (xs : List Rec) (w : World) (e : Ending) (w' : World) : Prop :=
  ∃ A c, ∃ ns : List (List UInt8), e = .returned (.tuple #[.slice A ns.length c, .bool true]) ∧ ns.length ≤ 24 ∧ (∀ n ∈ ns, ∃ r ∈ xs, r.name = n) ∧ Below w.heap.size w w' ∧
    ∀ W, Below w'.heap.size w' W → ∀ j (hj : j < ns.length), ∃ g, A = some ⟨g, 0, none⟩ ∧ W.cell? ⟨g, j, none⟩ = some (.string (ms ns[j]))
theorem names_keep {xs : List Rec} {w w' : World} {e : Ending} (h : NamesPost xs w e w') : NmPost xs w e w' := by
  obtain ⟨a, cap, ns, rfl, -, hm, hl, hc, hmx, h⟩ := h
  refine ⟨a, cap, ns, rfl, hl, fun n hn => ?_, ?_, fun W hW j hj => ?_⟩
  · obtain ⟨r, hr, e⟩ := List.mem_map.1 ((hm n).1 hn)
    exact ⟨r, hr, e⟩
  · rcases h with ⟨-, h⟩ | ⟨g, cur, -, S, -⟩
    · exact h
    · exact S.below
  · rcases h with ⟨rfl, -⟩ | ⟨g, cur, rfl, S, -, hN⟩
    · exact absurd hj (by simp)
    · have k := S.cell (i := 0) rfl (o := j) (hN j hj)
      exact ⟨g, rfl, (hW.cell (World.block_lt_of_cell? _ _ k)).trans k⟩
theorem namesOf_at {v : Value} {xs : List Rec} {F : List Nat} {w : World} (hx : rcTy.row false w v xs F) (hb : bookB xs = true) :
    Calls Tryz.prog 13 #[v] w (NmPost xs w) := (namesOf_any v xs F w hx hb).mono fun _ _ h => names_keep h
theorem parse_book {xs : List Rec} {w : World} (hb : bookB xs = true) (hP : PEnv w) :
    Calls Tryz.prog 12 #[.string (ms (textB xs))] w fun e w' => ∃ A c, e = .returned (.tuple #[.slice A xs.length c, .bool true]) ∧ Sp w w' [Recs (.slice A xs.length c) xs] := by
  have h1 := textB_len (book_all hb)
  have h2 := book_le' hb
  have h := implParseBook_any (ms (textB xs)) w hP (by rw [ms_size]; omega)
  rw [bl_ms, is_parB ⟨hb, rfl⟩] at h
  exact h
theorem text_at {v : Value} {xs : List Rec} {F : List Nat} {w : World} (hE : EnvI w) (hx : rcTy.row false w v xs F) (hb : bookB xs = true) :
    Calls Tryz.prog 11 #[v] w fun e w' => e = .returned (.tuple #[.string (ms (textB xs)), .bool true]) ∧ Below w.heap.size w w' := by
  have h := implBookText_any v xs F w hE hx
  rw [hb] at h
  exact h
theorem specText_at {v : Value} {xs : List Rec} {F : List Nat} {w : World} (hx : rcTy.row false w v xs F) (hb : bookB xs = true) :
    Calls Tryz.prog 14 #[v] w fun e w' => e = .returned (.tuple #[.string (ms (textB xs)), .bool true]) ∧ Below w.heap.size w w' := by
  have h := specBookText_any v xs F w hx
  rw [hb] at h
  exact h
theorem smallest_at {v : Value} {xs : List Rec} {n : List UInt8} {F : List Nat} {w : World} (hx : rcTy.row false w v xs F) (hb : bookB xs = true) (hn : ∃ r ∈ xs, r.name = n) :
    Calls Tryz.prog 16 #[v, .string (ms n)] w fun e w' => e = .returned (.tuple #[.int .i64 (bestR xs n).sys, .bool true]) ∧ Below w.heap.size w w' := by
  have h := smallestSystem_any v xs n F w hx hb
  obtain ⟨h1, -⟩ := bestR_some (book_all hb) hn
  have h2 : 0 < (bestR xs n).sys := by
    have h3 := book_all hb _ h1
    simp only [recB, inB, Bool.and_eq_true, decide_eq_true_eq] at h3
    omega
  rw [decide_eq_true h2] at h
  exact h
theorem recordOf_at {v : Value} {xs : List Rec} {n : List UInt8} {s : Int} {q : Rec} {F : List Nat} {w : World} (hx : rcTy.row false w v xs F) (hb : bookB xs = true) (hq : recOf xs n s = some q) :
    Calls Tryz.prog 10 #[v, .string (ms n), .int .i64 s] w fun e w' => e = .returned (.tuple #[rcV q, .bool true]) ∧ Below w.heap.size w w' := by
  have h := recordOf_any v xs n s F w hx hb
  have hg : gotR xs n s = q := by unfold gotR; rw [hq]; rfl
  rw [hg, hq] at h
  exact h
theorem best_rec {xs : List Rec} {n : List UInt8} (hb : bookB xs = true) (hn : ∃ r ∈ xs, r.name = n) : recOf xs n (bestR xs n).sys = some (bestR xs n) := by
  obtain ⟨h1, h2⟩ := bestR_some (book_all hb) hn
  have h3 := (mem_recOf (book_ord hb).1.1).1 h1
  rw [h2] at h3
  exact h3
end Go.Proofs.YtpiimlmfcdjbbaaGreatDoor
