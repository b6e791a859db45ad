/- Contract: the text of a mark. -/
import Derived.Test.YtcapiijpfoapkaaDoorPlB
import Derived.Test.YtcapiijpfoapkaaDoorMemA
import Derived.Test.YtcapiijpfoapkaaDoorProg
import Derived.WalkLawsBesides
import Derived.WalkSpells
import Derived.Laws.BytesString
import Derived.Lib.Hide
namespace Go.Proofs.YtcapiijpfoapkaaDoor
open Go.RowKit

/-- The byte of a number. -/
def byteI (x : Int) : UInt8 := UInt8.ofNat x.toNat
theorem conv_one {P : Program} (src dst e : TypeId) (hs : P.underlying src = some (.slice e)) (he : P.underlying e = some (.int .u8)) (hd : P.underlying dst = some .string) (w : World) (x : Int) :
    (convert src dst (.slice (some ⟨w.heap.size, 0, none⟩) 1 1)).run P (w.alloc (.cells #[.int .u8 x] e)) = .ok (.string ⟨#[byteI x]⟩) (w.alloc (.cells #[.int .u8 x] e)) := by
  rw [run_convert_bytes_string _ src dst e _ 1 1 hs he hd]
  have hl := run_loadCells_list (P := P) (w.alloc (.cells #[.int .u8 x] e)) ⟨w.heap.size, 0, none⟩ ([x].map (Value.int .u8)) (fun j v hj => by
    match j, hj with
    | 0, hj => simp at hj; subst hj; simp [Addr.add])
  rw [run_bytesToString _ _ 1 1 [x] hl]
  rfl

/-- The digits of a number, none of 0. -/
def digs (n : Nat) : List UInt8 := if n = 0 then [] else Lib.decDigits n
theorem digs_step {n : Nat} (h : 0 < n) : digs n = digs (n / 10) ++ [UInt8.ofNat (48 + n % 10)] := by
  unfold digs
  rw [if_neg (by omega)]
  by_cases h1 : n < 10
  · rw [Lib.decDigits, dif_pos h1, if_pos (by omega)]
    simp [Nat.mod_eq_of_lt h1]
  · rw [decDigits_big h1, if_neg (by omega)]
theorem digs_len (n : Nat) (h : n ≤ 1000000000000000000) : (digs n).length ≤ 20 := by
  unfold digs
  split
  · simp
  · exact Nat.le_trans (decDigits_len 19 n (by omega)) (by omega)
/-- The text of a mark. -/
def markB (n : Nat) : List UInt8 := 109 :: digs n

set_option maxRecDepth 100000 in
set_option maxHeartbeats 1000000 in
theorem markText_any (K : Nat) (w : World) (h0 : 0 < K) (h1 : K ≤ 1000000000000000000) :
    Calls Tryd.prog 22 #[.int .i64 K] w fun e w' => e = .returned (.string (ms (markB K))) ∧ Below w.heap.size w w' := by
  have hle : ¬ (K : Int) ≤ 0 := by omega
  have hlenK := digs_len K h1
  go_enter Tryd.func22, Tryd.ntmps22
  go_wp2_with fail
  go_loopw [0, 3] (fun n s wr => ∃ (k : Nat) (l : List UInt8), k ≤ K ∧ n = .int .i64 k ∧ s = .string (ms l) ∧ Hid (digs K = digs k ++ l) ∧ Below w.heap.size w wr) (fun n _ _ => (intOf n).toNat)
  case atStart => exact ⟨K, [], Nat.le_refl _, rfl, rfl, by simp [Hid], bb _⟩
  case round =>
    obtain ⟨k, l, hk, rfl, rfl, HR, hB⟩ := hrel
    by_cases hlt : 0 < k
    · have hlt' : (0 : Int) < (k : Int) := by omega
      have hS : Hid (digs K = digs (k / 10) ++ (byteI (48 + (k : Int) % 10) :: l)) := by
        unfold Hid
        rw [HR.out, digs_step hlt, List.append_assoc]
        congr 1
      have hl : l.length ≤ 20 := by have h := congrArg List.length HR.out; rw [List.length_append] at h; omega
      have hkc := conv_one (P := Tryd.prog) 50 9 5 Tryd.underlying50 Tryd.underlying5 Tryd.underlying9
      have hadd := fun w => run_add (P := Tryd.prog) w ⟨#[byteI (48 + (k : Int) % 10)]⟩ (ms l) (by rw [ms_size]; show 1 + _ ≤ _; omega)
      clear HR
      go_wp2_with fail
      go_roundw
      case rel => exact ⟨k / 10, _, by omega, by simp, rfl, hS, (by repeat (first | exact bb _ | assumption | refine bal ?_ _ | refine bdr ?_ | refine bdn ?_ _ | refine bst ?_ (by simp <;> omega) _ | refine btr ?_ (by assumption)))⟩
      case measure => simp [intOf]; omega
    · obtain rfl : k = 0 := by omega
      have hS : Hid (digs K = l) := HR.out
      have hl : l.length ≤ 20 := by rw [← hS.out]; exact hlenK
      have hadd := fun w => run_add (P := Tryd.prog) w ⟨#[109]⟩ (ms l) (by rw [ms_size]; show 1 + _ ≤ _; omega)
      clear HR
      go_wp2_with fail
      go_ret
      exact ⟨by rw [markB, hS.out]; rfl, hB⟩
theorem markText_at {x : Int} (K : Nat) {w : World} (hx : x = (K : Int)) (h0 : 0 < K) (h1 : K ≤ 1000000000000000000) :
    Calls Tryd.prog 22 #[.int .i64 x] w fun e w' => e = .returned (.string (ms (markB K))) ∧ Below w.heap.size w w' := hx ▸ markText_any K w h0 h1
end Go.Proofs.YtcapiijpfoapkaaDoor
