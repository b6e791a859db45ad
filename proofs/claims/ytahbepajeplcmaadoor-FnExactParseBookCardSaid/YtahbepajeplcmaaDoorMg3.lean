/- Lemmas and contracts for a law, put together out of several texts: BookF BookD BookE HTailB BookG BookH BookI BtC QTail BtD. -/
import Derived.Test.YtahbepajeplcmaaDoorMg2
import Derived.Test.YtahbepajeplcmaaDoorShelf
import Derived.Deep.RegionHeld
import Derived.Lib.QuietBelow
import Derived.Test.YtahbepajeplcmaaDoorMg1
import Derived.BigQuiet
import Derived.Deep.Quiet
import Derived.StillTail
import Derived.Lib.SmallJoins
/- Contracts: names, and what is before what. -/
namespace Go.Proofs.YtahbepajeplcmaaDoor
open Go.RowKit

theorem name_step {l : List UInt8} {k : Nat} (hk : k < l.length) : (l.take (k + 1)).all nameC = ((l.take k).all nameC && nameC l[k]) := by
  rw [List.take_succ_eq_append_getElem hk, List.all_append]; simp
theorem name_no {l : List UInt8} {k : Nat} (hk : k < l.length) (h : nameC l[k] = false) : l.all nameC = false := by
  rw [List.all_eq_false]; exact ⟨_, List.getElem_mem hk, by simpa using h⟩
theorem nameC_lo {c : UInt8} (h : (c.toNat : Int) < 48) : nameC c = false := by simp [nameC, inB]; omega
theorem nameC_mid {c : UInt8} (h1 : (57 : Int) < c.toNat) (h2 : (c.toNat : Int) < 97) : nameC c = false := by simp [nameC, inB]; omega
theorem nameC_hi {c : UInt8} (h : (122 : Int) < c.toNat) : nameC c = false := by simp [nameC, inB]; omega
theorem nameC_dig {c : UInt8} (h1 : ¬ (c.toNat : Int) < 48) (h2 : ¬ (57 : Int) < c.toNat) : nameC c = true := by simp [nameC, inB]; omega
theorem nameC_let {c : UInt8} (h1 : ¬ (c.toNat : Int) < 97) (h2 : ¬ (122 : Int) < c.toNat) : nameC c = true := by simp [nameC, inB]; omega

set_option maxHeartbeats 2000000 in
theorem l31Name_any (s : ByteArray) (w : World) (hs : s.size ≤ 9223372036854775807) :
    Calls Tryd.prog 32 #[.string s] w fun e w' => e = .returned (.bool (nameB (bl s))) ∧ w = w' := by
  cases hq : inB (s.size : Int) 1 12
  · have hN : Hid (nameB (bl s) = false) := by unfold Hid nameB; rw [bl_length, hq]; rfl
    go_enter Tryd.func32, Tryd.ntmps32
    go_wp2_with (go_at_call 34; refine (l1In_any _ _ _ _).mono ?_; rw [hq]; rintro e w1 ⟨rfl, rfl⟩)
    go_ret
    exact ⟨ret_bool hN.out.symm, rfl⟩
  have hN : Hid (nameB (bl s) = (bl s).all nameC) := by unfold Hid nameB; rw [bl_length, hq]; rfl
  have h12 := (inB_true.1 hq).2
  go_enter Tryd.func32, Tryd.ntmps32
  go_wp2_with (go_at_call 34; refine (l1In_any _ _ _ _).mono ?_; rw [hq]; rintro e w1 ⟨rfl, rfl⟩)
  go_loop [3] (fun i => ∃ k : Nat, k ≤ s.size ∧ i = .int .i64 k ∧ Hid (((bl s).take k).all nameC = true)) (fun i => s.size - (intOf i).toNat)
  case atStart => exact ⟨0, Nat.zero_le _, rfl, by simp [Hid]⟩
  case round =>
    obtain ⟨k, hk, rfl, HD⟩ := hrel
    by_cases hlt : k < s.size
    · have hkl : k < (bl s).length := by rw [bl_length]; exact hlt
      have hge : (bl s)[k] = s[k] := bl_get s k hlt
      have hds := Lib.hid (name_step hkl)
      have hdn := Lib.hid (@name_no (bl s) k hkl)
      rw [hge] at hds hdn
      have hc256 := s[k].toNat_lt
      clear hge
      have no : nameC s[k] = false → Hid (nameB (bl s) = false) := fun h => by unfold Hid; rw [hN.out, hdn.out h]
      have yes : nameC s[k] = true → Hid (((bl s).take (k + 1)).all nameC = true) := fun h => by unfold Hid; rw [hds.out, HD.out, h]; rfl
      by_cases h1 : (s[k].toNat : Int) < 97
      · by_cases h3 : (s[k].toNat : Int) < 48
        · have hR := no (nameC_lo h3)
          clear no yes hds hdn HD
          go_wp2
          go_ret
          exact ⟨ret_bool hR.out.symm, rfl⟩
        · by_cases h4 : (57 : Int) < s[k].toNat
          · have hR := no (nameC_mid h4 h1)
            clear no yes hds hdn HD
            go_wp2
            go_ret
            exact ⟨ret_bool hR.out.symm, rfl⟩
          · have hR := yes (nameC_dig h3 h4)
            clear no yes hds hdn HD
            go_wp2
            go_round
            case rel => exact ⟨k + 1, by omega, by go_num, hR⟩
            case measure => simp [intOf]; omega
      · by_cases h2 : (122 : Int) < s[k].toNat
        · have hR := no (nameC_hi h2)
          have h3 : ¬ (s[k].toNat : Int) < 48 := by omega
          have h4 : (57 : Int) < s[k].toNat := by omega
          clear no yes hds hdn HD
          go_wp2
          go_ret
          exact ⟨ret_bool hR.out.symm, rfl⟩
        · have hR := yes (nameC_let h1 h2)
          clear no yes hds hdn HD
          go_wp2
          go_round
          case rel => exact ⟨k + 1, by omega, by go_num, hR⟩
          case measure => simp [intOf]; omega
    · obtain rfl : k = s.size := by omega
      have hR : Hid (nameB (bl s) = true) := by unfold Hid; rw [hN.out, ← HD.out, bl_take_all s _ (Nat.le_refl _)]
      clear HD hN
      go_wp2
      go_ret
      exact ⟨ret_bool hR.out.symm, rfl⟩

set_option maxHeartbeats 2000000 in
theorem nameOk_any (s : ByteArray) (w : World) (hs : s.size ≤ 9223372036854775807) :
    Calls Tryd.prog 36 #[.string s] w fun e w' => e = .returned (.bool (nameB (bl s))) ∧ w = w' := by
  go_enter Tryd.func36, Tryd.ntmps36
  go_wp2
  go_loop [7] (fun i => ∃ k : Nat, k ≤ s.size ∧ i = .int .i64 k ∧ Hid (((bl s).take k).all nameC = true)) (fun i => s.size - (intOf i).toNat)
  case atStart => exact ⟨0, Nat.zero_le _, rfl, by simp [Hid]⟩
  case round =>
    obtain ⟨k, hk, rfl, HD⟩ := hrel
    by_cases hlt : k < s.size
    · have hkl : k < (bl s).length := by rw [bl_length]; exact hlt
      have hge : (bl s)[k] = s[k] := bl_get s k hlt
      have hds := Lib.hid (name_step hkl)
      have hdn := Lib.hid (@name_no (bl s) k hkl)
      rw [hge] at hds hdn
      have hc256 := s[k].toNat_lt
      clear hge
      have no : nameC s[k] = false → Hid (nameB (bl s) = false) := fun h => by unfold Hid nameB; rw [hdn.out h, Bool.and_false]
      have yes : nameC s[k] = true → Hid (((bl s).take (k + 1)).all nameC = true) := fun h => by unfold Hid; rw [hds.out, HD.out, h]; rfl
      by_cases h1 : (s[k].toNat : Int) < 97
      · by_cases h3 : (s[k].toNat : Int) < 48
        · have hR := no (nameC_lo h3)
          clear no yes hds hdn HD
          go_wp2
          go_ret
          exact ⟨ret_bool hR.out.symm, rfl⟩
        · by_cases h4 : (57 : Int) < s[k].toNat
          · have hR := no (nameC_mid h4 h1)
            clear no yes hds hdn HD
            go_wp2
            go_ret
            exact ⟨ret_bool hR.out.symm, rfl⟩
          · have hR := yes (nameC_dig h3 h4)
            clear no yes hds hdn HD
            go_wp2
            go_round
            case rel => exact ⟨k + 1, by omega, by go_num, hR⟩
            case measure => simp [intOf]; omega
      · by_cases h2 : (122 : Int) < s[k].toNat
        · have hR := no (nameC_hi h2)
          have h3 : ¬ (s[k].toNat : Int) < 48 := by omega
          have h4 : (57 : Int) < s[k].toNat := by omega
          clear no yes hds hdn HD
          go_wp2
          go_ret
          exact ⟨ret_bool hR.out.symm, rfl⟩
        · have hR := yes (nameC_let h1 h2)
          clear no yes hds hdn HD
          go_wp2
          go_round
          case rel => exact ⟨k + 1, by omega, by go_num, hR⟩
          case measure => simp [intOf]; omega
    · obtain rfl : k = s.size := by omega
      have hR : Hid (nameB (bl s) = inB s.size 1 12) := by
        unfold Hid nameB
        have := HD.out
        rw [bl_take_all s _ (Nat.le_refl _)] at this
        rw [this, bl_length, Bool.and_true]
      clear HD
      go_wp2_with (go_at_call 38; refine (within_any _ _ _ _).mono ?_; rintro e w1 ⟨rfl, rfl⟩)
      go_ret
      exact ⟨ret_bool hR.out.symm, rfl⟩

set_option maxHeartbeats 400000 in
theorem l31System_any (x : Int) (w : World) : Calls Tryd.prog 33 #[.int .i64 x] w fun e w' => e = .returned (.bool (inB x 1 4)) ∧ w = w' := by
  go_enter Tryd.func33, Tryd.ntmps33
  go_wp2_with (go_at_call 34; refine (l1In_any _ _ _ _).mono ?_; rintro e w1 ⟨rfl, rfl⟩)
  go_ret
  exact ⟨rfl, rfl⟩
set_option maxHeartbeats 400000 in
theorem systemOk_any (x : Int) (w : World) : Calls Tryd.prog 37 #[.int .i64 x] w fun e w' => e = .returned (.bool (inB x 1 4)) ∧ w = w' := by
  go_enter Tryd.func37, Tryd.ntmps37
  go_wp2_with (go_at_call 38; refine (within_any _ _ _ _).mono ?_; rintro e w1 ⟨rfl, rfl⟩)
  go_ret
  exact ⟨rfl, rfl⟩
end Go.Proofs.YtahbepajeplcmaaDoor

/- Contracts: marks in rows of records and of strings. -/
namespace Go.Proofs.YtahbepajeplcmaaDoor
open Go.RowKit

/-- A part that is let go. -/
def Nix : Asn where
  p _ F := F = []
  lt := by rintro w F rfl x hx; simp at hx
  keep := by rintro w w' F rfl _; rfl
theorem Sp.spoil {α : Type} {T : Ty α} {w0 w : World} {ps : List Asn} {i : Nat} {v : Value} {xs : List α} (h : Sp w0 w ps) (hi : ps[i]? = some (Row T v xs)) :
    ∃ F, T.row true w v xs F ∧ F.Nodup ∧ ∀ w', Chg F w w' → Sp w0 w' (ps.set i Nix) := by
  obtain ⟨F, ⟨hr, hn⟩, hF, hall⟩ := h.upd hi
  exact ⟨F, hr, hn, fun w' hc => hall w' Nix [] hc rfl (fun b hb => by simp at hb)⟩

/-- The cells of a row may be written. -/
def FreeRel (b off n : Nat) (w wr : World) : Prop := (∀ q, q < n → ∃ u, cellIs true wr b (off + q) u) ∧ Chg [b] w wr
theorem FreeRel.step {b off n k : Nat} {w wr w1 : World} (h : FreeRel b off n w wr) (hb : Below wr.heap.size wr w1) (u : Value) : FreeRel b off n w (w1.setCell ⟨b, off + k, none⟩ u) := by
  refine ⟨fun q hq => ?_, (h.2.then hb).set (by simp) _⟩
  obtain ⟨v, hc0⟩ := h.1 q hq
  have hc := hc0.keep (hb.block b hc0.lt)
  by_cases e : q = k
  · subst e
    exact ⟨u, by rw [World.cell?_setCell_same' _ _ _ (by rw [hc.1]; rfl)], fun _ => by rw [World.frozen?_setCell]; exact hc.2 rfl⟩
  · exact ⟨v, by rw [World.cell?_setCell_other w1 _ _ _ (by simp only [ne_eq, Addr.mk.injEq]; omega)]; exact hc.1, fun _ => by rw [World.frozen?_setCell]; exact hc.2 rfl⟩
theorem FreeRel.cell {b off n : Nat} {w wr : World} (h : FreeRel b off n w wr) {q : Nat} (hq : q < n) : ∃ u, wr.cell? ⟨b, off + q, none⟩ = some u ∧ wr.frozen? ⟨b, off + q, none⟩ = false := by
  obtain ⟨u, hu⟩ := h.1 q hq
  exact ⟨u, hu.1, hu.2 rfl⟩

set_option maxRecDepth 100000 in
set_option maxHeartbeats 2000000 in
theorem markRecordS_any (v : Value) (m : Nat) (xs : List Rec) (F : List Nat) (w : World) (hx : rcTy.row true w v xs F) (h0 : 0 < m) (h1 : m + 4 * xs.length ≤ 1000000000) :
    Calls Tryd.prog 10 #[v, .int .i64 m] w fun e w' => e = .returned (.int .i64 ((m + 4 * xs.length : Nat) : Int)) ∧ Chg F w w' := by
  obtain ⟨a, c, rfl, hx1, hx2, hg, hx3⟩ := row_flat hx
  rcases hx3 with ⟨rfl, rfl⟩ | ⟨_, hxn, b, off, rfl, rfl, hxc⟩
  · go_enter Tryd.func10, Tryd.ntmps10
    go_wp2_with fail
    refine wp_loop_rounds 1 ?_
    rw [rounds_succ]
    go_wp2_with fail
    go_ret
    exact ⟨ret_int (by simp), Chg.refl _ _⟩
  have hst : Hid (FreeRel b off (xs.length * 4) w w) := ⟨fun q hq => by
    have hj : q / 4 < xs.length := by omega
    have hi : q % 4 < 4 := Nat.mod_lt _ (by decide)
    obtain ⟨u, hu⟩ : ∃ u, (rcEnc xs[q / 4])[q % 4]? = some u := ⟨_, List.getElem?_eq_getElem (show q % 4 < (rcEnc xs[q / 4]).length from hi)⟩
    have := hxc (q / 4) hj (q % 4) u hu
    rw [show q / 4 * 4 + q % 4 = q by omega] at this
    exact ⟨u, this⟩, Chg.refl _ _⟩
  clear hxc hx
  go_enter Tryd.func10, Tryd.ntmps10
  go_wp2_with fail
  go_loopw [1, 5] (fun n i wr => ∃ k : Nat, k ≤ xs.length ∧ i = .int .i64 k ∧ n = .int .i64 ((m + 4 * k : Nat) : Int) ∧ Hid (FreeRel b off (xs.length * 4) w wr)) (fun _ i _ => xs.length - (intOf i).toNat)
  case atStart => exact ⟨0, Nat.zero_le _, rfl, by simp, hst⟩
  case round =>
    obtain ⟨k, hk, rfl, rfl, HR⟩ := hrel
    clear hst
    by_cases hlt : k < xs.length
    · go_wp2_with fail
      refine (markText_any (m + 4 * k) _ (by omega) (by omega)).mono ?_
      rintro e w1 ⟨rfl, hb1⟩
      have R0 : FreeRel b off (xs.length * 4) w w1 := ⟨fun q hq => by obtain ⟨u, hu⟩ := HR.out.1 q hq; exact ⟨u, hu.keep (hb1.block b hu.lt)⟩, HR.out.2.then hb1⟩
      obtain ⟨u0, k0, f0⟩ := R0.cell (q := k * 4) (by omega)
      obtain ⟨u1, k1, f1⟩ := R0.cell (q := k * 4 + 1) (by omega)
      obtain ⟨u2, k2, f2⟩ := R0.cell (q := k * 4 + 2) (by omega)
      obtain ⟨u3, k3, f3⟩ := R0.cell (q := k * 4 + 3) (by omega)
      have R4 := Lib.hid (fun v0 v1 v2 v3 => (((R0.step (k := k * 4) (bb _) v0).step (k := k * 4 + 1) (bb _) v1).step (k := k * 4 + 2) (bb _) v2).step (k := k * 4 + 3) (bb _) v3)
      simp only [← Nat.add_assoc] at k1 f1 k2 f2 k3 f3 R4
      clear R0 HR hb1
      go_wp2_with fail
      go_roundw
      case rel => exact ⟨k + 1, by omega, by go_num, by go_num, R4.out _ _ _ _⟩
      case measure => simp [intOf]; omega
    · obtain rfl : k = xs.length := by omega
      go_wp2_with fail
      go_ret
      exact ⟨rfl, HR.out.2⟩
end Go.Proofs.YtahbepajeplcmaaDoor

/- Contracts: rows of strings in the law. -/
namespace Go.Proofs.YtahbepajeplcmaaDoor
open Go.RowKit

def stEnc (s : List UInt8) : List Value := [.string (ms s)]
def stOk (s : List UInt8) : Prop := s.length ≤ 9223372036854775807
abbrev stTy : Ty (List UInt8) := Ty.flat 1 stEnc stOk (fun _ => rfl)
theorem row_st {wr : Bool} {w : World} {v : Value} {xs : List (List UInt8)} {F : List Nat} (h : stTy.row wr w v xs F) :
    ∃ a cap, v = .slice a xs.length cap ∧ xs.length ≤ cap ∧ cap ≤ 9223372036854775807 ∧ (∀ x ∈ xs, stOk x) ∧
      ((xs = [] ∧ F = []) ∨ (xs ≠ [] ∧ ∃ b off, a = some ⟨b, off, none⟩ ∧ F = [b] ∧ ∀ j (hj : j < xs.length), cellIs wr w b (off + j) (.string (ms xs[j])))) := by
  obtain ⟨a, cap, rfl, h1, h2, h3, h4⟩ := row_flat h
  refine ⟨a, cap, rfl, h1, h2, h3, h4.imp id ?_⟩
  rintro ⟨_, hne, b, off, rfl, rfl, hc⟩
  exact ⟨hne, b, off, rfl, rfl, fun j hj => by have := hc j hj 0 _ rfl; rwa [Nat.mul_one, Nat.add_zero] at this⟩
theorem row_st_mk {wr : Bool} {w : World} {b off cap : Nat} {xs : List (List UInt8)} (hg : ∀ x ∈ xs, stOk x) (h1 : xs.length ≤ cap) (h2 : cap ≤ 9223372036854775807) (hne : xs ≠ [])
    (hc : ∀ j (hj : j < xs.length), cellIs wr w b (off + j) (.string (ms xs[j]))) : stTy.row wr w (.slice (some ⟨b, off, none⟩) xs.length cap) xs [b] := by
  refine row_flat_mk hg h1 h2 hne (by decide) fun j hj i u hu => ?_
  match i, hu with
  | 0, hu => cases hu; rw [Nat.mul_one, Nat.add_zero]; exact hc j hj
  | i + 1, hu => simp [stEnc] at hu

/- left out: the seat has no laws.eqStringS -/

/-- Strings with marks. -/
def markSt (m n : Nat) : List (List UInt8) := (List.range n).map fun j => markB (m + j)
theorem markSt_length (m n : Nat) : (markSt m n).length = n := by simp [markSt]
theorem markSt_get (m n j : Nat) (h : j < (markSt m n).length) : (markSt m n)[j] = markB (m + j) := by simp [markSt]
theorem markB_len (n : Nat) (h : n ≤ 1000000000000000000) : (markB n).length ≤ 21 := by have := digs_len n h; simp [markB]; omega
theorem markSt_ok {m n : Nat} (h : m + n ≤ 1000000000000000000) : ∀ x ∈ markSt m n, stOk x := by
  intro x hx
  simp only [markSt, List.mem_map, List.mem_range] at hx
  obtain ⟨j, hj, rfl⟩ := hx
  have h1 := markB_len (m + j) (by omega)
  unfold stOk; omega
def MarkRelS (b off m : Nat) (xs : List (List UInt8)) (k : Nat) (w wr : World) : Prop :=
  (∀ q, q < xs.length → cellIs true wr b (off + q) (.string (ms (if q < k then markB (m + q) else xs.getD q [])))) ∧ Chg [b] w wr
theorem MarkRelS.step {b off m : Nat} {xs : List (List UInt8)} {k : Nat} {w wr w1 : World} (h : MarkRelS b off m xs k w wr) (hb : Below wr.heap.size wr w1) :
    MarkRelS b off m xs (k + 1) w (w1.setCell ⟨b, off + k, none⟩ (.string (ms (markB (m + k))))) := by
  refine ⟨fun q hq => ?_, (h.2.then hb).set (by simp) _⟩
  have hc0 := h.1 q hq
  have hc := hc0.keep (hb.block b hc0.lt)
  by_cases e : q = k
  · subst e
    refine ⟨?_, fun _ => ?_⟩
    · rw [World.cell?_setCell_same' _ _ _ (by rw [hc.1]; rfl)]
      simp
    · rw [World.frozen?_setCell]; exact hc.2 rfl
  · refine ⟨?_, fun _ => ?_⟩
    · rw [World.cell?_setCell_other w1 _ _ _ (by simp only [ne_eq, Addr.mk.injEq]; omega), hc.1]
      by_cases h1 : q < k
      · rw [if_pos h1, if_pos (show q < k + 1 by omega)]
      · rw [if_neg h1, if_neg (show ¬ q < k + 1 by omega)]
    · rw [World.frozen?_setCell]; exact hc.2 rfl

/- left out: the seat has no laws.markStringS -/

/- left out: the seat has no laws.heldStringS -/
end Go.Proofs.YtahbepajeplcmaaDoor

/- A region that draws its order: as HTail, but the operations of the tail may come up in whatever order among themselves, once the head is done. No program in sight. -/
namespace Go.Proofs.YtahbepajeplcmaaDoor

section
variable {P : Program} {ops : Array Oper} {Q : Exit → Act → World → Prop} {md : Region.Mode} {S : World → Prop} {n : Nat} {L : Array Bool → Act → World → Prop}

/-- Each operation behind number n waits for one of the tail that stands ahead of it. -/
def chainW (md : Region.Mode) (ops : Array Oper) (n : Nat) : Bool :=
  (List.range ops.size).all fun t => decide (t ≤ n) || (List.range t).any fun k => decide (n ≤ k) && Region.waitsFor md ops t k

theorem tail_waitsW {listed : Array Bool} (hs : Region.sinkB md ops n = true) (hc : chainW md ops n = true) (hn : n < ops.size) (inv : HeadInv md ops n listed) :
    ∀ (d i : Nat), n - i = d → i < n → listed.getD i true = false → ∀ t, n ≤ t → t ∉ Region.ready md ops listed := by
  intro d
  induction d using Nat.strongRecOn with
  | _ d ih =>
    intro i hd hi hun t ht hr
    obtain ⟨_, ot, hot, hall⟩ := mem_ready.1 hr
    have htlt : t < ops.size := (Array.getElem?_eq_some_iff.1 hot).1
    by_cases htn : t = n
    · subst htn
      have h1 := List.all_eq_true.1 hs i (List.mem_range.2 hi)
      obtain ⟨j, hj, hj2⟩ := List.any_eq_true.1 h1
      simp only [Bool.and_eq_true, decide_eq_true_eq] at hj2
      obtain ⟨oj, hoj, e, he, hb, hon⟩ := Region.waitsFor_spec hj2.2
      have hjle : j ≤ t := by have := List.mem_range.1 hj; omega
      by_cases hjt : j = t
      · subst hjt
        have : oj = ot := Option.some.inj (hoj.symm.trans hot)
        subst this
        have h2 := hall e he hb
        rw [hon, getD_both hun] at h2
        cases h2
      · cases hl : listed.getD j false with
        | true =>
          have h2 := inv.closed j oj hoj hl e he hb
          rw [hon, getD_both hun] at h2
          cases h2
        | false =>
          have hjs : j < listed.size := by rw [inv.size]; omega
          exact ih (t - j) (by omega) j rfl (by omega) (getD_in hjs hl) t (Nat.le_refl _) hr
    · have h1 := List.all_eq_true.1 hc t (List.mem_range.2 htlt)
      simp only [Bool.or_eq_true, decide_eq_true_eq] at h1
      rcases h1 with h1 | h1
      · omega
      · obtain ⟨k, hk, hk2⟩ := List.any_eq_true.1 h1
        simp only [Bool.and_eq_true, decide_eq_true_eq] at hk2
        have hkt := List.mem_range.1 hk
        obtain ⟨o', ho', e, he, hb, hon⟩ := Region.waitsFor_spec hk2.2
        have : o' = ot := Option.some.inj (ho'.symm.trans hot)
        subst this
        have h2 := hall e he hb
        rw [hon, getD_both (inv.tail k hk2.1 (by omega))] at h2
        cases h2

theorem headW_first {i : Nat} {oi : Oper} {v : Value} (hi : ops[i]? = some oi) (hsel : ∀ (j : Nat) (o : Oper) cs b, ops[j]? = some o → o.op ≠ .select cs b)
    (hQ : ∀ c a w, Q (.panic c) (a.put oi.dst v) w → Q (.panic c) a w)
    (hs : Region.sinkB md ops n = true) (hc : chainW md ops n = true) (hn : n < ops.size) (hin : i < n) (hL : ∀ s a w, L s a w → ∀ j ∈ Region.ready md ops s, n ≤ j) (f : Nat) :
    ∀ (s : Array Bool) (a : Act) (w : World), HeadInv md ops n s →
      (∀ j oj, ops[j]? = some oj → j ≠ i → s.getD j true = false → (∀ e ∈ oj.after, Region.binds md e = true → e.on ≠ i) → oi.apart ops oj = true) →
      i ∈ Region.ready md ops s → YieldsIf P ops S oi v a → S w → headH P md ops Q S n L f (s.setIfInBounds i true) (a.put oi.dst v) w → headH P md ops Q S n L (f + 1) s a w := by
  induction f with
  | zero =>
    intro s a w inv _ hr hy hS H
    refine ⟨List.ne_nil_of_mem hr, fun j hj => ?_⟩
    have hjn : j < n := Nat.lt_of_not_le fun h => tail_waitsW hs hc hn inv _ i rfl hin (mem_ready.1 hr).1 j h hj
    refine ⟨hjn, ?_⟩
    by_cases e : j = i
    · subst e; exact hy.wpOp hi hS ⟨hS, H⟩
    · exact absurd (hL _ _ _ H j (ready_mono hj e)) (by omega)
  | succ f ih =>
    intro s a w inv hfree hr hy hS H
    refine ⟨List.ne_nil_of_mem hr, fun j hj => ?_⟩
    have hjn : j < n := Nat.lt_of_not_le fun h => tail_waitsW hs hc hn inv _ i rfl hin (mem_ready.1 hr).1 j h hj
    refine ⟨hjn, ?_⟩
    by_cases e : j = i
    · subst e; exact hy.wpOp hi hS ⟨hS, H⟩
    · obtain ⟨hjs, oj, hoj, hall⟩ := mem_ready.1 hj
      have hno : ∀ e ∈ oj.after, Region.binds md e = true → e.on ≠ i := by
        intro x hx hb hxi
        have := hall x hx hb
        rw [hxi, getD_both (mem_ready.1 hr).1] at this; cases this
      have h1 := wpOp_putIf hoj (hfree j oj hoj e hjs hno) (fun cs b => hsel i oi cs b hi) (fun cs b => hsel j oj cs b hoj) hQ hy (H.2 j (ready_mono hj e)).2
      refine wpOp_mono (fun a' w' h2 => ⟨h2.2.1, ih (s.setIfInBounds j true) a' w' (inv.set hj hjn) (fun k ok hk hki hun hw => hfree k ok hk hki ?_ hw) (ready_mono hr (Ne.symm e)) h2.1 h2.2.1 ?_⟩) h1
      · by_cases hjk : j = k
        · subst hjk; exact hjs
        · rw [getD_set_ne true hjk] at hun; exact hun
      · rw [Array.setIfInBounds_comm _ _ e]; exact h2.2.2

/-- The checks on the region. -/
def tailOkW (md : Region.Mode) (ops : Array Oper) (n : Nat) : Bool := Region.noSelect ops && decide (n < ops.size) && Region.sinkB md ops n && chainW md ops n
/-- What stands behind the head: the rest, in whatever order. -/
def tailW (P : Program) (ops : Array Oper) (Q : Exit → Act → World → Prop) (n : Nat) (s : Array Bool) (a : Act) (w : World) : Prop :=
  (Region.ready .any ops s).all (fun j => decide (n ≤ j)) = true ∧ wpAnyH P .any ops Q (fun _ => True) (ops.size - n) s a w

/-- Take number i first. -/
theorem walkW_take {i : Nat} {oi : Oper} {v : Value} {f : Nat} {s : Array Bool} {a : Act} {w : World} (hi : ops[i]? = some oi) (hok : tailOkW .any ops n = true) (hin : i < n) (hf : Region.free .any ops s i = true)
    (hr : (Region.ready .any ops s).contains i = true) (hQ : ∀ c a w, Q (.panic c) (a.put oi.dst v) w → Q (.panic c) a w) (hy : YieldsIf P ops S oi v a) (hS : S w)
    (h : walkT P .any ops Q S n (tailW P ops Q n) f (s.setIfInBounds i true) (a.put oi.dst v) w) : walkT P .any ops Q S n (tailW P ops Q n) (f + 1) s a w := fun inv => by
  simp only [tailOkW, Bool.and_eq_true, decide_eq_true_eq] at hok
  obtain ⟨⟨⟨hsel, hn⟩, hs⟩, hc⟩ := hok
  have hr' : i ∈ Region.ready .any ops s := by simpa using hr
  exact headW_first hi (Region.noSelect_spec hsel) hQ hs hc hn hin (fun s' a' w' hL j hj => by simpa using List.all_eq_true.1 hL.1 j hj) f s a w inv (Region.free_spec hi hf) hr' hy hS (h (inv.set hr' hin))
/-- The head is done. -/
theorem walkW_done {s : Array Bool} {a : Act} {w : World} (hs : (Region.ready .any ops s).all (fun j => decide (n ≤ j)) = true) (h : (fun _ => True : World → Prop) w → wpAnyH P .any ops Q (fun _ => True) (ops.size - n) s a w) : walkT P .any ops Q S n (tailW P ops Q n) 0 s a w := fun _ => ⟨hs, h trivial⟩
end

/-- The beginning. -/
theorem wp_region_tailW {P : Program} {S : World → Prop} {id : Nat} {Q : Exit → Act → World → Prop} {a : Act} {w : World} {l : List Oper} (n : Nat) (hm : P.follows .mixedOrders = true) (hok : tailOkW .any l.toArray n = true) (hS : S w.drew)
    (h : S w.drew → walkT P .any l.toArray Q S n (tailW P l.toArray Q n) n (Array.replicate l.toArray.size false) a w.drew) : (Code.region id l.toArray true).wp P Q a w := by
  have hn : n < l.length := by simp only [tailOkW, Bool.and_eq_true, decide_eq_true_eq] at hok; simpa using hok.1.1.2
  have inv0 : HeadInv .any l.toArray n (Array.replicate l.toArray.size false) :=
    ⟨by simp, fun j oj _ hl => (by rw [getD_replicate_false] at hl; cases hl), fun t _ ht => getD_in (by simpa using ht) (getD_replicate_false _ _)⟩
  refine wp_region_any hm ?_
  have H2 := any_of_headH (Q := Q) (g := l.toArray.size - n) (fun s a' w' hL => wpAny_of_held _ _ _ _ hL.2) _ _ _ _ (h hS inv0)
  rw [show n + (l.toArray.size - n) = l.toArray.size by simp; omega] at H2
  exact H2
end Go.Proofs.YtahbepajeplcmaaDoor

/- Contracts: books. -/
namespace Go.Proofs.YtahbepajeplcmaaDoor
open Go.RowKit

theorem before_parts (r q : Rec) : beforeB r q = (Op.bytesLess r.name q.name || ((r.name == q.name) && decide (r.sys < q.sys))) := rfl
set_option maxHeartbeats 1000000 in
theorem l31Before_any (r : Rec) (n : List UInt8) (s : Int) (w : World) :
    Calls Tryd.prog 35 #[rcV r, .string (ms n), .int .i64 s] w fun e w' => e = .returned (.bool (Op.bytesLess r.name n || ((r.name == n) && decide (r.sys < s)))) ∧ Below w.heap.size w w' := by
  have hB := bal (bb w) (.cells #[.string (ms r.name), .int .i64 r.sys, .int .i64 r.size, .int .i64 r.extra] 38)
  cases h1 : Op.bytesLess r.name n
  · cases h2 : (r.name == n)
    · go_enter Tryd.func35, Tryd.ntmps35
      go_wp2_with fail
      go_ret
      exact ⟨rfl, hB⟩
    · go_enter Tryd.func35, Tryd.ntmps35
      go_wp2_with fail
      go_ret
      exact ⟨rfl, hB⟩
  · go_enter Tryd.func35, Tryd.ntmps35
    go_wp2_with fail
    go_ret
    exact ⟨rfl, hB⟩

/-- The first number that is not 0. -/
def orN (x y : Int) : Int := if x = 0 then y else x
theorem cmp_bytes : ∀ (a b : List UInt8), (Lib.compareBytes a b = -1 ↔ Op.bytesLess a b = true) ∧ (Lib.compareBytes a b = 0 ↔ a = b) ∧ (Lib.compareBytes a b = -1 ∨ Lib.compareBytes a b = 0 ∨ Lib.compareBytes a b = 1)
  | [], [] => by simp [Lib.compareBytes, Op.bytesLess]
  | [], _ :: _ => by simp [Lib.compareBytes, Op.bytesLess]
  | _ :: _, [] => by simp [Lib.compareBytes, Op.bytesLess]
  | x :: a, y :: b => by
    obtain ⟨h1, h2, h3⟩ := cmp_bytes a b
    simp only [Lib.compareBytes, Op.bytesLess, Bool.or_eq_true, decide_eq_true_eq, Bool.and_eq_true, beq_iff_eq, List.cons.injEq]
    by_cases e : x < y
    · simp only [e, if_true, true_or]
      have hne : ¬ x = y := fun e2 => by subst e2; rw [UInt8.lt_iff_toNat_lt] at e; omega
      simp [hne]
    · by_cases e2 : y < x
      · have hne : ¬ x = y := fun e3 => by subst e3; exact e e2
        simp [e, e2, hne]
      · have hxy : x = y := by
          rw [UInt8.lt_iff_toNat_lt] at e e2
          exact UInt8.toNat_inj.1 (by omega)
        subst hxy
        simp only [e, if_false, false_or, true_and]
        exact ⟨h1, h2, h3⟩
def cmpR (a b : Rec) : Int := orN (Lib.compareBytes a.name b.name) (Lib.compareInt a.sys b.sys)
theorem cmpR_neg (a b : Rec) : (0 ≤ cmpR a b) ↔ beforeB a b = false := by
  obtain ⟨h1, h2, h3⟩ := cmp_bytes a.name b.name
  unfold cmpR orN
  rw [before_parts]
  rcases h3 with h | h | h
  · rw [if_neg (by omega), h]
    have := h1.1 h
    simp [this]
  · rw [if_pos h]
    have e := h2.1 h
    rw [e, less_irrefl]
    unfold Lib.compareInt
    by_cases hs : a.sys < b.sys
    · simp [hs]
    · simp only [hs, if_false, beq_self_eq_true, Bool.true_and, Bool.false_or, decide_false, iff_true]
      split <;> decide
  · rw [if_neg (by omega), h]
    have n1 : Op.bytesLess a.name b.name = false := by
      cases hb : Op.bytesLess a.name b.name
      · rfl
      · have := h1.2 hb; omega
    have n2 : (a.name == b.name) = false := by
      rw [beq_eq_false_iff_ne]
      intro e
      have := h2.2 e; omega
    simp [n1, n2]

set_option maxHeartbeats 1000000 in
theorem cmpOr_any (b : Nat) (x y : Int) (w : World) (k0 : w.cell? ⟨b, 0, none⟩ = some (.int .i64 x)) (k1 : w.cell? ⟨b, 1, none⟩ = some (.int .i64 y)) :
    Calls Tryd.prog 52 #[.slice (some ⟨b, 0, none⟩) 2 2] w fun e w' => e = .returned (.int .i64 (orN x y)) ∧ w = w' := by
  by_cases hx : x = 0
  · have hR : Hid (orN x y = y) := by unfold Hid orN; rw [if_pos hx]
    subst hx
    by_cases hy : y = 0
    · subst hy
      go_enter Tryd.func52, Tryd.ntmps52
      go_wp2_with fail
      refine wp_loop_rounds 3 ?_
      rw [rounds_succ]
      go_wp2_with fail
      rw [rounds_succ]
      go_wp2_with fail
      rw [rounds_succ]
      go_wp2_with fail
      go_ret
      exact ⟨ret_int hR.out.symm, rfl⟩
    · have hy2 : (y != 0) = true := by simpa using hy
      go_enter Tryd.func52, Tryd.ntmps52
      go_wp2_with fail
      refine wp_loop_rounds 3 ?_
      rw [rounds_succ]
      go_wp2_with fail
      rw [rounds_succ]
      go_wp2_with fail
      go_ret
      exact ⟨ret_int hR.out.symm, rfl⟩
  · have hR : Hid (orN x y = x) := by unfold Hid orN; rw [if_neg hx]
    have hx2 : (x != 0) = true := by simpa using hx
    go_enter Tryd.func52, Tryd.ntmps52
    go_wp2_with fail
    refine wp_loop_rounds 3 ?_
    rw [rounds_succ]
    go_wp2_with fail
    go_ret
    exact ⟨ret_int hR.out.symm, rfl⟩

end Go.Proofs.YtahbepajeplcmaaDoor

/- Contracts: records compared. -/
namespace Go.Proofs.YtahbepajeplcmaaDoor
open Go.RowKit

theorem drew_size (w : World) : w.drew.heap.size = w.heap.size := rfl

set_option maxRecDepth 100000 in
set_option maxHeartbeats 4000000 in
theorem compareRecords_any (a b : Rec) (w : World) :
    Calls Tryd.prog 39 #[rcV a, rcV b] w fun e w' => e = .returned (.int .i64 (cmpR a b)) ∧ Below w.heap.size w w' := by
  have S0 := (((Sp.start w).alloc_box #[.string (ms a.name), .int .i64 a.sys, .int .i64 a.size, .int .i64 a.extra] 38).alloc_box #[.string (ms b.name), .int .i64 b.sys, .int .i64 b.size, .int .i64 b.extra] 38).drew
  simp only [World.size_alloc] at S0
  have c0 := S0.cell (i := 1) rfl (o := 0) rfl
  have c1 := S0.cell (i := 1) rfl (o := 1) rfl
  have d0 := S0.cell (i := 0) rfl (o := 0) rfl
  have d1 := S0.cell (i := 0) rfl (o := 1) rfl
  have hsc : ∀ w', Calls Tryd.prog 53 #[.string (ms a.name), .string (ms b.name)] w' fun e w'' => e = .returned (.int .i64 (Lib.compareBytes a.name b.name)) ∧ w'' = w' := fun w' => Tryd.strings_Compare (ms a.name) (ms b.name) w'
  obtain ⟨x, hx⟩ : ∃ x, Lib.compareBytes a.name b.name = x := ⟨_, rfl⟩
  obtain ⟨y, hy⟩ : ∃ y, Lib.compareInt a.sys b.sys = y := ⟨_, rfl⟩
  have hR : Hid (orN x y = cmpR a b) := by unfold Hid cmpR; rw [hx, hy]
  have hcc : ∀ w', Calls Tryd.prog 54 #[.int .i64 a.sys, .int .i64 b.sys] w' fun e w'' => e = .returned (.int .i64 y) ∧ w'' = w' := fun w' => by
    have := Tryd.cmp_Compare_int a.sys b.sys w'
    rw [hy] at this
    exact this
  rw [hx] at hsc
  replace hsc := Lib.hid hsc
  replace hcc := Lib.hid hcc
  replace S0 := Lib.hid S0
  clear hx hy
  go_enter Tryd.func39, Tryd.ntmps39
  go_wp2_with fail
  refine wp_region_held_lit (S := (fun w' => w'.cell? ⟨w.heap.size, 0, none⟩ = some (.string (ms a.name)) ∧ w'.cell? ⟨w.heap.size, 1, none⟩ = some (.int .i64 a.sys) ∧ w'.cell? ⟨w.heap.size + 1, 0, none⟩ = some (.string (ms b.name)) ∧ w'.cell? ⟨w.heap.size + 1, 1, none⟩ = some (.int .i64 b.sys))) 13 [false, false, false, false, false, false, false, false, false, false, false, false, false] (by kernel_rfl) (by kernel_rfl) (by kernel_rfl) ?_ ?_
  · exact ⟨c0, c1, d0, d1⟩
  intro hSc
  (refine wpAnyH_take (i := 0) (v := ?_) rfl (by kernel_rfl) (by kernel_rfl) (by kernel_rfl) (fun _ _ _ h => h) (Or.inl ⟨by rfl, ?_⟩) (by assumption) ?_; rotate_left; (focus (intro w hSw; (try dsimp only at hSw); go_simp; (try with_reducible rfl); done)); (try simp only [put_rules]))
  (refine wpAnyH_take (i := 1) (v := ?_) rfl (by kernel_rfl) (by kernel_rfl) (by kernel_rfl) (fun _ _ _ h => h) (Or.inl ⟨by rfl, ?_⟩) (by assumption) ?_; rotate_left; (focus (intro w hSw; (try dsimp only at hSw); go_simp; (try with_reducible rfl); done)); (try simp only [put_rules]))
  (refine wpAnyH_take (i := 2) (v := ?_) rfl (by kernel_rfl) (by kernel_rfl) (by kernel_rfl) (fun _ _ _ h => h) (Or.inl ⟨by rfl, ?_⟩) (by assumption) ?_; rotate_left; (focus (intro w hSw; (try dsimp only at hSw); go_simp; (try with_reducible rfl); done)); (try simp only [put_rules]))
  (refine wpAnyH_take (i := 3) (v := ?_) rfl (by kernel_rfl) (by kernel_rfl) (by kernel_rfl) (fun _ _ _ h => h) (Or.inl ⟨by rfl, ?_⟩) (by assumption) ?_; rotate_left; (focus (intro w hSw; (try dsimp only at hSw); go_simp; (try with_reducible rfl); done)); (try simp only [put_rules]))
  (refine wpAnyH_take (i := 5) (v := ?_) rfl (by kernel_rfl) (by kernel_rfl) (by kernel_rfl) (fun _ _ _ h => h) (Or.inl ⟨by rfl, ?_⟩) (by assumption) ?_; rotate_left; (focus (intro w hSw; (try dsimp only at hSw); go_simp; (try with_reducible rfl); done)); (try simp only [put_rules]))
  (refine wpAnyH_take (i := 6) (v := ?_) rfl (by kernel_rfl) (by kernel_rfl) (by kernel_rfl) (fun _ _ _ h => h) (Or.inl ⟨by rfl, ?_⟩) (by assumption) ?_; rotate_left; (focus (intro w hSw; (try dsimp only at hSw); go_simp; (try with_reducible rfl); done)); (try simp only [put_rules]))
  (refine wpAnyH_take (i := 7) (v := ?_) rfl (by kernel_rfl) (by kernel_rfl) (by kernel_rfl) (fun _ _ _ h => h) (Or.inl ⟨by rfl, ?_⟩) (by assumption) ?_; rotate_left; (focus (intro w hSw; (try dsimp only at hSw); go_simp; (try with_reducible rfl); done)); (try simp only [put_rules]))
  (refine wpAnyH_take (i := 8) (v := ?_) rfl (by kernel_rfl) (by kernel_rfl) (by kernel_rfl) (fun _ _ _ h => h) (Or.inl ⟨by rfl, ?_⟩) (by assumption) ?_; rotate_left; (focus (intro w hSw; (try dsimp only at hSw); go_simp; (try with_reducible rfl); done)); (try simp only [put_rules]))
  (refine wpAnyH_ready (rs := [4]) (by kernel_rfl) (by simp) ?_; refine AllReadyH.cons rfl (fun K hK => ?_) AllReadyH.nil)
  go_simp
  go_at_call 53
  refine (hsc.out _).mono ?_
  rintro e w1 ⟨rfl, rfl⟩
  go_wp2_with fail
  refine hK.out _ _ ⟨c0, c1, d0, d1⟩ (fun hSd => ?_)
  clear hK hSd
  (try simp only [put_rules])
  (refine wpAnyH_ready (rs := [9]) (by kernel_rfl) (by simp) ?_; refine AllReadyH.cons rfl (fun K hK => ?_) AllReadyH.nil)
  go_simp
  go_at_call 54
  refine (hcc.out _).mono ?_
  rintro e w1 ⟨rfl, rfl⟩
  go_wp2_with fail
  refine hK.out _ _ ⟨c0, c1, d0, d1⟩ (fun hSd => ?_)
  clear hK hSd
  (try simp only [put_rules])
  (refine wpAnyH_ready (rs := [10]) (by kernel_rfl) (by simp) ?_; refine AllReadyH.cons rfl (fun K hK => ?_) AllReadyH.nil)
  go_simp
  have S1 := S0.out.alloc_box #[.int .i64 x, .int .i64 y] 3
  simp only [drew_size, World.size_alloc] at S1
  have k0 := S1.cell (i := 0) rfl (o := 0) rfl
  have k1 := S1.cell (i := 0) rfl (o := 1) rfl
  have e0 := S1.cell (i := 2) rfl (o := 0) rfl
  have e1 := S1.cell (i := 2) rfl (o := 1) rfl
  have e2 := S1.cell (i := 1) rfl (o := 0) rfl
  have e3 := S1.cell (i := 1) rfl (o := 1) rfl
  have hB := S1.below
  clear S1
  refine hK.out _ _ ⟨e0, e1, e2, e3⟩ (fun hSd => ?_)
  clear hK hSd
  (try simp only [put_rules])
  (refine wpAnyH_ready (rs := [11]) (by kernel_rfl) (by simp) ?_; refine AllReadyH.cons rfl (fun K hK => ?_) AllReadyH.nil)
  go_simp
  go_at_call 52
  refine (cmpOr_any _ x y _ k0 k1).mono ?_
  rintro e w2 ⟨rfl, rfl⟩
  go_wp2_with fail
  refine hK.out _ _ ⟨e0, e1, e2, e3⟩ (fun hSd => ?_)
  clear hK
  (try simp only [put_rules])
  (refine wpAnyH_take (i := 12) (v := ?_) rfl (by kernel_rfl) (by kernel_rfl) (by kernel_rfl) (fun _ _ _ h => h) (Or.inl ⟨by rfl, ?_⟩) (by assumption) ?_; rotate_left; (focus (intro w hSw; (try dsimp only at hSw); go_simp; (try with_reducible rfl); done)); (try simp only [put_rules]))
  (refine wpAnyH_done (by kernel_rfl) ?_ _)
  go_wp2_with fail
  go_ret
  exact ⟨ret_int hR.out, hB⟩
end Go.Proofs.YtahbepajeplcmaaDoor

/- Contracts: whether a list is a book. Printed by gen_book.py. -/
namespace Go.Proofs.YtahbepajeplcmaaDoor
open Go.RowKit

theorem book_no {xs : List Rec} {k : Nat} (hk : k < xs.length) (h : bkOk xs k = false) : bookB xs = false := by
  unfold bookB
  rw [bkOkTo_le (k := k + 1) (by omega) (by rw [bkOkTo_succ, h, Bool.and_false]), Bool.false_and]
theorem rec_no {xs : List Rec} {k : Nat} (hk : k < xs.length) (h : recB xs[k] = false) : bookB xs = false := by
  refine book_no hk ?_
  cases k with
  | zero => rw [bkOk_zero xs hk]; exact h
  | succ k => rw [bkOk_succ xs k hk, h, Bool.false_and]
theorem ok_next {xs : List Rec} {k : Nat} (h : bkOkTo xs k = true) (h2 : bkOk xs k = true) : bkOkTo xs (k + 1) = true := by rw [bkOkTo_succ, h, h2]; rfl
theorem l31Name_at {l : List UInt8} {q : Bool} (h : nameB l = q) (w : World) (hs : l.length ≤ 9223372036854775807) :
    Calls Tryd.prog 32 #[.string (ms l)] w fun e w' => e = .returned (.bool q) ∧ w = w' := h ▸ l31Name_any (ms l) w hs
theorem nameOk_at {l : List UInt8} {q : Bool} (h : nameB l = q) (w : World) (hs : l.length ≤ 9223372036854775807) :
    Calls Tryd.prog 36 #[.string (ms l)] w fun e w' => e = .returned (.bool q) ∧ w = w' := h ▸ nameOk_any (ms l) w hs
theorem l31Before_at {r : Rec} {n : List UInt8} {s : Int} {q : Bool} (h : (Op.bytesLess r.name n || ((r.name == n) && decide (r.sys < s))) = q) (w : World) :
    Calls Tryd.prog 35 #[rcV r, .string (ms n), .int .i64 s] w fun e w' => e = .returned (.bool q) ∧ Below w.heap.size w w' := h ▸ l31Before_any r n s w

set_option maxRecDepth 100000 in
set_option maxHeartbeats 8000000 in
theorem l31Good_any (v : Value) (xs : List Rec) (F : List Nat) (w : World) (hx : rcTy.row false w v xs F) :
    Calls Tryd.prog 15 #[v] w fun e w' => e = .returned (.bool (bookB xs)) ∧ Below w.heap.size w w' := by
  obtain ⟨a, c, rfl, hx1, hx2, hg, hx3⟩ := row_rc hx
  clear hx
  by_cases h24 : (24 : Int) < xs.length
  · have hR : Hid (bookB xs = false) := by unfold Hid bookB; rw [decide_eq_false (show ¬ xs.length ≤ 24 by omega), Bool.and_false]
    go_enter Tryd.func15, Tryd.ntmps15
    go_wp2_with fail
    go_ret
    exact ⟨ret_bool hR.out.symm, bb _⟩
  go_enter Tryd.func15, Tryd.ntmps15
  go_wp2_with fail
  go_loopw [3] (fun i wr => ∃ k : Nat, k ≤ xs.length ∧ i = .int .i64 k ∧ Hid (bkOkTo xs k = true) ∧ Hid (Below w.heap.size w wr)) (fun i _ => xs.length - (intOf i).toNat)
  case atStart => exact ⟨0, Nat.zero_le _, rfl, rfl, bb _⟩
  case round =>
    obtain ⟨k, hk, rfl, HD, HB⟩ := hrel
    by_cases hlt : k < xs.length
    · rcases hx3 with ⟨rfl, rfl⟩ | ⟨hxn, b, off, rfl, rfl, hxc⟩
      · exact absurd hlt (by simp)
      obtain ⟨p0, p1, p2, p3⟩ := hxc k hlt
      have hp := HB.out.block b p0.lt
      have k0 := (p0.keep hp).1
      have k1 := (p1.keep hp).1
      have k2 := (p2.keep hp).1
      have k3 := (p3.keep hp).1
      have hno := Lib.hid (fun h => rec_no (xs := xs) hlt h)
      have hok := hg _ (List.getElem_mem hlt)
      have hnl := hok.1
      have S1 := (Sp.of_below HB.out).alloc_box #[.string (ms xs[k].name), .int .i64 xs[k].sys, .int .i64 xs[k].size, .int .i64 xs[k].extra] 38
      have b0 := S1.cell (i := 0) rfl (o := 0) rfl
      have b1 := S1.cell (i := 0) rfl (o := 1) rfl
      have b2 := S1.cell (i := 0) rfl (o := 2) rfl
      have b3 := S1.cell (i := 0) rfl (o := 3) rfl
      replace S1 := Lib.hid S1
      cases hn : nameB xs[k].name
      · have hR : Hid (bookB xs = false) := hno.out (by unfold recB; rw [hn]; simp)
        have hB := S1.out.below
        clear hno HD HB hxc p0 p1 p2 p3 b0 b1 b2 b3 S1
        go_wp2_with (first | (go_at_call 32; refine (l31Name_at hn _ hnl).mono ?_; rintro e w2 ⟨rfl, rfl⟩) | (go_at_call 33; refine (l31System_any _ _).mono ?_; rintro e w2 ⟨rfl, rfl⟩) | (go_at_call 34; refine (l1In_any _ _ _ _).mono ?_; rintro e w2 ⟨rfl, rfl⟩))
        go_ret
        exact ⟨ret_bool hR.out.symm, hB⟩
      cases hs : inB xs[k].sys 1 4
      · have hR : Hid (bookB xs = false) := hno.out (by unfold recB; rw [hn, hs]; simp)
        have hB := S1.out.below
        clear hno HD HB hxc p0 p1 p2 p3 b0 b1 b2 b3 S1
        go_wp2_with (first | (go_at_call 32; refine (l31Name_at hn _ hnl).mono ?_; rintro e w2 ⟨rfl, rfl⟩) | (go_at_call 33; refine (l31System_any _ _).mono ?_; rintro e w2 ⟨rfl, rfl⟩) | (go_at_call 34; refine (l1In_any _ _ _ _).mono ?_; rintro e w2 ⟨rfl, rfl⟩))
        go_ret
        exact ⟨ret_bool hR.out.symm, hB⟩
      cases hz : inB xs[k].size 1 9999
      · have hR : Hid (bookB xs = false) := hno.out (by unfold recB; rw [hn, hs, hz]; simp)
        have hB := S1.out.below
        clear hno HD HB hxc p0 p1 p2 p3 b0 b1 b2 b3 S1
        go_wp2_with (first | (go_at_call 32; refine (l31Name_at hn _ hnl).mono ?_; rintro e w2 ⟨rfl, rfl⟩) | (go_at_call 33; refine (l31System_any _ _).mono ?_; rintro e w2 ⟨rfl, rfl⟩) | (go_at_call 34; refine (l1In_any _ _ _ _).mono ?_; rintro e w2 ⟨rfl, rfl⟩))
        go_ret
        exact ⟨ret_bool hR.out.symm, hB⟩
      cases he : inB xs[k].extra 0 9999
      · have hR : Hid (bookB xs = false) := hno.out (by unfold recB; rw [hn, hs, hz, he]; simp)
        have hB := S1.out.below
        clear hno HD HB hxc p0 p1 p2 p3 b0 b1 b2 b3 S1
        go_wp2_with (first | (go_at_call 32; refine (l31Name_at hn _ hnl).mono ?_; rintro e w2 ⟨rfl, rfl⟩) | (go_at_call 33; refine (l31System_any _ _).mono ?_; rintro e w2 ⟨rfl, rfl⟩) | (go_at_call 34; refine (l1In_any _ _ _ _).mono ?_; rintro e w2 ⟨rfl, rfl⟩))
        go_ret
        exact ⟨ret_bool hR.out.symm, hB⟩
      have hrec : recB xs[k] = true := by unfold recB; rw [hn, hs, hz, he]; rfl
      rcases k with _ | k
      · have HD2 := Lib.hid (ok_next HD.out (by rw [bkOk_zero xs hlt]; exact hrec))
        clear hno HD HB hxc p0 p1 p2 p3 hrec hok
        simp only [Nat.zero_mul, Nat.add_zero] at k0 k1 k2 k3
        go_wp2_with (first | (go_at_call 32; refine (l31Name_at hn _ hnl).mono ?_; rintro e w2 ⟨rfl, rfl⟩) | (go_at_call 33; refine (l31System_any _ _).mono ?_; rintro e w2 ⟨rfl, rfl⟩) | (go_at_call 34; refine (l1In_any _ _ _ _).mono ?_; rintro e w2 ⟨rfl, rfl⟩))
        refine wp_region_quiet_below (by kernel_rfl) (by kernel_rfl) ?_
        repeat (any_goals (go_big_quiet_step (fail)))
        refine wpQuiet_nil ?_
        rintro w3 ⟨p, rfl⟩
        have HB2 := Lib.hid (S1.out.grow (below_regrown _ p.d p.os)).below
        clear S1 b0 b1 b2 b3
        go_wp2_with fail
        go_roundw
        case rel => exact ⟨1, by omega, by go_num, HD2, HB2⟩
        case measure => simp [intOf]; omega
      · obtain ⟨q0, q1, q2, q3⟩ := hxc k (by omega)
        have hl1 : k < xs.length := by omega
        have m0 := cell_regrown (((q0.keep hp).keep (show (World.alloc _ (.cells #[.string (ms xs[k + 1].name), .int .i64 xs[k + 1].sys, .int .i64 xs[k + 1].size, .int .i64 xs[k + 1].extra] 38)).heap[b]? = _ from (bal (bb _) _).block b (Nat.lt_of_lt_of_le q0.lt HB.out.size))).1)
        have r0 := cell_regrown b0
        have m1 := cell_regrown (((q1.keep hp).keep (show (World.alloc _ (.cells #[.string (ms xs[k + 1].name), .int .i64 xs[k + 1].sys, .int .i64 xs[k + 1].size, .int .i64 xs[k + 1].extra] 38)).heap[b]? = _ from (bal (bb _) _).block b (Nat.lt_of_lt_of_le q1.lt HB.out.size))).1)
        have r1 := cell_regrown b1
        have m2 := cell_regrown (((q2.keep hp).keep (show (World.alloc _ (.cells #[.string (ms xs[k + 1].name), .int .i64 xs[k + 1].sys, .int .i64 xs[k + 1].size, .int .i64 xs[k + 1].extra] 38)).heap[b]? = _ from (bal (bb _) _).block b (Nat.lt_of_lt_of_le q2.lt HB.out.size))).1)
        have r2 := cell_regrown b2
        have m3 := cell_regrown (((q3.keep hp).keep (show (World.alloc _ (.cells #[.string (ms xs[k + 1].name), .int .i64 xs[k + 1].sys, .int .i64 xs[k + 1].size, .int .i64 xs[k + 1].extra] 38)).heap[b]? = _ from (bal (bb _) _).block b (Nat.lt_of_lt_of_le q3.lt HB.out.size))).1)
        have r3 := cell_regrown b3
        have hsub : IntKind.i64.wrap (((k + 1 : Nat) : Int) - 1) = (k : Int) := by rw [IntWalk.i64_in _ (by omega)]; omega
        cases hq : beforeB xs[k] xs[k + 1]
        · skip
          have hR : Hid (bookB xs = false) := book_no hlt (by rw [bkOk_succ xs k hlt, hq, Bool.and_false])
          have hcall := Lib.hid (fun w => l31Before_at (r := xs[k]) (n := xs[k + 1].name) (s := xs[k + 1].sys) hq w)
          clear hno HD HB hxc p0 p1 p2 p3 q0 q1 q2 q3 hrec hok hp hq
          go_wp2_with (first | (go_at_call 32; refine (l31Name_at hn _ hnl).mono ?_; rintro e w2 ⟨rfl, rfl⟩) | (go_at_call 33; refine (l31System_any _ _).mono ?_; rintro e w2 ⟨rfl, rfl⟩) | (go_at_call 34; refine (l1In_any _ _ _ _).mono ?_; rintro e w2 ⟨rfl, rfl⟩))
          refine wp_region_quiet_below (by kernel_rfl) (by kernel_rfl) ?_
          repeat (any_goals (first | go_big_quiet_step ((go_at_call 35; exact Calls.regrown_of (hcall.out _)))))
          refine wpQuiet_nil ?_
          rintro w3 ⟨p, rfl⟩
          have HB2 := Lib.hid (S1.out.grow (below_regrown _ p.d p.os)).below
          clear S1 b0 b1 b2 b3 m0 m1 m2 m3 r0 r1 r2 r3
          go_wp2_with fail
          go_ret
          exact ⟨ret_bool hR.out.symm, HB2.out⟩
        · skip
          have HD2 := Lib.hid (ok_next HD.out (by rw [bkOk_succ xs k hlt, hrec, hq]; rfl))
          have hcall := Lib.hid (fun w => l31Before_at (r := xs[k]) (n := xs[k + 1].name) (s := xs[k + 1].sys) hq w)
          clear hno HD HB hxc p0 p1 p2 p3 q0 q1 q2 q3 hrec hok hp hq
          go_wp2_with (first | (go_at_call 32; refine (l31Name_at hn _ hnl).mono ?_; rintro e w2 ⟨rfl, rfl⟩) | (go_at_call 33; refine (l31System_any _ _).mono ?_; rintro e w2 ⟨rfl, rfl⟩) | (go_at_call 34; refine (l1In_any _ _ _ _).mono ?_; rintro e w2 ⟨rfl, rfl⟩))
          refine wp_region_quiet_below (by kernel_rfl) (by kernel_rfl) ?_
          repeat (any_goals (first | go_big_quiet_step ((go_at_call 35; exact Calls.regrown_of (hcall.out _)))))
          refine wpQuiet_nil ?_
          rintro w3 ⟨p, rfl⟩
          have HB2 := Lib.hid (S1.out.grow (below_regrown _ p.d p.os)).below
          clear S1 b0 b1 b2 b3 m0 m1 m2 m3 r0 r1 r2 r3
          go_wp2_with fail
          go_roundw
          case rel => exact ⟨k + 2, by omega, by go_num, HD2, HB2⟩
          case measure => simp [intOf]; omega
    · obtain rfl : k = xs.length := by omega
      have hR : Hid (bookB xs = true) := by unfold Hid bookB; rw [HD.out, decide_eq_true (show xs.length ≤ 24 by omega)]; rfl
      clear HD
      go_wp2_with fail
      go_ret
      exact ⟨ret_bool hR.out.symm, HB.out⟩

set_option maxRecDepth 100000 in
set_option maxHeartbeats 8000000 in
theorem isBook_any (v : Value) (xs : List Rec) (F : List Nat) (w : World) (hx : rcTy.row false w v xs F) :
    Calls Tryd.prog 18 #[v] w fun e w' => e = .returned (.bool (bookB xs)) ∧ Below w.heap.size w w' := by
  obtain ⟨a, c, rfl, hx1, hx2, hg, hx3⟩ := row_rc hx
  clear hx
  go_enter Tryd.func18, Tryd.ntmps18
  go_wp2_with fail
  go_loopw [7] (fun i wr => ∃ k : Nat, k ≤ xs.length ∧ i = .int .i64 k ∧ Hid (bkOkTo xs k = true) ∧ Hid (Below w.heap.size w wr)) (fun i _ => xs.length - (intOf i).toNat)
  case atStart => exact ⟨0, Nat.zero_le _, rfl, rfl, bb _⟩
  case round =>
    obtain ⟨k, hk, rfl, HD, HB⟩ := hrel
    by_cases hlt : k < xs.length
    · rcases hx3 with ⟨rfl, rfl⟩ | ⟨hxn, b, off, rfl, rfl, hxc⟩
      · exact absurd hlt (by simp)
      obtain ⟨p0, p1, p2, p3⟩ := hxc k hlt
      have hp := HB.out.block b p0.lt
      have k0 := (p0.keep hp).1
      have k1 := (p1.keep hp).1
      have k2 := (p2.keep hp).1
      have k3 := (p3.keep hp).1
      have hno := Lib.hid (fun h => rec_no (xs := xs) hlt h)
      have hok := hg _ (List.getElem_mem hlt)
      have hnl := hok.1
      have S1 := (Sp.of_below HB.out).alloc_box #[.string (ms xs[k].name), .int .i64 xs[k].sys, .int .i64 xs[k].size, .int .i64 xs[k].extra] 38
      have b0 := S1.cell (i := 0) rfl (o := 0) rfl
      have b1 := S1.cell (i := 0) rfl (o := 1) rfl
      have b2 := S1.cell (i := 0) rfl (o := 2) rfl
      have b3 := S1.cell (i := 0) rfl (o := 3) rfl
      replace S1 := Lib.hid S1
      cases hn : nameB xs[k].name
      · have hR : Hid (bookB xs = false) := hno.out (by unfold recB; rw [hn]; simp)
        have hB := S1.out.below
        clear hno HD HB hxc p0 p1 p2 p3 b0 b1 b2 b3 S1
        go_wp2_with (first | (go_at_call 36; refine (nameOk_at hn _ hnl).mono ?_; rintro e w2 ⟨rfl, rfl⟩) | (go_at_call 37; refine (systemOk_any _ _).mono ?_; rintro e w2 ⟨rfl, rfl⟩) | (go_at_call 38; refine (within_any _ _ _ _).mono ?_; rintro e w2 ⟨rfl, rfl⟩))
        go_ret
        exact ⟨ret_bool hR.out.symm, hB⟩
      cases hs : inB xs[k].sys 1 4
      · have hR : Hid (bookB xs = false) := hno.out (by unfold recB; rw [hn, hs]; simp)
        have hB := S1.out.below
        clear hno HD HB hxc p0 p1 p2 p3 b0 b1 b2 b3 S1
        go_wp2_with (first | (go_at_call 36; refine (nameOk_at hn _ hnl).mono ?_; rintro e w2 ⟨rfl, rfl⟩) | (go_at_call 37; refine (systemOk_any _ _).mono ?_; rintro e w2 ⟨rfl, rfl⟩) | (go_at_call 38; refine (within_any _ _ _ _).mono ?_; rintro e w2 ⟨rfl, rfl⟩))
        go_ret
        exact ⟨ret_bool hR.out.symm, hB⟩
      cases hz : inB xs[k].size 1 9999
      · have hR : Hid (bookB xs = false) := hno.out (by unfold recB; rw [hn, hs, hz]; simp)
        have hB := S1.out.below
        clear hno HD HB hxc p0 p1 p2 p3 b0 b1 b2 b3 S1
        go_wp2_with (first | (go_at_call 36; refine (nameOk_at hn _ hnl).mono ?_; rintro e w2 ⟨rfl, rfl⟩) | (go_at_call 37; refine (systemOk_any _ _).mono ?_; rintro e w2 ⟨rfl, rfl⟩) | (go_at_call 38; refine (within_any _ _ _ _).mono ?_; rintro e w2 ⟨rfl, rfl⟩))
        go_ret
        exact ⟨ret_bool hR.out.symm, hB⟩
      cases he : inB xs[k].extra 0 9999
      · have hR : Hid (bookB xs = false) := hno.out (by unfold recB; rw [hn, hs, hz, he]; simp)
        have hB := S1.out.below
        clear hno HD HB hxc p0 p1 p2 p3 b0 b1 b2 b3 S1
        go_wp2_with (first | (go_at_call 36; refine (nameOk_at hn _ hnl).mono ?_; rintro e w2 ⟨rfl, rfl⟩) | (go_at_call 37; refine (systemOk_any _ _).mono ?_; rintro e w2 ⟨rfl, rfl⟩) | (go_at_call 38; refine (within_any _ _ _ _).mono ?_; rintro e w2 ⟨rfl, rfl⟩))
        go_ret
        exact ⟨ret_bool hR.out.symm, hB⟩
      have hrec : recB xs[k] = true := by unfold recB; rw [hn, hs, hz, he]; rfl
      rcases k with _ | k
      · have HD2 := Lib.hid (ok_next HD.out (by rw [bkOk_zero xs hlt]; exact hrec))
        clear hno HD HB hxc p0 p1 p2 p3 hrec hok
        simp only [Nat.zero_mul, Nat.add_zero] at k0 k1 k2 k3
        go_wp2_with (first | (go_at_call 36; refine (nameOk_at hn _ hnl).mono ?_; rintro e w2 ⟨rfl, rfl⟩) | (go_at_call 37; refine (systemOk_any _ _).mono ?_; rintro e w2 ⟨rfl, rfl⟩) | (go_at_call 38; refine (within_any _ _ _ _).mono ?_; rintro e w2 ⟨rfl, rfl⟩))
        refine wp_region_quiet_below (by kernel_rfl) (by kernel_rfl) ?_
        repeat (any_goals (go_big_quiet_step (fail)))
        refine wpQuiet_nil ?_
        rintro w3 ⟨p, rfl⟩
        have HB2 := Lib.hid (S1.out.grow (below_regrown _ p.d p.os)).below
        clear S1 b0 b1 b2 b3
        go_wp2_with fail
        go_roundw
        case rel => exact ⟨1, by omega, by go_num, HD2, HB2⟩
        case measure => simp [intOf]; omega
      · obtain ⟨q0, q1, q2, q3⟩ := hxc k (by omega)
        have hl1 : k < xs.length := by omega
        have m0 := cell_regrown (((q0.keep hp).keep (show (World.alloc _ (.cells #[.string (ms xs[k + 1].name), .int .i64 xs[k + 1].sys, .int .i64 xs[k + 1].size, .int .i64 xs[k + 1].extra] 38)).heap[b]? = _ from (bal (bb _) _).block b (Nat.lt_of_lt_of_le q0.lt HB.out.size))).1)
        have r0 := cell_regrown b0
        have m1 := cell_regrown (((q1.keep hp).keep (show (World.alloc _ (.cells #[.string (ms xs[k + 1].name), .int .i64 xs[k + 1].sys, .int .i64 xs[k + 1].size, .int .i64 xs[k + 1].extra] 38)).heap[b]? = _ from (bal (bb _) _).block b (Nat.lt_of_lt_of_le q1.lt HB.out.size))).1)
        have r1 := cell_regrown b1
        have m2 := cell_regrown (((q2.keep hp).keep (show (World.alloc _ (.cells #[.string (ms xs[k + 1].name), .int .i64 xs[k + 1].sys, .int .i64 xs[k + 1].size, .int .i64 xs[k + 1].extra] 38)).heap[b]? = _ from (bal (bb _) _).block b (Nat.lt_of_lt_of_le q2.lt HB.out.size))).1)
        have r2 := cell_regrown b2
        have m3 := cell_regrown (((q3.keep hp).keep (show (World.alloc _ (.cells #[.string (ms xs[k + 1].name), .int .i64 xs[k + 1].sys, .int .i64 xs[k + 1].size, .int .i64 xs[k + 1].extra] 38)).heap[b]? = _ from (bal (bb _) _).block b (Nat.lt_of_lt_of_le q3.lt HB.out.size))).1)
        have r3 := cell_regrown b3
        have hsub : IntKind.i64.wrap (((k + 1 : Nat) : Int) - 1) = (k : Int) := by rw [IntWalk.i64_in _ (by omega)]; omega
        cases hq : beforeB xs[k] xs[k + 1]
        · skip
          have hR : Hid (bookB xs = false) := book_no hlt (by rw [bkOk_succ xs k hlt, hq, Bool.and_false])
          have hz0 : 0 ≤ cmpR xs[k] xs[k + 1] := (cmpR_neg _ _).2 hq
          have hcall := Lib.hid (fun w => compareRecords_any xs[k] xs[k + 1] w)
          generalize cmpR xs[k] xs[k + 1] = z at hz0 hcall
          clear hno HD HB hxc p0 p1 p2 p3 q0 q1 q2 q3 hrec hok hp hq
          go_wp2_with (first | (go_at_call 36; refine (nameOk_at hn _ hnl).mono ?_; rintro e w2 ⟨rfl, rfl⟩) | (go_at_call 37; refine (systemOk_any _ _).mono ?_; rintro e w2 ⟨rfl, rfl⟩) | (go_at_call 38; refine (within_any _ _ _ _).mono ?_; rintro e w2 ⟨rfl, rfl⟩))
          refine wp_region_quiet_below (by kernel_rfl) (by kernel_rfl) ?_
          repeat (any_goals (first | go_big_quiet_step ((go_at_call 39; exact Calls.regrown_of (hcall.out _)))))
          refine wpQuiet_nil ?_
          rintro w3 ⟨p, rfl⟩
          have HB2 := Lib.hid (S1.out.grow (below_regrown _ p.d p.os)).below
          clear S1 b0 b1 b2 b3 m0 m1 m2 m3 r0 r1 r2 r3
          go_wp2_with fail
          go_ret
          exact ⟨ret_bool hR.out.symm, HB2.out⟩
        · skip
          have HD2 := Lib.hid (ok_next HD.out (by rw [bkOk_succ xs k hlt, hrec, hq]; rfl))
          have hz0 : ¬ 0 ≤ cmpR xs[k] xs[k + 1] := fun h => by rw [(cmpR_neg _ _).1 h] at hq; cases hq
          have hcall := Lib.hid (fun w => compareRecords_any xs[k] xs[k + 1] w)
          generalize cmpR xs[k] xs[k + 1] = z at hz0 hcall
          clear hno HD HB hxc p0 p1 p2 p3 q0 q1 q2 q3 hrec hok hp hq
          go_wp2_with (first | (go_at_call 36; refine (nameOk_at hn _ hnl).mono ?_; rintro e w2 ⟨rfl, rfl⟩) | (go_at_call 37; refine (systemOk_any _ _).mono ?_; rintro e w2 ⟨rfl, rfl⟩) | (go_at_call 38; refine (within_any _ _ _ _).mono ?_; rintro e w2 ⟨rfl, rfl⟩))
          refine wp_region_quiet_below (by kernel_rfl) (by kernel_rfl) ?_
          repeat (any_goals (first | go_big_quiet_step ((go_at_call 39; exact Calls.regrown_of (hcall.out _)))))
          refine wpQuiet_nil ?_
          rintro w3 ⟨p, rfl⟩
          have HB2 := Lib.hid (S1.out.grow (below_regrown _ p.d p.os)).below
          clear S1 b0 b1 b2 b3 m0 m1 m2 m3 r0 r1 r2 r3
          go_wp2_with fail
          go_roundw
          case rel => exact ⟨k + 2, by omega, by go_num, HD2, HB2⟩
          case measure => simp [intOf]; omega
    · obtain rfl : k = xs.length := by omega
      have hR : Hid (bookB xs = decide ((xs.length : Int) ≤ 24)) := by unfold Hid bookB; rw [HD.out, Bool.true_and, decide_eq_decide]; omega
      clear HD
      go_wp2_with fail
      go_ret
      exact ⟨ret_bool hR.out.symm, HB.out⟩
end Go.Proofs.YtahbepajeplcmaaDoor

/- Contracts: the text of a book, in the reference. -/
namespace Go.Proofs.YtahbepajeplcmaaDoor
open Go.RowKit

theorem bookGood_at {v : Value} {xs : List Rec} {F : List Nat} {w : World} {q : Bool} (hx : rcTy.row false w v xs F) (h : bookB xs = q) :
    Calls Tryd.prog 15 #[v] w fun e w' => e = .returned (.bool q) ∧ Below w.heap.size w w' := h ▸ l31Good_any v xs F w hx
theorem bookIs_at {v : Value} {xs : List Rec} {F : List Nat} {w : World} {q : Bool} (hx : rcTy.row false w v xs F) (h : bookB xs = q) :
    Calls Tryd.prog 18 #[v] w fun e w' => e = .returned (.bool q) ∧ Below w.heap.size w w' := h ▸ isBook_any v xs F w hx
theorem l1Num_at (n : Int) (h : 0 ≤ n ∧ n ≤ 9999) (w : World) :
    Calls Tryd.prog 42 #[.int .i64 n] w fun e w' => e = .returned (.string (ms (Lib.itoa n))) ∧ Below w.heap.size w w' := l1Num_pos n w h.1 (by omega)

set_option maxRecDepth 100000 in
set_option maxHeartbeats 4000000 in
theorem l31Text_any (v : Value) (xs : List Rec) (F : List Nat) (w : World) (hx : rcTy.row false w v xs F) (hb : bookB xs = true) :
    Calls Tryd.prog 25 #[v] w fun e w' => e = .returned (.string (ms (textB xs))) ∧ Below w.heap.size w w' := by
  obtain ⟨a, c, rfl, hx1, hx2, hg, hx3⟩ := row_rc hx
  clear hx
  go_enter Tryd.func25, Tryd.ntmps25
  go_wp2_with fail
  go_loopw [3, 4] (fun s i wr => ∃ k : Nat, k ≤ xs.length ∧ i = .int .i64 k ∧ s = .string (ms (textB (xs.take k))) ∧ Hid (Below w.heap.size w wr)) (fun _ i _ => xs.length - (intOf i).toNat)
  case atStart => exact ⟨0, Nat.zero_le _, rfl, rfl, bb _⟩
  case round =>
    obtain ⟨k, hk, rfl, rfl, HB⟩ := hrel
    by_cases hlt : k < xs.length
    · rcases hx3 with ⟨rfl, rfl⟩ | ⟨hxn, b, off, rfl, rfl, hxc⟩
      · exact absurd hlt (by simp)
      obtain ⟨p0, p1, p2, p3⟩ := hxc k hlt
      have hp := HB.out.block b p0.lt
      have k0 := (p0.keep hp).1
      have k1 := (p1.keep hp).1
      have k2 := (p2.keep hp).1
      have k3 := (p3.keep hp).1
      have hrk := book_all hb xs[k] (List.getElem_mem hlt)
      obtain ⟨⟨n0, n1⟩, _, ⟨s0, s1⟩, hz, he⟩ := rec_parts hrk
      have hl := take_len hb (Nat.le_of_lt hlt)
      have ht := Lib.hid (textB_succ hlt)
      have hlet := Lib.hid (letter s0 s1)
      have l1 := itoa_four (n := xs[k].size) (by omega) (by omega)
      have l2 := itoa_four he.1 he.2
      have S1 := (Sp.of_below HB.out).alloc_box #[.string (ms xs[k].name), .int .i64 xs[k].sys, .int .i64 xs[k].size, .int .i64 xs[k].extra] 38
      have b0 := cell_regrown (S1.cell (i := 0) rfl (o := 0) rfl)
      have b1 := cell_regrown (S1.cell (i := 0) rfl (o := 1) rfl)
      have b2 := cell_regrown (S1.cell (i := 0) rfl (o := 2) rfl)
      have b3 := cell_regrown (S1.cell (i := 0) rfl (o := 3) rfl)
      have hS := Lib.hid S1.below
      clear S1 p0 p1 p2 p3 hp hrk hb hxc hg
      obtain ⟨T, hT⟩ : ∃ T, textB (xs.take k) = T := ⟨_, rfl⟩
      rw [hT] at hl ht ⊢
      clear hT
      generalize xs[k] = r at *
      obtain ⟨nm, sy, sz, ex⟩ := r
      dsimp only at *
      go_wp2_with fail
      refine wp_region_quiet_below (by kernel_rfl) (by kernel_rfl) ?_
      repeat (any_goals (first | go_big_quiet_step ((go_at_call 42; first | (with_reducible exact Calls.regrown_of (l1Num_at sz (And.intro (by omega) (by omega)) _)) | (with_reducible exact Calls.regrown_of (l1Num_at ex he _))))))
      refine wpQuiet_nil ?_
      rintro w1 ⟨p, rfl⟩
      go_wp2_with fail
      go_roundw
      case rel =>
        refine ⟨k + 1, by omega, by go_num, ?_, hS.out.trans ((below_regrown _ _ _).mono hS.out.size)⟩
        have e1 := hlet.out
        refine congrArg Value.string ?_
        apply bl_inj
        rw [bl_ms, ht.out]
        simp [bl_append, bl_ms, bl_lit, recT]
        rw [show sy.toNat - 1 = (sy - 1).toNat by omega, e1, bl_ms]
      case measure => simp [intOf]; omega
    · obtain rfl : k = xs.length := by omega
      go_wp2_with fail
      go_ret
      exact ⟨ret_str (by rw [List.take_length]), HB.out⟩

/- left out: the seat has no spec.BookText -/
end Go.Proofs.YtahbepajeplcmaaDoor

/- A region that draws its order: operations that are quiet in a class of worlds, then a tail in one forced order (a store, an assignment). One walk in the order of the text serves every order. No program in sight. -/
namespace Go.Proofs.YtahbepajeplcmaaDoor
open Go.RowKit

section
variable {P : Program} {ops : Array Oper} {md : Region.Mode} {C : World → Prop}

/-- Whatever comes up is one of the first n and quiet; behind them L. -/
def headQ (P : Program) (md : Region.Mode) (ops : Array Oper) (C : World → Prop) (n : Nat) (L : Array Bool → Act → Prop) : Nat → Array Bool → Act → Prop
  | 0, s, a => L s a
  | f + 1, s, a => Region.ready md ops s ≠ [] ∧ ∀ i ∈ Region.ready md ops s, i < n ∧ qOp P ops C i (headQ P md ops C n L f (s.setIfInBounds i true)) a

theorem any_of_headQ {n g : Nat} {L : Array Bool → Act → Prop} {Q : Exit → Act → World → Prop} (hL : ∀ s a w, C w → L s a → wpAny P md ops Q g s a w) :
    ∀ (f : Nat) (s : Array Bool) (a : Act) (w : World), C w → headQ P md ops C n L f s a → wpAny P md ops Q (f + g) s a w
  | 0, s, a, w, hw, h => by rw [Nat.zero_add]; exact hL s a w hw h
  | f + 1, s, a, w, hw, h => by
    rw [show f + 1 + g = (f + g) + 1 by omega]
    exact ⟨fun e => absurd e h.1, fun i hi => wpOp_of_qOp hw (fun a' w' hw' h' => any_of_headQ hL f _ a' w' hw' h') (h.2 i hi).2⟩

theorem waits_not_listed {s : Array Bool} {i : Nat} {oj : Oper} (hall : ∀ e ∈ oj.after, Region.binds md e = true → s.getD e.on false = true) (hi : s.getD i false = false) : ∀ e ∈ oj.after, Region.binds md e = true → e.on ≠ i := by
  rintro e he hb rfl
  have := hall e he hb
  rw [hi] at this; cases this

/-- An operation that is ready, quiet, and apart from all that need not wait for it may be taken first. -/
theorem headQ_first {n i : Nat} {oi : Oper} {v : Value} {L : Array Bool → Act → Prop} (hi : ops[i]? = some oi) (hsel : ∀ (j : Nat) (o : Oper) cs b, ops[j]? = some o → o.op ≠ .select cs b)
    (hs : Region.sinkB md ops n = true) (hc : Region.chainB md ops n = true) (hn : n < ops.size) (hin : i < n) (hL : ∀ s a, L s a → ∀ j ∈ Region.ready md ops s, n ≤ j) (f : Nat) :
    ∀ (s : Array Bool) (a : Act), HeadInv md ops n s →
      (∀ j oj, ops[j]? = some oj → j ≠ i → s.getD j true = false → (∀ e ∈ oj.after, Region.binds md e = true → e.on ≠ i) → oi.apart ops oj = true) →
      i ∈ Region.ready md ops s → YieldsIn P ops C oi v a → headQ P md ops C n L f (s.setIfInBounds i true) (a.put oi.dst v) → headQ P md ops C n L (f + 1) s a := by
  induction f with
  | zero =>
    intro s a inv _ hr hy H
    refine ⟨List.ne_nil_of_mem hr, fun j hj => ?_⟩
    have hjn : j < n := Nat.lt_of_not_le fun h => tail_waits hs hc hn inv _ i rfl hin (mem_ready.1 hr).1 j h hj
    refine ⟨hjn, ?_⟩
    by_cases e : j = i
    · subst e; exact hy.qOp hi H
    · exact absurd (hL _ _ H j (ready_mono hj e)) (by omega)
  | succ f ih =>
    intro s a inv hfree hr hy H
    refine ⟨List.ne_nil_of_mem hr, fun j hj => ?_⟩
    have hjn : j < n := Nat.lt_of_not_le fun h => tail_waits hs hc hn inv _ i rfl hin (mem_ready.1 hr).1 j h hj
    refine ⟨hjn, ?_⟩
    by_cases e : j = i
    · subst e; exact hy.qOp hi H
    · obtain ⟨hjs, oj, hoj, hall⟩ := mem_ready.1 hj
      have hno := waits_not_listed hall (getD_both (mem_ready.1 hr).1)
      have h1 := qOp_put hoj (hfree j oj hoj e hjs hno) (fun cs b => hsel i oi cs b hi) (fun cs b => hsel j oj cs b hoj) hy (H.2 j (ready_mono hj e)).2
      refine qOp_mono (fun a' h2 => ih (s.setIfInBounds j true) a' (inv.set hj hjn) (fun k ok hk hki hun hw => hfree k ok hk hki ?_ hw) (ready_mono hr (Ne.symm e)) h2.1 ?_) h1
      · by_cases hjk : j = k
        · subst hjk; exact hjs
        · rw [getD_set_ne true hjk] at hun; exact hun
      · rw [Array.setIfInBounds_comm _ _ e]; exact h2.2

theorem headQ_lex {n g : Nat} {K : Act → Prop} (hsel : Region.noSelect ops = true) (hs : Region.sinkB md ops n = true) (hc : Region.chainB md ops n = true) (hn : n < ops.size) :
    ∀ (l : List Oper) (k : Nat) (s : Array Bool) (a : Act), (∀ j, j < l.length → l[j]? = ops[k + j]?) → k + l.length = n → HeadInv md ops n s →
    Region.lexHead md ops g l.length k s = true → wpQuiet P ops C K l a → headQ P md ops C n (fun s' a' => Region.seqB md ops g n s' = true ∧ K a') l.length s a
  | [], k, s, a, _, hk, _, hB, h => by
    obtain rfl : k = n := by simpa using hk
    exact ⟨by simpa [Region.lexHead] using hB, h⟩
  | o :: l, k, s, a, hl, hk, inv, hB, h => by
    have ho : ops[k]? = some o := by simpa using (hl 0 (by simp)).symm
    simp only [List.length_cons, Region.lexHead, Bool.and_eq_true] at hB hk
    obtain ⟨⟨hr, hf⟩, hB'⟩ := hB
    have hr' : k ∈ Region.ready md ops s := by simpa using hr
    have hq : qOp P ops C k (wpQuiet P ops C K l) a := by unfold qOp; simp only [ho]; exact h
    obtain ⟨v, hy, hK⟩ := yieldsIn_of_qOp ho hq
    refine headQ_first ho (Region.noSelect_spec hsel) hs hc hn (by omega) (fun s' a' hL => seqB_ready hL.1) l.length s a inv (Region.free_spec ho hf) hr' hy ?_
    refine headQ_lex hsel hs hc hn l (k + 1) _ _ (fun j hj => ?_) (by omega) (inv.set hr' (by omega)) hB' hK
    have := hl (j + 1) (by simp; omega)
    simpa [Nat.add_assoc, Nat.add_comm 1 j] using this
end

theorem wp_region_quiet_tail {P : Program} {C : World → Prop} {id : Nat} {Q : Exit → Act → World → Prop} {a : Act} {w : World} {l : List Oper} (n : Nat) (hm : P.follows .mixedOrders = true) (hB : Region.lexTailB .any l.toArray n = true) (hC : C { w with drawn := w.drawn + 1 })
    (h : wpQuiet P l.toArray C (fun a' => ∀ w', C w' → wpList P l.toArray Q (l.drop n) a' w') (l.take n) a) : (Code.region id l.toArray true).wp P Q a w := by
  simp only [Region.lexTailB, Bool.and_eq_true, decide_eq_true_eq] at hB
  obtain ⟨⟨⟨⟨hsel, hn⟩, hs⟩, hc⟩, hlex⟩ := hB
  have hn' : n < l.length := by simpa using hn
  have htl : (l.take n).length = n := by simp; omega
  have hdl : (l.drop n).length = l.toArray.size - n := by simp
  have inv0 : HeadInv .any l.toArray n (Array.replicate l.toArray.size false) :=
    ⟨by simp, fun j oj _ hl => (by rw [getD_replicate_false] at hl; cases hl), fun t _ ht => getD_in (by simpa using ht) (getD_replicate_false _ _)⟩
  have H := headQ_lex (P := P) (C := C) (md := .any) (g := l.toArray.size - n) hsel hs hc hn (l.take n) 0 _ a (fun j hj => by
    rw [htl] at hj
    simp [hj]) (by rw [htl]; omega) inv0 (by rw [htl]; exact hlex) h
  refine wp_region_any hm ?_
  have H2 := any_of_headQ (Q := Q) (g := l.toArray.size - n) (fun s a' w' hw' hL => by
    have := wpAny_of_seq (md := .any) (Q' := Q) (l.drop n) n s a' w' (fun j => by simp [List.getElem?_drop]) (by rw [hdl]; exact hL.1) (hL.2 w' hw')
    rwa [hdl] at this) _ _ _ _ hC H
  rw [htl, show n + (l.toArray.size - n) = l.toArray.size by omega] at H2
  exact H2

/-- At the class 'nothing of what was there has turned'. -/
theorem wp_region_quiet_below_tail {P : Program} {id : Nat} {Q : Exit → Act → World → Prop} {a : Act} {w : World} {l : List Oper} (n : Nat) (hm : P.follows .mixedOrders = true) (hB : Region.lexTailB .any l.toArray n = true)
    (h : wpQuiet P l.toArray (fun w' => ∃ p : Regrown, w' = Go.Sort.grow (redrawn w p.d) p.os) (fun a' => ∀ w', (∃ p : Regrown, w' = Go.Sort.grow (redrawn w p.d) p.os) → wpList P l.toArray Q (l.drop n) a' w') (l.take n) a) : (Code.region id l.toArray true).wp P Q a w :=
  wp_region_quiet_tail (C := fun w' => ∃ p : Regrown, w' = Go.Sort.grow (redrawn w p.d) p.os) n hm hB ⟨⟨w.drawn + 1, #[]⟩, by rw [Go.Sort.grow_empty]; rfl⟩ h
end Go.Proofs.YtahbepajeplcmaaDoor

/- Contracts: the text of a book, in the program. -/
namespace Go.Proofs.YtahbepajeplcmaaDoor
open Go.RowKit

/-- What the library's calls need of the world: the table of powers of ten. -/
structure EnvI (w : World) : Prop where
  pow : Lib.TabIs Tryd.prog w "internal/strconv.uint64pow10" .u64 Lib.pow10Tab
  low : 6 < w.heap.size
theorem globalPowI : Tryd.prog.globalNamed "internal/strconv.uint64pow10" = some 6 := by kernel_rfl
theorem EnvI.grow {w w' : World} (h : EnvI w) (hb : Below w.heap.size w w') : EnvI w' :=
  ⟨Joins.tab_stays globalPowI h.pow hb (Nat.le_refl _), Nat.lt_of_lt_of_le h.low hb.size⟩
theorem EnvI.below {B : Nat} {w w' : World} (h : EnvI w) (hb : Below B w w') (hB : w.heap.size ≤ B) : EnvI w' :=
  ⟨Joins.tab_stays globalPowI h.pow hb hB, Nat.lt_of_lt_of_le h.low hb.size⟩
theorem itoa_at (n : Int) (h : 0 ≤ n ∧ n ≤ 9999) (w : World) (hE : EnvI w) :
    Calls Tryd.prog 50 #[.int .i64 n] w fun e w' => e = .returned (.string (ms (Lib.itoa n))) ∧ Below w.heap.size w w' := by
  refine (Tryd.strconv_Itoa n (by omega) (by omega) w hE.pow).mono ?_
  rintro e w' ⟨rfl, k, os, rfl⟩
  exact ⟨rfl, below_regrown w (w.drewN k).drawn os⟩
/-- A builder stays where only new blocks come in. -/
theorem bld_grow {B b : Nat} {bs : List Value} {w w' : World} (h : Lib.IsBuilder 74 5 B b bs w) (hb : Below w.heap.size w w') : Lib.IsBuilder 74 5 B b bs w' := by
  have key : ∀ p, Lib.BuilderAt 74 5 B b p bs w → Lib.BuilderAt 74 5 B b p bs w' := by
    intro p h
    have hlt := h.lt
    obtain ⟨hB, v, hbk, hown, hne⟩ := h
    exact ⟨hB, v, (hb.block b hlt).trans hbk, owns_keep hown (fun g hg => hb.block g (hown.lt g hg).2), hne⟩
  rcases h with h | h
  · exact .inl (key _ h)
  · exact .inr (key _ h)
theorem bytes_append (a : List UInt8) (s : ByteArray) : Lib.byteCells a ++ Lib.strCells s = Lib.byteCells (a ++ bl s) := by
  simp [Lib.byteCells, Lib.strCells, bl]

set_option maxRecDepth 100000 in
set_option maxHeartbeats 8000000 in
theorem implBookText_any (v : Value) (xs : List Rec) (F : List Nat) (w : World) (hE : EnvI w) (hx : rcTy.row false w v xs F) :
    Calls Tryd.prog 31 #[v] w fun e w' => e = .returned (.tuple #[.string (ms (if bookB xs then textB xs else [])), .bool (bookB xs)]) ∧ Below w.heap.size w w' := by
  have hxlt := Ty.row_lt hx
  obtain ⟨a, c, hv, hx1, hx2, hg, hx3⟩ := row_rc hx
  cases hb : bookB xs
  · subst hv
    go_enter Tryd.func31, Tryd.ntmps31
    go_wp2_with (go_at_call 18; refine (bookIs_at hx hb).mono ?_; rintro e w1 ⟨rfl, hb1⟩)
    go_ret2
    exact ⟨rfl, hb1⟩
  subst hv
  go_enter Tryd.func31, Tryd.ntmps31
  go_wp2_with (go_at_call 18; refine (bookIs_at hx hb).mono ?_; rintro e w1 ⟨rfl, hb1⟩)
  clear hx
  have hst := Lib.hid (show Lib.IsBuilder 74 5 w1.heap.size w1.heap.size (Lib.byteCells (textB (xs.take 0))) (w1.alloc (.cells #[.pointer none, .slice none 0 0] 74)) from Lib.fresh_isBuilder _ _ w1)
  have hB1 := Lib.hid (show Below w1.heap.size w1 (w1.alloc (.cells #[.pointer none, .slice none 0 0] 74)) from bal (bb _) _)
  have hEH := Lib.hid (hE.grow hb1)
  go_loopw [12] (fun i wr => ∃ k : Nat, k ≤ xs.length ∧ i = .int .i64 k ∧ Hid (Below w1.heap.size w1 wr) ∧ Hid (Lib.IsBuilder 74 5 w1.heap.size w1.heap.size (Lib.byteCells (textB (xs.take k))) wr)) (fun i _ => xs.length - (intOf i).toNat)
  case atStart => exact ⟨0, Nat.zero_le _, rfl, hB1, hst⟩
  case round =>
    obtain ⟨k, hk, rfl, HB, HI⟩ := hrel
    clear hst hB1
    by_cases hlt : k < xs.length
    · rcases hx3 with ⟨rfl, rfl⟩ | ⟨hxn, b, off, rfl, rfl, hxc⟩
      · exact absurd hlt (by simp)
      obtain ⟨p0, p1, p2, p3⟩ := hxc k hlt
      have hblt : b < w.heap.size := p0.lt
      have hp : wr.heap[b]? = w.heap[b]? := (HB.out.block b (Nat.lt_of_lt_of_le hblt hb1.size)).trans (hb1.block b hblt)
      have k0 := (p0.keep hp).1
      have k1 := (p1.keep hp).1
      have k2 := (p2.keep hp).1
      have k3 := (p3.keep hp).1
      have hrk := book_all hb xs[k] (List.getElem_mem hlt)
      have hrl := recT_len hrk
      obtain ⟨⟨n0, n1⟩, _, ⟨s0, s1⟩, hz, he⟩ := rec_parts hrk
      have hl := take_len hb (Nat.le_of_lt hlt)
      have ht := Lib.hid (textB_succ hlt)
      have hlet := Lib.hid (letter s0 s1)
      have l1 := itoa_four (n := xs[k].size) (by omega) (by omega)
      have l2 := itoa_four he.1 he.2
      have S1 := (Sp.start wr).alloc_box #[.string (ms xs[k].name), .int .i64 xs[k].sys, .int .i64 xs[k].size, .int .i64 xs[k].extra] 38
      have b0 := cell_regrown (S1.cell (i := 0) rfl (o := 0) rfl)
      have b1 := cell_regrown (S1.cell (i := 0) rfl (o := 1) rfl)
      have b2 := cell_regrown (S1.cell (i := 0) rfl (o := 2) rfl)
      have b3 := cell_regrown (S1.cell (i := 0) rfl (o := 3) rfl)
      have hS := Lib.hid S1.below
      have hE2 := Lib.hid ((hEH.out.below HB.out (Nat.le_refl _)).grow S1.below)
      have hI2 := Lib.hid (bld_grow HI.out S1.below)
      clear S1 p0 p1 p2 p3 hp hrk hb hxc hg hE HI
      obtain ⟨T, hT⟩ : ∃ T, textB (xs.take k) = T := ⟨_, rfl⟩
      obtain ⟨T2, hT2⟩ : ∃ T, textB (xs.take (k + 1)) = T := ⟨_, rfl⟩
      rw [hT] at hl hI2
      rw [hT, hT2] at ht
      clear hT
      generalize xs[k] = r at *
      obtain ⟨nm, sy, sz, ex⟩ := r
      dsimp only at *
      go_wp2_with fail
      refine wp_region_quiet_below_tail 21 (by kernel_rfl) (by kernel_rfl) ?_
      simp only [List.take_succ_cons, List.take_zero, List.drop_succ_cons, List.drop_zero]
      repeat (any_goals (first | go_big_quiet_step ((go_at_call 50; first | (with_reducible exact Calls.regrown_of (itoa_at sz (And.intro (by omega) (by omega)) _ (hE2.out.grow (below_regrown _ _ _)))) | (with_reducible exact Calls.regrown_of (itoa_at ex he _ (hE2.out.grow (below_regrown _ _ _))))))))
      refine wpQuiet_nil ?_
      rintro w4 ⟨pp, hw4⟩
      have hb4 := Lib.hid (hw4 ▸ below_regrown _ _ _ : Below (wr.alloc (.cells #[.string (ms nm), .int .i64 sy, .int .i64 sz, .int .i64 ex] 38)).heap.size (wr.alloc (.cells #[.string (ms nm), .int .i64 sy, .int .i64 sz, .int .i64 ex] 38)) w4)
      clear hw4 b0 b1 b2 b3
      go_wp2_with fail
      have hsz : Hid (ms nm ++ { data := #[32] } ++ ByteArray.extract { data := #[114, 116, 108, 112] } (sy.toNat - 1) sy.toNat ++ { data := #[32] } ++ ms (Lib.itoa sz) ++ { data := #[32] } ++ ms (Lib.itoa ex) ++ { data := #[10] } = ms (recT ⟨nm, sy, sz, ex⟩)) := by
        unfold Hid
        apply bl_inj
        have e1 := hlet.out
        rw [show sy.toNat - 1 = (sy - 1).toNat by omega, e1]
        simp [bl_append, bl_ms, bl_lit, recT]
      rw [hsz.out]
      clear hsz hlet
      obtain ⟨L, hL⟩ : ∃ L, recT ⟨nm, sy, sz, ex⟩ = L := ⟨_, rfl⟩
      rw [hL] at hrl ht ⊢
      clear hL
      have hI4 := bld_grow hI2.out hb4.out
      refine (writeString_any w1.heap.size w1.heap.size _ (ms L) w4 hI4 (by rw [Lib.byteCells_length, ms_size]; omega) (by have h1 := HB.out.size; have h2 := hb4.out.size; simp at h2; omega)).mono ?_
      rintro e w5 ⟨rfl, hI5, hb5⟩
      rw [bytes_append, bl_ms, ← ht.out, ← hT2] at hI5
      have hB5 : Hid (Below w1.heap.size w1 w5) := (HB.out.trans (hS.out.mono HB.out.size)).trans ((Below.mono hb4.out (by have h1 := HB.out.size; simp; omega)).trans hb5)
      have hI6 := Lib.hid (Or.inr hI5 : Lib.IsBuilder 74 5 w1.heap.size w1.heap.size (Lib.byteCells (textB (xs.take (k + 1)))) w5)
      clear hI5 hI4 hI2 hb4 hb5 hS HB ht hT2
      go_wp2_with fail
      go_roundw
      case rel => exact ⟨k + 1, by omega, by go_num, hB5, hI6⟩
      case measure => simp [intOf]; omega
    · obtain rfl : k = xs.length := by omega
      rw [List.take_length] at HI
      clear hxlt hx3 hg hE hEH
      go_wp2_with fail
      refine (Tryd.Builder_String_any w1.heap.size w1.heap.size (textB xs) wr HI.out HB.out.size).mono ?_
      rintro e w2 ⟨rfl, hb2⟩
      go_wp2_with fail
      go_ret2
      exact ⟨rfl, (hb1.trans (HB.out.mono hb1.size)).trans (hb2.mono hb1.size)⟩
end Go.Proofs.YtahbepajeplcmaaDoor
