/- Contracts: strings split, joined and compared, in the reference and in the program. -/
import Derived.Test.YtfcekfomhpmgpaaDoorSpA
import Derived.Test.YtfcekfomhpmgpaaDoorStrE
import Derived.Test.YtfcekfomhpmgpaaDoorMemA
import Derived.Test.YtfcekfomhpmgpaaDoorShelf
namespace Go.Proofs.YtfcekfomhpmgpaaDoor
open Go.RowKit

/-- The strings that a slice holds can be read. -/
def StrsAt (w : World) (a : Option Addr) (xs : List ByteArray) : Prop := ∀ j x, xs[j]? = some x → ∃ b o, a = some ⟨b, o, none⟩ ∧ w.cell? ⟨b, o + j, none⟩ = some (.string x)
theorem StrsAt.grow {w w' : World} {a : Option Addr} {xs : List ByteArray} (h : StrsAt w a xs) (hb : Below w.heap.size w w') : StrsAt w' a xs := fun j x hj => by
  obtain ⟨b, o, e, hc⟩ := h j x hj
  exact ⟨b, o, e, (hb.cell (World.block_lt_of_cell? _ _ hc)).trans hc⟩
theorem StrsAt.view {w : World} {a : Option Addr} {xs : List ByteArray} (h : StrsAt w a xs) (hne : xs ≠ []) : ∃ b o, a = some ⟨b, o, none⟩ ∧ ∀ j (hj : j < xs.length), w.cell? ⟨b, o + j, none⟩ = some (.string xs[j]) := by
  obtain ⟨b, o, e, _⟩ := h 0 (xs[0]'(List.length_pos_iff.2 hne)) (List.getElem?_eq_getElem _)
  refine ⟨b, o, e, fun j hj => ?_⟩
  obtain ⟨b', o', e', hc⟩ := h j xs[j] (List.getElem?_eq_getElem hj)
  rw [e] at e'
  simp only [Option.some.injEq, Addr.mk.injEq] at e'
  obtain ⟨rfl, rfl, _⟩ := e'
  exact hc

/-- The library's variable MaxLen holds a number. -/
structure MaxOk (w : World) : Prop where
  maxlen : ∃ m : Int, w.cell? ⟨3, 0, none⟩ = some (.int .i64 m)
theorem MaxOk.grow {w w' : World} (h : MaxOk w) (hb : Below w.heap.size w w') : MaxOk w' := by
  obtain ⟨m, hm⟩ := h
  exact ⟨m, (hb.cell (World.block_lt_of_cell? _ _ hm)).trans hm⟩
theorem maxOk_of {w : World} (h : w.ShapedOpen Tryd.prog) : MaxOk w := ⟨Tryd.laysM144.s1_3 w h⟩

set_option maxHeartbeats 400000 in
theorem implSplit_no (s sep : ByteArray) (w : World) (hs : s.size ≤ 1000000) (_ : sep.size ≤ 1000000) (h : ¬ (s.size ≤ 4000 ∧ sep.size = 1)) :
    Calls Tryd.prog 56 #[.string s, .string sep] w fun e w' => e = .returned (.tuple #[.slice none 0 0, .bool false]) ∧ w = w' := by
  by_cases hl : (4000 : Int) < s.size
  · go_enter Tryd.func56, Tryd.ntmps56
    go_wp2_with fail
    go_ret2
    exact ⟨rfl, rfl⟩
  · have hq : ((sep.size : Int) != 1) = true := by rw [bne_iff_ne]; omega
    clear h
    go_enter Tryd.func56, Tryd.ntmps56
    go_wp2_with fail
    go_ret2
    exact ⟨rfl, rfl⟩
/-- What a split leaves: its parts in a new row. -/
def SplitsTo (w : World) (c : UInt8) (s : ByteArray) (e : Ending) (w' : World) : Prop :=
  ∃ (a : Option Addr) (xs : List ByteArray), e = .returned (.tuple #[.slice a xs.length xs.length, .bool true]) ∧ xs.map bl = splitP c.toNat (bl s) ∧ StrsAt w' a xs ∧ Below w.heap.size w w'
set_option maxHeartbeats 400000 in
theorem implSplit_yes (s : ByteArray) (c : UInt8) (w : World) (hE : MaxOk w) (hs : s.size ≤ 4000) :
    Calls Tryd.prog 56 #[.string s, .string ⟨#[c]⟩] w (SplitsTo w c s) := by
  obtain ⟨m, hm⟩ := hE.maxlen
  obtain ⟨xs, hxs⟩ : ∃ xs, Lib.splitB ⟨#[c]⟩ 0 (Lib.countB s ⟨#[c]⟩) s = xs := ⟨_, rfl⟩
  have hlen : xs.length = Lib.countB s ⟨#[c]⟩ + 1 := by rw [← hxs]; exact Lib.splitB_all ⟨#[c]⟩ (Nat.le_refl 1) 0 _ _ rfl
  have hmap : xs.map bl = splitP c.toNat (bl s) := by
    rw [← hxs]
    have h := Lib.splitB_data ⟨#[c]⟩ 0 (Lib.countB s ⟨#[c]⟩) s
    have h1 := splitK_one c (bl s).length (bl s) (Nat.le_refl _)
    exact h.trans h1
  have hC := Lib.hid ((Tryd.strings_Split s ⟨#[c]⟩ m w (by omega) hm (Nat.le_refl 1)))
  rw [hxs, ← hlen] at hC
  replace hlen := Lib.hid hlen
  replace hmap := Lib.hid hmap
  clear hm hxs
  go_enter Tryd.func56, Tryd.ntmps56
  go_wp2_with fail
  refine hC.out.mono ?_
  rintro e w1 ⟨rfl, rfl⟩
  go_wp2_with fail
  go_ret2
  refine ⟨_, xs, rfl, hmap.out, fun j x hj => ⟨_, _, rfl, ?_⟩, bal (bb _) _⟩
  rw [Nat.zero_add, cell_of_row _ _ _ _ _ _ (heap_alloc_new w _)]
  simp [hj]

set_option maxHeartbeats 400000 in
theorem implLess_any (s t : ByteArray) (w : World) : Calls Tryd.prog 61 #[.string s, .string t] w fun e w' => e = .returned (.bool (Op.bytesLess (bl s) (bl t))) ∧ w = w' := by
  go_enter Tryd.func61, Tryd.ntmps61
  go_wp2_with fail
  go_ret
  exact ⟨rfl, rfl⟩
set_option maxHeartbeats 400000 in
theorem specLess_any (s t : ByteArray) (w : World) : Calls Tryd.prog 62 #[.string s, .string t] w fun e w' => e = .returned (.bool (Op.bytesLess (bl s) (bl t))) ∧ w = w' := by
  go_enter Tryd.func62, Tryd.ntmps62
  go_wp2_with fail
  go_ret
  exact ⟨rfl, rfl⟩
theorem less_asymm : ∀ {a b : List UInt8}, Op.bytesLess a b = true → Op.bytesLess b a = false
  | [], [], _ => rfl
  | [], _ :: _, _ => rfl
  | _ :: _, [], h => by simp [Op.bytesLess] at h
  | x :: a, y :: b, h => by
    simp only [Op.bytesLess, Bool.or_eq_true, decide_eq_true_eq, Bool.and_eq_true, beq_iff_eq] at h
    simp only [Op.bytesLess, Bool.or_eq_false_iff, decide_eq_false_iff_not, Bool.and_eq_false_iff, beq_eq_false_iff_ne]
    rcases h with h | ⟨rfl, h⟩
    · rw [UInt8.lt_iff_toNat_lt] at h
      refine ⟨by rw [UInt8.lt_iff_toNat_lt]; omega, .inl fun e => ?_⟩
      rw [e] at h; omega
    · exact ⟨by rw [UInt8.lt_iff_toNat_lt]; omega, .inr (less_asymm h)⟩

theorem join_bound {xs : List ByteArray} (h : ∀ x ∈ xs, x.size ≤ 1000000) : ∀ k, Lib.lens ((xs.map bl).take k) ≤ 1000000 * k
  | 0 => by simp [Lib.lens]
  | k + 1 => by
    have ih := join_bound h k
    by_cases hk : k < xs.length
    · rw [Lib.lens_take_succ _ k (bl xs[k]) (by simp [hk])]
      have := h _ (List.getElem_mem hk)
      rw [bl_length]; omega
    · have e : (xs.map bl).take (k + 1) = (xs.map bl).take k := by
        rw [List.take_of_length_le (by simp; omega), List.take_of_length_le (by simp; omega)]
      rw [e]; omega

set_option maxHeartbeats 1000000 in
theorem implJoin_any (a : Option Addr) (cap : Nat) (xs : List ByteArray) (sep : ByteArray) (w : World) (hx : StrsAt w a xs) (hl : xs.length ≤ 1000000) (hcap : xs.length ≤ cap) (hsz : ∀ x ∈ xs, x.size ≤ 1000000) (hsep : sep.size ≤ 1000000) :
    Calls Tryd.prog 58 #[.slice a xs.length cap, .string sep] w fun e w' => e = .returned (.tuple #[.string (ms (joinB (bl sep) (xs.map bl)).1), .bool (joinB (bl sep) (xs.map bl)).2]) ∧ Below w.heap.size w w' := by
  rcases Nat.eq_zero_or_pos xs.length with h0 | h0
  · obtain rfl := List.length_eq_zero_iff.1 h0
    rw [List.map_nil, joinB_nil]
    go_enter Tryd.func58, Tryd.ntmps58
    go_wp2_with fail
    go_ret2
    exact ⟨rfl, bb _⟩
  have hne : xs ≠ [] := by rintro rfl; simp at h0
  have hz : ((xs.length : Int) == 0) = false := by rw [beq_eq_false_iff_ne]; omega
  by_cases hq : sep.size = 1
  case neg =>
    rw [joinB_sep (by rw [bl_length]; exact hq)]
    have hq' : ((sep.size : Int) != 1) = true := by rw [bne_iff_ne]; omega
    clear hne hq
    go_enter Tryd.func58, Tryd.ntmps58
    go_wp2_with fail
    go_ret2
    exact ⟨rfl, bb _⟩
  obtain ⟨c, rfl⟩ := Lib.one_byte sep hq
  obtain ⟨b, o, rfl, hc⟩ := hx.view hne
  replace hc := Lib.hid hc
  have hR : Hid (joinB (bl ⟨#[c]⟩) (xs.map bl) = if fitJ c (xs.map bl) then (Lib.join (xs.map bl) [c], true) else ([], false)) := joinB_one (by simpa using hne)
  have hjl := Lib.hid (join_len (xs := xs.map bl) (by simpa using hne) c)
  replace hne := Lib.hid hne
  have hszH := Lib.hid hsz
  have h1 : (1 : Int) ≤ (xs.length : Int) := by omega
  clear hq hsz hx hsep
  go_enter Tryd.func58, Tryd.ntmps58
  go_wp2_with fail
  go_loop [6, 22] (fun n i => ∃ k t : Nat, k ≤ xs.length ∧ i = .int .i64 k ∧ n = .int .i64 t ∧ Hid (t + 1 = xs.length + Lib.lens ((xs.map bl).take k)) ∧ (0 < k → t ≤ 4000) ∧ Hid (((xs.map bl).take k).any (fun x => hasB x c.toNat) = false)) (fun _ i => xs.length - (intOf i).toNat)
  case atStart => exact ⟨0, xs.length - 1, Nat.zero_le _, rfl, by go_num, by unfold Hid; simp [Lib.lens]; omega, by omega, by simp [Hid]⟩
  case round =>
    obtain ⟨k, t, hk, rfl, rfl, HT, hle, HA⟩ := hrel
    by_cases hlt : k < xs.length
    · have k0 := hc.out k hlt
      have hkl : k < (xs.map bl).length := by simpa using hlt
      have hsk := hszH.out _ (List.getElem_mem hlt)
      have ht : t ≤ 1004000 := by
        rcases Nat.eq_zero_or_pos k with h | h
        · have := HT.out; rw [h] at this; simp [Lib.lens] at this; omega
        · have := hle h; omega
      have HT2 : Hid (t + xs[k].size + 1 = xs.length + Lib.lens ((xs.map bl).take (k + 1))) := by
        unfold Hid
        rw [Lib.lens_take_succ _ k (bl xs[k]) (by simp [hlt]), bl_length]
        have := HT.out; omega
      have hge : (xs.map bl)[k] = bl xs[k] := by simp
      cases hh : hasB (bl xs[k]) c.toNat
      · have HA2 : Hid (((xs.map bl).take (k + 1)).any (fun x => hasB x c.toNat) = false) := any_snoc hkl HA.out (by rw [hge]; exact hh)
        by_cases hbig : 4000 < t + xs[k].size
        · have HF : Hid (fitJ c (xs.map bl) = false) := by
            unfold Hid fitJ
            have := Lib.lens_take_le (xs.map bl) (k + 1)
            have h2 := HT2.out
            have h3 := hjl.out
            rw [List.length_map] at h3
            rw [decide_eq_false (by omega), Bool.and_false]
          have hbig' : (4000 : Int) < (t : Int) + (xs[k].size : Int) := by omega
          clear hge HA HT HT2 HA2 hle
          generalize xs[k] = x at *
          go_wp2_with fail
          refine (contains_env x c _).mono ?_
          rw [hh]
          rintro e w1 ⟨rfl, rfl⟩
          go_wp2_with fail
          go_ret2
          exact ⟨by rw [hR.out, HF.out]; rfl, bb _⟩
        · have hbig' : ¬ (4000 : Int) < (t : Int) + (xs[k].size : Int) := by omega
          clear hge HA HT hle
          generalize xs[k] = x at *
          go_wp2_with fail
          refine (contains_env x c _).mono ?_
          rw [hh]
          rintro e w1 ⟨rfl, rfl⟩
          go_wp2_with fail
          go_round
          case rel => exact ⟨k + 1, t + x.size, by omega, by go_num, by go_num, HT2, by omega, HA2⟩
          case measure => simp [intOf]; omega
      · have HF : Hid (fitJ c (xs.map bl) = false) := fit_no_has hkl (by rw [hge]; exact hh)
        clear hge HA HT HT2 hle
        generalize xs[k] = x at *
        go_wp2_with fail
        refine (contains_env x c _).mono ?_
        rw [hh]
        rintro e w1 ⟨rfl, rfl⟩
        go_wp2_with fail
        go_ret2
        exact ⟨by rw [hR.out, HF.out]; rfl, bb _⟩
    · obtain rfl : k = xs.length := by omega
      have ht := hle h0
      have HA1 := HA.out
      have HT1 := HT.out
      rw [List.take_of_length_le (by simp)] at HA1 HT1
      have hj := hjl.out
      rw [List.length_map] at hj
      have HF : Hid (fitJ c (xs.map bl) = true) := fit_yes HA1 (by omega)
      have hJ : (Lib.join (xs.map bl) [c]).length ≤ 4000 := by omega
      have hlb := World.block_lt_of_cell? _ _ (hc.out 0 h0)
      replace hJ := Lib.hid hJ
      have ht' : ¬ (4000 : Int) < (t : Int) := by omega
      clear HA HT HA1 HT1 hj hle hjl
      go_wp2_with fail
      refine (Tryd.strings_Join b o cap xs ⟨#[c]⟩ _ (fun j x hj => ?_) hlb (by omega) hcap (by have := hJ.out; exact Nat.le_trans this (by decide))).mono ?_
      · obtain ⟨hj', rfl⟩ := List.getElem?_eq_some_iff.1 hj
        exact hc.out j hj'
      rintro e w1 ⟨rfl, hb1⟩
      go_wp2_with fail
      go_ret2
      exact ⟨by rw [hR.out, HF.out]; rfl, hb1⟩
end Go.Proofs.YtfcekfomhpmgpaaDoor
