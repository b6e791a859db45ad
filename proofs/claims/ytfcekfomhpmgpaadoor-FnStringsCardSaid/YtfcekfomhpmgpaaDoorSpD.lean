/- Contracts: the strings that are drawn to be split, joined and compared. -/
import Derived.Test.YtfcekfomhpmgpaaDoorSpC
import Derived.Test.YtfcekfomhpmgpaaDoorSepB
import Derived.Test.YtfcekfomhpmgpaaDoorCurE
namespace Go.Proofs.YtfcekfomhpmgpaaDoor
open Go.RowKit

set_option maxHeartbeats 2000000 in
theorem cur_any1 (A g : Nat) (ca : Option Addr) (cl cc : Nat) (w : World) (h : CurIs A g ca cl cc w) (hA : A ≤ 80000000) :
    Calls Tryd.prog 80 #[.pointer (some ⟨g, 0, none⟩)] w (CurPost (StrR (SizeLe 10)) (A + 2) g ca cl cc w) := by
  have hg := h.lt
  go_enter Tryd.func80, Tryd.ntmps80
  go_wp2_with fail
  refine (cur_of (SizeLe 10) w.heap.size 0 9 9 A g ca cl cc _ (h.grow (by repeat (first | exact bb _ | assumption | refine bal ?_ _ | refine bdr ?_ | refine bdn ?_ _ | refine bst ?_ (by simp <;> omega) _ | refine btr ?_ (by assumption)))) (by omega) (by decide) (by decide) ?_ (by omega)).mono ?_
  · refine strs_new (by simp) fun j hj => ?_
    match j, hj with
    | 0, _ => exact ⟨_, rfl, size_le (by decide)⟩
    | 1, _ => exact ⟨_, rfl, size_le (by decide)⟩
    | 2, _ => exact ⟨_, rfl, size_le (by decide)⟩
    | 3, _ => exact ⟨_, rfl, size_le (by decide)⟩
    | 4, _ => exact ⟨_, rfl, size_le (by decide)⟩
    | 5, _ => exact ⟨_, rfl, size_le (by decide)⟩
    | 6, _ => exact ⟨_, rfl, size_le (by decide)⟩
    | 7, _ => exact ⟨_, rfl, size_le (by decide)⟩
    | 8, _ => exact ⟨_, rfl, size_le (by decide)⟩
  rintro e w1 ⟨_, ⟨s, hs, rfl⟩, rfl, hi1, hc1⟩
  have hC : Chg [g] w w1 := ((Chg.refl _ w).alloc _).trans hc1
  clear hc1
  go_wp2_with fail
  go_ret
  exact ⟨_, ⟨s, hs, rfl⟩, rfl, hi1, hC⟩

set_option maxHeartbeats 2000000 in
theorem drawSplit_any (ca : Option Addr) (cl cc : Nat) (w : World) (hc : CodeOk w ca cl) (hs : cl ≤ 65536) :
    Calls Tryd.prog 55 #[.slice ca cl cc] w fun e w' => ∃ s t : ByteArray, s.size ≤ 10 ∧ t.size ≤ 2 ∧ e = .returned (.tuple #[.string s, .string t]) ∧ Below w.heap.size w w' := by
  go_enter Tryd.func55, Tryd.ntmps55
  go_wp2_with fail
  refine (cur_any1 0 w.heap.size ca cl cc _ (cur_new hc hs) (by omega)).mono ?_
  rintro e w1 ⟨_, ⟨s, hs1, rfl⟩, rfl, hi1, hc1⟩
  have hb1 : Below w.heap.size w w1 := (bal (bb w) _).trans (hc1.below (by simp) (by simp))
  have hlt := hi1.lt
  clear hc1
  go_wp2_with fail
  refine (cur_of (SizeLe 2) w1.heap.size 0 5 5 2 w.heap.size ca cl cc _ (hi1.grow (by repeat (first | exact bb _ | assumption | refine bal ?_ _ | refine bdr ?_ | refine bdn ?_ _ | refine bst ?_ (by simp <;> omega) _ | refine btr ?_ (by assumption)))) (by omega) (by decide) (by decide) ?_ (by omega)).mono ?_
  · refine strs_new (by simp) fun j hj => ?_
    match j, hj with
    | 0, _ => exact ⟨_, rfl, size_le (by decide)⟩
    | 1, _ => exact ⟨_, rfl, size_le (by decide)⟩
    | 2, _ => exact ⟨_, rfl, size_le (by decide)⟩
    | 3, _ => exact ⟨_, rfl, size_le (by decide)⟩
    | 4, _ => exact ⟨_, rfl, size_le (by decide)⟩
  rintro e w2 ⟨_, ⟨t, ht1, rfl⟩, rfl, hi2, hc2⟩
  have hb2 : Below w.heap.size w w2 := (bal hb1 _).trans (hc2.below (by have := hb1.size; simp; omega) (by simp))
  clear hc2 hb1
  go_wp2_with fail
  go_ret2
  exact ⟨s, t, hs1, ht1, rfl, hb2⟩

set_option maxHeartbeats 2000000 in
theorem drawLess_any (ca : Option Addr) (cl cc : Nat) (w : World) (hc : CodeOk w ca cl) (hs : cl ≤ 65536) :
    Calls Tryd.prog 60 #[.slice ca cl cc] w fun e w' => ∃ s t : ByteArray, s.size ≤ 10 ∧ t.size ≤ 10 ∧ e = .returned (.tuple #[.string s, .string t]) ∧ Below w.heap.size w w' := by
  go_enter Tryd.func60, Tryd.ntmps60
  go_wp2_with fail
  refine (cur_any1 0 w.heap.size ca cl cc _ (cur_new hc hs) (by omega)).mono ?_
  rintro e w1 ⟨_, ⟨s, hs1, rfl⟩, rfl, hi1, hc1⟩
  have hb1 : Below w.heap.size w w1 := (bal (bb w) _).trans (hc1.below (by simp) (by simp))
  clear hc1
  go_wp2_with fail
  refine (cur_any1 2 w.heap.size ca cl cc _ hi1 (by omega)).mono ?_
  rintro e w2 ⟨_, ⟨t, ht1, rfl⟩, rfl, hi2, hc2⟩
  have hb2 : Below w.heap.size w w2 := hb1.trans (hc2.below hb1.size (by simp))
  clear hc2 hb1
  go_wp2_with fail
  go_ret2
  exact ⟨s, t, hs1, ht1, rfl, hb2⟩

theorem owns_strs {w : World} {e : TypeId} {v : Value} {xs : List ByteArray} (h : w.ownsRow 0 e 1 v xs.length (xs.map .string)) : ∃ a cap, v = .slice a xs.length cap ∧ xs.length ≤ cap ∧ StrsAt w a xs := by
  obtain ⟨_, ⟨rfl, h0⟩ | ⟨g, cap, cur, rfl, _, hh, hn, _, _, ht⟩⟩ := h
  · obtain rfl := List.length_eq_zero_iff.1 h0
    exact ⟨none, 0, rfl, Nat.le_refl _, fun j x hj => by simp at hj⟩
  · refine ⟨_, cap, rfl, hn, fun j x hj => ⟨g, 0, rfl, ?_⟩⟩
    have hj' : j < xs.length := (List.getElem?_eq_some_iff.1 hj).1
    have h2 : (cur.toList.take xs.length)[j]? = (xs.map Value.string)[j]? := by
      have h3 := congrArg (fun l => l[j]?) ht
      simpa using h3
    rw [List.getElem?_take, if_pos hj', List.getElem?_map, hj] at h2
    rw [Nat.zero_add]
    simp only [World.cell?, hh]
    simpa using h2

/-- What has been drawn so far. -/
def JoinRel (w : World) (g : Nat) (ca : Option Addr) (cl cc A m : Nat) (v : Value) (xs : List ByteArray) (wr : World) : Prop :=
  Sp w wr [Own 9 1 v xs.length (xs.map .string), CurA A g ca cl cc] ∧ xs.length ≤ m ∧ ∀ x ∈ xs, x.size ≤ 5000
/-- The strings and the sign that are drawn. -/
def JoinIn (w : World) (e : Ending) (w' : World) : Prop :=
  ∃ (a : Option Addr) (cap : Nat) (xs : List ByteArray) (t : ByteArray), xs.length ≤ 4 ∧ xs.length ≤ cap ∧ (∀ x ∈ xs, x.size ≤ 5000) ∧ t.size ≤ 2 ∧ e = .returned (.tuple #[.slice a xs.length cap, .string t]) ∧ StrsAt w' a xs ∧ Below w.heap.size w w'

set_option maxRecDepth 100000 in
set_option maxHeartbeats 4000000 in
theorem drawJoin_any (ca : Option Addr) (cl cc : Nat) (w : World) (hc : CodeOk w ca cl) (hs : cl ≤ 65536) :
    Calls Tryd.prog 57 #[.slice ca cl cc] w (JoinIn w) := by
  obtain ⟨i0, hi, hz0, hz1, hz2⟩ := info_parts infoStr
  have S0 := ((Sp.start w).alloc_cur ca cl cc).own_made 9 1
  obtain ⟨hi0, hk0⟩ := S0.cur (A' := 2) (i := 1) rfl hc hs
  replace hk0 := Lib.hid hk0
  replace hi0 := Lib.hid hi0
  simp only [World.size_alloc] at hk0
  clear S0
  go_enter Tryd.func57, Tryd.ntmps57
  go_wp2_with fail
  refine (cur_pick_at (lo := 0) (hi := 3) hi0.out (by omega) (by omega) (by omega) (by omega) (by omega)).mono ?_
  rintro e w1 ⟨_, ⟨n, hn0, hn1, rfl⟩, rfl, hi1, hc1⟩
  have S1 : JoinRel w w.heap.size ca cl cc 2 0 (.slice (some ⟨w.heap.size + 1, 0, none⟩) 0 0) [] w1 := ⟨hk0.out w1 hi1 hc1, Nat.zero_le _, by simp⟩
  replace S1 := Lib.hid S1
  clear hk0 hi0 hi1 hc1
  go_wp2_with fail
  go_loopw [5, 7] (fun v i wr => ∃ (k : Nat) (xs : List ByteArray), k ≤ 3 ∧ i = .int .i64 k ∧ Hid (JoinRel w w.heap.size ca cl cc (2 + 2 * k) k v xs wr)) (fun _ i _ => (n - intOf i).toNat)
  case atStart => exact ⟨0, [], by omega, rfl, S1⟩
  case round =>
    obtain ⟨k, xs, hk, rfl, HS⟩ := hrel
    obtain ⟨a5, c5, rfl⟩ := owns_form (HS.out.1.own (i := 0) rfl)
    by_cases hlt : (k : Int) < n
    · obtain ⟨hi2, hk2⟩ := HS.out.1.cur (A' := 2 + 2 * k + 2) (i := 1) rfl hc hs
      have hL := HS.out.2
      replace hk2 := Lib.hid hk2
      replace hi2 := Lib.hid hi2
      have hx5 := Lib.hid hL.2
      have hxl := hL.1
      clear hL HS
      go_wp2_with fail
      refine (cur_any1 (2 + 2 * k) w.heap.size ca cl cc _ hi2.out (by omega)).mono ?_
      rintro e w2 ⟨_, ⟨s, hs1, rfl⟩, rfl, hi3, hc3⟩
      have S3 := hk2.out w2 hi3 hc3
      have hss : Hid (s.size ≤ 10) := hs1
      clear hk2 hi2 hi3 hc3 hs1
      have ho := Lib.hid ((S3.alloc (.cells #[.string s] 9)).own (i := 0) rfl)
      replace S3 := Lib.hid S3
      go_wp2_with (at_builtin; refine wpList_append_src rfl _ _ rfl Tryd.underlying70 hi hz0 hz1 hz2 rfl (by decide) _ _ _ rfl ho.out (some ⟨w2.heap.size, 0, none⟩) 1 1 [.string s] rfl (Src.one (by simp [go_sem])) (by simp [Value.oneCell']) (by unfold maxLen; omega) (by omega) ?_)
      intro v' w3 hown3 hg3 hat3
      have HN := (S3.out.alloc _).own_push (i := 0) rfl (bb _) hown3 hg3 (by simpa using hat3)
      have HN2 : JoinRel w w.heap.size ca cl cc (2 + 2 * (k + 1)) (k + 1) v' (xs ++ [s]) w3 := by
        refine ⟨?_, by simp; omega, ?_⟩
        · rw [List.length_append, List.map_append]; exact HN
        · intro x hx
          rcases List.mem_append.1 hx with hx | hx
          · exact hx5.out x hx
          · obtain rfl : x = s := by simpa using hx
            have := hss.out; omega
      replace HN2 := Lib.hid HN2
      clear HN hown3 hg3 hat3 S3 ho
      go_wp2_with fail
      go_roundw
      case rel => exact ⟨k + 1, xs ++ [s], by omega, by go_num, HN2⟩
      case measure => simp [intOf]; omega
    · obtain ⟨hi2, hk2⟩ := HS.out.1.cur (A' := 2 + 2 * k + 2) (i := 1) rfl hc hs
      have hL := HS.out.2
      replace hk2 := Lib.hid hk2
      replace hi2 := Lib.hid hi2
      have hx5 := Lib.hid hL.2
      have hxl := hL.1
      clear hL HS
      go_wp2_with fail
      refine (cur_one 20 (2 + 2 * k) w.heap.size ca cl cc _ hi2.out (by omega) (by omega)).mono ?_
      rintro e w2 ⟨_, ⟨t, rfl⟩, rfl, hi3, hc3⟩
      have S3 := hk2.out w2 hi3 hc3
      clear hk2 hi2 hi3 hc3
      cases t
      · obtain ⟨hi4, hk4⟩ := (S3.alloc (.cells #[.string ⟨#[44]⟩, .string ⟨#[59]⟩, .string ⟨#[59]⟩, .string ⟨#[]⟩, .string ⟨#[97, 98]⟩] 9)).cur (A' := 2 + 2 * k + 4) (i := 1) rfl hc hs
        have hgl := hi4.lt
        have hg2 : w.heap.size < w2.heap.size := (S3.cur (A' := 0) (i := 1) rfl hc hs).1.lt
        replace hk4 := Lib.hid hk4
        replace hi4 := Lib.hid hi4
        clear S3
        go_wp2_with fail
        refine (cur_of (SizeLe 2) w2.heap.size 0 5 5 (2 + 2 * k + 2) w.heap.size ca cl cc _ hi4.out (by omega) (by decide) (by decide) ?_ (by omega)).mono ?_
        · refine strs_new (by simp) fun j hj => ?_
          match j, hj with
          | 0, _ => exact ⟨_, rfl, size_le (by decide)⟩
          | 1, _ => exact ⟨_, rfl, size_le (by decide)⟩
          | 2, _ => exact ⟨_, rfl, size_le (by decide)⟩
          | 3, _ => exact ⟨_, rfl, size_le (by decide)⟩
          | 4, _ => exact ⟨_, rfl, size_le (by decide)⟩
        rintro e w4 ⟨_, ⟨t, ht1, rfl⟩, rfl, hi5, hc5⟩
        have S5 := hk4.out w4 hi5 hc5
        clear hk4 hi4 hi5 hc5
        obtain ⟨a6, c6, e6, h6, hA6⟩ := owns_strs (S5.own (i := 0) rfl)
        simp only [Value.slice.injEq] at e6
        obtain ⟨rfl, -, rfl⟩ := e6
        have hB := S5.below
        replace S5 := Lib.hid S5
        replace hA6 := Lib.hid hA6
        go_wp2_with fail
        go_ret2
        exact ⟨_, _, xs, t, by omega, h6, hx5.out, ht1, rfl, hA6.out, hB⟩
      · obtain ⟨hi4, hk4⟩ := S3.cur (A' := 2 + 2 * k + 4) (i := 1) rfl hc hs
        replace hk4 := Lib.hid hk4
        replace hi4 := Lib.hid hi4
        clear S3
        go_wp2_with fail
        refine (cur_pick_at (lo := 0) (hi := 19) hi4.out (by omega) (by omega) (by omega) (by omega) (by omega)).mono ?_
        rintro e w4 ⟨_, ⟨x, hx0, hx1, rfl⟩, rfl, hi5, hc5⟩
        have S5 := hk4.out w4 hi5 hc5
        clear hk4 hi4 hi5 hc5
        obtain ⟨M0, Z0, hz0', hmk0, hcv0⟩ := zero_bytes (3990 + x).toNat (by omega)
        replace hmk0 := fun w => hmk0 (3990 + x) w (by omega)
        have hZs : Hid (Z0.size ≤ 5000) := by unfold Hid; omega
        obtain ⟨q, hq⟩ : ∃ q : Nat, (3990 + x).toNat = q := ⟨_, rfl⟩
        rw [hq] at hmk0 hcv0
        clear hz0' hq
        have S6 := Lib.hid (S5.alloc (.cells M0 5))
        have ho := Lib.hid ((S6.out.alloc (.cells #[.string Z0] 9)).own (i := 0) rfl)
        clear S5
        go_wp2_with (at_builtin; refine wpList_append_src rfl _ _ rfl Tryd.underlying70 hi hz0 hz1 hz2 rfl (by decide) _ _ _ rfl ho.out (some ⟨w4.heap.size + 1, 0, none⟩) 1 1 [.string Z0] rfl (Src.one (by simp [go_sem])) (by simp [Value.oneCell']) (by unfold maxLen; omega) (by omega) ?_)
        intro v' w5 hown5 hg5 hat5
        have S7 := (S6.out.alloc _).own_push (i := 0) rfl (bb _) hown5 hg5 (by simpa using hat5)
        have HN2 : JoinRel w w.heap.size ca cl cc (2 + 2 * k + 4) 4 v' (xs ++ [Z0]) w5 := by
          refine ⟨?_, by simp; omega, ?_⟩
          · rw [List.length_append, List.map_append]; exact S7
          · intro y hy
            rcases List.mem_append.1 hy with hy | hy
            · exact hx5.out y hy
            · obtain rfl : y = Z0 := by simpa using hy
              exact hZs.out
        clear S6 S7 ho hown5 hg5 hat5 hmk0 hcv0 hZs hx5 hxl
        generalize xs ++ [Z0] = ys at HN2
        obtain ⟨S5, hl5, hx5⟩ := HN2
        obtain ⟨a5, c5, rfl⟩ := owns_form (S5.own (i := 0) rfl)
        obtain ⟨hi4, hk4⟩ := (S5.alloc (.cells #[.string ⟨#[44]⟩, .string ⟨#[59]⟩, .string ⟨#[59]⟩, .string ⟨#[]⟩, .string ⟨#[97, 98]⟩] 9)).cur (A' := 2 + 2 * k + 6) (i := 1) rfl hc hs
        have hgl := hi4.lt
        have hg2 : w.heap.size < w5.heap.size := (S5.cur (A' := 0) (i := 1) rfl hc hs).1.lt
        replace hk4 := Lib.hid hk4
        replace hi4 := Lib.hid hi4
        replace hx5 := Lib.hid hx5
        clear S5
        go_wp2_with fail
        refine (cur_of (SizeLe 2) w5.heap.size 0 5 5 (2 + 2 * k + 4) w.heap.size ca cl cc _ hi4.out (by omega) (by decide) (by decide) ?_ (by omega)).mono ?_
        · refine strs_new (by simp) fun j hj => ?_
          match j, hj with
          | 0, _ => exact ⟨_, rfl, size_le (by decide)⟩
          | 1, _ => exact ⟨_, rfl, size_le (by decide)⟩
          | 2, _ => exact ⟨_, rfl, size_le (by decide)⟩
          | 3, _ => exact ⟨_, rfl, size_le (by decide)⟩
          | 4, _ => exact ⟨_, rfl, size_le (by decide)⟩
        rintro e w6 ⟨_, ⟨t, ht1, rfl⟩, rfl, hi5, hc5⟩
        have S5 := hk4.out w6 hi5 hc5
        clear hk4 hi4 hi5 hc5
        obtain ⟨a6, c6, e6, h6, hA6⟩ := owns_strs (S5.own (i := 0) rfl)
        simp only [Value.slice.injEq] at e6
        obtain ⟨rfl, -, rfl⟩ := e6
        have hB := S5.below
        replace S5 := Lib.hid S5
        replace hA6 := Lib.hid hA6
        go_wp2_with fail
        go_ret2
        exact ⟨_, _, ys, t, hl5, h6, hx5.out, ht1, rfl, hA6.out, hB⟩
end Go.Proofs.YtfcekfomhpmgpaaDoor
