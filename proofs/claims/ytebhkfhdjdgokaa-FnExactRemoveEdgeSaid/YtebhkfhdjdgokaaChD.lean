/- Contracts: charged graphs in the law. -/
import Derived.Test.YtebhkfhdjdgokaaChC
namespace Go.Proofs.Ytebhkfhdjdgokaa
open Go.RowKit

def szTwo (n : Int) (b : Nat) : Int := if n < (b : Int) then -1 else n - b
theorem szTwo_no {n : Int} {b : Nat} (h : n < (b : Int)) : szTwo n b = -1 := if_pos h
theorem szTwo_yes {n : Int} {b : Nat} (h : (b : Int) ≤ n) : szTwo n b = n - b := if_neg (by omega)

set_option maxHeartbeats 400000 in
theorem szIntS_any (a : Option Addr) (l c : Nat) (n : Int) (w : World) (h0 : 0 ≤ n) (h1 : n ≤ 1048576) (hl : l ≤ 9223372036854775807) :
    Calls Try.prog 37 #[.slice a l c, .int .i64 n] w fun e w' => e = .returned (.int .i64 (if n < (l : Int) then -1 else n - l)) ∧ w = w' := by
  go_enter Try.func37, Try.ntmps37
  go_wp2
  all_goals go_ret
  all_goals exact ⟨rfl, rfl⟩

set_option maxHeartbeats 1000000 in
theorem szCharged_any (V : Int) (v u : Value) (es : List (Int × Int)) (cs : List Int) (F G : List Nat) (n : Int) (w : World) (hx : tmTy.row false w v es F) (hy : Ty.int.row false w u cs G) (h0 : 0 ≤ n) (h1 : n ≤ 1048576) :
    Calls Try.prog 12 #[.agg #[.int .i64 V, v, u], .int .i64 n] w fun e w' => e = .returned (.int .i64 (szTwo n (es.length + cs.length))) ∧ Below w.heap.size w w' := by
  obtain ⟨a, c, rfl, hc1, hc2⟩ := Ty.row_len hx
  obtain ⟨ua, uc, rfl, hu1, hu2⟩ := Ty.row_len hy
  by_cases hb : n < (es.length : Int)
  · rw [szTwo_no (by omega)]
    go_enter Try.func12, Try.ntmps12
    go_wp2_with fail
    refine (szIntA2S_any _ _ _ _ _ h0 h1 (by omega)).mono ?_
    rw [if_pos (by omega)]
    rintro e w1 ⟨rfl, rfl⟩
    go_wp2_with fail
    go_ret
    exact ⟨rfl, (by repeat (first | exact bb _ | assumption | refine bal ?_ _ | refine bdr ?_ | refine bdn ?_ _ | refine bst ?_ (by simp <;> omega) _ | refine btr ?_ (by assumption)))⟩
  · have hge : ¬ n - (es.length : Int) < 0 := by omega
    by_cases hb2 : n - es.length < (cs.length : Int)
    · rw [szTwo_no (by omega)]
      go_enter Try.func12, Try.ntmps12
      go_wp2_with fail
      refine (szIntA2S_any _ _ _ _ _ h0 h1 (by omega)).mono ?_
      rw [if_neg (by omega)]
      rintro e w1 ⟨rfl, rfl⟩
      go_wp2_with fail
      refine (szIntS_any _ _ _ _ _ (by omega) (by omega) (by omega)).mono ?_
      rw [if_pos (by omega)]
      rintro e w1 ⟨rfl, rfl⟩
      go_wp2_with fail
      go_ret
      exact ⟨rfl, (by repeat (first | exact bb _ | assumption | refine bal ?_ _ | refine bdr ?_ | refine bdn ?_ _ | refine bst ?_ (by simp <;> omega) _ | refine btr ?_ (by assumption)))⟩
    · rw [szTwo_yes (by omega)]
      have hge2 : ¬ n - (es.length : Int) - cs.length < 0 := by omega
      go_enter Try.func12, Try.ntmps12
      go_wp2_with fail
      refine (szIntA2S_any _ _ _ _ _ h0 h1 (by omega)).mono ?_
      rw [if_neg (by omega)]
      rintro e w1 ⟨rfl, rfl⟩
      go_wp2_with fail
      refine (szIntS_any _ _ _ _ _ (by omega) (by omega) (by omega)).mono ?_
      rw [if_neg (by omega)]
      rintro e w1 ⟨rfl, rfl⟩
      go_wp2_with fail
      go_ret
      exact ⟨ret_int (by omega), (by repeat (first | exact bb _ | assumption | refine bal ?_ _ | refine bdr ?_ | refine bdn ?_ _ | refine bst ?_ (by simp <;> omega) _ | refine btr ?_ (by assumption)))⟩

theorem sep_append : ∀ {qs ps : List Asn} {w : World} {F G : List Nat}, sep qs w F → sep ps w G → (∀ b ∈ F, b ∉ G) → sep (qs ++ ps) w (F ++ G)
  | [], ps, w, F, G, h, k, hd => by
    obtain rfl : F = [] := h
    exact k
  | q :: qs, ps, w, F, G, h, k, hd => by
    obtain ⟨F1, F2, rfl, h1, h2, h3⟩ := h
    refine ⟨F1, F2 ++ G, by rw [List.append_assoc], fun b hb hb2 => ?_, h2, sep_append h3 k fun b hb => hd b (List.mem_append.2 (.inr hb))⟩
    rcases List.mem_append.1 hb2 with h | h
    · exact h1 b hb h
    · exact hd b (List.mem_append.2 (.inl hb)) h
theorem sep_front : ∀ {qs ps : List Asn} {w : World} {F : List Nat}, sep (qs ++ ps) w F → ∃ F1, sep qs w F1 ∧ ∀ b ∈ F1, b ∈ F
  | [], ps, w, F, _ => ⟨[], rfl, by simp⟩
  | q :: qs, ps, w, F, h => by
    obtain ⟨F1, F2, rfl, h1, h2, h3⟩ := h
    obtain ⟨F3, h4, h5⟩ := sep_front h3
    refine ⟨F1 ++ F3, ⟨F1, F3, rfl, fun b hb hb2 => h1 b hb (h5 b hb2), h2, h4⟩, fun b hb => ?_⟩
    rcases List.mem_append.1 hb with h | h
    · exact List.mem_append.2 (.inl h)
    · exact List.mem_append.2 (.inr (h5 b h))
/-- Parts made by a call go in front. -/
theorem Sp.seq {w0 w w' : World} {ps qs : List Asn} (h : Sp w0 w ps) (k : Sp w w' qs) : Sp w0 w' (qs ++ ps) := by
  obtain ⟨h1, G, h2, h3⟩ := h
  obtain ⟨k1, F, k2, k3⟩ := k
  refine ⟨btr h1 k1, F ++ G, sep_append k2 (sep_keep h2 fun b hm => k1.block b (sep_lt h2 b hm)) (fun b hb hb2 => ?_), fun b hb => ?_⟩
  · have := k3 b hb; have := sep_lt h2 b hb2; omega
  · rcases List.mem_append.1 hb with h | h
    · have := k3 b h; have := h1.size; omega
    · exact h3 b h
/-- The parts behind are let go. -/
theorem Sp.front {w0 w : World} {ps qs : List Asn} (h : Sp w0 w (qs ++ ps)) : Sp w0 w qs := by
  obtain ⟨h1, G, h2, h3⟩ := h
  obtain ⟨F, h4, h5⟩ := sep_front h2
  exact ⟨h1, F, h4, fun b hb => h3 b (h5 b hb)⟩

/-- A charged graph of its own. -/
def OwnCh (w : World) (V : Int) (es : List (Int × Int)) (cs : List Int) (e : Ending) (w' : World) : Prop :=
  ∃ v u, e = .returned (.agg #[.int .i64 V, v, u]) ∧ Sp w w' [Row tmTy v es, Row Ty.int u cs]

set_option maxHeartbeats 2000000 in
theorem toCharged_any (V : Int) (v u : Value) (es : List (Int × Int)) (cs : List Int) (F G : List Nat) (w : World) (hx : tmTy.row false w v es F) (hy : Ty.int.row false w u cs G) (h1 : es.length ≤ 100000000) (h2 : cs.length ≤ 100000000) :
    Calls Try.prog 14 #[.agg #[.int .i64 V, v, u]] w (OwnCh w V es cs) := by
  obtain ⟨a, c, rfl, hc1, hc2⟩ := Ty.row_len hx
  obtain ⟨ua, uc, rfl, hu1, hu2⟩ := Ty.row_len hy
  have S0 := (((Sp.start w).alloc_box #[.int .i64 V, .slice a es.length c, .slice ua cs.length uc] 33).alloc_box #[.int .i64 0, .slice none 0 0, .slice none 0 0] 35).alloc_box #[.int .i64 V, .slice none 0 0, .slice none 0 0] 35
  simp only [World.size_alloc] at S0
  have S1 := Lib.hid S0
  clear S0
  go_enter Try.func14, Try.ntmps14
  go_wp2_with fail
  refine (toIntA2S_any _ es F _ (Ty.row_below hx S1.out.below (Ty.row_lt hx)) h1).mono ?_
  rintro e w1 ⟨v1, F1, rfl, hr1, hn1, hF1, hb1⟩
  obtain ⟨va, vc, rfl, _, _⟩ := Ty.row_len hr1
  have S2 := S1.out.row_new hb1 hr1 hn1 hF1
  have f1 := S2.frozen (i := 1) rfl 1
  have c1 := S2.cell (i := 1) rfl (o := 1) rfl
  have d1 := S2.cell (i := 3) rfl (o := 2) rfl
  have S3 := S2.store (i := 1) rfl 1 (.slice va es.length vc)
  replace S3 := Lib.hid S3
  clear S1 S2 hr1 hn1 hF1
  go_wp2_with fail
  refine (toIntS_any _ cs G _ (Ty.row_below hy S3.out.below (Ty.row_lt hy)) (by omega)).mono ?_
  rintro e w2 ⟨v2, F2, rfl, hr2, hn2, hF2, hb2⟩
  obtain ⟨ub, uc2, rfl, _, _⟩ := Ty.row_len hr2
  have S4 := S3.out.row_new hb2 hr2 hn2 hF2
  have f2 := S4.frozen (i := 2) rfl 2
  have c2 := S4.cell (i := 2) rfl (o := 2) rfl
  have S5 := S4.store (i := 2) rfl 2 (.slice ub cs.length uc2)
  replace S5 := Lib.hid S5
  have k0 := S5.out.cell (i := 2) rfl (o := 0) rfl
  have k1 := S5.out.cell (i := 2) rfl (o := 1) rfl
  have k2 := S5.out.cell (i := 2) rfl (o := 2) rfl
  have j0 := S5.out.cell (i := 3) rfl (o := 0) rfl
  have j1 := S5.out.cell (i := 3) rfl (o := 1) rfl
  have j2 := S5.out.cell (i := 3) rfl (o := 2) rfl
  have q0 := S5.out.frozen (i := 3) rfl 0
  have q1 := S5.out.frozen (i := 3) rfl 1
  have q2 := S5.out.frozen (i := 3) rfl 2
  have S6 := ((S5.out.store (i := 3) rfl 0 (.int .i64 V)).store (i := 3) rfl 1 (.slice va es.length vc)).store (i := 3) rfl 2 (.slice ub cs.length uc2)
  replace S6 := Lib.hid S6
  clear S3 S4 hr2 hn2 hF2 S5
  go_wp2_with fail
  exact bodyPost_ret (v := .agg #[.int .i64 V, .slice va es.length vc, .slice ub cs.length uc2]) (by simp [results, Try.results14, go_sem, j0, j1, j2]) rfl
    ⟨_, _, rfl, S6.out.swap.front (qs := [_, _])⟩
end Go.Proofs.Ytebhkfhdjdgokaa
