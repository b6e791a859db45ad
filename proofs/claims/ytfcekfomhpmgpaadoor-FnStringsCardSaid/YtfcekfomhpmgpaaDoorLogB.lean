/- Contract: reading one record in the reference. -/
import Derived.Test.YtfcekfomhpmgpaaDoorLogA
namespace Go.Proofs.YtfcekfomhpmgpaaDoor
open Go.RowKit

theorem extract_ms (l : List UInt8) (a b : Nat) (h : b = l.length) : (ms l).extract a b = ms (l.drop a) := by
  apply bl_inj
  rw [bl_extract, bl_ms, bl_ms]
  exact List.take_of_length_le (by rw [List.length_drop]; omega)

/-- A record and a flag. -/
def RecPost (w : World) (x : (List UInt8 × List UInt8) × Bool) (e : Ending) (w' : World) : Prop :=
  e = .returned (.tuple #[.agg #[.string (ms x.1.1), .string (ms x.1.2)], .bool x.2]) ∧ Below w.heap.size w w'

/-- The cells of the result and of the record read. -/
def RdInv (w wx : World) (g : Nat) (Q V : List UInt8) : Prop :=
  wx.cell? ⟨w.heap.size, 0, none⟩ = some (.string ⟨#[]⟩) ∧ wx.cell? ⟨w.heap.size, 1, none⟩ = some (.string ⟨#[]⟩) ∧ wx.frozen? ⟨w.heap.size, 0, none⟩ = false ∧ wx.frozen? ⟨w.heap.size, 1, none⟩ = false ∧
    wx.cell? ⟨g, 0, none⟩ = some (.string (ms Q)) ∧ wx.cell? ⟨g, 1, none⟩ = some (.string (ms V)) ∧ w.heap.size < g ∧ g < wx.heap.size ∧ Below w.heap.size w wx

set_option maxHeartbeats 2000000 in
theorem l33Read_full (s : ByteArray) (k : Int) (w : World) (T R Q V : List UInt8) (h0 : 0 ≤ k) (h1 : k ≤ 1000) (hs : s.size ≤ 1000000000) (hl : (Lib.itoa k).length ≤ 6) (hcl : T.length ≤ s.size)
    (c1 : ((Lib.itoa k).length : Int) + 1 ≤ T.length) (hb : (bl ((ms T).extract 0 ((Lib.itoa k).length + 1)) == bl (ms (Lib.itoa k) ++ ⟨#[32]⟩)) = true)
    (hx : (ms T).extract ((Lib.itoa k).length + 1) T.length = ms R) (hRl : R.length ≤ T.length) (_hQl : Q.length ≤ R.length) (hy : (ms R).extract (Q.length + 1) R.length = ms V) (hVl : V.length ≤ R.length)
    (hq : ((Q.length : Int) == R.length) = false) (hQ1 : (Q.length : Int) + 1 ≤ R.length) (HF : Hid (readB (bl s) k = ((Q, V), goodB Q V && (lineB k Q V == bl s ++ [10]))))
    (hT : Hid (T = (cutP 35 (bl s)).1)) (hQ : Hid (Q = (cutP 64 R).1)) :
    Calls Tryd.prog 96 #[.string s, .int .i64 k] w (RecPost w (readB (bl s) k)) := by
  go_enter Tryd.func96, Tryd.ntmps96
  go_wp2_with fail
  refine (l1Num_pos _ _ h0 (by omega)).mono ?_
  rintro e w1 ⟨rfl, hb1⟩
  obtain ⟨hc1, hf1⟩ := bcell hb1
  have hs1 : w.heap.size < w1.heap.size := by have := hb1.size; simp at this; omega
  go_wp2_with fail
  refine (l1Split_head _ _ _ (by omega)).mono ?_
  rintro e w2 ⟨g, n, cap, rfl, hn0, hn1, hn2, hg, hg', hcell, hn3, hb2⟩
  rw [← hT.out] at hcell
  obtain ⟨hc2, hf2⟩ := bcell hb2
  have hs2 : w.heap.size < w2.heap.size := Nat.lt_of_lt_of_le hs1 hb2.size
  go_wp2_with fail
  refine (l1Split_head (ms R) _ _ (by rw [ms_size]; omega)).mono ?_
  rintro e w3 ⟨g2, n2, cap2, rfl, p0, p1, p2, pg, pg', pcell, p3, hb3⟩
  rw [bl_ms, ← hQ.out] at pcell
  obtain ⟨hc3, hf3⟩ := bcell hb3
  have hs3 : w.heap.size < w3.heap.size := Nat.lt_of_lt_of_le hs2 hb3.size
  have r0 : w3.cell? ⟨w.heap.size, 0, none⟩ = some (.string ⟨#[]⟩) := by simp [hc3, hc2, hc1, hs1, hs2]
  have r1 : w3.cell? ⟨w.heap.size, 1, none⟩ = some (.string ⟨#[]⟩) := by simp [hc3, hc2, hc1, hs1, hs2]
  have r2 : w3.frozen? ⟨w.heap.size, 0, none⟩ = false := by simp [hf3, hf2, hf1, hs1, hs2]
  have r3 : w3.frozen? ⟨w.heap.size, 1, none⟩ = false := by simp [hf3, hf2, hf1, hs1, hs2]
  clear hc1 hf1 hc2 hf2 hc3 hf3
  go_upto_region 10 with fail
  have HI : Hid (RdInv w (w3.alloc (.cells #[.string (ms Q), .string (ms V)] 27)) w3.heap.size Q V) := by
    have hc := bcell (bal (bb w3) (.cells #[.string (ms Q), .string (ms V)] 27))
    exact ⟨by rw [hc.1 _ _ hs3]; exact r0, by rw [hc.1 _ _ hs3]; exact r1, by rw [hc.2 _ _ hs3]; exact r2, by rw [hc.2 _ _ hs3]; exact r3, by simp [go_sem], by simp [go_sem], hs3, by simp, (by repeat (first | exact bb _ | assumption | refine bal ?_ _ | refine bdr ?_ | refine bdn ?_ _ | refine bst ?_ (by simp <;> omega) _ | refine btr ?_ (by assumption)))⟩
  have HG : Hid (∀ w, Calls Tryd.prog 64 #[.agg #[.string (ms Q), .string (ms V)]] w fun e w' => e = .returned (.bool (goodB Q V)) ∧ Below w.heap.size w w') := by
    intro w
    have := l33Good_any (ms Q) (ms V) w (by rw [ms_size]; omega) (by rw [ms_size]; omega)
    rwa [bl_ms, bl_ms] at this
  have HLn : Hid (∀ w, Calls Tryd.prog 65 #[.int .i64 k, .agg #[.string (ms Q), .string (ms V)]] w fun e w' => e = .returned (.string (ms (lineB k Q V))) ∧ Below w.heap.size w w') := by
    intro w
    have := l33Line_any k (ms Q) (ms V) w h0 (by omega) (by rw [ms_size]; omega) (by rw [ms_size]; omega)
    rwa [bl_ms, bl_ms] at this
  clear r0 r1 r2 r3 hb1 hb2 hb3 hcell pcell
  generalize hg3 : w3.heap.size = g3 at HI ⊢
  generalize hW : World.alloc w3 _ = W at HI ⊢
  clear hW hg3
  obtain ⟨c0, c1', f0, f1, d0, d1, hg3, hg4, hB⟩ := HI.out
  have hg5 : w.heap.size < W.heap.size := by omega
  clear HI
  have hset : ∀ (W' : World) (o o' : Nat) (v : Value), (W'.setCell ⟨w.heap.size, o', none⟩ v).cell? ⟨g3, o, none⟩ = W'.cell? ⟨g3, o, none⟩ := fun W' o o' v => World.cell?_setCell_other W' _ _ _ (by simp only [ne_eq, Addr.mk.injEq]; omega)
  by_cases hgood : goodB Q V = true
  · have e5 := fun w => run_add (P := Tryd.prog) w s ⟨#[10]⟩ (by rw [show (ByteArray.mk #[10]).size = 1 from rfl]; omega)
    go_region_held3 (fun w' => w'.cell? ⟨g3, 0, none⟩ = some (.string (ms Q)) ∧ w'.cell? ⟨g3, 1, none⟩ = some (.string (ms V))) (go_keep)
      (first
        | (go_at_call 64; (with_reducible refine (HG.out _).mono ?_); rintro e w4 ⟨rfl, hb4⟩; have z1 := (fun o => (bcell hb4).1 w.heap.size o hg5); have z2 := (fun o => (bcell hb4).1 g3 o hg4); have z3 := (fun o => (bcell hb4).2 w.heap.size o hg5); have z4 : w.heap.size < w4.heap.size := Nat.lt_of_lt_of_le hg5 hb4.size; have z5 : g3 < w4.heap.size := Nat.lt_of_lt_of_le hg4 hb4.size)
        | (go_at_call 65; (with_reducible refine (HLn.out _).mono ?_); rintro e w5 ⟨rfl, hb5⟩; have y1 := (fun o => (bcell hb5).1 w.heap.size o z4); have y2 := (fun o => (bcell hb5).1 g3 o z5); have y3 := (fun o => (bcell hb5).2 w.heap.size o z4)))
    all_goals
      go_wp2_with fail
      refine bodyPost_ret (v := .tuple #[.agg #[.string (ms Q), .string (ms V)], .bool (lineB k Q V == bl s ++ [10])]) (by simp [results, Tryd.results96, go_sem, y1, z1, c0, c1', bl_lit]) rfl ?_
      unfold RecPost
      rw [HF.out, hgood]
      exact ⟨rfl, (by repeat (first | exact bb _ | assumption | refine bal ?_ _ | refine bdr ?_ | refine bdn ?_ _ | refine bst ?_ (by simp <;> omega) _ | refine btr ?_ (by assumption)))⟩
  · have hgood' : goodB Q V = false := by simpa using hgood
    have HG2 : Hid (∀ w, Calls Tryd.prog 64 #[.agg #[.string (ms Q), .string (ms V)]] w fun e w' => e = .returned (.bool false) ∧ Below w.heap.size w w') := by
      intro w
      have := HG.out w
      rwa [hgood'] at this
    clear hgood HG
    replace hgood' := (show Hid (goodB Q V = false) from hgood')
    refine wp_region_held_drew (S := (fun w' => w'.cell? ⟨g3, 0, none⟩ = some (.string (ms Q)) ∧ w'.cell? ⟨g3, 1, none⟩ = some (.string (ms V)))) (by kernel_rfl) ?_ ?_
    · exact ⟨d0, d1⟩
    intro hS
    (refine wpAnyH_take (i := 0) (v := ?_) rfl (by kernel_rfl) (by kernel_rfl) (by kernel_rfl) (fun _ _ _ h => h) (Or.inl ⟨by rfl, ?_⟩) (by assumption) ?_; rotate_left; (focus (intro w hSw; (try dsimp only at hSw); go_simp; (try with_reducible rfl); done)); (try simp only [put_rules]))
    (refine wpAnyH_take (i := 1) (v := ?_) rfl (by kernel_rfl) (by kernel_rfl) (by kernel_rfl) (fun _ _ _ h => h) (Or.inl ⟨by rfl, ?_⟩) (by assumption) ?_; rotate_left; (focus (intro w hSw; (try dsimp only at hSw); go_simp; (try with_reducible rfl); done)); (try simp only [put_rules]))
    (refine wpAnyH_ready (rs := [2]) (by kernel_rfl) (by simp) ?_; refine AllReadyH.cons rfl (fun K hK => ?_) AllReadyH.nil)
    go_simp
    go_at_call 64
    refine (HG2.out _).mono ?_
    rintro e w4 ⟨rfl, hb4⟩
    have z1 := (fun o => (bcell hb4).1 w.heap.size o hg5)
    have z2 := (fun o => (bcell hb4).1 g3 o hg4)
    have z3 := (fun o => (bcell hb4).2 w.heap.size o hg5)
    have z4 : w.heap.size < w4.heap.size := Nat.lt_of_lt_of_le hg5 hb4.size
    go_wp2_with fail
    refine hK.out _ _ ?_ (fun hS4 => ?_)
    · exact ⟨(z2 0).trans d0, (z2 1).trans d1⟩
    clear hK hS
    (try simp only [put_rules])
    (refine wpAnyH_take (i := 3) (v := ?_) rfl (by kernel_rfl) (by kernel_rfl) (by kernel_rfl) (fun _ _ _ h => h) (Or.inl ⟨by rfl, ?_⟩) (by assumption) ?_; rotate_left; (focus (intro w hSw; (try dsimp only at hSw); go_simp; (try with_reducible rfl); done)); (try simp only [put_rules]))
    (refine wpAnyH_take (i := 4) (v := undef) rfl (by kernel_rfl) (by kernel_rfl) (by kernel_rfl) (fun _ _ _ h => h) (Or.inr ⟨by rfl, rfl⟩) (by assumption) ?_; (try simp only [put_rules]))
    (refine wpAnyH_take (i := 5) (v := undef) rfl (by kernel_rfl) (by kernel_rfl) (by kernel_rfl) (fun _ _ _ h => h) (Or.inr ⟨by rfl, rfl⟩) (by assumption) ?_; (try simp only [put_rules]))
    (refine wpAnyH_take (i := 6) (v := undef) rfl (by kernel_rfl) (by kernel_rfl) (by kernel_rfl) (fun _ _ _ h => h) (Or.inr ⟨by rfl, rfl⟩) (by assumption) ?_; (try simp only [put_rules]))
    (refine wpAnyH_take (i := 7) (v := undef) rfl (by kernel_rfl) (by kernel_rfl) (by kernel_rfl) (fun _ _ _ h => h) (Or.inr ⟨by rfl, rfl⟩) (by assumption) ?_; (try simp only [put_rules]))
    (refine wpAnyH_take (i := 8) (v := undef) rfl (by kernel_rfl) (by kernel_rfl) (by kernel_rfl) (fun _ _ _ h => h) (Or.inr ⟨by rfl, rfl⟩) (by assumption) ?_; (try simp only [put_rules]))
    (refine wpAnyH_take (i := 9) (v := undef) rfl (by kernel_rfl) (by kernel_rfl) (by kernel_rfl) (fun _ _ _ h => h) (Or.inr ⟨by rfl, rfl⟩) (by assumption) ?_; (try simp only [put_rules]))
    (refine wpAnyH_take (i := 10) (v := ?_) rfl (by kernel_rfl) (by kernel_rfl) (by kernel_rfl) (fun _ _ _ h => h) (Or.inl ⟨by rfl, ?_⟩) (by assumption) ?_; rotate_left; (focus (intro w hSw; (try dsimp only at hSw); go_simp; (try with_reducible rfl); done)); (try simp only [put_rules]))
    (refine wpAnyH_ready (rs := [11]) (by kernel_rfl) (by simp) ?_; refine AllReadyH.cons rfl (fun K hK => ?_) AllReadyH.nil)
    go_simp
    refine hK.out _ _ ?_ (fun hS5 => ?_)
    · simp [hset, z2, d0, d1]
    clear hK
    (try simp only [put_rules])
    (refine wpAnyH_take (i := 12) (v := ?_) rfl (by kernel_rfl) (by kernel_rfl) (by kernel_rfl) (fun _ _ _ h => h) (Or.inl ⟨by rfl, ?_⟩) (by assumption) ?_; rotate_left; (focus (intro w hSw; (try dsimp only at hSw); go_simp; (try with_reducible rfl); done)); (try simp only [put_rules]))
    (refine wpAnyH_done (by kernel_rfl) ?_ _)
    clear hS4
    go_wp2_with fail
    refine bodyPost_ret (v := .tuple #[.agg #[.string (ms Q), .string (ms V)], .bool false]) (by simp [results, Tryd.results96, go_sem, z1, c0, c1']) rfl ?_
    unfold RecPost
    rw [HF.out, hgood'.out]
    exact ⟨rfl, (by repeat (first | exact bb _ | assumption | refine bal ?_ _ | refine bdr ?_ | refine bdn ?_ _ | refine bst ?_ (by simp <;> omega) _ | refine btr ?_ (by assumption)))⟩

theorem read_short {s : ByteArray} {k : Int} (h : (cutP 35 (bl s)).1.length < (Lib.itoa k ++ [32]).length ∨ (cutP 35 (bl s)).1.take (Lib.itoa k ++ [32]).length ≠ Lib.itoa k ++ [32]) : readB (bl s) k = (([], []), false) := by
  unfold readB; simp only; rw [if_pos h]

set_option maxHeartbeats 2000000 in
theorem l33Read_any (s : ByteArray) (k : Int) (w : World) (h0 : 0 ≤ k) (h1 : k ≤ 1000) (hs : s.size ≤ 1000000000) :
    Calls Tryd.prog 96 #[.string s, .int .i64 k] w (RecPost w (readB (bl s) k)) := by
  have hl := itoa_len h0 (by omega)
  have hcl := cutP_len 35 (bl s)
  rw [bl_length] at hcl
  obtain ⟨T, hT⟩ : ∃ T, T = (cutP 35 (bl s)).1 := ⟨_, rfl⟩
  rw [← hT] at hcl
  have e32 : bl (ms (Lib.itoa k) ++ ⟨#[32]⟩) = Lib.itoa k ++ [32] := by simp [bl_append, bl_ms, bl_lit]
  have z32 : (Lib.itoa k ++ [32]).length = (Lib.itoa k).length + 1 := by simp
  by_cases c1 : (T.length : Int) < (Lib.itoa k).length + 1
  · have HF : Hid (readB (bl s) k = (([], []), false)) := read_short (Or.inl (by rw [← hT, z32]; omega))
    have hT' := (show Hid (T = (cutP 35 (bl s)).1) from hT)
    clear hT e32 z32
    go_enter Tryd.func96, Tryd.ntmps96
    go_wp2_with fail
    refine (l1Num_pos _ _ h0 (by omega)).mono ?_
    rintro e w1 ⟨rfl, hb1⟩
    obtain ⟨hc1, hf1⟩ := bcell hb1
    have hs1 : w.heap.size < w1.heap.size := by have := hb1.size; simp at this; omega
    go_wp2_with fail
    refine (l1Split_head _ _ _ (by omega)).mono ?_
    rintro e w2 ⟨g, n, cap, rfl, hn0, hn1, hn2, hg, hg', hcell, hn3, hb2⟩
    rw [← hT'.out] at hcell
    obtain ⟨hc2, hf2⟩ := bcell hb2
    go_wp2_with fail
    refine bodyPost_ret (v := .tuple #[.agg #[.string (ms []), .string (ms [])], .bool false]) (by simp [results, Tryd.results96, go_sem, hc2, hc1, hs1]; rfl) rfl ?_
    unfold RecPost
    rw [HF.out]
    exact ⟨rfl, (by repeat (first | exact bb _ | assumption | refine bal ?_ _ | refine bdr ?_ | refine bdn ?_ _ | refine bst ?_ (by simp <;> omega) _ | refine btr ?_ (by assumption)))⟩
  have c1' : ((Lib.itoa k).length : Int) + 1 ≤ T.length := by omega
  have hx1 : bl ((ms T).extract 0 ((Lib.itoa k).length + 1)) = T.take (Lib.itoa k ++ [32]).length := by rw [bl_extract, bl_ms, z32]; simp
  by_cases c2 : T.take (Lib.itoa k ++ [32]).length = Lib.itoa k ++ [32]
  case neg =>
    have HF : Hid (readB (bl s) k = (([], []), false)) := read_short (Or.inr (by rw [← hT]; exact c2))
    have hb : (bl ((ms T).extract 0 ((Lib.itoa k).length + 1)) == bl (ms (Lib.itoa k) ++ ⟨#[32]⟩)) = false := by rw [hx1, e32]; simpa using c2
    have hT' := (show Hid (T = (cutP 35 (bl s)).1) from hT)
    clear hT e32 z32 hx1 c2 c1
    go_enter Tryd.func96, Tryd.ntmps96
    go_wp2_with fail
    refine (l1Num_pos _ _ h0 (by omega)).mono ?_
    rintro e w1 ⟨rfl, hb1⟩
    obtain ⟨hc1, hf1⟩ := bcell hb1
    have hs1 : w.heap.size < w1.heap.size := by have := hb1.size; simp at this; omega
    go_wp2_with fail
    refine (l1Split_head _ _ _ (by omega)).mono ?_
    rintro e w2 ⟨g, n, cap, rfl, hn0, hn1, hn2, hg, hg', hcell, hn3, hb2⟩
    rw [← hT'.out] at hcell
    obtain ⟨hc2, hf2⟩ := bcell hb2
    go_wp2_with fail
    refine bodyPost_ret (v := .tuple #[.agg #[.string (ms []), .string (ms [])], .bool false]) (by simp [results, Tryd.results96, go_sem, hc2, hc1, hs1]; rfl) rfl ?_
    unfold RecPost
    rw [HF.out]
    exact ⟨rfl, (by repeat (first | exact bb _ | assumption | refine bal ?_ _ | refine bdr ?_ | refine bdn ?_ _ | refine bst ?_ (by simp <;> omega) _ | refine btr ?_ (by assumption)))⟩
  have hb : (bl ((ms T).extract 0 ((Lib.itoa k).length + 1)) == bl (ms (Lib.itoa k) ++ ⟨#[32]⟩)) = true := by rw [hx1, e32]; simpa using c2
  obtain ⟨R, hR⟩ : ∃ R, R = T.drop (Lib.itoa k ++ [32]).length := ⟨_, rfl⟩
  have hRl : R.length ≤ T.length := by rw [hR, List.length_drop]; omega
  have hx : (ms T).extract ((Lib.itoa k).length + 1) T.length = ms R := by rw [hR, z32]; exact extract_ms _ _ _ rfl
  obtain ⟨Q, hQ⟩ : ∃ Q, Q = (cutP 64 R).1 := ⟨_, rfl⟩
  have hQl : Q.length ≤ R.length := by rw [hQ]; exact cutP_len _ _
  have HF0 : readB (bl s) k = (if Q.length = R.length then (([], []), false) else ((Q, R.drop (Q.length + 1)), goodB Q (R.drop (Q.length + 1)) && lineB k Q (R.drop (Q.length + 1)) == bl s ++ [10])) := by
    unfold readB; simp only
    rw [← hT, if_neg (by rw [z32]; intro hh; rcases hh with hh | hh; omega; exact hh (by rw [← z32]; exact c2)), ← hR, ← hQ]
  by_cases c3 : Q.length = R.length
  · have HF : Hid (readB (bl s) k = (([], []), false)) := by unfold Hid; rw [HF0, if_pos c3]
    have hq : ((Q.length : Int) == R.length) = true := by simp; omega
    have hT' := (show Hid (T = (cutP 35 (bl s)).1) from hT)
    have hQ' := (show Hid (Q = (cutP 64 R).1) from hQ)
    clear hT hQ hR HF0 e32 z32 hx1 c2 c1 c3
    go_enter Tryd.func96, Tryd.ntmps96
    go_wp2_with fail
    refine (l1Num_pos _ _ h0 (by omega)).mono ?_
    rintro e w1 ⟨rfl, hb1⟩
    obtain ⟨hc1, hf1⟩ := bcell hb1
    have hs1 : w.heap.size < w1.heap.size := by have := hb1.size; simp at this; omega
    go_wp2_with fail
    refine (l1Split_head _ _ _ (by omega)).mono ?_
    rintro e w2 ⟨g, n, cap, rfl, hn0, hn1, hn2, hg, hg', hcell, hn3, hb2⟩
    rw [← hT'.out] at hcell
    obtain ⟨hc2, hf2⟩ := bcell hb2
    have hs2 : w.heap.size < w2.heap.size := Nat.lt_of_lt_of_le hs1 hb2.size
    go_wp2_with fail
    refine (l1Split_head (ms R) _ _ (by rw [ms_size]; omega)).mono ?_
    rintro e w3 ⟨g2, n2, cap2, rfl, p0, p1, p2, pg, pg', pcell, p3, hb3⟩
    rw [bl_ms, ← hQ'.out] at pcell
    obtain ⟨hc3, hf3⟩ := bcell hb3
    go_wp2_with fail
    refine bodyPost_ret (v := .tuple #[.agg #[.string (ms []), .string (ms [])], .bool false]) (by simp [results, Tryd.results96, go_sem, hc3, hc2, hc1, hs1, hs2]; rfl) rfl ?_
    unfold RecPost
    rw [HF.out]
    exact ⟨rfl, (by repeat (first | exact bb _ | assumption | refine bal ?_ _ | refine bdr ?_ | refine bdn ?_ _ | refine bst ?_ (by simp <;> omega) _ | refine btr ?_ (by assumption)))⟩
  rw [if_neg c3] at HF0
  exact l33Read_full s k w T R Q (R.drop (Q.length + 1)) h0 h1 hs hl hcl c1' hb hx hRl hQl (extract_ms _ _ _ rfl) (by rw [List.length_drop]; omega) (by simp; omega) (by omega) HF0 hT hQ
end Go.Proofs.YtfcekfomhpmgpaaDoor
