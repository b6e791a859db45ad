/- Contracts: inequalities that are made of others, in the program. -/
import Derived.Test.YtcdgpekefiplnaaPnD
namespace Go.Proofs.Ytcdgpekefiplnaa
open Go.RowKit

def Near (x : Int) : Prop := -10000 ≤ x ∧ x ≤ 10000
/-- A function of two numbers, told by what it answers. -/
def Fn2 (w0 : World) (g : FuncId) (cb : Array Value) (f : Int → Int → Int) : Prop :=
  ∀ (x y : Int) w, Near x → Near y → Below w0.heap.size w0 w → Calls Try.prog g (#[.int .i64 x, .int .i64 y] ++ cb) w fun e w' => e = .returned (.int .i64 (f x y)) ∧ Below w.heap.size w w'
def combK (f : Int → Int → Int) (cs ds : List Int) (k : Nat) : List Int := (List.range k).map fun i => f (cs.getD i 0) (ds.getD i 0)
theorem combK_succ (f : Int → Int → Int) (cs ds : List Int) {k : Nat} (h1 : k < cs.length) (h2 : k < ds.length) : combK f cs ds (k + 1) = combK f cs ds k ++ [f cs[k] ds[k]] := by
  simp [combK, List.range_succ, List.getD_eq_getElem?_getD, h1, h2]
theorem combK_len (f : Int → Int → Int) (cs ds : List Int) (k : Nat) : (combK f cs ds k).length = k := by simp [combK]
theorem combK_64 {f : Int → Int → Int} {cs ds : List Int} (hc : ∀ c ∈ cs, Near c) (hd : ∀ c ∈ ds, Near c) (h : ∀ x y, Near x → Near y → I64 (f x y)) (k : Nat) : ∀ c ∈ combK f cs ds k, I64 c := by
  have hz : ∀ (cs : List Int) (i : Nat), (∀ c ∈ cs, Near c) → Near (cs.getD i 0) := by
    intro cs i hc
    rw [List.getD_eq_getElem?_getD]
    rcases Nat.lt_or_ge i cs.length with hk | hk
    · rw [List.getElem?_eq_getElem hk]; exact hc _ (List.getElem_mem hk)
    · rw [List.getElem?_eq_none hk]; simp [Near]
  intro c hcm
  simp only [combK, List.mem_map] at hcm
  obtain ⟨i, _, rfl⟩ := hcm
  exact h _ _ (hz cs i hc) (hz ds i hd)
/-- An inequality is given back. -/
def QPost (w : World) (b : Int) (cs : List Int) (e : Ending) (w' : World) : Prop :=
  ∃ A c, e = .returned (.agg #[.slice A cs.length c, .int .i64 b]) ∧ IntsAt w' A cs ∧ (∀ a, A = some a → w.heap.size ≤ a.block) ∧ Below w.heap.size w w'
theorem own_fresh {w : World} {B : Nat} {e : TypeId} {A : Option Addr} {n c : Nat} {xs : List Value} (h : w.ownsRow B e 1 (.slice A n c) n xs) : ∀ a, A = some a → B ≤ a.block := by
  intro a ha
  subst ha
  obtain ⟨_, ⟨h0, _⟩ | ⟨g, cap, cur, h0, h1, _⟩⟩ := h
  · cases h0
  · cases h0
    exact h1
theorem q_own {w : World} {B : Nat} {e : TypeId} {A : Option Addr} {c : Nat} {cs : List Int} (h : w.ownsRow B e 1 (.slice A cs.length c) cs.length (cs.map (.int .i64))) (hok : ∀ c ∈ cs, I64 c) : IntsAt w A cs := by
  obtain ⟨A', c', e', h2⟩ := ints_own h hok
  cases e'
  exact h2

set_option maxRecDepth 100000 in
set_option maxHeartbeats 4000000 in
theorem combined_any {g : FuncId} {cb : Array Value} {f : Int → Int → Int} (eg : Enter1 g) (cs ds : List Int) (b d : Int) (A B : Option Addr) (ca da : Nat) (w : World) (hx : IntsAt w A cs) (hy : IntsAt w B ds) (hl : cs.length ≤ 12) (hd : ds.length = cs.length)
    (hc : ∀ c ∈ cs, Near c) (hcd : ∀ c ∈ ds, Near c) (hb : Near b) (he : Near d) (h64 : ∀ x y, Near x → Near y → I64 (f x y)) (hf : Fn2 w g cb f) :
    Calls Try.prog 52 #[.agg #[.slice A cs.length ca, .int .i64 b], .agg #[.slice B cs.length da, .int .i64 d], .func (.func g) #[] cb] w (QPost w (f b d) (combK f cs ds cs.length)) := by
  unfold Enter1 at eg
  obtain ⟨i0, hi, hz0, hz1, hz2⟩ := info_parts infoInt
  have S0 := ((Sp.start w).alloc_box #[.slice A cs.length ca, .int .i64 b] 26).alloc_box #[.slice B cs.length da, .int .i64 d] 26 |>.alloc_box #[.slice none 0 0, .int .i64 0] 26
  simp only [World.size_alloc] at S0
  have c0 := S0.cell (i := 2) rfl (o := 1) rfl
  have c1 := S0.cell (i := 1) rfl (o := 1) rfl
  have c2 := S0.cell (i := 2) rfl (o := 0) rfl
  have hcall := Lib.hid (hf b d _ hb he S0.below)
  replace S0 := Lib.hid S0
  have hfH := Lib.hid hf
  have hxH := Lib.hid hx
  have hyH := Lib.hid hy
  have hcH := Lib.hid hc
  have hdH := Lib.hid hcd
  have h64H := Lib.hid h64
  have hbH := Lib.hid (combK_64 hc hcd h64)
  replace hd := Lib.hid hd
  clear hx hy hc hcd hf h64
  go_enter Try.func52, Try.ntmps52
  go_wp2_with fail
  refine hcall.out.mono ?_
  rintro e w1 ⟨rfl, hb1⟩
  have S1 := (S0.out.grow hb1).alloc_box #[.slice none 0 0, .int .i64 (f b d)] 26 |>.own_nil 3 1
  obtain ⟨ob, hob⟩ : ∃ ob, w1.heap.size = ob := ⟨_, rfl⟩
  rw [hob] at S1
  obtain ⟨z, hz⟩ : ∃ z, f b d = z := ⟨_, rfl⟩
  rw [hz] at S1
  have d0 := S1.cell (i := 4) rfl (o := 0) rfl
  replace S1 := Lib.hid S1
  clear S0 hcall hb1 c0 c1 c2
  go_wp2_with fail
  (try rw [hz])
  (try rw [hob])
  go_loopw [20] (fun i wr => ∃ (k : Nat) (Bk : Option Addr) (cap : Nat), k ≤ cs.length ∧ i = .int .i64 k ∧ Hid (Sp w wr [Own 3 1 (.slice Bk k cap) k ((combK f cs ds k).map (.int .i64)), Box ob 26 #[.slice Bk k cap, .int .i64 z], Box (w.heap.size + 1 + 1) 26 #[.slice none 0 0, .int .i64 0], Box (w.heap.size + 1) 26 #[.slice B cs.length da, .int .i64 d], Box w.heap.size 26 #[.slice A cs.length ca, .int .i64 b]])) (fun i _ => cs.length - (intOf i).toNat)
  case atStart => exact ⟨0, none, 0, Nat.zero_le _, rfl, S1⟩
  case round =>
    obtain ⟨k, Bk, cap, hk, rfl, HS⟩ := hrel
    clear S1 d0
    by_cases hlt : k < cs.length
    · obtain ⟨ab, off, rfl, m0⟩ := (hxH.out.grow HS.out.below).at_ k hlt
      obtain ⟨ab2, off2, rfl, m1⟩ := (hyH.out.grow HS.out.below).at_ k (by rw [hd.out]; exact hlt)
      have hk2 : k < ds.length := by rw [hd.out]; exact hlt
      have hcall := Lib.hid (fun W h => hfH.out cs[k] ds[k] W (hcH.out _ (List.getElem_mem hlt)) (hdH.out _ (List.getElem_mem hk2)) h)
      have hsn := Lib.hid (combK_succ f cs ds hlt hk2)
      have hm1 := Lib.hid (fun W (h : Below wr.heap.size wr W) => ((bcell h).1 _ _ (World.block_lt_of_cell? _ _ m1)).trans m1)
      generalize cs[k] = x at *
      generalize ds[k] = y at *
      have d0 := HS.out.cell (i := 1) rfl (o := 0) rfl
      have d1 := HS.out.cell (i := 3) rfl (o := 0) rfl
      have hB0 := Lib.hid HS.out.drew.below
      go_wp2_with fail
      refine wp_region_tail_lit (S := (fun w' => w'.cell? ⟨ob, 0, none⟩ = some (.slice Bk k cap) ∧ w'.cell? ⟨w.heap.size + 1, 0, none⟩ = some (.slice (some ⟨ab2, off2, none⟩) cs.length da) ∧ w'.cell? ⟨ab2, off2 + k, none⟩ = some (.int .i64 y))) 11 [false, false, false, false, false, false, false, false, false, false, false, false, false, false] (by kernel_rfl) (by kernel_rfl) (by kernel_rfl) ?_ ?_
      · exact ⟨d0, d1, m1⟩
      intro hSc
      (refine walkT_take (i := 0) (v := ?_) rfl (by kernel_rfl) (by decide) (by kernel_rfl) (by kernel_rfl) (fun _ _ _ h => h) (Or.inl ⟨by rfl, ?_⟩) (by assumption) ?_; rotate_left; (focus (intro w hSw; (try dsimp only at hSw); go_simp; (try with_reducible rfl); done)); (try simp only [put_rules]))
      (refine walkT_take (i := 1) (v := ?_) rfl (by kernel_rfl) (by decide) (by kernel_rfl) (by kernel_rfl) (fun _ _ _ h => h) (Or.inl ⟨by rfl, ?_⟩) (by assumption) ?_; rotate_left; (focus (intro w hSw; (try dsimp only at hSw); go_simp; (try with_reducible rfl); done)); (try simp only [put_rules]))
      (refine walkT_take (i := 2) (v := ?_) rfl (by kernel_rfl) (by decide) (by kernel_rfl) (by kernel_rfl) (fun _ _ _ h => h) (Or.inl ⟨by rfl, ?_⟩) (by assumption) ?_; rotate_left; (focus (intro w hSw; (try dsimp only at hSw); go_simp; (try with_reducible rfl); done)); (try simp only [put_rules]))
      (refine walkT_take (i := 3) (v := ?_) rfl (by kernel_rfl) (by decide) (by kernel_rfl) (by kernel_rfl) (fun _ _ _ h => h) (Or.inl ⟨by rfl, ?_⟩) (by assumption) ?_; rotate_left; (focus (intro w hSw; (try dsimp only at hSw); go_simp; (try with_reducible rfl); done)); (try simp only [put_rules]))
      (refine walkT_take (i := 4) (v := ?_) rfl (by kernel_rfl) (by decide) (by kernel_rfl) (by kernel_rfl) (fun _ _ _ h => h) (Or.inl ⟨by rfl, ?_⟩) (by assumption) ?_; rotate_left; (focus (intro w hSw; (try dsimp only at hSw); go_simp; (try with_reducible rfl); done)); (try simp only [put_rules]))
      (refine walkT_take (i := 5) (v := ?_) rfl (by kernel_rfl) (by decide) (by kernel_rfl) (by kernel_rfl) (fun _ _ _ h => h) (Or.inl ⟨by rfl, ?_⟩) (by assumption) ?_; rotate_left; (focus (intro w hSw; (try dsimp only at hSw); go_simp; (try with_reducible rfl); done)); (try simp only [put_rules]))
      (refine walkT_take (i := 6) (v := ?_) rfl (by kernel_rfl) (by decide) (by kernel_rfl) (by kernel_rfl) (fun _ _ _ h => h) (Or.inl ⟨by rfl, ?_⟩) (by assumption) ?_; rotate_left; (focus (intro w hSw; (try dsimp only at hSw); go_simp; (try with_reducible rfl); done)); (try simp only [put_rules]))
      (refine walkT_take (i := 7) (v := ?_) rfl (by kernel_rfl) (by decide) (by kernel_rfl) (by kernel_rfl) (fun _ _ _ h => h) (Or.inl ⟨by rfl, ?_⟩) (by assumption) ?_; rotate_left; (focus (intro w hSw; (try dsimp only at hSw); go_simp; (try with_reducible rfl); done)); (try simp only [put_rules]))
      (refine walkT_take (i := 8) (v := ?_) rfl (by kernel_rfl) (by decide) (by kernel_rfl) (by kernel_rfl) (fun _ _ _ h => h) (Or.inl ⟨by rfl, ?_⟩) (by assumption) ?_; rotate_left; (focus (intro w hSw; (try dsimp only at hSw); go_simp; (try with_reducible rfl); done)); (try simp only [put_rules]))
      (refine walkT_ready (rs := [9]) (by kernel_rfl) (by simp) (by decide) ?_; refine AllT.cons rfl (fun K hK => ?_) AllT.nil)
      go_simp
      refine (hcall.out _ hB0.out).mono ?_
      rintro e w3 ⟨rfl, hb3⟩
      obtain ⟨u, hu⟩ : ∃ u, f x y = u := ⟨_, rfl⟩
      rw [hu] at hsn
      have S2 := Lib.hid (HS.out.drew.grow hb3)
      have e0 := S2.out.cell (i := 1) rfl (o := 0) rfl
      have e1 := S2.out.cell (i := 3) rfl (o := 0) rfl
      have e2 := hm1.out w3 (btr (bdr (bb _)) hb3)
      have hm3 := Lib.hid e2
      clear HS hcall hB0 hm1 hSc d0 d1 m0 m1 hb3
      go_wp2_with fail
      try rw [hu]
      refine hK.out _ _ ⟨e0, e1, e2⟩ (fun _ => ?_)
      clear hK e0 e1 e2
      (try simp only [put_rules])
      (refine walkT_ready (rs := [10]) (by kernel_rfl) (by simp) (by decide) ?_; refine AllT.cons rfl (fun K hK => ?_) AllT.nil)
      go_simp
      have S3 := S2.out.alloc_box #[.int .i64 u] 3
      have kB := S3.cell (i := 0) rfl (o := 0) rfl
      have e0 := S3.cell (i := 2) rfl (o := 0) rfl
      replace S3 := Lib.hid S3
      have e1 := S3.out.cell (i := 4) rfl (o := 0) rfl
      have e2 := ((bcell (bal (bb w3) (.cells #[.int .i64 u] 3))).1 _ _ (World.block_lt_of_cell? _ _ hm3.out)).trans hm3.out
      clear S2
      refine hK.out _ _ ⟨e0, e1, e2⟩ (fun _ => ?_)
      clear hK e0 e1 e2
      (try simp only [put_rules])
      (refine walkT_done (by kernel_rfl) ?_)
      simp only [List.drop_succ_cons, List.drop_zero]
      (refine wpList_append_src rfl _ _ rfl Try.underlying24 hi hz0 hz1 hz2 rfl (by decide) _ _ _ rfl (S3.out.own (i := 1) rfl) _ 1 1 [.int .i64 u] rfl (Src.one kB) (by simp [Value.oneCell']) (by unfold maxLen; omega) (by omega) ?_; intro vZ wZ hownZ hgZ hatZ)
      have S4 := S3.out.own_push (i := 1) rfl (bb _) hownZ hgZ hatZ
      obtain ⟨aZ, cZ, rfl⟩ := owns_form hownZ
      have p0 := S4.frozen (i := 2) rfl 0
      have j0 := S4.cell (i := 2) rfl (o := 0) rfl
      have S5 := (S4.store (i := 2) rfl 0 (.slice aZ (k + 1) cZ)).tail
      have hmap : (combK f cs ds k).map (Value.int .i64) ++ [.int .i64 u] = (combK f cs ds (k + 1)).map (.int .i64) := by rw [hsn.out, List.map_append]; rfl
      rw [hmap] at S5
      have S6 := Lib.hid S5
      clear S3 S4 S5 kB hownZ hgZ hatZ
      go_wp2_with fail
      go_roundw
      case rel => exact ⟨k + 1, aZ, cZ, by omega, by go_num, S6⟩
      case measure => simp [intOf]; omega
    · have hge : ¬ (k : Int) < (cs.length : Int) := by omega
      obtain rfl : k = cs.length := by omega
      have d0 := HS.out.cell (i := 1) rfl (o := 0) rfl
      have d1 := HS.out.cell (i := 1) rfl (o := 1) rfl
      have r0 := HS.out.cell (i := 2) rfl (o := 0) rfl
      have r1 := HS.out.cell (i := 2) rfl (o := 1) rfl
      have f0 := HS.out.frozen (i := 2) rfl 0
      have f1 := HS.out.frozen (i := 2) rfl 1
      have SF := (HS.out.store (i := 2) rfl 0 (.slice Bk cs.length cap)).store (i := 2) rfl 1 (.int .i64 z)
      have j0 := SF.cell (i := 2) rfl (o := 0) rfl
      have j1 := SF.cell (i := 2) rfl (o := 1) rfl
      have hI := Lib.hid (q_own (cs := combK f cs ds cs.length) (A := Bk) (c := cap) (by have h := SF.own (i := 0) rfl; rw [combK_len]; exact h) (hbH.out _))
      have hfr := Lib.hid (own_fresh (SF.owns_end (i := 0) rfl))
      have hB := SF.below
      clear HS SF
      go_wp2_with fail
      exact bodyPost_ret (v := .agg #[.slice Bk cs.length cap, .int .i64 z]) (by simp [results, Try.results52, go_sem, j0, j1]) rfl (by unfold QPost; (try rw [hz]); rw [combK_len]; exact ⟨Bk, cap, rfl, hI.out, hfr.out, hB⟩)
end Go.Proofs.Ytcdgpekefiplnaa
