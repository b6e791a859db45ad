/- Contracts: records and logs that are drawn. -/
import Derived.Test.YtfcekfomhpmgpaaDoorCurB
import Derived.Laws.IdiomStrings
namespace Go.Proofs.YtfcekfomhpmgpaaDoor
open Go.RowKit

/-- As Sp, while the blocks of G may turn, which were there. -/
def SpG (G : List Nat) (w0 w : World) (ps : List Asn) : Prop := Chg G w0 w ∧ (∀ b ∈ G, b < w0.heap.size) ∧ ∃ F, sep ps w F ∧ ∀ b ∈ F, w0.heap.size ≤ b
section
variable {G : List Nat} {w0 w w' : World} {ps : List Asn} {i b o : Nat} {t : TypeId} {cs : Array Value}
theorem SpG.start (w : World) (hG : ∀ b ∈ G, b < w.heap.size) : SpG G w w [] := ⟨Chg.refl _ _, hG, [], rfl, by simp⟩
theorem SpG.grow (h : SpG G w0 w ps) (hb : Below w.heap.size w w') : SpG G w0 w' ps := by
  obtain ⟨h1, h0, F, h2, h3⟩ := h
  exact ⟨h1.then hb, h0, F, sep_keep h2 fun b hm => hb.block b (sep_lt h2 b hm), h3⟩
theorem SpG.chg (h : SpG G w0 w ps) (hc : Chg G w w') : SpG G w0 w' ps := by
  obtain ⟨h1, h0, F, h2, h3⟩ := h
  exact ⟨h1.trans hc, h0, F, sep_keep h2 fun b hm => hc.block b (sep_lt h2 b hm) fun hb => by have := h0 b hb; have := h3 b hm; omega, h3⟩
theorem SpG.alloc (h : SpG G w0 w ps) (o : Obj) : SpG G w0 (w.alloc o) ps := h.grow (bal (bb _) o)
theorem SpG.alloc_box (h : SpG G w0 w ps) (cs : Array Value) (t : TypeId) : SpG G w0 (w.alloc (.cells cs t)) (Box w.heap.size t cs :: ps) := by
  obtain ⟨h1, h0, F, h2, h3⟩ := h
  refine ⟨h1.alloc _, h0, [w.heap.size] ++ F, ⟨_, F, rfl, fun b hb hb2 => ?_, ⟨rfl, heap_alloc_new w _⟩, sep_keep h2 fun b hm => heap_alloc_old w _ (sep_lt h2 b hm)⟩, fun b hm => ?_⟩
  · obtain rfl : b = w.heap.size := by simpa using hb
    exact absurd (sep_lt h2 _ hb2) (by omega)
  · rcases List.mem_append.1 hm with hm | hm
    · obtain rfl : b = w.heap.size := by simpa using hm
      exact h1.size
    · exact h3 b hm
theorem SpG.box (h : SpG G w0 w ps) (hi : ps[i]? = some (Box b t cs)) : w0.heap.size ≤ b ∧ b < w.heap.size ∧ w.heap[b]? = some (.cells cs t (0, 0)) := by
  obtain ⟨h1, h0, F, h2, h3⟩ := h
  obtain ⟨Fi, hp, hs, _⟩ := sep_upd h2 hi
  have hlt := (Box b t cs).lt hp b
  obtain ⟨rfl, hh⟩ := hp
  exact ⟨h3 b (hs b (by simp)), hlt (by simp), hh⟩
theorem SpG.cell (h : SpG G w0 w ps) (hi : ps[i]? = some (Box b t cs)) {u : Value} (ho : cs[o]? = some u) : w.cell? ⟨b, o, none⟩ = some u := by
  simp [World.cell?, (h.box hi).2.2, ho]
theorem SpG.frozen (h : SpG G w0 w ps) (hi : ps[i]? = some (Box b t cs)) (o : Nat) : w.frozen? ⟨b, o, none⟩ = false := by
  simp [World.frozen?, (h.box hi).2.2]
theorem SpG.store (h : SpG G w0 w ps) (hi : ps[i]? = some (Box b t cs)) (o : Nat) (u : Value) : SpG G w0 (w.setCell ⟨b, o, none⟩ u) (ps.set i (Box b t (cs.setIfInBounds o u))) := by
  have hb := h.box hi
  obtain ⟨h1, h0, F, h2, h3⟩ := h
  obtain ⟨Fi, hp, hs, hall⟩ := sep_upd h2 hi
  obtain ⟨rfl, hh⟩ := hp
  have hc : Chg [b] w (w.setCell ⟨b, o, none⟩ u) := (Chg.refl _ _).set (by simp) _
  obtain ⟨F', h4, h5⟩ := hall _ (Box b t (cs.setIfInBounds o u)) [b] hc ⟨rfl, by simp [World.setCell, Array.getElem?_modify, hh]⟩ (fun b hb => .inl hb)
  refine ⟨?_, h0, F', h4, fun b' hm => (h5 b' hm).elim (h3 b') (Nat.le_trans h1.size)⟩
  exact ⟨h1.os, h1.tape, h1.output, by rw [show (w.setCell ⟨b, o, none⟩ u).heap.size = w.heap.size by simp [World.setCell]]; exact h1.size, fun k hk hn => by
    rw [Below.heap_setCell _ _ _ _ (show k ≠ b by omega)]; exact h1.block k hk hn⟩
end

theorem strs_new {R : ByteArray → Prop} {W : World} {cs : Array Value} {t : TypeId} {b n : Nat} (hb : b = W.heap.size) (h : ∀ j, j < n → ∃ s, cs[j]? = some (.string s) ∧ R s) : StrsR R (W.alloc (.cells cs t)) b 0 n := fun j hj => by
  obtain ⟨s, h1, h2⟩ := h j hj
  subst hb
  refine ⟨s, h2, ?_⟩
  rw [Nat.zero_add]
  exact (cell_of_row _ _ _ _ _ _ (heap_alloc_new W _)).trans h1
theorem ints_new {lo hi : Int} {W : World} {cs : Array Value} {t : TypeId} {b n : Nat} (hb : b = W.heap.size) (h : ∀ j, j < n → ∃ x, cs[j]? = some (.int .i64 x) ∧ lo ≤ x ∧ x ≤ hi) : ∀ j, j < n → ∃ x, lo ≤ x ∧ x ≤ hi ∧ (W.alloc (.cells cs t)).cell? ⟨b, 0 + j, none⟩ = some (.int .i64 x) := fun j hj => by
  obtain ⟨x, h1, h2, h3⟩ := h j hj
  subst hb
  refine ⟨x, h2, h3, ?_⟩
  rw [Nat.zero_add]
  exact (cell_of_row _ _ _ _ _ _ (heap_alloc_new W _)).trans h1
theorem size_le {n : Nat} {s : ByteArray} (h : decide (s.size ≤ n) = true) : SizeLe n s := show s.size ≤ n from of_decide_eq_true h

theorem CurIs.stay {A A' g cl cc : Nat} {ca : Option Addr} {w W W' : World} (h : CurIs A g ca cl cc w) (hi : CurIs A' g ca cl cc W) (hk : ∀ k, k < w.heap.size → W'.heap[k]? = W.heap[k]?) : CurIs A' g ca cl cc W' := by
  have hg := h.lt
  have hl := h.code
  obtain ⟨⟨i, s, h1, h2⟩, h3, h4, h5⟩ := hi
  refine ⟨⟨i, s, (hk g hg).trans h1, h2⟩, ?_, h4, h5⟩
  rcases Nat.eq_zero_or_pos cl with rfl | hp
  · exact .zero _ _
  · exact h3.keep fun a ha => hk _ (hl.lt hp a ha)

/-- A record of short texts. -/
def RecR (n : Nat) (v : Value) : Prop := ∃ q r : ByteArray, q.size ≤ n ∧ r.size ≤ n ∧ v = .agg #[.string q, .string r]

theorem conv3 {P : Program} (src dst e : TypeId) (hs : P.underlying src = some (.slice e)) (he : P.underlying e = some (.int .u8)) (hd : P.underlying dst = some .string) (w : World) :
    (convert src dst (.slice (some ⟨w.heap.size, 0, none⟩) 3 3)).run P (w.alloc (.cells #[.int .u8 0, .int .u8 0, .int .u8 0] e)) = .ok (.string (ms [0, 0, 0])) (w.alloc (.cells #[.int .u8 0, .int .u8 0, .int .u8 0] e)) := by
  have := run_convert_bytes_back (P := P) (w.alloc (.cells #[.int .u8 0, .int .u8 0, .int .u8 0] e)) src dst e ⟨w.heap.size, 0, none⟩ 3 [0, 0, 0] hs he hd (fun j hj => by
    rw [add_none]
    match j, hj with
    | 0, _ => simp
    | 1, _ => simp
    | 2, _ => simp)
  exact this

set_option maxRecDepth 100000 in
set_option maxHeartbeats 4000000 in
theorem cur_logRecord (A g : Nat) (ca : Option Addr) (cl cc : Nat) (w : World) (h : CurIs A g ca cl cc w) (hA : A ≤ 80000000) :
    Calls Tryd.prog 86 #[.pointer (some ⟨g, 0, none⟩)] w (CurPost (RecR 20) (A + 8) g ca cl cc w) := by
  have hg := h.lt
  have hmk : ∀ w : World, (Instr.makeSlice 53 (.int .i64 3) (.int .i64 3)).run Tryd.prog w = .ok (.slice (some ⟨w.heap.size, 0, none⟩) 3 3) (w.alloc (.cells #[.int .u8 0, .int .u8 0, .int .u8 0] 5)) := fun _ => by kernel_rfl
  have hcv := conv3 (P := Tryd.prog) 53 9 5 Tryd.underlying53 Tryd.underlying5 Tryd.underlying9
  have S0 := Lib.hid ((SpG.start (G := [g]) w (by simpa using hg)).alloc_box #[.string ⟨#[]⟩, .string ⟨#[]⟩] 27)
  go_enter Tryd.func86, Tryd.ntmps86
  go_wp2_with fail
  refine (cur_of (SizeLe 20) (w.heap.size + 1) 0 5 5 A g ca cl cc _ (h.grow (by repeat (first | exact bb _ | assumption | refine bal ?_ _ | refine bdr ?_ | refine bdn ?_ _ | refine bst ?_ (by simp <;> omega) _ | refine btr ?_ (by assumption)))) (by omega) (by decide) (by decide) ?_ (by omega)).mono ?_
  · refine strs_new (by simp) fun j hj => ?_
    match j, hj with
    | 0, _ => exact ⟨_, rfl, size_le (by decide)⟩
    | 1, _ => exact ⟨_, rfl, size_le (by decide)⟩
    | 2, _ => exact ⟨_, rfl, size_le (by decide)⟩
    | 3, _ => exact ⟨_, rfl, size_le (by decide)⟩
    | 4, _ => exact ⟨_, rfl, size_le (by decide)⟩
  rintro e w1 ⟨_, ⟨s1, hs1, rfl⟩, rfl, hi1, hc1⟩
  have S1 := (S0.out.alloc (.cells #[.string ⟨#[99, 111, 117, 110, 116]⟩, .string ⟨#[115, 111, 114, 116, 32, 109, 101, 114, 103, 101]⟩, .string ⟨#[120]⟩, .string ⟨#[115, 101, 108, 101, 99, 116, 32, 50]⟩, .string ⟨#[48, 32, 49]⟩] 9)).chg hc1
  have hg1 := hi1.lt
  replace S1 := Lib.hid S1
  clear S0 hc1
  go_wp2_with fail
  refine (cur_of (SizeLe 20) w1.heap.size 0 5 5 (A + 2) g ca cl cc _ (hi1.grow (by repeat (first | exact bb _ | assumption | refine bal ?_ _ | refine bdr ?_ | refine bdn ?_ _ | refine bst ?_ (by simp <;> omega) _ | refine btr ?_ (by assumption)))) (by omega) (by decide) (by decide) ?_ (by omega)).mono ?_
  · refine strs_new (by simp) fun j hj => ?_
    match j, hj with
    | 0, _ => exact ⟨_, rfl, size_le (by decide)⟩
    | 1, _ => exact ⟨_, rfl, size_le (by decide)⟩
    | 2, _ => exact ⟨_, rfl, size_le (by decide)⟩
    | 3, _ => exact ⟨_, rfl, size_le (by decide)⟩
    | 4, _ => exact ⟨_, rfl, size_le (by decide)⟩
  rintro e w2 ⟨_, ⟨s2, hs2, rfl⟩, rfl, hi2, hc2⟩
  have S2 := ((S1.out.alloc _).chg hc2).alloc_box #[.string s1, .string s2] 27
  have hg2 := hi2.lt
  have S2b := Lib.hid ((S1.out.alloc (.cells #[.string ⟨#[]⟩, .string ⟨#[51]⟩, .string ⟨#[63]⟩, .string ⟨#[97, 64, 98]⟩, .string ⟨#[51, 32, 49, 32, 50]⟩] 9)).chg hc2)
  replace S2 := Lib.hid S2
  clear S1 hc2
  go_wp2_with fail
  refine (cur_pick_at (lo := 0) (hi := 23) (hi2.grow (by repeat (first | exact bb _ | assumption | refine bal ?_ _ | refine bdr ?_ | refine bdn ?_ _ | refine bst ?_ (by simp <;> omega) _ | refine btr ?_ (by assumption)))) (by omega) (by omega) (by omega) (by omega) (by omega)).mono ?_
  rintro e w3 ⟨_, ⟨x, hx0, hx1, rfl⟩, rfl, hi3, hc3⟩
  have S3 := S2.out.chg hc3
  have hg3 := hi3.lt
  have e0 := S3.cell (i := 0) rfl (o := 0) rfl
  have e1 := S3.cell (i := 0) rfl (o := 1) rfl
  have f0 := S3.frozen (i := 0) rfl 0
  have f1 := S3.frozen (i := 0) rfl 1
  have r0 := S3.cell (i := 1) rfl (o := 0) rfl
  have r1 := S3.cell (i := 1) rfl (o := 1) rfl
  have q0 := S3.frozen (i := 1) rfl 0
  have q1 := S3.frozen (i := 1) rfl 1
  replace S3 := Lib.hid S3
  clear S2 hc3
  by_cases hxa : x = 0
  · subst hxa
    clear hx0 hx1
    go_wp2_with fail
    refine (cur_of (SizeLe 20) (w3.heap.size + 1) 0 5 5 (A + 6) g ca cl cc _ (hi3.grow (by repeat (first | exact bb _ | assumption | refine bal ?_ _ | refine bdr ?_ | refine bdn ?_ _ | refine bst ?_ (by simp <;> omega) _ | refine btr ?_ (by assumption)))) (by omega) (by decide) (by decide) ?_ (by omega)).mono ?_
    · refine strs_new (by simp) fun j hj => ?_
      match j, hj with
      | 0, _ => exact ⟨_, rfl, size_le (by decide)⟩
      | 1, _ => exact ⟨_, rfl, size_le (by decide)⟩
      | 2, _ => exact ⟨_, rfl, size_le (by decide)⟩
      | 3, _ => exact ⟨_, rfl, size_le (by decide)⟩
      | 4, _ => exact ⟨_, rfl, size_le (by decide)⟩
    rintro e w4 ⟨_, ⟨s3, hs3, rfl⟩, rfl, hi4, hc4⟩
    have S4 := ((S3.out.alloc _).alloc _).chg hc4
    clear e0 e1 f0 f1 r0 r1 q0 q1
    have e0 := S4.cell (i := 0) rfl (o := 0) rfl
    have e1 := S4.cell (i := 0) rfl (o := 1) rfl
    have f0 := S4.frozen (i := 0) rfl 0
    have f1 := S4.frozen (i := 0) rfl 1
    have r0 := S4.cell (i := 1) rfl (o := 0) rfl
    have r1 := S4.cell (i := 1) rfl (o := 1) rfl
    have q0 := S4.frozen (i := 1) rfl 0
    have q1 := S4.frozen (i := 1) rfl 1
    have hne : w2.heap.size ≠ w.heap.size := by have := hi2.lt; have h5 := (S2b.out.box (i := 0) rfl).2.1; omega
    replace S4 := Lib.hid S4
    clear S3 hc4
    have hE := (S4.out.box (i := 0) rfl).1
    have hR := (S4.out.box (i := 1) rfl).1
    have hF := ((S4.out.store (i := 0) rfl 0 (.string s3)).store (i := 1) rfl 0 (.string s3)).store (i := 1) rfl 1 (.string s2)
    have hC := hF.1
    replace hC := Lib.hid hC
    clear hF
    go_wp2_with fail
    exact bodyPost_ret (v := .agg #[.string s3, .string s2]) (by simp [results, Tryd.results86, go_sem, r0, r1, e0, e1]) rfl ⟨_, ⟨s3, s2, by assumption, by assumption, rfl⟩, rfl, h.stay (hi4) (fun k hk => by rw [Below.heap_setCell _ _ _ _ (show k ≠ w.heap.size by omega), Below.heap_setCell _ _ _ _ (show k ≠ w.heap.size by omega), Below.heap_setCell _ _ _ _ (show k ≠ w2.heap.size by omega)]), hC.out⟩
  by_cases hxb : x = 1
  · subst hxb
    clear hx0 hx1
    go_wp2_with fail
    refine (cur_of (SizeLe 20) (w3.heap.size) 0 3 3 (A + 6) g ca cl cc _ (hi3.grow (by repeat (first | exact bb _ | assumption | refine bal ?_ _ | refine bdr ?_ | refine bdn ?_ _ | refine bst ?_ (by simp <;> omega) _ | refine btr ?_ (by assumption)))) (by omega) (by decide) (by decide) ?_ (by omega)).mono ?_
    · refine strs_new (by simp) fun j hj => ?_
      match j, hj with
      | 0, _ => exact ⟨_, rfl, size_le (by decide)⟩
      | 1, _ => exact ⟨_, rfl, size_le (by decide)⟩
      | 2, _ => exact ⟨_, rfl, size_le (by decide)⟩
    rintro e w4 ⟨_, ⟨s3, hs3, rfl⟩, rfl, hi4, hc4⟩
    have S4 := (S3.out.alloc _).chg hc4
    clear e0 e1 f0 f1 r0 r1 q0 q1
    have e0 := S4.cell (i := 0) rfl (o := 0) rfl
    have e1 := S4.cell (i := 0) rfl (o := 1) rfl
    have f0 := S4.frozen (i := 0) rfl 0
    have f1 := S4.frozen (i := 0) rfl 1
    have r0 := S4.cell (i := 1) rfl (o := 0) rfl
    have r1 := S4.cell (i := 1) rfl (o := 1) rfl
    have q0 := S4.frozen (i := 1) rfl 0
    have q1 := S4.frozen (i := 1) rfl 1
    have hne : w2.heap.size ≠ w.heap.size := by have := hi2.lt; have h5 := (S2b.out.box (i := 0) rfl).2.1; omega
    replace S4 := Lib.hid S4
    clear S3 hc4
    have hE := (S4.out.box (i := 0) rfl).1
    have hR := (S4.out.box (i := 1) rfl).1
    have hF := ((S4.out.store (i := 0) rfl 1 (.string s3)).store (i := 1) rfl 0 (.string s1)).store (i := 1) rfl 1 (.string s3)
    have hC := hF.1
    replace hC := Lib.hid hC
    clear hF
    go_wp2_with fail
    exact bodyPost_ret (v := .agg #[.string s1, .string s3]) (by simp [results, Tryd.results86, go_sem, r0, r1, e0, e1]) rfl ⟨_, ⟨s1, s3, by assumption, by assumption, rfl⟩, rfl, h.stay (hi4) (fun k hk => by rw [Below.heap_setCell _ _ _ _ (show k ≠ w.heap.size by omega), Below.heap_setCell _ _ _ _ (show k ≠ w.heap.size by omega), Below.heap_setCell _ _ _ _ (show k ≠ w2.heap.size by omega)]), hC.out⟩
  · have hxa' : (x == 0) = false := by simpa using hxa
    have hxb' : (x == 1) = false := by simpa using hxb
    clear hxa hxb hx0 hx1
    have hE := (S3.out.box (i := 0) rfl).1
    have hR := (S3.out.box (i := 1) rfl).1
    have hF := ((S3.out).store (i := 1) rfl 0 (.string s1)).store (i := 1) rfl 1 (.string s2)
    have hC := hF.1
    replace hC := Lib.hid hC
    clear hF
    go_wp2_with fail
    exact bodyPost_ret (v := .agg #[.string s1, .string s2]) (by simp [results, Tryd.results86, go_sem, r0, r1, e0, e1]) rfl ⟨_, ⟨s1, s2, by assumption, by assumption, rfl⟩, rfl, h.stay (hi3.mono (by omega)) (fun k hk => by rw [Below.heap_setCell _ _ _ _ (show k ≠ w.heap.size by omega), Below.heap_setCell _ _ _ _ (show k ≠ w.heap.size by omega)]), hC.out⟩
end Go.Proofs.YtfcekfomhpmgpaaDoor
