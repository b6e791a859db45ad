/- The walk of FnExactAppendRecord. -/
import Derived.Test.YtfcekfomhpmgpaaDoorLogJ
namespace Go.Proofs.YtfcekfomhpmgpaaDoor
open Go.RowKit

/-- The boxed arguments, in the first two new blocks. -/
def ABox (w : World) (d p q r : ByteArray) (c : Int) (wx : World) : Prop :=
  wx.cell? ⟨w.heap.size, 0, none⟩ = some (.string d) ∧ wx.cell? ⟨w.heap.size, 1, none⟩ = some (.string p) ∧ wx.cell? ⟨w.heap.size, 2, none⟩ = some (.int .i64 c) ∧
    wx.cell? ⟨w.heap.size + 1, 0, none⟩ = some (.string q) ∧ wx.cell? ⟨w.heap.size + 1, 1, none⟩ = some (.string r) ∧ Below w.heap.size w wx ∧ w.heap.size + 1 < wx.heap.size
theorem ABox.grow {w : World} {d p q r : ByteArray} {c : Int} {wx wy : World} (h : ABox w d p q r c wx) (hb : Below wx.heap.size wx wy) : ABox w d p q r c wy := by
  obtain ⟨h0, h1, h2, h3, h4, hB, hs⟩ := h
  have hc := (bcell hb).1
  exact ⟨(hc _ _ (by omega)).trans h0, (hc _ _ (by omega)).trans h1, (hc _ _ (by omega)).trans h2, (hc _ _ hs).trans h3, (hc _ _ hs).trans h4, btr hB hb, Nat.lt_of_lt_of_le hs hb.size⟩
/-- A log in block g. -/
def LBox (g : Nat) (d p : ByteArray) (c : Int) (wx : World) : Prop :=
  wx.cell? ⟨g, 0, none⟩ = some (.string d) ∧ wx.cell? ⟨g, 1, none⟩ = some (.string p) ∧ wx.cell? ⟨g, 2, none⟩ = some (.int .i64 c)
theorem LBox.grow {g : Nat} {d p : ByteArray} {c : Int} {wx wy : World} (h : LBox g d p c wx) (hb : Below wx.heap.size wx wy) : LBox g d p c wy := by
  obtain ⟨h0, h1, h2⟩ := h
  have hlt := World.block_lt_of_cell? _ _ h0
  have hc := (bcell hb).1
  exact ⟨(hc _ _ hlt).trans h0, (hc _ _ hlt).trans h1, (hc _ _ hlt).trans h2⟩
theorem LBox.new (d p : ByteArray) (c : Int) (wx : World) (t : TypeId) : LBox wx.heap.size d p c (wx.alloc (.cells #[.string d, .string p, .int .i64 c] t)) :=
  ⟨by simp [go_sem], by simp [go_sem], by simp [go_sem]⟩

/-- A fresh log in block g. -/
def ZBox (g : Nat) (wx : World) : Prop :=
  (∀ o v, (#[Value.string ByteArray.empty, .string ByteArray.empty, .int .i64 0] : Array Value)[o]? = some v → wx.cell? ⟨g, o, none⟩ = some v) ∧ (∀ o, wx.frozen? ⟨g, o, none⟩ = false) ∧ g < wx.heap.size
theorem ZBox.grow {g : Nat} {wx wy : World} (h : ZBox g wx) (hb : Below wx.heap.size wx wy) : ZBox g wy := by
  obtain ⟨h0, h1, h2⟩ := h
  obtain ⟨hc, hf⟩ := bcell hb
  exact ⟨fun o v hv => (hc _ _ h2).trans (h0 o v hv), fun o => (hf _ _ h2).trans (h1 o), Nat.lt_of_lt_of_le h2 hb.size⟩
theorem ZBox.new {wx wy : World} {t : TypeId} (hb : Below (wx.alloc (.cells #[.string ByteArray.empty, .string ByteArray.empty, .int .i64 0] t)).heap.size (wx.alloc (.cells #[.string ByteArray.empty, .string ByteArray.empty, .int .i64 0] t)) wy) : ZBox wx.heap.size wy :=
  ZBox.grow ⟨fun o v hv => by
    unfold World.cell?
    simp only [heap_alloc_new]
    simpa using hv, fun o => by unfold World.frozen?; simp only [heap_alloc_new]; simp, by simp⟩ hb
theorem ZBox.new_drew {wx wy : World} {t : TypeId} (hb : Below (wx.alloc (.cells #[.string ByteArray.empty, .string ByteArray.empty, .int .i64 0] t)).drew.heap.size (wx.alloc (.cells #[.string ByteArray.empty, .string ByteArray.empty, .int .i64 0] t)).drew wy) : ZBox wx.heap.size wy :=
  ZBox.grow (wx := (wx.alloc (.cells #[.string ByteArray.empty, .string ByteArray.empty, .int .i64 0] t)).drew) ⟨fun o v hv => by
    show (wx.alloc (.cells #[.string ByteArray.empty, .string ByteArray.empty, .int .i64 0] t)).cell? ⟨wx.heap.size, o, none⟩ = some v
    unfold World.cell?
    simp only [heap_alloc_new]
    simpa using hv, fun o => by
    show (wx.alloc (.cells #[.string ByteArray.empty, .string ByteArray.empty, .int .i64 0] t)).frozen? ⟨wx.heap.size, o, none⟩ = false
    unfold World.frozen?; simp only [heap_alloc_new]; simp, by show wx.heap.size < (wx.alloc (.cells #[.string ByteArray.empty, .string ByteArray.empty, .int .i64 0] t)).heap.size; simp⟩ hb
theorem ZBox.out {g : Nat} {wx : World} (h : ZBox g wx) : (wx.cell? ⟨g, 0, none⟩ = some (.string ByteArray.empty) ∧ wx.cell? ⟨g, 1, none⟩ = some (.string ByteArray.empty) ∧ wx.cell? ⟨g, 2, none⟩ = some (.int .i64 0)) ∧ (wx.frozen? ⟨g, 0, none⟩ = false ∧ wx.frozen? ⟨g, 1, none⟩ = false ∧ wx.frozen? ⟨g, 2, none⟩ = false) :=
  ⟨⟨h.1 0 _ rfl, h.1 1 _ rfl, h.1 2 _ rfl⟩, h.2.1 0, h.2.1 1, h.2.1 2⟩

theorem ABox.set {w : World} {d p q r : ByteArray} {c : Int} {wx : World} (h : ABox w d p q r c wx) {g o : Nat} (hg : w.heap.size + 1 < g) (v : Value) : ABox w d p q r c (wx.setCell ⟨g, o, none⟩ v) := by
  obtain ⟨h0, h1, h2, h3, h4, hB, hs⟩ := h
  have hc : ∀ b o', b < g → (wx.setCell ⟨g, o, none⟩ v).cell? ⟨b, o', none⟩ = wx.cell? ⟨b, o', none⟩ := fun b o' hb => World.cell?_setCell_other wx _ _ _ (by simp only [ne_eq, Addr.mk.injEq]; omega)
  exact ⟨(hc _ _ (by omega)).trans h0, (hc _ _ (by omega)).trans h1, (hc _ _ (by omega)).trans h2, (hc _ _ hg).trans h3, (hc _ _ hg).trans h4, bst hB (by simp <;> omega) _, by simp [World.setCell]; exact hs⟩
theorem ABox.alloc {w : World} {d p q r : ByteArray} {c : Int} {wx : World} (h : ABox w d p q r c wx) (o : Obj) : ABox w d p q r c (wx.alloc o) := h.grow (bal (bb _) _)
theorem ABox.drew {w : World} {d p q r : ByteArray} {c : Int} {wx : World} (h : ABox w d p q r c wx) : ABox w d p q r c wx.drew := by
  obtain ⟨h0, h1, h2, h3, h4, hB, hs⟩ := h
  exact ⟨h0, h1, h2, h3, h4, bdr hB, hs⟩
theorem LBox.alloc {g : Nat} {d p : ByteArray} {c : Int} {wx : World} (h : LBox g d p c wx) (o : Obj) : LBox g d p c (wx.alloc o) := h.grow (bal (bb _) _)
theorem LBox.drew {g : Nat} {d p : ByteArray} {c : Int} {wx : World} (h : LBox g d p c wx) : LBox g d p c wx.drew := h
theorem LBox.set {g : Nat} {d p : ByteArray} {c : Int} {wx : World} (h : LBox g d p c wx) {g' o : Nat} (hg : g < g') (v : Value) : LBox g d p c (wx.setCell ⟨g', o, none⟩ v) := by
  obtain ⟨h0, h1, h2⟩ := h
  have hc : ∀ o', (wx.setCell ⟨g', o, none⟩ v).cell? ⟨g, o', none⟩ = wx.cell? ⟨g, o', none⟩ := fun o' => World.cell?_setCell_other wx _ _ _ (by simp only [ne_eq, Addr.mk.injEq]; omega)
  exact ⟨(hc _).trans h0, (hc _).trans h1, (hc _).trans h2⟩
theorem LBox.store {g : Nat} {d p : ByteArray} {c : Int} {wx : World} {x0 x1 x2 : Value} (h0 : wx.cell? ⟨g, 0, none⟩ = some x0) (h1 : wx.cell? ⟨g, 1, none⟩ = some x1) (h2 : wx.cell? ⟨g, 2, none⟩ = some x2) :
    LBox g d p c (((wx.setCell ⟨g, 0, none⟩ (.string d)).setCell ⟨g, 1, none⟩ (.string p)).setCell ⟨g, 2, none⟩ (.int .i64 c)) :=
  ⟨set_ne (by decide) _ (set_ne (by decide) _ (set_eq _ h0)), set_ne (by decide) _ (set_eq _ (set_ne (by decide) _ h1)), set_eq _ (set_ne (by decide) _ (set_ne (by decide) _ h2))⟩

set_option maxRecDepth 100000 in
set_option maxHeartbeats 4000000 in
theorem FnExactAppendRecord_walk (d p q r : ByteArray) (c : Int) (a : Addr) (w : World) (hE : EnvE a w) (hd : d.size ≤ 9223372036854775807) (hp : p.size ≤ 9223372036854775807) (hq : q.size ≤ 9223372036854775807) (hr : r.size ≤ 9223372036854775807) :
    Calls Tryd.prog 8 #[.agg #[.string d, .string p, .int .i64 c], .agg #[.string q, .string r]] w fun e w' => e = .returned (.bool true) ∧ Below w.heap.size w w' := by
  have hEH := Lib.hid hE
  clear hE
  have z1 : w.heap.size < w.heap.size + 1 + 1 := by omega
  by_cases hbig : (1048576 : Int) < d.size + p.size
  · go_enter Tryd.func8, Tryd.ntmps8
    go_wp2_with fail
    refine (szLog_any _ _ _ _ _ (by omega) (by omega) hd hp).mono ?_
    rintro e w1 ⟨rfl, hb1⟩
    rw [if_pos hbig]
    go_wp2_with fail
    go_ret
    exact ⟨rfl, (by repeat (first | exact bb _ | assumption | refine bal ?_ _ | refine bdr ?_ | refine bdn ?_ _ | refine bst ?_ (by simp <;> omega) _ | refine btr ?_ (by assumption)))⟩
  have hb1' : (d.size : Int) + p.size ≤ 1048576 := by omega
  by_cases hbig2 : (1048576 : Int) - (d.size + p.size) < q.size + r.size
  · go_enter Tryd.func8, Tryd.ntmps8
    go_wp2_with fail
    refine (szLog_any _ _ _ _ _ (by omega) (by omega) hd hp).mono ?_
    rintro e w1 ⟨rfl, hb1⟩
    rw [if_neg (by omega)]
    obtain ⟨hc1, hf1⟩ := bcell hb1
    have hs1 : w.heap.size + 1 < w1.heap.size := by have := hb1.size; simp at this; omega
    have hs2 : w.heap.size < w1.heap.size := by omega
    go_wp2_with fail
    refine (szLogRecord_any _ _ _ _ (by omega) (by omega) hq hr).mono ?_
    rintro e w2 ⟨rfl, hb2⟩
    rw [if_pos hbig2]
    go_wp2_with fail
    go_ret
    exact ⟨rfl, (by repeat (first | exact bb _ | assumption | refine bal ?_ _ | refine bdr ?_ | refine bdn ?_ _ | refine bst ?_ (by simp <;> omega) _ | refine btr ?_ (by assumption)))⟩
  have hb2' : (q.size : Int) + r.size ≤ 1048576 := by omega
  have hb3' : (0 : Int) ≤ 1048576 - (d.size + p.size) - (q.size + r.size) := by omega
  obtain ⟨x, hx⟩ : ∃ x, x = addB (bl d) (bl p) c (bl q) (bl r) := ⟨_, rfl⟩
  replace hx := (show Hid (x = addB (bl d) (bl p) c (bl q) (bl r)) from hx)
  obtain ⟨x0, x1, x2⟩ := x
  go_enter Tryd.func8, Tryd.ntmps8
  go_wp2_with fail
  refine (szLog_any _ _ _ _ _ (by omega) (by omega) hd hp).mono ?_
  rintro e w1 ⟨rfl, hb1⟩
  rw [if_neg (by omega)]
  obtain ⟨hc1, hf1⟩ := bcell hb1
  have hs1 : w.heap.size + 1 < w1.heap.size := by have := hb1.size; simp at this; omega
  have hs2 : w.heap.size < w1.heap.size := by omega
  have hA1 : ABox w d p q r c w1 := ⟨(hc1 _ _ (by simp <;> omega)).trans (by simp [go_sem]), (hc1 _ _ (by simp <;> omega)).trans (by simp [go_sem]), (hc1 _ _ (by simp <;> omega)).trans (by simp [go_sem]), (hc1 _ _ (by simp)).trans (by simp [go_sem]), (hc1 _ _ (by simp)).trans (by simp [go_sem]), (by repeat (first | exact bb _ | assumption | refine bal ?_ _ | refine bdr ?_ | refine bdn ?_ _ | refine bst ?_ (by simp <;> omega) _ | refine btr ?_ (by assumption))), hs1⟩
  replace hA1 := (show Hid (ABox w d p q r c w1) from hA1)
  go_wp2_with fail
  refine (szLogRecord_any _ _ _ _ (by omega) (by omega) hq hr).mono ?_
  rintro e w2 ⟨rfl, hb2⟩
  rw [if_neg (by omega)]
  have hA2 : ABox w d p q r c w2 := hA1.out.grow hb2
  clear hc1 hf1 hs1 hs2 hA1
  go_upto_region 8 with fail
  clear hb1 hb2
  go_cut [6, 7] (fun s6 s7 wx => ∃ g, s6 = .pointer (some ⟨g, 0, none⟩) ∧ s7 = .int .i64 x2 ∧ LBox g d (ms x0) x1 wx ∧ ABox w d p q r c wx)
  case first =>
    have hAH := (show Hid (ABox w d p q r c w2) from hA2)
    obtain ⟨h0, h1, h2, h3, h4, hB, hs⟩ := hA2
    have hset : ∀ (W' : World) (g' o o' : Nat) (v : Value), w.heap.size + 1 < g' → (W'.setCell ⟨g', o', none⟩ v).cell? ⟨w.heap.size, o, none⟩ = W'.cell? ⟨w.heap.size, o, none⟩ := fun W' g' o o' v hg => World.cell?_setCell_other W' _ _ _ (by simp only [ne_eq, Addr.mk.injEq]; omega)
    have hset1 : ∀ (W' : World) (g' o o' : Nat) (v : Value), w.heap.size + 1 < g' → (W'.setCell ⟨g', o', none⟩ v).cell? ⟨w.heap.size + 1, o, none⟩ = W'.cell? ⟨w.heap.size + 1, o, none⟩ := fun W' g' o o' v hg => World.cell?_setCell_other W' _ _ _ (by simp only [ne_eq, Addr.mk.injEq]; omega)
    go_region_held3 (fun w' => w'.cell? ⟨w.heap.size, 0, none⟩ = some (.string d) ∧ w'.cell? ⟨w.heap.size, 1, none⟩ = some (.string p) ∧ w'.cell? ⟨w.heap.size, 2, none⟩ = some (.int .i64 c) ∧ w'.cell? ⟨w.heap.size + 1, 0, none⟩ = some (.string q) ∧ w'.cell? ⟨w.heap.size + 1, 1, none⟩ = some (.string r)) (go_keep)
      (first
        | (go_at_call 24; (with_reducible refine (toLog_any _ _ _ _).mono ?_); rintro e w3 ⟨rfl, hb3⟩; have u0 := (fun o => (bcell hb3).1 w.heap.size o (by first | omega | (simp; done) | (simp; omega))); have u1 := (fun o => (bcell hb3).1 (w.heap.size + 1) o (by first | omega | (simp; done) | (simp; omega))); have hs3 : w.heap.size + 1 < w3.heap.size := Nat.lt_of_lt_of_le (by first | omega | (simp; done) | (simp; omega)) hb3.size; (first | (have zq := ZBox.grow ‹ZBox _ _› hb3; obtain ⟨⟨zc0, zc1, zc2⟩, zf0, zf1, zf2⟩ := zq.out) | (have zq := ZBox.new hb3; obtain ⟨⟨zc0, zc1, zc2⟩, zf0, zf1, zf2⟩ := zq.out) | (have zq := ZBox.new_drew hb3; obtain ⟨⟨zc0, zc1, zc2⟩, zf0, zf1, zf2⟩ := zq.out) | skip))
        | (go_at_call 17; (with_reducible refine (toLogRecord_any _ _ _).mono ?_); rintro e w4 ⟨rfl, hb4⟩; have v0 := (fun o => (bcell hb4).1 w.heap.size o (by first | omega | (simp; done) | (simp; omega))); have v1 := (fun o => (bcell hb4).1 (w.heap.size + 1) o (by first | omega | (simp; done) | (simp; omega))); have hs4 : w.heap.size + 1 < w4.heap.size := Nat.lt_of_lt_of_le (by first | omega | (simp; done) | (simp; omega)) hb4.size; (first | (have zq := ZBox.grow ‹ZBox _ _› hb4; obtain ⟨⟨zc0, zc1, zc2⟩, zf0, zf1, zf2⟩ := zq.out) | (have zq := ZBox.new hb4; obtain ⟨⟨zc0, zc1, zc2⟩, zf0, zf1, zf2⟩ := zq.out) | (have zq := ZBox.new_drew hb4; obtain ⟨⟨zc0, zc1, zc2⟩, zf0, zf1, zf2⟩ := zq.out) | skip))
        | (go_at_call 30; (with_reducible refine (specAppendRecord_any d p q r c _ (by omega) (by omega) (by omega) (by omega)).mono ?_); unfold LogPost; rw [← hx.out]; rintro e w5 ⟨rfl, hb5⟩; have y0 := (fun o => (bcell hb5).1 w.heap.size o (by first | omega | (simp; done) | (simp; omega))); have y1 := (fun o => (bcell hb5).1 (w.heap.size + 1) o (by first | omega | (simp; done) | (simp; omega))); have hs5 : w.heap.size + 1 < w5.heap.size := Nat.lt_of_lt_of_le (by first | omega | (simp; done) | (simp; omega)) hb5.size; (first | (have zq := ZBox.grow ‹ZBox _ _› hb5; obtain ⟨⟨zc0, zc1, zc2⟩, zf0, zf1, zf2⟩ := zq.out) | (have zq := ZBox.new hb5; obtain ⟨⟨zc0, zc1, zc2⟩, zf0, zf1, zf2⟩ := zq.out) | (have zq := ZBox.new_drew hb5; obtain ⟨⟨zc0, zc1, zc2⟩, zf0, zf1, zf2⟩ := zq.out) | skip)))
    all_goals
      go_wp2_with fail
      go_meet
      refine ⟨_, rfl, rfl, ?_, ?_⟩
      · first | exact LBox.new _ _ _ _ _ | exact LBox.store zc0 zc1 zc2
      · repeat (first | with_reducible exact hAH.out | with_reducible refine ABox.set ?_ (by omega) _ | with_reducible refine ABox.alloc ?_ _ | with_reducible refine ABox.drew ?_ | with_reducible refine ABox.grow ?_ (by assumption))
  case rest =>
  obtain ⟨g, rfl, rfl, hL, hA⟩ := hcut
  go_upto_region 9 with fail
  go_cut [8, 9] (fun s8 s9 wy => ∃ g', s8 = .pointer (some ⟨g', 0, none⟩) ∧ s9 = .int .i64 x2 ∧ LBox g' d (ms x0) x1 wy ∧ LBox g d (ms x0) x1 wy ∧ ABox w d p q r c wy)
  case first =>
    have hAH := (show Hid (ABox w d p q r c _) from hA)
    have hLH := (show Hid (LBox g d (ms x0) x1 _) from hL)
    obtain ⟨h0, h1, h2, h3, h4, hB, hs⟩ := hA
    obtain ⟨l0, l1, l2⟩ := hL
    have hg := World.block_lt_of_cell? _ _ l0
    simp only at hg
    have hset : ∀ (W' : World) (g' o o' : Nat) (v : Value), w.heap.size + 1 < g' → (W'.setCell ⟨g', o', none⟩ v).cell? ⟨w.heap.size, o, none⟩ = W'.cell? ⟨w.heap.size, o, none⟩ := fun W' g' o o' v hg => World.cell?_setCell_other W' _ _ _ (by simp only [ne_eq, Addr.mk.injEq]; omega)
    have hset1 : ∀ (W' : World) (g' o o' : Nat) (v : Value), w.heap.size + 1 < g' → (W'.setCell ⟨g', o', none⟩ v).cell? ⟨w.heap.size + 1, o, none⟩ = W'.cell? ⟨w.heap.size + 1, o, none⟩ := fun W' g' o o' v hg => World.cell?_setCell_other W' _ _ _ (by simp only [ne_eq, Addr.mk.injEq]; omega)
    go_region_held3 (fun w' => w'.cell? ⟨w.heap.size, 0, none⟩ = some (.string d) ∧ w'.cell? ⟨w.heap.size, 1, none⟩ = some (.string p) ∧ w'.cell? ⟨w.heap.size, 2, none⟩ = some (.int .i64 c) ∧ w'.cell? ⟨w.heap.size + 1, 0, none⟩ = some (.string q) ∧ w'.cell? ⟨w.heap.size + 1, 1, none⟩ = some (.string r)) (go_keep)
      (first
        | (go_at_call 24; (with_reducible refine (toLog_any _ _ _ _).mono ?_); rintro e w6 ⟨rfl, hb6⟩; have u0 := (fun o => (bcell hb6).1 w.heap.size o (by first | omega | (simp; done) | (simp; omega))); have u1 := (fun o => (bcell hb6).1 (w.heap.size + 1) o (by first | omega | (simp; done) | (simp; omega))); have hs6 : w.heap.size + 1 < w6.heap.size := Nat.lt_of_lt_of_le (by first | omega | (simp; done) | (simp; omega)) hb6.size; have gs6 : g < w6.heap.size := Nat.lt_of_lt_of_le (by first | omega | (simp; done) | (simp; omega)) hb6.size; (first | (have zq := ZBox.grow ‹ZBox _ _› hb6; obtain ⟨⟨zc0, zc1, zc2⟩, zf0, zf1, zf2⟩ := zq.out) | (have zq := ZBox.new hb6; obtain ⟨⟨zc0, zc1, zc2⟩, zf0, zf1, zf2⟩ := zq.out) | (have zq := ZBox.new_drew hb6; obtain ⟨⟨zc0, zc1, zc2⟩, zf0, zf1, zf2⟩ := zq.out) | skip))
        | (go_at_call 17; (with_reducible refine (toLogRecord_any _ _ _).mono ?_); rintro e w7 ⟨rfl, hb7⟩; have v0 := (fun o => (bcell hb7).1 w.heap.size o (by first | omega | (simp; done) | (simp; omega))); have v1 := (fun o => (bcell hb7).1 (w.heap.size + 1) o (by first | omega | (simp; done) | (simp; omega))); have hs7 : w.heap.size + 1 < w7.heap.size := Nat.lt_of_lt_of_le (by first | omega | (simp; done) | (simp; omega)) hb7.size; have gs7 : g < w7.heap.size := Nat.lt_of_lt_of_le (by first | omega | (simp; done) | (simp; omega)) hb7.size; (first | (have zq := ZBox.grow ‹ZBox _ _› hb7; obtain ⟨⟨zc0, zc1, zc2⟩, zf0, zf1, zf2⟩ := zq.out) | (have zq := ZBox.new hb7; obtain ⟨⟨zc0, zc1, zc2⟩, zf0, zf1, zf2⟩ := zq.out) | (have zq := ZBox.new_drew hb7; obtain ⟨⟨zc0, zc1, zc2⟩, zf0, zf1, zf2⟩ := zq.out) | skip))
        | (go_at_call 31; (with_reducible refine (implAppendRecord_any d p q r c a _ (hEH.out.grow (by repeat (first | exact bb _ | assumption | refine bal ?_ _ | refine bdr ?_ | refine bdn ?_ _ | refine bst ?_ (by simp <;> omega) _ | refine btr ?_ (by assumption)))) (by omega) (by omega) (by omega) (by omega)).mono ?_); unfold LogPost; rw [← hx.out]; rintro e w8 ⟨rfl, hb8⟩; have y0 := (fun o => (bcell hb8).1 w.heap.size o (by first | omega | (simp; done) | (simp; omega))); have y1 := (fun o => (bcell hb8).1 (w.heap.size + 1) o (by first | omega | (simp; done) | (simp; omega))); have hs8 : w.heap.size + 1 < w8.heap.size := Nat.lt_of_lt_of_le (by first | omega | (simp; done) | (simp; omega)) hb8.size; have gs8 : g < w8.heap.size := Nat.lt_of_lt_of_le (by first | omega | (simp; done) | (simp; omega)) hb8.size; (first | (have zq := ZBox.grow ‹ZBox _ _› hb8; obtain ⟨⟨zc0, zc1, zc2⟩, zf0, zf1, zf2⟩ := zq.out) | (have zq := ZBox.new hb8; obtain ⟨⟨zc0, zc1, zc2⟩, zf0, zf1, zf2⟩ := zq.out) | (have zq := ZBox.new_drew hb8; obtain ⟨⟨zc0, zc1, zc2⟩, zf0, zf1, zf2⟩ := zq.out) | skip)))
    all_goals
      go_wp2_with fail
      go_meet
      refine ⟨_, rfl, rfl, ?_, ?_, ?_⟩
      · first | exact LBox.new _ _ _ _ _ | exact LBox.store zc0 zc1 zc2
      · repeat (first | with_reducible exact hLH.out | with_reducible refine LBox.set ?_ (by omega) _ | with_reducible refine LBox.alloc ?_ _ | with_reducible refine LBox.drew ?_ | with_reducible refine LBox.grow ?_ (by assumption))
      · repeat (first | with_reducible exact hAH.out | with_reducible refine ABox.set ?_ (by omega) _ | with_reducible refine ABox.alloc ?_ _ | with_reducible refine ABox.drew ?_ | with_reducible refine ABox.grow ?_ (by assumption))
  case rest =>
  obtain ⟨g', rfl, rfl, hL', hL, hA⟩ := hcut
  obtain ⟨l0, l1, l2⟩ := hL
  obtain ⟨m0, m1, m2⟩ := hL'
  have hB := hA.2.2.2.2.2.1
  clear hA
  go_wp2_with fail
  refine (eqLog_same _ _ _ _).mono ?_
  rintro e w9 ⟨rfl, hb9⟩
  go_wp2_with fail
  go_ret
  exact ⟨rfl, (by repeat (first | exact bb _ | assumption | refine bal ?_ _ | refine bdr ?_ | refine bdn ?_ _ | refine bst ?_ (by simp <;> omega) _ | refine btr ?_ (by assumption)))⟩
end Go.Proofs.YtfcekfomhpmgpaaDoor
