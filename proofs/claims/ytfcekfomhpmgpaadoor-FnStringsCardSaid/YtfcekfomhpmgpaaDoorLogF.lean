/- Contracts: the program's reader of logs. -/
import Derived.Test.YtfcekfomhpmgpaaDoorLogE
import Derived.Test.YtfcekfomhpmgpaaDoorStrF
import Derived.Test.YtfcekfomhpmgpaaDoorErrIs
import Derived.Deep.RegionLaw
namespace Go.Proofs.YtfcekfomhpmgpaaDoor
open Go.RowKit

/-- The sentinel of the log reader lies at a. -/
structure EnvE (a : Addr) (w : World) : Prop where
  env : Env w
  err : w.cell? ⟨0, 0, none⟩ = some (.iface 178 (.pointer (some a)))
theorem EnvE.below {a : Addr} {B : Nat} {w w' : World} (h : EnvE a w) (hb : Below B w w') (hB : w.heap.size ≤ B) : EnvE a w' :=
  ⟨h.env.below hb hB, by rw [hb.cell (p := ⟨0, 0, none⟩) (Nat.lt_of_lt_of_le (World.block_lt_of_cell? _ _ h.err) hB)]; exact h.err⟩
theorem EnvE.grow {a : Addr} {w w' : World} (h : EnvE a w) (hb : Below w.heap.size w w') : EnvE a w' := h.below hb (Nat.le_refl _)

/-- The reader's struct in block g. -/
structure RdIs (w : World) (g : Nat) (L : List UInt8) (v : Value) (sz : Int) : Prop where
  c0 : w.cell? ⟨g, 0, none⟩ = some (.string (ms L))
  c1 : w.cell? ⟨g, 1, none⟩ = some v
  c2 : w.cell? ⟨g, 2, none⟩ = some (.int .i64 sz)
  f0 : w.frozen? ⟨g, 0, none⟩ = false
  f1 : w.frozen? ⟨g, 1, none⟩ = false
  f2 : w.frozen? ⟨g, 2, none⟩ = false
theorem RdIs.grow {w w' : World} {g : Nat} {L : List UInt8} {v : Value} {sz : Int} (h : RdIs w g L v sz) (hb : Below w.heap.size w w') : RdIs w' g L v sz := by
  have hlt := World.block_lt_of_cell? _ _ h.c0
  have hc := bcell hb
  exact ⟨(hc.1 _ _ hlt).trans h.c0, (hc.1 _ _ hlt).trans h.c1, (hc.1 _ _ hlt).trans h.c2, (hc.2 _ _ hlt).trans h.f0, (hc.2 _ _ hlt).trans h.f1, (hc.2 _ _ hlt).trans h.f2⟩

def ErrPost (w : World) (a : Addr) (e : Ending) (w' : World) : Prop :=
  e = .returned (.iface 178 (.pointer (some a))) ∧ Below w.heap.size w w'

theorem cut_at (l : List UInt8) (c : UInt8) (b : Int) (hb : (c.toNat : Int) = b) (w : World) (hE : Env w) (hs : l.length ≤ 3000000) :
    Calls Tryd.prog 85 #[.string (ms l), .string ⟨#[c]⟩] w fun e w' => e = .returned (.tuple #[.string (ms (cutP b l).1), .string (ms (cutP b l).2.1), .bool (cutP b l).2.2]) ∧ Below w.heap.size w w' := by
  subst hb
  exact cut_env (ms l) c w hE (by rw [ms_size]; omega)
theorem cutP_len2 (b : Int) (l : List UInt8) : (cutP b l).2.1.length ≤ l.length := by
  rcases cut_cases b l with h | ⟨x, c, y, rfl, h1, h2⟩
  · rw [cutP_none h]; simp
  · rw [cutP_some h1 h2]; simp; omega
theorem verB_len (l : List UInt8) : (verB l).1.length ≤ l.length := by
  unfold verB
  split
  · exact cutP_len _ _
  · simp

/-- What the walk of 'next' meets, by name. -/
structure NextIs (L A R T B q r : List UInt8) : Prop where
  hA : A = (cutP 10 L).1
  hR : R = (cutP 10 L).2.1
  hT : T = (verB A).1
  hB : B = (cutP 32 T).2.1
  hq : q = (cutP 64 B).1
  hr : r = (cutP 64 B).2.1
theorem NextIs.sizes {L A R T B q r : List UInt8} (h : NextIs L A R T B q r) (hL : L.length ≤ 3000000) : A.length ≤ 3000000 ∧ T.length ≤ 3000000 ∧ B.length ≤ 3000000 ∧ q.length ≤ 3000000 ∧ r.length ≤ 3000000 := by
  obtain ⟨rfl, rfl, rfl, rfl, rfl, rfl⟩ := h
  have h1 := cutP_len 10 L
  have h2 := verB_len (cutP 10 L).1
  have h3 := cutP_len2 32 (verB (cutP 10 L).1).1
  have h4 := cutP_len 64 (cutP 32 (verB (cutP 10 L).1).1).2.1
  have h5 := cutP_len2 64 (cutP 32 (verB (cutP 10 L).1).1).2.1
  omega
theorem NextIs.cmd {L A R T B q r : List UInt8} (h : NextIs L A R T B q r) : q = cmdB L ∧ r = repB L := by
  obtain ⟨rfl, rfl, rfl, rfl, rfl, rfl⟩ := h
  exact ⟨rfl, rfl⟩

set_option maxRecDepth 100000 in
set_option maxHeartbeats 2000000 in
theorem next_no1 (g : Nat) (L : List UInt8) (va : Option Addr) (n vc : Nat) (sz : Int) (a : Addr) (w : World) (hE : EnvE a w) (hR : RdIs w g L (.slice va n vc) sz) (hL : L.length ≤ 3000000) (h1 : (cutP 10 L).2.2 = false) :
    Calls Tryd.prog 97 #[.pointer (some ⟨g, 0, none⟩)] w (ErrPost w a) := by
  have hEH := Lib.hid hE
  obtain ⟨c0, c1, c2, f0, f1, f2⟩ := hR
  have herr := hE.err
  have hlt := World.block_lt_of_cell? _ _ c0
  have hlt0 := World.block_lt_of_cell? _ _ herr
  clear hE
  go_enter Tryd.func97, Tryd.ntmps97
  go_wp2_with fail
  refine (cut_at L 10 10 rfl _ hEH.out.env hL).mono ?_
  rintro e w1 ⟨rfl, hb1⟩
  obtain ⟨hc1, hf1⟩ := bcell hb1
  rw [h1]
  go_wp2_with fail
  go_ret
  exact ⟨rfl, hb1⟩

set_option maxRecDepth 100000 in
set_option maxHeartbeats 2000000 in
theorem next_no2 (g : Nat) (L A R T B q r : List UInt8) (va : Option Addr) (n vc : Nat) (sz : Int) (a : Addr) (w : World) (hE : EnvE a w) (hR : RdIs w g L (.slice va n vc) sz) (hL : L.length ≤ 3000000) (hN : NextIs L A R T B q r) (h1 : (cutP 10 L).2.2 = true) (h2 : (verB A).2 = false) :
    Calls Tryd.prog 97 #[.pointer (some ⟨g, 0, none⟩)] w (ErrPost w a) := by
  have hEH := Lib.hid hE
  have hNH := Lib.hid hN
  obtain ⟨zA, zT, zB, zq, zr⟩ := hN.sizes hL
  obtain ⟨c0, c1, c2, f0, f1, f2⟩ := hR
  have herr := hE.err
  have hlt := World.block_lt_of_cell? _ _ c0
  have hlt0 := World.block_lt_of_cell? _ _ herr
  clear hE hN
  go_enter Tryd.func97, Tryd.ntmps97
  go_wp2_with fail
  refine (cut_at L 10 10 rfl _ hEH.out.env hL).mono ?_
  rintro e w1 ⟨rfl, hb1⟩
  obtain ⟨hc1, hf1⟩ := bcell hb1
  have hlt1 := Nat.lt_of_lt_of_le hlt0 hb1.size
  rw [h1, ← hNH.out.hA, ← hNH.out.hR]
  go_wp2_with fail
  refine (implVerifyChecksum_any (ms A) _ (hEH.out.grow hb1).env (by rw [ms_size]; omega)).mono ?_
  rintro e w2 ⟨rfl, hb2⟩
  obtain ⟨hc2, hf2⟩ := bcell hb2
  rw [bl_ms, h2, ← hNH.out.hT]
  go_wp2_with fail
  go_ret
  exact ⟨rfl, (by repeat (first | exact bb _ | assumption | refine bal ?_ _ | refine bdr ?_ | refine bdn ?_ _ | refine bst ?_ (by simp <;> omega) _ | refine btr ?_ (by assumption)))⟩

/-- The walk of 'next' as far as the record's own encoding. -/
def EncTold (k : Nat) (q r A : List UInt8) : Bool := (encB k q r).2 && ((encB k q r).1 == A ++ [10])

set_option maxRecDepth 100000 in
set_option maxHeartbeats 4000000 in
theorem next_no3 (g : Nat) (L A R T B q r : List UInt8) (va : Option Addr) (n vc : Nat) (sz : Int) (a : Addr) (w : World) (hE : EnvE a w) (hR : RdIs w g L (.slice va n vc) sz) (hL : L.length ≤ 3000000) (hN : NextIs L A R T B q r) (h1 : (cutP 10 L).2.2 = true) (h2 : (verB A).2 = true)
    (O : List UInt8) (ok : Bool) (hO : Hid (encB n q r = (O, ok))) (h3 : ok = false ∨ (ok = true ∧ (O == A ++ [10]) = false)) :
    Calls Tryd.prog 97 #[.pointer (some ⟨g, 0, none⟩)] w (ErrPost w a) := by
  have hEH := Lib.hid hE
  have hNH := Lib.hid hN
  obtain ⟨zA, zT, zB, zq, zr⟩ := hN.sizes hL
  obtain ⟨c0, c1, c2, f0, f1, f2⟩ := hR
  have herr := hE.err
  have hlt := World.block_lt_of_cell? _ _ c0
  have hlt0 := World.block_lt_of_cell? _ _ herr
  have hadd := fun w => run_add (P := Tryd.prog) w (ms A) ⟨#[10]⟩ (by rw [ms_size, show (ByteArray.mk #[10]).size = 1 from rfl]; omega)
  clear hE hN
  go_enter Tryd.func97, Tryd.ntmps97
  go_wp2_with fail
  refine (cut_at L 10 10 rfl _ hEH.out.env hL).mono ?_
  rintro e w1 ⟨rfl, hb1⟩
  obtain ⟨hc1, hf1⟩ := bcell hb1
  have hlt1 := Nat.lt_of_lt_of_le hlt0 hb1.size
  rw [h1, ← hNH.out.hA, ← hNH.out.hR]
  go_wp2_with fail
  refine (implVerifyChecksum_any (ms A) _ (hEH.out.grow hb1).env (by rw [ms_size]; omega)).mono ?_
  rintro e w2 ⟨rfl, hb2⟩
  obtain ⟨hc2, hf2⟩ := bcell hb2
  rw [bl_ms, h2, ← hNH.out.hT]
  have hB2 : Hid (Below w.heap.size w w2) := (by repeat (first | exact bb _ | assumption | refine bal ?_ _ | refine bdr ?_ | refine bdn ?_ _ | refine bst ?_ (by simp <;> omega) _ | refine btr ?_ (by assumption)))
  go_wp2_with fail
  refine (cut_at T 32 32 rfl _ (hEH.out.grow hB2.out).env zT).mono ?_
  rintro e w3 ⟨rfl, hb3⟩
  rw [← hNH.out.hB]
  have hB3 : Hid (Below w.heap.size w w3) := btr hB2.out hb3
  go_wp2_with fail
  refine (cut_at B 64 64 rfl _ (hEH.out.grow hB3.out).env zB).mono ?_
  rintro e w4 ⟨rfl, hb4⟩
  rw [← hNH.out.hq, ← hNH.out.hr]
  have hB4 : Hid (Below w.heap.size w w4) := btr hB3.out hb4
  clear hc1 hf1 hc2 hf2 hb1 hb2 hb3 hb4
  have d1 : w4.cell? ⟨g, 1, none⟩ = some (.slice va n vc) := (hB4.out.cell (p := ⟨g, 1, none⟩) hlt).trans c1
  have dE := (hB4.out.cell (p := ⟨0, 0, none⟩) hlt0).trans herr
  have hg4 : g < w4.heap.size := Nat.lt_of_lt_of_le hlt hB4.out.size
  have h04 : 0 < w4.heap.size := Nat.lt_of_lt_of_le hlt0 hB4.out.size
  have hg5 : g < w4.heap.size + 1 := by omega
  have h05 : 0 < w4.heap.size + 1 := by omega
  have HEnc : Hid (∀ w', Below w4.heap.size w4 w' → Calls Tryd.prog 18 #[.int .i64 n, .agg #[.string (ms q), .string (ms r)]] w' fun e w'' => e = .returned (.tuple #[.string (ms O), .bool ok]) ∧ Below w'.heap.size w' w'') := by
    intro w' hb'
    have := implEncodeRecord_any n (ms q) (ms r) w' ((hEH.out.grow hB4.out).grow hb').env (by rw [ms_size]; omega) (by rw [ms_size]; omega)
    rwa [bl_ms, bl_ms, hO.out] at this
  go_upto_region 10 with fail
  rcases h3 with rfl | ⟨rfl, h4'⟩
  · go_region_held3 (fun w' => w'.cell? ⟨g, 1, none⟩ = some (.slice va n vc) ∧ w'.cell? ⟨w4.heap.size, 0, none⟩ = some (.string (ms q)) ∧ w'.cell? ⟨w4.heap.size, 1, none⟩ = some (.string (ms r))) (go_keep)
      (first | (go_at_call 18; (with_reducible refine (HEnc.out _ (by repeat (first | exact bb _ | assumption | refine bal ?_ _ | refine bdr ?_ | refine bdn ?_ _ | refine bst ?_ (by simp <;> omega) _ | refine btr ?_ (by assumption)))).mono ?_); rintro e w5 ⟨rfl, hb5⟩; have y1 := (fun o => (bcell hb5).1 g o (by simp <;> omega)); have y2 := (fun o => (bcell hb5).1 w4.heap.size o (by simp)); have y3 := (fun o => (bcell hb5).1 0 o (by simp <;> omega))))
    all_goals
      go_wp2_with fail
      go_ret
      exact ⟨rfl, (by repeat (first | exact bb _ | assumption | refine bal ?_ _ | refine bdr ?_ | refine bdn ?_ _ | refine bst ?_ (by simp <;> omega) _ | refine btr ?_ (by assumption)))⟩
  · have h4 : (O == A ++ bl ⟨#[10]⟩) = false := h4'
    clear h4'
    go_region_held3 (fun w' => w'.cell? ⟨g, 1, none⟩ = some (.slice va n vc) ∧ w'.cell? ⟨w4.heap.size, 0, none⟩ = some (.string (ms q)) ∧ w'.cell? ⟨w4.heap.size, 1, none⟩ = some (.string (ms r))) (go_keep)
      (first | (go_at_call 18; (with_reducible refine (HEnc.out _ (by repeat (first | exact bb _ | assumption | refine bal ?_ _ | refine bdr ?_ | refine bdn ?_ _ | refine bst ?_ (by simp <;> omega) _ | refine btr ?_ (by assumption)))).mono ?_); rintro e w5 ⟨rfl, hb5⟩; have y1 := (fun o => (bcell hb5).1 g o (by simp <;> omega)); have y2 := (fun o => (bcell hb5).1 w4.heap.size o (by simp)); have y3 := (fun o => (bcell hb5).1 0 o (by simp <;> omega))))
    all_goals
      go_wp2_with fail
      go_ret
      exact ⟨rfl, (by repeat (first | exact bb _ | assumption | refine bal ?_ _ | refine bdr ?_ | refine bdn ?_ _ | refine bst ?_ (by simp <;> omega) _ | refine btr ?_ (by assumption)))⟩

/-- append to an own row, as one step of a region that draws. -/
theorem step_append_own {P : Program} {ops : Array Oper} {o : Oper} {a : Act} {w : World} {K : Act → World → Prop} {Q : Exit → Act → World → Prop} {E : Prop} (hgd : o.guard = none) (s x : Operand) (t : TypeId)
    (ho : o.op = .call { callee := .builtin .append, args := #[s, x], argTypes := #[t, t] })
    (base : Nat) (e : TypeId) (i : TypeInfo) (z : Value) (size bytes : Nat) (ht : P.underlying t = some (.slice e)) (hi : P.info? e = some i) (hz : i.zero = some z)
    (hsize : i.size = size) (hby : i.bytes = bytes) (hzs : z.cells.size = size) (hsz : 0 < size)
    (v : Value) (n : Nat) (xs : List Value) (hs : a.eval s = v) (hown : w.ownsRow base e size v n xs)
    (ad : Addr) (m c : Nat) (news : List Value) (hx : a.eval x = .slice (some ad) m c) (hl : news.length = m * size) (hnews : ∀ j u, news[j]? = some u → w.cell? (ad.add j) = some u) (h1 : ∀ u ∈ news, u.oneCell' = true)
    (h63 : n + m ≤ maxLen) (hbytes : (n + m) * bytes ≤ 140737488355328) (hbase : base ≤ w.heap.size)
    (h : ∀ v' w', w'.ownsRow base e size v' (n + m) (xs ++ news) → w.grownBy w' v.ownBlock → (v' = .slice none 0 0 ↔ v = .slice none 0 0 ∧ m = 0) → K (a.put o.dst v') w') :
    if Region.wanted o (yielded ops a.tmps) = true then Oper.wp P o a w K Q else E := by
  have hw : Region.wanted o (yielded ops a.tmps) = true := by simp [Region.wanted, hgd]
  rw [if_pos hw]
  exact wp_append_own w s x t ho base e i z size bytes ht hi hz hsize hby hzs hsz v n xs hs hown ad m c news hx hl hnews h1 h63 hbytes hbase h

theorem pair_cells {w : World} {b : Nat} {x y : Value} (h0 : w.cell? ⟨b, 0, none⟩ = some x) (h1 : w.cell? ⟨b, 1, none⟩ = some y) : ∀ j u, [x, y][j]? = some u → w.cell? ((⟨b, 0, none⟩ : Addr).add j) = some u := by
  intro j u hj
  match j, hj with
  | 0, hj => simp at hj; subst hj; simpa [Addr.add] using h0
  | 1, hj => simp at hj; subst hj; simpa [Addr.add] using h1

theorem own_ne {w : World} {Bs : Nat} {e : TypeId} {v : Value} {n g l c : Nat} {a : Option Addr} {xs : List Value} (rs : List (List UInt8 × List UInt8)) (q : List UInt8 × List UInt8) (h : w.ownsRow Bs e 2 v n xs) (hx : xs = rs.flatMap recEnc ++ recEnc q) (h1 : w.cell? ⟨g, 1, none⟩ = some (.slice a l c)) : v.ownBlock ≠ some g := by
  intro hb
  subst hx
  have hs : ∃ y, (rs.flatMap recEnc ++ recEnc q)[1]? = some (.string y) := by
    cases rs with
    | nil => exact ⟨_, rfl⟩
    | cons x rs => exact ⟨_, rfl⟩
  obtain ⟨y, hy⟩ := hs
  have := h.cells hb 1 _ hy
  rw [show (⟨g, 0, none⟩ : Addr).add 1 = ⟨g, 1, none⟩ from rfl, h1] at this
  cases this
theorem owns_set {w : World} {base : Nat} {e : TypeId} {size : Nat} {v : Value} {n : Nat} {xs : List Value} (h : w.ownsRow base e size v n xs) {p : Addr} (hp : v.ownBlock ≠ some p.block) (u : Value) : (w.setCell p u).ownsRow base e size v n xs := by
  obtain ⟨hl, h | ⟨g, cap, cur, rfl, hg, hh, r⟩⟩ := h
  · exact ⟨hl, .inl h⟩
  · exact ⟨hl, .inr ⟨g, cap, cur, rfl, hg, by rw [Below.heap_setCell _ _ _ _ (fun e => hp (by rw [← e]; rfl))]; exact hh, r⟩⟩
theorem set_ne {w : World} {g o o' : Nat} {v : Value} (h : o ≠ o') (u : Value) (hc : w.cell? ⟨g, o, none⟩ = some v) : (w.setCell ⟨g, o', none⟩ u).cell? ⟨g, o, none⟩ = some v := by
  rw [World.cell?_setCell_other w _ _ _ (by simp only [ne_eq, Addr.mk.injEq]; omega)]; exact hc
theorem set_eq {w : World} {g o : Nat} {v : Value} (u : Value) (hc : w.cell? ⟨g, o, none⟩ = some v) : (w.setCell ⟨g, o, none⟩ u).cell? ⟨g, o, none⟩ = some u :=
  World.cell?_setCell_same' _ _ _ (by rw [hc]; rfl)
theorem RdIs.push {w : World} {g : Nat} {L : List UInt8} {v : Value} {sz : Int} (h : RdIs w g L v sz) (u : Value) : RdIs (w.setCell ⟨g, 1, none⟩ u) g L u sz :=
  ⟨set_ne (by decide) _ h.c0, set_eq _ h.c1, set_ne (by decide) _ h.c2, by rw [World.frozen?_setCell]; exact h.f0, by rw [World.frozen?_setCell]; exact h.f1, by rw [World.frozen?_setCell]; exact h.f2⟩
theorem RdIs.size {w : World} {g : Nat} {L : List UInt8} {v : Value} {sz : Int} (h : RdIs w g L v sz) (z : Int) : RdIs (w.setCell ⟨g, 2, none⟩ (.int .i64 z)) g L v z :=
  ⟨set_ne (by decide) _ h.c0, set_ne (by decide) _ h.c1, set_eq _ h.c2, by rw [World.frozen?_setCell]; exact h.f0, by rw [World.frozen?_setCell]; exact h.f1, by rw [World.frozen?_setCell]; exact h.f2⟩
theorem RdIs.rest {w : World} {g : Nat} {L : List UInt8} {v : Value} {sz : Int} (h : RdIs w g L v sz) (M : List UInt8) : RdIs (w.setCell ⟨g, 0, none⟩ (.string (ms M))) g M v sz :=
  ⟨set_eq _ h.c0, set_ne (by decide) _ h.c1, set_ne (by decide) _ h.c2, by rw [World.frozen?_setCell]; exact h.f0, by rw [World.frozen?_setCell]; exact h.f1, by rw [World.frozen?_setCell]; exact h.f2⟩

/-- The reader has taken a record. -/
def NextPost (Bs : Nat) (w : World) (g : Nat) (R : List UInt8) (n : Nat) (xs : List Value) (q r : List UInt8) (sz : Int) (e : Ending) (w' : World) : Prop :=
  e = .returned .nilIface ∧ ∃ (va : Option Addr) (vc : Nat), RdIs w' g R (.slice va (n + 1) vc) sz ∧ w'.ownsRow Bs 27 2 (.slice va (n + 1) vc) (n + 1) (xs ++ [.string (ms q), .string (ms r)]) ∧ (Value.slice va (n + 1) vc).ownBlock ≠ some g ∧ Below Bs w w'

set_option maxRecDepth 100000 in
set_option maxHeartbeats 4000000 in
theorem next_yes (g : Nat) (L A R T B q r : List UInt8) (va : Option Addr) (n vc : Nat) (sz : Int) (a : Addr) (w : World) (hE : EnvE a w) (hR : RdIs w g L (.slice va n vc) sz) (hL : L.length ≤ 3000000) (hn : n ≤ 60) (hN : NextIs L A R T B q r) (h1 : (cutP 10 L).2.2 = true) (h2 : (verB A).2 = true)
    (O : List UInt8) (hO : Hid (encB n q r = (O, true))) (h3' : (O == A ++ [10]) = true) (hOl : O.length ≤ 1000) (hsz0 : 0 ≤ sz) (hsz1 : sz ≤ 1000000000) (Bs : Nat) (rs : List (List UInt8 × List UInt8)) (hown : w.ownsRow Bs 27 2 (.slice va n vc) n (rs.flatMap recEnc)) (hne : (Value.slice va n vc).ownBlock ≠ some g) (hBs : Bs ≤ g) (hBsw : Bs ≤ w.heap.size) :
    Calls Tryd.prog 97 #[.pointer (some ⟨g, 0, none⟩)] w (NextPost Bs w g R n (rs.flatMap recEnc) q r (sz + O.length)) := by
  obtain ⟨i0, hi, hz0, hz1, hz2⟩ := info_parts infoRec
  have h3 : (O == A ++ bl ⟨#[10]⟩) = true := h3'
  clear h3'
  have hEH := Lib.hid hE
  have hNH := Lib.hid hN
  obtain ⟨zA, zT, zB, zq, zr⟩ := hN.sizes hL
  obtain ⟨c0, c1, c2, f0, f1, f2⟩ := hR
  have herr := hE.err
  have hlt := World.block_lt_of_cell? _ _ c0
  have hlt0 := World.block_lt_of_cell? _ _ herr
  have hadd := fun w => run_add (P := Tryd.prog) w (ms A) ⟨#[10]⟩ (by rw [ms_size, show (ByteArray.mk #[10]).size = 1 from rfl]; omega)
  clear hE hN
  go_enter Tryd.func97, Tryd.ntmps97
  go_wp2_with fail
  refine (cut_at L 10 10 rfl _ hEH.out.env hL).mono ?_
  rintro e w1 ⟨rfl, hb1⟩
  obtain ⟨hc1, hf1⟩ := bcell hb1
  have hlt1 := Nat.lt_of_lt_of_le hlt0 hb1.size
  rw [h1, ← hNH.out.hA, ← hNH.out.hR]
  go_wp2_with fail
  refine (implVerifyChecksum_any (ms A) _ (hEH.out.grow hb1).env (by rw [ms_size]; omega)).mono ?_
  rintro e w2 ⟨rfl, hb2⟩
  obtain ⟨hc2, hf2⟩ := bcell hb2
  rw [bl_ms, h2, ← hNH.out.hT]
  have hB2 : Hid (Below w.heap.size w w2) := (by repeat (first | exact bb _ | assumption | refine bal ?_ _ | refine bdr ?_ | refine bdn ?_ _ | refine bst ?_ (by simp <;> omega) _ | refine btr ?_ (by assumption)))
  go_wp2_with fail
  refine (cut_at T 32 32 rfl _ (hEH.out.grow hB2.out).env zT).mono ?_
  rintro e w3 ⟨rfl, hb3⟩
  rw [← hNH.out.hB]
  have hB3 : Hid (Below w.heap.size w w3) := btr hB2.out hb3
  go_wp2_with fail
  refine (cut_at B 64 64 rfl _ (hEH.out.grow hB3.out).env zB).mono ?_
  rintro e w4 ⟨rfl, hb4⟩
  rw [← hNH.out.hq, ← hNH.out.hr]
  have hB4 : Hid (Below w.heap.size w w4) := btr hB3.out hb4
  clear hc1 hf1 hc2 hf2 hb1 hb2 hb3 hb4
  have d1 : w4.cell? ⟨g, 1, none⟩ = some (.slice va n vc) := (hB4.out.cell (p := ⟨g, 1, none⟩) hlt).trans c1
  have dE := (hB4.out.cell (p := ⟨0, 0, none⟩) hlt0).trans herr
  have hg4 : g < w4.heap.size := Nat.lt_of_lt_of_le hlt hB4.out.size
  have h04 : 0 < w4.heap.size := Nat.lt_of_lt_of_le hlt0 hB4.out.size
  have hg5 : g < w4.heap.size + 1 := by omega
  have h05 : 0 < w4.heap.size + 1 := by omega
  have HEnc : Hid (∀ w', Below w4.heap.size w4 w' → Calls Tryd.prog 18 #[.int .i64 n, .agg #[.string (ms q), .string (ms r)]] w' fun e w'' => e = .returned (.tuple #[.string (ms O), .bool true]) ∧ Below w'.heap.size w' w'') := by
    intro w' hb'
    have := implEncodeRecord_any n (ms q) (ms r) w' ((hEH.out.grow hB4.out).grow hb').env (by rw [ms_size]; omega) (by rw [ms_size]; omega)
    rwa [bl_ms, bl_ms, hO.out] at this
  go_upto_region 10 with fail
  go_region_held3 (fun w' => w'.cell? ⟨g, 1, none⟩ = some (.slice va n vc) ∧ w'.cell? ⟨w4.heap.size, 0, none⟩ = some (.string (ms q)) ∧ w'.cell? ⟨w4.heap.size, 1, none⟩ = some (.string (ms r))) (go_keep)
    (first | (go_at_call 18; (with_reducible refine (HEnc.out _ (by repeat (first | exact bb _ | assumption | refine bal ?_ _ | refine bdr ?_ | refine bdn ?_ _ | refine bst ?_ (by simp <;> omega) _ | refine btr ?_ (by assumption)))).mono ?_); rintro e w5 ⟨rfl, hb5⟩; have y1 := (fun o => (bcell hb5).1 g o (by simp <;> omega)); have y2 := (fun o => (bcell hb5).1 w4.heap.size o (by simp)); have y3 := (fun o => (bcell hb5).1 0 o (by simp <;> omega))))
  go_upto_region 13 with fail
  have hB5 : Hid (Below w.heap.size w w5) := (by repeat (first | exact bb _ | assumption | refine bal ?_ _ | refine bdr ?_ | refine bdn ?_ _ | refine bst ?_ (by simp <;> omega) _ | refine btr ?_ (by assumption)))
  have hown5 := owns_grow hown hB5.out
  have e0 := (hB5.out.cell (p := ⟨g, 0, none⟩) hlt).trans c0
  have e1 := (hB5.out.cell (p := ⟨g, 1, none⟩) hlt).trans c1
  have e2 := (hB5.out.cell (p := ⟨g, 2, none⟩) hlt).trans c2
  have k0 := (hB5.out.frozen (p := ⟨g, 0, none⟩) hlt).trans f0
  have k1 := (hB5.out.frozen (p := ⟨g, 1, none⟩) hlt).trans f1
  have k2 := (hB5.out.frozen (p := ⟨g, 2, none⟩) hlt).trans f2
  have q0 : w5.cell? ⟨w4.heap.size, 0, none⟩ = some (.string (ms q)) := (y2 0).trans (by simp [go_sem])
  have q1 : w5.cell? ⟨w4.heap.size, 1, none⟩ = some (.string (ms r)) := (y2 1).trans (by simp [go_sem])
  have hgw : g < w5.heap.size := Nat.lt_of_lt_of_le hlt hB5.out.size
  have hBs5 : Bs ≤ w5.heap.size := by omega
  have hx1 : (n + 1 : Nat) ≤ 100 := by omega
  clear y1 y2 y3 hb5 d1 dE HEnc hB4 hB3 hB2 c0 c1 c2 f0 f1 f2
  go_cut [] (fun wx => ∃ (vb : Option Addr) (vd : Nat), RdIs wx g L (.slice vb (n + 1) vd) sz ∧ wx.ownsRow Bs 27 2 (.slice vb (n + 1) vd) (n + 1) (rs.flatMap recEnc ++ [.string (ms q), .string (ms r)]) ∧ (Value.slice vb (n + 1) vd).ownBlock ≠ some g ∧ Below Bs w wx)
  case first =>
    go_region_law (refine step_append_own rfl _ _ 48 rfl Bs 27 i0 (.agg #[.string ByteArray.empty, .string ByteArray.empty]) 2 32 Tryd.underlying48 hi hz0 hz1 hz2 rfl (by decide) _ n (rs.flatMap recEnc) rfl (owns_grow hown5 (by repeat (first | exact bb _ | assumption | refine bal ?_ _ | refine bdr ?_ | refine bdn ?_ _ | refine bst ?_ (by simp <;> omega) _ | refine btr ?_ (by assumption)))) ⟨w5.heap.size, 0, none⟩ 1 1 [.string (ms q), .string (ms r)] rfl rfl (pair_cells (by simp [go_sem]) (by simp [go_sem])) (by simp [Value.oneCell']) (by unfold maxLen; omega) (by omega) (by simp <;> omega) ?_; intro v' w6 hown6 hgrow6 hnil6; obtain ⟨ga, gc, rfl⟩ := Joins.ownsRow_form hown6 (by simp); have hblk := hgrow6.block g (by simp <;> omega) (fun e => hne e.symm); have m0 := (World.cell?_of_block (a := ⟨g, 0, none⟩) hblk).trans (by simp [go_sem, hgw]; exact e0); have m1 := (World.cell?_of_block (a := ⟨g, 1, none⟩) hblk).trans (by simp [go_sem, hgw]; exact e1); have m2 := (World.cell?_of_block (a := ⟨g, 2, none⟩) hblk).trans (by simp [go_sem, hgw]; exact e2); have l0 := (World.frozen?_of_block (a := ⟨g, 0, none⟩) hblk).trans (by simp [go_sem, hgw]; exact k0); have l1 := (World.frozen?_of_block (a := ⟨g, 1, none⟩) hblk).trans (by simp [go_sem, hgw]; exact k1); have l2 := (World.frozen?_of_block (a := ⟨g, 2, none⟩) hblk).trans (by simp [go_sem, hgw]; exact k2))
    all_goals
      have hne6 := own_ne rs (q, r) hown6 rfl m1
      have hRd : RdIs w6 g L (.slice va n vc) sz := ⟨m0, m1, m2, l0, l1, l2⟩
      have hB6 : Below Bs w w6 := Below.grown ((show Below w.heap.size w _ from (by repeat (first | exact bb _ | assumption | refine bal ?_ _ | refine bdr ?_ | refine bdn ?_ _ | refine bst ?_ (by simp <;> omega) _ | refine btr ?_ (by assumption)))).mono hBsw) hgrow6 (by simp <;> omega) (fun k hk => (hown.lt k hk).1)
      go_wp2_with fail
      go_meet
      exact ⟨_, _, hRd.push _, owns_set hown6 hne6 _, hne6, hB6.setCell hBs _⟩
  case rest =>
    obtain ⟨vb, vd, hRd, hownC, hneC, hBC⟩ := hcut
    have HP : Hid (NextPost Bs w g R n (rs.flatMap recEnc) q r (sz + O.length) (.returned .nilIface) ((wc.setCell ⟨g, 2, none⟩ (.int .i64 (sz + O.length))).setCell ⟨g, 0, none⟩ (.string (ms R)))) :=
      ⟨rfl, vb, vd, (hRd.size _).rest _, owns_set (owns_set hownC hneC _) hneC _, hneC, (hBC.setCell hBs _).setCell hBs _⟩
    obtain ⟨x0, x1, x2, y0, y1, y2⟩ := hRd
    clear hownC hneC hBC
    go_wp2_with fail
    go_ret
    exact HP.out
end Go.Proofs.YtfcekfomhpmgpaaDoor
