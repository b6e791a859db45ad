/- Lemmas and contracts for a law, put together out of several texts: PgR. -/
import Derived.Test.YtnfjgebfmnpkbaaGreatMg9
/- Contract: the draw of a graph, weakly. -/
namespace Go.Proofs.YtnfjgebfmnpkbaaGreat
open Go.RowKit

section
variable {w0 w w' : World} {g cl cc A A' i b o : Nat} {ca : Option Addr} {ps : List Asn} {t : TypeId} {cs : Array Value}
theorem last_at {q : Asn} : (ps ++ [q])[ps.length]? = some q := by simp
theorem CS.store_last (h : CS w0 g ca cl cc A w (ps ++ [Box b t cs])) (o : Nat) (u : Value) : CS w0 g ca cl cc A (w.setCell ⟨b, o, none⟩ u) (ps ++ [Box b t (cs.setIfInBounds o u)]) := by
  have S := h.store (i := ps.length) last_at o u
  rwa [List.set_append_right _ _ (Nat.le_refl _), Nat.sub_self, List.set_cons_zero] at S
/-- Lists stay as they are where no block from here on has turned. -/
def StayC (w w' : World) (B : Option Addr) (L : List (List Int)) : Prop := ∀ W : World, (∀ k, w.heap.size ≤ k → k < w'.heap.size → W.heap[k]? = w'.heap[k]?) → ClsAt W B L
theorem lst_stay {B : Option Addr} {c n : Nat} {ks : List Lst} (h : CS w0 g ca cl cc A w ps) (hi : ps[i]? = some (Own 33 1 (.slice B n c) n (ks.map Lst.hd))) (hn : ks.length = n) (hr : ∀ t ∈ ks, t.row ∈ ps) (hI : ∀ t ∈ ks, ∀ x ∈ t.xs, I64 x) : StayC w0 w B (ks.map Lst.xs) := fun W hW => by
  subst hn
  have own' : ∀ {j : Nat} {e : TypeId} {size : Nat} {v : Value} {m : Nat} {xs : List Value}, ps[j]? = some (Own e size v m xs) → W.ownsRow 0 e size v m xs := fun hj => by
    obtain ⟨F, hp, hF⟩ := h.get hj
    exact ((Own _ _ _ _ _).keep hp fun b hb => hW b (hF b hb) ((Own _ _ _ _ _).lt hp b hb)).2
  have ho := own' hi
  have ho2 : W.ownsRow 0 33 1 (.slice B ks.length c) (ks.map fun t => (t.hd, t.xs)).length ((ks.map fun t => (t.hd, t.xs)).map Prod.fst) := by
    rw [List.length_map, List.map_map]; exact ho
  obtain ⟨A', c', e, hc⟩ := cls_own ho2 fun q hq => by
    obtain ⟨t, ht, rfl⟩ := List.mem_map.1 hq
    obtain ⟨j, hj⟩ := List.mem_iff_getElem?.1 (hr t ht)
    obtain ⟨D, d, e, hx⟩ := ints_own (own' hj) (hI t ht)
    exact ⟨D, d, e, hx⟩
  simp only [Value.slice.injEq] at e
  obtain ⟨rfl, -, -⟩ := e
  rw [List.map_map] at hc
  exact hc
/-- What is told of lists in own rows. -/
theorem dag_out {B : Option Addr} {c n : Nat} {ks : List Lst} (h : CS w0 g ca cl cc A w ps) (hi : ps[i]? = some (Own 33 1 (.slice B n c) n (ks.map Lst.hd))) (hn : ks.length = n) (hr : ∀ t ∈ ks, t.row ∈ ps) (hL : LstOk 20 4 ks) (hA : A ≤ A') :
    StayC w0 w B (ks.map Lst.xs) ∧ ((ks.map Lst.xs).length ≤ 20 ∧ ∀ l ∈ ks.map Lst.xs, l.length ≤ 4) ∧ CurIs A' g ca cl cc w ∧ Chg [g] w0 w :=
  ⟨lst_stay h hi hn hr fun t ht => (hL.2 t ht).2, ⟨by rw [List.length_map]; exact hL.1, fun l hl => by
    obtain ⟨t, ht, rfl⟩ := List.mem_map.1 hl
    exact (hL.2 t ht).1⟩, h.cur.mono hA, h.chg⟩
end
def lenAt0Q (w : World) (b : Nat) : Nat := match w.cell? ⟨b, 0, none⟩ with | some (.slice _ n _) => n | _ => 0
theorem lenAt0Q_of {w : World} {b n c : Nat} {B : Option Addr} (h : w.cell? ⟨b, 0, none⟩ = some (.slice B n c)) : lenAt0Q w b = n := by simp [lenAt0Q, h]
/-- Some lists of numbers; the cursor has turned. -/
def DagP (w : World) (g : Nat) (ca : Option Addr) (cl cc A : Nat) (e : Ending) (w' : World) : Prop := ∃ (B : Option Addr) (c : Nat) (L : List (List Int)), e = .returned (.agg #[.slice B L.length c]) ∧ StayC w w' B L ∧ (L.length ≤ 20 ∧ ∀ l ∈ L, l.length ≤ 4) ∧ CurIs A g ca cl cc w' ∧ Chg [g] w w'

set_option maxRecDepth 100000 in
set_option maxHeartbeats 16000000 in
theorem cur_dag (A g : Nat) (ca : Option Addr) (cl cc : Nat) (w : World) (h : CurIs A g ca cl cc w) (hA : A ≤ 1000) :
    Calls Tryz.prog 35 #[.pointer (some ⟨g, 0, none⟩)] w (DagP w g ca cl cc (A + 200)) := by
  have hg := h.lt
  obtain ⟨i1, hi1, hrz0, hrz1, hrz2⟩ := info_parts infoRow
  have S0 := Lib.hid ((CS.start h).alloc_box #[.slice none 0 0] 26)
  go_enter Tryz.func35, Tryz.ntmps35
  go_wp2_with fail
  refine (cur_pick_at (lo := 0) (hi := 7) S0.out.cur (by omega) (by omega) (by omega) (by omega) (by omega)).mono ?_
  rintro e w1 ⟨_, ⟨y, hy0, hy1, rfl⟩, rfl, hi1', hc1⟩
  have S1 := Lib.hid (S0.out.turn hi1' hc1)
  clear S0 hi1' hc1
  by_cases y0 : y = 0
  · --{ pyramid
    subst y0
    go_wp2_with fail
    refine (cur_pick_at (lo := 0) (hi := 3) S1.out.cur (by omega) (by omega) (by omega) (by omega) (by omega)).mono ?_
    rintro e w2 ⟨_, ⟨z, hz0, hz1, rfl⟩, rfl, hi2, hc2⟩
    have S2 := Lib.hid (S1.out.turn hi2 hc2)
    obtain ⟨z, rfl⟩ := Int.eq_ofNat_of_zero_le hz0
    have hzw : IntKind.i64.wrap (1 + (z : Int)) = ((z + 1 : Nat) : Int) := by rw [IntWalk.i64_in _ (by omega)]; push_cast; omega
    have hpy := Lib.hid (fun W => l14Pyramid_any (z + 1) (by omega) (by omega) W)
    clear S1 hi2 hc2
    go_wp2_with fail
    refine (hpy.out _).mono ?_
    rintro e w3 ⟨B, c, ks, rfl, hL, T⟩
    have S3 := S2.out.seq T
    have f0 := S3.frozen (i := (LRow B c ks :: ks.reverse.map Lst.row).length) last_at 0
    have e0 := S3.cell (i := (LRow B c ks :: ks.reverse.map Lst.row).length) last_at (o := 0) rfl
    have S4 := S3.store_last 0 (.slice B ks.length c)
    have j0 := S4.cell (i := (LRow B c ks :: ks.reverse.map Lst.row).length) last_at (o := 0) rfl
    have hfin := Lib.hid (dag_out (A' := A + 200) S4 (i := 0) rfl rfl (fun t ht => List.mem_append.2 (.inl (List.mem_cons_of_mem _ (List.mem_map.2 ⟨t, List.mem_reverse.2 ht, rfl⟩)))) (hL.more (Nat.le_refl _) (by omega)) (by omega))
    clear S2 T S3 S4 hpy hL
    go_wp2_with fail
    exact bodyPost_ret (v := .agg #[.slice B ks.length c]) (by simp [results, Tryz.results35, go_sem, j0]) rfl ⟨B, c, ks.map Lst.xs, by rw [List.length_map], hfin.out⟩
    --} pyramid
  have y0b : (y == 0) = false := by simp [y0]
  by_cases y1 : y = 1
  · --{ path
    subst y1
    go_wp2_with fail
    refine (cur_pick_at (lo := 0) (hi := 5) S1.out.cur (by omega) (by omega) (by omega) (by omega) (by omega)).mono ?_
    rintro e w2 ⟨_, ⟨z, hz0, hz1, rfl⟩, rfl, hi2, hc2⟩
    have S2 := Lib.hid (S1.out.turn hi2 hc2)
    obtain ⟨z, rfl⟩ := Int.eq_ofNat_of_zero_le hz0
    have hzw : IntKind.i64.wrap (1 + (z : Int)) = ((z + 1 : Nat) : Int) := by rw [IntWalk.i64_in _ (by omega)]; push_cast; omega
    have hpy := Lib.hid (fun W => specPath_any (z + 1) (by omega) (by omega) W)
    clear S1 hi2 hc2
    go_wp2_with fail
    refine (hpy.out _).mono ?_
    rintro e w3 ⟨B, c, ks, rfl, hL, T⟩
    have S3 := (S2.out.seq T).alloc_box #[.slice B ks.length c] 26
    have S3' : CS w g ca cl cc (A + 2 + 2) _ ((Box w3.heap.size 26 #[.slice B ks.length c] :: LRow B c ks :: ks.reverse.map Lst.row) ++ [Box w.heap.size 26 #[.slice none 0 0]]) := S3
    have d0 := S3'.cell (i := 0) rfl (o := 0) rfl
    have f0 := S3'.frozen (i := (Box w3.heap.size 26 #[.slice B ks.length c] :: LRow B c ks :: ks.reverse.map Lst.row).length) last_at 0
    have e0 := S3'.cell (i := (Box w3.heap.size 26 #[.slice B ks.length c] :: LRow B c ks :: ks.reverse.map Lst.row).length) last_at (o := 0) rfl
    have S4 := S3'.store_last 0 (.slice B ks.length c)
    have j0 := S4.cell (i := (Box w3.heap.size 26 #[.slice B ks.length c] :: LRow B c ks :: ks.reverse.map Lst.row).length) last_at (o := 0) rfl
    have hfin := Lib.hid (dag_out (A' := A + 200) S4 (i := 1) rfl rfl (fun t ht => List.mem_append.2 (.inl (List.mem_cons_of_mem _ (List.mem_cons_of_mem _ (List.mem_map.2 ⟨t, List.mem_reverse.2 ht, rfl⟩))))) (hL.more (Nat.le_refl _) (by omega)) (by omega))
    clear S2 T S3 S3' S4 hpy hL
    go_wp2_with fail
    exact bodyPost_ret (v := .agg #[.slice B ks.length c]) (by simp [results, Tryz.results35, go_sem, j0]) rfl ⟨B, c, ks.map Lst.xs, by rw [List.length_map], hfin.out⟩
    --} path
  have y1b : (y == 1) = false := by simp [y1]
  --{ lists
  have S2 := ((S1.out.own_made 33 1).alloc_box #[.slice (some ⟨w1.heap.size, 0, none⟩) 0 0] 26).alloc_box #[.int .i64 1, .int .i64 3, .int .i64 4, .int .i64 5, .int .i64 6, .int .i64 7, .int .i64 5, .int .i64 6] 3
  simp only [World.size_alloc] at S2
  have S2' := Lib.hid S2.tail
  replace S2 := Lib.hid S2
  clear S1
  go_wp2_with fail
  have hcall := Lib.hid (cur_among 1 7 (w1.heap.size + 1 + 1) 0 8 8 (A + 2) g ca cl cc _ S2.out.cur (by omega) (by omega) (by omega) (fun j hj => by
    rw [Nat.zero_add]
    match j, hj with
    | 0, _ => exact ⟨_, by decide, by decide, S2.out.cell (i := 0) rfl rfl⟩
    | 1, _ => exact ⟨_, by decide, by decide, S2.out.cell (i := 0) rfl rfl⟩
    | 2, _ => exact ⟨_, by decide, by decide, S2.out.cell (i := 0) rfl rfl⟩
    | 3, _ => exact ⟨_, by decide, by decide, S2.out.cell (i := 0) rfl rfl⟩
    | 4, _ => exact ⟨_, by decide, by decide, S2.out.cell (i := 0) rfl rfl⟩
    | 5, _ => exact ⟨_, by decide, by decide, S2.out.cell (i := 0) rfl rfl⟩
    | 6, _ => exact ⟨_, by decide, by decide, S2.out.cell (i := 0) rfl rfl⟩
    | 7, _ => exact ⟨_, by decide, by decide, S2.out.cell (i := 0) rfl rfl⟩) (by have := S2.out.glt; have := (S2.out.box (i := 0) rfl).1; omega))
  refine hcall.out.mono ?_
  rintro e w2 ⟨_, ⟨z, hz0, hz1, rfl⟩, rfl, hi2, hc2⟩
  obtain ⟨m, rfl⟩ := Int.eq_ofNat_of_zero_le (show (0 : Int) ≤ z by omega)
  have S3 := (S2.out.turn hi2 hc2).tail
  obtain ⟨db, hdb⟩ : ∃ db, w1.heap.size + 1 = db := ⟨_, rfl⟩
  rw [hdb] at S3
  have S4 : Hid (CS w g ca cl cc (A + 4 + 8 * (7 - m)) w2 (LRow (some ⟨w1.heap.size, 0, none⟩) 0 [] :: Box db 26 #[.slice (some ⟨w1.heap.size, 0, none⟩) ([] : List Lst).length 0] :: Box w.heap.size 26 #[.slice none 0 0] :: ([] : List Lst).reverse.map Lst.row)) := ((S3.swap).mono (by omega))
  have hL0 : Hid (LstOk (7 - m) 3 [] ∧ 1 ≤ ([] : List Lst).length + m) := ⟨⟨by simp, fun t ht => by simp at ht⟩, by simp; omega⟩
  clear S2 S2' S3 hcall hi2 hc2
  go_wp2_with fail
  (try rw [hdb])
  replace hdb := Lib.hid hdb
  go_loopw [6] (fun v6 wr => ∃ (m : Nat) (B : Option Addr) (c : Nat) (ks : List Lst), m ≤ 7 ∧ v6 = .int .i64 m ∧ Hid (LstOk (7 - m) 3 ks ∧ 1 ≤ ks.length + m) ∧ Hid (CS w g ca cl cc (A + 4 + 8 * (7 - m)) wr (LRow B c ks :: Box db 26 #[.slice B ks.length c] :: Box w.heap.size 26 #[.slice none 0 0] :: ks.reverse.map Lst.row))) (fun v6 _ => (intOf v6).toNat)
  case atStart => exact ⟨m, _, 0, [], by omega, rfl, hL0, S4⟩
  case round =>
    clear S4 hL0 hz0 hz1
    obtain ⟨m, B, c, ks, hm7, rfl, hL, HS⟩ := hrel
    have hkl := hL.out.1.1
    by_cases hlt : 0 < m
    · --{ one
      have hmw : IntKind.i64.wrap ((m : Int) - 1) = ((m - 1 : Nat) : Int) := by rw [IntWalk.i64_in _ (by omega)]; omega
      obtain ⟨A1, hA1⟩ : ∃ A1, A + 4 + 8 * (7 - m) = A1 := ⟨_, rfl⟩
      rw [hA1] at HS
      have hA1b : A1 ≤ 2000 := by omega
      replace hA1 := Lib.hid hA1
      have S2 := (HS.out.own_made 3 1).alloc_box #[.int .i64 0, .int .i64 1, .int .i64 2, .int .i64 2, .int .i64 3] 3
      simp only [World.size_alloc] at S2
      replace S2 := Lib.hid S2
      clear HS
      rename World => wo
      go_wp2_with fail
      have hcall := Lib.hid (cur_among 0 3 (wo.heap.size + 1) 0 5 5 A1 g ca cl cc _ S2.out.cur (by omega) (by omega) (by omega) (fun j hj => by
        rw [Nat.zero_add]
        match j, hj with
        | 0, _ => exact ⟨_, by decide, by decide, S2.out.cell (i := 0) rfl rfl⟩
        | 1, _ => exact ⟨_, by decide, by decide, S2.out.cell (i := 0) rfl rfl⟩
        | 2, _ => exact ⟨_, by decide, by decide, S2.out.cell (i := 0) rfl rfl⟩
        | 3, _ => exact ⟨_, by decide, by decide, S2.out.cell (i := 0) rfl rfl⟩
        | 4, _ => exact ⟨_, by decide, by decide, S2.out.cell (i := 0) rfl rfl⟩) (by have := S2.out.glt; have := (S2.out.box (i := 0) rfl).1; omega))
      refine hcall.out.mono ?_
      rintro e w3 ⟨_, ⟨z, hz0, hz1, rfl⟩, rfl, hi3, hc3⟩
      obtain ⟨q, rfl⟩ := Int.eq_ofNat_of_zero_le hz0
      have S3 : Hid (CS w g ca cl cc (A1 + 2 + 2 * (3 - q)) w3 (OwnL (some ⟨wo.heap.size, 0, none⟩) 0 [] :: LRow B c ks :: Box db 26 #[.slice B ks.length c] :: Box w.heap.size 26 #[.slice none 0 0] :: ks.reverse.map Lst.row)) := ((S2.out.turn hi3 hc3).tail).mono (by omega)
      clear S2 hcall hi3 hc3
      go_wp2_with fail
      go_loopw [7, 8] (fun v7 v8 wr => ∃ (q : Nat) (E : Option Addr) (d : Nat) (xs : List Int), q ≤ 3 ∧ v8 = .int .i64 q ∧ v7 = .slice E xs.length d ∧ Hid (xs.length ≤ 3 - q ∧ ∀ x ∈ xs, I64 x) ∧ Hid (CS w g ca cl cc (A1 + 2 + 2 * (3 - q)) wr (OwnL E d xs :: LRow B c ks :: Box db 26 #[.slice B ks.length c] :: Box w.heap.size 26 #[.slice none 0 0] :: ks.reverse.map Lst.row))) (fun _ v8 _ => (intOf v8).toNat)
      case atStart => exact ⟨q, _, 0, [], by omega, rfl, rfl, ⟨by simp, fun x hx => by simp at hx⟩, S3⟩
      case round =>
        clear S3 hz0 hz1
        obtain ⟨q, E, d, xs, hq3, rfl, rfl, hxs, HS⟩ := hrel
        have c0 := HS.out.cell (i := 2) rfl (o := 0) rfl
        by_cases hgo : 0 < q ∧ 0 < ks.length
        · obtain ⟨hq0, hk0⟩ := hgo
          have hqw : IntKind.i64.wrap ((q : Int) - 1) = ((q - 1 : Nat) : Int) := by rw [IntWalk.i64_in _ (by omega)]; omega
          have hpk := Lib.hid (cur_pick_at (lo := 0) (hi := (ks.length : Int) - 1) (n := (ks.length : Int)) HS.out.cur (by omega) (by omega) (by omega) (by omega) (by omega))
          go_wp2_with fail
          refine hpk.out.mono ?_
          rintro e w4 ⟨_, ⟨x, hx0, hx1, rfl⟩, rfl, hi4, hc4⟩
          have S4 := Lib.hid ((HS.out.turn hi4 hc4).mono (A' := A1 + 2 + 2 * (3 - (q - 1))) (by omega))
          obtain ⟨F, hr, -, -⟩ := own_row (S4.out.own (i := 0) rfl) hxs.out.2
          have hpu := Lib.hid (l1PutO_any E d xs x F w4 (Ty.row_down hr) (by unfold I64; omega) (by have := hxs.out.1; omega))
          have hp1 := put1_le xs x
          have hp2 := Lib.hid (fun y => put1_mem (xs := xs) (x := x) (y := y))
          have hxb : I64 x := by unfold I64; omega
          clear HS hpk hi4 hc4 hr c0
          go_wp2_with fail
          refine hpu.out.mono ?_
          rintro e w5 (⟨rfl, hpe, hb5⟩ | ⟨E2, d2, rfl, T⟩)
          · have S5 := Lib.hid (S4.out.grow hb5)
            have hx2 : Hid (xs.length ≤ 3 - (q - 1) ∧ ∀ x ∈ xs, I64 x) := ⟨by have := hxs.out.1; omega, hxs.out.2⟩
            clear S4 hpu hb5 hpe hp1 hp2 hxs
            go_wp2_with fail
            go_roundw
            case rel => exact ⟨q - 1, E, d, xs, by omega, rfl, rfl, hx2, S5⟩
            case measure => simp [intOf]; omega
          · have S5 := Lib.hid (CS.third2 (S4.out.seq T))
            have hx2 : Hid ((put1 xs x).length ≤ 3 - (q - 1) ∧ ∀ y ∈ put1 xs x, I64 y) := ⟨by have := hxs.out.1; omega, fun y hy => by
              rcases hp2.out y hy with rfl | hy
              · exact hxb
              · exact hxs.out.2 y hy⟩
            clear S4 hpu T hp1 hp2 hxs
            generalize put1 xs x = zs at *
            go_wp2_with fail
            go_roundw
            case rel => exact ⟨q - 1, E2, d2, zs, by omega, rfl, rfl, hx2, S5⟩
            case measure => simp [intOf]; omega
        · by_cases hqn : 0 < q
          · have hkn : ¬ 0 < ks.length := fun h => hgo ⟨hqn, h⟩
            clear hgo
            have S5 := HS.out.alloc_box #[.slice E xs.length d] 33
            have kB := S5.cell (i := 0) rfl (o := 0) rfl
            have hown := Lib.hid (S5.own (i := 2) rfl)
            have hLp : Hid (LstOk (7 - (m - 1)) 3 (ks ++ [(⟨E, d, xs⟩ : Lst)]) ∧ 1 ≤ (ks ++ [(⟨E, d, xs⟩ : Lst)]).length + (m - 1)) := ⟨LstOk.more (LstOk.push hL.out.1 (t := ⟨E, d, xs⟩) (show xs.length ≤ 3 by have := hxs.out.1; omega) hxs.out.2) (by omega) (Nat.le_refl _), by rw [List.length_append, List.length_singleton]; omega⟩
            replace S5 := Lib.hid S5
            clear HS hL hxs
            go_wp2_with (at_builtin; refine wpList_append_src rfl _ _ rfl Tryz.underlying24 hi1 hrz0 hrz1 hrz2 rfl (by decide) _ ks.length _ rfl hown.out _ 1 1 [.slice E xs.length d] rfl (Src.one kB) (by simp [Value.oneCell']) ?c3 ?c4 ?_)
            case c3 => unfold maxLen; omega
            case c4 => omega
            intro vY wY hownY hgY hatY
            have S6 := (S5.out.own_push (i := 2) rfl (bb _) hownY hgY (by simpa using hatY)).tail
            obtain ⟨aY, cY, rfl⟩ := own_slice hownY
            have hl1 : ks.length + 1 = (ks ++ [(⟨E, d, xs⟩ : Lst)]).length := by simp
            have S7 := (CS.lst_push S6 rfl rfl).mono (A' := A + 4 + 8 * (7 - (m - 1))) (by have := hA1.out; omega)
            clear S5 S6 kB hown hownY hgY hatY
            rw [hl1]
            generalize ks ++ [(⟨E, d, xs⟩ : Lst)] = ks2 at *
            clear hl1
            have f0 := S7.frozen (i := 1) rfl 0
            have e0 := S7.cell (i := 1) rfl (o := 0) rfl
            have S8 := Lib.hid (S7.store (i := 1) rfl 0 (.slice aY ks2.length cY))
            clear S7 c0
            go_wp2_with fail
            clear f0 e0
            go_roundw
            case rel => exact ⟨m - 1, aY, cY, ks2, by omega, rfl, hLp, S8⟩
            case measure => simp [intOf]; omega
          · clear hgo
            have S5 := HS.out.alloc_box #[.slice E xs.length d] 33
            have kB := S5.cell (i := 0) rfl (o := 0) rfl
            have hown := Lib.hid (S5.own (i := 2) rfl)
            have hLp : Hid (LstOk (7 - (m - 1)) 3 (ks ++ [(⟨E, d, xs⟩ : Lst)]) ∧ 1 ≤ (ks ++ [(⟨E, d, xs⟩ : Lst)]).length + (m - 1)) := ⟨LstOk.more (LstOk.push hL.out.1 (t := ⟨E, d, xs⟩) (show xs.length ≤ 3 by have := hxs.out.1; omega) hxs.out.2) (by omega) (Nat.le_refl _), by rw [List.length_append, List.length_singleton]; omega⟩
            replace S5 := Lib.hid S5
            clear HS hL hxs
            go_wp2_with (at_builtin; refine wpList_append_src rfl _ _ rfl Tryz.underlying24 hi1 hrz0 hrz1 hrz2 rfl (by decide) _ ks.length _ rfl hown.out _ 1 1 [.slice E xs.length d] rfl (Src.one kB) (by simp [Value.oneCell']) ?c3 ?c4 ?_)
            case c3 => unfold maxLen; omega
            case c4 => omega
            intro vY wY hownY hgY hatY
            have S6 := (S5.out.own_push (i := 2) rfl (bb _) hownY hgY (by simpa using hatY)).tail
            obtain ⟨aY, cY, rfl⟩ := own_slice hownY
            have hl1 : ks.length + 1 = (ks ++ [(⟨E, d, xs⟩ : Lst)]).length := by simp
            have S7 := (CS.lst_push S6 rfl rfl).mono (A' := A + 4 + 8 * (7 - (m - 1))) (by have := hA1.out; omega)
            clear S5 S6 kB hown hownY hgY hatY
            rw [hl1]
            generalize ks ++ [(⟨E, d, xs⟩ : Lst)] = ks2 at *
            clear hl1
            have f0 := S7.frozen (i := 1) rfl 0
            have e0 := S7.cell (i := 1) rfl (o := 0) rfl
            have S8 := Lib.hid (S7.store (i := 1) rfl 0 (.slice aY ks2.length cY))
            clear S7 c0
            go_wp2_with fail
            clear f0 e0
            go_roundw
            case rel => exact ⟨m - 1, aY, cY, ks2, by omega, rfl, hLp, S8⟩
            case measure => simp [intOf]; omega
      --} one
    · obtain rfl : m = 0 := by omega
      have hN : 1 ≤ ks.length := by have := hL.out.2; omega
      have hL2 := Lib.hid hL.out.1
      have S5 := Lib.hid (HS.out.mono (A' := A + 60) (by omega))
      have c5 := S5.out.cell (i := 1) rfl (o := 0) rfl
      have hpk := Lib.hid (cur_pick_at (lo := 0) (hi := 23) (n := 24) S5.out.cur (by omega) (by omega) (by omega) (by omega) (by omega))
      clear HS hL hlt hm7
      go_wp2_with fail
      refine hpk.out.mono ?_
      rintro e w4 ⟨_, ⟨y, _, _, rfl⟩, rfl, hi4, hc4⟩
      have S6 := Lib.hid (S5.out.turn hi4 hc4)
      clear S5 hpk hi4 hc4 c5
      by_cases z0 : y = 0
      · --{ c0
        subst z0
        obtain ⟨gx, cap, cur, eB, -⟩ := own_block (S6.out.own (i := 0) rfl) hN
        simp only [Value.slice.injEq] at eB
        obtain ⟨rfl, -, -⟩ := eB
        obtain ⟨k, hk⟩ : ∃ k, ks.length - 1 = k := ⟨_, rfl⟩
        have hkl2 : k < ks.length := by omega
        have hkw : IntKind.i64.wrap ((ks.length : Int) - 1) = (k : Int) := by rw [IntWalk.i64_in _ (by omega)]; omega
        replace hk := Lib.hid hk
        have d6 := S6.out.cell (i := 1) rfl (o := 0) rfl
        go_wp2_with fail
        refine wp_region_tail_lit (S := (fun w' => w'.cell? ⟨db, 0, none⟩ = some (.slice (some ⟨gx, 0, none⟩) ks.length c))) 14 [false, false, false, false, false, false, false, false, false, false, false, false, false, false, false, false] (by kernel_rfl) (by kernel_rfl) (by kernel_rfl) ?_ ?_
        · exact d6
        intro hSc
        (refine walkT_take (i := 0) (v := ?_) rfl (by kernel_rfl) (by decide) (by kernel_rfl) (by kernel_rfl) (fun _ _ _ h => h) (Or.inl ⟨by rfl, ?_⟩) (by assumption) ?_; rotate_left; (focus (intro w hSw; (try dsimp only at hSw); go_simp; (try with_reducible rfl); done)); (try simp only [put_rules]))
        (refine walkT_take (i := 1) (v := ?_) rfl (by kernel_rfl) (by decide) (by kernel_rfl) (by kernel_rfl) (fun _ _ _ h => h) (Or.inl ⟨by rfl, ?_⟩) (by assumption) ?_; rotate_left; (focus (intro w hSw; (try dsimp only at hSw); go_simp; (try with_reducible rfl); done)); (try simp only [put_rules]))
        (refine walkT_take (i := 2) (v := ?_) rfl (by kernel_rfl) (by decide) (by kernel_rfl) (by kernel_rfl) (fun _ _ _ h => h) (Or.inl ⟨by rfl, ?_⟩) (by assumption) ?_; rotate_left; (focus (intro w hSw; (try dsimp only at hSw); go_simp; (try with_reducible rfl); done)); (try simp only [put_rules]))
        (refine walkT_take (i := 3) (v := ?_) rfl (by kernel_rfl) (by decide) (by kernel_rfl) (by kernel_rfl) (fun _ _ _ h => h) (Or.inl ⟨by rfl, ?_⟩) (by assumption) ?_; rotate_left; (focus (intro w hSw; (try dsimp only at hSw); go_simp; (try with_reducible rfl); done)); (try simp only [put_rules]))
        (refine walkT_take (i := 4) (v := ?_) rfl (by kernel_rfl) (by decide) (by kernel_rfl) (by kernel_rfl) (fun _ _ _ h => h) (Or.inl ⟨by rfl, ?_⟩) (by assumption) ?_; rotate_left; (focus (intro w hSw; (try dsimp only at hSw); go_simp; (try with_reducible rfl); done)); (try simp only [put_rules]))
        (refine walkT_take (i := 5) (v := ?_) rfl (by kernel_rfl) (by decide) (by kernel_rfl) (by kernel_rfl) (fun _ _ _ h => h) (Or.inl ⟨by rfl, ?_⟩) (by assumption) ?_; rotate_left; (focus (intro w hSw; (try dsimp only at hSw); go_simp; (try with_reducible rfl); done)); (try simp only [put_rules]))
        (refine walkT_take (i := 6) (v := ?_) rfl (by kernel_rfl) (by decide) (by kernel_rfl) (by kernel_rfl) (fun _ _ _ h => h) (Or.inl ⟨by rfl, ?_⟩) (by assumption) ?_; rotate_left; (focus (intro w hSw; (try dsimp only at hSw); go_simp; (try with_reducible rfl); done)); (try simp only [put_rules]))
        (refine walkT_take (i := 7) (v := ?_) rfl (by kernel_rfl) (by decide) (by kernel_rfl) (by kernel_rfl) (fun _ _ _ h => h) (Or.inl ⟨by rfl, ?_⟩) (by assumption) ?_; rotate_left; (focus (intro w hSw; (try dsimp only at hSw); go_simp; (try with_reducible rfl); done)); (try simp only [put_rules]))
        (refine walkT_take (i := 8) (v := ?_) rfl (by kernel_rfl) (by decide) (by kernel_rfl) (by kernel_rfl) (fun _ _ _ h => h) (Or.inl ⟨by rfl, ?_⟩) (by assumption) ?_; rotate_left; (focus (intro w hSw; (try dsimp only at hSw); go_simp; (try with_reducible rfl); done)); (try simp only [put_rules]))
        (refine walkT_take (i := 9) (v := ?_) rfl (by kernel_rfl) (by decide) (by kernel_rfl) (by kernel_rfl) (fun _ _ _ h => h) (Or.inl ⟨by rfl, ?_⟩) (by assumption) ?_; rotate_left; (focus (intro w hSw; (try dsimp only at hSw); go_simp; (try with_reducible rfl); done)); (try simp only [put_rules]))
        (refine walkT_take (i := 10) (v := ?_) rfl (by kernel_rfl) (by decide) (by kernel_rfl) (by kernel_rfl) (fun _ _ _ h => h) (Or.inl ⟨by rfl, ?_⟩) (by assumption) ?_; rotate_left; (focus (intro w hSw; (try dsimp only at hSw); go_simp; (try with_reducible rfl); done)); (try simp only [put_rules]))
        (refine walkT_ready (rs := [11]) (by kernel_rfl) (by simp) (by decide) ?_; refine AllT.cons rfl (fun K hK => ?_) AllT.nil)
        go_simp
        have S7 := Lib.hid (S6.out.drew.alloc_box #[.int .i64 (-1), .int .i64 k, .int .i64 0] 3)
        refine hK.out _ _ (S7.out.cell (i := 2) rfl (o := 0) rfl) (fun hS2 => ?_)
        clear hK S6 hSc d6
        (try simp only [put_rules])
        (refine walkT_ready (rs := [12]) (by kernel_rfl) (by simp) (by decide) ?_; refine AllT.cons rfl (fun K hK => ?_) AllT.nil)
        go_simp
        go_at_call 54
        have hcall := Lib.hid (cur_among (-1) 20 w4.heap.size 0 3 3 _ g ca cl cc _ S7.out.cur (by omega) (by omega) (by omega) (fun j hj => by
          rw [Nat.zero_add]
          match j, hj with
          | 0, _ => exact ⟨_, by decide, by decide, S7.out.cell (i := 0) rfl rfl⟩
          | 1, _ => exact ⟨_, by omega, by omega, S7.out.cell (i := 0) rfl rfl⟩
          | 2, _ => exact ⟨_, by decide, by decide, S7.out.cell (i := 0) rfl rfl⟩) (by have := S7.out.glt; have := (S7.out.box (i := 0) rfl).1; have e : w4.drew.heap.size = w4.heap.size := rfl; omega))
        refine hcall.out.mono ?_
        rintro e w5 ⟨_, ⟨x, hx0, hx1, rfl⟩, rfl, hi5, hc5⟩
        have S8 := Lib.hid ((S7.out.turn hi5 hc5).tail)
        clear hcall S7 hi5 hc5 hS2
        go_wp2_with fail
        refine hK.out _ _ (S8.out.cell (i := 1) rfl (o := 0) rfl) (fun hS2 => ?_)
        clear hK
        (try simp only [put_rules])
        (refine walkT_ready (rs := [13]) (by kernel_rfl) (by simp) (by decide) ?_; refine AllT.cons rfl (fun K hK => ?_) AllT.nil)
        go_simp
        have S9 := S8.out.own_oneQ x
        refine hK.out _ _ (S9.cell (i := 2) rfl (o := 0) rfl) (fun hS3 => ?_)
        clear hK S8 hS2
        (try simp only [put_rules])
        have hu : (ks.map Lst.hd)[k]? = some ks[k].hd := by rw [List.getElem?_map, List.getElem?_eq_getElem hkl2]; rfl
        have g0 := own_cellH (S9.own (i := 1) rfl) hu
        have g1 := g0.2
        replace g0 := g0.1
        unfold Lst.hd at g0
        (refine walkT_done (by kernel_rfl) ?_)
        simp only [List.drop_succ_cons, List.drop_zero]
        have SX := S9.own_put (i := 1) rfl (.slice (some ⟨w5.heap.size, 0, none⟩) 1 1) (o := k) (by omega)
        have d0 := SX.cell (i := 2) rfl (o := 0) rfl
        have f9 := SX.frozen (i := 3) rfl 0
        have e9 := SX.cell (i := 3) rfl (o := 0) rfl
        have SF := SX.store (i := 3) rfl 0 (.slice (some ⟨gx, 0, none⟩) ks.length c)
        have j0 := SF.cell (i := 3) rfl (o := 0) rfl
        have hfin := Lib.hid (dag_out (A' := A + 200) SF (i := 1) (ks := ks.set k (⟨some ⟨w5.heap.size, 0, none⟩, 1, [x]⟩ : Lst)) (by rw [List.map_set]; rfl) (by simp) (fun t ht => by
          rcases List.mem_or_eq_of_mem_set ht with ht | rfl
          · exact List.mem_cons_of_mem _ (List.mem_cons_of_mem _ (List.mem_cons_of_mem _ (List.mem_cons_of_mem _ (List.mem_map.2 ⟨t, List.mem_reverse.2 ht, rfl⟩))))
          · exact List.mem_cons_self ..) (LstOk.more (LstOk.put hL2.out (m' := 4) (by omega) (by simp) (fun y hy => by simp only [List.mem_cons, List.mem_nil_iff, or_false] at hy; unfold I64; omega)) (by omega) (Nat.le_refl _)) (by omega))
        clear SX SF S9 hu
        go_wp2_with fail
        exact bodyPost_ret (v := .agg #[.slice (some ⟨gx, 0, none⟩) ks.length c]) (by simp [results, Tryz.results35, go_sem, j0]) rfl ⟨(some ⟨gx, 0, none⟩), c, (ks.set k (⟨some ⟨w5.heap.size, 0, none⟩, 1, [x]⟩ : Lst)).map Lst.xs, by simp, hfin.out⟩
        --} c0
      have z0b : (y == 0) = false := by simp [z0]
      by_cases z1 : y = 1
      · --{ c1
        subst z1
        obtain ⟨gx, cap, cur, eB, -⟩ := own_block (S6.out.own (i := 0) rfl) hN
        simp only [Value.slice.injEq] at eB
        obtain ⟨rfl, -, -⟩ := eB
        obtain ⟨k, hk⟩ : ∃ k, ks.length - 1 = k := ⟨_, rfl⟩
        have hkl2 : k < ks.length := by omega
        have hkw : IntKind.i64.wrap ((ks.length : Int) - 1) = (k : Int) := by rw [IntWalk.i64_in _ (by omega)]; omega
        have d6 := S6.out.cell (i := 1) rfl (o := 0) rfl
        have S7 := S6.out.own_two 1 0
        have d7 := S7.cell (i := 2) rfl (o := 0) rfl
        have hu : (ks.map Lst.hd)[k]? = some ks[k].hd := by rw [List.getElem?_map, List.getElem?_eq_getElem hkl2]; rfl
        have g0 := own_cellH (S7.own (i := 1) rfl) hu
        have g1 := g0.2
        replace g0 := g0.1
        unfold Lst.hd at g0
        replace hk := Lib.hid hk
        have SX := S7.own_put (i := 1) rfl (.slice (some ⟨w4.heap.size, 0, none⟩) 2 2) (o := k) (by omega)
        have d0 := SX.cell (i := 2) rfl (o := 0) rfl
        have f9 := SX.frozen (i := 3) rfl 0
        have e9 := SX.cell (i := 3) rfl (o := 0) rfl
        have SF := SX.store (i := 3) rfl 0 (.slice (some ⟨gx, 0, none⟩) ks.length c)
        have j0 := SF.cell (i := 3) rfl (o := 0) rfl
        have hfin := Lib.hid (dag_out (A' := A + 200) SF (i := 1) (ks := ks.set k (⟨some ⟨w4.heap.size, 0, none⟩, 2, [1, 0]⟩ : Lst)) (by rw [List.map_set]; rfl) (by simp) (fun t ht => by
          rcases List.mem_or_eq_of_mem_set ht with ht | rfl
          · exact List.mem_cons_of_mem _ (List.mem_cons_of_mem _ (List.mem_cons_of_mem _ (List.mem_cons_of_mem _ (List.mem_map.2 ⟨t, List.mem_reverse.2 ht, rfl⟩))))
          · exact List.mem_cons_self ..) (LstOk.more (LstOk.put hL2.out (m' := 4) (by omega) (by simp) (by simp [I64])) (by omega) (Nat.le_refl _)) (by omega))
        clear SX SF S6 S7 hu
        go_wp2_with fail
        exact bodyPost_ret (v := .agg #[.slice (some ⟨gx, 0, none⟩) ks.length c]) (by simp [results, Tryz.results35, go_sem, j0]) rfl ⟨(some ⟨gx, 0, none⟩), c, (ks.set k (⟨some ⟨w4.heap.size, 0, none⟩, 2, [1, 0]⟩ : Lst)).map Lst.xs, by simp, hfin.out⟩
        --} c1
      have z1b : (y == 1) = false := by simp [z1]
      by_cases z2 : y = 2
      · --{ c2
        subst z2
        have S7 : Hid (CS w g ca cl cc (A + 62 + 2 * ks.length) w4 (LRow B c ks :: Box db 26 #[.slice B ks.length c] :: Box w.heap.size 26 #[.slice none 0 0] :: ks.reverse.map Lst.row)) := S6.out.mono (by omega)
        have hL3 : Hid (LstOk 11 3 ks) := hL2.out.more (by omega) (Nat.le_refl _)
        clear S6 hL2
        rename World => wo
        go_wp2_with fail
        go_loopw [] (fun wr => ∃ (B : Option Addr) (c : Nat) (ks : List Lst), 1 ≤ ks.length ∧ Hid (LstOk 11 3 ks) ∧ Hid (CS w g ca cl cc (A + 62 + 2 * ks.length) wr (LRow B c ks :: Box db 26 #[.slice B ks.length c] :: Box w.heap.size 26 #[.slice none 0 0] :: ks.reverse.map Lst.row))) (fun wr => 13 - lenAt0Q wr db)
        case atStart => exact ⟨B, c, ks, hN, hL3, S7⟩
        case round =>
          clear S7 hL3 hN hkl
          obtain ⟨B, c, ks, hN, hL, HS⟩ := hrel
          have hkl := hL.out.1
          have l0 := HS.out.cell (i := 1) rfl (o := 0) rfl
          have hm1 := Lib.hid (lenAt0Q_of l0)
          go_wp2_with fail
          refine wp_region_held_lit (S := (fun w' => w'.cell? ⟨db, 0, none⟩ = some (.slice B ks.length c))) 7 [false, false, false, false, false, false, false] (by kernel_rfl) (by kernel_rfl) (by kernel_rfl) ?_ ?_
          · exact l0
          intro hSc
          (refine wpAnyH_take (i := 0) (v := ?_) rfl (by kernel_rfl) (by kernel_rfl) (by kernel_rfl) (fun _ _ _ h => h) (Or.inl ⟨by rfl, ?_⟩) (by assumption) ?_; rotate_left; (focus (intro w hSw; (try dsimp only at hSw); go_simp; (try with_reducible rfl); done)); (try simp only [put_rules]))
          (refine wpAnyH_take (i := 1) (v := ?_) rfl (by kernel_rfl) (by kernel_rfl) (by kernel_rfl) (fun _ _ _ h => h) (Or.inl ⟨by rfl, ?_⟩) (by assumption) ?_; rotate_left; (focus (intro w hSw; (try dsimp only at hSw); go_simp; (try with_reducible rfl); done)); (try simp only [put_rules]))
          (refine wpAnyH_take (i := 2) (v := ?_) rfl (by kernel_rfl) (by kernel_rfl) (by kernel_rfl) (fun _ _ _ h => h) (Or.inl ⟨by rfl, ?_⟩) (by assumption) ?_; rotate_left; (focus (intro w hSw; (try dsimp only at hSw); go_simp; (try with_reducible rfl); done)); (try simp only [put_rules]))
          (refine wpAnyH_take (i := 3) (v := ?_) rfl (by kernel_rfl) (by kernel_rfl) (by kernel_rfl) (fun _ _ _ h => h) (Or.inl ⟨by rfl, ?_⟩) (by assumption) ?_; rotate_left; (focus (intro w hSw; (try dsimp only at hSw); go_simp; (try with_reducible rfl); done)); (try simp only [put_rules]))
          (refine wpAnyH_ready (rs := [4]) (by kernel_rfl) (by simp) ?_; refine AllReadyH.cons rfl (fun K hK => ?_) AllReadyH.nil)
          go_simp
          go_at_call 51
          have S3 := HS.out.drew
          have hcall := Lib.hid (cur_pick_at (lo := 0) (hi := 1) (n := 2) S3.cur (by omega) (by omega) (by omega) (by omega) (by omega))
          refine hcall.out.mono ?_
          rintro e w3 ⟨_, ⟨x, hx0, hx1, rfl⟩, rfl, hi3, hc3⟩
          have S4 := Lib.hid (S3.turn hi3 hc3)
          clear hcall S3 HS hi3 hc3
          have hxw : IntKind.i64.wrap (10 + x) = 10 + x := IntWalk.i64_in _ (by omega)
          have m1 := S4.out.cell (i := 1) rfl (o := 0) rfl
          go_wp2_with fail
          refine hK.out _ _ m1 (fun hS2 => ?_)
          clear l0
          clear hK hSc
          (try simp only [put_rules])
          (refine wpAnyH_take (i := 5) (v := ?_) rfl (by kernel_rfl) (by kernel_rfl) (by kernel_rfl) (fun _ _ _ h => h) (Or.inl ⟨by rfl, ?_⟩) (by assumption) ?_; rotate_left; (focus (intro w hSw; (try dsimp only at hSw); go_simp; (try with_reducible rfl); done)); (try simp only [put_rules]))
          by_cases hlt : (ks.length : Int) < 10 + x
          · have dd : decide ((ks.length : Int) < 10 + x) = true := decide_eq_true hlt
            (refine wpAnyH_take (i := 6) (v := ?_) rfl (by kernel_rfl) (by kernel_rfl) (by kernel_rfl) (fun _ _ _ h => h) (Or.inl ⟨by rfl, ?_⟩) (by assumption) ?_; rotate_left; (focus (intro w hSw; (try dsimp only at hSw); go_simp; (try with_reducible rfl); done)); (try simp only [put_rules]))
            (refine wpAnyH_done (by kernel_rfl) ?_ _)
            obtain ⟨k, hk⟩ : ∃ k, ks.length - 1 = k := ⟨_, rfl⟩
            have hkw : IntKind.i64.wrap ((ks.length : Int) - 1) = (k : Int) := by rw [IntWalk.i64_in _ (by omega)]; omega
            have hkb : k ≤ 10 := by omega
            replace hk := Lib.hid hk
            have S5 := (S4.out.own_oneQ (k : Int)).alloc_box #[.slice (some ⟨w3.heap.size, 0, none⟩) 1 1] 33
            (try simp only [World.size_alloc] at S5)
            have kB := S5.cell (i := 0) rfl (o := 0) rfl
            have hown := Lib.hid (S5.own (i := 2) rfl)
            have hLp : Hid (LstOk 11 3 (ks ++ [⟨some ⟨w3.heap.size, 0, none⟩, 1, [(k : Int)]⟩])) := LstOk.more (LstOk.push (k := 10) (show LstOk 10 3 ks from ⟨by omega, hL.out.2⟩) (t := ⟨some ⟨w3.heap.size, 0, none⟩, 1, [(k : Int)]⟩) (by simp) (fun y hy => by simp only [List.mem_cons, List.mem_nil_iff, or_false] at hy; unfold I64; omega)) (by omega) (Nat.le_refl _)
            replace S5 := Lib.hid S5
            have c0 := S5.out.cell (i := 3) rfl (o := 0) rfl
            clear S4 hL
            go_wp2_with (at_builtin; refine wpList_append_src rfl _ _ rfl Tryz.underlying24 hi1 hrz0 hrz1 hrz2 rfl (by decide) _ ks.length _ rfl hown.out _ 1 1 [.slice (some ⟨w3.heap.size, 0, none⟩) 1 1] rfl (Src.one kB) (by simp [Value.oneCell']) ?c3 ?c4 ?_)
            case c3 => unfold maxLen; omega
            case c4 => omega
            intro vY wY hownY hgY hatY
            have S6 := (S5.out.own_push (i := 2) rfl (bb _) hownY hgY (by simpa using hatY)).tail
            obtain ⟨aY, cY, rfl⟩ := own_slice hownY
            have hl1 : ks.length + 1 = (ks ++ [(⟨some ⟨w3.heap.size, 0, none⟩, 1, [(k : Int)]⟩ : Lst)]).length := by simp
            have S7 := (CS.lst_push (D := some ⟨w3.heap.size, 0, none⟩) (d := 1) (xs := [(k : Int)]) S6 rfl rfl).mono (A' := A + 62 + 2 * (ks.length + 1)) (by omega)
            clear S5 S6 kB hown hownY hgY hatY
            rw [hl1] at S7 ⊢
            have hl2 : Hid (ks.length + 1 = (ks ++ [(⟨some ⟨w3.heap.size, 0, none⟩, 1, [(k : Int)]⟩ : Lst)]).length) := hl1
            generalize ks ++ [(⟨some ⟨w3.heap.size, 0, none⟩, 1, [(k : Int)]⟩ : Lst)] = ks2 at *
            clear hl1
            have f0 := S7.frozen (i := 1) rfl 0
            have e0 := S7.cell (i := 1) rfl (o := 0) rfl
            have S8 := Lib.hid (S7.store (i := 1) rfl 0 (.slice aY ks2.length cY))
            have hm2 := Lib.hid (lenAt0Q_of (S8.out.cell (i := 1) rfl (o := 0) rfl))
            clear S7 c0
            go_wp2_with fail
            clear f0 e0
            go_roundw
            case rel => exact ⟨aY, cY, ks2, by have := hl2.out; omega, hLp, S8⟩
            case measure => rw [hm2.out, hm1.out, ← hl2.out]; omega
          · have dd : decide ((ks.length : Int) < 10 + x) = false := decide_eq_false hlt
            (refine wpAnyH_take (i := 6) (v := ?_) rfl (by kernel_rfl) (by kernel_rfl) (by kernel_rfl) (fun _ _ _ h => h) (Or.inl ⟨by rfl, ?_⟩) (by assumption) ?_; rotate_left; (focus (intro w hSw; (try dsimp only at hSw); go_simp; (try with_reducible rfl); done)); (try simp only [put_rules]))
            (refine wpAnyH_done (by kernel_rfl) ?_ _)
            have SX := S4.out
            have d0 := SX.cell (i := 1) rfl (o := 0) rfl
            have f9 := SX.frozen (i := 2) rfl 0
            have e9 := SX.cell (i := 2) rfl (o := 0) rfl
            have SF := SX.store (i := 2) rfl 0 (.slice B ks.length c)
            have j0 := SF.cell (i := 2) rfl (o := 0) rfl
            have hfin := Lib.hid (dag_out (A' := A + 200) SF (i := 0) rfl rfl (fun t ht => List.mem_cons_of_mem _ (List.mem_cons_of_mem _ (List.mem_cons_of_mem _ (List.mem_map.2 ⟨t, List.mem_reverse.2 ht, rfl⟩)))) (hL.out.more (by omega) (by omega)) (by omega))
            clear SX SF S4 hL
            go_wp2_with fail
            exact bodyPost_ret (v := .agg #[.slice B ks.length c]) (by simp [results, Tryz.results35, go_sem, j0]) rfl ⟨B, c, ks.map Lst.xs, by simp, hfin.out⟩
        --} c2
      have z2b : (y == 2) = false := by simp [z2]
      by_cases z3 : y = 3
      · --{ c3
        subst z3
        have S7 := S6.out.own_made 33 1
        have f1 := S7.frozen (i := 2) rfl 0
        have e1 := S7.cell (i := 2) rfl (o := 0) rfl
        have S8 := S7.store (i := 2) rfl 0 (.slice (some ⟨w4.heap.size, 0, none⟩) 0 0)
        have SX := S8
        have d0 := SX.cell (i := 2) rfl (o := 0) rfl
        have f9 := SX.frozen (i := 3) rfl 0
        have e9 := SX.cell (i := 3) rfl (o := 0) rfl
        have SF := SX.store (i := 3) rfl 0 (.slice (some ⟨w4.heap.size, 0, none⟩) 0 0)
        have j0 := SF.cell (i := 3) rfl (o := 0) rfl
        have hfin := Lib.hid (dag_out (A' := A + 200) SF (i := 0) (ks := []) (n := 0) rfl rfl (fun t ht => by simp at ht) ⟨by simp, fun t ht => by simp at ht⟩ (by omega))
        clear SX SF S6 S7 S8
        go_wp2_with fail
        exact bodyPost_ret (v := .agg #[.slice (some ⟨w4.heap.size, 0, none⟩) 0 0]) (by simp [results, Tryz.results35, go_sem, j0]) rfl ⟨(some ⟨w4.heap.size, 0, none⟩), 0, ([] : List Lst).map Lst.xs, by simp, hfin.out⟩
        --} c3
      have z3b : (y == 3) = false := by simp [z3]
      have SX := S6.out
      have d0 := SX.cell (i := 1) rfl (o := 0) rfl
      have f9 := SX.frozen (i := 2) rfl 0
      have e9 := SX.cell (i := 2) rfl (o := 0) rfl
      have SF := SX.store (i := 2) rfl 0 (.slice B ks.length c)
      have j0 := SF.cell (i := 2) rfl (o := 0) rfl
      have hfin := Lib.hid (dag_out (A' := A + 200) SF (i := 0) rfl rfl (fun t ht => List.mem_cons_of_mem _ (List.mem_cons_of_mem _ (List.mem_cons_of_mem _ (List.mem_map.2 ⟨t, List.mem_reverse.2 ht, rfl⟩)))) (hL2.out.more (by omega) (by omega)) (by omega))
      clear SX SF S6
      go_wp2_with fail
      exact bodyPost_ret (v := .agg #[.slice B ks.length c]) (by simp [results, Tryz.results35, go_sem, j0]) rfl ⟨B, c, ks.map Lst.xs, by simp, hfin.out⟩
  --} lists
end Go.Proofs.YtnfjgebfmnpkbaaGreat
