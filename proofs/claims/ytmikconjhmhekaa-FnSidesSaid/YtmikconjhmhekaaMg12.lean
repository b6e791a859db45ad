/- Lemmas and contracts for a law, put together out of several texts: CoV SdP SdQ. -/
import Derived.Test.YtmikconjhmhekaaMg9
import Derived.Test.YtmikconjhmhekaaMg10
import Derived.Test.YtmikconjhmhekaaMg11
import Derived.Test.YtmikconjhmhekaaMg7
/- Contract: the drawn indices of a core. -/
namespace Go.Proofs.Ytmikconjhmhekaa
open Go.RowKit

theorem CS.pick {w0 w : World} {g cl cc A : Nat} {ca : Option Addr} {ps qs : List Asn} (is : List Nat) (h : CS w0 g ca cl cc A w ps) (hq : pickQ is ps = some qs) : CS w0 g ca cl cc A w qs := by
  obtain ⟨h0, h1, h2, F, h3, h4⟩ := h
  obtain ⟨F', h5, h6⟩ := sep_pick h3 hq
  exact ⟨h0, h1, h2, F', h5, fun b hb => h4 b (h6 b hb)⟩
def OkI (d : List Int) : Prop := ∀ x ∈ d, I64 x
theorem OkI.nil : OkI [] := fun x hx => by simp at hx
theorem OkI.snoc {d : List Int} {x : Int} (h : OkI d) (hx : I64 x) : OkI (d ++ [x]) := fun y hy => by
  rcases List.mem_append.1 hy with hy | hy
  · exact h y hy
  · obtain rfl : y = x := by simpa using hy
    exact hx
theorem OkI.erase {d : List Int} (h : OkI d) (k : Nat) : OkI (d.eraseIdx k) := fun y hy => h y (List.mem_of_mem_eraseIdx hy)

set_option maxRecDepth 100000 in
set_option maxHeartbeats 16000000 in
theorem indices5_any (vars : Int) (B : Option Addr) (cap : Nat) (xss : List (List Int)) (F : List Nat) (A g : Nat) (ca : Option Addr) (cl cc : Nat) (w : World) (h : CurIs A g ca cl cc w) (hA : A ≤ 40000000)
    (hx : (Ty.slice Ty.int).row false w (.slice B xss.length cap) xss F) (hn : xss.length ≤ 80) :
    Calls Try.prog 209 #[.pointer (some ⟨g, 0, none⟩), .agg #[.int .i64 vars, .slice B xss.length cap]] w (RowPost 100 OkI (A + 1000) g ca cl cc w) := by
  obtain ⟨i0, hi0, hy0, hy1, hy2⟩ := info_parts infoInt
  have hg := h.lt
  have S0 := ((CS.start h).alloc_box #[.int .i64 vars, .slice B xss.length cap] 26).own_made 3 1
  simp only [World.size_alloc] at S0
  have hcore := Lib.hid (specCoreOf_own vars _ xss F _ (Ty.row_below hx (bal (bal (bb w) (.cells #[.int .i64 vars, .slice B xss.length cap] 26)) (.cells #[] 3)) (Ty.row_lt hx)))
  have hz : (if coreOk vars.toNat vars xss then ofN (coreL vars.toNat xss) else []).length ≤ 80 ∧ OkI (if coreOk vars.toNat vars xss then ofN (coreL vars.toNat xss) else []) := by
    split
    · exact ⟨by rw [ofN_len]; have := asc_len (coreL_asc vars.toNat xss); omega, ofN_ok (by omega) (coreL_asc vars.toNat xss)⟩
    · exact ⟨by simp, OkI.nil⟩
  generalize (if coreOk vars.toNat vars xss then ofN (coreL vars.toNat xss) else []) = zs at hcore hz
  generalize coreOk vars.toNat vars xss = ok at hcore
  obtain ⟨hzl, hzo⟩ := hz
  replace hzo := Lib.hid hzo
  clear hx h
  obtain ⟨m, hm⟩ : ∃ m, xss.length = m := ⟨_, rfl⟩
  rw [hm] at S0 hcore hn ⊢
  clear hm
  have d0 := S0.cell (i := 1) rfl (o := 0) rfl
  have d1 := S0.cell (i := 1) rfl (o := 1) rfl
  replace S0 := Lib.hid S0
  go_enter Try.func209, Try.ntmps209
  go_wp2_with fail
  refine hcore.out.mono ?_
  rintro e w1 ⟨E, ec, rfl, -, hb1, hown1⟩
  have S1 := Lib.hid (S0.out.grow hb1)
  have hb : Hid (ok = true → CS w g ca cl cc A w1 [Own 3 1 (.slice E zs.length ec) zs.length (zs.map (.int .i64)), Own 3 1 (.slice (some ⟨w.heap.size + 1, 0, none⟩) 0 0) 0 [], Box w.heap.size 26 #[.int .i64 vars, .slice B m cap]]) := fun h => S0.out.seq (hown1 h)
  clear S0 hcore hb1 hown1 d0 d1
  go_upto_region 3 with fail
  go_cut [19] (fun s wx => ∃ b : Bool, s = .bool b ∧ Hid (CS w g ca cl cc (A + 2) wx [Own 3 1 (.slice (some ⟨w.heap.size + 1, 0, none⟩) 0 0) 0 [], Box w.heap.size 26 #[.int .i64 vars, .slice B m cap]]) ∧
    Hid (b = true → CS w g ca cl cc (A + 2) wx [Own 3 1 (.slice E zs.length ec) zs.length (zs.map (.int .i64)), Own 3 1 (.slice (some ⟨w.heap.size + 1, 0, none⟩) 0 0) 0 [], Box w.heap.size 26 #[.int .i64 vars, .slice B m cap]]))
  case first =>
    cases ok
    · go_wp2_with fail
      go_meet
      exact ⟨false, rfl, S1.out.mono (by omega), fun h => by cases h⟩
    · have SB := Lib.hid (hb.out rfl)
      clear hb S1
      go_wp2_with fail
      refine (cur_one 2 _ g ca cl cc _ SB.out.cur (by omega) (by omega)).mono ?_
      rintro e w2 ⟨_, ⟨q, rfl⟩, rfl, hi2, hc2⟩
      have S2 := Lib.hid (SB.out.turn hi2 hc2)
      clear SB hi2 hc2
      go_wp2_with fail
      go_meet
      exact ⟨q, rfl, S2.out.tail, fun _ => S2.out⟩
  case rest =>
  clear S1 hb
  obtain ⟨b, rfl, HS, HB⟩ := hcut
  go_upto_if 19 with fail
  go_cut [5] (fun s wx => ∃ (D : Option Addr) (dc : Nat) (d : List Int), s = .slice D d.length dc ∧ d.length ≤ 80 ∧ Hid (OkI d) ∧ Hid (CS w g ca cl cc (A + 500) wx [Own 3 1 (.slice D d.length dc) d.length (d.map (.int .i64)), Box w.heap.size 26 #[.int .i64 vars, .slice B m cap]]))
  case first =>
    cases b
    · as_aux_lemma =>
        clear HB
        go_wp2_with fail
        go_loopw [5, 8] (fun v5 v8 wr => ∃ (i : Nat) (d : List Int) (D : Option Addr) (dc : Nat), i ≤ m ∧ d.length ≤ i ∧ v8 = .int .i64 i ∧ v5 = .slice D d.length dc ∧ Hid (OkI d) ∧ Hid (CS w g ca cl cc (A + 4 + 2 * i) wr [Own 3 1 (.slice D d.length dc) d.length (d.map (.int .i64)), Box w.heap.size 26 #[.int .i64 vars, .slice B m cap]])) (fun _ v8 _ => 100 - (intOf v8).toNat)
        case atStart => exact ⟨0, [], _, _, by omega, by simp, rfl, rfl, OkI.nil, HS.out.mono (by omega)⟩
        case round =>
          clear HS
          obtain ⟨i, d, D, dc, him, hdi, rfl, rfl, HO, HS⟩ := hrel
          have d1 := HS.out.cell (i := 1) rfl (o := 1) rfl
          by_cases hlt : i < m
          · go_wp2_with fail
            refine (cur_one 4 _ g ca cl cc _ HS.out.cur (by omega) (by omega)).mono ?_
            rintro e w2 ⟨_, ⟨q, rfl⟩, rfl, hi2, hc2⟩
            have S2 := Lib.hid (HS.out.turn hi2 hc2)
            clear HS hi2 hc2 d1
            cases q
            · have S3 := S2.out.alloc_box #[.int .i64 (i : Int)] 3
              have kB := S3.cell (i := 0) rfl (o := 0) rfl
              replace S3 := Lib.hid S3
              clear S2
              go_wp2_with (at_builtin; refine wpList_append_src rfl _ _ rfl Try.underlying30 hi0 hy0 hy1 hy2 rfl (by decide) _ _ _ rfl (S3.out.own (i := 1) rfl) _ 1 1 [.int .i64 (i : Int)] rfl (Src.one kB) (by simp [Value.oneCell']) ?c3 ?c4 ?_)
              case c3 => unfold maxLen; omega
              case c4 => omega
              intro vY wY hownY hgY hatY
              have S4 := (S3.out.own_push (i := 1) rfl (bb _) hownY hgY (by simpa using hatY)).tail
              obtain ⟨aY, cY, rfl⟩ := own_slice hownY
              have hlen : d.length + 1 = (d ++ [(i : Int)]).length := by simp
              have S5 : Hid (CS w g ca cl cc (A + 4 + 2 * (i + 1)) wY [Own 3 1 (.slice aY (d ++ [(i : Int)]).length cY) (d ++ [(i : Int)]).length ((d ++ [(i : Int)]).map (.int .i64)), Box w.heap.size 26 #[.int .i64 vars, .slice B m cap]]) := by
                unfold Hid; rw [← hlen, List.map_append]; exact S4.mono (by omega)
              have HO2 : Hid (OkI (d ++ [(i : Int)])) := HO.out.snoc (by unfold I64; omega)
              clear S3 S4 kB hownY hgY hatY HO
              rw [hlen]
              have hdi2 : (d ++ [(i : Int)]).length ≤ i + 1 := by simp; omega
              clear hdi
              replace hlen := Lib.hid hlen
              generalize d ++ [(i : Int)] = d2 at *
              go_wp2_with fail
              go_roundw
              case rel => exact ⟨i + 1, d2, aY, cY, by omega, hdi2, by go_num, rfl, HO2, S5⟩
              case measure => simp [intOf]; omega
            · go_wp2_with fail
              go_roundw
              case rel => exact ⟨i + 1, d, D, dc, by omega, by omega, by go_num, rfl, HO, S2.out.mono (by omega)⟩
              case measure => simp [intOf]; omega
          · go_wp2_with fail
            go_meet
            exact ⟨D, dc, d, rfl, by omega, HO, HS.out.mono (by omega)⟩
    · as_aux_lemma =>
        have SB : Hid (CS _ _ _ _ _ _ _ [Own 3 1 (.slice E zs.length ec) zs.length (zs.map (.int .i64)), Box w.heap.size 26 #[.int .i64 vars, .slice B m cap]]) := Lib.hid ((HB.out rfl).pick [0, 1] rfl)
        clear HB HS
        go_upto_region 5 with fail
        go_cut [27] (fun s wx => ∃ b : Bool, s = .bool b ∧ Hid (b = true → 0 < zs.length) ∧ Hid (CS w g ca cl cc (A + 4) wx [Own 3 1 (.slice E zs.length ec) zs.length (zs.map (.int .i64)), Box w.heap.size 26 #[.int .i64 vars, .slice B m cap]]))
        case first =>
          go_wp2_with fail
          refine (cur_one 3 _ g ca cl cc _ SB.out.cur (by omega) (by omega)).mono ?_
          rintro e w2 ⟨_, ⟨q, rfl⟩, rfl, hi2, hc2⟩
          have S2 := Lib.hid (SB.out.turn hi2 hc2)
          clear SB hi2 hc2
          cases q
          · go_wp2_with fail
            go_meet
            exact ⟨false, rfl, (fun h => by cases h), S2⟩
          · by_cases h0 : 0 < zs.length
            · have e0 : decide ((0 : Int) < (zs.length : Int)) = true := decide_eq_true (by omega)
              go_wp2_with fail
              go_meet
              exact ⟨true, rfl, (fun _ => h0), S2⟩
            · have e0 : decide ((0 : Int) < (zs.length : Int)) = false := decide_eq_false (by omega)
              go_wp2_with fail
              go_meet
              exact ⟨false, rfl, (fun h => by cases h), S2⟩
        case rest =>
        clear SB
        obtain ⟨b, rfl, hb, HS⟩ := hcut
        cases b
        · go_wp2_with fail
          go_meet
          exact ⟨E, ec, zs, rfl, hzl, hzo, HS.out.mono (by omega)⟩
        · have h0 := hb.out rfl
          clear hb
          go_wp2_with fail
          refine (cur_pick_at (lo := 0) (hi := zs.length - 1) HS.out.cur (by omega) (by omega) (by omega) (by omega) (by omega)).mono ?_
          rintro e w2 ⟨_, ⟨x, hx0, hx1, rfl⟩, rfl, hi2, hc2⟩
          have S2 := HS.out.turn hi2 hc2
          obtain ⟨k, rfl⟩ := Int.eq_ofNat_of_zero_le hx0
          have hcap := own_cap (S2.own (i := 0) rfl)
          obtain ⟨E', ec', e1, hT⟩ := ints_own (S2.own (i := 0) rfl) hzo.out
          simp only [Value.slice.injEq] at e1
          obtain ⟨rfl, -, rfl⟩ := e1
          have hsk := Lib.hid (l5Skip_any E zs.length ec k zs w2 hT rfl (by omega) (by omega) hcap)
          replace S2 := Lib.hid S2
          have hlen : zs.length - 1 = (zs.eraseIdx k).length := by rw [List.length_eraseIdx]; split <;> omega
          rw [hlen] at hsk
          clear HS hi2 hc2 hT hcap
          have HO2 := Lib.hid (hzo.out.erase k)
          have hl2 : (zs.eraseIdx k).length ≤ 80 := by omega
          go_wp2_with fail
          refine hsk.out.mono ?_
          rintro e w3 ⟨D, dc, rfl, T⟩
          have S3 := Lib.hid ((S2.out.seq T).pick (qs := [Own 3 1 (.slice D (zs.eraseIdx k).length dc) (zs.eraseIdx k).length ((zs.eraseIdx k).map (.int .i64)), Box w.heap.size 26 #[.int .i64 vars, .slice B m cap]]) [0, 1] rfl)
          clear S2 T hsk
          generalize zs.eraseIdx k = d at *
          clear hlen
          go_wp2_with fail
          go_meet
          exact ⟨D, dc, d, rfl, hl2, HO2, S3.out.mono (by omega)⟩
  case rest =>
  clear HS HB
  obtain ⟨D, dc, d, rfl, hdl, HO, HS⟩ := hcut
  go_wp2_with fail
  refine (cur_one 16 _ g ca cl cc _ HS.out.cur (by omega) (by omega)).mono ?_
  rintro e w2 ⟨_, ⟨q, rfl⟩, rfl, hi2, hc2⟩
  have S2 := Lib.hid (HS.out.turn hi2 hc2)
  clear HS hi2 hc2
  cases q
  · have ho := Lib.hid (S2.out.owns_end (i := 0) rfl)
    have hI := Lib.hid (S2.out.cur.mono (show _ ≤ A + 1000 by omega))
    have hC := Lib.hid S2.out.chg
    clear S2
    go_wp2_with fail
    go_ret
    exact ⟨_, d, rfl, ho.out, by omega, HO.out, hI.out, hC.out⟩
  · have d1 := S2.out.cell (i := 1) rfl (o := 1) rfl
    have S3 := Lib.hid (S2.out.alloc (.cells #[.int .i64 (-1), .int .i64 0, .int .i64 (m : Int)] 3))
    have hgw : g < w2.heap.size := S2.out.cur.lt
    have hcall := Lib.hid (cur_among (-1) (m : Int) w2.heap.size 0 3 3 _ g ca cl cc _ S3.out.cur (by omega) (by decide) (by decide) (ints_new (by simp) fun j hj => by
      match j, hj with
      | 0, _ => exact ⟨_, rfl, by omega, by omega⟩
      | 1, _ => exact ⟨_, rfl, by omega, by omega⟩
      | 2, _ => exact ⟨_, rfl, by omega, by omega⟩) (by omega))
    clear S2 hgw
    go_wp2_with fail
    refine hcall.out.mono ?_
    rintro e w3 ⟨_, ⟨x, hx0, hx1, rfl⟩, rfl, hi3, hc3⟩
    have S4 := (S3.out.turn hi3 hc3).alloc_box #[.int .i64 x] 3
    have kB := S4.cell (i := 0) rfl (o := 0) rfl
    replace S4 := Lib.hid S4
    clear S3 hcall hi3 hc3 d1
    go_wp2_with (at_builtin; refine wpList_append_src rfl _ _ rfl Try.underlying30 hi0 hy0 hy1 hy2 rfl (by decide) _ _ _ rfl (S4.out.own (i := 1) rfl) _ 1 1 [.int .i64 x] rfl (Src.one kB) (by simp [Value.oneCell']) ?c3 ?c4 ?_)
    case c3 => unfold maxLen; omega
    case c4 => omega
    intro vY wY hownY hgY hatY
    have S5 := (S4.out.own_push (i := 1) rfl (bb _) hownY hgY (by simpa using hatY)).tail
    obtain ⟨aY, cY, rfl⟩ := own_slice hownY
    have hlen : d.length + 1 = (d ++ [x]).length := by simp
    have S6 : Hid (CS w g ca cl cc (A + 1000) wY [Own 3 1 (.slice aY (d ++ [x]).length cY) (d ++ [x]).length ((d ++ [x]).map (.int .i64)), Box w.heap.size 26 #[.int .i64 vars, .slice B m cap]]) := by
      unfold Hid; rw [← hlen, List.map_append]; exact S5.mono (by omega)
    have HO2 : Hid (OkI (d ++ [x])) := HO.out.snoc (by unfold I64; omega)
    have hl2 : (d ++ [x]).length ≤ 100 := by rw [← hlen]; omega
    clear S4 S5 kB hownY hgY hatY HO
    rw [hlen]
    replace hlen := Lib.hid hlen
    generalize d ++ [x] = d2 at *
    have ho := Lib.hid (S6.out.owns_end (i := 0) rfl)
    have hI := Lib.hid S6.out.cur
    have hC := Lib.hid S6.out.chg
    clear S6
    go_wp2_with fail
    go_ret
    exact ⟨_, d2, rfl, ho.out, hl2, HO2.out, hI.out, hC.out⟩
end Go.Proofs.Ytmikconjhmhekaa

/- Contracts: used variables in the program; a drawn number of left clauses; drawn Cnfs with one. -/
namespace Go.Proofs.Ytmikconjhmhekaa
open Go.RowKit

set_option maxRecDepth 100000 in
set_option maxHeartbeats 4000000 in
theorem varsUsed_any (vars : Int) (v : Value) (xss : List (List Int)) (F : List Nat) (w : World) (hx : (Ty.slice Ty.int).row false w v xss F) (hg : goodB vars xss = true) :
    Calls Try.prog 66 #[.agg #[.int .i64 vars, v]] w (IAns w true (varF vars.toNat (usedB xss))) := by
  obtain ⟨A, cap, rfl, hI⟩ := cls_row hx
  have hgc := good_cnf hg
  have S0 := (Sp.start w).alloc_box #[.int .i64 vars, .slice A xss.length cap] 26
  have hcall := Lib.hid (implIsCnf_any vars _ xss F _ (Ty.row_below hx S0.below (Ty.row_lt hx)))
  rw [hg] at hcall
  have hv := Lib.hid (fun W (h : Below w.heap.size w W) => varsOf_any xss hgc.2.2.2 vars.toNat (fun c hc l hl => by
    have := (clause_parts (hgc.2.2.1 c hc)).2.1 l hl
    omega) (by omega) A cap W (hI.grow h))
  have ok := Lib.hid (varF_ok (n := vars.toNat) (by omega) (p := usedB xss))
  generalize varF vars.toNat (usedB xss) = zs at *
  have c0 := S0.cell (i := 0) rfl (o := 0) rfl
  have c1 := S0.cell (i := 0) rfl (o := 1) rfl
  replace S0 := Lib.hid S0
  clear hx hI hg hgc
  go_enter Try.func66, Try.ntmps66
  go_wp2_with fail
  refine hcall.out.mono ?_
  rintro e w1 ⟨rfl, hb1⟩
  have S1 := Lib.hid (S0.out.grow hb1)
  clear hcall S0 c0 c1 hb1
  have c1 := S1.out.cell (i := 0) rfl (o := 1) rfl
  have hv2 := Lib.hid (hv.out w1 S1.out.below)
  clear hv
  go_wp2_with fail
  refine hv2.out.mono ?_
  rintro e w2 ⟨B, cc, rfl, T⟩
  have i1 := Lib.hid (T.ints (i := 0) rfl ok.out)
  have hB := Lib.hid (S1.out.seq T).below
  clear S1 T hv2 c1
  go_wp2_with fail
  go_ret2
  exact ⟨B, cc, rfl, i1.out, hB.out⟩

set_option maxRecDepth 100000 in
set_option maxHeartbeats 4000000 in
theorem side29_any (vars : Int) (B : Option Addr) (m cap : Nat) (hm : m ≤ 100) (A g : Nat) (ca : Option Addr) (cl cc : Nat) (w : World) (h : CurIs A g ca cl cc w) (hA : A ≤ 40000000) :
    Calls Try.prog 228 #[.pointer (some ⟨g, 0, none⟩), .agg #[.int .i64 vars, .slice B m cap]] w (CurPost (IntIn (-1) 200) (A + 10) g ca cl cc w) := by
  have hg := h.lt
  have S0 := (CS.start h).alloc_box #[.int .i64 vars, .slice B m cap] 26
  have S1 := Lib.hid S0.drew
  clear h S0
  have d1 := S1.out.cell (i := 0) rfl (o := 1) rfl
  have hw1 : IntKind.i64.wrap ((m : Int) + 1) = (m : Int) + 1 := IntWalk.i64_in _ (by omega)
  go_enter Try.func228, Try.ntmps228
  go_wp2_with fail
  refine wp_region_held_lit (S := (fun w' => w'.cell? ⟨w.heap.size, 1, none⟩ = some (.slice B m cap))) 15 [false, false, false, false, false, false, false, false, false, false, false, false, false, false, false] (by kernel_rfl) (by kernel_rfl) (by kernel_rfl) ?_ ?_
  · exact d1
  intro hSc
  (refine wpAnyH_take (i := 0) (v := ?_) rfl (by kernel_rfl) (by kernel_rfl) (by kernel_rfl) (fun _ _ _ h => h) (Or.inl ⟨by rfl, ?_⟩) (by assumption) ?_; rotate_left; (focus (intro w hSw; (try dsimp only at hSw); go_simp; (try with_reducible rfl); done)); (try simp only [put_rules]))
  (refine wpAnyH_take (i := 1) (v := ?_) rfl (by kernel_rfl) (by kernel_rfl) (by kernel_rfl) (fun _ _ _ h => h) (Or.inl ⟨by rfl, ?_⟩) (by assumption) ?_; rotate_left; (focus (intro w hSw; (try dsimp only at hSw); go_simp; (try with_reducible rfl); done)); (try simp only [put_rules]))
  (refine wpAnyH_take (i := 2) (v := ?_) rfl (by kernel_rfl) (by kernel_rfl) (by kernel_rfl) (fun _ _ _ h => h) (Or.inl ⟨by rfl, ?_⟩) (by assumption) ?_; rotate_left; (focus (intro w hSw; (try dsimp only at hSw); go_simp; (try with_reducible rfl); done)); (try simp only [put_rules]))
  (refine wpAnyH_take (i := 3) (v := ?_) rfl (by kernel_rfl) (by kernel_rfl) (by kernel_rfl) (fun _ _ _ h => h) (Or.inl ⟨by rfl, ?_⟩) (by assumption) ?_; rotate_left; (focus (intro w hSw; (try dsimp only at hSw); go_simp; (try with_reducible rfl); done)); (try simp only [put_rules]))
  (refine wpAnyH_take (i := 4) (v := ?_) rfl (by kernel_rfl) (by kernel_rfl) (by kernel_rfl) (fun _ _ _ h => h) (Or.inl ⟨by rfl, ?_⟩) (by assumption) ?_; rotate_left; (focus (intro w hSw; (try dsimp only at hSw); go_simp; (try with_reducible rfl); done)); (try simp only [put_rules]))
  (refine wpAnyH_take (i := 5) (v := ?_) rfl (by kernel_rfl) (by kernel_rfl) (by kernel_rfl) (fun _ _ _ h => h) (Or.inl ⟨by rfl, ?_⟩) (by assumption) ?_; rotate_left; (focus (intro w hSw; (try dsimp only at hSw); go_simp; (try with_reducible rfl); done)); (try simp only [put_rules]))
  (refine wpAnyH_take (i := 10) (v := ?_) rfl (by kernel_rfl) (by kernel_rfl) (by kernel_rfl) (fun _ _ _ h => h) (Or.inl ⟨by rfl, ?_⟩) (by assumption) ?_; rotate_left; (focus (intro w hSw; (try dsimp only at hSw); go_simp; (try with_reducible rfl); done)); (try simp only [put_rules]))
  (refine wpAnyH_ready (rs := [6]) (by kernel_rfl) (by simp) ?_; refine AllReadyH.cons rfl (fun K hK => ?_) AllReadyH.nil)
  go_simp
  go_at_call 100
  refine (cur_pick_at (lo := 0) (hi := 23) S1.out.cur (by omega) (by omega) (by omega) (by omega) (by omega)).mono ?_
  rintro e w2 ⟨_, ⟨x, hx0, hx1, rfl⟩, rfl, hi2, hc2⟩
  have S2 := Lib.hid (S1.out.turn hi2 hc2)
  clear S1 hi2 hc2 d1
  obtain ⟨y, hy⟩ : ∃ y, x.tdiv 23 = y := ⟨_, rfl⟩
  have hy2 : 0 ≤ y ∧ y ≤ 1 := by
    rw [Int.tdiv_eq_ediv_of_nonneg hx0] at hy; omega
  have hw2 : IntKind.i64.wrap y = y := IntWalk.i64_in _ (by omega)
  have hw3 : IntKind.i64.wrap ((m : Int) + 1 + y) = (m : Int) + 1 + y := IntWalk.i64_in _ (by omega)
  go_wp2_with fail
  refine hK.out _ _ (S2.out.cell (i := 0) rfl (o := 1) rfl) (fun hS2 => ?_)
  clear hK hSc
  (try simp only [put_rules])
  (refine wpAnyH_take (i := 7) (v := ?_) rfl (by kernel_rfl) (by kernel_rfl) (by kernel_rfl) (fun _ _ _ h => h) (Or.inl ⟨by rfl, ?_⟩) (by assumption) ?_; rotate_left; (focus (intro w hSw; (try dsimp only at hSw); go_simp; (try with_reducible rfl); done)); (try simp only [put_rules]))
  (refine wpAnyH_take (i := 8) (v := ?_) rfl (by kernel_rfl) (by kernel_rfl) (by kernel_rfl) (fun _ _ _ h => h) (Or.inl ⟨by rfl, ?_⟩) (by assumption) ?_; rotate_left; (focus (intro w hSw; (try dsimp only at hSw); go_simp; (try with_reducible rfl); done)); (try simp only [put_rules]))
  (refine wpAnyH_ready (rs := [9]) (by kernel_rfl) (by simp) ?_; refine AllReadyH.cons rfl (fun K hK => ?_) AllReadyH.nil)
  go_simp
  go_at_call 100
  refine (cur_pick_at (lo := 0) (hi := 150) S2.out.cur (by omega) (by omega) (by omega) (by omega) (by omega)).mono ?_
  rintro e w3 ⟨_, ⟨u, hu0, hu1, rfl⟩, rfl, hi3, hc3⟩
  have S3 := Lib.hid (S2.out.turn hi3 hc3)
  clear S2 hi3 hc3
  go_wp2_with fail
  refine hK.out _ _ (S3.out.cell (i := 0) rfl (o := 1) rfl) (fun hS3 => ?_)
  clear hK hS2
  (try simp only [put_rules])
  (refine wpAnyH_ready (rs := [11]) (by kernel_rfl) (by simp) ?_; refine AllReadyH.cons rfl (fun K hK => ?_) AllReadyH.nil)
  go_simp
  go_at_call 100
  refine (cur_pick_at (lo := 0) (hi := 39) S3.out.cur (by omega) (by omega) (by omega) (by omega) (by omega)).mono ?_
  rintro e w4 ⟨_, ⟨q, hq0, hq1, rfl⟩, rfl, hi4, hc4⟩
  have S4 := Lib.hid (S3.out.turn hi4 hc4)
  clear S3 hi4 hc4
  obtain ⟨r, hr⟩ : ∃ r, q.tdiv 39 = r := ⟨_, rfl⟩
  have hr2 : 0 ≤ r ∧ r ≤ 1 := by
    rw [Int.tdiv_eq_ediv_of_nonneg hq0] at hr; omega
  have hw4 : IntKind.i64.wrap r = r := IntWalk.i64_in _ (by omega)
  have hw5 : IntKind.i64.wrap (u - r) = u - r := IntWalk.i64_in _ (by omega)
  go_wp2_with fail
  refine hK.out _ _ (S4.out.cell (i := 0) rfl (o := 1) rfl) (fun hS4 => ?_)
  clear hK hS3
  (try simp only [put_rules])
  (refine wpAnyH_take (i := 12) (v := ?_) rfl (by kernel_rfl) (by kernel_rfl) (by kernel_rfl) (fun _ _ _ h => h) (Or.inl ⟨by rfl, ?_⟩) (by assumption) ?_; rotate_left; (focus (intro w hSw; (try dsimp only at hSw); go_simp; (try with_reducible rfl); done)); (try simp only [put_rules]))
  (refine wpAnyH_take (i := 13) (v := ?_) rfl (by kernel_rfl) (by kernel_rfl) (by kernel_rfl) (fun _ _ _ h => h) (Or.inl ⟨by rfl, ?_⟩) (by assumption) ?_; rotate_left; (focus (intro w hSw; (try dsimp only at hSw); go_simp; (try with_reducible rfl); done)); (try simp only [put_rules]))
  (refine wpAnyH_take (i := 14) (v := ?_) rfl (by kernel_rfl) (by kernel_rfl) (by kernel_rfl) (fun _ _ _ h => h) (Or.inl ⟨by rfl, ?_⟩) (by assumption) ?_; rotate_left; (focus (intro w hSw; (try dsimp only at hSw); go_simp; (try with_reducible rfl); done)); (try simp only [put_rules]))
  (refine wpAnyH_done (by kernel_rfl) ?_ _)
  (try simp only [put_rules])
  have hI := Lib.hid (S4.out.cur.mono (show _ ≤ A + 10 by omega))
  have hC := Lib.hid S4.out.chg
  clear S4 hS4
  go_wp2_with fail
  go_ret
  exact ⟨_, ⟨_, by omega, by omega, rfl⟩, rfl, hI.out, hC.out⟩

/-- A drawn Cnf and a number. -/
def Side29D (w : World) (e : Ending) (w' : World) : Prop := ∃ (vars : Int) (B : Option Addr) (cap : Nat) (cs : List Value) (xss : List (List Int)) (k : Int),
  e = .returned (.tuple #[.agg #[.int .i64 vars, .slice B xss.length cap], .int .i64 k]) ∧ -1 ≤ vars ∧ vars ≤ 13 ∧ xss.length ≤ 62 ∧ -1 ≤ k ∧ k ≤ 200 ∧ SmallR 13 xss ∧
  Sp w w' [Rows Ty.int 30 (.slice B xss.length cap) cs xss]

set_option maxRecDepth 100000 in
set_option maxHeartbeats 16000000 in
theorem drawSidesOf_any (ca : Option Addr) (cl cc : Nat) (w : World) (hc : CodeOk w ca cl) (hs : cl ≤ 65536) : Calls Try.prog 149 #[.slice ca cl cc] w (Side29D w) := by
  have S0 := ((Sp.start w).alloc_box #[.int .i64 0, .slice none 0 0] 26).cur_laid ca cl cc
  simp only [World.size_alloc] at S0
  have hi := Lib.hid (S0.cur (A' := 0) (i := 0) rfl hc hs).1
  obtain ⟨gc, hgc⟩ : ∃ gc, w.heap.size + 1 = gc := ⟨_, rfl⟩
  rw [hgc] at S0 hi
  replace S0 := Lib.hid S0
  have hcH := Lib.hid hc
  clear hc
  go_enter Try.func149, Try.ntmps149
  go_wp2_with fail
  refine (cur_cnf 0 gc ca cl cc _ hi.out (by omega)).mono ?_
  rintro e w1 ⟨vars, B, cap, cs, xss, rfl, hv0, hv1, hl, HC, T⟩
  replace HC := Lib.hid HC
  have S1 := (S0.out.cs_call T hcH.out hs).alloc_box #[.int .i64 vars, .slice B xss.length cap] 26
  clear T S0 hi
  obtain ⟨fb, hfb⟩ : ∃ fb, w1.heap.size = fb := ⟨_, rfl⟩
  rw [hfb] at S1
  have S2 : Sp w (w1.alloc (.cells #[.int .i64 vars, .slice B xss.length cap] 26)) [Box fb 26 #[.int .i64 vars, .slice B xss.length cap], Rows Ty.int 30 (.slice B xss.length cap) cs xss, CurA 2000 gc ca cl cc, Box w.heap.size 26 #[.int .i64 0, .slice none 0 0]] := S1
  clear S1
  have l0 := S2.cell (i := 0) rfl (o := 0) rfl
  have l1 := S2.cell (i := 0) rfl (o := 1) rfl
  have S4 := Lib.hid ((S2.drew).pick (qs := [CurA 2000 gc ca cl cc, Box fb 26 #[.int .i64 vars, .slice B xss.length cap], Rows Ty.int 30 (.slice B xss.length cap) cs xss, Box w.heap.size 26 #[.int .i64 0, .slice none 0 0]]) [2, 0, 0, 0] rfl)
  have hcu := Lib.hid (S4.out.cur (A' := 2000) (i := 0) rfl hcH.out hs).1
  have hix := Lib.hid (side29_any vars B xss.length cap (by omega) _ gc ca cl cc _ hcu.out (by omega))
  clear S2
  go_wp2_with fail
  refine wp_region_tail_lit (S := (fun w' => w'.cell? ⟨fb, 0, none⟩ = some (.int .i64 vars) ∧ w'.cell? ⟨fb, 1, none⟩ = some (.slice B xss.length cap))) 4 [false, false, false, false, false, false] (by kernel_rfl) (by kernel_rfl) (by kernel_rfl) ?_ ?_
  · exact ⟨l0, l1⟩
  intro hSc
  (refine walkT_take (i := 0) (v := ?_) rfl (by kernel_rfl) (by decide) (by kernel_rfl) (by kernel_rfl) (fun _ _ _ h => h) (Or.inl ⟨by rfl, ?_⟩) (by assumption) ?_; rotate_left; (focus (intro w hSw; (try dsimp only at hSw); go_simp; (try with_reducible rfl); done)); (try simp only [put_rules]))
  (refine walkT_take (i := 1) (v := ?_) rfl (by kernel_rfl) (by decide) (by kernel_rfl) (by kernel_rfl) (fun _ _ _ h => h) (Or.inl ⟨by rfl, ?_⟩) (by assumption) ?_; rotate_left; (focus (intro w hSw; (try dsimp only at hSw); go_simp; (try with_reducible rfl); done)); (try simp only [put_rules]))
  (refine walkT_take (i := 2) (v := ?_) rfl (by kernel_rfl) (by decide) (by kernel_rfl) (by kernel_rfl) (fun _ _ _ h => h) (Or.inl ⟨by rfl, ?_⟩) (by assumption) ?_; rotate_left; (focus (intro w hSw; (try dsimp only at hSw); go_simp; (try with_reducible rfl); done)); (try simp only [put_rules]))
  (refine walkT_ready (rs := [3]) (by kernel_rfl) (by simp) (by decide) ?_; refine AllT.cons rfl (fun K hK => ?_) AllT.nil)
  go_simp
  go_at_call 228
  refine hix.out.mono ?_
  rintro e w5 ⟨_, ⟨k, hk0, hk1, rfl⟩, rfl, hi5, hc5⟩
  have S5 := Lib.hid ((S4.out.cur (A' := 2010) (i := 0) rfl hcH.out hs).2 w5 hi5 hc5)
  clear S4 hcu hi5 hc5 l0 l1 hix
  go_wp2_with fail
  refine hK.out _ _ ⟨S5.out.cell (i := 1) rfl (o := 0) rfl, S5.out.cell (i := 1) rfl (o := 1) rfl⟩ (fun hS2 => ?_)
  clear hK hSc
  (try simp only [put_rules])
  (refine walkT_done (by kernel_rfl) ?_)
  simp only [List.drop_succ_cons, List.drop_zero]
  have f0 := S5.out.frozen (i := 3) rfl 0
  have f1 := S5.out.frozen (i := 3) rfl 1
  have r0 := S5.out.cell (i := 3) rfl (o := 0) rfl
  have r1 := S5.out.cell (i := 3) rfl (o := 1) rfl
  have SF := (S5.out.store (i := 3) rfl 0 (.int .i64 vars)).store (i := 3) rfl 1 (.slice B xss.length cap)
  have j0 := SF.cell (i := 3) rfl (o := 0) rfl
  have j1 := SF.cell (i := 3) rfl (o := 1) rfl
  have hR := Lib.hid (SF.pick (qs := [Rows Ty.int 30 (.slice B xss.length cap) cs xss]) [2] rfl)
  clear SF S5 hS2
  go_wp2_with fail
  exact bodyPost_ret (v := .tuple #[.agg #[.int .i64 vars, .slice B xss.length cap], .int .i64 k]) (by simp [results, Try.results149, go_sem, j0, j1]) rfl ⟨vars, B, cap, cs, xss, k, rfl, hv0, hv1, hl, hk0, hk1, HC.out, hR.out⟩

set_option maxRecDepth 100000 in
theorem drawSwapSides_any (ca : Option Addr) (cl cc : Nat) (w : World) (hc : CodeOk w ca cl) (hs : cl ≤ 65536) : Calls Try.prog 60 #[.slice ca cl cc] w (Side29D w) := by
  have S0 := Lib.hid ((Sp.start w).alloc_box #[.int .i64 0, .slice none 0 0] 26)
  have hd := Lib.hid (drawSidesOf_any ca cl cc _ (hc.grow S0.out.below) hs)
  clear hc
  go_enter Try.func60, Try.ntmps60
  go_wp2_with fail
  refine hd.out.mono ?_
  rintro e w1 ⟨vars, B, cap, cs, xss, k, rfl, hv0, hv1, hl, hk0, hk1, HC, T⟩
  have HC2 := Lib.hid HC
  have S5 := S0.out.seq T
  have f0 := S5.frozen (i := 1) rfl 0
  have f1 := S5.frozen (i := 1) rfl 1
  have r0 := S5.cell (i := 1) rfl (o := 0) rfl
  have r1 := S5.cell (i := 1) rfl (o := 1) rfl
  have SF := (S5.store (i := 1) rfl 0 (.int .i64 vars)).store (i := 1) rfl 1 (.slice B xss.length cap)
  have j0 := SF.cell (i := 1) rfl (o := 0) rfl
  have j1 := SF.cell (i := 1) rfl (o := 1) rfl
  have hR := Lib.hid (SF.pick (qs := [Rows Ty.int 30 (.slice B xss.length cap) cs xss]) [0] rfl)
  clear SF S5 S0 T hd HC
  go_wp2_with fail
  exact bodyPost_ret (v := .tuple #[.agg #[.int .i64 vars, .slice B xss.length cap], .int .i64 k]) (by simp [results, Try.results60, go_sem, j0, j1]) rfl ⟨vars, B, cap, cs, xss, k, rfl, hv0, hv1, hl, hk0, hk1, HC2.out, hR.out⟩
end Go.Proofs.Ytmikconjhmhekaa

/- What the law of sides asks of its functions. -/
namespace Go.Proofs.Ytmikconjhmhekaa
open Go.RowKit

theorem swap_good {vars : Int} {xss : List (List Int)} {k : Nat} (h : goodB vars xss = true) (hk : k ≤ xss.length) : goodB vars (swapC xss k) = true := by
  unfold goodB swapC at *
  simp only [Bool.and_eq_true, decide_eq_true_eq, List.all_eq_true] at h ⊢
  obtain ⟨⟨h1, h2⟩, h3⟩ := h
  refine ⟨⟨h1, by simp; omega⟩, fun c hc => ?_⟩
  rcases List.mem_append.1 hc with h | h
  · exact h3 c (List.mem_of_mem_drop h)
  · exact h3 c (List.mem_of_mem_take h)
theorem swap_len {xss : List (List Int)} {k : Nat} (hk : k ≤ xss.length) : (swapC xss k).length = xss.length := by simp [swapC]; omega
theorem swap_take {xss : List (List Int)} {k : Nat} : (swapC xss k).take (xss.length - k) = xss.drop k := by
  unfold swapC; rw [List.take_append_of_le_length (by simp), List.take_of_length_le (by simp)]
theorem swap_drop {xss : List (List Int)} {k : Nat} : (swapC xss k).drop (xss.length - k) = xss.take k := by
  unfold swapC
  rw [List.drop_append, List.drop_eq_nil_of_le (by simp), List.length_drop, Nat.sub_self]
  simp
theorem swap_swap {xss : List (List Int)} {k : Nat} : swapC (swapC xss k) (xss.length - k) = xss := by
  rw [swapC, swap_drop, swap_take, List.take_append_drop]
theorem used_split {xss : List (List Int)} (k v : Nat) : usedB xss v = (usedB (xss.take k) v || usedB (xss.drop k) v) := by
  conv => lhs; rw [← List.take_append_drop k xss]
  unfold usedB
  rw [List.any_append]

theorem sides_yes (n : Nat) (A : Option Addr) (cap : Nat) (xss : List (List Int)) (k : Nat) (F : List Nat) (W0 : World) (hx : (Ty.slice Ty.int).row false W0 (.slice A xss.length cap) xss F) (hq : askB n xss k = true) :
    ∃ (a b c us : List Int) (ys : List (List Int)),
      Hid (∀ W, Below W0.heap.size W0 W → Calls Try.prog 61 #[.agg #[.int .i64 n, .slice A xss.length cap], .int .i64 k] W (Ints4 W true a b c)) ∧
      Hid (∀ W, Below W0.heap.size W0 W → Calls Try.prog 62 #[.agg #[.int .i64 n, .slice A xss.length cap], .int .i64 k] W (Ints4 W true a b c)) ∧
      Hid (∀ W, Below W0.heap.size W0 W → Calls Try.prog 63 #[.agg #[.int .i64 n, .slice A xss.length cap], .int .i64 k] W (SwapR W n ys ((xss.length : Int) - k) true)) ∧
      Hid (∀ W, Below W0.heap.size W0 W → Calls Try.prog 64 #[.agg #[.int .i64 n, .slice A xss.length cap], .int .i64 k] W (SwapC W n ys ((xss.length : Int) - k) true)) ∧
      Hid (∀ W, Below W0.heap.size W0 W → Calls Try.prog 66 #[.agg #[.int .i64 n, .slice A xss.length cap]] W (IAns W true us)) ∧
      Hid (∀ W B cc G, (Ty.slice Ty.int).row false W (.slice B ys.length cc) ys G → Calls Try.prog 61 #[.agg #[.int .i64 n, .slice B ys.length cc], .int .i64 ((xss.length : Int) - k)] W (Ints4 W true b a c)) ∧
      Hid (∀ W B cc G, (Ty.slice Ty.int).row false W (.slice B ys.length cc) ys G → Calls Try.prog 63 #[.agg #[.int .i64 n, .slice B ys.length cc], .int .i64 ((xss.length : Int) - k)] W (SwapR W n xss k true)) ∧
      Hid (a.length + b.length + c.length = us.length) ∧ a.length ≤ 12 ∧ b.length ≤ 12 ∧ c.length ≤ 12 ∧ us.length ≤ 12 ∧ Hid (ys.length = xss.length) ∧ Hid (∀ c ∈ ys, c.length ≤ 1000000) ∧ Hid (∀ c ∈ xss, c.length ≤ 1000000) := by
  have lift := fun W (h : Below W0.heap.size W0 W) => Ty.row_below hx h (Ty.row_lt hx)
  obtain ⟨hg, -, hk1⟩ := ask_parts hq
  have hgc := good_cnf hg
  have hk : k ≤ xss.length := by omega
  have hsg := swap_good hg hk
  have hsl := swap_len hk
  have hq2 : askB n (swapC xss k) ((xss.length : Int) - k) = true := by
    unfold askB
    rw [hsg, Bool.true_and, inB_true, hsl]
    omega
  have hq3 : askB n (swapC xss k) ((xss.length - k : Nat) : Int) = true := by rw [Int.ofNat_sub hk]; exact hq2
  have e0 : ((n : Int)).toNat = n := by omega
  have e1 : ((k : Int)).toNat = k := by omega
  have e2 : ((xss.length : Int) - k).toNat = xss.length - k := by omega
  have hcl : ∀ c ∈ xss, c.length ≤ 1000000 := fun c hc => by have := (hgc.2.2.2 c hc).2; omega
  refine ⟨varF n (onlyL (xss.take k) (xss.drop k)), varF n (onlyL (xss.drop k) (xss.take k)), varF n (bothL (xss.take k) (xss.drop k)), varF n (usedB xss), swapC xss k, fun W h => ?_, fun W h => ?_,
    fun W h => implSwapYes_any n A cap xss k F W (lift W h) hq, fun W h => specSwapYes_any n A cap xss k F W (lift W h) hq, fun W h => ?_, fun W B cc G h => ?_, fun W B cc G h => ?_, ?_,
    Nat.le_trans (varF_len _ _) (by omega), Nat.le_trans (varF_len _ _) (by omega), Nat.le_trans (varF_len _ _) (by omega), Nat.le_trans (varF_len _ _) (by omega), hsl, fun c hc => ?_, hcl⟩
  · have := implSidesOf_any n _ xss k F W (lift W h)
    unfold sideL sideB at this
    simp only [hq, if_true, e0, e1] at this
    exact this
  · have := specSidesOf_any n _ xss k F W (lift W h)
    unfold sideL sideB at this
    simp only [hq, if_true, e0, e1] at this
    exact this
  · have := varsUsed_any n _ xss F W (lift W h) hg
    rw [e0] at this
    exact this
  · have := implSidesOf_any n _ (swapC xss k) ((xss.length : Int) - k) G W h
    unfold sideL sideB at this
    simp only [hq2, if_true, e0, e2, swap_take, swap_drop] at this
    rw [show varF n (bothL (xss.drop k) (xss.take k)) = varF n (bothL (xss.take k) (xss.drop k)) from varF_congr fun v _ _ => Bool.and_comm _ _] at this
    exact this
  · have := implSwapYes_any n B cc (swapC xss k) (xss.length - k) G W h hq3
    rw [swap_swap, hsl, Int.ofNat_sub hk, show (xss.length : Int) - ((xss.length : Int) - k) = k by omega] at this
    rw [hsl]
    exact this
  · show _ = _
    rw [show varF n (usedB xss) = varF n (fun v => usedB (xss.take k) v || usedB (xss.drop k) v) from varF_congr fun v _ _ => used_split k v]
    exact varF_split n _ _
  · rcases List.mem_append.1 hc with h | h
    · exact hcl c (List.mem_of_mem_drop h)
    · exact hcl c (List.mem_of_mem_take h)
theorem sides_no (vars : Int) (v : Value) (xss : List (List Int)) (k : Int) (F : List Nat) (W0 : World) (hx : (Ty.slice Ty.int).row false W0 v xss F) (hq : askB vars xss k = false) :
      Hid (∀ W, Below W0.heap.size W0 W → Calls Try.prog 61 #[.agg #[.int .i64 vars, v], .int .i64 k] W (Ints4 W false [] [] [])) ∧
      Hid (∀ W, Below W0.heap.size W0 W → Calls Try.prog 62 #[.agg #[.int .i64 vars, v], .int .i64 k] W (Ints4 W false [] [] [])) ∧
      Hid (∀ W, Below W0.heap.size W0 W → Calls Try.prog 63 #[.agg #[.int .i64 vars, v], .int .i64 k] W (SwapR W 0 [] 0 false)) ∧
      Hid (∀ W, Below W0.heap.size W0 W → Calls Try.prog 64 #[.agg #[.int .i64 vars, v], .int .i64 k] W (SwapC W 0 [] 0 false)) := by
  have lift := fun W (h : Below W0.heap.size W0 W) => Ty.row_below hx h (Ty.row_lt hx)
  refine ⟨fun W h => ?_, fun W h => ?_, fun W h => implSwapNo_any vars v xss k F W (lift W h) hq, fun W h => specSwapNo_any vars v xss k F W (lift W h) hq⟩
  · have := implSidesOf_any vars _ xss k F W (lift W h)
    unfold sideL sideB at this
    simp only [hq, Bool.false_eq_true, if_false] at this
    exact this
  · have := specSidesOf_any vars _ xss k F W (lift W h)
    unfold sideL sideB at this
    simp only [hq, Bool.false_eq_true, if_false] at this
    exact this
end Go.Proofs.Ytmikconjhmhekaa
