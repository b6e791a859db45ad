/- Lemmas and contracts for a law, put together out of several texts: TxE TxF CyA CyB CyC CyD. -/
import Derived.Test.YtahbepajeplcmaaGreatMg8
import Derived.Test.YtahbepajeplcmaaGreatMg5
import Derived.Test.YtahbepajeplcmaaGreatMg3
/- Contracts, weak ones: a Cnf read from a text, in the reference. -/
namespace Go.Proofs.YtahbepajeplcmaaGreat
open Go.RowKit

theorem sep_front : ∀ {qs ps : List Asn} {w : World} {F : List Nat}, sep (qs ++ ps) w F → ∃ F1, sep qs w F1 ∧ ∀ b ∈ F1, b ∈ F
  | [], ps, w, F, _ => ⟨[], rfl, by simp⟩
  | q :: qs, ps, w, F, h => by
    obtain ⟨F1, F2, rfl, h1, h2, h3⟩ := h
    obtain ⟨F3, h4, h5⟩ := sep_front h3
    refine ⟨F1 ++ F3, ⟨F1, F3, rfl, fun b hb hb2 => h1 b hb (h5 b hb2), h2, h4⟩, fun b hb => ?_⟩
    rcases List.mem_append.1 hb with h | h
    · exact List.mem_append.2 (.inl h)
    · exact List.mem_append.2 (.inr (h5 b h))
/-- The parts behind are let go. -/
theorem Sp.front {w0 w : World} {ps qs : List Asn} (h : Sp w0 w (qs ++ ps)) : Sp w0 w qs := by
  obtain ⟨h1, G, h2, h3⟩ := h
  obtain ⟨F, h4, h5⟩ := sep_front h2
  exact ⟨h1, F, h4, fun b hb => h3 b (h5 b hb)⟩
/-- A small Cnf of its own, and whether there is one. -/
def CnfW (w : World) (e : Ending) (w' : World) : Prop := ∃ (vars : Int) (B : Option Addr) (cap : Nat) (cs : List Value) (xss : List (List Int)) (q : Bool), e = .returned (.tuple #[.agg #[.int .i64 vars, .slice B xss.length cap], .bool q]) ∧ 0 ≤ vars ∧ vars ≤ 12 ∧ xss.length ≤ 60 ∧ SmallC xss ∧
  Sp w w' [Rows Ty.int 35 (.slice B xss.length cap) cs xss]
theorem cnfW_no {w w' : World} (hb : Below w.heap.size w w') : CnfW w (.returned (.tuple #[.agg #[.int .i64 0, .slice none 0 0], .bool false])) w' :=
  ⟨0, none, 0, [], [], false, rfl, by decide, by decide, by simp, (fun c hc => by simp at hc), (Sp.of_below hb).rows_nil _ _⟩

set_option maxRecDepth 100000 in
set_option maxHeartbeats 2000000 in
theorem parseCnfW_any (s : ByteArray) (w : World) (hs : s.size ≤ 100000) : Calls Tryz.prog 97 #[.string s] w (CnfW w) := by
  have S0 := Lib.hid ((Sp.start w).alloc_box #[.int .i64 0, .slice none 0 0] 28)
  obtain ⟨i0, hi, hz0, hz1, hz2⟩ := info_parts infoRow
  go_enter Tryz.func97, Tryz.ntmps97
  go_wp2_with fail
  refine (l1SplitW_any s 59 _ hs).mono ?_
  rintro e w1 ⟨ps, PB, pc, rfl, hps0, hps1, HL, T1⟩
  have S1 : Sp w w1 [Own 9 1 (.slice PB ps.length pc) ps.length (ps.map .string), Box w.heap.size 28 #[.int .i64 0, .slice none 0 0]] := S0.out.seq T1
  obtain ⟨pb, po, rfl, m0⟩ := strs_own (S1.own (i := 0) rfl) hps0
  rw [Nat.add_zero] at m0
  replace S1 := Lib.hid S1
  have hsz := HL _ (List.getElem_mem hps0)
  have hrd := Lib.hid (fun W => l1ReadW_any ps[0] W (by omega))
  replace HL := Lib.hid HL
  generalize ps[0] = p0 at *
  clear S0 T1
  go_wp2_with fail
  refine (hrd.out _).mono ?_
  rintro e w2 ⟨⟨vars, q0, hvl, hvu, rfl⟩, hb2⟩
  have S2 := Lib.hid (S1.out.grow hb2)
  clear S1 hrd hb2 m0 hsz
  go_upto_region 3 with fail
  go_cut [31] (fun v wx => ∃ q : Bool, v = .bool q ∧ Hid (q = false → inB vars 0 12 = true ∧ ps.length ≤ 61) ∧ Hid (Sp w wx [Own 9 1 (.slice (some ⟨pb, po, none⟩) ps.length pc) ps.length (ps.map .string), Box w.heap.size 28 #[.int .i64 0, .slice none 0 0]]))
  case first =>
    cases q0
    · go_wp2_with fail
      go_meet
      exact ⟨true, rfl, (fun e => by cases e), S2⟩
    · obtain ⟨q1, hq1⟩ : ∃ q, inB vars 0 12 = q := ⟨_, rfl⟩
      go_wp2_with fail
      refine (l2Vars_any _ _).mono ?_
      rw [hq1]
      rintro e w3 ⟨rfl, rfl⟩
      cases q1
      · go_wp2_with fail
        go_meet
        exact ⟨true, rfl, (fun e => by cases e), S2⟩
      · by_cases h61 : (61 : Int) < (ps.length : Int)
        · have d1 : decide ((61 : Int) < (ps.length : Int)) = true := decide_eq_true h61
          go_wp2_with fail
          go_meet
          exact ⟨true, rfl, (fun e => by cases e), S2⟩
        · have d1 : decide ((61 : Int) < (ps.length : Int)) = false := decide_eq_false h61
          go_wp2_with fail
          go_meet
          exact ⟨false, rfl, fun _ => ⟨hq1, by omega⟩, S2⟩
  case rest =>
  clear S2
  obtain ⟨q, rfl, hq, S2⟩ := hcut
  cases q
  case true =>
    have r0 := S2.out.cell (i := 1) rfl (o := 0) rfl
    have r1 := S2.out.cell (i := 1) rfl (o := 1) rfl
    have f0 := S2.out.frozen (i := 1) rfl 0
    have f1 := S2.out.frozen (i := 1) rfl 1
    have SF := (S2.out.store (i := 1) rfl 0 (.int .i64 0)).store (i := 1) rfl 1 (.slice none 0 0)
    have j0 := SF.cell (i := 1) rfl (o := 0) rfl
    have j1 := SF.cell (i := 1) rfl (o := 1) rfl
    have hB := Lib.hid SF.below
    clear SF
    go_wp2_with fail
    exact bodyPost_ret (v := .tuple #[.agg #[.int .i64 0, .slice none 0 0], .bool false]) (by simp [results, Tryz.results97, go_sem, j0, j1]) rfl (cnfW_no hB.out)
  case false =>
  obtain ⟨hv12, hp61⟩ := hq.out rfl
  have hvv : 0 ≤ vars ∧ vars ≤ 12 := by unfold inB at hv12; simpa using hv12
  clear hq
  have S3 := (S2.out.rows_made Ty.int 35).alloc_box #[.int .i64 vars, .slice (some ⟨wc.heap.size, 0, none⟩) 0 0] 28
  simp only [World.size_alloc] at S3
  obtain ⟨ob, hob⟩ : ∃ ob, wc.heap.size + 1 = ob := ⟨_, rfl⟩
  rw [hob] at S3
  have S4 : Hid (Sp w _ [Rows Ty.int 35 (.slice (some ⟨wc.heap.size, 0, none⟩) ([] : List (List Int)).length 0) [] ([] : List (List Int)), Box ob 28 #[.int .i64 vars, .slice (some ⟨wc.heap.size, 0, none⟩) ([] : List (List Int)).length 0], Own 9 1 (.slice (some ⟨pb, po, none⟩) ps.length pc) ps.length (ps.map .string), Box w.heap.size 28 #[.int .i64 0, .slice none 0 0]]) := S3.swap
  clear S2 S3
  go_wp2_with fail
  go_loopw [8, 9, 10] (fun vi _ _ wr => ∃ (xss : List (List Int)) (cs : List Value) (B : Option Addr) (cap : Nat) (i : Int), xss.length + 1 ≤ ps.length ∧ vi = .int .i64 i ∧ Hid (i = (xss.length : Int) + 1) ∧ Hid (SmallC xss) ∧ Hid (Sp w wr [Rows Ty.int 35 (.slice B xss.length cap) cs xss, Box ob 28 #[.int .i64 vars, .slice B xss.length cap], Own 9 1 (.slice (some ⟨pb, po, none⟩) ps.length pc) ps.length (ps.map .string), Box w.heap.size 28 #[.int .i64 0, .slice none 0 0]])) (fun vi _ _ _ => ps.length - (intOf vi).toNat)
  case atStart => exact ⟨[], [], _, _, 1, by simp; omega, rfl, rfl, (fun c hc => by simp at hc), S4⟩
  case round =>
    obtain ⟨xss, cs, B, cap, i, hk, rfl, hie, HC, HS⟩ := hrel
    clear S4
    have hie' := hie.out
    by_cases hlt : xss.length + 1 < ps.length
    · have hil : i < (ps.length : Int) := by omega
      have hi0 : 0 ≤ i := by omega
      have hiw : IntKind.i64.wrap (i + 1) = i + 1 := IntWalk.i64_in _ (by omega)
      obtain ⟨j, hj⟩ : ∃ j : Nat, i = (j : Int) := ⟨i.toNat, by omega⟩
      have hjl : j < ps.length := by omega
      obtain ⟨b', o', e', m0⟩ := strs_own (HS.out.own (i := 2) rfl) hjl
      cases e'
      have hsz := HL.out _ (List.getElem_mem hjl)
      subst hj
      have hjx : Hid (j = xss.length + 1) := by unfold Hid; omega
      clear hie hie' hi0
      generalize ps[j] = p at *
      go_upto_region 9 with fail
      go_cut [55] (fun v wx => ∃ q : Bool, v = .bool q ∧ Hid (q = false → 2 ≤ p.size) ∧ wx = wr)
      case first =>
        by_cases h2 : (p.size : Int) < 2
        · have d1 : decide ((p.size : Int) < 2) = true := decide_eq_true h2
          go_wp2_with fail
          go_meet
          exact ⟨true, rfl, (fun e => by cases e), rfl⟩
        · have d1 : decide ((p.size : Int) < 2) = false := decide_eq_false h2
          have h0 : 0 < p.size := by omega
          go_wp2_with fail
          go_meet
          exact ⟨_, rfl, fun _ => by omega, rfl⟩
      case rest =>
      obtain ⟨q, rfl, hq, hw3⟩ := hcut
      subst hw3
      cases q
      case true =>
        have r0 := HS.out.cell (i := 3) rfl (o := 0) rfl
        have r1 := HS.out.cell (i := 3) rfl (o := 1) rfl
        have f0 := HS.out.frozen (i := 3) rfl 0
        have f1 := HS.out.frozen (i := 3) rfl 1
        have SF := (HS.out.store (i := 3) rfl 0 (.int .i64 0)).store (i := 3) rfl 1 (.slice none 0 0)
        have j0 := SF.cell (i := 3) rfl (o := 0) rfl
        have j1 := SF.cell (i := 3) rfl (o := 1) rfl
        have hB := Lib.hid SF.below
        clear SF
        go_wp2_with fail
        exact bodyPost_ret (v := .tuple #[.agg #[.int .i64 0, .slice none 0 0], .bool false]) (by simp [results, Tryz.results97, go_sem, j0, j1]) rfl (cnfW_no hB.out)
      case false =>
      have h2 := hq.out rfl
      have h2' : (1 : Int) ≤ (p.size : Int) := by omega
      have hx := ext_le p 1 p.size
      have hpa := Lib.hid (fun W => l2ParseW_any vars (p.extract 1 p.size) W (by omega))
      clear hq hx
      go_wp2_with fail
      refine (hpa.out _).mono ?_
      rintro e w4 ⟨c, Bc, kc, qc, rfl, hcw, hcl, -, T4⟩
      have S4 := HS.out.seq T4
      have S5 := Lib.hid (S4.own_to_row (hcw.i64 (by decide)))
      clear HS S4 T4 hpa m0
      cases qc
      case false =>
        have r0 := S5.out.cell (i := 4) rfl (o := 0) rfl
        have r1 := S5.out.cell (i := 4) rfl (o := 1) rfl
        have f0 := S5.out.frozen (i := 4) rfl 0
        have f1 := S5.out.frozen (i := 4) rfl 1
        have SF := (S5.out.store (i := 4) rfl 0 (.int .i64 0)).store (i := 4) rfl 1 (.slice none 0 0)
        have j0 := SF.cell (i := 4) rfl (o := 0) rfl
        have j1 := SF.cell (i := 4) rfl (o := 1) rfl
        have hB := Lib.hid SF.below
        clear SF
        go_wp2_with fail
        exact bodyPost_ret (v := .tuple #[.agg #[.int .i64 0, .slice none 0 0], .bool false]) (by simp [results, Tryz.results97, go_sem, j0, j1]) rfl (cnfW_no hB.out)
      case true =>
      have l1 := S5.out.cell (i := 2) rfl (o := 1) rfl
      have hrows := Lib.hid ((S5.out.rows (i := 1) rfl).alloc (.cells #[.slice Bc c.length kc] 35))
      have hbl := (S5.out.box (i := 2) rfl).2.1
      have l1a := ((bcell (bal (bb w4) (.cells #[.slice Bc c.length kc] 35))).1 _ 1 hbl).trans l1
      have kB : (w4.alloc (.cells #[.slice Bc c.length kc] 35)).cell? ⟨w4.heap.size, 0, none⟩ = some (.slice Bc c.length kc) := cell_of_row _ _ _ _ _ _ (heap_alloc_new w4 _)
      go_wp2_with (at_builtin; refine wpList_append_src rfl _ _ rfl Tryz.underlying26 hi hz0 hz1 hz2 rfl (by decide) _ xss.length _ rfl hrows.out _ 1 1 [.slice Bc c.length kc] rfl (Src.one kB) (by simp [Value.oneCell']) ?c3 ?c4 ?_)
      case c3 => unfold maxLen; omega
      case c4 => omega
      intro vY wY hownY hgY hatY
      have S6 := S5.out.rows_push (bal (bb _) _) hownY hgY (by simpa using hatY)
      obtain ⟨aY, cY, rfl⟩ := own_slice hownY
      have b1 := S6.cell (i := 1) rfl (o := 1) rfl
      have q1 := S6.frozen (i := 1) rfl 1
      have hlen : xss.length + 1 = (xss ++ [c]).length := by simp
      have S7 : Hid (Sp w (wY.setCell ⟨ob, 1, none⟩ (.slice aY (xss.length + 1) cY)) [Rows Ty.int 35 (.slice aY (xss ++ [c]).length cY) (cs ++ [.slice Bc c.length kc]) (xss ++ [c]), Box ob 28 #[.int .i64 vars, .slice aY (xss ++ [c]).length cY], Own 9 1 (.slice (some ⟨pb, po, none⟩) ps.length pc) ps.length (ps.map .string), Box w.heap.size 28 #[.int .i64 0, .slice none 0 0]]) := by
        unfold Hid; rw [← hlen]
        have := S6.store (i := 1) rfl 1 (.slice aY (xss.length + 1) cY)
        rw [hlen] at this ⊢
        exact this
      have HC2 : Hid (SmallC (xss ++ [c])) := fun y hy => by
        rcases List.mem_append.1 hy with hy | hy
        · exact HC.out y hy
        · obtain rfl : y = c := by simpa using hy
          exact ⟨hcw, hcl⟩
      clear S5 S6 hrows hownY hgY hatY kB l1 l1a hbl
      replace hlen := Lib.hid hlen
      go_wp2_with fail
      go_roundw
      case rel => exact ⟨xss ++ [c], cs ++ [.slice Bc c.length kc], aY, cY, (j : Int) + 1, by have := hlen.out; omega, rfl, by unfold Hid; have := hlen.out; have := hjx.out; omega, HC2, S7⟩
      case measure => have := hjx.out; simp [intOf]; omega
    · have hil : ¬ i < (ps.length : Int) := by omega
      clear hie hie'
      obtain ⟨F, hr, hFn, hF0⟩ := HS.out.rows_done (i := 0) rfl
      obtain ⟨A', c', e', hI⟩ := cls_row hr
      cases e'
      have l0 := HS.out.cell (i := 1) rfl (o := 0) rfl
      have l1 := HS.out.cell (i := 1) rfl (o := 1) rfl
      have htx := Lib.hid (l2TextOfW_any vars (by omega) xss HC.out (by omega) B cap wr hI)
      clear hI hr hF0 hFn
      go_wp2_with fail
      refine htx.out.mono ?_
      rintro e w5 ⟨t, rfl, hb5⟩
      have S5 := Lib.hid (HS.out.grow hb5)
      clear HS htx hb5 l0 l1
      obtain ⟨q, hq⟩ : ∃ q, (bl t == bl s) = q := ⟨_, rfl⟩
      cases q
      · have r0 := S5.out.cell (i := 3) rfl (o := 0) rfl
        have r1 := S5.out.cell (i := 3) rfl (o := 1) rfl
        have f0 := S5.out.frozen (i := 3) rfl 0
        have f1 := S5.out.frozen (i := 3) rfl 1
        have SF := (S5.out.store (i := 3) rfl 0 (.int .i64 0)).store (i := 3) rfl 1 (.slice none 0 0)
        have j0 := SF.cell (i := 3) rfl (o := 0) rfl
        have j1 := SF.cell (i := 3) rfl (o := 1) rfl
        have hB := Lib.hid SF.below
        clear SF
        go_wp2_with fail
        exact bodyPost_ret (v := .tuple #[.agg #[.int .i64 0, .slice none 0 0], .bool false]) (by simp [results, Tryz.results97, go_sem, j0, j1]) rfl (cnfW_no hB.out)
      · have l0 := S5.out.cell (i := 1) rfl (o := 0) rfl
        have l1 := S5.out.cell (i := 1) rfl (o := 1) rfl
        have r0 := S5.out.cell (i := 3) rfl (o := 0) rfl
        have r1 := S5.out.cell (i := 3) rfl (o := 1) rfl
        have f0 := S5.out.frozen (i := 3) rfl 0
        have f1 := S5.out.frozen (i := 3) rfl 1
        have SF := (S5.out.store (i := 3) rfl 0 (.int .i64 vars)).store (i := 3) rfl 1 (.slice B xss.length cap)
        have j0 := SF.cell (i := 3) rfl (o := 0) rfl
        have j1 := SF.cell (i := 3) rfl (o := 1) rfl
        have hR := Lib.hid (Sp.front (qs := [_]) SF)
        clear SF S5
        go_wp2_with fail
        exact bodyPost_ret (v := .tuple #[.agg #[.int .i64 vars, .slice B xss.length cap], .bool true]) (by simp [results, Tryz.results97, go_sem, j0, j1]) rfl ⟨vars, B, cap, cs, xss, true, rfl, hvv.1, hvv.2, by omega, HC.out, hR.out⟩
end Go.Proofs.YtahbepajeplcmaaGreat

/- Contract, a weak one: a Cnf with its variables renamed, in the reference. -/
namespace Go.Proofs.YtahbepajeplcmaaGreat
open Go.RowKit

theorem clause_len {vars : Int} {c : List Int} (h : clauseB vars c = true) : c.length ≤ 12 := by
  have hp := clause_parts h
  exact rising_len (m := 12) (k := 1) (clause_rising h) (fun l hl => by have := hp.2.1 l hl; omega)

theorem absV_of (l : Int) (h : -13 ≤ l ∧ l ≤ 13) : absV l = (l.natAbs : Int) := by
  unfold absV negV
  split
  · rw [IntWalk.wrap64_in _ (by omega)]; omega
  · omega

set_option maxRecDepth 100000 in
set_option maxHeartbeats 4000000 in
theorem renameW_any (vars : Int) (v : Value) (xss : List (List Int)) (tl : List Int) (TA : Option Addr) (tc : Nat) (F G : List Nat) (w : World) (hx : (Ty.slice Ty.int).row false w v xss F) (hy : Ty.int.row false w (.slice TA tl.length tc) tl G) (hto : Within 13 tl) (hl : tl.length ≤ 1000) :
    Calls Tryz.prog 88 #[.agg #[.int .i64 vars, v], .slice TA tl.length tc] w (CnfW w) := by
  obtain ⟨FA, fc, rfl, hI⟩ := cls_row hx
  have S0 := ((Sp.start w).alloc_box #[.int .i64 vars, .slice FA xss.length fc] 28).alloc_box #[.int .i64 0, .slice none 0 0] 28
  simp only [World.size_alloc] at S0
  have hgood := Lib.hid (l2Good_any vars _ xss F _ (Ty.row_below hx S0.below (Ty.row_lt hx)))
  have c0 := S0.cell (i := 1) rfl (o := 0) rfl
  have c1 := S0.cell (i := 1) rfl (o := 1) rfl
  replace S0 := Lib.hid S0
  cases h1 : goodB vars xss
  · rw [h1] at hgood
    go_enter Tryz.func88, Tryz.ntmps88
    go_wp2_with fail
    refine hgood.out.mono ?_
    rintro e w1 ⟨rfl, hb1⟩
    have S1 := Lib.hid (S0.out.grow hb1)
    clear S0 hgood hb1 c0 c1 hx hI
    have r0 := S1.out.cell (i := 0) rfl (o := 0) rfl
    have r1 := S1.out.cell (i := 0) rfl (o := 1) rfl
    have f0 := S1.out.frozen (i := 0) rfl 0
    have f1 := S1.out.frozen (i := 0) rfl 1
    have SF := (S1.out.store (i := 0) rfl 0 (.int .i64 0)).store (i := 0) rfl 1 (.slice none 0 0)
    have j0 := SF.cell (i := 0) rfl (o := 0) rfl
    have j1 := SF.cell (i := 0) rfl (o := 1) rfl
    have hB := Lib.hid SF.below
    clear SF
    go_wp2_with fail
    exact bodyPost_ret (v := .tuple #[.agg #[.int .i64 0, .slice none 0 0], .bool false]) (by simp [results, Tryz.results88, go_sem, j0, j1]) rfl (cnfW_no hB.out)
  have hg := good_cnf h1
  rw [h1] at hgood
  obtain ⟨n, rfl⟩ := Int.eq_ofNat_of_zero_le hg.1.1
  by_cases hln : tl.length = n
  case neg =>
    have hne : ((tl.length : Int) != (n : Int)) = true := by rw [bne_iff_ne]; omega
    go_enter Tryz.func88, Tryz.ntmps88
    go_wp2_with fail
    refine hgood.out.mono ?_
    rintro e w1 ⟨rfl, hb1⟩
    have S1 := Lib.hid (S0.out.grow hb1)
    have d0 := S1.out.cell (i := 1) rfl (o := 0) rfl
    clear S0 hgood hb1 c0 c1 hx hI hg
    have r0 := S1.out.cell (i := 0) rfl (o := 0) rfl
    have r1 := S1.out.cell (i := 0) rfl (o := 1) rfl
    have f0 := S1.out.frozen (i := 0) rfl 0
    have f1 := S1.out.frozen (i := 0) rfl 1
    have SF := (S1.out.store (i := 0) rfl 0 (.int .i64 0)).store (i := 0) rfl 1 (.slice none 0 0)
    have j0 := SF.cell (i := 0) rfl (o := 0) rfl
    have j1 := SF.cell (i := 0) rfl (o := 1) rfl
    have hB := Lib.hid SF.below
    clear SF
    go_wp2_with fail
    exact bodyPost_ret (v := .tuple #[.agg #[.int .i64 0, .slice none 0 0], .bool false]) (by simp [results, Tryz.results88, go_sem, j0, j1]) rfl (cnfW_no hB.out)
  case pos =>
  have hne : ((tl.length : Int) != (n : Int)) = false := by rw [bne_eq_false_iff_eq]; omega
  have hn12 : n ≤ 12 := by omega
  replace hln := Lib.hid hln
  replace hI := Lib.hid hI
  have hyH := Lib.hid hy
  obtain ⟨TA', tc', e', hT⟩ := ints_row hy
  cases e'
  replace hT := Lib.hid hT
  replace hto := Lib.hid hto
  have hgH := Lib.hid hg
  obtain ⟨i0, hi, hz0, hz1, hz2⟩ := info_parts infoRow
  obtain ⟨t0, ti, tz0, tz1, tz2⟩ := info_parts infoInt
  have hcap : tl.length ≤ tc := by
    obtain ⟨a, cap, e, h, _⟩ := row_int hy
    simp only [Value.slice.injEq] at e
    omega
  clear hx hy hg
  go_enter Tryz.func88, Tryz.ntmps88
  go_wp2_with fail
  refine hgood.out.mono ?_
  rintro e w1 ⟨rfl, hb1⟩
  have S1 : Hid (Sp w w1 [Box (w.heap.size + 1) 28 #[.int .i64 0, .slice none 0 0], Box w.heap.size 28 #[.int .i64 n, .slice FA xss.length fc]]) := S0.out.grow hb1
  have d0 := S1.out.cell (i := 1) rfl (o := 0) rfl
  clear S0 hgood hb1 c0 c1
  go_wp2_with fail
  go_loopw [6] (fun vi wr => ∃ k : Nat, k ≤ tl.length ∧ vi = .int .i64 k ∧ Hid (Sp w wr [Box (w.heap.size + 1) 28 #[.int .i64 0, .slice none 0 0], Box w.heap.size 28 #[.int .i64 n, .slice FA xss.length fc]])) (fun vi _ => tl.length - (intOf vi).toNat)
  case atStart => exact ⟨0, Nat.zero_le _, rfl, S1⟩
  case round =>
    obtain ⟨k, hk, rfl, HS⟩ := hrel
    clear S1 d0
    by_cases hlt : k < tl.length
    · obtain ⟨b, off, rfl, m0⟩ := (hT.out.grow HS.out.below).at_ k hlt
      have d0 := HS.out.cell (i := 1) rfl (o := 0) rfl
      obtain ⟨G', hG, _⟩ := row_int_take (Ty.row_below hyH.out HS.out.below (Ty.row_lt hyH.out)) hk
      have hlk : (tl.take k).length = k := by rw [List.length_take]; omega
      have hx13 := hto.out _ (List.getElem_mem hlt)
      have hneg : IntKind.i64.wrap (-tl[k]) = -tl[k] := IntWalk.i64_in _ (by omega)
      generalize tl[k] = x at *
      have hlit := Lib.hid (fun W => l2Lit_any (n : Int) x W)
      have hh1 := Lib.hid (l2Has_any (.slice (some ⟨b, off, none⟩) k tc) (tl.take k) G' x)
      have hh2 := Lib.hid (l2Has_any (.slice (some ⟨b, off, none⟩) k tc) (tl.take k) G' (-x))
      have hGH := Lib.hid (fun W (h : Below wr.heap.size wr W) => Ty.row_below hG h (Ty.row_lt hG))
      generalize litB (n : Int) x = q0 at *
      generalize hasI (tl.take k) x = q1 at *
      generalize hasI (tl.take k) (-x) = q2 at *
      clear hG hlk
      go_upto_region 6 with fail
      go_cut [58] (fun v wx => ∃ q : Bool, v = .bool q ∧ Hid (Sp w wx [Box (w.heap.size + 1) 28 #[.int .i64 0, .slice none 0 0], Box w.heap.size 28 #[.int .i64 n, .slice FA xss.length fc]]))
      case first =>
        as_aux_lemma =>
        refine wp_region_held_lit (S := (fun w' => w'.cell? ⟨w.heap.size, 0, none⟩ = some (.int .i64 n) ∧ w'.cell? ⟨b, off + k, none⟩ = some (.int .i64 x))) 29 [false, false, false, false, false, false, false, false, false, false, false, false, false, false, false, false, false, false, false, false, false, false, false, false, false, false, false, false, false] (by kernel_rfl) (by kernel_rfl) (by kernel_rfl) ?_ ?_
        · exact ⟨d0, m0⟩
        intro hS
        (refine wpAnyH_take (i := 0) (v := ?_) rfl (by kernel_rfl) (by kernel_rfl) (by kernel_rfl) (fun _ _ _ h => h) (Or.inl ⟨by rfl, ?_⟩) (by assumption) ?_; rotate_left; (focus (intro w hSw; (try dsimp only at hSw); go_simp; (try with_reducible rfl); done)); (try simp only [put_rules]))
        (refine wpAnyH_take (i := 1) (v := ?_) rfl (by kernel_rfl) (by kernel_rfl) (by kernel_rfl) (fun _ _ _ h => h) (Or.inl ⟨by rfl, ?_⟩) (by assumption) ?_; rotate_left; (focus (intro w hSw; (try dsimp only at hSw); go_simp; (try with_reducible rfl); done)); (try simp only [put_rules]))
        (refine wpAnyH_take (i := 2) (v := ?_) rfl (by kernel_rfl) (by kernel_rfl) (by kernel_rfl) (fun _ _ _ h => h) (Or.inl ⟨by rfl, ?_⟩) (by assumption) ?_; rotate_left; (focus (intro w hSw; (try dsimp only at hSw); go_simp; (try with_reducible rfl); done)); (try simp only [put_rules]))
        (refine wpAnyH_take (i := 3) (v := ?_) rfl (by kernel_rfl) (by kernel_rfl) (by kernel_rfl) (fun _ _ _ h => h) (Or.inl ⟨by rfl, ?_⟩) (by assumption) ?_; rotate_left; (focus (intro w hSw; (try dsimp only at hSw); go_simp; (try with_reducible rfl); done)); (try simp only [put_rules]))
        (refine wpAnyH_take (i := 4) (v := ?_) rfl (by kernel_rfl) (by kernel_rfl) (by kernel_rfl) (fun _ _ _ h => h) (Or.inl ⟨by rfl, ?_⟩) (by assumption) ?_; rotate_left; (focus (intro w hSw; (try dsimp only at hSw); go_simp; (try with_reducible rfl); done)); (try simp only [put_rules]))
        (refine wpAnyH_take (i := 5) (v := ?_) rfl (by kernel_rfl) (by kernel_rfl) (by kernel_rfl) (fun _ _ _ h => h) (Or.inl ⟨by rfl, ?_⟩) (by assumption) ?_; rotate_left; (focus (intro w hSw; (try dsimp only at hSw); go_simp; (try with_reducible rfl); done)); (try simp only [put_rules]))
        (refine wpAnyH_ready (rs := [6]) (by kernel_rfl) (by simp) ?_; refine AllReadyH.cons rfl (fun K hK => ?_) AllReadyH.nil)
        go_simp
        go_at_call 77
        refine (hlit.out _).mono ?_
        rintro e w3 ⟨rfl, rfl⟩
        go_wp2_with fail
        refine hK.out _ _ hS (fun hS2 => ?_)
        clear hK
        (try simp only [put_rules])
        (refine wpAnyH_take (i := 7) (v := ?_) rfl (by kernel_rfl) (by kernel_rfl) (by kernel_rfl) (fun _ _ _ h => h) (Or.inl ⟨by rfl, ?_⟩) (by assumption) ?_; rotate_left; (focus (intro w hSw; (try dsimp only at hSw); go_simp; (try with_reducible rfl); done)); (try simp only [put_rules]))
        (refine wpAnyH_take (i := 8) (v := ?_) rfl (by kernel_rfl) (by kernel_rfl) (by kernel_rfl) (fun _ _ _ h => h) (Or.inl ⟨by rfl, ?_⟩) (by assumption) ?_; rotate_left; (focus (intro w hSw; (try dsimp only at hSw); go_simp; (try with_reducible rfl); done)); (try simp only [put_rules]))
        cases q0
        · (refine wpAnyH_take (i := 9) (v := undef) rfl (by kernel_rfl) (by kernel_rfl) (by kernel_rfl) (fun _ _ _ h => h) (Or.inr ⟨by rfl, rfl⟩) (by assumption) ?_; (try simp only [put_rules]))
          (refine wpAnyH_take (i := 10) (v := undef) rfl (by kernel_rfl) (by kernel_rfl) (by kernel_rfl) (fun _ _ _ h => h) (Or.inr ⟨by rfl, rfl⟩) (by assumption) ?_; (try simp only [put_rules]))
          (refine wpAnyH_take (i := 11) (v := undef) rfl (by kernel_rfl) (by kernel_rfl) (by kernel_rfl) (fun _ _ _ h => h) (Or.inr ⟨by rfl, rfl⟩) (by assumption) ?_; (try simp only [put_rules]))
          (refine wpAnyH_take (i := 12) (v := undef) rfl (by kernel_rfl) (by kernel_rfl) (by kernel_rfl) (fun _ _ _ h => h) (Or.inr ⟨by rfl, rfl⟩) (by assumption) ?_; (try simp only [put_rules]))
          (refine wpAnyH_take (i := 13) (v := undef) rfl (by kernel_rfl) (by kernel_rfl) (by kernel_rfl) (fun _ _ _ h => h) (Or.inr ⟨by rfl, rfl⟩) (by assumption) ?_; (try simp only [put_rules]))
          (refine wpAnyH_take (i := 14) (v := undef) rfl (by kernel_rfl) (by kernel_rfl) (by kernel_rfl) (fun _ _ _ h => h) (Or.inr ⟨by rfl, rfl⟩) (by assumption) ?_; (try simp only [put_rules]))
          (refine wpAnyH_take (i := 15) (v := undef) rfl (by kernel_rfl) (by kernel_rfl) (by kernel_rfl) (fun _ _ _ h => h) (Or.inr ⟨by rfl, rfl⟩) (by assumption) ?_; (try simp only [put_rules]))
          (refine wpAnyH_take (i := 16) (v := undef) rfl (by kernel_rfl) (by kernel_rfl) (by kernel_rfl) (fun _ _ _ h => h) (Or.inr ⟨by rfl, rfl⟩) (by assumption) ?_; (try simp only [put_rules]))
          (refine wpAnyH_take (i := 17) (v := ?_) rfl (by kernel_rfl) (by kernel_rfl) (by kernel_rfl) (fun _ _ _ h => h) (Or.inl ⟨by rfl, ?_⟩) (by assumption) ?_; rotate_left; (focus (intro w hSw; (try dsimp only at hSw); go_simp; (try with_reducible rfl); done)); (try simp only [put_rules]))
          (refine wpAnyH_take (i := 18) (v := ?_) rfl (by kernel_rfl) (by kernel_rfl) (by kernel_rfl) (fun _ _ _ h => h) (Or.inl ⟨by rfl, ?_⟩) (by assumption) ?_; rotate_left; (focus (intro w hSw; (try dsimp only at hSw); go_simp; (try with_reducible rfl); done)); (try simp only [put_rules]))
          (refine wpAnyH_take (i := 19) (v := undef) rfl (by kernel_rfl) (by kernel_rfl) (by kernel_rfl) (fun _ _ _ h => h) (Or.inr ⟨by rfl, rfl⟩) (by assumption) ?_; (try simp only [put_rules]))
          (refine wpAnyH_take (i := 20) (v := undef) rfl (by kernel_rfl) (by kernel_rfl) (by kernel_rfl) (fun _ _ _ h => h) (Or.inr ⟨by rfl, rfl⟩) (by assumption) ?_; (try simp only [put_rules]))
          (refine wpAnyH_take (i := 21) (v := undef) rfl (by kernel_rfl) (by kernel_rfl) (by kernel_rfl) (fun _ _ _ h => h) (Or.inr ⟨by rfl, rfl⟩) (by assumption) ?_; (try simp only [put_rules]))
          (refine wpAnyH_take (i := 22) (v := undef) rfl (by kernel_rfl) (by kernel_rfl) (by kernel_rfl) (fun _ _ _ h => h) (Or.inr ⟨by rfl, rfl⟩) (by assumption) ?_; (try simp only [put_rules]))
          (refine wpAnyH_take (i := 23) (v := undef) rfl (by kernel_rfl) (by kernel_rfl) (by kernel_rfl) (fun _ _ _ h => h) (Or.inr ⟨by rfl, rfl⟩) (by assumption) ?_; (try simp only [put_rules]))
          (refine wpAnyH_take (i := 24) (v := undef) rfl (by kernel_rfl) (by kernel_rfl) (by kernel_rfl) (fun _ _ _ h => h) (Or.inr ⟨by rfl, rfl⟩) (by assumption) ?_; (try simp only [put_rules]))
          (refine wpAnyH_take (i := 25) (v := undef) rfl (by kernel_rfl) (by kernel_rfl) (by kernel_rfl) (fun _ _ _ h => h) (Or.inr ⟨by rfl, rfl⟩) (by assumption) ?_; (try simp only [put_rules]))
          (refine wpAnyH_take (i := 26) (v := undef) rfl (by kernel_rfl) (by kernel_rfl) (by kernel_rfl) (fun _ _ _ h => h) (Or.inr ⟨by rfl, rfl⟩) (by assumption) ?_; (try simp only [put_rules]))
          (refine wpAnyH_take (i := 27) (v := undef) rfl (by kernel_rfl) (by kernel_rfl) (by kernel_rfl) (fun _ _ _ h => h) (Or.inr ⟨by rfl, rfl⟩) (by assumption) ?_; (try simp only [put_rules]))
          (refine wpAnyH_take (i := 28) (v := ?_) rfl (by kernel_rfl) (by kernel_rfl) (by kernel_rfl) (fun _ _ _ h => h) (Or.inl ⟨by rfl, ?_⟩) (by assumption) ?_; rotate_left; (focus (intro w hSw; (try dsimp only at hSw); go_simp; (try with_reducible rfl); done)); (try simp only [put_rules]))
          (refine wpAnyH_done (by kernel_rfl) ?_ _)
          go_wp2_with fail
          go_meet
          exact ⟨_, rfl, HS.out.drew⟩
        · (refine wpAnyH_take (i := 9) (v := ?_) rfl (by kernel_rfl) (by kernel_rfl) (by kernel_rfl) (fun _ _ _ h => h) (Or.inl ⟨by rfl, ?_⟩) (by assumption) ?_; rotate_left; (focus (intro w hSw; (try dsimp only at hSw); go_simp; (try with_reducible rfl); done)); (try simp only [put_rules]))
          (refine wpAnyH_take (i := 10) (v := ?_) rfl (by kernel_rfl) (by kernel_rfl) (by kernel_rfl) (fun _ _ _ h => h) (Or.inl ⟨by rfl, ?_⟩) (by assumption) ?_; rotate_left; (focus (intro w hSw; (try dsimp only at hSw); go_simp; (try with_reducible rfl); done)); (try simp only [put_rules]))
          (refine wpAnyH_take (i := 11) (v := .slice _ k tc) rfl (by kernel_rfl) (by kernel_rfl) (by kernel_rfl) (fun _ _ _ h => h) (Or.inl ⟨by rfl, fun _ _ => exec_slice_to rfl rfl rfl Tryz.underlying35 ti (by omega)⟩) (by assumption) ?_; (try simp only [put_rules]))
          (refine wpAnyH_take (i := 12) (v := ?_) rfl (by kernel_rfl) (by kernel_rfl) (by kernel_rfl) (fun _ _ _ h => h) (Or.inl ⟨by rfl, ?_⟩) (by assumption) ?_; rotate_left; (focus (intro w hSw; (try dsimp only at hSw); go_simp; (try with_reducible rfl); done)); (try simp only [put_rules]))
          (refine wpAnyH_take (i := 13) (v := ?_) rfl (by kernel_rfl) (by kernel_rfl) (by kernel_rfl) (fun _ _ _ h => h) (Or.inl ⟨by rfl, ?_⟩) (by assumption) ?_; rotate_left; (focus (intro w hSw; (try dsimp only at hSw); go_simp; (try with_reducible rfl); done)); (try simp only [put_rules]))
          (refine wpAnyH_take (i := 14) (v := ?_) rfl (by kernel_rfl) (by kernel_rfl) (by kernel_rfl) (fun _ _ _ h => h) (Or.inl ⟨by rfl, ?_⟩) (by assumption) ?_; rotate_left; (focus (intro w hSw; (try dsimp only at hSw); go_simp; (try with_reducible rfl); done)); (try simp only [put_rules]))
          (refine wpAnyH_take (i := 15) (v := ?_) rfl (by kernel_rfl) (by kernel_rfl) (by kernel_rfl) (fun _ _ _ h => h) (Or.inl ⟨by rfl, ?_⟩) (by assumption) ?_; rotate_left; (focus (intro w hSw; (try dsimp only at hSw); go_simp; (try with_reducible rfl); done)); (try simp only [put_rules]))
          (refine wpAnyH_ready (rs := [16]) (by kernel_rfl) (by simp) ?_; refine AllReadyH.cons rfl (fun K hK => ?_) AllReadyH.nil)
          go_simp
          go_at_call 96
          refine (hh1.out _ (hGH.out _ (bdr (bb _)))).mono ?_
          rintro e w3 ⟨rfl, rfl⟩
          go_wp2_with fail
          refine hK.out _ _ hS (fun hS3 => ?_)
          clear hK
          (try simp only [put_rules])
          cases q1
          · (refine wpAnyH_take (i := 17) (v := ?_) rfl (by kernel_rfl) (by kernel_rfl) (by kernel_rfl) (fun _ _ _ h => h) (Or.inl ⟨by rfl, ?_⟩) (by assumption) ?_; rotate_left; (focus (intro w hSw; (try dsimp only at hSw); go_simp; (try with_reducible rfl); done)); (try simp only [put_rules]))
            (refine wpAnyH_take (i := 18) (v := ?_) rfl (by kernel_rfl) (by kernel_rfl) (by kernel_rfl) (fun _ _ _ h => h) (Or.inl ⟨by rfl, ?_⟩) (by assumption) ?_; rotate_left; (focus (intro w hSw; (try dsimp only at hSw); go_simp; (try with_reducible rfl); done)); (try simp only [put_rules]))
            (refine wpAnyH_take (i := 19) (v := ?_) rfl (by kernel_rfl) (by kernel_rfl) (by kernel_rfl) (fun _ _ _ h => h) (Or.inl ⟨by rfl, ?_⟩) (by assumption) ?_; rotate_left; (focus (intro w hSw; (try dsimp only at hSw); go_simp; (try with_reducible rfl); done)); (try simp only [put_rules]))
            (refine wpAnyH_take (i := 20) (v := ?_) rfl (by kernel_rfl) (by kernel_rfl) (by kernel_rfl) (fun _ _ _ h => h) (Or.inl ⟨by rfl, ?_⟩) (by assumption) ?_; rotate_left; (focus (intro w hSw; (try dsimp only at hSw); go_simp; (try with_reducible rfl); done)); (try simp only [put_rules]))
            (refine wpAnyH_take (i := 21) (v := .slice _ k tc) rfl (by kernel_rfl) (by kernel_rfl) (by kernel_rfl) (fun _ _ _ h => h) (Or.inl ⟨by rfl, fun _ _ => exec_slice_to rfl rfl rfl Tryz.underlying35 ti (by omega)⟩) (by assumption) ?_; (try simp only [put_rules]))
            (refine wpAnyH_take (i := 22) (v := ?_) rfl (by kernel_rfl) (by kernel_rfl) (by kernel_rfl) (fun _ _ _ h => h) (Or.inl ⟨by rfl, ?_⟩) (by assumption) ?_; rotate_left; (focus (intro w hSw; (try dsimp only at hSw); go_simp; (try with_reducible rfl); done)); (try simp only [put_rules]))
            (refine wpAnyH_take (i := 23) (v := ?_) rfl (by kernel_rfl) (by kernel_rfl) (by kernel_rfl) (fun _ _ _ h => h) (Or.inl ⟨by rfl, ?_⟩) (by assumption) ?_; rotate_left; (focus (intro w hSw; (try dsimp only at hSw); go_simp; (try with_reducible rfl); done)); (try simp only [put_rules]))
            (refine wpAnyH_take (i := 24) (v := ?_) rfl (by kernel_rfl) (by kernel_rfl) (by kernel_rfl) (fun _ _ _ h => h) (Or.inl ⟨by rfl, ?_⟩) (by assumption) ?_; rotate_left; (focus (intro w hSw; (try dsimp only at hSw); go_simp; (try with_reducible rfl); done)); (try simp only [put_rules]))
            (refine wpAnyH_take (i := 25) (v := ?_) rfl (by kernel_rfl) (by kernel_rfl) (by kernel_rfl) (fun _ _ _ h => h) (Or.inl ⟨by rfl, ?_⟩) (by assumption) ?_; rotate_left; (focus (intro w hSw; (try dsimp only at hSw); go_simp; (try with_reducible rfl); done)); (try simp only [put_rules]))
            (refine wpAnyH_take (i := 26) (v := ?_) rfl (by kernel_rfl) (by kernel_rfl) (by kernel_rfl) (fun _ _ _ h => h) (Or.inl ⟨by rfl, ?_⟩) (by assumption) ?_; rotate_left; (focus (intro w hSw; (try dsimp only at hSw); go_simp; (try with_reducible rfl); done)); (try simp only [put_rules]))
            (refine wpAnyH_ready (rs := [27]) (by kernel_rfl) (by simp) ?_; refine AllReadyH.cons rfl (fun K hK => ?_) AllReadyH.nil)
            go_simp
            go_at_call 96
            refine (hh2.out _ (hGH.out _ (bdr (bb _)))).mono ?_
            rintro e w3 ⟨rfl, rfl⟩
            go_wp2_with fail
            refine hK.out _ _ hS (fun hS4 => ?_)
            clear hK
            (try simp only [put_rules])
            (refine wpAnyH_take (i := 28) (v := ?_) rfl (by kernel_rfl) (by kernel_rfl) (by kernel_rfl) (fun _ _ _ h => h) (Or.inl ⟨by rfl, ?_⟩) (by assumption) ?_; rotate_left; (focus (intro w hSw; (try dsimp only at hSw); go_simp; (try with_reducible rfl); done)); (try simp only [put_rules]))
            (refine wpAnyH_done (by kernel_rfl) ?_ _)
            go_wp2_with fail
            go_meet
            exact ⟨_, rfl, HS.out.drew⟩
          · (refine wpAnyH_take (i := 17) (v := ?_) rfl (by kernel_rfl) (by kernel_rfl) (by kernel_rfl) (fun _ _ _ h => h) (Or.inl ⟨by rfl, ?_⟩) (by assumption) ?_; rotate_left; (focus (intro w hSw; (try dsimp only at hSw); go_simp; (try with_reducible rfl); done)); (try simp only [put_rules]))
            (refine wpAnyH_take (i := 18) (v := ?_) rfl (by kernel_rfl) (by kernel_rfl) (by kernel_rfl) (fun _ _ _ h => h) (Or.inl ⟨by rfl, ?_⟩) (by assumption) ?_; rotate_left; (focus (intro w hSw; (try dsimp only at hSw); go_simp; (try with_reducible rfl); done)); (try simp only [put_rules]))
            (refine wpAnyH_take (i := 19) (v := undef) rfl (by kernel_rfl) (by kernel_rfl) (by kernel_rfl) (fun _ _ _ h => h) (Or.inr ⟨by rfl, rfl⟩) (by assumption) ?_; (try simp only [put_rules]))
            (refine wpAnyH_take (i := 20) (v := undef) rfl (by kernel_rfl) (by kernel_rfl) (by kernel_rfl) (fun _ _ _ h => h) (Or.inr ⟨by rfl, rfl⟩) (by assumption) ?_; (try simp only [put_rules]))
            (refine wpAnyH_take (i := 21) (v := undef) rfl (by kernel_rfl) (by kernel_rfl) (by kernel_rfl) (fun _ _ _ h => h) (Or.inr ⟨by rfl, rfl⟩) (by assumption) ?_; (try simp only [put_rules]))
            (refine wpAnyH_take (i := 22) (v := undef) rfl (by kernel_rfl) (by kernel_rfl) (by kernel_rfl) (fun _ _ _ h => h) (Or.inr ⟨by rfl, rfl⟩) (by assumption) ?_; (try simp only [put_rules]))
            (refine wpAnyH_take (i := 23) (v := undef) rfl (by kernel_rfl) (by kernel_rfl) (by kernel_rfl) (fun _ _ _ h => h) (Or.inr ⟨by rfl, rfl⟩) (by assumption) ?_; (try simp only [put_rules]))
            (refine wpAnyH_take (i := 24) (v := undef) rfl (by kernel_rfl) (by kernel_rfl) (by kernel_rfl) (fun _ _ _ h => h) (Or.inr ⟨by rfl, rfl⟩) (by assumption) ?_; (try simp only [put_rules]))
            (refine wpAnyH_take (i := 25) (v := undef) rfl (by kernel_rfl) (by kernel_rfl) (by kernel_rfl) (fun _ _ _ h => h) (Or.inr ⟨by rfl, rfl⟩) (by assumption) ?_; (try simp only [put_rules]))
            (refine wpAnyH_take (i := 26) (v := undef) rfl (by kernel_rfl) (by kernel_rfl) (by kernel_rfl) (fun _ _ _ h => h) (Or.inr ⟨by rfl, rfl⟩) (by assumption) ?_; (try simp only [put_rules]))
            (refine wpAnyH_take (i := 27) (v := undef) rfl (by kernel_rfl) (by kernel_rfl) (by kernel_rfl) (fun _ _ _ h => h) (Or.inr ⟨by rfl, rfl⟩) (by assumption) ?_; (try simp only [put_rules]))
            (refine wpAnyH_take (i := 28) (v := ?_) rfl (by kernel_rfl) (by kernel_rfl) (by kernel_rfl) (fun _ _ _ h => h) (Or.inl ⟨by rfl, ?_⟩) (by assumption) ?_; rotate_left; (focus (intro w hSw; (try dsimp only at hSw); go_simp; (try with_reducible rfl); done)); (try simp only [put_rules]))
            (refine wpAnyH_done (by kernel_rfl) ?_ _)
            go_wp2_with fail
            go_meet
            exact ⟨_, rfl, HS.out.drew⟩
      case rest =>
      clear HS d0 m0 hlit hh1 hh2 hGH
      obtain ⟨q, rfl, HS⟩ := hcut
      cases q
      · go_wp2_with fail
        go_roundw
        case rel => exact ⟨k + 1, by omega, by go_num, HS⟩
        case measure => simp [intOf]; omega
      · have r0 := HS.out.cell (i := 0) rfl (o := 0) rfl
        have r1 := HS.out.cell (i := 0) rfl (o := 1) rfl
        have f0 := HS.out.frozen (i := 0) rfl 0
        have f1 := HS.out.frozen (i := 0) rfl 1
        have SF := (HS.out.store (i := 0) rfl 0 (.int .i64 0)).store (i := 0) rfl 1 (.slice none 0 0)
        have j0 := SF.cell (i := 0) rfl (o := 0) rfl
        have j1 := SF.cell (i := 0) rfl (o := 1) rfl
        have hB := Lib.hid SF.below
        clear SF
        go_wp2_with fail
        exact bodyPost_ret (v := .tuple #[.agg #[.int .i64 0, .slice none 0 0], .bool false]) (by simp [results, Tryz.results88, go_sem, j0, j1]) rfl (cnfW_no hB.out)
    · have hge : ¬ (k : Int) < (tl.length : Int) := by omega
      have d0 := HS.out.cell (i := 1) rfl (o := 0) rfl
      have S3 := (HS.out.rows_made Ty.int 35).alloc_box #[.int .i64 n, .slice (some ⟨wr.heap.size, 0, none⟩) 0 0] 28
      simp only [World.size_alloc] at S3
      obtain ⟨ob, hob⟩ : ∃ ob, wr.heap.size + 1 = ob := ⟨_, rfl⟩
      rw [hob] at S3
      have S4 : Hid (Sp w _ [Rows Ty.int 35 (.slice (some ⟨wr.heap.size, 0, none⟩) ([] : List (List Int)).length 0) [] ([] : List (List Int)), Box ob 28 #[.int .i64 n, .slice (some ⟨wr.heap.size, 0, none⟩) ([] : List (List Int)).length 0], Box (w.heap.size + 1) 28 #[.int .i64 0, .slice none 0 0], Box w.heap.size 28 #[.int .i64 n, .slice FA xss.length fc]]) := S3.swap
      clear HS S3
      go_wp2_with fail
      go_loopw [8, 9, 10, 11, 12] (fun vi _ _ _ _ wr => ∃ (ys : List (List Int)) (cs : List Value) (B : Option Addr) (cap : Nat) (k : Nat), k ≤ xss.length ∧ vi = .int .i64 k ∧ Hid (ys.length = k) ∧ Hid (SmallC ys) ∧ Hid (Sp w wr [Rows Ty.int 35 (.slice B ys.length cap) cs ys, Box ob 28 #[.int .i64 n, .slice B ys.length cap], Box (w.heap.size + 1) 28 #[.int .i64 0, .slice none 0 0], Box w.heap.size 28 #[.int .i64 n, .slice FA xss.length fc]])) (fun vi _ _ _ _ _ => xss.length - (intOf vi).toNat)
      case atStart => exact ⟨[], [], _, _, 0, Nat.zero_le _, rfl, rfl, (fun c hc => by simp at hc), S4⟩
      case round =>
        obtain ⟨ys, cs, B, cap, k, hk, rfl, hyl, HC, HS⟩ := hrel
        rename World => wo
        have hx60 := hgH.out.2.1
        clear S4
        have d1 := HS.out.cell (i := 3) rfl (o := 1) rfl
        by_cases hlt : k < xss.length
        · obtain ⟨b, off, Bc, cc, rfl, m0, hIc⟩ := (hI.out.grow HS.out.below).at_ k hlt
          have hcb := hgH.out.2.2.1 _ (List.getElem_mem hlt)
          have hcl := clause_len hcb
          have hpar := Lib.hid (clause_parts hcb).2.1
          generalize xss[k] = c at *
          replace hIc := Lib.hid hIc
          have m0H := Lib.hid m0
          have S5 := Lib.hid (HS.out.own_made 3 1)
          clear HS hcb m0
          go_wp2_with fail
          clear d1
          go_loopw [9, 10, 11, 12] (fun vc vk _ _ WR => ∃ (c2 : List Int) (B2 : Option Addr) (cap2 j : Nat), j ≤ c.length ∧ vk = .int .i64 j ∧ vc = .slice B2 c2.length cap2 ∧ Hid (c2.length ≤ j) ∧ Hid (Within 13 c2) ∧ Hid (Sp w WR (Own 3 1 (.slice B2 c2.length cap2) c2.length (c2.map (.int .i64)) :: [Rows Ty.int 35 (.slice B ys.length cap) cs ys, Box ob 28 #[.int .i64 n, .slice B ys.length cap], Box (w.heap.size + 1) 28 #[.int .i64 0, .slice none 0 0], Box w.heap.size 28 #[.int .i64 n, .slice (some ⟨b, off, none⟩) xss.length fc]])) ∧ Hid (Below wo.heap.size wo WR)) (fun _ vk _ _ _ => c.length - (intOf vk).toNat)
          case atStart => exact ⟨[], _, _, 0, Nat.zero_le _, rfl, rfl, Nat.le_refl _, (fun x hx => by simp at hx), S5, bal (bb _) _⟩
          case round =>
            obtain ⟨c2, B2, cap2, j, hj, rfl, rfl, hc2l, HW, HS2, HB⟩ := hrel
            clear S5
            have d1 := HS2.out.cell (i := 4) rfl (o := 1) rfl
            have m0 := ((bcell HB.out).1 _ _ (World.block_lt_of_cell? _ _ m0H.out)).trans m0H.out
            by_cases hlt2 : j < c.length
            · obtain ⟨b3, off3, rfl, m1⟩ := (hIc.out.grow HB.out).at_ j hlt2
              have hx := hpar.out _ (List.getElem_mem hlt2)
              generalize c[j] = x at *
              obtain ⟨p, hp⟩ : ∃ p : Nat, absV x - 1 = (p : Int) := ⟨x.natAbs - 1, by rw [absV_of x (by omega)]; omega⟩
              have hpn : p < tl.length := by rw [hln.out]; rw [absV_of x (by omega)] at hp; omega
              obtain ⟨b4, off4, rfl, m2⟩ := (hT.out.grow HS2.out.below).at_ p hpn
              have hy13 := hto.out _ (List.getElem_mem hpn)
              generalize tl[p] = y at *
              have hyn : IntKind.i64.wrap (-y) = -y := IntWalk.i64_in _ (by omega)
              have hpw : IntKind.i64.wrap (absV x - 1) = (p : Int) := by rw [hp]; exact IntWalk.i64_in _ (by omega)
              have hpl : (p : Int) < (tl.length : Int) := by omega
              have hlv := Lib.hid (fun W => l2Var_any x W)
              clear hp
              generalize absV x = av at *
              go_wp2_with fail
              refine (hlv.out _).mono ?_
              rintro e w3 ⟨rfl, rfl⟩
              clear hlv
              go_upto_if 97 with fail
              go_cut [12] (fun s wx => ∃ l : Int, s = .int .i64 l ∧ -13 ≤ l ∧ l ≤ 13 ∧ Hid (Sp w wx (Own 3 1 (.slice B2 c2.length cap2) c2.length (c2.map (.int .i64)) :: [Rows Ty.int 35 (.slice B ys.length cap) cs ys, Box ob 28 #[.int .i64 n, .slice B ys.length cap], Box (w.heap.size + 1) 28 #[.int .i64 0, .slice none 0 0], Box w.heap.size 28 #[.int .i64 n, .slice (some ⟨b, off, none⟩) xss.length fc]])) ∧ Hid (Below wo.heap.size wo wx))
              case first =>
                by_cases hx0 : x < 0
                · have dx : decide (x < 0) = true := decide_eq_true hx0
                  go_wp2_with fail
                  go_meet
                  exact ⟨-y, rfl, by omega, by omega, HS2, HB⟩
                · have dx : decide (x < 0) = false := decide_eq_false hx0
                  go_wp2_with fail
                  go_meet
                  exact ⟨y, rfl, by omega, by omega, HS2, HB⟩
              case rest =>
              clear HS2 HB m0 m1 m2 d1 hyn hpw hpl hx
              obtain ⟨l, rfl, hl0, hl1, HS2, HB⟩ := hcut
              obtain ⟨F5, hr5, _, _⟩ := own_row (HS2.out.own (i := 0) rfl) (HW.out.i64 (by decide))
              have hc2' := hc2l.out
              have hpu := Lib.hid (l2Put_any _ c2 l F5 _ (Ty.row_down hr5) (by omega))
              clear hr5
              go_wp2_with fail
              refine hpu.out.mono ?_
              rintro e w6 ⟨v6, rfl, ho6, hb6⟩
              have S6 := (HS2.out.own_new hb6 (owns_zero ho6) (owns_ge ho6)).swap.tail
              have HW6 := Lib.hid (within_put HW.out ⟨hl0, hl1⟩)
              have hl6 := put_len c2 l
              obtain ⟨B6, cap6, rfl⟩ := own_slice ho6
              have HB6 := Lib.hid (btr HB.out hb6)
              generalize putB c2 l = c6 at *
              have hc6 : Hid (c6.length ≤ j + 1) := by unfold Hid; omega
              replace S6 := Lib.hid S6
              clear HS2 HB hpu ho6 hb6 hl6 hc2l hc2' HW
              go_wp2_with fail
              go_roundw
              case rel => exact ⟨c6, B6, cap6, j + 1, by omega, by go_num, rfl, hc6, HW6, S6, HB6⟩
              case measure => simp [intOf]; omega
            · obtain rfl : j = c.length := by omega
              have hc13 : c2.length ≤ 13 := by have := hc2l.out; omega
              have hsm : Within 1000000 c2 := fun z hz => by have := HW.out z hz; omega
              have S5 := Lib.hid (HS2.out.own_to_row (HW.out.i64 (by decide)))
              clear HS2
              have l1 := S5.out.cell (i := 2) rfl (o := 1) rfl
              have hrows := Lib.hid ((S5.out.rows (i := 1) rfl).alloc (.cells #[.slice B2 c2.length cap2] 35))
              have hbl := (S5.out.box (i := 2) rfl).2.1
              have l1a := ((bcell (bal (bb wr) (.cells #[.slice B2 c2.length cap2] 35))).1 _ 1 hbl).trans l1
              have kB : (wr.alloc (.cells #[.slice B2 c2.length cap2] 35)).cell? ⟨wr.heap.size, 0, none⟩ = some (.slice B2 c2.length cap2) := cell_of_row _ _ _ _ _ _ (heap_alloc_new wr _)
              go_wp2_with (at_builtin; refine wpList_append_src rfl _ _ rfl Tryz.underlying26 hi hz0 hz1 hz2 rfl (by decide) _ ys.length _ rfl hrows.out _ 1 1 [.slice B2 c2.length cap2] rfl (Src.one kB) (by simp [Value.oneCell']) ?c3 ?c4 ?_)
              case c3 => have hyk := hyl.out; have := hgH.out.2.1; unfold maxLen; omega
              case c4 => have hyk := hyl.out; have := hgH.out.2.1; omega
              intro vY wY hownY hgY hatY
              have S6 := S5.out.rows_push (bal (bb _) _) hownY hgY (by simpa using hatY)
              obtain ⟨aY, cY, rfl⟩ := own_slice hownY
              have b1 := S6.cell (i := 1) rfl (o := 1) rfl
              have q1 := S6.frozen (i := 1) rfl 1
              have hlen : ys.length + 1 = (ys ++ [c2]).length := by simp
              have S7 : Hid (Sp w (wY.setCell ⟨ob, 1, none⟩ (.slice aY (ys.length + 1) cY)) [Rows Ty.int 35 (.slice aY (ys ++ [c2]).length cY) (cs ++ [.slice B2 c2.length cap2]) (ys ++ [c2]), Box ob 28 #[.int .i64 n, .slice aY (ys ++ [c2]).length cY], Box (w.heap.size + 1) 28 #[.int .i64 0, .slice none 0 0], Box w.heap.size 28 #[.int .i64 n, .slice (some ⟨b, off, none⟩) xss.length fc]]) := by
                unfold Hid; rw [← hlen]
                have := S6.store (i := 1) rfl 1 (.slice aY (ys.length + 1) cY)
                rw [hlen] at this ⊢
                exact this
              have HC2 : Hid (SmallC (ys ++ [c2])) := fun y hy => by
                rcases List.mem_append.1 hy with hy | hy
                · exact HC.out y hy
                · obtain rfl : y = c2 := by simpa using hy
                  exact ⟨hsm, hc13⟩
              have hyl2 : Hid ((ys ++ [c2]).length = k + 1) := by unfold Hid; rw [← hlen, hyl.out]
              clear S5 S6 hrows hownY hgY hatY kB l1 l1a hbl hyl
              replace hlen := Lib.hid hlen
              go_wp2_with fail
              go_roundw
              case rel => exact ⟨ys ++ [c2], cs ++ [.slice B2 c2.length cap2], aY, cY, k + 1, by omega, by go_num, hyl2, HC2, S7⟩
              case measure => simp [intOf]; omega
        · obtain rfl : k = xss.length := by omega
          have l0 := HS.out.cell (i := 1) rfl (o := 0) rfl
          have l1 := HS.out.cell (i := 1) rfl (o := 1) rfl
          have r0 := HS.out.cell (i := 2) rfl (o := 0) rfl
          have r1 := HS.out.cell (i := 2) rfl (o := 1) rfl
          have f0 := HS.out.frozen (i := 2) rfl 0
          have f1 := HS.out.frozen (i := 2) rfl 1
          have SF := (HS.out.store (i := 2) rfl 0 (.int .i64 n)).store (i := 2) rfl 1 (.slice B ys.length cap)
          have j0 := SF.cell (i := 2) rfl (o := 0) rfl
          have j1 := SF.cell (i := 2) rfl (o := 1) rfl
          have hR := Lib.hid (Sp.front (qs := [_]) SF)
          have hy60 : ys.length ≤ 60 := by rw [hyl.out]; exact hgH.out.2.1
          clear SF HS
          go_wp2_with fail
          exact bodyPost_ret (v := .tuple #[.agg #[.int .i64 n, .slice B ys.length cap], .bool true]) (by simp [results, Tryz.results88, go_sem, j0, j1]) rfl ⟨n, B, cap, cs, ys, true, rfl, by omega, by omega, hy60, HC.out, hR.out⟩
end Go.Proofs.YtahbepajeplcmaaGreat

/- Contracts: numbers of variables that are drawn, mostly up to five. -/
namespace Go.Proofs.YtahbepajeplcmaaGreat
open Go.RowKit

set_option maxRecDepth 100000 in
set_option maxHeartbeats 4000000 in
theorem cur_vars2 (A g : Nat) (ca : Option Addr) (cl cc : Nat) (w : World) (h : CurIs A g ca cl cc w) (hA : A ≤ 80000000) :
    Calls Tryz.prog 37 #[.pointer (some ⟨g, 0, none⟩)] w (CurPost (IntIn (-1) 13) (A + 4) g ca cl cc w) := by
  have hg := h.lt
  have S0 := Lib.hid ((CS.start h).alloc_box #[.int .i64 3, .int .i64 3, .int .i64 4, .int .i64 4, .int .i64 5, .int .i64 2, .int .i64 12, .int .i64 1, .int .i64 0, .int .i64 13, .int .i64 (-1)] 3)
  go_enter Tryz.func37, Tryz.ntmps37
  go_wp2_with fail
  refine (cur_pick_at (lo := 0) (hi := 23) S0.out.cur (by omega) (by omega) (by omega) (by omega) (by omega)).mono ?_
  rintro e w1 ⟨_, ⟨x, hx0, hx1, rfl⟩, rfl, hi1, hc1⟩
  have S1 := Lib.hid (S0.out.turn hi1 hc1)
  have hcell : ∀ j, j < 11 → ∃ x, (-1 : Int) ≤ x ∧ x ≤ 13 ∧ w1.cell? ⟨w.heap.size, 0 + j, none⟩ = some (.int .i64 x) := fun j hj => by
    rw [Nat.zero_add]
    match j, hj with
    | 0, _ => exact ⟨_, by decide, by decide, S1.out.cell (i := 0) rfl rfl⟩
    | 1, _ => exact ⟨_, by decide, by decide, S1.out.cell (i := 0) rfl rfl⟩
    | 2, _ => exact ⟨_, by decide, by decide, S1.out.cell (i := 0) rfl rfl⟩
    | 3, _ => exact ⟨_, by decide, by decide, S1.out.cell (i := 0) rfl rfl⟩
    | 4, _ => exact ⟨_, by decide, by decide, S1.out.cell (i := 0) rfl rfl⟩
    | 5, _ => exact ⟨_, by decide, by decide, S1.out.cell (i := 0) rfl rfl⟩
    | 6, _ => exact ⟨_, by decide, by decide, S1.out.cell (i := 0) rfl rfl⟩
    | 7, _ => exact ⟨_, by decide, by decide, S1.out.cell (i := 0) rfl rfl⟩
    | 8, _ => exact ⟨_, by decide, by decide, S1.out.cell (i := 0) rfl rfl⟩
    | 9, _ => exact ⟨_, by decide, by decide, S1.out.cell (i := 0) rfl rfl⟩
    | 10, _ => exact ⟨_, by decide, by decide, S1.out.cell (i := 0) rfl rfl⟩
  replace hcell := Lib.hid hcell
  clear S0 hc1
  obtain ⟨k, hk, hkx⟩ : ∃ k : Nat, k ≤ 3 ∧ x.tdiv 6 = (k : Int) := ⟨(x / 6).toNat, by omega, by rw [Int.tdiv_eq_ediv_of_nonneg hx0]; omega⟩
  have hq : ∀ m, 7 ≤ m → m ≤ 11 → Calls Tryz.prog 20 #[.pointer (some ⟨g, 0, none⟩), .slice (some ⟨w.heap.size, 0, none⟩) m 11] w1 (CurPost (IntIn (-1) 13) (A + 2 + 2) g ca cl cc w1) := fun m h1 h2 =>
    cur_among (-1) 13 w.heap.size 0 m 11 (A + 2) g ca cl cc w1 hi1 (by omega) (by omega) (by omega) (fun j hj => hcell.out j (by omega)) (by omega)
  replace hq := Lib.hid hq
  clear hi1
  have hk3 : k = 0 ∨ k = 1 ∨ k = 2 ∨ k = 3 := by omega
  rcases hk3 with rfl | rfl | rfl | rfl
  all_goals
    go_wp2_with fail
    refine (hq.out _ (by decide) (by decide)).mono ?_
    rintro e w2 ⟨_, ⟨z, hz0, hz1, rfl⟩, rfl, hi2, hc2⟩
    have S2 := S1.out.turn hi2 hc2
    have hC := S2.chg
    clear S1 S2 hc2 hq hcell
    go_wp2_with fail
    go_ret
    exact ⟨_, ⟨z, hz0, hz1, rfl⟩, rfl, hi2, hC⟩
end Go.Proofs.YtahbepajeplcmaaGreat

/- Joined parts beside a cursor; a known Cnf, weakly, and the texts without models. -/
namespace Go.Proofs.YtahbepajeplcmaaGreat
open Go.RowKit

section
variable {w0 w w' : World} {g cl cc A A' : Nat} {ca : Option Addr} {ps qs : List Asn}
theorem CS.comp (h : CS w0 g ca cl cc A w ps) (k : CS w g ca cl cc A' w' qs) : CS w0 g ca cl cc A' w' (qs ++ ps) := by
  have hg := h.glt
  have hsz := h.chg.size
  obtain ⟨h0, h1, h2, F, h3, h4⟩ := h
  obtain ⟨k0, k1, k2, G, k3, k4⟩ := k
  have hk := sep_keep h3 fun b hm => k2.block b (sep_lt h3 b hm) fun hb => by
    obtain rfl : b = g := by simpa using hb
    have := h4 b hm; omega
  refine ⟨h0, k1, h2.trans k2, G ++ F, sep_append k3 hk (fun b hb hb2 => ?_), fun b hb => ?_⟩
  · have := k4 b hb; have := sep_lt h3 b hb2; omega
  · rcases List.mem_append.1 hb with hb | hb
    · have := k4 b hb; omega
    · exact h4 b hb
theorem CS.front (h : CS w0 g ca cl cc A w (qs ++ ps)) : CS w0 g ca cl cc A w qs := by
  obtain ⟨h0, h1, h2, F, h3, h4⟩ := h
  obtain ⟨G, h5, h6⟩ := sep_front h3
  exact ⟨h0, h1, h2, G, h5, fun b hb => h4 b (h6 b hb)⟩
theorem row_cs {v : Value} {c : List Int} (h : CurIs A g ca cl cc w) (hi : CurIs A' g ca cl cc w') (hc : Chg [g] w w') (ho : w'.ownsRow w.heap.size 3 1 v c.length (c.map (.int .i64))) :
    CS w g ca cl cc A' w' [Own 3 1 v c.length (c.map (.int .i64))] :=
  ⟨⟨A, h⟩, hi, hc, _, ⟨v.ownBlock.toList, [], by rw [List.append_nil], by simp, ⟨rfl, owns_zero ho⟩, rfl⟩, fun b hb => owns_ge ho b (by simpa using hb)⟩
end
def TextLe (n : Nat) (s : ByteArray) : Prop := s.size ≤ n
theorem text_le {n : Nat} {s : ByteArray} (h : decide (s.size ≤ n) = true) : TextLe n s := show s.size ≤ n from of_decide_eq_true h
theorem strsR_new {R : ByteArray → Prop} {W : World} {cs : Array Value} {t : TypeId} {b n : Nat} (hb : b = W.heap.size) (h : ∀ j, j < n → ∃ s, cs[j]? = some (.string s) ∧ R s) : StrsR R (W.alloc (.cells cs t)) b 0 n := fun j hj => by
  obtain ⟨s, h1, h2⟩ := h j hj
  subst hb
  refine ⟨s, h2, ?_⟩
  rw [Nat.zero_add]
  exact (cell_of_row _ _ _ _ _ _ (heap_alloc_new W _)).trans h1

/-- A small Cnf of its own. -/
def CnfV (w : World) (e : Ending) (w' : World) : Prop := ∃ (vars : Int) (B : Option Addr) (cap : Nat) (cs : List Value) (xss : List (List Int)), e = .returned (.agg #[.int .i64 vars, .slice B xss.length cap]) ∧ 0 ≤ vars ∧ vars ≤ 12 ∧ xss.length ≤ 60 ∧ SmallC xss ∧
  Sp w w' [Rows Ty.int 35 (.slice B xss.length cap) cs xss]

set_option maxHeartbeats 2000000 in
theorem l2KnownW_any (s : ByteArray) (w : World) (hs : s.size ≤ 100000) : Calls Tryz.prog 85 #[.string s] w (CnfV w) := by
  have S0 := Lib.hid ((Sp.start w).alloc_box #[.int .i64 0, .slice none 0 0] 28)
  go_enter Tryz.func85, Tryz.ntmps85
  go_wp2_with fail
  refine (parseCnfW_any s _ hs).mono ?_
  rintro e w1 ⟨vars, B, cap, cs, xss, q, rfl, hv0, hv1, hl, HC, T1⟩
  replace HC := Lib.hid HC
  have S1 := (S0.out.seq T1).alloc_box #[.int .i64 vars, .slice B xss.length cap] 28
  obtain ⟨ob, hob⟩ : ∃ ob, w1.heap.size = ob := ⟨_, rfl⟩
  rw [hob] at S1
  have l0 := S1.cell (i := 0) rfl (o := 0) rfl
  have l1 := S1.cell (i := 0) rfl (o := 1) rfl
  have r0 := S1.cell (i := 2) rfl (o := 0) rfl
  have r1 := S1.cell (i := 2) rfl (o := 1) rfl
  have f0 := S1.frozen (i := 2) rfl 0
  have f1 := S1.frozen (i := 2) rfl 1
  have SF := (S1.store (i := 2) rfl 0 (.int .i64 vars)).store (i := 2) rfl 1 (.slice B xss.length cap)
  have j0 := SF.cell (i := 2) rfl (o := 0) rfl
  have j1 := SF.cell (i := 2) rfl (o := 1) rfl
  have hR := Lib.hid (Sp.front (qs := [_]) SF.tail)
  clear SF S1 S0 T1
  go_wp2_with fail
  exact bodyPost_ret (v := .agg #[.int .i64 vars, .slice B xss.length cap]) (by simp [results, Tryz.results85, go_sem, j0, j1]) rfl ⟨vars, B, cap, cs, xss, rfl, hv0, hv1, hl, HC.out, hR.out⟩

set_option maxHeartbeats 2000000 in
theorem l2Hard_any (w : World) : Calls Tryz.prog 87 #[] w fun e w' => e = .returned (.slice (some ⟨w.heap.size, 0, none⟩) 15 15) ∧ StrsR (TextLe 100) w' w.heap.size 0 15 ∧ Below w.heap.size w w' := by
  go_enter Tryz.func87, Tryz.ntmps87
  go_wp2_with fail
  go_ret
  refine ⟨rfl, strsR_new rfl fun j hj => ?_, bal (bb _) _⟩
  match j, hj with
  | 0, _ => exact ⟨_, rfl, text_le (by decide)⟩
  | 1, _ => exact ⟨_, rfl, text_le (by decide)⟩
  | 2, _ => exact ⟨_, rfl, text_le (by decide)⟩
  | 3, _ => exact ⟨_, rfl, text_le (by decide)⟩
  | 4, _ => exact ⟨_, rfl, text_le (by decide)⟩
  | 5, _ => exact ⟨_, rfl, text_le (by decide)⟩
  | 6, _ => exact ⟨_, rfl, text_le (by decide)⟩
  | 7, _ => exact ⟨_, rfl, text_le (by decide)⟩
  | 8, _ => exact ⟨_, rfl, text_le (by decide)⟩
  | 9, _ => exact ⟨_, rfl, text_le (by decide)⟩
  | 10, _ => exact ⟨_, rfl, text_le (by decide)⟩
  | 11, _ => exact ⟨_, rfl, text_le (by decide)⟩
  | 12, _ => exact ⟨_, rfl, text_le (by decide)⟩
  | 13, _ => exact ⟨_, rfl, text_le (by decide)⟩
  | 14, _ => exact ⟨_, rfl, text_le (by decide)⟩
end Go.Proofs.YtahbepajeplcmaaGreat

/- Contract: a drawn Cnf without models. -/
namespace Go.Proofs.YtahbepajeplcmaaGreat
open Go.RowKit

/-- Rows of small clauses. -/
def SmallR (n : Nat) (xss : List (List Int)) : Prop := ∀ c ∈ xss, (∀ x ∈ c, I64 x) ∧ c.length ≤ n
theorem SmallC.r {xss : List (List Int)} (h : SmallC xss) : SmallR 13 xss := fun c hc => ⟨(h c hc).1.i64 (by decide), (h c hc).2⟩
/-- A drawn Cnf. -/
def CnfPost (A g : Nat) (ca : Option Addr) (cl cc : Nat) (w : World) (e : Ending) (w' : World) : Prop := ∃ (vars : Int) (B : Option Addr) (cap : Nat) (cs : List Value) (xss : List (List Int)), e = .returned (.agg #[.int .i64 vars, .slice B xss.length cap]) ∧ -1 ≤ vars ∧ vars ≤ 13 ∧ xss.length ≤ 62 ∧ SmallR 13 xss ∧
  CS w g ca cl cc A w' [Rows Ty.int 35 (.slice B xss.length cap) cs xss]

set_option maxRecDepth 100000 in
set_option maxHeartbeats 8000000 in
theorem cur_hard (A g : Nat) (ca : Option Addr) (cl cc : Nat) (w : World) (h : CurIs A g ca cl cc w) (hA : A ≤ 40000000) :
    Calls Tryz.prog 74 #[.pointer (some ⟨g, 0, none⟩)] w (CnfPost (A + 400) g ca cl cc w) := by
  have hg := h.lt
  have S0 := Lib.hid ((CS.start h).alloc_box #[.int .i64 0, .slice none 0 0] 28)
  obtain ⟨i0, hi0, hy0, hy1, hy2⟩ := info_parts infoInt
  obtain ⟨i1, hi, hz0, hz1, hz2⟩ := info_parts infoRow
  clear h
  go_enter Tryz.func74, Tryz.ntmps74
  go_wp2_with fail
  refine (l2Hard_any _).mono ?_
  rintro e w1 ⟨rfl, hst, hb1⟩
  have hne : w.heap.size + 1 ≠ g := by omega
  simp only [World.size_alloc] at hst
  have S1 := S0.out.grow hb1
  have hof := Lib.hid (cur_of (TextLe 100) _ 0 15 15 A g ca cl cc _ S1.cur (by omega) (by decide) (by decide) hst hne)
  replace S1 := Lib.hid S1
  clear S0 hst hb1 hne
  go_wp2_with fail
  refine hof.out.mono ?_
  rintro e w2 ⟨_, ⟨s, hs, rfl⟩, rfl, hi2, hc2⟩
  have S2 := Lib.hid (S1.out.turn hi2 hc2)
  clear S1 hof hi2 hc2
  have hs1 : s.size ≤ 100 := hs
  have hs2 : s.size ≤ 100000 := by omega
  clear hs hs1
  go_wp2_with fail
  refine (l2KnownW_any s _ hs2).mono ?_
  rintro e w3 ⟨vars, B0, cap0, cs0, xss, rfl, hv0, hv1, hl60, HC0, T3⟩
  replace HC0 := Lib.hid HC0
  have S3 := (S2.out.seq T3).alloc_box #[.int .i64 vars, .slice B0 xss.length cap0] 28
  obtain ⟨fb, hfb⟩ : ∃ fb, w3.heap.size = fb := ⟨_, rfl⟩
  rw [hfb] at S3
  have S4 := S3.own_made 3 1
  simp only [World.size_alloc] at S4
  rw [hfb] at S4
  replace S4 := Lib.hid S4
  clear S2 S3 T3 hs2
  go_wp2_with fail
  go_loopw [4, 5] (fun vt vv wr => ∃ (tl : List Int) (TB : Option Addr) (tc : Nat) (z : Int), 1 ≤ z ∧ z ≤ 13 ∧ Hid ((tl.length : Int) + 1 = z) ∧ vv = .int .i64 z ∧ vt = .slice TB tl.length tc ∧ Hid (Within 13 tl) ∧ Hid (CS w g ca cl cc (A + 4 + 2 * tl.length) wr [Own 3 1 (.slice TB tl.length tc) tl.length (tl.map (.int .i64)), Box fb 28 #[.int .i64 vars, .slice B0 xss.length cap0], Rows Ty.int 35 (.slice B0 xss.length cap0) cs0 xss, Box w.heap.size 28 #[.int .i64 0, .slice none 0 0]])) (fun _ vv _ => 20 - (intOf vv).toNat)
  case atStart => exact ⟨[], _, _, 1, by decide, by decide, rfl, rfl, rfl, (fun x hx => by simp at hx), S4.out.mono (show _ ≤ A + 4 + 2 * ([] : List Int).length from by simp)⟩
  case round =>
    obtain ⟨tl, TB, tc, z, hz0', hz13, hlz, rfl, rfl, HW, HS⟩ := hrel
    have htl : tl.length ≤ 12 := by have := hlz.out; omega
    clear S4
    have d0 := HS.out.cell (i := 1) rfl (o := 0) rfl
    by_cases hlt : z ≤ vars
    · have hcur := Lib.hid HS.out.cur
      go_wp2_with fail
      refine (cur_one 4 _ g ca cl cc _ hcur.out (by omega) (by omega)).mono ?_
      rintro e w4 ⟨_, ⟨q, rfl⟩, rfl, hi4, hc4⟩
      have S2 := Lib.hid (HS.out.turn hi4 hc4)
      have hw1 : IntKind.i64.wrap (-z) = -z := IntWalk.i64_in _ (by omega)
      have hw2 : IntKind.i64.wrap (z + 1) = z + 1 := IntWalk.i64_in _ (by omega)
      clear HS hcur hi4 hc4 d0
      cases q
      · as_aux_lemma =>
          have S3 := S2.out.alloc_box #[.int .i64 (z)] 3
          have kB := S3.cell (i := 0) rfl (o := 0) rfl
          have d0 := S3.cell (i := 2) rfl (o := 0) rfl
          replace S3 := Lib.hid S3
          clear S2
          go_wp2_with (at_builtin; refine wpList_append_src rfl _ _ rfl Tryz.underlying35 hi0 hy0 hy1 hy2 rfl (by decide) _ _ _ rfl (S3.out.own (i := 1) rfl) _ 1 1 [.int .i64 (z)] rfl (Src.one kB) (by simp [Value.oneCell']) ?c3 ?c4 ?_)
          case c3 => unfold maxLen; omega
          case c4 => omega
          intro vY wY hownY hgY hatY
          have S4 := (S3.out.own_push (i := 1) rfl (bb _) hownY hgY (by simpa using hatY)).tail
          obtain ⟨aY, cY, rfl⟩ := own_slice hownY
          have hlen : tl.length + 1 = (tl ++ [z]).length := by simp
          have S5 : Hid (CS w g ca cl cc (A + 4 + 2 * (tl.length + 1)) wY [Own 3 1 (.slice aY (tl ++ [z]).length cY) (tl ++ [z]).length ((tl ++ [z]).map (.int .i64)), Box fb 28 #[.int .i64 vars, .slice B0 xss.length cap0], Rows Ty.int 35 (.slice B0 xss.length cap0) cs0 xss, Box w.heap.size 28 #[.int .i64 0, .slice none 0 0]]) := by
            unfold Hid; rw [← hlen, List.map_append]; exact S4.mono (by omega)
          have hW2 : Hid (Within 13 (tl ++ [z])) := HW.out.snoc (by omega) (by omega)
          clear S3 S4 kB hownY hgY hatY HW
          rw [hlen]
          rw [hlen] at S5
          have hlz2 : Hid (((tl ++ [z]).length : Int) + 1 = z + 1) := by unfold Hid; have := hlz.out; rw [← hlen]; omega
          clear hlz htl
          replace hlen := Lib.hid hlen
          generalize tl ++ [z] = tl2 at *
          go_wp2_with fail
          go_roundw
          case rel => exact ⟨tl2, aY, cY, z + 1, by omega, by omega, hlz2, rfl, rfl, hW2, S5⟩
          case measure => simp [intOf]; omega
      · as_aux_lemma =>
          have S3 := S2.out.alloc_box #[.int .i64 (-z)] 3
          have kB := S3.cell (i := 0) rfl (o := 0) rfl
          have d0 := S3.cell (i := 2) rfl (o := 0) rfl
          replace S3 := Lib.hid S3
          clear S2
          go_wp2_with (at_builtin; refine wpList_append_src rfl _ _ rfl Tryz.underlying35 hi0 hy0 hy1 hy2 rfl (by decide) _ _ _ rfl (S3.out.own (i := 1) rfl) _ 1 1 [.int .i64 (-z)] rfl (Src.one kB) (by simp [Value.oneCell']) ?c3 ?c4 ?_)
          case c3 => unfold maxLen; omega
          case c4 => omega
          intro vY wY hownY hgY hatY
          have S4 := (S3.out.own_push (i := 1) rfl (bb _) hownY hgY (by simpa using hatY)).tail
          obtain ⟨aY, cY, rfl⟩ := own_slice hownY
          have hlen : tl.length + 1 = (tl ++ [-z]).length := by simp
          have S5 : Hid (CS w g ca cl cc (A + 4 + 2 * (tl.length + 1)) wY [Own 3 1 (.slice aY (tl ++ [-z]).length cY) (tl ++ [-z]).length ((tl ++ [-z]).map (.int .i64)), Box fb 28 #[.int .i64 vars, .slice B0 xss.length cap0], Rows Ty.int 35 (.slice B0 xss.length cap0) cs0 xss, Box w.heap.size 28 #[.int .i64 0, .slice none 0 0]]) := by
            unfold Hid; rw [← hlen, List.map_append]; exact S4.mono (by omega)
          have hW2 : Hid (Within 13 (tl ++ [-z])) := HW.out.snoc (by omega) (by omega)
          clear S3 S4 kB hownY hgY hatY HW
          rw [hlen]
          rw [hlen] at S5
          have hlz2 : Hid (((tl ++ [-z]).length : Int) + 1 = z + 1) := by unfold Hid; have := hlz.out; rw [← hlen]; omega
          clear hlz htl
          replace hlen := Lib.hid hlen
          generalize tl ++ [-z] = tl2 at *
          go_wp2_with fail
          go_roundw
          case rel => exact ⟨tl2, aY, cY, z + 1, by omega, by omega, hlz2, rfl, rfl, hW2, S5⟩
          case measure => simp [intOf]; omega
    · have hto := HW.out
      have hl1000 : tl.length ≤ 1000 := by omega
      obtain ⟨F, hr, -, -⟩ := HS.out.rows_done (i := 2) rfl
      obtain ⟨G, hy, -, -⟩ := own_row (HS.out.own (i := 0) rfl) (HW.out.i64 (by decide))
      have hrn := Lib.hid (renameW_any vars _ xss tl TB tc F G _ (Ty.row_down hr) (Ty.row_down hy) hto hl1000)
      have d1 := HS.out.cell (i := 1) rfl (o := 1) rfl
      clear hr hy hto
      go_wp2_with fail
      refine hrn.out.mono ?_
      rintro e w4 ⟨va, B, cap, cs, ys, q, rfl, hva0, hva1, hyl, HC, T4⟩
      replace HC := Lib.hid HC.r
      have S5 := HS.out.seq T4
      have r0 := S5.cell (i := 2) rfl (o := 0) rfl
      have r1 := S5.cell (i := 2) rfl (o := 1) rfl
      have f0 := S5.frozen (i := 2) rfl 0
      have f1 := S5.frozen (i := 2) rfl 1
      have S6 := (S5.store (i := 2) rfl 0 (.int .i64 va)).store (i := 2) rfl 1 (.slice B ys.length cap)
      have S7 := S6.swap.tail
      have hcur := Lib.hid S7.cur
      replace S7 := Lib.hid S7
      clear HS S5 S6 T4 d0 d1 hrn HW hlz hl1000 HC0
      go_wp2_with fail
      clear r0 r1 f0 f1
      refine (cur_pick_at (lo := 0) (hi := 2) hcur.out (by omega) (by omega) (by omega) (by omega) (by omega)).mono ?_
      rintro e w5 ⟨_, ⟨x, hx0, hx1, rfl⟩, rfl, hi5, hc5⟩
      obtain ⟨m0, rfl⟩ := Int.eq_ofNat_of_zero_le hx0
      have hm2 : m0 ≤ 2 := by omega
      have S8 := Lib.hid ((S7.out.turn hi5 hc5).mono (show _ ≤ A + 100 + 100 * (2 - m0) by omega))
      clear S7 hcur hi5 hc5 hx0 hx1
      go_wp2_with fail
      go_loopw [6] (fun vv wr => ∃ (m : Nat) (B : Option Addr) (cap : Nat) (cs : List Value) (ys : List (List Int)), m ≤ 2 ∧ vv = .int .i64 m ∧ ys.length + m ≤ 62 ∧ Hid (SmallR 13 ys) ∧ Hid (CS w g ca cl cc (A + 100 + 100 * (2 - m)) wr [Rows Ty.int 35 (.slice B ys.length cap) cs ys, Box fb 28 #[.int .i64 va, .slice B ys.length cap], Rows Ty.int 35 (.slice B0 xss.length cap0) cs0 xss, Box w.heap.size 28 #[.int .i64 0, .slice none 0 0]])) (fun vv _ => (intOf vv).toNat)
      case atStart => exact ⟨m0, B, cap, cs, ys, hm2, rfl, by omega, HC, S8⟩
      case round =>
        clear S8 HC
        obtain ⟨m, B, cap, cs, ys, hm2, rfl, hyl, HC, HS⟩ := hrel
        have d0 := HS.out.cell (i := 1) rfl (o := 0) rfl
        go_upto_region 11 with fail
        go_cut [43] (fun s wx => ∃ b : Bool, s = .bool b ∧ Hid (b = true → 0 < m) ∧ wx = wr)
        case first =>
          by_cases hm : 0 < m
          · have e0 : decide ((0 : Int) < (m : Int)) = true := decide_eq_true (by omega)
            obtain ⟨q, hq⟩ : ∃ q, decide ((0 : Int) < va) = q := ⟨_, rfl⟩
            go_wp2_with fail
            all_goals
              go_meet
              exact ⟨_, rfl, fun _ => hm, rfl⟩
          · have e0 : decide ((0 : Int) < (m : Int)) = false := decide_eq_false (by omega)
            go_wp2_with fail
            go_meet
            exact ⟨false, rfl, (fun h => by cases h), rfl⟩
        case rest =>
        obtain ⟨b, rfl, hb, hww⟩ := hcut
        subst hww
        cases b
        · have l1 := HS.out.cell (i := 1) rfl (o := 1) rfl
          have r0 := HS.out.cell (i := 3) rfl (o := 0) rfl
          have r1 := HS.out.cell (i := 3) rfl (o := 1) rfl
          have f0 := HS.out.frozen (i := 3) rfl 0
          have f1 := HS.out.frozen (i := 3) rfl 1
          have SF := (HS.out.store (i := 3) rfl 0 (.int .i64 va)).store (i := 3) rfl 1 (.slice B ys.length cap)
          have j0 := SF.cell (i := 3) rfl (o := 0) rfl
          have j1 := SF.cell (i := 3) rfl (o := 1) rfl
          have hR := Lib.hid ((CS.front (qs := [_]) SF).mono (show _ ≤ A + 400 by omega))
          clear SF HS
          go_wp2_with fail
          exact bodyPost_ret (v := .agg #[.int .i64 va, .slice B ys.length cap]) (by simp [results, Tryz.results74, go_sem, j0, j1]) rfl ⟨va, B, cap, cs, ys, rfl, by omega, by omega, by omega, HC.out, hR.out⟩
        · have hm := hb.out rfl
          have hmw : IntKind.i64.wrap ((m : Int) - 1) = ((m - 1 : Nat) : Int) := by rw [IntWalk.i64_in _ (by omega)]; omega
          clear hb d0
          have l0 := HS.out.cell (i := 1) rfl (o := 0) rfl
          have l1 := HS.out.cell (i := 1) rfl (o := 1) rfl
          go_wp2_with fail
          refine wp_region_tail_lit (S := (fun w' => w'.cell? ⟨fb, 0, none⟩ = some (.int .i64 va) ∧ w'.cell? ⟨fb, 1, none⟩ = some (.slice B ys.length cap))) 7 [false, false, false, false, false, false, false, false, false, false] (by kernel_rfl) (by kernel_rfl) (by kernel_rfl) ?_ ?_
          · exact ⟨l0, l1⟩
          intro hSc
          (refine walkT_take (i := 0) (v := ?_) rfl (by kernel_rfl) (by decide) (by kernel_rfl) (by kernel_rfl) (fun _ _ _ h => h) (Or.inl ⟨by rfl, ?_⟩) (by assumption) ?_; rotate_left; (focus (intro w hSw; (try dsimp only at hSw); go_simp; (try with_reducible rfl); done)); (try simp only [put_rules]))
          (refine walkT_take (i := 1) (v := ?_) rfl (by kernel_rfl) (by decide) (by kernel_rfl) (by kernel_rfl) (fun _ _ _ h => h) (Or.inl ⟨by rfl, ?_⟩) (by assumption) ?_; rotate_left; (focus (intro w hSw; (try dsimp only at hSw); go_simp; (try with_reducible rfl); done)); (try simp only [put_rules]))
          (refine walkT_take (i := 2) (v := ?_) rfl (by kernel_rfl) (by decide) (by kernel_rfl) (by kernel_rfl) (fun _ _ _ h => h) (Or.inl ⟨by rfl, ?_⟩) (by assumption) ?_; rotate_left; (focus (intro w hSw; (try dsimp only at hSw); go_simp; (try with_reducible rfl); done)); (try simp only [put_rules]))
          (refine walkT_take (i := 3) (v := ?_) rfl (by kernel_rfl) (by decide) (by kernel_rfl) (by kernel_rfl) (fun _ _ _ h => h) (Or.inl ⟨by rfl, ?_⟩) (by assumption) ?_; rotate_left; (focus (intro w hSw; (try dsimp only at hSw); go_simp; (try with_reducible rfl); done)); (try simp only [put_rules]))
          (refine walkT_take (i := 4) (v := ?_) rfl (by kernel_rfl) (by decide) (by kernel_rfl) (by kernel_rfl) (fun _ _ _ h => h) (Or.inl ⟨by rfl, ?_⟩) (by assumption) ?_; rotate_left; (focus (intro w hSw; (try dsimp only at hSw); go_simp; (try with_reducible rfl); done)); (try simp only [put_rules]))
          (refine walkT_ready (rs := [5]) (by kernel_rfl) (by simp) (by decide) ?_; refine AllT.cons rfl (fun K hK => ?_) AllT.nil)
          go_simp
          go_at_call 75
          have S3 := HS.out.drew
          have hcall := Lib.hid (cur_clause va (by omega) _ g ca cl cc _ S3.cur (by omega))
          refine hcall.out.mono ?_
          rintro e w3 ⟨v, c, rfl, ho, hl, hW, hi3, hc3⟩
          have S4 := S3.comp (row_cs S3.cur hi3 hc3 ho)
          obtain ⟨B2, cap2, rfl⟩ := own_slice ho
          have S5 := Lib.hid (CS.own_to_row (ps := _) S4 (hW.i64 (by decide)))
          clear hcall S3 S4 HS l0 l1 hi3 hc3 ho
          go_wp2_with fail
          refine hK.out _ _ ⟨S5.out.cell (i := 2) rfl (o := 0) rfl, S5.out.cell (i := 2) rfl (o := 1) rfl⟩ (fun hS2 => ?_)
          clear hK hSc
          (try simp only [put_rules])
          (refine walkT_ready (rs := [6]) (by kernel_rfl) (by simp) (by decide) ?_; refine AllT.cons rfl (fun K hK => ?_) AllT.nil)
          go_simp
          have hrows := Lib.hid ((S5.out.rows (i := 1) rfl).alloc (.cells #[.slice B2 c.length cap2] 35))
          have kB : (w3.alloc (.cells #[.slice B2 c.length cap2] 35)).cell? ⟨w3.heap.size, 0, none⟩ = some (.slice B2 c.length cap2) := cell_of_row _ _ _ _ _ _ (heap_alloc_new w3 _)
          have S6 := Lib.hid (S5.out.alloc (.cells #[.slice B2 c.length cap2] 35))
          refine hK.out _ _ ⟨S6.out.cell (i := 2) rfl (o := 0) rfl, S6.out.cell (i := 2) rfl (o := 1) rfl⟩ (fun hS3 => ?_)
          clear hK hS2
          (try simp only [put_rules])
          (refine walkT_done (by kernel_rfl) ?_)
          simp only [List.drop_succ_cons, List.drop_zero]
          (refine wpList_append_src rfl _ _ rfl Tryz.underlying26 hi hz0 hz1 hz2 rfl (by decide) _ ys.length _ rfl hrows.out _ 1 1 [.slice B2 c.length cap2] rfl (Src.one kB) (by simp [Value.oneCell']) (by unfold maxLen; omega) (by omega) ?_; intro vY wY hownY hgY hatY)
          have S7 := S5.out.rows_push (bal (bb _) _) hownY hgY hatY
          obtain ⟨aY, cY, rfl⟩ := own_slice hownY
          have b1 := S7.cell (i := 1) rfl (o := 1) rfl
          have q1 := S7.frozen (i := 1) rfl 1
          have hlen : ys.length + 1 = (ys ++ [c]).length := by simp
          have S8 : Hid (CS w g ca cl cc (A + 100 + 100 * (2 - (m - 1))) (wY.setCell ⟨fb, 1, none⟩ (.slice aY (ys.length + 1) cY)) [Rows Ty.int 35 (.slice aY (ys ++ [c]).length cY) (cs ++ [.slice B2 c.length cap2]) (ys ++ [c]), Box fb 28 #[.int .i64 va, .slice aY (ys ++ [c]).length cY], Rows Ty.int 35 (.slice B0 xss.length cap0) cs0 xss, Box w.heap.size 28 #[.int .i64 0, .slice none 0 0]]) := by
            unfold Hid; rw [← hlen]
            have := (S7.store (i := 1) rfl 1 (.slice aY (ys.length + 1) cY)).mono (show _ ≤ A + 100 + 100 * (2 - (m - 1)) by omega)
            rw [hlen] at this ⊢
            exact this
          have HC2 : Hid (SmallR 13 (ys ++ [c])) := fun y hy => by
            rcases List.mem_append.1 hy with hy | hy
            · exact HC.out y hy
            · obtain rfl : y = c := by simpa using hy
              exact ⟨hW.i64 (by decide), by omega⟩
          clear S5 S6 S7 hrows hownY hgY hatY kB hW HC
          replace hlen := Lib.hid hlen
          have hyl2 : (ys ++ [c]).length + (m - 1) ≤ 62 := by rw [← hlen.out]; omega
          go_wp2_with fail
          go_roundw
          case rel => exact ⟨m - 1, aY, cY, cs ++ [.slice B2 c.length cap2], ys ++ [c], by omega, rfl, hyl2, HC2, S8⟩
          case measure => simp [intOf]; omega
end Go.Proofs.YtahbepajeplcmaaGreat

/- Rows of rows that grow by several rows; rows of one number. -/
namespace Go.Proofs.YtahbepajeplcmaaGreat
open Go.RowKit

/-- Rows that wait to be appended. -/
def Pend {α : Type} (T : Ty α) (us : List Value) (yss : List (List α)) : Asn where
  p w F := F.Nodup ∧ (Ty.slice T).all true w us yss F
  lt h := Ty.all_lt h.2
  keep h hk := ⟨h.1, Ty.all_keep h.2 hk⟩
section
variable {w0 w w' w1 : World} {g cl cc A : Nat} {ca : Option Addr} {ps : List Asn} {e : TypeId} {α : Type} {T : Ty α} {v v' u1 u2 : Value} {cs us : List Value} {xss yss : List (List α)} {ys1 ys2 : List α}
theorem CS.pend (h : CS w0 g ca cl cc A w (Row T u1 ys1 :: Row T u2 ys2 :: ps)) : CS w0 g ca cl cc A w (Pend T [u1, u2] [ys1, ys2] :: ps) := by
  obtain ⟨h0, h1, h2, F, ⟨F1, F2, rfl, hd, ⟨hr, hn⟩, ⟨F3, F4, rfl, hd', ⟨hr', hn'⟩, h5⟩⟩, h3⟩ := h
  refine ⟨h0, h1, h2, (F1 ++ F3) ++ F4, ⟨F1 ++ F3, F4, rfl, ?_, ⟨?_, Ty.all_append (cs := [u1]) (xs := [ys1]) (Ty.all_one ⟨u1, rfl, hr⟩) (Ty.all_one ⟨u2, rfl, hr'⟩)⟩, h5⟩, ?_⟩
  · intro b hm hm4
    rcases List.mem_append.1 hm with hm | hm
    · exact hd b hm (List.mem_append.2 (.inr hm4))
    · exact hd' b hm hm4
  · exact List.nodup_append.2 ⟨hn, hn', fun x hx y hy e => hd x hx (List.mem_append.2 (.inl (e ▸ hy)))⟩
  · intro b hm
    exact h3 b (by simpa [List.append_assoc] using hm)
theorem CS.rows_append (h : CS w0 g ca cl cc A w (Pend T us yss :: Rows T e v cs xss :: ps)) (hb : Below w.heap.size w w1) (ho : w'.ownsRow 0 e 1 v' (xss.length + yss.length) (cs ++ us)) (hg : w1.grownBy w' v.ownBlock)
    (hat : v'.ownBlock = v.ownBlock ∨ v'.ownBlock = some w1.heap.size) : CS w0 g ca cl cc A w' (Rows T e v' (cs ++ us) (xss ++ yss) :: ps) := by
  have hsz := h.chg.size
  obtain ⟨⟨A0, h0'⟩, hcur, h1, F, ⟨F1, F2, rfl, hd, ⟨hn, hr⟩, ⟨F3, F4, rfl, hd', ⟨G, rfl, hn', hall, hown⟩, h5⟩⟩, h3⟩ := h
  have hr1 := Ty.all_keep hr fun b hm => hb.block b (Ty.all_lt hr b hm)
  have hall1 := Ty.all_keep hall fun b hm => hb.block b (Ty.all_lt hall b hm)
  have h51 := sep_keep h5 fun b hm => hb.block b (sep_lt h5 b hm)
  have hkeep : ∀ b, b < w.heap.size → (∀ g, v.ownBlock = some g → b ≠ g) → w'.heap[b]? = w1.heap[b]? := fun b hlt hne => hg.block b (Nat.lt_of_lt_of_le hlt hb.size) (fun e => hne b e.symm rfl)
  have hr2 := Ty.all_keep hr1 fun b hm => hkeep b (Ty.all_lt hr b hm) fun g hg' e => hd b hm (by simp [hg', e])
  have hnG : ∀ b ∈ G, ∀ g, v.ownBlock = some g → b ≠ g := fun b hm g hg' e => by
    rw [List.nodup_append] at hn'
    exact hn'.2.2 g (by simp [hg']) b hm e.symm
  have hall2 := Ty.all_keep hall1 fun b hm => hkeep b (Ty.all_lt hall b hm) (hnG b hm)
  have h52 := sep_keep h51 fun b hm => hkeep b (sep_lt h5 b hm) fun g hg' e => hd' b (by simp [hg', e]) hm
  have hlv : ∀ b ∈ v'.ownBlock.toList, b ∈ v.ownBlock.toList ∨ b = w1.heap.size := fun b hm => by
    rcases hat with h | h
    · left; rwa [h] at hm
    · right; rw [h] at hm; simpa using hm
  have hs := hb.size
  have hold : ∀ k, k < w0.heap.size → w'.heap[k]? = w.heap[k]? := fun k hk => (hkeep k (by omega) fun g hg' e => by have := h3 g (by simp [hg']); omega).trans (hb.block k (by omega))
  have hchg : Chg [g] w0 w' := ⟨hg.os.trans (hb.os.trans h1.os), hg.tape.trans (hb.tape.trans h1.tape), hg.output.trans (hb.output.trans h1.output), by have := hg.size; omega, fun k hk hn => (hold k hk).trans (h1.block k hk hn)⟩
  refine ⟨⟨A0, h0'⟩, h0'.stay hcur hold, hchg, (v'.ownBlock.toList ++ (G ++ F1)) ++ F4, ⟨_, F4, rfl, ?_, ⟨G ++ F1, rfl, ?_, ?_, by simpa using ho⟩, h52⟩, ?_⟩
  · intro b hm hm4
    rcases List.mem_append.1 hm with hm | hm
    · rcases hlv b hm with h | h
      · exact hd' b (List.mem_append.2 (.inl h)) hm4
      · have := sep_lt h5 b hm4; omega
    · rcases List.mem_append.1 hm with hm | hm
      · exact hd' b (List.mem_append.2 (.inr hm)) hm4
      · exact hd b hm (List.mem_append.2 (.inr hm4))
  · refine List.nodup_append.2 ⟨by cases v'.ownBlock <;> simp, List.nodup_append.2 ⟨(List.nodup_append.1 hn').2.1, hn, fun x hx y hy e => hd y hy (by simp [← e, hx])⟩, fun x hx y hy e => ?_⟩
    subst e
    rcases hlv x hx with h | h
    · rcases List.mem_append.1 hy with hy | hy
      · exact (List.nodup_append.1 hn').2.2 x h x hy rfl
      · exact hd x hy (List.mem_append.2 (.inl (List.mem_append.2 (.inl h))))
    · rcases List.mem_append.1 hy with hy | hy
      · have := Ty.all_lt hall x hy; omega
      · have := Ty.all_lt hr x hy; omega
  · exact Ty.all_append hall2 hr2
  · intro b hm
    rcases List.mem_append.1 hm with hm | hm
    · rcases List.mem_append.1 hm with hm | hm
      · rcases hlv b hm with h | h
        · exact h3 b (by simp at h ⊢; simp [h])
        · omega
      · rcases List.mem_append.1 hm with hm | hm
        · exact h3 b (by simp [hm])
        · exact h3 b (by simp [hm])
    · exact h3 b (by simp [hm])
theorem CS.own_one (h : CS w0 g ca cl cc A w ps) (x : Value) (e : TypeId) : CS w0 g ca cl cc A (w.alloc (.cells #[x] e)) (Own e 1 (.slice (some ⟨w.heap.size, 0, none⟩) 1 1) 1 [x] :: ps) :=
  h.own_new (bal (bb _) _) ⟨by simp, .inr ⟨w.heap.size, 1, #[x], rfl, Nat.zero_le _, heap_alloc_new w _, Nat.le_refl _, by decide, by simp, by simp⟩⟩ (fun g hg => by
    have : w.heap.size = g := by simpa [Value.ownBlock] using hg
    omega)
end
theorem Src.two {w : World} {b : Nat} {x y : Value} (h : w.cell? ⟨b, 0, none⟩ = some x) (h2 : w.cell? ⟨b, 1, none⟩ = some y) : Src w (some ⟨b, 0, none⟩) 2 1 [x, y] := .inr ⟨_, rfl, rfl, fun j u hj => by
    match j, hj with
    | 0, hj => simp at hj; subst hj; rw [add_none]; exact h
    | 1, hj => simp at hj; subst hj; rw [add_none]; exact h2⟩
set_option maxHeartbeats 400000 in
theorem bs_five (a : Act) (w : World) (K : Act → World → Prop) (Q : Exit → Act → World → Prop) (p : String) (h : K (a.put (some 34) (.slice (some ⟨w.heap.size, 0, none⟩) 5 5)) (w.alloc (.cells #[.int .i64 (-1), .int .i64 13, .int .i64 12, .int .i64 0, .int .i64 1] 3))) :
    Oper.wp Tryz.prog {dst := some 34, op := Op.buildSlice 35 5 #[(0, .const (.int .i64 (-1))), (1, .const (.int .i64 13)), (2, .const (.int .i64 12)), (3, .const (.int .i64 0)), (4, .const (.int .i64 1))], type := 35, pos := p, after := #[], guard := none} a w K Q := by
  go_simp
  exact h
/-- The length of the row that lies in a block's second cell. -/
def lenAt1 (w : World) (b : Nat) : Nat := match w.cell? ⟨b, 1, none⟩ with | some (.slice _ n _) => n | _ => 0
theorem lenAt1_of {w : World} {b n c : Nat} {B : Option Addr} (h : w.cell? ⟨b, 1, none⟩ = some (.slice B n c)) : lenAt1 w b = n := by simp [lenAt1, h]
end Go.Proofs.YtahbepajeplcmaaGreat
