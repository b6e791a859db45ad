/- Contracts: a round of the closure, in the reference. Printed by gen_round.py. -/
import Derived.Test.YtebpknekaljgnaaNwI
import Derived.Test.YtebpknekaljgnaaHTailB
import Derived.Deep.DeepCutAuto
namespace Go.Proofs.Ytebpknekaljgnaa
open Go.RowKit

/-- What a round gives. -/
def RoundPost (w0 : World) (ps : List Asn) (F0 : List (List Int)) (width : Int) (r : Nat) (kl : List (Value × List Int)) (e : Ending) (w' : World) : Prop :=
  ∃ lv rv av bv pv sv kl' ks' K0' R A B C fresh, e = .returned (.tuple #[.agg #[lv, rv, av, bv, pv, sv], .bool fresh]) ∧
    Sp w0 w' (Cls lv kl' :: Ints rv R :: Ints av A :: Ints bv B :: Ints pv C :: Cls sv ks' :: Pool K0' :: ps) ∧ WS F0 width (r + 1) kl' ks' K0' R A B C ∧
    FreshOk F0 width r kl.length kl'.length fresh
theorem Sp.set_row {w0 w : World} {ps : List Asn} {i b : Nat} {t : TypeId} {cs : Array Value} (h : Sp w0 w ps) (hi : ps[i]? = some (Box b t cs)) (cs' : Array Value) : Sp w0 (w.setRow b cs') (ps.set i (Box b t cs')) := by
  obtain ⟨F, ⟨rfl, hh⟩, hF, hall⟩ := h.upd hi
  refine hall _ _ [b] ⟨rfl, rfl, rfl, by simp [World.setRow], fun k hk hn => ?_⟩ ⟨rfl, setRow_heap w b cs cs' t (0, 0) hh⟩ (fun b hb => .inl hb)
  have hne : ¬ b = k := fun e => hn (by simp [e])
  simp [World.setRow, Array.getElem?_modify, hne]
theorem work_zero (w : World) : (zeroValue 50).run Try.prog w = .ok (.agg #[.slice none 0 0, .slice none 0 0, .slice none 0 0, .slice none 0 0, .slice none 0 0, .slice none 0 0]) w := by kernel_rfl

set_option maxRecDepth 100000 in
set_option maxHeartbeats 16000000 in
theorem l10Round_any (w0 : World) (ps : List Asn) (n width rd : Int) (r : Nat) (F0 : List (List Int)) (lv rv av bv pv sv : Value) (kl ks K0 : List (Value × List Int)) (R A B C : List Int) (w : World)
    (h : Sp w0 w (Cls lv kl :: Ints rv R :: Ints av A :: Ints bv B :: Ints pv C :: Cls sv ks :: Pool K0 :: ps)) (hF : GoodF n F0) (_ : 0 ≤ width) (_ : width ≤ 6) (hS : WS F0 width r kl ks K0 R A B C) (hrd : rd = (r : Int) + 1) (hr : r ≤ 5000) :
    Calls Try.prog 54 #[.int .i64 n, .agg #[lv, rv, av, bv, pv, sv], .int .i64 width, .int .i64 rd] w (RoundPost w0 ps F0 width r kl) := by
  obtain ⟨iI, hi, hz0, hz1, hz2⟩ := info_parts infoInt
  have hlk := hS.few hF
  have hlR := Lib.hid hS.len
  obtain ⟨la, lc, rfl, hlc, -⟩ := own_src (h.own (i := 0) rfl)
  obtain ⟨ra, rc, rfl, hrc, -⟩ := own_src (h.own (i := 1) rfl)
  obtain ⟨aa, ac, rfl, hac, -⟩ := own_src (h.own (i := 2) rfl)
  obtain ⟨ba, bc, rfl, hbc, -⟩ := own_src (h.own (i := 3) rfl)
  obtain ⟨pa, pc, rfl, hpc, -⟩ := own_src (h.own (i := 4) rfl)
  obtain ⟨sa, sc, rfl, hsc, -⟩ := own_src (h.own (i := 5) rfl)
  have hgl := Lib.hid (hS.gl hF)
  have hgs := Lib.hid (hS.gs hF)
  have hri := Lib.hid (hS.ri (by omega))
  have hn0 := hF.1
  have hn6 := hF.2.1
  have hrd0 : 1 ≤ rd := by omega
  have hrd1 : rd ≤ 5001 := by omega
  have hrw : IntKind.i64.wrap (rd - 1) = (r : Int) := by rw [IntWalk.i64_in _ (by omega)]; omega
  replace hrd := Lib.hid hrd
  have S0 := ((h.alloc_box #[.slice la kl.length lc, .slice ra R.length rc, .slice aa A.length ac, .slice ba B.length bc, .slice pa C.length pc, .slice sa ks.length sc] 50).alloc_box #[.slice none 0 0, .slice none 0 0, .slice none 0 0, .slice none 0 0, .slice none 0 0, .slice none 0 0] 50)
  simp only [World.size_alloc] at S0
  replace S0 := Lib.hid S0
  replace hF := Lib.hid hF
  replace hS := Lib.hid hS
  clear h
  go_enter Try.func54, Try.ntmps54
  go_wp2_with fail
  obtain ⟨FL, hrow⟩ := S0.out.cls_row (i := 2) (j := 8) rfl rfl hS.out.ml
  refine (l10Order_any _ _ _ _ _ _ _ _ _ _ _ _ _ _ _ _ (kl.map Prod.snd) FL _ hrow (fun c hc => (hgl.out c hc).1.mild) (by rw [List.length_map]; omega)).mono ?_
  rintro e w1 ⟨ov, ord, rfl, hord, ho1, hb1⟩
  obtain ⟨oa, oc, rfl, hoc, -⟩ := own_src ho1
  have hol : ord.length ≤ 4096 := by have := hord.len; rw [List.length_map] at this; omega
  have S1 := (((((S0.out.own_call hb1 ho1).own_nil 25 1).own_nil 3 1).own_nil 3 1).own_nil 3 1).alloc_box #[.slice none 0 0, .slice none 0 0, .slice none 0 0, .slice none 0 0, .slice none 0 0, .slice none 0 0] 50
  have HR0 : RS w0 w1.heap.size (w.heap.size + 1) w.heap.size (.slice oa ord.length oc) (.slice la kl.length lc) (.slice ra R.length rc) (.slice aa A.length ac) (.slice ba B.length bc) (.slice pa C.length pc) (.slice sa ks.length sc) ord kl ks K0 R A B C ps width (candA (kl.map Prod.snd) R ord r 0) (w1.alloc (.cells #[.slice none 0 0, .slice none 0 0, .slice none 0 0, .slice none 0 0, .slice none 0 0, .slice none 0 0] 50)) :=
    ⟨.slice none 0 0, .slice none 0 0, .slice none 0 0, .slice none 0 0, [], [], [], [], K0, S1, rfl, rfl, rfl, by simp, by simp, by simp, (Found.none _ _).congr (fun _ => candA_zero), fun _ h => h, by simp⟩
  replace HR0 := Lib.hid HR0
  replace hord := Lib.hid hord
  clear S0 S1 ho1 hrow hb1
  go_wp2_with fail
  go_loopw [12] (fun i wr => ∃ a : Nat, a ≤ ord.length ∧ i = .int .i64 a ∧ Hid (RS w0 w1.heap.size (w.heap.size + 1) w.heap.size (.slice oa ord.length oc) (.slice la kl.length lc) (.slice ra R.length rc) (.slice aa A.length ac) (.slice ba B.length bc) (.slice pa C.length pc) (.slice sa ks.length sc) ord kl ks K0 R A B C ps width (candA (kl.map Prod.snd) R ord r a) wr)) (fun i _ => ord.length - (intOf i).toNat)
  case atStart => exact ⟨0, Nat.zero_le _, rfl, HR0⟩
  case round =>
    obtain ⟨a, ha, rfl, HA⟩ := hrel
    clear HR0
    by_cases hlta : a < ord.length
    · skip
      as_aux_lemma =>
        have hkp : 0 < kl.length := by have := hord.out.len; rw [List.length_map] at this; omega
        obtain ⟨og, rfl⟩ : ∃ g, oa = some ⟨g, 0, none⟩ := by
          obtain ⟨_, _, _, _, _, _, _, _, _, HS, -⟩ := HA.out
          exact own_ptr (HS.own (i := 5) rfl) (by omega)
        obtain ⟨lg, rfl⟩ : ∃ g, la = some ⟨g, 0, none⟩ := by
          obtain ⟨_, _, _, _, _, _, _, _, _, HS, -⟩ := HA.out
          exact own_ptr (HS.own (i := 8) rfl) (by omega)
        obtain ⟨rg, rfl⟩ : ∃ g, ra = some ⟨g, 0, none⟩ := by
          obtain ⟨_, _, _, _, _, _, _, _, _, HS, -⟩ := HA.out
          exact own_ptr (HS.own (i := 9) rfl) (by have := hlR.out; omega)
        go_wp2_with fail
        go_loopw [13] (fun i wr => ∃ b : Nat, b ≤ ord.length ∧ i = .int .i64 b ∧ Hid (RS w0 w1.heap.size (w.heap.size + 1) w.heap.size (.slice (some ⟨og, 0, none⟩) ord.length oc) (.slice (some ⟨lg, 0, none⟩) kl.length lc) (.slice (some ⟨rg, 0, none⟩) R.length rc) (.slice aa A.length ac) (.slice ba B.length bc) (.slice pa C.length pc) (.slice sa ks.length sc) ord kl ks K0 R A B C ps width (candB (kl.map Prod.snd) R ord r a b) wr)) (fun i _ => ord.length - (intOf i).toNat)
        case atStart => exact ⟨0, Nat.zero_le _, rfl, HA.out.congr (fun _ => candB_zero)⟩
        case round =>
          obtain ⟨b, hb, rfl, HB⟩ := hrel
          clear HA
          by_cases hltb : b < ord.length
          · obtain ⟨i, hik, hie⟩ := hord.out.get hlta
            obtain ⟨j, hjk, hje⟩ := hord.out.get hltb
            have hoa := Lib.hid (show ord[a]? = some (i : Int) by rw [List.getElem?_eq_getElem hlta, hie])
            have hob := Lib.hid (show ord[b]? = some (j : Int) by rw [List.getElem?_eq_getElem hltb, hje])
            have hiL := hik
            have hjL := hjk
            rw [List.length_map] at hik hjk
            have hiR : i < R.length := by have := hlR.out; omega
            have hjR : j < R.length := by have := hlR.out; omega
            have gi := Lib.hid (show R.getD i 0 = R[i] by rw [List.getD_eq_getElem?_getD, List.getElem?_eq_getElem hiR]; rfl)
            have gj := Lib.hid (show R.getD j 0 = R[j] by rw [List.getD_eq_getElem?_getD, List.getElem?_eq_getElem hjR]; rfl)
            clear hie hje
            go_wp2_with fail
            go_upto_region 8 with fail
            go_cut [57] (fun s wx => ∃ q : Bool, s = .bool q ∧ Hid (q = (decide (R[i] < (r : Int)) && decide (R[j] < (r : Int)))) ∧ Hid (RS w0 w1.heap.size (w.heap.size + 1) w.heap.size (.slice (some ⟨og, 0, none⟩) ord.length oc) (.slice (some ⟨lg, 0, none⟩) kl.length lc) (.slice (some ⟨rg, 0, none⟩) R.length rc) (.slice aa A.length ac) (.slice ba B.length bc) (.slice pa C.length pc) (.slice sa ks.length sc) ord kl ks K0 R A B C ps width (candB (kl.map Prod.snd) R ord r a b) wx))
            case first =>
              as_aux_lemma =>
                obtain ⟨vx, vy, vz, vf, X, Y, Z, fks, K2, HS, -⟩ := HB.out
                have k1 := HS.cell (i := 7) rfl (o := 1) rfl
                have d0 := cell_regrown k1
                have d1 := cell_regrown (own_cell (j := a) (u := .int .i64 i) (HS.own (i := 5) rfl) (by rw [List.getElem?_map, hoa.out]; rfl))
                have d2 := cell_regrown (own_cell (j := b) (u := .int .i64 j) (HS.own (i := 5) rfl) (by rw [List.getElem?_map, hob.out]; rfl))
                have d3 := cell_regrown (own_cell (j := i) (u := .int .i64 R[i]) (HS.own (i := 9) rfl) (by rw [List.getElem?_map, List.getElem?_eq_getElem hiR]; rfl))
                have d4 := cell_regrown (own_cell (j := j) (u := .int .i64 R[j]) (HS.own (i := 9) rfl) (by rw [List.getElem?_map, List.getElem?_eq_getElem hjR]; rfl))
                have hiI : (i : Int) < (R.length : Int) := by omega
                have hjI : (j : Int) < (R.length : Int) := by omega
                clear HS k1 gi gj hoa hob
                cases q1 : decide (R[i] < (r : Int))
                · go_wp2_with fail
                  refine wp_region_quiet_below (by kernel_rfl) (by kernel_rfl) ?_
                  repeat (any_goals (go_big_quiet_step (fail)))
                  refine wpQuiet_nil ?_
                  rintro w2 ⟨p, rfl⟩
                  have HB2 := Lib.hid (HB.out.grow (below_regrown _ p.d p.os))
                  clear HB d0 d1 d2 d3 d4
                  go_wp2_with fail
                  go_meet
                  exact ⟨_, rfl, by unfold Hid; rw [q1]; rfl, HB2⟩
                · cases q2 : decide (R[j] < (r : Int))
                  all_goals
                    go_wp2_with fail
                    refine wp_region_quiet_below (by kernel_rfl) (by kernel_rfl) ?_
                    repeat (any_goals (go_big_quiet_step (fail)))
                    refine wpQuiet_nil ?_
                    rintro w2 ⟨p, rfl⟩
                    have HB2 := Lib.hid (HB.out.grow (below_regrown _ p.d p.os))
                    clear HB d0 d1 d2 d3 d4
                    go_wp2_with fail
                    go_meet
                    exact ⟨_, rfl, by unfold Hid; rw [q1, q2]; rfl, HB2⟩
            case rest =>
              obtain ⟨q, rfl, hq, HB⟩ := hcut
              cases q
              · have hnot : Hid (¬ (R.getD i 0 < (r : Int) ∧ R.getD j 0 < (r : Int))) := by
                  unfold Hid
                  rw [gi.out, gj.out]
                  have := hq.out
                  rintro ⟨h1, h2⟩
                  rw [decide_eq_true h1, decide_eq_true h2] at this
                  cases this
                clear hq gi gj
                go_wp2_with fail
                go_loopw [14] (fun v wr => ∃ x : Nat, 1 ≤ x ∧ (x : Int) ≤ n + 1 ∧ v = .int .i64 x ∧ Hid (RS w0 w1.heap.size (w.heap.size + 1) w.heap.size (.slice (some ⟨og, 0, none⟩) ord.length oc) (.slice (some ⟨lg, 0, none⟩) kl.length lc) (.slice (some ⟨rg, 0, none⟩) R.length rc) (.slice aa A.length ac) (.slice ba B.length bc) (.slice pa C.length pc) (.slice sa ks.length sc) ord kl ks K0 R A B C ps width (candV (kl.map Prod.snd) R ord r a b x) wr)) (fun v _ => (n + 1 - intOf v).toNat)
                case atStart => exact ⟨1, by omega, by omega, rfl, HB.out.congr (fun _ => candV_one)⟩
                case round =>
                  obtain ⟨x, hx1, hx2, rfl, HV⟩ := hrel
                  clear HB
                  by_cases hltx : (x : Int) ≤ n
                  · obtain ⟨vx, vy, vz, vf, X, Y, Z, fks, K2, HS, hX, hY, hZ, IX, IY, IZ, hFd, hK2, hfk⟩ := HV.out
                    have hFl : fks.length ≤ 4096 := by have := good_few hFd.asc.nodup hFd.good; rwa [List.length_map] at this
                    have hli : kl[i] ∈ kl := List.getElem_mem hik
                    have hlj : kl[j] ∈ kl := List.getElem_mem hjk
                    obtain ⟨Gi, ri⟩ := HS.pool_at (i := 14) rfl (hK2 _ (hS.out.ml _ hli))
                    obtain ⟨Gj, rj⟩ := HS.pool_at (i := 14) rfl (hK2 _ (hS.out.ml _ hlj))
                    obtain ⟨xa, xc, ei, _, _⟩ := Ty.row_len ri
                    obtain ⟨ya, yc, ej, _, _⟩ := Ty.row_len rj
                    have gi6 := (hgl.out _ (List.mem_map.2 ⟨_, hli, rfl⟩)).1
                    have gj6 := (hgl.out _ (List.mem_map.2 ⟨_, hlj, rfl⟩)).1
                    have li : (kl.map Prod.fst)[i]? = some (.slice xa kl[i].2.length xc) := by rw [List.getElem?_map, List.getElem?_eq_getElem hik, ← ei]; rfl
                    have lj : (kl.map Prod.fst)[j]? = some (.slice ya kl[j].2.length yc) := by rw [List.getElem?_map, List.getElem?_eq_getElem hjk, ← ej]; rfl
                    rw [ei] at ri
                    rw [ej] at rj
                    have oI : (ord.map (Value.int .i64))[a]? = some (.int .i64 i) := by rw [List.getElem?_map, hoa.out]; rfl
                    have oJ : (ord.map (Value.int .i64))[b]? = some (.int .i64 j) := by rw [List.getElem?_map, hob.out]; rfl
                    obtain ⟨res, hres⟩ : ∃ res, resB kl[i].2 kl[j].2 (x : Int) = res := ⟨_, rfl⟩
                    have hsome : Hid (∀ c, res = some c → Good c) := fun c hc => resB_good gi6 gj6 (by omega) (hres.trans hc)
                    have hcan : Hid (∀ c, (candV (kl.map Prod.snd) R ord r a b x c ∨ res = some c) ↔ candV (kl.map Prod.snd) R ord r a b ((x + 1 : Nat) : Int) c) := fun c => by
                      rw [show ((x + 1 : Nat) : Int) = (x : Int) + 1 by omega, ← candV_succ (by omega) hoa.out hob.out hiL hjL hnot.out]
                      simp only [List.getElem_map]
                      rw [hres]
                    have hcall := Lib.hid (fun w' (hb : Below wr.heap.size wr w') => l2Resolve_any (.slice xa kl[i].2.length xc) (.slice ya kl[j].2.length yc) kl[i].2 kl[j].2 x Gi Gj w' (Ty.row_grow ri hb) (Ty.row_grow rj hb) gi6 gj6 (by omega) (by omega))
                    simp only [hres] at hcall
                    obtain ⟨cl, hcl⟩ : ∃ cl, res.getD [] = cl := ⟨_, rfl⟩
                    obtain ⟨ok, hok⟩ : ∃ ok, res.isSome = ok := ⟨_, rfl⟩
                    have hgc : Good cl := by
                      rw [← hcl]
                      cases hr : res with
                      | none => exact Good.nil
                      | some c => exact hsome.out c hr
                    have hcI := hgc.i64
                    have hcl6 := hgc.len
                    have hJ : Hid (∀ w' e w'', JoinPost w' res e w'' → ∃ v, e = .returned (.tuple #[v, .bool ok]) ∧ w''.ownsRow w'.heap.size 3 1 v cl.length (cl.map (.int .i64)) ∧ Below w'.heap.size w' w'') := fun w' e w'' h => by
                      rw [← hcl, ← hok]; exact h
                    replace hcl := Lib.hid hcl
                    replace hok := Lib.hid hok
                    replace hres := Lib.hid hres
                    replace hFd := Lib.hid hFd
                    replace hK2 := Lib.hid hK2
                    replace hfk := Lib.hid hfk
                    replace IX := Lib.hid IX
                    replace IY := Lib.hid IY
                    replace IZ := Lib.hid IZ
                    replace HS := Lib.hid HS
                    replace li := Lib.hid li
                    replace lj := Lib.hid lj
                    replace oI := Lib.hid oI
                    replace oJ := Lib.hid oJ
                    replace hX := Lib.hid hX
                    replace hY := Lib.hid hY
                    replace hZ := Lib.hid hZ
                    replace hcI := Lib.hid hcI
                    replace hgc := Lib.hid hgc
                    have hiI : (i : Int) < (ord.length : Int) ∨ True := .inr trivial
                    have hiK : (i : Int) < (kl.length : Int) := by omega
                    have hjK : (j : Int) < (kl.length : Int) := by omega
                    clear HV hli hlj ri rj ei ej gi6 gj6 hiI
                    go_wp2_with fail
                    have c0 := HS.out.cell (i := 7) rfl (o := 0) rfl
                    have c1 := own_cell (HS.out.own (i := 5) rfl) oI.out
                    have c2 := own_cell (HS.out.own (i := 5) rfl) oJ.out
                    have c3 := own_cell (HS.out.own (i := 8) rfl) li.out
                    have c4 := own_cell (HS.out.own (i := 8) rfl) lj.out
                    refine wp_region_tailW (S := (fun w' => w'.cell? ⟨w.heap.size, 0, none⟩ = some (.slice (some ⟨lg, 0, none⟩) kl.length lc) ∧ w'.cell? ⟨og, a, none⟩ = some (.int .i64 i) ∧ w'.cell? ⟨og, b, none⟩ = some (.int .i64 j) ∧ w'.cell? ⟨lg, i, none⟩ = some (.slice xa kl[i].2.length xc) ∧ w'.cell? ⟨lg, j, none⟩ = some (.slice ya kl[j].2.length yc))) 18 (by kernel_rfl) (by kernel_rfl) ?_ ?_
                    · exact ⟨c0, c1, c2, c3, c4⟩
                    intro hSc
                    clear c0 c1 c2 c3 c4
                    (refine walkW_take (i := 0) (v := ?_) rfl (by kernel_rfl) (by decide) (by kernel_rfl) (by kernel_rfl) (fun _ _ _ h => h) (Or.inl ⟨by rfl, ?_⟩) (by assumption) ?_; rotate_left; (focus (intro w hSw; (try dsimp only at hSw); go_simp; (try with_reducible rfl); done)); (try simp only [put_rules]))
                    (refine walkW_take (i := 1) (v := ?_) rfl (by kernel_rfl) (by decide) (by kernel_rfl) (by kernel_rfl) (fun _ _ _ h => h) (Or.inl ⟨by rfl, ?_⟩) (by assumption) ?_; rotate_left; (focus (intro w hSw; (try dsimp only at hSw); go_simp; (try with_reducible rfl); done)); (try simp only [put_rules]))
                    (refine walkW_take (i := 2) (v := ?_) rfl (by kernel_rfl) (by decide) (by kernel_rfl) (by kernel_rfl) (fun _ _ _ h => h) (Or.inl ⟨by rfl, ?_⟩) (by assumption) ?_; rotate_left; (focus (intro w hSw; (try dsimp only at hSw); go_simp; (try with_reducible rfl); done)); (try simp only [put_rules]))
                    (refine walkW_take (i := 3) (v := ?_) rfl (by kernel_rfl) (by decide) (by kernel_rfl) (by kernel_rfl) (fun _ _ _ h => h) (Or.inl ⟨by rfl, ?_⟩) (by assumption) ?_; rotate_left; (focus (intro w hSw; (try dsimp only at hSw); go_simp; (try with_reducible rfl); done)); (try simp only [put_rules]))
                    (refine walkW_take (i := 4) (v := ?_) rfl (by kernel_rfl) (by decide) (by kernel_rfl) (by kernel_rfl) (fun _ _ _ h => h) (Or.inl ⟨by rfl, ?_⟩) (by assumption) ?_; rotate_left; (focus (intro w hSw; (try dsimp only at hSw); go_simp; (try with_reducible rfl); done)); (try simp only [put_rules]))
                    (refine walkW_take (i := 5) (v := ?_) rfl (by kernel_rfl) (by decide) (by kernel_rfl) (by kernel_rfl) (fun _ _ _ h => h) (Or.inl ⟨by rfl, ?_⟩) (by assumption) ?_; rotate_left; (focus (intro w hSw; (try dsimp only at hSw); go_simp; (try with_reducible rfl); done)); (try simp only [put_rules]))
                    (refine walkW_take (i := 6) (v := ?_) rfl (by kernel_rfl) (by decide) (by kernel_rfl) (by kernel_rfl) (fun _ _ _ h => h) (Or.inl ⟨by rfl, ?_⟩) (by assumption) ?_; rotate_left; (focus (intro w hSw; (try dsimp only at hSw); go_simp; (try with_reducible rfl); done)); (try simp only [put_rules]))
                    (refine walkW_take (i := 7) (v := ?_) rfl (by kernel_rfl) (by decide) (by kernel_rfl) (by kernel_rfl) (fun _ _ _ h => h) (Or.inl ⟨by rfl, ?_⟩) (by assumption) ?_; rotate_left; (focus (intro w hSw; (try dsimp only at hSw); go_simp; (try with_reducible rfl); done)); (try simp only [put_rules]))
                    (refine walkW_take (i := 8) (v := ?_) rfl (by kernel_rfl) (by decide) (by kernel_rfl) (by kernel_rfl) (fun _ _ _ h => h) (Or.inl ⟨by rfl, ?_⟩) (by assumption) ?_; rotate_left; (focus (intro w hSw; (try dsimp only at hSw); go_simp; (try with_reducible rfl); done)); (try simp only [put_rules]))
                    (refine walkW_take (i := 9) (v := ?_) rfl (by kernel_rfl) (by decide) (by kernel_rfl) (by kernel_rfl) (fun _ _ _ h => h) (Or.inl ⟨by rfl, ?_⟩) (by assumption) ?_; rotate_left; (focus (intro w hSw; (try dsimp only at hSw); go_simp; (try with_reducible rfl); done)); (try simp only [put_rules]))
                    (refine walkW_take (i := 10) (v := ?_) rfl (by kernel_rfl) (by decide) (by kernel_rfl) (by kernel_rfl) (fun _ _ _ h => h) (Or.inl ⟨by rfl, ?_⟩) (by assumption) ?_; rotate_left; (focus (intro w hSw; (try dsimp only at hSw); go_simp; (try with_reducible rfl); done)); (try simp only [put_rules]))
                    (refine walkW_take (i := 11) (v := ?_) rfl (by kernel_rfl) (by decide) (by kernel_rfl) (by kernel_rfl) (fun _ _ _ h => h) (Or.inl ⟨by rfl, ?_⟩) (by assumption) ?_; rotate_left; (focus (intro w hSw; (try dsimp only at hSw); go_simp; (try with_reducible rfl); done)); (try simp only [put_rules]))
                    (refine walkW_take (i := 12) (v := ?_) rfl (by kernel_rfl) (by decide) (by kernel_rfl) (by kernel_rfl) (fun _ _ _ h => h) (Or.inl ⟨by rfl, ?_⟩) (by assumption) ?_; rotate_left; (focus (intro w hSw; (try dsimp only at hSw); go_simp; (try with_reducible rfl); done)); (try simp only [put_rules]))
                    (refine walkW_take (i := 13) (v := ?_) rfl (by kernel_rfl) (by decide) (by kernel_rfl) (by kernel_rfl) (fun _ _ _ h => h) (Or.inl ⟨by rfl, ?_⟩) (by assumption) ?_; rotate_left; (focus (intro w hSw; (try dsimp only at hSw); go_simp; (try with_reducible rfl); done)); (try simp only [put_rules]))
                    (refine walkW_take (i := 14) (v := ?_) rfl (by kernel_rfl) (by decide) (by kernel_rfl) (by kernel_rfl) (fun _ _ _ h => h) (Or.inl ⟨by rfl, ?_⟩) (by assumption) ?_; rotate_left; (focus (intro w hSw; (try dsimp only at hSw); go_simp; (try with_reducible rfl); done)); (try simp only [put_rules]))
                    (refine walkW_take (i := 15) (v := ?_) rfl (by kernel_rfl) (by decide) (by kernel_rfl) (by kernel_rfl) (fun _ _ _ h => h) (Or.inl ⟨by rfl, ?_⟩) (by assumption) ?_; rotate_left; (focus (intro w hSw; (try dsimp only at hSw); go_simp; (try with_reducible rfl); done)); (try simp only [put_rules]))
                    (refine walkW_take (i := 16) (v := ?_) rfl (by kernel_rfl) (by decide) (by kernel_rfl) (by kernel_rfl) (fun _ _ _ h => h) (Or.inl ⟨by rfl, ?_⟩) (by assumption) ?_; rotate_left; (focus (intro w hSw; (try dsimp only at hSw); go_simp; (try with_reducible rfl); done)); (try simp only [put_rules]))
                    (refine walkT_ready (rs := [17]) (by kernel_rfl) (by simp) (by decide) ?_; refine AllT.cons rfl (fun K hK => ?_) AllT.nil)
                    go_simp
                    go_at_call 66
                    refine (hcall.out _ (bdr (bb wr))).mono ?_
                    intro e w2 hpost
                    obtain ⟨cv, rfl, hoc2, hb2⟩ := hJ.out _ _ _ hpost
                    have S2 := HS.out.drew.pool_add (i := 14) rfl hb2 hoc2 hcI.out
                    obtain ⟨ca, cc, rfl⟩ := owns_form hoc2
                    have e0 := S2.cell (i := 7) rfl (o := 0) rfl
                    have e1 := own_cell (S2.own (i := 5) rfl) oI.out
                    have e2 := own_cell (S2.own (i := 5) rfl) oJ.out
                    have e3 := own_cell (S2.own (i := 8) rfl) li.out
                    have e4 := own_cell (S2.own (i := 8) rfl) lj.out
                    replace S2 := Lib.hid (show Sp w0 w2 (RoundParts w1.heap.size (w.heap.size + 1) w.heap.size vx vy vz vf (.slice (some ⟨og, 0, none⟩) ord.length oc) (.slice (some ⟨lg, 0, none⟩) kl.length lc) (.slice (some ⟨rg, 0, none⟩) R.length rc) (.slice aa A.length ac) (.slice ba B.length bc) (.slice pa C.length pc) (.slice sa ks.length sc) X Y Z fks ord kl ks ((.slice ca cl.length cc, cl) :: K2) R A B C ps) from S2)
                    clear hpost hoc2 hb2 HS hcall hJ hSc
                    go_wp2_with fail
                    refine hK.out _ _ ⟨e0, e1, e2, e3, e4⟩ (fun _ => ?_)
                    clear hK e0 e1 e2 e3 e4
                    (try simp only [put_rules])
                    (refine walkW_done (by kernel_rfl) (fun hHeld => ?_))
                    (refine wpAnyH_take (i := 18) (v := ?_) rfl (by kernel_rfl) (by kernel_rfl) (by kernel_rfl) (fun _ _ _ h => h) (Or.inl ⟨by rfl, ?_⟩) (by assumption) ?_; rotate_left; (focus (intro w hSw; (try dsimp only at hSw); go_simp; (try with_reducible rfl); done)); (try simp only [put_rules]))
                    (refine wpAnyH_take (i := 19) (v := ?_) rfl (by kernel_rfl) (by kernel_rfl) (by kernel_rfl) (fun _ _ _ h => h) (Or.inl ⟨by rfl, ?_⟩) (by assumption) ?_; rotate_left; (focus (intro w hSw; (try dsimp only at hSw); go_simp; (try with_reducible rfl); done)); (try simp only [put_rules]))
                    (refine wpAnyH_take (i := 20) (v := ?_) rfl (by kernel_rfl) (by kernel_rfl) (by kernel_rfl) (fun _ _ _ h => h) (Or.inl ⟨by rfl, ?_⟩) (by assumption) ?_; rotate_left; (focus (intro w hSw; (try dsimp only at hSw); go_simp; (try with_reducible rfl); done)); (try simp only [put_rules]))
                    (refine wpAnyH_take (i := 21) (v := ?_) rfl (by kernel_rfl) (by kernel_rfl) (by kernel_rfl) (fun _ _ _ h => h) (Or.inl ⟨by rfl, ?_⟩) (by assumption) ?_; rotate_left; (focus (intro w hSw; (try dsimp only at hSw); go_simp; (try with_reducible rfl); done)); (try simp only [put_rules]))
                    (refine wpAnyH_take (i := 22) (v := ?_) rfl (by kernel_rfl) (by kernel_rfl) (by kernel_rfl) (fun _ _ _ h => h) (Or.inl ⟨by rfl, ?_⟩) (by assumption) ?_; rotate_left; (focus (intro w hSw; (try dsimp only at hSw); go_simp; (try with_reducible rfl); done)); (try simp only [put_rules]))
                    (refine wpAnyH_done (by kernel_rfl) ?_ _)
                    go_upto_region 13 with fail
                    go_cut [105] (fun s wx => ∃ q : Bool, s = .bool q ∧ Hid (q = skipB (kl.map Prod.snd) (fks.map Prod.snd) width res) ∧ Hid (Sp w0 wx (RoundParts w1.heap.size (w.heap.size + 1) w.heap.size vx vy vz vf (.slice (some ⟨og, 0, none⟩) ord.length oc) (.slice (some ⟨lg, 0, none⟩) kl.length lc) (.slice (some ⟨rg, 0, none⟩) R.length rc) (.slice aa A.length ac) (.slice ba B.length bc) (.slice pa C.length pc) (.slice sa ks.length sc) X Y Z fks ord kl ks ((.slice ca cl.length cc, cl) :: K2) R A B C ps)))
                    case first =>
                      as_aux_lemma =>
                        have hKs : ∀ q ∈ ks, q ∈ ((.slice ca cl.length cc, cl) :: K2 : List (Value × List Int)) := fun q hq => List.mem_cons_of_mem _ (hK2.out q (hS.out.ms q hq))
                        have hKf : ∀ q ∈ fks, q ∈ ((.slice ca cl.length cc, cl) :: K2 : List (Value × List Int)) := fun q hq => List.mem_cons_of_mem _ (hfk.out q hq)
                        obtain ⟨Fs, rs⟩ := S2.out.cls_row (i := 13) (j := 14) rfl rfl hKs
                        obtain ⟨Ff, rf⟩ := S2.out.cls_row (i := 4) (j := 14) rfl rfl hKf
                        obtain ⟨Fc, rcl⟩ := S2.out.pool_at (i := 14) rfl List.mem_cons_self
                        obtain ⟨fa, fc, rfl, hfc, -⟩ := own_src (S2.out.own (i := 4) rfl)
                        have b5 := S2.out.cell (i := 7) rfl (o := 5) rfl
                        have bF := S2.out.cell (i := 0) rfl (o := 5) rfl
                        have hks2 := hS.out.fews hF.out
                        obtain ⟨z1, hz1s, hat1⟩ := l2At_q rs rcl hgs.out hgc.out (by rw [List.length_map]; omega) hS.out.asc
                        obtain ⟨z2, hz2s, hat2⟩ := l2At_q rf rcl hFd.out.good hgc.out (by rw [List.length_map]; omega) hFd.out.asc
                        have hs1 : Hid (0 ≤ z1 ↔ cl ∈ kl.map Prod.snd) := hz1s.trans (hS.out.same cl)
                        replace hz2s := Lib.hid hz2s
                        have hat2' := Lib.hid (fun w' (hb : Below w2.heap.size w2 w') => l2At_q (Ty.row_grow rf hb) (Ty.row_grow rcl hb) hFd.out.good hgc.out (by rw [List.length_map]; omega) hFd.out.asc)
                        replace hat1 := Lib.hid hat1
                        clear hat2 hz1s rs hKs hKf hz2s
                        have hskn : Hid (ok = false → true = skipB (kl.map Prod.snd) (fks.map Prod.snd) width res) := fun e => by
                          have := hok.out
                          rw [e] at this
                          cases hr : res with
                          | none => rfl
                          | some c => rw [hr] at this; cases this
                        have hsks : Hid (ok = true → res = some cl) := fun e => by
                          have h1 := hok.out
                          have h2 := hcl.out
                          rw [e] at h1
                          cases hr : res with
                          | none => rw [hr] at h1; cases h1
                          | some c => rw [hr] at h2; exact congrArg some h2
                        cases ok
                        · have HQ := Lib.hid (hskn.out rfl)
                          clear hskn hsks
                          go_wp2_with fail
                          go_meet
                          exact ⟨_, rfl, HQ, S2⟩
                        have hrc := Lib.hid (hsks.out rfl)
                        clear hskn hsks
                        by_cases hlen : width < (cl.length : Int)
                        · have HQ : Hid (true = skipB (kl.map Prod.snd) (fks.map Prod.snd) width res) := by unfold Hid; rw [hrc.out, skip_long hlen]
                          go_wp2_with fail
                          go_meet
                          exact ⟨_, rfl, HQ, S2⟩
                        by_cases hz1p : 0 ≤ z1
                        · have HQ : Hid (true = skipB (kl.map Prod.snd) (fks.map Prod.snd) width res) := by unfold Hid; rw [hrc.out, skip_old (hs1.out.1 hz1p)]
                          go_wp2_with (go_at_call 30; refine hat1.out.mono ?_; rintro e w3 ⟨rfl, hb3⟩)
                          have S3 := Lib.hid (S2.out.grow hb3)
                          go_meet
                          exact ⟨_, rfl, HQ, S3⟩
                        have hno1 := Lib.hid (fun h => hz1p (hs1.out.2 h))
                        have hz1n : z1 < 0 := by omega
                        clear hz1p
                        go_wp2_with fail
                        refine hat1.out.mono ?_
                        rintro e w3 ⟨rfl, hb3⟩
                        have S3 := S2.out.grow hb3
                        have b5' := S3.cell (i := 7) rfl (o := 5) rfl
                        have bF' := S3.cell (i := 0) rfl (o := 5) rfl
                        replace S3 := Lib.hid S3
                        obtain ⟨z3, hz3s, hat3⟩ := hat2'.out w3 hb3
                        replace hat3 := Lib.hid hat3
                        clear hat2' hat1 S2 hb3 b5 bF rf rcl
                        by_cases hz3p : 0 ≤ z3
                        · have HQ : Hid (true = skipB (kl.map Prod.snd) (fks.map Prod.snd) width res) := by unfold Hid; rw [hrc.out, skip_fd (hz3s.1 hz3p)]
                          clear hz3s
                          go_wp2_with fail
                          refine hat3.out.mono ?_
                          rintro e w4 ⟨rfl, hb4⟩
                          have S4 := Lib.hid (S3.out.grow hb4)
                          go_wp2_with fail
                          go_meet
                          exact ⟨_, rfl, HQ, S4⟩
                        · have HQ : Hid (false = skipB (kl.map Prod.snd) (fks.map Prod.snd) width res) := by unfold Hid; rw [hrc.out, skip_new (by omega) hno1.out (fun h => hz3p (hz3s.2 h))]
                          have hz3n : z3 < 0 := by omega
                          clear hz3s hz3p
                          go_wp2_with fail
                          refine hat3.out.mono ?_
                          rintro e w4 ⟨rfl, hb4⟩
                          have S4 := Lib.hid (S3.out.grow hb4)
                          go_wp2_with fail
                          go_meet
                          exact ⟨_, rfl, by unfold Hid; rw [decide_eq_false (show ¬ 0 ≤ z1 by omega), decide_eq_false (show ¬ 0 ≤ z3 by omega)]; exact HQ.out, S4⟩
                    case rest =>
                      obtain ⟨q, rfl, hq, S2'⟩ := hcut
                      clear S2
                      cases q
                      · obtain ⟨c, hc1, hc2, hc3, hc4⟩ := skip_no hq.out.symm
                        have hce : cl = c := by have := hcl.out; rw [hc1] at this; exact this.symm
                        subst hce
                        have hKf : ∀ q ∈ fks, q ∈ ((.slice ca cl.length cc, cl) :: K2 : List (Value × List Int)) := fun q hq => List.mem_cons_of_mem _ (hfk.out q hq)
                        obtain ⟨Ff, rf⟩ := S2'.out.cls_row (i := 4) (j := 14) rfl rfl hKf
                        obtain ⟨Fc, rcl⟩ := S2'.out.pool_at (i := 14) rfl List.mem_cons_self
                        obtain ⟨fa, fc, rfl, hfc, -⟩ := own_src (S2'.out.own (i := 4) rfl)
                        have bF := S2'.out.cell (i := 0) rfl (o := 5) rfl
                        have hmf : ∀ x ∈ fks.map Prod.snd, Mild x := fun x hx => (hFd.out.good x hx).mild
                        have hout : (fks.map Prod.snd)[placeB (fks.map Prod.snd) cl]? ≠ some cl := fun h => hc4 ((placeB_mem hFd.out.asc).1 h)
                        obtain ⟨Pn, hPn⟩ : ∃ P, placeB (fks.map Prod.snd) cl = P := ⟨_, rfl⟩
                        have hPl : Pn ≤ fks.length := by have := placeB_le (fks.map Prod.snd) cl; rw [List.length_map] at this; omega
                        have hpl := l2Place_any _ _ (fks.map Prod.snd) cl Ff Fc _ rf rcl hmf hgc.out.mild (by rw [List.length_map]; omega)
                        rw [hPn] at hpl
                        have hins := Lib.hid (fun w3 (S3 : Sp w0 w3 (RoundParts w1.heap.size (w.heap.size + 1) w.heap.size vx vy vz (.slice fa fks.length fc) (.slice (some ⟨og, 0, none⟩) ord.length oc) (.slice (some ⟨lg, 0, none⟩) kl.length lc) (.slice (some ⟨rg, 0, none⟩) R.length rc) (.slice aa A.length ac) (.slice ba B.length bc) (.slice pa C.length pc) (.slice sa ks.length sc) X Y Z fks ord kl ks ((.slice ca cl.length cc, cl) :: K2) R A B C ps)) hb3 => l2Insert_new _ ca cc fks cl Ff Fc w3 (S3.own (i := 4) rfl) (S3.pool_slices (j := 14) rfl hKf) (Ty.row_grow rf hb3) (Ty.row_grow rcl hb3) hmf hgc.out.mild (by omega) hout)
                        have hFd2 : Hid (Found (kl.map Prod.snd) width (candV (kl.map Prod.snd) R ord r a b ((x + 1 : Nat) : Int)) ((insP fks (.slice ca cl.length cc, cl)).map Prod.snd)) := by
                          unfold Hid
                          rw [insP_snd]
                          have := hFd.out.add hgc.out hc2 hc3 hc4
                          rw [← hc1] at this
                          exact this.congr hcan.out
                        have hFl2 : Hid ((insP fks (.slice ca cl.length cc, cl)).length = fks.length + 1) := insP_len _ _
                        have hKK : Hid (∀ q ∈ K0, q ∈ ((.slice ca cl.length cc, cl) :: K2)) := fun q hq => List.mem_cons_of_mem _ (hK2.out q hq)
                        have hKF : Hid (∀ q ∈ (insP fks (.slice ca cl.length cc, cl)), q ∈ ((.slice ca cl.length cc, cl) :: K2)) := fun q hq => by
                          rcases mem_insP.1 hq with rfl | hq
                          · exact List.mem_cons_self
                          · exact hKf q hq
                        replace hpl := Lib.hid hpl
                        clear hPn hout hmf hKf rf rcl hc1 hc2 hc3 hc4 hq hcan hFd hK2 hfk
                        go_wp2_with fail
                        refine hpl.out.mono ?_
                        rintro e w3 ⟨rfl, hb3⟩
                        have S3 := S2'.out.grow hb3
                        have bF' := S3.cell (i := 0) rfl (o := 5) rfl
                        have hins3 := Lib.hid (hins.out w3 S3 hb3)
                        replace S3 := Lib.hid S3
                        clear bF S2' hins hpl hb3
                        go_wp2_with fail
                        refine hins3.out.mono ?_
                        rintro e w4 ⟨vn, rfl, hon, hb4⟩
                        have S4 := S3.out.own_call hb4 hon
                        obtain ⟨na, nc, rfl, hnc, -⟩ := own_src hon
                        have j5 := S4.cell (i := 1) rfl (o := 5) rfl
                        have p5 := S4.frozen (i := 1) rfl 5
                        have S5 := (S4.store (i := 1) rfl 5 (.slice na (insP fks (.slice ca cl.length cc, cl)).length nc)).swap_in (i := 4) rfl
                        have HM := Lib.hid (show MS w0 w1.heap.size (w.heap.size + 1) w.heap.size (.slice (some ⟨og, 0, none⟩) ord.length oc) (.slice (some ⟨lg, 0, none⟩) kl.length lc) (.slice (some ⟨rg, 0, none⟩) R.length rc) (.slice aa A.length ac) (.slice ba B.length bc) (.slice pa C.length pc) (.slice sa ks.length sc) ord kl ks R A B C ps fks.length fks.length fks.length (.slice na (insP fks (.slice ca cl.length cc, cl)).length nc) (insP fks (.slice ca cl.length cc, cl)) ((.slice ca cl.length cc, cl) :: K2) _ from ⟨vx, vy, vz, X, Y, Z, S5, hX.out, hY.out, hZ.out, IX.out, IY.out, IZ.out⟩)
                        clear S3 S4 S5 hon hb4 hins3 bF' hX hY hZ IX IY IZ
                        go_upto_region 16 with fail
                        clear j5 p5
                        go_cut [] (fun wx => Hid (MS w0 w1.heap.size (w.heap.size + 1) w.heap.size (.slice (some ⟨og, 0, none⟩) ord.length oc) (.slice (some ⟨lg, 0, none⟩) kl.length lc) (.slice (some ⟨rg, 0, none⟩) R.length rc) (.slice aa A.length ac) (.slice ba B.length bc) (.slice pa C.length pc) (.slice sa ks.length sc) ord kl ks R A B C ps (fks.length + 1) fks.length fks.length (.slice na (insP fks (.slice ca cl.length cc, cl)).length nc) (insP fks (.slice ca cl.length cc, cl)) ((.slice ca cl.length cc, cl) :: K2) wx))
                        case first =>
                          as_aux_lemma =>
                            obtain ⟨vx, vy, vz, X, Y, Z, HS, hX, hY, hZ, IX, IY, IZ⟩ := HM.out
                            obtain ⟨xa2, xc2, rfl, hxc2, -⟩ := own_src (HS.own (i := 1) rfl)
                            have hP : Pn ≤ X.length := by omega
                            have hPc : Pn ≤ xc2 := by omega
                            have hn2 : X.length ≤ 1000000 := by omega
                            have hxI : I64 (i : Int) := by unfold I64; omega
                            replace HS := Lib.hid HS
                            replace hX := Lib.hid hX
                            replace hY := Lib.hid hY
                            replace hZ := Lib.hid hZ
                            replace IX := Lib.hid IX
                            replace IY := Lib.hid IY
                            replace IZ := Lib.hid IZ
                            replace hxI := Lib.hid hxI
                            clear HM
                            go_wp2_with fail
                            have S101 := Lib.hid (Sp.drew HS.out)
                            refine wp_region_tail_lit (S := (fun w' => w'.cell? ⟨w1.heap.size, 2, none⟩ = some (.slice xa2 X.length xc2) ∧ w'.cell? ⟨og, a, none⟩ = some (.int .i64 i))) 15 [false, false, false, false, false, false, false, false, false, false, false, false, false, false, false, false, false, false] (by kernel_rfl) (by kernel_rfl) (by kernel_rfl) ?_ ?_
                            · exact ⟨S101.out.cell (i := 0) rfl (o := 2) rfl, own_cell (S101.out.own (i := 5) rfl) oI.out⟩
                            intro hS
                            (refine walkT_take (i := 0) (v := ?_) rfl (by kernel_rfl) (by decide) (by kernel_rfl) (by kernel_rfl) (fun _ _ _ h => h) (Or.inl ⟨by rfl, ?_⟩) (by assumption) ?_; rotate_left; (focus (intro w hSw; (try dsimp only at hSw); go_simp; (try with_reducible rfl); done)); (try simp only [put_rules]))
                            (refine walkT_take (i := 1) (v := ?_) rfl (by kernel_rfl) (by decide) (by kernel_rfl) (by kernel_rfl) (fun _ _ _ h => h) (Or.inl ⟨by rfl, ?_⟩) (by assumption) ?_; rotate_left; (focus (intro w hSw; (try dsimp only at hSw); go_simp; (try with_reducible rfl); done)); (try simp only [put_rules]))
                            (refine walkT_take (i := 2) (v := ?_) rfl (by kernel_rfl) (by decide) (by kernel_rfl) (by kernel_rfl) (fun _ _ _ h => h) (Or.inl ⟨by rfl, ?_⟩) (by assumption) ?_; rotate_left; (focus (intro w hSw; (try dsimp only at hSw); go_simp; (try with_reducible rfl); done)); (try simp only [put_rules]))
                            (refine walkT_take (i := 3) (v := .slice _ Pn xc2) rfl (by kernel_rfl) (by decide) (by kernel_rfl) (by kernel_rfl) (fun _ _ _ h => h) (Or.inl ⟨by rfl, fun _ _ => exec_slice_to rfl rfl rfl Try.underlying25 hi hPc⟩) (by assumption) ?_; (try simp only [put_rules]))
                            (refine walkT_take (i := 5) (v := ?_) rfl (by kernel_rfl) (by decide) (by kernel_rfl) (by kernel_rfl) (fun _ _ _ h => h) (Or.inl ⟨by rfl, ?_⟩) (by assumption) ?_; rotate_left; (focus (intro w hSw; (try dsimp only at hSw); go_simp; (try with_reducible rfl); done)); (try simp only [put_rules]))
                            (refine walkT_take (i := 6) (v := ?_) rfl (by kernel_rfl) (by decide) (by kernel_rfl) (by kernel_rfl) (fun _ _ _ h => h) (Or.inl ⟨by rfl, ?_⟩) (by assumption) ?_; rotate_left; (focus (intro w hSw; (try dsimp only at hSw); go_simp; (try with_reducible rfl); done)); (try simp only [put_rules]))
                            (refine walkT_take (i := 7) (v := ?_) rfl (by kernel_rfl) (by decide) (by kernel_rfl) (by kernel_rfl) (fun _ _ _ h => h) (Or.inl ⟨by rfl, ?_⟩) (by assumption) ?_; rotate_left; (focus (intro w hSw; (try dsimp only at hSw); go_simp; (try with_reducible rfl); done)); (try simp only [put_rules]))
                            (refine walkT_take (i := 8) (v := ?_) rfl (by kernel_rfl) (by decide) (by kernel_rfl) (by kernel_rfl) (fun _ _ _ h => h) (Or.inl ⟨by rfl, ?_⟩) (by assumption) ?_; rotate_left; (focus (intro w hSw; (try dsimp only at hSw); go_simp; (try with_reducible rfl); done)); (try simp only [put_rules]))
                            (refine walkT_take (i := 11) (v := ?_) rfl (by kernel_rfl) (by decide) (by kernel_rfl) (by kernel_rfl) (fun _ _ _ h => h) (Or.inl ⟨by rfl, ?_⟩) (by assumption) ?_; rotate_left; (focus (intro w hSw; (try dsimp only at hSw); go_simp; (try with_reducible rfl); done)); (try simp only [put_rules]))
                            (refine walkT_take (i := 12) (v := ?_) rfl (by kernel_rfl) (by decide) (by kernel_rfl) (by kernel_rfl) (fun _ _ _ h => h) (Or.inl ⟨by rfl, ?_⟩) (by assumption) ?_; rotate_left; (focus (intro w hSw; (try dsimp only at hSw); go_simp; (try with_reducible rfl); done)); (try simp only [put_rules]))
                            (refine walkT_take (i := 13) (v := ?_) rfl (by kernel_rfl) (by decide) (by kernel_rfl) (by kernel_rfl) (fun _ _ _ h => h) (Or.inl ⟨by rfl, ?_⟩) (by assumption) ?_; rotate_left; (focus (intro w hSw; (try dsimp only at hSw); go_simp; (try with_reducible rfl); done)); (try simp only [put_rules]))
                            (refine walkT_take (i := 14) (v := .slice (cutA _ xc2 Pn 1) (X.length - Pn) (xc2 - Pn)) rfl (by kernel_rfl) (by decide) (by kernel_rfl) (by kernel_rfl) (fun _ _ _ h => h) (Or.inl ⟨by rfl, fun _ _ => exec_slice_from rfl rfl rfl Try.underlying25 hi hz1 hP⟩) (by assumption) ?_; (try simp only [put_rules]))
                            clear hS
                            (refine walkT_ready (rs := [4, 9]) (by kernel_rfl) (by simp) (by decide) ?_; refine AllT.cons rfl (fun K hK => ?_) (AllT.cons rfl (fun K hK => ?_) AllT.nil))
                            · skip
                              go_simp
                              go_at_call 53
                              obtain ⟨fa102, ra102⟩ := S101.out.ints_row (i := 1) rfl IX.out
                              obtain ⟨fb102, rb102, _⟩ := row_int_take (k := Pn) ra102 hP
                              refine (l1Own_any _ (X.take Pn) _ _ rb102 (by rw [List.length_take]; omega)).mono ?_
                              rintro e w102 ⟨v102, rfl, ho102, hb102⟩
                              rw [List.length_take, Nat.min_eq_left hP] at ho102
                              have S102 := S101.out.own_call hb102 ho102
                              obtain ⟨a102, c102, rfl⟩ := owns_form ho102
                              replace S102 := Lib.hid S102
                              clear ho102 hb102 ra102 rb102 S101
                              go_wp2_with fail
                              refine hK.out _ _ ?_ (fun _ => ?_)
                              · exact ⟨S102.out.cell (i := 1) rfl (o := 2) rfl, own_cell (S102.out.own (i := 6) rfl) oI.out⟩
                              clear hK
                              (try simp only [put_rules])
                              (refine walkT_ready (rs := [9]) (by kernel_rfl) (by simp) (by decide) ?_; refine AllT.cons rfl (fun K hK => ?_) AllT.nil)
                              go_simp
                              have S103 := S102.out.alloc_box #[.int .i64 (i : Int)] 3
                              (repeat (first | simp only [drew_size] at S103 | simp only [World.size_setCell] at S103 | simp only [World.size_alloc] at S103))
                              replace S103 := Lib.hid S103
                              clear S102
                              refine hK.out _ _ ?_ (fun _ => ?_)
                              · exact ⟨S103.out.cell (i := 2) rfl (o := 2) rfl, own_cell (S103.out.own (i := 7) rfl) oI.out⟩
                              clear hK
                              (try simp only [put_rules])
                              (refine walkT_ready (rs := [10]) (by kernel_rfl) (by simp) (by decide) ?_; refine AllT.cons rfl (fun K hK => ?_) AllT.nil)
                              have kB104 := S103.out.cell (i := 0) rfl (o := 0) rfl
                              (refine step_append_src rfl _ _ rfl Try.underlying25 hi hz0 hz1 hz2 rfl (by decide) _ Pn _ rfl (S103.out.own (i := 1) rfl) _ 1 1 [.int .i64 (i : Int)] rfl (Src.one kB104) (by simp [Value.oneCell']) (by unfold maxLen; omega) (by omega) ?_; intro vH wH hownH hgH hatH)
                              have S104 := S103.out.own_push (i := 1) rfl (bb _) hownH hgH hatH
                              obtain ⟨aH104, cH104, rfl⟩ := owns_form hownH
                              replace S104 := Lib.hid S104
                              clear hownH hgH hatH kB104 S103
                              refine hK.out _ _ ?_ (fun _ => ?_)
                              · exact ⟨S104.out.cell (i := 2) rfl (o := 2) rfl, own_cell (S104.out.own (i := 7) rfl) oI.out⟩
                              clear hK
                              (try simp only [put_rules])
                              (refine walkT_done (by kernel_rfl) ?_)
                              simp only [List.drop_succ_cons, List.drop_zero]
                              (refine wpList_append_src rfl _ _ rfl Try.underlying25 hi hz0 hz1 hz2 rfl (by decide) _ (Pn + 1) _ rfl (S104.out.own (i := 1) rfl) _ (X.length - Pn) _ _ rfl ((own_src' (S104.out.own (i := 3) rfl)).2.2 Pn hP) (ints_drop_one _ _) (by unfold maxLen; omega) (by omega) ?_; intro vZ wZ hownZ hgZ hatZ)
                              have S105 := S104.out.own_push (i := 1) rfl (bb _) hownZ hgZ hatZ
                              obtain ⟨aZ, cZ, rfl⟩ := owns_form hownZ
                              clear hownZ hgZ hatZ S104
                              rw [insI_len hP (x := (i : Int)), insI_map] at S105
                              rw [insI_len hP (x := (i : Int))]
                              have j2 := S105.cell (i := 2) rfl (o := 2) rfl
                              have p2 := S105.frozen (i := 2) rfl 2
                              have SA := ((S105.store (i := 2) rfl 2 (.slice aZ (insI X Pn (i : Int)).length cZ)).bring (i := 1) rfl).drop2.swap_in (i := 1) rfl
                              have HM2 := Lib.hid (show MS w0 w1.heap.size (w.heap.size + 1) w.heap.size (.slice (some ⟨og, 0, none⟩) ord.length oc) (.slice (some ⟨lg, 0, none⟩) kl.length lc) (.slice (some ⟨rg, 0, none⟩) R.length rc) (.slice aa A.length ac) (.slice ba B.length bc) (.slice pa C.length pc) (.slice sa ks.length sc) ord kl ks R A B C ps (fks.length + 1) fks.length fks.length (.slice na (insP fks (.slice ca cl.length cc, cl)).length nc) (insP fks (.slice ca cl.length cc, cl)) ((.slice ca cl.length cc, cl) :: K2) _ from ⟨_, vy, vz, _, Y, Z, SA, (by rw [← insI_len hP]; have := hX.out; omega), hY.out, hZ.out, (insI_i64 IX.out hxI.out), IY.out, IZ.out⟩)
                              clear SA S105
                              go_wp2_with fail
                              go_meet
                              exact HM2
                            · skip
                              go_simp
                              have S106 := S101.out.alloc_box #[.int .i64 (i : Int)] 3
                              (repeat (first | simp only [drew_size] at S106 | simp only [World.size_setCell] at S106 | simp only [World.size_alloc] at S106))
                              replace S106 := Lib.hid S106
                              clear S101
                              refine hK.out _ _ ?_ (fun _ => ?_)
                              · exact ⟨S106.out.cell (i := 1) rfl (o := 2) rfl, own_cell (S106.out.own (i := 6) rfl) oI.out⟩
                              clear hK
                              (try simp only [put_rules])
                              (refine walkT_ready (rs := [4]) (by kernel_rfl) (by simp) (by decide) ?_; refine AllT.cons rfl (fun K hK => ?_) AllT.nil)
                              go_simp
                              go_at_call 53
                              obtain ⟨fa107, ra107⟩ := S106.out.ints_row (i := 2) rfl IX.out
                              obtain ⟨fb107, rb107, _⟩ := row_int_take (k := Pn) ra107 hP
                              refine (l1Own_any _ (X.take Pn) _ _ rb107 (by rw [List.length_take]; omega)).mono ?_
                              rintro e w107 ⟨v107, rfl, ho107, hb107⟩
                              rw [List.length_take, Nat.min_eq_left hP] at ho107
                              have S107 := S106.out.own_call hb107 ho107
                              obtain ⟨a107, c107, rfl⟩ := owns_form ho107
                              replace S107 := Lib.hid S107
                              clear ho107 hb107 ra107 rb107 S106
                              go_wp2_with fail
                              refine hK.out _ _ ?_ (fun _ => ?_)
                              · exact ⟨S107.out.cell (i := 2) rfl (o := 2) rfl, own_cell (S107.out.own (i := 7) rfl) oI.out⟩
                              clear hK
                              (try simp only [put_rules])
                              (refine walkT_ready (rs := [10]) (by kernel_rfl) (by simp) (by decide) ?_; refine AllT.cons rfl (fun K hK => ?_) AllT.nil)
                              have kB108 := S107.out.cell (i := 1) rfl (o := 0) rfl
                              (refine step_append_src rfl _ _ rfl Try.underlying25 hi hz0 hz1 hz2 rfl (by decide) _ Pn _ rfl (S107.out.own (i := 0) rfl) _ 1 1 [.int .i64 (i : Int)] rfl (Src.one kB108) (by simp [Value.oneCell']) (by unfold maxLen; omega) (by omega) ?_; intro vH wH hownH hgH hatH)
                              have S108 := S107.out.own_push (i := 0) rfl (bb _) hownH hgH hatH
                              obtain ⟨aH108, cH108, rfl⟩ := owns_form hownH
                              replace S108 := Lib.hid S108
                              clear hownH hgH hatH kB108 S107
                              refine hK.out _ _ ?_ (fun _ => ?_)
                              · exact ⟨S108.out.cell (i := 2) rfl (o := 2) rfl, own_cell (S108.out.own (i := 7) rfl) oI.out⟩
                              clear hK
                              (try simp only [put_rules])
                              (refine walkT_done (by kernel_rfl) ?_)
                              simp only [List.drop_succ_cons, List.drop_zero]
                              (refine wpList_append_src rfl _ _ rfl Try.underlying25 hi hz0 hz1 hz2 rfl (by decide) _ (Pn + 1) _ rfl (S108.out.own (i := 0) rfl) _ (X.length - Pn) _ _ rfl ((own_src' (S108.out.own (i := 3) rfl)).2.2 Pn hP) (ints_drop_one _ _) (by unfold maxLen; omega) (by omega) ?_; intro vZ wZ hownZ hgZ hatZ)
                              have S109 := S108.out.own_push (i := 0) rfl (bb _) hownZ hgZ hatZ
                              obtain ⟨aZ, cZ, rfl⟩ := owns_form hownZ
                              clear hownZ hgZ hatZ S108
                              rw [insI_len hP (x := (i : Int)), insI_map] at S109
                              rw [insI_len hP (x := (i : Int))]
                              have j2 := S109.cell (i := 2) rfl (o := 2) rfl
                              have p2 := S109.frozen (i := 2) rfl 2
                              have SA := ((S109.store (i := 2) rfl 2 (.slice aZ (insI X Pn (i : Int)).length cZ)).bring (i := 0) rfl).drop2.swap_in (i := 1) rfl
                              have HM2 := Lib.hid (show MS w0 w1.heap.size (w.heap.size + 1) w.heap.size (.slice (some ⟨og, 0, none⟩) ord.length oc) (.slice (some ⟨lg, 0, none⟩) kl.length lc) (.slice (some ⟨rg, 0, none⟩) R.length rc) (.slice aa A.length ac) (.slice ba B.length bc) (.slice pa C.length pc) (.slice sa ks.length sc) ord kl ks R A B C ps (fks.length + 1) fks.length fks.length (.slice na (insP fks (.slice ca cl.length cc, cl)).length nc) (insP fks (.slice ca cl.length cc, cl)) ((.slice ca cl.length cc, cl) :: K2) _ from ⟨_, vy, vz, _, Y, Z, SA, (by rw [← insI_len hP]; have := hX.out; omega), hY.out, hZ.out, (insI_i64 IX.out hxI.out), IY.out, IZ.out⟩)
                              clear SA S109
                              go_wp2_with fail
                              go_meet
                              exact HM2
                        case rest =>
                        clear HM
                        have HM := Lib.hid (Hid.out hcut)
                        clear hcut
                        go_upto_region 17 with fail
                        go_cut [] (fun wx => Hid (MS w0 w1.heap.size (w.heap.size + 1) w.heap.size (.slice (some ⟨og, 0, none⟩) ord.length oc) (.slice (some ⟨lg, 0, none⟩) kl.length lc) (.slice (some ⟨rg, 0, none⟩) R.length rc) (.slice aa A.length ac) (.slice ba B.length bc) (.slice pa C.length pc) (.slice sa ks.length sc) ord kl ks R A B C ps (fks.length + 1) (fks.length + 1) fks.length (.slice na (insP fks (.slice ca cl.length cc, cl)).length nc) (insP fks (.slice ca cl.length cc, cl)) ((.slice ca cl.length cc, cl) :: K2) wx))
                        case first =>
                          as_aux_lemma =>
                            obtain ⟨vx, vy, vz, X, Y, Z, HS, hX, hY, hZ, IX, IY, IZ⟩ := HM.out
                            obtain ⟨xa2, xc2, rfl, hxc2, -⟩ := own_src (HS.own (i := 2) rfl)
                            have hP : Pn ≤ Y.length := by omega
                            have hPc : Pn ≤ xc2 := by omega
                            have hn2 : Y.length ≤ 1000000 := by omega
                            have hxI : I64 (j : Int) := by unfold I64; omega
                            replace HS := Lib.hid HS
                            replace hX := Lib.hid hX
                            replace hY := Lib.hid hY
                            replace hZ := Lib.hid hZ
                            replace IX := Lib.hid IX
                            replace IY := Lib.hid IY
                            replace IZ := Lib.hid IZ
                            replace hxI := Lib.hid hxI
                            clear HM
                            go_wp2_with fail
                            have S110 := Lib.hid (Sp.drew HS.out)
                            refine wp_region_tail_lit (S := (fun w' => w'.cell? ⟨w1.heap.size, 3, none⟩ = some (.slice xa2 Y.length xc2) ∧ w'.cell? ⟨og, b, none⟩ = some (.int .i64 j))) 15 [false, false, false, false, false, false, false, false, false, false, false, false, false, false, false, false, false, false] (by kernel_rfl) (by kernel_rfl) (by kernel_rfl) ?_ ?_
                            · exact ⟨S110.out.cell (i := 0) rfl (o := 3) rfl, own_cell (S110.out.own (i := 5) rfl) oJ.out⟩
                            intro hS
                            (refine walkT_take (i := 0) (v := ?_) rfl (by kernel_rfl) (by decide) (by kernel_rfl) (by kernel_rfl) (fun _ _ _ h => h) (Or.inl ⟨by rfl, ?_⟩) (by assumption) ?_; rotate_left; (focus (intro w hSw; (try dsimp only at hSw); go_simp; (try with_reducible rfl); done)); (try simp only [put_rules]))
                            (refine walkT_take (i := 1) (v := ?_) rfl (by kernel_rfl) (by decide) (by kernel_rfl) (by kernel_rfl) (fun _ _ _ h => h) (Or.inl ⟨by rfl, ?_⟩) (by assumption) ?_; rotate_left; (focus (intro w hSw; (try dsimp only at hSw); go_simp; (try with_reducible rfl); done)); (try simp only [put_rules]))
                            (refine walkT_take (i := 2) (v := ?_) rfl (by kernel_rfl) (by decide) (by kernel_rfl) (by kernel_rfl) (fun _ _ _ h => h) (Or.inl ⟨by rfl, ?_⟩) (by assumption) ?_; rotate_left; (focus (intro w hSw; (try dsimp only at hSw); go_simp; (try with_reducible rfl); done)); (try simp only [put_rules]))
                            (refine walkT_take (i := 3) (v := .slice _ Pn xc2) rfl (by kernel_rfl) (by decide) (by kernel_rfl) (by kernel_rfl) (fun _ _ _ h => h) (Or.inl ⟨by rfl, fun _ _ => exec_slice_to rfl rfl rfl Try.underlying25 hi hPc⟩) (by assumption) ?_; (try simp only [put_rules]))
                            (refine walkT_take (i := 5) (v := ?_) rfl (by kernel_rfl) (by decide) (by kernel_rfl) (by kernel_rfl) (fun _ _ _ h => h) (Or.inl ⟨by rfl, ?_⟩) (by assumption) ?_; rotate_left; (focus (intro w hSw; (try dsimp only at hSw); go_simp; (try with_reducible rfl); done)); (try simp only [put_rules]))
                            (refine walkT_take (i := 6) (v := ?_) rfl (by kernel_rfl) (by decide) (by kernel_rfl) (by kernel_rfl) (fun _ _ _ h => h) (Or.inl ⟨by rfl, ?_⟩) (by assumption) ?_; rotate_left; (focus (intro w hSw; (try dsimp only at hSw); go_simp; (try with_reducible rfl); done)); (try simp only [put_rules]))
                            (refine walkT_take (i := 7) (v := ?_) rfl (by kernel_rfl) (by decide) (by kernel_rfl) (by kernel_rfl) (fun _ _ _ h => h) (Or.inl ⟨by rfl, ?_⟩) (by assumption) ?_; rotate_left; (focus (intro w hSw; (try dsimp only at hSw); go_simp; (try with_reducible rfl); done)); (try simp only [put_rules]))
                            (refine walkT_take (i := 8) (v := ?_) rfl (by kernel_rfl) (by decide) (by kernel_rfl) (by kernel_rfl) (fun _ _ _ h => h) (Or.inl ⟨by rfl, ?_⟩) (by assumption) ?_; rotate_left; (focus (intro w hSw; (try dsimp only at hSw); go_simp; (try with_reducible rfl); done)); (try simp only [put_rules]))
                            (refine walkT_take (i := 11) (v := ?_) rfl (by kernel_rfl) (by decide) (by kernel_rfl) (by kernel_rfl) (fun _ _ _ h => h) (Or.inl ⟨by rfl, ?_⟩) (by assumption) ?_; rotate_left; (focus (intro w hSw; (try dsimp only at hSw); go_simp; (try with_reducible rfl); done)); (try simp only [put_rules]))
                            (refine walkT_take (i := 12) (v := ?_) rfl (by kernel_rfl) (by decide) (by kernel_rfl) (by kernel_rfl) (fun _ _ _ h => h) (Or.inl ⟨by rfl, ?_⟩) (by assumption) ?_; rotate_left; (focus (intro w hSw; (try dsimp only at hSw); go_simp; (try with_reducible rfl); done)); (try simp only [put_rules]))
                            (refine walkT_take (i := 13) (v := ?_) rfl (by kernel_rfl) (by decide) (by kernel_rfl) (by kernel_rfl) (fun _ _ _ h => h) (Or.inl ⟨by rfl, ?_⟩) (by assumption) ?_; rotate_left; (focus (intro w hSw; (try dsimp only at hSw); go_simp; (try with_reducible rfl); done)); (try simp only [put_rules]))
                            (refine walkT_take (i := 14) (v := .slice (cutA _ xc2 Pn 1) (Y.length - Pn) (xc2 - Pn)) rfl (by kernel_rfl) (by decide) (by kernel_rfl) (by kernel_rfl) (fun _ _ _ h => h) (Or.inl ⟨by rfl, fun _ _ => exec_slice_from rfl rfl rfl Try.underlying25 hi hz1 hP⟩) (by assumption) ?_; (try simp only [put_rules]))
                            clear hS
                            (refine walkT_ready (rs := [4, 9]) (by kernel_rfl) (by simp) (by decide) ?_; refine AllT.cons rfl (fun K hK => ?_) (AllT.cons rfl (fun K hK => ?_) AllT.nil))
                            · skip
                              go_simp
                              go_at_call 53
                              obtain ⟨fa111, ra111⟩ := S110.out.ints_row (i := 2) rfl IY.out
                              obtain ⟨fb111, rb111, _⟩ := row_int_take (k := Pn) ra111 hP
                              refine (l1Own_any _ (Y.take Pn) _ _ rb111 (by rw [List.length_take]; omega)).mono ?_
                              rintro e w111 ⟨v111, rfl, ho111, hb111⟩
                              rw [List.length_take, Nat.min_eq_left hP] at ho111
                              have S111 := S110.out.own_call hb111 ho111
                              obtain ⟨a111, c111, rfl⟩ := owns_form ho111
                              replace S111 := Lib.hid S111
                              clear ho111 hb111 ra111 rb111 S110
                              go_wp2_with fail
                              refine hK.out _ _ ?_ (fun _ => ?_)
                              · exact ⟨S111.out.cell (i := 1) rfl (o := 3) rfl, own_cell (S111.out.own (i := 6) rfl) oJ.out⟩
                              clear hK
                              (try simp only [put_rules])
                              (refine walkT_ready (rs := [9]) (by kernel_rfl) (by simp) (by decide) ?_; refine AllT.cons rfl (fun K hK => ?_) AllT.nil)
                              go_simp
                              have S112 := S111.out.alloc_box #[.int .i64 (j : Int)] 3
                              (repeat (first | simp only [drew_size] at S112 | simp only [World.size_setCell] at S112 | simp only [World.size_alloc] at S112))
                              replace S112 := Lib.hid S112
                              clear S111
                              refine hK.out _ _ ?_ (fun _ => ?_)
                              · exact ⟨S112.out.cell (i := 2) rfl (o := 3) rfl, own_cell (S112.out.own (i := 7) rfl) oJ.out⟩
                              clear hK
                              (try simp only [put_rules])
                              (refine walkT_ready (rs := [10]) (by kernel_rfl) (by simp) (by decide) ?_; refine AllT.cons rfl (fun K hK => ?_) AllT.nil)
                              have kB113 := S112.out.cell (i := 0) rfl (o := 0) rfl
                              (refine step_append_src rfl _ _ rfl Try.underlying25 hi hz0 hz1 hz2 rfl (by decide) _ Pn _ rfl (S112.out.own (i := 1) rfl) _ 1 1 [.int .i64 (j : Int)] rfl (Src.one kB113) (by simp [Value.oneCell']) (by unfold maxLen; omega) (by omega) ?_; intro vH wH hownH hgH hatH)
                              have S113 := S112.out.own_push (i := 1) rfl (bb _) hownH hgH hatH
                              obtain ⟨aH113, cH113, rfl⟩ := owns_form hownH
                              replace S113 := Lib.hid S113
                              clear hownH hgH hatH kB113 S112
                              refine hK.out _ _ ?_ (fun _ => ?_)
                              · exact ⟨S113.out.cell (i := 2) rfl (o := 3) rfl, own_cell (S113.out.own (i := 7) rfl) oJ.out⟩
                              clear hK
                              (try simp only [put_rules])
                              (refine walkT_done (by kernel_rfl) ?_)
                              simp only [List.drop_succ_cons, List.drop_zero]
                              (refine wpList_append_src rfl _ _ rfl Try.underlying25 hi hz0 hz1 hz2 rfl (by decide) _ (Pn + 1) _ rfl (S113.out.own (i := 1) rfl) _ (Y.length - Pn) _ _ rfl ((own_src' (S113.out.own (i := 4) rfl)).2.2 Pn hP) (ints_drop_one _ _) (by unfold maxLen; omega) (by omega) ?_; intro vZ wZ hownZ hgZ hatZ)
                              have S114 := S113.out.own_push (i := 1) rfl (bb _) hownZ hgZ hatZ
                              obtain ⟨aZ, cZ, rfl⟩ := owns_form hownZ
                              clear hownZ hgZ hatZ S113
                              rw [insI_len hP (x := (j : Int)), insI_map] at S114
                              rw [insI_len hP (x := (j : Int))]
                              have j2 := S114.cell (i := 2) rfl (o := 3) rfl
                              have p2 := S114.frozen (i := 2) rfl 3
                              have SA := ((S114.store (i := 2) rfl 3 (.slice aZ (insI Y Pn (j : Int)).length cZ)).bring (i := 1) rfl).drop2.swap_in (i := 2) rfl
                              have HM2 := Lib.hid (show MS w0 w1.heap.size (w.heap.size + 1) w.heap.size (.slice (some ⟨og, 0, none⟩) ord.length oc) (.slice (some ⟨lg, 0, none⟩) kl.length lc) (.slice (some ⟨rg, 0, none⟩) R.length rc) (.slice aa A.length ac) (.slice ba B.length bc) (.slice pa C.length pc) (.slice sa ks.length sc) ord kl ks R A B C ps (fks.length + 1) (fks.length + 1) fks.length (.slice na (insP fks (.slice ca cl.length cc, cl)).length nc) (insP fks (.slice ca cl.length cc, cl)) ((.slice ca cl.length cc, cl) :: K2) _ from ⟨vx, _, vz, X, _, Z, SA, hX.out, (by rw [← insI_len hP]; have := hY.out; omega), hZ.out, IX.out, (insI_i64 IY.out hxI.out), IZ.out⟩)
                              clear SA S114
                              go_wp2_with fail
                              go_meet
                              exact HM2
                            · skip
                              go_simp
                              have S115 := S110.out.alloc_box #[.int .i64 (j : Int)] 3
                              (repeat (first | simp only [drew_size] at S115 | simp only [World.size_setCell] at S115 | simp only [World.size_alloc] at S115))
                              replace S115 := Lib.hid S115
                              clear S110
                              refine hK.out _ _ ?_ (fun _ => ?_)
                              · exact ⟨S115.out.cell (i := 1) rfl (o := 3) rfl, own_cell (S115.out.own (i := 6) rfl) oJ.out⟩
                              clear hK
                              (try simp only [put_rules])
                              (refine walkT_ready (rs := [4]) (by kernel_rfl) (by simp) (by decide) ?_; refine AllT.cons rfl (fun K hK => ?_) AllT.nil)
                              go_simp
                              go_at_call 53
                              obtain ⟨fa116, ra116⟩ := S115.out.ints_row (i := 3) rfl IY.out
                              obtain ⟨fb116, rb116, _⟩ := row_int_take (k := Pn) ra116 hP
                              refine (l1Own_any _ (Y.take Pn) _ _ rb116 (by rw [List.length_take]; omega)).mono ?_
                              rintro e w116 ⟨v116, rfl, ho116, hb116⟩
                              rw [List.length_take, Nat.min_eq_left hP] at ho116
                              have S116 := S115.out.own_call hb116 ho116
                              obtain ⟨a116, c116, rfl⟩ := owns_form ho116
                              replace S116 := Lib.hid S116
                              clear ho116 hb116 ra116 rb116 S115
                              go_wp2_with fail
                              refine hK.out _ _ ?_ (fun _ => ?_)
                              · exact ⟨S116.out.cell (i := 2) rfl (o := 3) rfl, own_cell (S116.out.own (i := 7) rfl) oJ.out⟩
                              clear hK
                              (try simp only [put_rules])
                              (refine walkT_ready (rs := [10]) (by kernel_rfl) (by simp) (by decide) ?_; refine AllT.cons rfl (fun K hK => ?_) AllT.nil)
                              have kB117 := S116.out.cell (i := 1) rfl (o := 0) rfl
                              (refine step_append_src rfl _ _ rfl Try.underlying25 hi hz0 hz1 hz2 rfl (by decide) _ Pn _ rfl (S116.out.own (i := 0) rfl) _ 1 1 [.int .i64 (j : Int)] rfl (Src.one kB117) (by simp [Value.oneCell']) (by unfold maxLen; omega) (by omega) ?_; intro vH wH hownH hgH hatH)
                              have S117 := S116.out.own_push (i := 0) rfl (bb _) hownH hgH hatH
                              obtain ⟨aH117, cH117, rfl⟩ := owns_form hownH
                              replace S117 := Lib.hid S117
                              clear hownH hgH hatH kB117 S116
                              refine hK.out _ _ ?_ (fun _ => ?_)
                              · exact ⟨S117.out.cell (i := 2) rfl (o := 3) rfl, own_cell (S117.out.own (i := 7) rfl) oJ.out⟩
                              clear hK
                              (try simp only [put_rules])
                              (refine walkT_done (by kernel_rfl) ?_)
                              simp only [List.drop_succ_cons, List.drop_zero]
                              (refine wpList_append_src rfl _ _ rfl Try.underlying25 hi hz0 hz1 hz2 rfl (by decide) _ (Pn + 1) _ rfl (S117.out.own (i := 0) rfl) _ (Y.length - Pn) _ _ rfl ((own_src' (S117.out.own (i := 4) rfl)).2.2 Pn hP) (ints_drop_one _ _) (by unfold maxLen; omega) (by omega) ?_; intro vZ wZ hownZ hgZ hatZ)
                              have S118 := S117.out.own_push (i := 0) rfl (bb _) hownZ hgZ hatZ
                              obtain ⟨aZ, cZ, rfl⟩ := owns_form hownZ
                              clear hownZ hgZ hatZ S117
                              rw [insI_len hP (x := (j : Int)), insI_map] at S118
                              rw [insI_len hP (x := (j : Int))]
                              have j2 := S118.cell (i := 2) rfl (o := 3) rfl
                              have p2 := S118.frozen (i := 2) rfl 3
                              have SA := ((S118.store (i := 2) rfl 3 (.slice aZ (insI Y Pn (j : Int)).length cZ)).bring (i := 0) rfl).drop2.swap_in (i := 2) rfl
                              have HM2 := Lib.hid (show MS w0 w1.heap.size (w.heap.size + 1) w.heap.size (.slice (some ⟨og, 0, none⟩) ord.length oc) (.slice (some ⟨lg, 0, none⟩) kl.length lc) (.slice (some ⟨rg, 0, none⟩) R.length rc) (.slice aa A.length ac) (.slice ba B.length bc) (.slice pa C.length pc) (.slice sa ks.length sc) ord kl ks R A B C ps (fks.length + 1) (fks.length + 1) fks.length (.slice na (insP fks (.slice ca cl.length cc, cl)).length nc) (insP fks (.slice ca cl.length cc, cl)) ((.slice ca cl.length cc, cl) :: K2) _ from ⟨vx, _, vz, X, _, Z, SA, hX.out, (by rw [← insI_len hP]; have := hY.out; omega), hZ.out, IX.out, (insI_i64 IY.out hxI.out), IZ.out⟩)
                              clear SA S118
                              go_wp2_with fail
                              go_meet
                              exact HM2
                        case rest =>
                        clear HM
                        have HM := Lib.hid (Hid.out hcut)
                        clear hcut
                        go_upto_region 18 with fail
                        as_aux_lemma =>
                          obtain ⟨vx, vy, vz, X, Y, Z, HS, hX, hY, hZ, IX, IY, IZ⟩ := HM.out
                          obtain ⟨xa2, xc2, rfl, hxc2, -⟩ := own_src (HS.own (i := 3) rfl)
                          have hP : Pn ≤ Z.length := by omega
                          have hPc : Pn ≤ xc2 := by omega
                          have hn2 : Z.length ≤ 1000000 := by omega
                          have hxI : I64 (x : Int) := by unfold I64; omega
                          replace HS := Lib.hid HS
                          replace hX := Lib.hid hX
                          replace hY := Lib.hid hY
                          replace hZ := Lib.hid hZ
                          replace IX := Lib.hid IX
                          replace IY := Lib.hid IY
                          replace IZ := Lib.hid IZ
                          replace hxI := Lib.hid hxI
                          clear HM
                          go_wp2_with fail
                          have S119 := Lib.hid (Sp.drew HS.out)
                          refine wp_region_tail_lit (S := (fun w' => w'.cell? ⟨w1.heap.size, 4, none⟩ = some (.slice xa2 Z.length xc2))) 12 [false, false, false, false, false, false, false, false, false, false, false, false, false, false, false] (by kernel_rfl) (by kernel_rfl) (by kernel_rfl) ?_ ?_
                          · exact S119.out.cell (i := 0) rfl (o := 4) rfl
                          intro hS
                          (refine walkT_take (i := 0) (v := ?_) rfl (by kernel_rfl) (by decide) (by kernel_rfl) (by kernel_rfl) (fun _ _ _ h => h) (Or.inl ⟨by rfl, ?_⟩) (by assumption) ?_; rotate_left; (focus (intro w hSw; (try dsimp only at hSw); go_simp; (try with_reducible rfl); done)); (try simp only [put_rules]))
                          (refine walkT_take (i := 1) (v := ?_) rfl (by kernel_rfl) (by decide) (by kernel_rfl) (by kernel_rfl) (fun _ _ _ h => h) (Or.inl ⟨by rfl, ?_⟩) (by assumption) ?_; rotate_left; (focus (intro w hSw; (try dsimp only at hSw); go_simp; (try with_reducible rfl); done)); (try simp only [put_rules]))
                          (refine walkT_take (i := 2) (v := ?_) rfl (by kernel_rfl) (by decide) (by kernel_rfl) (by kernel_rfl) (fun _ _ _ h => h) (Or.inl ⟨by rfl, ?_⟩) (by assumption) ?_; rotate_left; (focus (intro w hSw; (try dsimp only at hSw); go_simp; (try with_reducible rfl); done)); (try simp only [put_rules]))
                          (refine walkT_take (i := 3) (v := .slice _ Pn xc2) rfl (by kernel_rfl) (by decide) (by kernel_rfl) (by kernel_rfl) (fun _ _ _ h => h) (Or.inl ⟨by rfl, fun _ _ => exec_slice_to rfl rfl rfl Try.underlying25 hi hPc⟩) (by assumption) ?_; (try simp only [put_rules]))
                          (refine walkT_take (i := 5) (v := ?_) rfl (by kernel_rfl) (by decide) (by kernel_rfl) (by kernel_rfl) (fun _ _ _ h => h) (Or.inl ⟨by rfl, ?_⟩) (by assumption) ?_; rotate_left; (focus (intro w hSw; (try dsimp only at hSw); go_simp; (try with_reducible rfl); done)); (try simp only [put_rules]))
                          (refine walkT_take (i := 8) (v := ?_) rfl (by kernel_rfl) (by decide) (by kernel_rfl) (by kernel_rfl) (fun _ _ _ h => h) (Or.inl ⟨by rfl, ?_⟩) (by assumption) ?_; rotate_left; (focus (intro w hSw; (try dsimp only at hSw); go_simp; (try with_reducible rfl); done)); (try simp only [put_rules]))
                          (refine walkT_take (i := 9) (v := ?_) rfl (by kernel_rfl) (by decide) (by kernel_rfl) (by kernel_rfl) (fun _ _ _ h => h) (Or.inl ⟨by rfl, ?_⟩) (by assumption) ?_; rotate_left; (focus (intro w hSw; (try dsimp only at hSw); go_simp; (try with_reducible rfl); done)); (try simp only [put_rules]))
                          (refine walkT_take (i := 10) (v := ?_) rfl (by kernel_rfl) (by decide) (by kernel_rfl) (by kernel_rfl) (fun _ _ _ h => h) (Or.inl ⟨by rfl, ?_⟩) (by assumption) ?_; rotate_left; (focus (intro w hSw; (try dsimp only at hSw); go_simp; (try with_reducible rfl); done)); (try simp only [put_rules]))
                          (refine walkT_take (i := 11) (v := .slice (cutA _ xc2 Pn 1) (Z.length - Pn) (xc2 - Pn)) rfl (by kernel_rfl) (by decide) (by kernel_rfl) (by kernel_rfl) (fun _ _ _ h => h) (Or.inl ⟨by rfl, fun _ _ => exec_slice_from rfl rfl rfl Try.underlying25 hi hz1 hP⟩) (by assumption) ?_; (try simp only [put_rules]))
                          clear hS
                          (refine walkT_ready (rs := [4, 6]) (by kernel_rfl) (by simp) (by decide) ?_; refine AllT.cons rfl (fun K hK => ?_) (AllT.cons rfl (fun K hK => ?_) AllT.nil))
                          · skip
                            go_simp
                            go_at_call 53
                            obtain ⟨fa120, ra120⟩ := S119.out.ints_row (i := 3) rfl IZ.out
                            obtain ⟨fb120, rb120, _⟩ := row_int_take (k := Pn) ra120 hP
                            refine (l1Own_any _ (Z.take Pn) _ _ rb120 (by rw [List.length_take]; omega)).mono ?_
                            rintro e w120 ⟨v120, rfl, ho120, hb120⟩
                            rw [List.length_take, Nat.min_eq_left hP] at ho120
                            have S120 := S119.out.own_call hb120 ho120
                            obtain ⟨a120, c120, rfl⟩ := owns_form ho120
                            replace S120 := Lib.hid S120
                            clear ho120 hb120 ra120 rb120 S119
                            go_wp2_with fail
                            refine hK.out _ _ ?_ (fun _ => ?_)
                            · exact S120.out.cell (i := 1) rfl (o := 4) rfl
                            clear hK
                            (try simp only [put_rules])
                            (refine walkT_ready (rs := [6]) (by kernel_rfl) (by simp) (by decide) ?_; refine AllT.cons rfl (fun K hK => ?_) AllT.nil)
                            go_simp
                            have S121 := S120.out.alloc_box #[.int .i64 (x : Int)] 3
                            (repeat (first | simp only [drew_size] at S121 | simp only [World.size_setCell] at S121 | simp only [World.size_alloc] at S121))
                            replace S121 := Lib.hid S121
                            clear S120
                            refine hK.out _ _ ?_ (fun _ => ?_)
                            · exact S121.out.cell (i := 2) rfl (o := 4) rfl
                            clear hK
                            (try simp only [put_rules])
                            (refine walkT_ready (rs := [7]) (by kernel_rfl) (by simp) (by decide) ?_; refine AllT.cons rfl (fun K hK => ?_) AllT.nil)
                            have kB122 := S121.out.cell (i := 0) rfl (o := 0) rfl
                            (refine step_append_src rfl _ _ rfl Try.underlying25 hi hz0 hz1 hz2 rfl (by decide) _ Pn _ rfl (S121.out.own (i := 1) rfl) _ 1 1 [.int .i64 (x : Int)] rfl (Src.one kB122) (by simp [Value.oneCell']) (by unfold maxLen; omega) (by omega) ?_; intro vH wH hownH hgH hatH)
                            have S122 := S121.out.own_push (i := 1) rfl (bb _) hownH hgH hatH
                            obtain ⟨aH122, cH122, rfl⟩ := owns_form hownH
                            replace S122 := Lib.hid S122
                            clear hownH hgH hatH kB122 S121
                            refine hK.out _ _ ?_ (fun _ => ?_)
                            · exact S122.out.cell (i := 2) rfl (o := 4) rfl
                            clear hK
                            (try simp only [put_rules])
                            (refine walkT_done (by kernel_rfl) ?_)
                            simp only [List.drop_succ_cons, List.drop_zero]
                            (refine wpList_append_src rfl _ _ rfl Try.underlying25 hi hz0 hz1 hz2 rfl (by decide) _ (Pn + 1) _ rfl (S122.out.own (i := 1) rfl) _ (Z.length - Pn) _ _ rfl ((own_src' (S122.out.own (i := 5) rfl)).2.2 Pn hP) (ints_drop_one _ _) (by unfold maxLen; omega) (by omega) ?_; intro vZ wZ hownZ hgZ hatZ)
                            have S123 := S122.out.own_push (i := 1) rfl (bb _) hownZ hgZ hatZ
                            obtain ⟨aZ, cZ, rfl⟩ := owns_form hownZ
                            clear hownZ hgZ hatZ S122
                            rw [insI_len hP (x := (x : Int)), insI_map] at S123
                            rw [insI_len hP (x := (x : Int))]
                            have j2 := S123.cell (i := 2) rfl (o := 4) rfl
                            have p2 := S123.frozen (i := 2) rfl 4
                            have SA := ((S123.store (i := 2) rfl 4 (.slice aZ (insI Z Pn (x : Int)).length cZ)).bring (i := 1) rfl).drop2.swap_in (i := 3) rfl
                            have HM2 := Lib.hid (show MS w0 w1.heap.size (w.heap.size + 1) w.heap.size (.slice (some ⟨og, 0, none⟩) ord.length oc) (.slice (some ⟨lg, 0, none⟩) kl.length lc) (.slice (some ⟨rg, 0, none⟩) R.length rc) (.slice aa A.length ac) (.slice ba B.length bc) (.slice pa C.length pc) (.slice sa ks.length sc) ord kl ks R A B C ps (fks.length + 1) (fks.length + 1) (fks.length + 1) (.slice na (insP fks (.slice ca cl.length cc, cl)).length nc) (insP fks (.slice ca cl.length cc, cl)) ((.slice ca cl.length cc, cl) :: K2) _ from ⟨vx, vy, _, X, Y, _, SA, hX.out, hY.out, (by rw [← insI_len hP]; have := hZ.out; omega), IX.out, IY.out, (insI_i64 IZ.out hxI.out)⟩)
                            clear SA S123
                            have HN := Lib.hid (HM2.out.rs hFl2.out hFl2.out hFl2.out hFd2.out hKK.out hKF.out)
                            clear HM2
                            go_wp2_with fail
                            go_roundw
                            case rel => exact ⟨x + 1, by omega, by omega, by go_num, HN⟩
                            case measure => simp [intOf]; omega
                          · skip
                            go_simp
                            have S124 := S119.out.alloc_box #[.int .i64 (x : Int)] 3
                            (repeat (first | simp only [drew_size] at S124 | simp only [World.size_setCell] at S124 | simp only [World.size_alloc] at S124))
                            replace S124 := Lib.hid S124
                            clear S119
                            refine hK.out _ _ ?_ (fun _ => ?_)
                            · exact S124.out.cell (i := 1) rfl (o := 4) rfl
                            clear hK
                            (try simp only [put_rules])
                            (refine walkT_ready (rs := [4]) (by kernel_rfl) (by simp) (by decide) ?_; refine AllT.cons rfl (fun K hK => ?_) AllT.nil)
                            go_simp
                            go_at_call 53
                            obtain ⟨fa125, ra125⟩ := S124.out.ints_row (i := 4) rfl IZ.out
                            obtain ⟨fb125, rb125, _⟩ := row_int_take (k := Pn) ra125 hP
                            refine (l1Own_any _ (Z.take Pn) _ _ rb125 (by rw [List.length_take]; omega)).mono ?_
                            rintro e w125 ⟨v125, rfl, ho125, hb125⟩
                            rw [List.length_take, Nat.min_eq_left hP] at ho125
                            have S125 := S124.out.own_call hb125 ho125
                            obtain ⟨a125, c125, rfl⟩ := owns_form ho125
                            replace S125 := Lib.hid S125
                            clear ho125 hb125 ra125 rb125 S124
                            go_wp2_with fail
                            refine hK.out _ _ ?_ (fun _ => ?_)
                            · exact S125.out.cell (i := 2) rfl (o := 4) rfl
                            clear hK
                            (try simp only [put_rules])
                            (refine walkT_ready (rs := [7]) (by kernel_rfl) (by simp) (by decide) ?_; refine AllT.cons rfl (fun K hK => ?_) AllT.nil)
                            have kB126 := S125.out.cell (i := 1) rfl (o := 0) rfl
                            (refine step_append_src rfl _ _ rfl Try.underlying25 hi hz0 hz1 hz2 rfl (by decide) _ Pn _ rfl (S125.out.own (i := 0) rfl) _ 1 1 [.int .i64 (x : Int)] rfl (Src.one kB126) (by simp [Value.oneCell']) (by unfold maxLen; omega) (by omega) ?_; intro vH wH hownH hgH hatH)
                            have S126 := S125.out.own_push (i := 0) rfl (bb _) hownH hgH hatH
                            obtain ⟨aH126, cH126, rfl⟩ := owns_form hownH
                            replace S126 := Lib.hid S126
                            clear hownH hgH hatH kB126 S125
                            refine hK.out _ _ ?_ (fun _ => ?_)
                            · exact S126.out.cell (i := 2) rfl (o := 4) rfl
                            clear hK
                            (try simp only [put_rules])
                            (refine walkT_done (by kernel_rfl) ?_)
                            simp only [List.drop_succ_cons, List.drop_zero]
                            (refine wpList_append_src rfl _ _ rfl Try.underlying25 hi hz0 hz1 hz2 rfl (by decide) _ (Pn + 1) _ rfl (S126.out.own (i := 0) rfl) _ (Z.length - Pn) _ _ rfl ((own_src' (S126.out.own (i := 5) rfl)).2.2 Pn hP) (ints_drop_one _ _) (by unfold maxLen; omega) (by omega) ?_; intro vZ wZ hownZ hgZ hatZ)
                            have S127 := S126.out.own_push (i := 0) rfl (bb _) hownZ hgZ hatZ
                            obtain ⟨aZ, cZ, rfl⟩ := owns_form hownZ
                            clear hownZ hgZ hatZ S126
                            rw [insI_len hP (x := (x : Int)), insI_map] at S127
                            rw [insI_len hP (x := (x : Int))]
                            have j2 := S127.cell (i := 2) rfl (o := 4) rfl
                            have p2 := S127.frozen (i := 2) rfl 4
                            have SA := ((S127.store (i := 2) rfl 4 (.slice aZ (insI Z Pn (x : Int)).length cZ)).bring (i := 0) rfl).drop2.swap_in (i := 3) rfl
                            have HM2 := Lib.hid (show MS w0 w1.heap.size (w.heap.size + 1) w.heap.size (.slice (some ⟨og, 0, none⟩) ord.length oc) (.slice (some ⟨lg, 0, none⟩) kl.length lc) (.slice (some ⟨rg, 0, none⟩) R.length rc) (.slice aa A.length ac) (.slice ba B.length bc) (.slice pa C.length pc) (.slice sa ks.length sc) ord kl ks R A B C ps (fks.length + 1) (fks.length + 1) (fks.length + 1) (.slice na (insP fks (.slice ca cl.length cc, cl)).length nc) (insP fks (.slice ca cl.length cc, cl)) ((.slice ca cl.length cc, cl) :: K2) _ from ⟨vx, vy, _, X, Y, _, SA, hX.out, hY.out, (by rw [← insI_len hP]; have := hZ.out; omega), IX.out, IY.out, (insI_i64 IZ.out hxI.out)⟩)
                            clear SA S127
                            have HN := Lib.hid (HM2.out.rs hFl2.out hFl2.out hFl2.out hFd2.out hKK.out hKF.out)
                            clear HM2
                            go_wp2_with fail
                            go_roundw
                            case rel => exact ⟨x + 1, by omega, by omega, by go_num, HN⟩
                            case measure => simp [intOf]; omega
                      · have HN := Lib.hid (show RS w0 w1.heap.size (w.heap.size + 1) w.heap.size (.slice (some ⟨og, 0, none⟩) ord.length oc) (.slice (some ⟨lg, 0, none⟩) kl.length lc) (.slice (some ⟨rg, 0, none⟩) R.length rc) (.slice aa A.length ac) (.slice ba B.length bc) (.slice pa C.length pc) (.slice sa ks.length sc) ord kl ks K0 R A B C ps width (candV (kl.map Prod.snd) R ord r a b ((x + 1 : Nat) : Int)) _ from ⟨vx, vy, vz, vf, X, Y, Z, fks, _, S2'.out, hX.out, hY.out, hZ.out, IX.out, IY.out, IZ.out, (hFd.out.skip (skip_yes hq.out.symm)).congr hcan.out, fun q hq => List.mem_cons_of_mem _ (hK2.out q hq), fun q hq => List.mem_cons_of_mem _ (hfk.out q hq)⟩)
                        clear S2' hq hFd hK2 hfk hX hY hZ IX IY IZ hcan
                        go_wp2_with fail
                        go_roundw
                        case rel => exact ⟨x + 1, by omega, by omega, by go_num, HN⟩
                        case measure => simp [intOf]; omega
                  · have hxe : (x : Int) = n + 1 := by omega
                    have HN := HV.out
                    rw [hxe] at HN
                    replace HN := Lib.hid (HN.congr (fun _ => candB_succ hgl.out))
                    clear HV hxe
                    go_wp2_with fail
                    go_roundw
                    case rel => exact ⟨b + 1, by omega, by go_num, HN⟩
                    case measure => simp [intOf]; omega
              · have hyes : R.getD i 0 < (r : Int) ∧ R.getD j 0 < (r : Int) := by
                  rw [gi.out, gj.out]
                  have := hq.out.symm
                  rw [Bool.and_eq_true, decide_eq_true_eq, decide_eq_true_eq] at this
                  exact this
                have HN := Lib.hid (HB.out.congr (fun _ => candB_skip hoa.out hob.out hyes))
                clear hq HB gi gj hyes
                go_wp2_with fail
                go_roundw
                case rel => exact ⟨b + 1, by omega, by go_num, HN⟩
                case measure => simp [intOf]; omega
          · obtain rfl : b = ord.length := by omega
            have HN := Lib.hid (HB.out.congr (fun _ => candA_succ))
            clear HB
            go_wp2_with fail
            go_roundw
            case rel => exact ⟨a + 1, by omega, by go_num, HN⟩
            case measure => simp [intOf]; omega
    · obtain rfl : a = ord.length := by omega
      obtain ⟨vx, vy, vz, vf, X, Y, Z, fks, K2, HS, hX, hY, hZ, IX, IY, IZ, hFd, hK2, hfk⟩ := HA.out
      have hFl : fks.length ≤ 4096 := by have := good_few hFd.asc.nodup hFd.good; rwa [List.length_map] at this
      have hFd3 := hFd.congr (fun c => candA_all hord.out)
      have hnx := hS.out.at_.next hFd3.asc.nodup hFd3.mem
      rw [List.length_map] at hnx
      obtain ⟨xa2, xc2, rfl, hxc2, -⟩ := own_src (HS.own (i := 1) rfl)
      obtain ⟨ya2, yc2, rfl, hyc2, -⟩ := own_src (HS.own (i := 2) rfl)
      obtain ⟨za2, zc2, rfl, hzc2, -⟩ := own_src (HS.own (i := 3) rfl)
      obtain ⟨fa, fc, rfl, hfc, -⟩ := own_src (HS.own (i := 4) rfl)
      have hAl := hS.out.la
      have hBl := hS.out.lb
      have hCl := hS.out.lc
      have HSS0 : SS w0 w1.heap.size (w.heap.size + 1) w.heap.size (.slice oa ord.length oc) (.slice aa A.length ac) (.slice ba B.length bc) (.slice pa C.length pc) (.slice xa2 X.length xc2) (.slice ya2 Y.length yc2) (.slice za2 Z.length zc2) (.slice fa fks.length fc) X Y Z ord A B C kl ks fks K2 R ps rd 0 _ := ⟨_, _, _, ks, kl, R, HS, by simp, by simp, hS.out.asc, by simp, fun q hq => hK2 q (hS.out.ms q hq)⟩
      have hmem := hFd3.mem
      have hsame := hS.out.same
      have hgood := hFd.good
      have hFasc := hFd.asc
      replace hnx := Lib.hid hnx
      replace hFd3 := Lib.hid hFd3
      replace hK2 := Lib.hid hK2
      replace hfk := Lib.hid hfk
      replace HSS0 := Lib.hid HSS0
      replace hmem := Lib.hid hmem
      replace hsame := Lib.hid hsame
      replace hgood := Lib.hid hgood
      replace hFasc := Lib.hid hFasc
      replace hX := Lib.hid hX
      replace hY := Lib.hid hY
      replace hZ := Lib.hid hZ
      replace IX := Lib.hid IX
      replace IY := Lib.hid IY
      replace IZ := Lib.hid IZ
      replace hAl := Lib.hid hAl
      replace hBl := Lib.hid hBl
      replace hCl := Lib.hid hCl
      clear HS HA hFd hxc2 hyc2 hzc2 hfc
      obtain ⟨iR, hiR, hzR0, hzR1, hzR2⟩ := info_parts infoRow
      go_wp2_with fail
      go_loopw [18] (fun i wr => ∃ t : Nat, t ≤ fks.length ∧ i = .int .i64 t ∧ Hid (SS w0 w1.heap.size (w.heap.size + 1) w.heap.size (.slice oa ord.length oc) (.slice aa A.length ac) (.slice ba B.length bc) (.slice pa C.length pc) (.slice xa2 X.length xc2) (.slice ya2 Y.length yc2) (.slice za2 Z.length zc2) (.slice fa fks.length fc) X Y Z ord A B C kl ks fks K2 R ps rd t wr)) (fun i _ => fks.length - (intOf i).toNat)
      case atStart => exact ⟨0, Nat.zero_le _, rfl, HSS0⟩
      case round =>
        obtain ⟨t, ht, rfl, HT⟩ := hrel
        clear HSS0
        obtain ⟨lv2, rv2, sv2, ks2, kt, Rt, HS, hkt, hRt, hA2, hM2, hk2⟩ := HT.out
        obtain ⟨la2, lc2, rfl, hlc2, -⟩ := own_src (HS.own (i := 8) rfl)
        obtain ⟨ra2, rc2, rfl, hrc2, -⟩ := own_src (HS.own (i := 9) rfl)
        obtain ⟨sa2, sc2, rfl, hsc2, -⟩ := own_src (HS.own (i := 13) rfl)
        have bF := HS.cell (i := 0) rfl (o := 5) rfl
        by_cases hltt : t < fks.length
        · skip
          as_aux_lemma =>
            obtain ⟨fg, rfl⟩ := own_ptr (HS.own (i := 4) rfl) (by omega)
            obtain ⟨Ge, re⟩ := HS.pool_at (i := 14) rfl (hfk.out _ (List.getElem_mem hltt))
            obtain ⟨ea, ec, ee, _, _⟩ := Ty.row_len re
            have le : (fks.map Prod.fst)[t]? = some (.slice ea fks[t].2.length ec) := by rw [List.getElem?_map, List.getElem?_eq_getElem hltt, ← ee]; rfl
            obtain ⟨m1, m2⟩ := kl_more (kl := kl) hltt
            rw [ee] at m2
            obtain ⟨m3, m4⟩ := @rs_more R t rd
            have hktl : kt.length ≤ 10000 := by rw [hkt, List.length_append, List.length_take]; omega
            have hRtl : Rt.length ≤ 10000 := by rw [hRt, List.length_append, List.length_replicate]; have := hlR.out; omega
            obtain ⟨kt2, hkt2⟩ : ∃ z, z = kl ++ fks.take (t + 1) := ⟨_, rfl⟩
            obtain ⟨Rt2, hRt2⟩ : ∃ z, z = R ++ List.replicate (t + 1) rd := ⟨_, rfl⟩
            rw [← hkt, ← hkt2] at m1 m2
            rw [← hRt, ← hRt2] at m3 m4
            replace hkt2 := Lib.hid hkt2
            replace hRt2 := Lib.hid hRt2
            clear hkt hRt
            have hin : fks[t].2 ∈ fks.map Prod.snd := List.mem_map.2 ⟨_, List.getElem_mem hltt, rfl⟩
            have hge := hgood.out _ hin
            have hnk : fks[t].2 ∉ ks2.map Prod.snd := fun h => by
              rcases (hM2 _).1 h with h | h
              · exact ((hmem.out _).1 hin).2.2 ((hsame.out _).1 h)
              · obtain ⟨q, hq, e⟩ := List.mem_map.1 h
                obtain ⟨i, hi, e2⟩ := List.getElem_of_mem hq
                rw [List.length_take] at hi
                rw [List.getElem_take] at e2
                have hnd := List.pairwise_iff_getElem.1 hFasc.out i t (by rw [List.length_map]; omega) (by rw [List.length_map]; exact hltt) (by omega)
                rw [List.getElem_map, List.getElem_map, e2, e] at hnd
                exact bef_asym _ _ hnd hnd
            have hgs2 : ∀ x ∈ ks2.map Prod.snd, Good x := fun x hx => by
              rcases (hM2 x).1 hx with h | h
              · exact hgs.out x h
              · obtain ⟨q, hq, rfl⟩ := List.mem_map.1 h
                exact hgood.out _ (List.mem_map.2 ⟨q, List.mem_of_mem_take hq, rfl⟩)
            have hks2 : ks2.length ≤ 4096 := by have := good_few hA2.nodup hgs2; rwa [List.length_map] at this
            have hins : Hid (Asc ((insP ks2 (.slice ea fks[t].2.length ec, fks[t].2)).map Prod.snd) ∧ (∀ c, c ∈ (insP ks2 (.slice ea fks[t].2.length ec, fks[t].2)).map Prod.snd ↔ c ∈ ks.map Prod.snd ∨ c ∈ (fks.take (t + 1)).map Prod.snd) ∧ ∀ q ∈ insP ks2 (.slice ea fks[t].2.length ec, fks[t].2), q ∈ K2) := by
              refine ⟨by rw [insP_snd]; exact hA2.ins hnk, fun c => ?_, fun q hq => ?_⟩
              · rw [insP_snd, mem_insB, hM2, take_more hltt, List.map_append, List.mem_append, List.map_cons, List.map_nil, List.mem_singleton]
                exact ⟨fun h => by
                  rcases h with h | h | h
                  · exact .inr (.inr h)
                  · exact .inl h
                  · exact .inr (.inl h), fun h => by
                  rcases h with h | h | h
                  · exact .inr (.inl h)
                  · exact .inr (.inr h)
                  · exact .inl h⟩
              · rcases mem_insP.1 hq with rfl | hq
                · have := hfk.out _ (List.getElem_mem hltt)
                  rw [show fks[t] = (.slice ea fks[t].2.length ec, fks[t].2) from Prod.ext ee rfl] at this
                  exact this
                · exact hk2 q hq
            have hmE : Hid (((.slice ea fks[t].2.length ec, fks[t].2) : Value × List Int) ∈ K2) := by
              have := hfk.out _ (List.getElem_mem hltt)
              rw [show fks[t] = (.slice ea fks[t].2.length ec, fks[t].2) from Prod.ext ee rfl] at this
              exact this
            have hmk2 : Hid (∀ x ∈ ks2.map Prod.snd, Mild x) := fun x hx => (hgs2 x hx).mild
            have hout2 : Hid ((ks2.map Prod.snd)[placeB (ks2.map Prod.snd) fks[t].2]? ≠ some fks[t].2) := fun h => hnk ((placeB_mem hA2).1 h)
            replace hge := Lib.hid hge
            replace hk2 := Lib.hid hk2
            replace le := Lib.hid le
            replace m1 := Lib.hid m1
            replace m2 := Lib.hid m2
            replace m3 := Lib.hid m3
            replace m4 := Lib.hid m4
            rw [ee] at re
            replace re := Lib.hid (show ∀ w' : World, True from fun _ => trivial)
            generalize hE : fks[t].2 = ce at *
            replace hE := Lib.hid hE
            clear hnk hgs2 hA2 hM2 hin ee HT re
            have c0 := HS.cell (i := 7) rfl (o := 0) rfl
            have c1 := own_cell (HS.own (i := 4) rfl) le.out
            replace HS := Lib.hid HS
            go_wp2_with fail
            refine wp_region_tail_lit (S := (fun w' => w'.cell? ⟨w.heap.size, 0, none⟩ = some (.slice la2 kt.length lc2) ∧ w'.cell? ⟨w1.heap.size, 5, none⟩ = some (.slice (some ⟨fg, 0, none⟩) fks.length fc) ∧ w'.cell? ⟨fg, t, none⟩ = some (.slice ea ce.length ec))) 8 [false, false, false, false, false, false, false, false, false, false, false] (by kernel_rfl) (by kernel_rfl) (by kernel_rfl) ?_ ?_
            · exact ⟨c0, bF, c1⟩
            intro hSc
            (refine walkT_take (i := 0) (v := ?_) rfl (by kernel_rfl) (by decide) (by kernel_rfl) (by kernel_rfl) (fun _ _ _ h => h) (Or.inl ⟨by rfl, ?_⟩) (by assumption) ?_; rotate_left; (focus (intro w hSw; (try dsimp only at hSw); go_simp; (try with_reducible rfl); done)); (try simp only [put_rules]))
            (refine walkT_take (i := 1) (v := ?_) rfl (by kernel_rfl) (by decide) (by kernel_rfl) (by kernel_rfl) (fun _ _ _ h => h) (Or.inl ⟨by rfl, ?_⟩) (by assumption) ?_; rotate_left; (focus (intro w hSw; (try dsimp only at hSw); go_simp; (try with_reducible rfl); done)); (try simp only [put_rules]))
            (refine walkT_take (i := 2) (v := ?_) rfl (by kernel_rfl) (by decide) (by kernel_rfl) (by kernel_rfl) (fun _ _ _ h => h) (Or.inl ⟨by rfl, ?_⟩) (by assumption) ?_; rotate_left; (focus (intro w hSw; (try dsimp only at hSw); go_simp; (try with_reducible rfl); done)); (try simp only [put_rules]))
            (refine walkT_take (i := 3) (v := ?_) rfl (by kernel_rfl) (by decide) (by kernel_rfl) (by kernel_rfl) (fun _ _ _ h => h) (Or.inl ⟨by rfl, ?_⟩) (by assumption) ?_; rotate_left; (focus (intro w hSw; (try dsimp only at hSw); go_simp; (try with_reducible rfl); done)); (try simp only [put_rules]))
            (refine walkT_take (i := 4) (v := ?_) rfl (by kernel_rfl) (by decide) (by kernel_rfl) (by kernel_rfl) (fun _ _ _ h => h) (Or.inl ⟨by rfl, ?_⟩) (by assumption) ?_; rotate_left; (focus (intro w hSw; (try dsimp only at hSw); go_simp; (try with_reducible rfl); done)); (try simp only [put_rules]))
            (refine walkT_take (i := 5) (v := ?_) rfl (by kernel_rfl) (by decide) (by kernel_rfl) (by kernel_rfl) (fun _ _ _ h => h) (Or.inl ⟨by rfl, ?_⟩) (by assumption) ?_; rotate_left; (focus (intro w hSw; (try dsimp only at hSw); go_simp; (try with_reducible rfl); done)); (try simp only [put_rules]))
            (refine walkT_take (i := 6) (v := ?_) rfl (by kernel_rfl) (by decide) (by kernel_rfl) (by kernel_rfl) (fun _ _ _ h => h) (Or.inl ⟨by rfl, ?_⟩) (by assumption) ?_; rotate_left; (focus (intro w hSw; (try dsimp only at hSw); go_simp; (try with_reducible rfl); done)); (try simp only [put_rules]))
            (refine walkT_ready (rs := [7]) (by kernel_rfl) (by simp) (by decide) ?_; refine AllT.cons rfl (fun K hK => ?_) AllT.nil)
            go_simp
            have S1 := HS.out.drew.alloc_box #[.slice ea ce.length ec] 25
            (repeat (first | simp only [drew_size] at S1 | simp only [World.size_setCell] at S1 | simp only [World.size_alloc] at S1))
            have kB := S1.cell (i := 0) rfl (o := 0) rfl
            have e0 := S1.cell (i := 8) rfl (o := 0) rfl
            have e1 := S1.cell (i := 1) rfl (o := 5) rfl
            have e2 := own_cell (S1.own (i := 5) rfl) le.out
            replace S1 := Lib.hid S1
            clear HS hSc c0 bF c1
            refine hK.out _ _ ⟨e0, e1, e2⟩ (fun _ => ?_)
            clear hK e0 e1 e2
            (try simp only [put_rules])
            (refine walkT_done (by kernel_rfl) ?_)
            simp only [List.drop_succ_cons, List.drop_zero]
            (refine wpList_append_src rfl _ _ rfl Try.underlying22 hiR hzR0 hzR1 hzR2 rfl (by decide) (.slice la2 kt.length lc2) kt.length _ (by rfl) (S1.out.own (i := 9) rfl) _ 1 1 [.slice ea ce.length ec] rfl (Src.one kB) (by simp [Value.oneCell']) (by unfold maxLen; omega) (by omega) ?_; intro vZ wZ hownZ hgZ hatZ)
            have S2 := S1.out.own_push (i := 9) rfl (bb _) hownZ hgZ hatZ
            obtain ⟨aZ, cZ, rfl⟩ := owns_form hownZ
            rw [m1.out, m2.out] at S2
            rw [m1.out]
            have j0 := S2.cell (i := 8) rfl (o := 0) rfl
            have p0 := S2.frozen (i := 8) rfl 0
            have S3 := (S2.store (i := 8) rfl 0 (.slice aZ kt2.length cZ)).tail
            have c3 := S3.cell (i := 7) rfl (o := 1) rfl
            have S4 := S3.alloc_box #[.int .i64 rd] 3
            (repeat (first | simp only [World.size_setCell] at S4 | simp only [World.size_alloc] at S4))
            have kB2 := S4.cell (i := 0) rfl (o := 0) rfl
            replace S4 := Lib.hid S4
            clear S1 S2 S3 kB hownZ hgZ hatZ
            go_wp2_with (at_builtin; refine wpList_append_src rfl _ _ rfl Try.underlying25 hi hz0 hz1 hz2 rfl (by decide) _ _ _ rfl (S4.out.own (i := 10) rfl) _ 1 1 [.int .i64 rd] rfl (Src.one kB2) (by simp [Value.oneCell']) ?c3 ?c4 ?_)
            case c3 => unfold maxLen; omega
            case c4 => omega
            intro vY wY hownY hgY hatY
            have S5 := S4.out.own_push (i := 10) rfl (bb _) hownY hgY (by simpa using hatY)
            obtain ⟨aY, cY, rfl⟩ := owns_form hownY
            rw [m3.out, m4.out] at S5
            rw [m3.out]
            have j1 := S5.cell (i := 8) rfl (o := 1) rfl
            have p1 := S5.frozen (i := 8) rfl 1
            have S6 := Lib.hid ((S5.store (i := 8) rfl 1 (.slice aY Rt2.length cY)).tail.drew)
            clear S4 S5 hownY hgY hatY kB2 j0 p0 c3
            go_wp2_with fail
            have c5 := S6.out.cell (i := 7) rfl (o := 5) rfl
            have bF := S6.out.cell (i := 0) rfl (o := 5) rfl
            have c1 := own_cell (S6.out.own (i := 4) rfl) le.out
            refine wp_region_tail_lit (S := (fun w' => w'.cell? ⟨w.heap.size, 5, none⟩ = some (.slice sa2 ks2.length sc2) ∧ w'.cell? ⟨w1.heap.size, 5, none⟩ = some (.slice (some ⟨fg, 0, none⟩) fks.length fc) ∧ w'.cell? ⟨fg, t, none⟩ = some (.slice ea ce.length ec))) 8 [false, false, false, false, false, false, false, false, false, false] (by kernel_rfl) (by kernel_rfl) (by kernel_rfl) ?_ ?_
            · exact ⟨c5, bF, c1⟩
            intro hSc
            (refine walkT_take (i := 0) (v := ?_) rfl (by kernel_rfl) (by decide) (by kernel_rfl) (by kernel_rfl) (fun _ _ _ h => h) (Or.inl ⟨by rfl, ?_⟩) (by assumption) ?_; rotate_left; (focus (intro w hSw; (try dsimp only at hSw); go_simp; (try with_reducible rfl); done)); (try simp only [put_rules]))
            (refine walkT_take (i := 1) (v := ?_) rfl (by kernel_rfl) (by decide) (by kernel_rfl) (by kernel_rfl) (fun _ _ _ h => h) (Or.inl ⟨by rfl, ?_⟩) (by assumption) ?_; rotate_left; (focus (intro w hSw; (try dsimp only at hSw); go_simp; (try with_reducible rfl); done)); (try simp only [put_rules]))
            (refine walkT_take (i := 2) (v := ?_) rfl (by kernel_rfl) (by decide) (by kernel_rfl) (by kernel_rfl) (fun _ _ _ h => h) (Or.inl ⟨by rfl, ?_⟩) (by assumption) ?_; rotate_left; (focus (intro w hSw; (try dsimp only at hSw); go_simp; (try with_reducible rfl); done)); (try simp only [put_rules]))
            (refine walkT_take (i := 3) (v := ?_) rfl (by kernel_rfl) (by decide) (by kernel_rfl) (by kernel_rfl) (fun _ _ _ h => h) (Or.inl ⟨by rfl, ?_⟩) (by assumption) ?_; rotate_left; (focus (intro w hSw; (try dsimp only at hSw); go_simp; (try with_reducible rfl); done)); (try simp only [put_rules]))
            (refine walkT_take (i := 4) (v := ?_) rfl (by kernel_rfl) (by decide) (by kernel_rfl) (by kernel_rfl) (fun _ _ _ h => h) (Or.inl ⟨by rfl, ?_⟩) (by assumption) ?_; rotate_left; (focus (intro w hSw; (try dsimp only at hSw); go_simp; (try with_reducible rfl); done)); (try simp only [put_rules]))
            (refine walkT_take (i := 5) (v := ?_) rfl (by kernel_rfl) (by decide) (by kernel_rfl) (by kernel_rfl) (fun _ _ _ h => h) (Or.inl ⟨by rfl, ?_⟩) (by assumption) ?_; rotate_left; (focus (intro w hSw; (try dsimp only at hSw); go_simp; (try with_reducible rfl); done)); (try simp only [put_rules]))
            (refine walkT_take (i := 6) (v := ?_) rfl (by kernel_rfl) (by decide) (by kernel_rfl) (by kernel_rfl) (fun _ _ _ h => h) (Or.inl ⟨by rfl, ?_⟩) (by assumption) ?_; rotate_left; (focus (intro w hSw; (try dsimp only at hSw); go_simp; (try with_reducible rfl); done)); (try simp only [put_rules]))
            (refine walkT_ready (rs := [7]) (by kernel_rfl) (by simp) (by decide) ?_; refine AllT.cons rfl (fun K hK => ?_) AllT.nil)
            go_simp
            go_at_call 52
            obtain ⟨Fs, rs⟩ := S6.out.cls_row (i := 13) (j := 14) rfl rfl hk2.out
            obtain ⟨Fe, re⟩ := S6.out.pool_at (i := 14) rfl hmE.out
            refine (l2Insert_new _ ea ec ks2 ce Fs Fe _ (S6.out.own (i := 13) rfl) (S6.out.pool_slices (j := 14) rfl hk2.out) rs re hmk2.out hge.out.mild (by omega) hout2.out).mono ?_
            rintro e w4 ⟨vn, rfl, hon, hb4⟩
            have S8 := S6.out.own_call hb4 hon
            obtain ⟨na, nc, rfl, hnc, -⟩ := own_src hon
            have e0 := S8.cell (i := 8) rfl (o := 5) rfl
            have e1 := S8.cell (i := 1) rfl (o := 5) rfl
            have e2 := own_cell (S8.own (i := 5) rfl) le.out
            have p5 := S8.frozen (i := 8) rfl 5
            have S9 := Lib.hid ((S8.store (i := 8) rfl 5 (.slice na (insP ks2 (.slice ea ce.length ec, ce)).length nc)).swap_in (i := 13) rfl)
            clear S6 S8 hon hb4 rs re hSc c5 bF c1 j1 p1
            go_wp2_with fail
            refine hK.out _ _ ⟨e0, e1, e2⟩ (fun _ => ?_)
            clear hK
            (try simp only [put_rules])
            (refine walkT_done (by kernel_rfl) ?_)
            simp only [List.drop_succ_cons, List.drop_zero]
            have HN := Lib.hid (show SS w0 w1.heap.size (w.heap.size + 1) w.heap.size (.slice oa ord.length oc) (.slice aa A.length ac) (.slice ba B.length bc) (.slice pa C.length pc) (.slice xa2 X.length xc2) (.slice ya2 Y.length yc2) (.slice za2 Z.length zc2) (.slice (some ⟨fg, 0, none⟩) fks.length fc) X Y Z ord A B C kl ks fks K2 R ps rd (t + 1) _ from ⟨_, _, _, _, _, _, S9.out, hkt2.out, hRt2.out, hins.out.1, hins.out.2.1, hins.out.2.2⟩)
            clear S9 hins e1 e2
            go_wp2_with fail
            go_roundw
            case rel => exact ⟨t + 1, by omega, by go_num, HN⟩
            case measure => simp [intOf]; omega
        · skip
          as_aux_lemma =>
            obtain rfl : t = fks.length := by omega
            rw [List.take_length] at hkt hM2
            have hAX : A.length + X.length ≤ 100000 := by have := hX.out; have := hAl.out; omega
            have hBY : B.length + Y.length ≤ 100000 := by have := hY.out; have := hBl.out; omega
            have hCZ : C.length + Z.length ≤ 100000 := by have := hZ.out; have := hCl.out; omega
            have hWS : Hid (WS F0 width (r + 1) kt ks2 K2 Rt (A ++ X) (B ++ Y) (C ++ Z)) := by
              have h1 := hnx.out.1
              rw [show ((r + 1 : Nat) : Int) = rd by rw [hrd.out]; omega, ← List.map_append, ← hkt, ← hRt] at h1
              refine ⟨h1, hA2, fun c => ?_, fun q hq => ?_, hk2, ?_, ?_, ?_⟩
              · rw [hM2, hsame.out, hkt, List.map_append, List.mem_append]
              · rw [hkt] at hq
                rcases List.mem_append.1 hq with h | h
                · exact hK2.out q (hS.out.ml q h)
                · exact hfk.out q h
              · rw [hkt, List.length_append, List.length_append, hAl.out, hX.out]
              · rw [hkt, List.length_append, List.length_append, hBl.out, hY.out]
              · rw [hkt, List.length_append, List.length_append, hCl.out, hZ.out]
            have hktl : Hid (kt.length = kl.length + fks.length) := by unfold Hid; rw [hkt, List.length_append]
            clear hkt hRt hA2 hM2 hk2 HT
            have c2 := HS.cell (i := 7) rfl (o := 2) rfl
            have d2 := HS.cell (i := 0) rfl (o := 2) rfl
            have sX := (own_src' (HS.own (i := 1) rfl)).2.1
            replace HS := Lib.hid HS
            go_wp2_with (at_builtin; refine wpList_append_src rfl _ _ rfl Try.underlying25 hi hz0 hz1 hz2 rfl (by decide) _ _ _ rfl (HS.out.own (i := 10) rfl) _ X.length xc2 _ rfl sX (ints_one X) ?c3 ?c4 ?_)
            case c3 => unfold maxLen; omega
            case c4 => omega
            intro vY1 wY1 hownY hgY hatY
            have U1 := HS.out.own_push (i := 10) rfl (bb _) hownY hgY (by simpa using hatY)
            obtain ⟨aY1, cY1, rfl⟩ := owns_form hownY
            have j1 := U1.cell (i := 7) rfl (o := 2) rfl
            have p1 := U1.frozen (i := 7) rfl 2
            have T1 := U1.store (i := 7) rfl 2 (.slice aY1 (A.length + X.length) cY1)
            clear c2 d2 sX hownY hgY hatY U1
            have c3 := T1.cell (i := 7) rfl (o := 3) rfl
            have d3 := T1.cell (i := 0) rfl (o := 3) rfl
            have sY := (own_src' (T1.own (i := 2) rfl)).2.1
            replace T1 := Lib.hid T1
            clear HS
            go_wp2_with (at_builtin; refine wpList_append_src rfl _ _ rfl Try.underlying25 hi hz0 hz1 hz2 rfl (by decide) _ _ _ rfl (T1.out.own (i := 11) rfl) _ Y.length yc2 _ rfl sY (ints_one Y) ?c3 ?c4 ?_)
            case c3 => unfold maxLen; omega
            case c4 => omega
            intro vY2 wY2 hownY hgY hatY
            have U2 := T1.out.own_push (i := 11) rfl (bb _) hownY hgY (by simpa using hatY)
            obtain ⟨aY2, cY2, rfl⟩ := owns_form hownY
            have j2 := U2.cell (i := 7) rfl (o := 3) rfl
            have p2 := U2.frozen (i := 7) rfl 3
            have T2 := U2.store (i := 7) rfl 3 (.slice aY2 (B.length + Y.length) cY2)
            clear c3 d3 sY hownY hgY hatY U2
            have c4 := T2.cell (i := 7) rfl (o := 4) rfl
            have d4 := T2.cell (i := 0) rfl (o := 4) rfl
            have sZ := (own_src' (T2.own (i := 3) rfl)).2.1
            replace T2 := Lib.hid T2
            clear T1
            go_wp2_with (at_builtin; refine wpList_append_src rfl _ _ rfl Try.underlying25 hi hz0 hz1 hz2 rfl (by decide) _ _ _ rfl (T2.out.own (i := 12) rfl) _ Z.length zc2 _ rfl sZ (ints_one Z) ?c3 ?c4 ?_)
            case c3 => unfold maxLen; omega
            case c4 => omega
            intro vY3 wY3 hownY hgY hatY
            have U3 := T2.out.own_push (i := 12) rfl (bb _) hownY hgY (by simpa using hatY)
            obtain ⟨aY3, cY3, rfl⟩ := owns_form hownY
            have j3 := U3.cell (i := 7) rfl (o := 4) rfl
            have p3 := U3.frozen (i := 7) rfl 4
            have T3 := U3.store (i := 7) rfl 4 (.slice aY3 (C.length + Z.length) cY3)
            clear c4 d4 sZ hownY hgY hatY U3
            replace T3 := Lib.hid T3
            have V0 := Lib.hid T3.out.drew
            clear T2
            go_wp2_with fail
            clear j1 p1 j2 p2 j3 p3
            generalize hW : World.setCell wY3 _ _ = W at *
            clear hW
            by_cases hpos : 0 < fks.length
            · skip
              as_aux_lemma =>
                have hposI : (0 : Int) < (fks.length : Int) := by omega
                have hFR : Hid (FreshOk F0 width r kl.length kt.length true) := ⟨fun _ => (by have := hktl.out; omega), fun h => (by cases h)⟩
                have k0 := V0.out.cell (i := 7) rfl (o := 0) rfl
                have k1 := V0.out.cell (i := 7) rfl (o := 1) rfl
                have k2 := V0.out.cell (i := 7) rfl (o := 2) rfl
                have k3 := V0.out.cell (i := 7) rfl (o := 3) rfl
                have k4 := V0.out.cell (i := 7) rfl (o := 4) rfl
                have k5 := V0.out.cell (i := 7) rfl (o := 5) rfl
                have kf := V0.out.cell (i := 0) rfl (o := 5) rfl
                refine wp_region_held_lit (S := (fun w' => w'.cell? ⟨w.heap.size, 0, none⟩ = some (.slice la2 kt.length lc2) ∧ w'.cell? ⟨w.heap.size, 1, none⟩ = some (.slice ra2 Rt.length rc2) ∧ w'.cell? ⟨w.heap.size, 2, none⟩ = some (.slice aY1 (A.length + X.length) cY1) ∧ w'.cell? ⟨w.heap.size, 3, none⟩ = some (.slice aY2 (B.length + Y.length) cY2) ∧ w'.cell? ⟨w.heap.size, 4, none⟩ = some (.slice aY3 (C.length + Z.length) cY3) ∧ w'.cell? ⟨w.heap.size, 5, none⟩ = some (.slice sa2 ks2.length sc2) ∧ w'.cell? ⟨w1.heap.size, 5, none⟩ = some (.slice fa fks.length fc))) 7 [false, false, false, false, false, false, false] (by kernel_rfl) (by kernel_rfl) (by kernel_rfl) ?_ ?_
                · exact ⟨k0, k1, k2, k3, k4, k5, kf⟩
                intro hSc
                (refine wpAnyH_take (i := 0) (v := ?_) rfl (by kernel_rfl) (by kernel_rfl) (by kernel_rfl) (fun _ _ _ h => h) (Or.inl ⟨by rfl, ?_⟩) (by assumption) ?_; rotate_left; (focus (intro w hSw; (try dsimp only at hSw); go_simp; (try with_reducible rfl); done)); (try simp only [put_rules]))
                (refine wpAnyH_take (i := 1) (v := ?_) rfl (by kernel_rfl) (by kernel_rfl) (by kernel_rfl) (fun _ _ _ h => h) (Or.inl ⟨by rfl, ?_⟩) (by assumption) ?_; rotate_left; (focus (intro w hSw; (try dsimp only at hSw); go_simp; (try with_reducible rfl); done)); (try simp only [put_rules]))
                (refine wpAnyH_take (i := 2) (v := ?_) rfl (by kernel_rfl) (by kernel_rfl) (by kernel_rfl) (fun _ _ _ h => h) (Or.inl ⟨by rfl, ?_⟩) (by assumption) ?_; rotate_left; (focus (intro w hSw; (try dsimp only at hSw); go_simp; (try with_reducible rfl); done)); (try simp only [put_rules]))
                (refine wpAnyH_take (i := 3) (v := ?_) rfl (by kernel_rfl) (by kernel_rfl) (by kernel_rfl) (fun _ _ _ h => h) (Or.inl ⟨by rfl, ?_⟩) (by assumption) ?_; rotate_left; (focus (intro w hSw; (try dsimp only at hSw); go_simp; (try with_reducible rfl); done)); (try simp only [put_rules]))
                (refine wpAnyH_take (i := 4) (v := ?_) rfl (by kernel_rfl) (by kernel_rfl) (by kernel_rfl) (fun _ _ _ h => h) (Or.inl ⟨by rfl, ?_⟩) (by assumption) ?_; rotate_left; (focus (intro w hSw; (try dsimp only at hSw); go_simp; (try with_reducible rfl); done)); (try simp only [put_rules]))
                (refine wpAnyH_ready (rs := [5]) (by kernel_rfl) (by simp) ?_; refine AllReadyH.cons rfl (fun K hK => ?_) AllReadyH.nil)
                rw [if_pos (by kernel_rfl)]
                obtain ⟨-, -, hbx⟩ := V0.out.box (i := 6) rfl
                refine wp_store_row _ _ _ rfl (w.heap.size + 1) #[.slice la2 kt.length lc2, .slice ra2 Rt.length rc2, .slice aY1 (A.length + X.length) cY1, .slice aY2 (B.length + Y.length) cY2, .slice aY3 (C.length + Z.length) cY3, .slice sa2 ks2.length sc2] rfl rfl _ _ hbx (by first | kernel_rfl | rfl) rfl (by simp [Value.oneCell']) ?_
                have V1 := Lib.hid (V0.out.set_row (i := 6) rfl #[.slice la2 kt.length lc2, .slice ra2 Rt.length rc2, .slice aY1 (A.length + X.length) cY1, .slice aY2 (B.length + Y.length) cY2, .slice aY3 (C.length + Z.length) cY3, .slice sa2 ks2.length sc2])
                clear hbx
                have e0 := V1.out.cell (i := 7) rfl (o := 0) rfl
                have e1 := V1.out.cell (i := 7) rfl (o := 1) rfl
                have e2 := V1.out.cell (i := 7) rfl (o := 2) rfl
                have e3 := V1.out.cell (i := 7) rfl (o := 3) rfl
                have e4 := V1.out.cell (i := 7) rfl (o := 4) rfl
                have e5 := V1.out.cell (i := 7) rfl (o := 5) rfl
                have ef := V1.out.cell (i := 0) rfl (o := 5) rfl
                refine hK.out _ _ ⟨e0, e1, e2, e3, e4, e5, ef⟩ (fun hSd => ?_)
                clear hK hSc e0 e1 e2 e3 e4 e5 ef k0 k1 k2 k3 k4 k5 kf V0 T3
                (try simp only [put_rules])
                (refine wpAnyH_take (i := 6) (v := ?_) rfl (by kernel_rfl) (by kernel_rfl) (by kernel_rfl) (fun _ _ _ h => h) (Or.inl ⟨by rfl, ?_⟩) (by assumption) ?_; rotate_left; (focus (intro w hSw; (try dsimp only at hSw); go_simp; (try with_reducible rfl); done)); (try simp only [put_rules]))
                (refine wpAnyH_done (by kernel_rfl) ?_ _)
                have m0 := V1.out.cell (i := 6) rfl (o := 0) rfl
                have m1 := V1.out.cell (i := 6) rfl (o := 1) rfl
                have m2 := V1.out.cell (i := 6) rfl (o := 2) rfl
                have m3 := V1.out.cell (i := 6) rfl (o := 3) rfl
                have m4 := V1.out.cell (i := 6) rfl (o := 4) rfl
                have m5 := V1.out.cell (i := 6) rfl (o := 5) rfl
                go_wp2_with fail
                have VE := V1.out.tail.tail.tail.tail.tail.tail.tail.tail
                exact bodyPost_ret (v := .tuple #[.agg #[.slice la2 kt.length lc2, .slice ra2 Rt.length rc2, .slice aY1 (A.length + X.length) cY1, .slice aY2 (B.length + Y.length) cY2, .slice aY3 (C.length + Z.length) cY3, .slice sa2 ks2.length sc2], .bool true]) (by simp [results, Try.results54, go_sem, m0, m1, m2, m3, m4, m5]) rfl ⟨_, _, _, _, _, _, kt, ks2, K2, Rt, A ++ X, B ++ Y, C ++ Z, true, rfl, by rw [ints_app, ints_app, ints_app] at VE; exact VE, hWS.out, hFR.out⟩
            · skip
              as_aux_lemma =>
                have hposI : ¬ (0 : Int) < (fks.length : Int) := by omega
                have hfe : fks = [] := List.length_eq_zero_iff.1 (by omega)
                have hFR : Hid (FreshOk F0 width r kl.length kt.length false) := ⟨fun h => (by cases h), fun _ s c h => inR_mono (Nat.le_succ r) (hnx.out.2 (by rw [hfe]; rfl) s c h)⟩
                clear hfe
                have k0 := V0.out.cell (i := 7) rfl (o := 0) rfl
                have k1 := V0.out.cell (i := 7) rfl (o := 1) rfl
                have k2 := V0.out.cell (i := 7) rfl (o := 2) rfl
                have k3 := V0.out.cell (i := 7) rfl (o := 3) rfl
                have k4 := V0.out.cell (i := 7) rfl (o := 4) rfl
                have k5 := V0.out.cell (i := 7) rfl (o := 5) rfl
                have kf := V0.out.cell (i := 0) rfl (o := 5) rfl
                refine wp_region_held_lit (S := (fun w' => w'.cell? ⟨w.heap.size, 0, none⟩ = some (.slice la2 kt.length lc2) ∧ w'.cell? ⟨w.heap.size, 1, none⟩ = some (.slice ra2 Rt.length rc2) ∧ w'.cell? ⟨w.heap.size, 2, none⟩ = some (.slice aY1 (A.length + X.length) cY1) ∧ w'.cell? ⟨w.heap.size, 3, none⟩ = some (.slice aY2 (B.length + Y.length) cY2) ∧ w'.cell? ⟨w.heap.size, 4, none⟩ = some (.slice aY3 (C.length + Z.length) cY3) ∧ w'.cell? ⟨w.heap.size, 5, none⟩ = some (.slice sa2 ks2.length sc2) ∧ w'.cell? ⟨w1.heap.size, 5, none⟩ = some (.slice fa fks.length fc))) 7 [false, false, false, false, false, false, false] (by kernel_rfl) (by kernel_rfl) (by kernel_rfl) ?_ ?_
                · exact ⟨k0, k1, k2, k3, k4, k5, kf⟩
                intro hSc
                (refine wpAnyH_take (i := 0) (v := ?_) rfl (by kernel_rfl) (by kernel_rfl) (by kernel_rfl) (fun _ _ _ h => h) (Or.inl ⟨by rfl, ?_⟩) (by assumption) ?_; rotate_left; (focus (intro w hSw; (try dsimp only at hSw); go_simp; (try with_reducible rfl); done)); (try simp only [put_rules]))
                (refine wpAnyH_take (i := 1) (v := ?_) rfl (by kernel_rfl) (by kernel_rfl) (by kernel_rfl) (fun _ _ _ h => h) (Or.inl ⟨by rfl, ?_⟩) (by assumption) ?_; rotate_left; (focus (intro w hSw; (try dsimp only at hSw); go_simp; (try with_reducible rfl); done)); (try simp only [put_rules]))
                (refine wpAnyH_take (i := 2) (v := ?_) rfl (by kernel_rfl) (by kernel_rfl) (by kernel_rfl) (fun _ _ _ h => h) (Or.inl ⟨by rfl, ?_⟩) (by assumption) ?_; rotate_left; (focus (intro w hSw; (try dsimp only at hSw); go_simp; (try with_reducible rfl); done)); (try simp only [put_rules]))
                (refine wpAnyH_take (i := 3) (v := ?_) rfl (by kernel_rfl) (by kernel_rfl) (by kernel_rfl) (fun _ _ _ h => h) (Or.inl ⟨by rfl, ?_⟩) (by assumption) ?_; rotate_left; (focus (intro w hSw; (try dsimp only at hSw); go_simp; (try with_reducible rfl); done)); (try simp only [put_rules]))
                (refine wpAnyH_take (i := 4) (v := ?_) rfl (by kernel_rfl) (by kernel_rfl) (by kernel_rfl) (fun _ _ _ h => h) (Or.inl ⟨by rfl, ?_⟩) (by assumption) ?_; rotate_left; (focus (intro w hSw; (try dsimp only at hSw); go_simp; (try with_reducible rfl); done)); (try simp only [put_rules]))
                (refine wpAnyH_ready (rs := [5]) (by kernel_rfl) (by simp) ?_; refine AllReadyH.cons rfl (fun K hK => ?_) AllReadyH.nil)
                rw [if_pos (by kernel_rfl)]
                obtain ⟨-, -, hbx⟩ := V0.out.box (i := 6) rfl
                refine wp_store_row _ _ _ rfl (w.heap.size + 1) #[.slice la2 kt.length lc2, .slice ra2 Rt.length rc2, .slice aY1 (A.length + X.length) cY1, .slice aY2 (B.length + Y.length) cY2, .slice aY3 (C.length + Z.length) cY3, .slice sa2 ks2.length sc2] rfl rfl _ _ hbx (by first | kernel_rfl | rfl) rfl (by simp [Value.oneCell']) ?_
                have V1 := Lib.hid (V0.out.set_row (i := 6) rfl #[.slice la2 kt.length lc2, .slice ra2 Rt.length rc2, .slice aY1 (A.length + X.length) cY1, .slice aY2 (B.length + Y.length) cY2, .slice aY3 (C.length + Z.length) cY3, .slice sa2 ks2.length sc2])
                clear hbx
                have e0 := V1.out.cell (i := 7) rfl (o := 0) rfl
                have e1 := V1.out.cell (i := 7) rfl (o := 1) rfl
                have e2 := V1.out.cell (i := 7) rfl (o := 2) rfl
                have e3 := V1.out.cell (i := 7) rfl (o := 3) rfl
                have e4 := V1.out.cell (i := 7) rfl (o := 4) rfl
                have e5 := V1.out.cell (i := 7) rfl (o := 5) rfl
                have ef := V1.out.cell (i := 0) rfl (o := 5) rfl
                refine hK.out _ _ ⟨e0, e1, e2, e3, e4, e5, ef⟩ (fun hSd => ?_)
                clear hK hSc e0 e1 e2 e3 e4 e5 ef k0 k1 k2 k3 k4 k5 kf V0 T3
                (try simp only [put_rules])
                (refine wpAnyH_take (i := 6) (v := ?_) rfl (by kernel_rfl) (by kernel_rfl) (by kernel_rfl) (fun _ _ _ h => h) (Or.inl ⟨by rfl, ?_⟩) (by assumption) ?_; rotate_left; (focus (intro w hSw; (try dsimp only at hSw); go_simp; (try with_reducible rfl); done)); (try simp only [put_rules]))
                (refine wpAnyH_done (by kernel_rfl) ?_ _)
                have m0 := V1.out.cell (i := 6) rfl (o := 0) rfl
                have m1 := V1.out.cell (i := 6) rfl (o := 1) rfl
                have m2 := V1.out.cell (i := 6) rfl (o := 2) rfl
                have m3 := V1.out.cell (i := 6) rfl (o := 3) rfl
                have m4 := V1.out.cell (i := 6) rfl (o := 4) rfl
                have m5 := V1.out.cell (i := 6) rfl (o := 5) rfl
                go_wp2_with fail
                have VE := V1.out.tail.tail.tail.tail.tail.tail.tail.tail
                exact bodyPost_ret (v := .tuple #[.agg #[.slice la2 kt.length lc2, .slice ra2 Rt.length rc2, .slice aY1 (A.length + X.length) cY1, .slice aY2 (B.length + Y.length) cY2, .slice aY3 (C.length + Z.length) cY3, .slice sa2 ks2.length sc2], .bool false]) (by simp [results, Try.results54, go_sem, m0, m1, m2, m3, m4, m5]) rfl ⟨_, _, _, _, _, _, kt, ks2, K2, Rt, A ++ X, B ++ Y, C ++ Z, false, rfl, by rw [ints_app, ints_app, ints_app] at VE; exact VE, hWS.out, hFR.out⟩
end Go.Proofs.Ytebpknekaljgnaa
