/- Lemmas and contracts for a law, put together out of several texts: PbQ. -/
import Derived.Test.YtpiimlmfcdjbbaaGreatDoorMg9
/- Contract: the book of a text, in the program. -/
namespace Go.Proofs.YtpiimlmfcdjbbaaGreatDoor
open Go.RowKit Go.Shelf

attribute [local go_sem] Oper.semAt_some

/-- What lies in memory while the lines are read: the results' boxes, the list's box, the list. -/
abbrev PbPs (B : Nat) (xs : List Rec) (A : Option Addr) (c : Nat) : List Asn :=
  [Box B 24 #[.slice none 0 0], Box (B + 1) 4 #[.bool false], Box (B + 1 + 1) 24 #[.slice A xs.length c], RecsP (.slice A xs.length c) xs]
def PbI (w : World) (pre : List Ln) (W : World) : Prop := ∃ xs A c, pre.map lnR = xs.map some ∧ SpN (w.heap.size + 1 + 1 + 1) w W (PbPs w.heap.size xs A c)
def PbX (w : World) (cd : Code) (pre : List Ln) (W : World) : Prop := cd = .ret ∧ (∃ p ∈ pre, lnR p = none) ∧ SpN (w.heap.size + 1 + 1 + 1) w W [Box w.heap.size 24 #[.slice none 0 0], Box (w.heap.size + 1) 4 #[.bool false]]
def PBPost (r : List Rec × Bool) (w : World) (e : Ending) (w' : World) : Prop := ∃ A c, e = .returned (.tuple #[.slice A r.1.length c, .bool r.2]) ∧ Sp w w' [RecsP (.slice A r.1.length c) r.1]
theorem pbI_cells {B : Nat} {xs : List Rec} {A : Option Addr} {c : Nat} : ∀ q ∈ PbPs B xs A c, Cellish q := fun q hq => by
  simp only [List.mem_cons, List.not_mem_nil, or_false] at hq
  rcases hq with rfl | rfl | rfl | rfl
  · exact cellish_box _ _ _
  · exact cellish_box _ _ _
  · exact cellish_box _ _ _
  · exact cellish_own _ _ _ _ _
theorem trim_call (x : ByteArray) (w : World) (hs : x.size ≤ 2000000) : Calls Tryz.prog 33 #[.string x, .string ⟨#[10]⟩] w fun e w' => e = .returned (.string (ms (trimB (bl x)))) ∧ w' = w :=
  Tryz.strings_TrimSuffix x ⟨#[10]⟩ w (by omega)

theorem pb_fail {w W' : World} {pre : List Ln} {x : Ln} {o : Obj} {xs : List Rec} {A : Option Addr} {c : Nat} (hx : lnR x = none) (hS : Sp w W' (Blk (w.heap.size + 1 + 1 + 1) o :: PbPs w.heap.size xs A c)) : PbX w .ret (pre ++ [x]) W' :=
  ⟨rfl, ⟨x, by simp, hx⟩, (hS.pick [0, 0, 0] rfl).off.1⟩
theorem pb_store {w W' : World} {o : Obj} {xs : List Rec} {A : Option Addr} {c : Nat} (hS : Sp w W' (Blk (w.heap.size + 1 + 1 + 1) o :: PbPs w.heap.size xs A c)) :
    Sp w ((W'.setCell ⟨w.heap.size, 0, none⟩ (.slice none 0 0)).setCell ⟨w.heap.size + 1, 0, none⟩ (.bool false)) (Blk (w.heap.size + 1 + 1 + 1) o :: PbPs w.heap.size xs A c) :=
  (hS.store (i := 1) rfl 0 (.slice none 0 0)).store (i := 2) rfl 0 (.bool false)
theorem keeps_two (W : World) (a b : Addr) (u v : Value) : KeepsOthers W ((W.setCell a u).setCell b v) := (KeepsOthers.setCell W a u).trans (KeepsOthers.setCell _ b v)
theorem words_four {ws : List ByteArray} (h : ws.length = 4) : ∃ a b u v, ws = [a, b, u, v] := by
  match ws, h with
  | [a, b, u, v], _ => exact ⟨a, b, u, v, rfl⟩
theorem byte_one {b : ByteArray} (h : b.size = 1) : ∃ c, b = ⟨#[c]⟩ := by
  obtain ⟨⟨l⟩⟩ := b
  match l, h with
  | [c], _ => exact ⟨c, rfl⟩

theorem results_cells2 {fn : Func} {p q : Tmp} {t u : TypeId} (h : fn.results = #[.cell p t, .cell q u]) (tmps : Array Value) (P : Program) (w : World) :
    (results fn tmps).run P w = ((asAddr (tmps.getD p undef)).run P w).andThen fun a w₁ => ((loadVar t a).run P w₁).andThen fun v w₂ => ((asAddr (tmps.getD q undef)).run P w₂).andThen fun b w₃ => ((loadVar u b).run P w₃).andThen fun v' w₄ => .ok (.tuple #[v, v']) w₄ := by
  simp only [results, h]
  simp [Sem.run_bind, Result.andThen]
theorem pb_leave {w W : World} {tmps : Array Value} {D n c : Nat} {A : Option Addr} {q : Bool} {r : List Rec × Bool} (hr : r.1.length = n) (hq : r.2 = q) (hK : W.heap[D]? = some (.deferred (some []))) (hD : w.heap.size ≤ D)
    (hS : Sp w W [Box w.heap.size 24 #[.slice A n c], Box (w.heap.size + 1) 4 #[.bool q], RecsP (.slice A r.1.length c) r.1])
    (h2 : tmps.getD 2 undef = .pointer (some ⟨w.heap.size, 0, none⟩)) (h3 : tmps.getD 3 undef = .pointer (some ⟨w.heap.size + 1, 0, none⟩)) :
    bodyPostM Fence.wide 10 Tryz.prog Tryz.f12 (PBPost r w) .ret { tmps := tmps, defers := [{ target := .collected D, args := #[] }] } W := by
  subst hr hq
  refine ⟨by simp, .inl ⟨_, _, rfl, run_takeDeferred hK, ?_⟩⟩
  have hT := hS.turn (B := W.putObj D (.deferred none)) (fun q hq => by
    simp only [List.mem_cons, List.not_mem_nil, or_false] at hq
    rcases hq with rfl | rfl | rfl
    · exact cellish_box _ _ _
    · exact cellish_box _ _ _
    · exact cellish_own _ _ _ _ _) (grownBy_putObj' W D (.deferred none)) (fun r e => by
    cases e
    exact ⟨hD, _, hK, rfl⟩)
  have c0 := hT.cell (i := 0) rfl (o := 0) rfl
  have c1 := hT.cell (i := 1) rfl (o := 0) rfl
  refine ⟨.tuple #[.slice A r.1.length c, .bool r.2], ?_, A, c, rfl, hT.tail.tail⟩
  rw [results_cells2 rfl, h2, h3]
  simp [go_sem, c0, c1]

set_option maxRecDepth 100000 in
set_option maxHeartbeats 16000000 in
theorem implParseBook_any (s : ByteArray) (w : World) (hE : PEnv w) (hs : s.size ≤ 1100000) :
    Calls Tryz.prog 12 #[.string s] w (PBPost (parB (bl s)) w) := by
  obtain ⟨i0, hi0, hz0, hz1, hz2⟩ := info_parts infoRc
  refine (callsIn_wide (n := 10)).1 ?_
  refine callsIn_of_wp_marks Tryz.func12 rfl trivial ?_ rfl
  simp only [Tryz.ntmps12, List.size_toArray, List.length_cons, List.length_nil, Nat.reduceAdd, Nat.reduceSub, Array.replicate_succ, Array.replicate_zero, List.push_toArray, List.append_toArray, List.nil_append, List.cons_append]
  have S0 := (((((Sp.start w).own_nil 30 4).alloc_box #[.slice none 0 0] 24).alloc_box #[.bool false] 4).alloc_box #[.slice none 0 0] 24).alloc_box #[.string s] 9
  simp only [World.size_alloc] at S0
  have S1 := S0.pick [0, 2, 1, 0, 0] rfl
  clear S0
  replace S1 := Lib.hid S1
  gi_wp2_with (refine ⟨trivial, ?_⟩; gi_at_call 31; refine (callsIn_wide.2 (lines_any s _)).mono ?_; rintro e w' ⟨rfl, rfl⟩)
  obtain ⟨W0, hW0⟩ : ∃ W0, ((((w.alloc (.cells #[.slice none 0 0] 24)).alloc (.cells #[.bool false] 4)).alloc (.cells #[.slice none 0 0] 24)).alloc (.cells #[.string s] 9)) = W0 := ⟨_, rfl⟩
  have hsz : W0.heap.size = w.heap.size + 4 := by rw [← hW0]; simp
  rw [hW0] at S1 ⊢
  clear hW0
  have hBs := (S1.out.box (i := 0) rfl).2.2
  have hown : ∀ (cd : Code), OwnFrom W0.heap.size (PbX w cd) := fun cd => spN_ownFrom _ (by omega) _ fun pre W ⟨h1, h2, h3⟩ => ⟨_, h3, fun q hq => by
    simp only [List.mem_cons, List.not_mem_nil, or_false] at hq
    rcases hq with rfl | rfl
    · exact cellish_box _ _ _
    · exact cellish_box _ _ _, fun W' h' => ⟨h1, h2, h'⟩⟩
  refine wpIn_rangeBox (n := 10) (encs := lnEncs) (Kp := KeepO (w.heap.size + 1 + 1 + 1)) (w0 := W0) (b := w.heap.size + 1 + 1 + 1) rfl (by omega) rfl trivial (enters_of Tryz.func57 (by kernel_rfl) rfl) (by omega)
    (lines1_seq s (by omega) _ W0 hBs) (Below.refl _ _) (fun _ => rfl) keepO_t (keepO_b (by omega))
    (PbI w) (PbX w) (spN_ownFrom _ (by omega) _ fun pre W ⟨xs, A, c, h1, h2⟩ => ⟨_, h2, pbI_cells, fun W' h' => ⟨xs, A, c, h1, h'⟩⟩) hown
    (spN_stays _ fun pre W ⟨xs, A, c, h1, h2⟩ => ⟨_, h2, fun W' h' => ⟨xs, A, c, h1, h'⟩⟩)
    (fun cd => spN_stays _ fun pre W ⟨h1, h2, h3⟩ => ⟨_, h3, fun W' h' => ⟨h1, h2, h'⟩⟩)
    ⟨[], none, 0, rfl, S1.out.box_off⟩ ?a1 ?assign ?body ?done ?stop
  case assign =>
    rintro l x W K hK
    unfold lnEncs
    gi_wp2
    exact hK
  case body =>
    rintro l pre x W ⟨xs, A, c, hR, hS⟩ hN
    obtain ⟨o, ho, hSp⟩ := hS.blk
    have hRok := recs_ok hR
    have hxl : xs.length = pre.length := by have := congrArg List.length hR; rw [List.length_map, List.length_map] at this; exact this.symm
    obtain ⟨T, hT⟩ : ∃ T, ms (trimB (lnB x)) = T := ⟨_, rfl⟩
    have hTs : T.size ≤ 2000000 := by
      have h1 := trimB_len (lnB x)
      have h2 := x.property
      have h3 : (lnB x).length = x.val.size := bl_length _
      have h4 := congrArg ByteArray.size hT
      rw [← bl_length, bl_ms] at h4
      omega
    have htr := trim_call x.val W x.property
    rw [show bl x.val = lnB x from rfl, hT] at htr
    have hspl := split_any T 32 W (hE.grow hSp.below) hTs
    have hTb : bl T = trimB (lnB x) := by rw [← hT, bl_ms]
    replace hSp := Lib.hid hSp
    replace hR := Lib.hid hR
    replace hRok := Lib.hid hRok
    replace hTb := Lib.hid hTb
    replace hxl := Lib.hid hxl
    replace ho := Lib.hid ho
    clear hS hBs S1 hT
    gi_upto_region 5 with first | (refine ⟨trivial, ?_⟩; gi_at_call 33; refine (CallsIn.inRound l (callsIn_wide.2 htr)).mono ?_; rintro e w1 ⟨rfl, rfl⟩) | (refine ⟨trivial, ?_⟩; gi_at_call 32; refine (CallsIn.inRound l (callsIn_wide.2 hspl)).mono ?_; rintro e w2 ⟨g, ws, rfl, hmap, hWs, hb2, -⟩)
    have hlw := Lib.hid (lnR_words (x := x) (ws := ws.map bl) (by rw [hmap, hTb.out]; rfl))
    have S2 := Lib.hid (hSp.out.grow hb2)
    have kp2 := Lib.hid (keeps_below hb2)
    clear htr hspl
    have c0 := S2.out.cell (i := 1) rfl (o := 0) rfl
    have c1 := S2.out.cell (i := 2) rfl (o := 0) rfl
    have c2 := S2.out.cell (i := 3) rfl (o := 0) rfl
    have f0 := S2.out.frozen (i := 1) rfl 0
    have f1 := S2.out.frozen (i := 2) rfl 0
    have f2 := S2.out.frozen (i := 3) rfl 0
    by_cases h4 : ws.length = 4
    case neg =>
      have hno := Lib.hid (hlw.out.trans (rdW_four (by rw [List.length_map]; exact h4)))
      have h4' : ¬ (ws.length : Int) = 4 := by omega
      have S3 := Lib.hid (pb_store S2.out)
      clear hmap hWs hb2 hSp hR hRok hxl S2 h4 hE
      gi_wp2
      exact ⟨kp2.out.trans (keeps_two _ _ _ _ _), pb_fail hno.out S3.out⟩
    obtain ⟨a, b, u, v, rfl⟩ := words_four h4
    have k0 : w2.cell? ⟨g, 0, none⟩ = some (.string a) := hWs 0 (by simp)
    have k1 : w2.cell? ⟨g, 1, none⟩ = some (.string b) := hWs 1 (by simp)
    have k2 : w2.cell? ⟨g, 2, none⟩ = some (.string u) := hWs 2 (by simp)
    have k3 : w2.cell? ⟨g, 3, none⟩ = some (.string v) := hWs 3 (by simp)
    have hgl : g < w2.heap.size := World.block_lt_of_cell? _ _ k0
    have hlen : ([a, b, u, v] : List ByteArray).length = 4 := rfl
    rw [hlen]
    by_cases hb1 : b.size = 1
    case neg =>
      have hno := Lib.hid (hlw.out.trans (rdW_one (by rw [bl_length]; exact hb1)))
      have hb1' : ((b.size : Int) == 1) = false := by rw [beq_eq_false_iff_ne]; omega
      have S3 := Lib.hid (pb_store S2.out)
      clear hmap hWs hb2 hSp hR hRok hxl S2 h4 hE hb1
      gi_wp2
      exact ⟨kp2.out.trans (keeps_two _ _ _ _ _), pb_fail hno.out S3.out⟩
    have hus : ∀ x ∈ ([u, v] : List ByteArray), x.size ≤ 2000000 := by
      intro y hy
      have h1 := split_part_lenB 32 (bl T) (bl y) (by
        have : bl y ∈ List.map bl [a, b, u, v] := List.mem_map.2 ⟨y, List.mem_cons_of_mem _ (List.mem_cons_of_mem _ hy), rfl⟩
        rw [hmap] at this
        exact this)
      rw [bl_length, bl_length] at h1
      omega
    obtain ⟨cb, rfl⟩ := byte_one hb1
    have hpi := parseInts_any [u, v] g 2 2 w2 (hE.grow S2.out.below) (fun j hj => by
      match j, hj with
      | 0, _ => exact k2
      | 1, _ => exact k3) hus (by simp)
    have hb1' : (((⟨#[cb]⟩ : ByteArray).size : Int) == 1) = true := rfl
    clear hmap hWs hb2 hSp h4 hE hus k2 k3
    cases hq : numsOk [bl u, bl v]
    · have hpi2 : Calls Tryz.prog 34 #[.slice (some ⟨g, 2, none⟩) 2 2] w2 fun e w' => e = .returned (.tuple #[.slice none 0 0, .bool false]) ∧ Below w2.heap.size w2 w' := hpi.mono fun e w' h => by
        rcases h with ⟨h1, -⟩ | ⟨-, h2, h3⟩
        · rw [show List.map bl [u, v] = [bl u, bl v] from rfl, hq] at h1; cases h1
        · exact ⟨h2, h3⟩
      have hno := Lib.hid (hlw.out.trans (rdW_no (a := bl a) (c := cb) hq))
      clear hpi hlw hq hR hRok hxl c0 c1 c2 f0 f1 f2
      gi_upto_region 9 with (refine ⟨trivial, ?_⟩; gi_at_call 34; refine (CallsIn.inRound l (callsIn_wide.2 hpi2)).mono ?_; rintro e w3 ⟨rfl, hb3⟩)
      have S3 := Lib.hid (S2.out.grow hb3)
      have S4 := Lib.hid (pb_store S3.out)
      have kp3 := Lib.hid (kp2.out.trans (keeps_below hb3))
      have c0 := S3.out.cell (i := 1) rfl (o := 0) rfl
      have c1 := S3.out.cell (i := 2) rfl (o := 0) rfl
      have f0 := S3.out.frozen (i := 1) rfl 0
      have f1 := S3.out.frozen (i := 2) rfl 0
      clear hb3 hpi2 S2 S3 kp2
      gi_wp2
      exact ⟨kp3.out.trans (keeps_two _ _ _ _ _), pb_fail hno.out S4.out⟩
    have hpi2 : Calls Tryz.prog 34 #[.slice (some ⟨g, 2, none⟩) 2 2] w2 fun e w' => ∃ B c, e = .returned (.tuple #[.slice B 2 c, .bool true]) ∧ Sp w2 w' [Own 3 1 (.slice B 2 c) 2 [.int .i64 (numB (bl u)).1, .int .i64 (numB (bl v)).1]] := hpi.mono fun e w' h => by
      rcases h with ⟨-, h2⟩ | ⟨h1, -, -⟩
      · exact h2
      · rw [show List.map bl [u, v] = [bl u, bl v] from rfl, hq] at h1; cases h1
    have hyes := Lib.hid (hlw.out.trans (rdW_yes (a := bl a) (c := cb) hq))
    have hz1' := @numB_in (bl u)
    have hz2' := @numB_in (bl v)
    generalize (numB (bl u)).1 = z1 at *
    generalize (numB (bl v)).1 = z2 at *
    clear hpi hlw hq c0 c1 c2 f0 f1 f2
    gi_upto_region 10 with (refine ⟨trivial, ?_⟩; gi_at_call 34; refine (CallsIn.inRound l (callsIn_wide.2 hpi2)).mono ?_; rintro e w3 ⟨Bn, cn, rfl, S3⟩)
    have kp3 := Lib.hid (kp2.out.trans (keeps_below S3.below))
    have k0 := (S3.below.cell (World.block_lt_of_cell? _ _ k0)).trans k0
    have k1 := (S3.below.cell (World.block_lt_of_cell? _ _ k1)).trans k1
    have S4 := Lib.hid (S2.out.seq S3)
    obtain ⟨gn, capn, curn, e1, h0n, hgn, hcn, hmn, hcc, htn⟩ := own_block (S4.out.own (i := 0) rfl) (by decide)
    simp only [Value.slice.injEq] at e1
    obtain ⟨rfl, -, rfl⟩ := e1
    have n0 := (own_at hgn htn (o := 0) (by decide)).1
    have n1 := (own_at hgn htn (o := 1) (by decide)).1
    have c2 := S4.out.cell (i := 4) rfl (o := 0) rfl
    have hbB := (S4.out.box (i := 4) rfl).2.1
    have hbg := World.block_lt_of_cell? _ _ k0
    have hbn := (Array.getElem?_eq_some_iff.1 hgn).1
    have hidx := Tryz.strings_Index_one ⟨#[114, 116, 108, 112]⟩ cb w3.drew
    obtain ⟨si, hsi⟩ : ∃ si, Lib.indexByte [114, 116, 108, 112] cb = si := ⟨_, rfl⟩
    rw [show (⟨#[114, 116, 108, 112]⟩ : ByteArray).data.toList = [114, 116, 108, 112] from rfl, hsi] at hidx
    have hsy : sysB cb = si + 1 := by unfold sysB; rw [hsi]
    have hsr := sysB_in cb
    rw [hsy] at hsr
    have hws : IntKind.i64.wrap (si + 1) = si + 1 := IntWalk.i64_in _ (by omega)
    rw [hsy] at hyes
    clear hgn hcc htn S3 S2 hpi2 kp2 hsi hsy
    refine wpIn_round_tail_lit (S := fun w' => w'.cell? ⟨w.heap.size + 1 + 1, 0, none⟩ = some (.slice A xs.length c) ∧ w'.cell? ⟨g, 0, none⟩ = some (.string a) ∧ w'.cell? ⟨g, 1, none⟩ = some (.string ⟨#[cb]⟩) ∧ w'.cell? ⟨gn, 0, none⟩ = some (.int .i64 z1) ∧ w'.cell? ⟨gn, 1, none⟩ = some (.int .i64 z2)) 17 (List.replicate 19 false) (by kernel_rfl) (by kernel_rfl) (by kernel_rfl) (by kernel_rfl) ?hQ ?_ ?_
    case hQ => rintro ⟨_, _, h⟩; exact h
    · exact ⟨c2, k0, k1, n0, n1⟩
    rintro ⟨s0, s1, s2, s3, s4⟩
    have hSc : (fun w' => w'.cell? ⟨w.heap.size + 1 + 1, 0, none⟩ = some (.slice A xs.length c) ∧ w'.cell? ⟨g, 0, none⟩ = some (.string a) ∧ w'.cell? ⟨g, 1, none⟩ = some (.string ⟨#[cb]⟩) ∧ w'.cell? ⟨gn, 0, none⟩ = some (.int .i64 z1) ∧ w'.cell? ⟨gn, 1, none⟩ = some (.int .i64 z2) : World → Prop) w3.drew := ⟨s0, s1, s2, s3, s4⟩
    (refine walkT_take (i := 0) (v := ?_) rfl (by kernel_rfl) (by decide) (by kernel_rfl) (by kernel_rfl) (fun _ _ _ h => h) (Or.inl ⟨by rfl, ?_⟩) (by assumption) ?_; rotate_left; (focus (intro w hSw; (try dsimp only at hSw); go_simp; (try with_reducible rfl); done)); (try simp only [put_rules]))
    (refine walkT_take (i := 1) (v := ?_) rfl (by kernel_rfl) (by decide) (by kernel_rfl) (by kernel_rfl) (fun _ _ _ h => h) (Or.inl ⟨by rfl, ?_⟩) (by assumption) ?_; rotate_left; (focus (intro w hSw; (try dsimp only at hSw); go_simp; (try with_reducible rfl); done)); (try simp only [put_rules]))
    (refine walkT_take (i := 2) (v := ?_) rfl (by kernel_rfl) (by decide) (by kernel_rfl) (by kernel_rfl) (fun _ _ _ h => h) (Or.inl ⟨by rfl, ?_⟩) (by assumption) ?_; rotate_left; (focus (intro w hSw; (try dsimp only at hSw); go_simp; (try with_reducible rfl); done)); (try simp only [put_rules]))
    (refine walkT_take (i := 3) (v := ?_) rfl (by kernel_rfl) (by decide) (by kernel_rfl) (by kernel_rfl) (fun _ _ _ h => h) (Or.inl ⟨by rfl, ?_⟩) (by assumption) ?_; rotate_left; (focus (intro w hSw; (try dsimp only at hSw); go_simp; (try with_reducible rfl); done)); (try simp only [put_rules]))
    (refine walkT_take (i := 4) (v := ?_) rfl (by kernel_rfl) (by decide) (by kernel_rfl) (by kernel_rfl) (fun _ _ _ h => h) (Or.inl ⟨by rfl, ?_⟩) (by assumption) ?_; rotate_left; (focus (intro w hSw; (try dsimp only at hSw); go_simp; (try with_reducible rfl); done)); (try simp only [put_rules]))
    (refine walkT_take (i := 5) (v := ?_) rfl (by kernel_rfl) (by decide) (by kernel_rfl) (by kernel_rfl) (fun _ _ _ h => h) (Or.inl ⟨by rfl, ?_⟩) (by assumption) ?_; rotate_left; (focus (intro w hSw; (try dsimp only at hSw); go_simp; (try with_reducible rfl); done)); (try simp only [put_rules]))
    (refine walkT_take (i := 6) (v := ?_) rfl (by kernel_rfl) (by decide) (by kernel_rfl) (by kernel_rfl) (fun _ _ _ h => h) (Or.inl ⟨by rfl, ?_⟩) (by assumption) ?_; rotate_left; (focus (intro w hSw; (try dsimp only at hSw); go_simp; (try with_reducible rfl); done)); (try simp only [put_rules]))
    (refine walkT_take (i := 9) (v := ?_) rfl (by kernel_rfl) (by decide) (by kernel_rfl) (by kernel_rfl) (fun _ _ _ h => h) (Or.inl ⟨by rfl, ?_⟩) (by assumption) ?_; rotate_left; (focus (intro w hSw; (try dsimp only at hSw); go_simp; (try with_reducible rfl); done)); (try simp only [put_rules]))
    (refine walkT_take (i := 10) (v := ?_) rfl (by kernel_rfl) (by decide) (by kernel_rfl) (by kernel_rfl) (fun _ _ _ h => h) (Or.inl ⟨by rfl, ?_⟩) (by assumption) ?_; rotate_left; (focus (intro w hSw; (try dsimp only at hSw); go_simp; (try with_reducible rfl); done)); (try simp only [put_rules]))
    (refine walkT_take (i := 11) (v := ?_) rfl (by kernel_rfl) (by decide) (by kernel_rfl) (by kernel_rfl) (fun _ _ _ h => h) (Or.inl ⟨by rfl, ?_⟩) (by assumption) ?_; rotate_left; (focus (intro w hSw; (try dsimp only at hSw); go_simp; (try with_reducible rfl); done)); (try simp only [put_rules]))
    (refine walkT_take (i := 12) (v := ?_) rfl (by kernel_rfl) (by decide) (by kernel_rfl) (by kernel_rfl) (fun _ _ _ h => h) (Or.inl ⟨by rfl, ?_⟩) (by assumption) ?_; rotate_left; (focus (intro w hSw; (try dsimp only at hSw); go_simp; (try with_reducible rfl); done)); (try simp only [put_rules]))
    (refine walkT_take (i := 13) (v := ?_) rfl (by kernel_rfl) (by decide) (by kernel_rfl) (by kernel_rfl) (fun _ _ _ h => h) (Or.inl ⟨by rfl, ?_⟩) (by assumption) ?_; rotate_left; (focus (intro w hSw; (try dsimp only at hSw); go_simp; (try with_reducible rfl); done)); (try simp only [put_rules]))
    (refine walkT_take (i := 14) (v := ?_) rfl (by kernel_rfl) (by decide) (by kernel_rfl) (by kernel_rfl) (fun _ _ _ h => h) (Or.inl ⟨by rfl, ?_⟩) (by assumption) ?_; rotate_left; (focus (intro w hSw; (try dsimp only at hSw); go_simp; (try with_reducible rfl); done)); (try simp only [put_rules]))
    (refine walkT_ready (rs := [7]) (by kernel_rfl) (by simp) (by decide) ?_; refine AllT.cons rfl (fun K hK => ?_) AllT.nil)
    go_simp
    go_at_call 35
    refine hidx.mono ?_
    rintro e w5 ⟨rfl, rfl⟩
    go_wp2_with fail
    refine hK.out _ _ hSc (fun hS2 => ?_)
    clear hK hS2
    (try simp only [put_rules])
    (refine walkT_take (i := 8) (v := ?_) rfl (by kernel_rfl) (by decide) (by kernel_rfl) (by kernel_rfl) (fun _ _ _ h => h) (Or.inl ⟨by rfl, ?_⟩) (by assumption) ?_; rotate_left; (focus (intro w hSw; (try dsimp only at hSw); go_simp; (try with_reducible rfl); done)); (try simp only [put_rules]))
    (refine walkT_take (i := 15) (v := ?_) rfl (by kernel_rfl) (by decide) (by kernel_rfl) (by kernel_rfl) (fun _ _ _ h => h) (Or.inl ⟨by rfl, ?_⟩) (by assumption) ?_; rotate_left; (focus (intro w hSw; (try dsimp only at hSw); go_simp; (try with_reducible rfl); done)); (try simp only [put_rules]))
    (refine walkT_ready (rs := [16]) (by kernel_rfl) (by simp) (by decide) ?_; refine AllT.cons rfl (fun K hK => ?_) AllT.nil)
    go_simp
    have hal := bal (bb w3) (.cells #[.string a, .int .i64 (si + 1), .int .i64 z1, .int .i64 z2] 30)
    have hbS : w.heap.size + 1 + 1 < w3.heap.size := hbB
    refine hK.out _ _ ⟨(hal.cell hbS).trans c2, (hal.cell (Nat.lt_of_lt_of_le hbg (Nat.le_refl _))).trans k0, (hal.cell (Nat.lt_of_lt_of_le hbg (Nat.le_refl _))).trans k1, (hal.cell hbn).trans n0, (hal.cell hbn).trans n1⟩ (fun hS3 => ?_)
    clear hK hS3 hSc s0 s1 s2 s3 s4 k0 k1 n0 n1 hidx
    (try simp only [put_rules])
    (refine walkT_done (by kernel_rfl) ?_)
    simp only [List.drop_succ_cons, List.drop_zero]
    have S5 := (S4.out.alloc_box #[.string a, .int .i64 (si + 1), .int .i64 z1, .int .i64 z2] 30).drew
    have b0 : (w3.alloc (.cells #[.string a, .int .i64 (si + 1), .int .i64 z1, .int .i64 z2] 30)).drew.cell? ⟨w3.heap.size, 0, none⟩ = some (.string (ms (bl a))) := by rw [ms_bl]; exact S5.cell (i := 0) rfl (o := 0) rfl
    have hsrc := src_recP (r := ⟨bl a, si + 1, z1, z2⟩) b0 (S5.cell (i := 0) rfl (o := 1) rfl) (S5.cell (i := 0) rfl (o := 2) rfl) (S5.cell (i := 0) rfl (o := 3) rfl)
    have hxn : xs.length ≤ 2000000 := by have := hxl.out; omega
    replace S5 := Lib.hid S5
    replace hsrc := Lib.hid hsrc
    have kp5 := Lib.hid ((kp3.out.trans (KeepsOthers.alloc w3 (.cells #[.string a, .int .i64 (si + 1), .int .i64 z1, .int .i64 z2] 30))).trans (keeps_below (bdr (bb _))))
    (refine wpList_append_src rfl _ _ rfl Tryz.underlying24 hi0 hz0 hz1 hz2 rfl (by decide) _ xs.length _ rfl (S5.out.own (i := 6) rfl) _ 1 1 (rcEnc ⟨bl a, si + 1, z1, z2⟩) rfl hsrc.out (rec_oneP _) (by unfold maxLen; omega) (by omega) ?_; intro vY wY hownY hgY hatY)
    have S6 := (S5.out.own_push (i := 6) rfl (bb _) hownY hgY hatY).tail.tail
    have kp6 := Lib.hid (kp5.out.trans (KeepsOthers.of_grownBy hgY (own_cells (S5.out.own (i := 6) rfl))))
    obtain ⟨aY, cY, rfl⟩ := own_slice hownY
    have c3 := S6.cell (i := 3) rfl (o := 0) rfl
    have f3 := S6.frozen (i := 3) rfl 0
    have S7 := Lib.hid (S6.store (i := 3) rfl 0 (.slice aY (xs.length + 1) cY))
    clear S5 S6 hownY hgY hatY hsrc b0 kp5 hal
    go_wp2_with fail
    have hS8 : Sp w (wY.setCell ⟨w.heap.size + 1 + 1, 0, none⟩ (.slice aY (xs.length + 1) cY)) (Blk (w.heap.size + 1 + 1 + 1) o :: PbPs w.heap.size (xs ++ [⟨bl a, si + 1, z1, z2⟩]) aY cY) := by
      have h := S7.out
      unfold PbPs RecsP
      rw [List.length_append, List.length_singleton, List.flatMap_append, List.flatMap_singleton]
      exact h
    refine ⟨kp6.out.trans (KeepsOthers.setCell _ _ _), hS8.off.2.trans ho.out.symm, xs ++ [⟨bl a, si + 1, z1, z2⟩], aY, cY, ?_, hS8.off.1⟩
    rw [List.map_append, List.map_append, hR.out, List.map_singleton, List.map_singleton, hyes.out]
  case done =>
    rintro D ys W hD hys ⟨xs, A, c, hR, hS⟩ hK
    have hRok := recs_ok hR
    have hend := line_end (s := bl s) (xs := xs) (by
      rw [hys, ← hR, List.map_map]; rfl)
    replace hS := hS.sp
    obtain ⟨Fr, hr, -, -⟩ := hS.recs_rowP (i := 3) rfl hRok
    have hbt := implBookText_any _ xs Fr W (hE.grow hS.below).pw (row_readP hr)
    have c0 := hS.cell (i := 0) rfl (o := 0) rfl
    have c1 := hS.cell (i := 1) rfl (o := 0) rfl
    have c2 := hS.cell (i := 2) rfl (o := 0) rfl
    replace hS := Lib.hid hS
    replace hend := Lib.hid hend
    clear hr hR hRok hown hBs S1 hE hys
    cases hb : bookB xs
    · rw [hb] at hbt
      have hR : Hid (parB (bl s) = ([], false)) := by unfold Hid; rw [hend.out, hb]; rfl
      gi_upto_region 13 with (refine ⟨trivial, ?_⟩; gi_at_call 11; refine (callsIn_wide.2 hbt).mono ?_; rintro e w2 ⟨rfl, hb2⟩)
      have S2 := Lib.hid (hS.out.grow hb2)
      have hK2 := Lib.hid ((keeps_below hb2).same D _ hK rfl)
      have S3 := Lib.hid (((S2.out.store (i := 0) rfl 0 (.slice none 0 0)).store (i := 1) rfl 0 (.bool false)))
      have c0 := S2.out.cell (i := 0) rfl (o := 0) rfl
      have c1 := S2.out.cell (i := 1) rfl (o := 0) rfl
      have f0 := S2.out.frozen (i := 0) rfl 0
      have f1 := S2.out.frozen (i := 1) rfl 0
      clear hb2 hbt S2 hS hK
      gi_wp2
      refine pb_leave (r := parB (bl s)) (A := none) (c := 0) (n := 0) (q := false) (by rw [hR.out]; rfl) (by rw [hR.out]) ((keeps_two _ _ _ _ _).same D _ hK2.out rfl) (by omega) ?_ rfl rfl
      rw [hR.out]
      exact ((S3.out.pick [0, 0] rfl).own_nil 30 4).pick [1, 1, 0] rfl
    rw [hb] at hbt
    have hms : ms (if true = true then textB xs else []) = ms (textB xs) := rfl
    rw [hms] at hbt
    cases hq : textB xs == bl s
    · have hR : Hid (parB (bl s) = ([], false)) := by unfold Hid; rw [hend.out, hb, hq]; rfl
      have hne : (textB xs != bl s) = true := by simp [bne, hq]
      gi_upto_region 13 with (refine ⟨trivial, ?_⟩; gi_at_call 11; refine (callsIn_wide.2 hbt).mono ?_; rintro e w2 ⟨rfl, hb2⟩)
      have S2 := Lib.hid (hS.out.grow hb2)
      have hK2 := Lib.hid ((keeps_below hb2).same D _ hK rfl)
      have S3 := Lib.hid (((S2.out.store (i := 0) rfl 0 (.slice none 0 0)).store (i := 1) rfl 0 (.bool false)))
      have c0 := S2.out.cell (i := 0) rfl (o := 0) rfl
      have c1 := S2.out.cell (i := 1) rfl (o := 0) rfl
      have f0 := S2.out.frozen (i := 0) rfl 0
      have f1 := S2.out.frozen (i := 1) rfl 0
      clear hb2 hbt S2 hS hK
      gi_wp2
      refine pb_leave (r := parB (bl s)) (A := none) (c := 0) (n := 0) (q := false) (by rw [hR.out]; rfl) (by rw [hR.out]) ((keeps_two _ _ _ _ _).same D _ hK2.out rfl) (by omega) ?_ rfl rfl
      rw [hR.out]
      exact ((S3.out.pick [0, 0] rfl).own_nil 30 4).pick [1, 1, 0] rfl
    have hR : Hid (parB (bl s) = (xs, true)) := by unfold Hid; rw [hend.out, hb, hq]; rfl
    have hne : (textB xs != bl s) = false := by simp [bne, hq]
    gi_upto_region 14 with (refine ⟨trivial, ?_⟩; gi_at_call 11; refine (callsIn_wide.2 hbt).mono ?_; rintro e w2 ⟨rfl, hb2⟩)
    have S2 := Lib.hid (hS.out.grow hb2)
    have hK2 := Lib.hid ((keeps_below hb2).same D _ hK rfl)
    have S3 := Lib.hid (((S2.out.store (i := 0) rfl 0 (.slice A xs.length c)).store (i := 1) rfl 0 (.bool true)))
    have c0 := S2.out.cell (i := 0) rfl (o := 0) rfl
    have c1 := S2.out.cell (i := 1) rfl (o := 0) rfl
    have c2 := S2.out.cell (i := 2) rfl (o := 0) rfl
    have f0 := S2.out.frozen (i := 0) rfl 0
    have f1 := S2.out.frozen (i := 1) rfl 0
    clear hb2 hbt S2 hS hK
    gi_wp2
    refine pb_leave (r := parB (bl s)) (A := A) (c := c) (n := xs.length) (q := true) (by rw [hR.out]) (by rw [hR.out]) ((keeps_two _ _ _ _ _).same D _ hK2.out rfl) (by omega) ?_ rfl rfl
    rw [hR.out]
    exact S3.out.pick [0, 0, 1] rfl
  case stop =>
    rintro D cd pre W hD ⟨t, ht⟩ ⟨rfl, ⟨p, hp, hno⟩, hS⟩ hK
    have hR : parB (bl s) = ([], false) := line_no (p := lnB p) (by
      rw [ht]
      exact List.mem_append_left _ (List.mem_map.2 ⟨p, hp, rfl⟩)) hno
    gi_wp2
    refine pb_leave (r := parB (bl s)) (A := none) (c := 0) (n := 0) (q := false) (by rw [hR]; rfl) (by rw [hR]) hK (by omega) ?_ rfl rfl
    rw [hR]
    exact (hS.sp.own_nil 30 4).pick [1, 1, 0] rfl
end Go.Proofs.YtpiimlmfcdjbbaaGreatDoor
