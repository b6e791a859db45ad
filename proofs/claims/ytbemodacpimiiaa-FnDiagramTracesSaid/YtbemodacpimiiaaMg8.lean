/- Lemmas and contracts for a law, put together out of several texts: DtF TcB DtG DtH TxF CyA. -/
import Derived.Test.YtbemodacpimiiaaMg7
import Derived.Test.YtbemodacpimiiaaMg5
import Derived.Test.YtbemodacpimiiaaMg3
/- Contracts: conjunction traces, their sizes, traces that are told, in the program. -/
namespace Go.Proofs.Ytbemodacpimiiaa
open Go.RowKit

def outL (ok : Bool) (vars : Int) (xss : List (List Int)) : List (Int × List Nd) := if ok then trL vars.toNat xss xss.length else []
def szL (L : List (Int × List Nd)) : List Int := L.map fun d => (d.2.length : Int)
theorem szL_len (L : List (Int × List Nd)) : (szL L).length = L.length := by simp [szL]
theorem tr_small {n : Nat} (hn : n ≤ 6) (xss : List (List Int)) (k : Nat) : ∀ d ∈ trL n xss k, d.2.length ≤ 63 := fun d hd => by
  unfold trL at hd
  obtain ⟨i, -, rfl⟩ := List.mem_map.1 hd
  exact dg_len _ hn
/-- A list of diagrams and whether there is one. -/
def TrTold (w : World) (ok : Bool) (L : List (Int × List Nd)) (e : Ending) (w' : World) : Prop :=
  ∃ (B : Option Addr) (c : Nat) (ks : List Dk), e = .returned (.tuple #[.slice B ks.length c, .bool ok]) ∧ ks.map Dk.d = L ∧ Sp w w' (DList (.slice B ks.length c) ks)
/-- Numbers and whether there are any. -/
def SzTold (w : World) (ok : Bool) (z : List Int) (e : Ending) (w' : World) : Prop :=
  ∃ (B : Option Addr) (c : Nat), e = .returned (.tuple #[.slice B z.length c, .bool ok]) ∧ IntsAt w' B z ∧ Below w.heap.size w w'

theorem cnf_row {vars : Int} {v : Value} {xss : List (List Int)} {F : List Nat} {w : World} (hx : (Ty.slice Ty.int).row false w v xss F) : ∃ A cap, v = .slice A xss.length cap ∧ xss.length ≤ cap ∧ ClsAt w A xss := by
  obtain ⟨A, cap, rfl, hI⟩ := cls_row hx
  obtain ⟨_, _, e, h1, -⟩ := Ty.row_len hx
  cases e
  exact ⟨A, cap, rfl, h1, hI⟩

set_option maxRecDepth 100000 in
set_option maxHeartbeats 4000000 in
theorem conjTrace_any (vars : Int) (v : Value) (xss : List (List Int)) (F : List Nat) (w : World) (hx : (Ty.slice Ty.int).row false w v xss F) :
    Calls Try.prog 9 #[.agg #[.int .i64 vars, v]] w (TrTold w (dCnf vars xss) (outL (dCnf vars xss) vars xss)) := by
  obtain ⟨A, cap, rfl, hcap, hI⟩ := cnf_row (vars := vars) hx
  have S0 := (Sp.start w).alloc_box #[.int .i64 vars, .slice A xss.length cap] 26
  have hcall := Lib.hid (diagramCnf_any vars _ xss F _ (Ty.row_below hx S0.below (Ty.row_lt hx)))
  replace hI := Lib.hid hI
  replace S0 := Lib.hid S0
  clear hx
  cases h1 : dCnf vars xss
  · rw [h1] at hcall
    go_enter Try.func9, Try.ntmps9
    go_wp2_with fail
    refine hcall.out.mono ?_
    rintro e w1 ⟨rfl, hb1⟩
    have S1 := Lib.hid ((((S0.out.grow hb1).ndpool_nil).own_nil 34 2).front (qs := [_, _]))
    clear S0 hcall hb1
    go_wp2_with fail
    go_ret2
    exact ⟨none, 0, [], rfl, rfl, S1.out⟩
  rw [h1] at hcall
  unfold dCnf at h1
  rw [Bool.and_eq_true, inB_def] at h1
  obtain ⟨⟨hv0, hv1⟩, hg⟩ := h1
  have hgc := good_cnf hg
  obtain ⟨n, rfl⟩ := Int.eq_ofNat_of_zero_le hv0
  have hn : n ≤ 6 := by omega
  have hO : Hid (outL true (n : Int) xss = trL n xss xss.length) := rfl
  have htr := Lib.hid (fun W (hb : Below w.heap.size w W) => trace_any n hn xss hgc.2.2.2 (by omega) A cap hcap W (hI.out.grow hb))
  clear hgc hg hI hv0 hv1
  go_enter Try.func9, Try.ntmps9
  go_wp2_with fail
  refine hcall.out.mono ?_
  rintro e w2 ⟨rfl, hb1⟩
  have S2 := S0.out.grow hb1
  have c0 := S2.cell (i := 0) rfl (o := 0) rfl
  have c1 := S2.cell (i := 0) rfl (o := 1) rfl
  have hpl2 := Lib.hid (htr.out _ S2.below)
  replace S2 := Lib.hid S2
  clear S0 hcall hb1 htr
  go_wp2_with fail
  refine hpl2.out.mono ?_
  rintro e w3 ⟨v, rfl, B, k, ks, rfl, hL, T⟩
  have S3 := Lib.hid ((S2.out.seq T).front (qs := [_, _]))
  replace hL := Lib.hid hL
  clear S2 T hpl2 c0 c1
  go_wp2_with fail
  go_ret2
  exact ⟨B, k, ks, rfl, by rw [hO.out, hL.out], S3.out⟩

set_option maxRecDepth 100000 in
set_option maxHeartbeats 4000000 in
theorem conjSizes_any (vars : Int) (v : Value) (xss : List (List Int)) (F : List Nat) (w : World) (hx : (Ty.slice Ty.int).row false w v xss F) :
    Calls Try.prog 12 #[.agg #[.int .i64 vars, v]] w (SzTold w (dCnf vars xss) (szL (outL (dCnf vars xss) vars xss))) := by
  obtain ⟨A, cap, rfl, hcap, hI⟩ := cnf_row (vars := vars) hx
  have S0 := (Sp.start w).alloc_box #[.int .i64 vars, .slice A xss.length cap] 26
  have hcall := Lib.hid (diagramCnf_any vars _ xss F _ (Ty.row_below hx S0.below (Ty.row_lt hx)))
  replace hI := Lib.hid hI
  replace S0 := Lib.hid S0
  clear hx
  cases h1 : dCnf vars xss
  · rw [h1] at hcall
    go_enter Try.func12, Try.ntmps12
    go_wp2_with fail
    refine hcall.out.mono ?_
    rintro e w1 ⟨rfl, hb1⟩
    have hB := (S0.out.grow hb1).below
    clear S0 hcall hb1
    go_wp2_with fail
    go_ret2
    exact ⟨none, 0, rfl, .nil _ _, hB⟩
  rw [h1] at hcall
  unfold dCnf at h1
  rw [Bool.and_eq_true, inB_def] at h1
  obtain ⟨⟨hv0, hv1⟩, hg⟩ := h1
  have hgc := good_cnf hg
  obtain ⟨n, rfl⟩ := Int.eq_ofNat_of_zero_le hv0
  have hn : n ≤ 6 := by omega
  have hO : Hid (outL true (n : Int) xss = trL n xss xss.length) := rfl
  have htr := Lib.hid (fun W (hb : Below w.heap.size w W) => trace_any n hn xss hgc.2.2.2 (by omega) A cap hcap W (hI.out.grow hb))
  have hsm := Lib.hid (tr_small hn xss xss.length)
  have hLl : Hid ((trL n xss xss.length).length ≤ 60) := by unfold Hid; rw [trL_len]; exact hgc.2.1
  obtain ⟨i0, hi0, hy0, hy1, hy2⟩ := info_parts infoInt
  generalize trL n xss xss.length = L at *
  clear hgc hg hI hv0 hv1
  go_enter Try.func12, Try.ntmps12
  go_wp2_with fail
  refine hcall.out.mono ?_
  rintro e w2 ⟨rfl, hb1⟩
  have S2 := S0.out.grow hb1
  have c0 := S2.cell (i := 0) rfl (o := 0) rfl
  have c1 := S2.cell (i := 0) rfl (o := 1) rfl
  have hpl2 := Lib.hid (htr.out _ S2.below)
  replace S2 := Lib.hid S2
  clear S0 hcall hb1 htr
  go_wp2_with fail
  refine hpl2.out.mono ?_
  rintro e w3 ⟨v, rfl, B, k, ks, rfl, hL, T⟩
  have S3 := (S2.out.seq T).front (qs := [_, _])
  have hlen : ks.length = L.length := by rw [← hL, List.length_map]
  obtain ⟨m, hm⟩ : ∃ m, L.length = m := ⟨_, rfl⟩
  rw [hm] at hlen hLl
  have hm60 := hLl.out
  have S4 : Sp w w3 [Own 3 1 (.slice none 0 0) 0 [], Own 34 2 (.slice B m k) m (ks.flatMap dkEnc), NdPool ks] := by
    rw [← hlen]; exact S3.own_nil 3 1
  rw [hlen]
  replace S4 := Lib.hid S4
  replace hm := Lib.hid hm
  replace hlen := Lib.hid hlen
  replace hL := Lib.hid hL
  clear S2 T hpl2 c0 c1 S3
  go_wp2_with fail
  go_loopw [4, 13] (fun o i wr => ∃ (j : Nat) (D : Option Addr) (c : Nat) (zs : List Int), j ≤ m ∧ i = .int .i64 j ∧ o = .slice D j c ∧ Hid (zs.length = j) ∧ Hid (zs = szL (L.take j)) ∧ Hid (Sp w wr [Own 3 1 (.slice D j c) j (zs.map (.int .i64)), Own 34 2 (.slice B m k) m (ks.flatMap dkEnc), NdPool ks])) (fun _ i _ => m - (intOf i).toNat)
  case atStart => exact ⟨0, none, 0, [], Nat.zero_le _, rfl, rfl, rfl, rfl, S4⟩
  case round =>
    clear S4
    obtain ⟨j, D, c, zs, hj, rfl, rfl, hzl, hz, HS⟩ := hrel
    by_cases hlt : j < m
    · have hjL : j < L.length := by rw [hm.out]; exact hlt
      have hown := HS.out.own (i := 1) rfl
      rw [← hlen.out] at hown
      obtain ⟨_, _, e2, hD⟩ := dgs_own hown (HS.out.ndpool_at (i := 2) rfl)
      rw [hL.out, hlen.out] at *
      cases e2
      obtain ⟨b, off, N, nc, rfl, m0, m1, -⟩ := hD.at_ j hjL
      have hz2 : Hid (zs ++ [((L[j].2.length : Nat) : Int)] = szL (L.take (j + 1))) := by
        unfold Hid
        rw [hz.out, List.take_succ_eq_append_getElem hjL]
        simp only [szL, List.map_append, List.map_cons, List.map_nil]
      have hln : L[j].2.length ≤ 63 := hsm.out _ (List.getElem_mem _)
      generalize L[j].1 = r at *
      generalize L[j].2.length = q at *
      clear hown hD hz
      have S5 := HS.out.alloc_box #[.int .i64 r, .slice N q nc] 34
      have a1 := S5.cell (i := 0) rfl (o := 1) rfl
      have S7 := S5.tail.alloc_box #[.int .i64 q] 3
      have kB := S7.cell (i := 0) rfl (o := 0) rfl
      simp only [World.size_alloc] at S7 kB
      replace S7 := Lib.hid S7
      clear HS S5
      go_wp2_with (at_builtin; refine wpList_append_src rfl _ _ rfl Try.underlying35 hi0 hy0 hy1 hy2 rfl (by decide) _ j _ rfl (S7.out.own (i := 1) rfl) _ 1 1 [.int .i64 q] rfl (Src.one kB) (by simp [Value.oneCell']) ?c3 ?c4 ?_)
      case c3 => unfold maxLen; omega
      case c4 => omega
      intro vE wE hownE hgE hatE
      have S8 := (S7.out.own_push (i := 1) rfl (bb _) hownE hgE (by simpa using hatE)).tail
      obtain ⟨aE, cE, rfl⟩ := own_slice hownE
      have hzl2 : Hid ((zs ++ [(q : Int)]).length = j + 1) := by unfold Hid; rw [List.length_append, hzl.out]; rfl
      have hfl : zs.map (Value.int .i64) ++ [.int .i64 (q : Int)] = (zs ++ [(q : Int)]).map (.int .i64) := by simp
      simp only [List.set_cons_zero, List.set_cons_succ] at S8
      rw [hfl] at S8
      replace S8 := Lib.hid S8
      generalize zs ++ [(q : Int)] = zs2 at *
      clear S7 kB a1 hownE hgE hatE m0 m1 hzl hfl
      go_wp2_with fail
      go_roundw
      case rel => exact ⟨j + 1, aE, cE, zs2, by omega, by go_num, rfl, hzl2, hz2, S8⟩
      case measure => simp [intOf]; omega
    · obtain rfl : j = m := by omega
      have hz3 : zs = szL L := by rw [hz.out, ← hm.out, List.take_length]
      have hI2 : ∀ x ∈ zs, I64 x := fun x hx => by
        rw [hz3] at hx
        unfold szL at hx
        obtain ⟨d, hd, rfl⟩ := List.mem_map.1 hx
        have := hsm.out d hd
        unfold I64; omega
      have hown := HS.out.own (i := 0) rfl
      have hB := HS.out.below
      rw [← hzl.out] at hown
      obtain ⟨_, _, e2, hI⟩ := ints_own hown hI2
      rw [hzl.out] at e2
      cases e2
      rw [hz3] at hI
      have hsl : (szL L).length = j := by rw [szL_len, hm.out]
      replace hI := Lib.hid hI
      clear hown hI2 HS hz hz3 hzl
      go_wp2_with fail
      go_ret2
      exact ⟨D, c, by rw [hO.out, hsl]; rfl, by rw [hO.out]; exact hI.out, hB⟩

/-- Two lists of diagrams are compared. -/
theorem dgs_take {ds es : List (Int × List Nd)} {k : Nat} (h1 : k < ds.length) (h2 : k < es.length) (h : ds.take k = es.take k) (e : ds[k].1 = es[k].1 ∧ ds[k].2 = es[k].2) : ds.take (k + 1) = es.take (k + 1) :=
  take_same h1 h2 h (Prod.ext e.1 e.2)

set_option maxRecDepth 100000 in
set_option maxHeartbeats 4000000 in
theorem equalFuncD_any (A A' : Option Addr) (c c' : Nat) (ds es : List (Int × List Nd)) (w : World) (hx : DgsAt w A ds) (hy : DgsAt w A' es) (hl : ds.length ≤ 1000000) (hl' : es.length ≤ 1000000) (hd : ∀ d ∈ ds, d.2.length ≤ 1000000) (he : ∀ d ∈ es, d.2.length ≤ 1000000) :
    Calls Try.prog 72 #[.slice A ds.length c, .slice A' es.length c', .func (.func 73) #[] #[]] w fun e w' => e = .returned (.bool (decide (ds = es))) ∧ Below w.heap.size w w' := by
  have hN := Lib.hid hx
  have hM := Lib.hid hy
  replace hd := Lib.hid hd
  replace he := Lib.hid he
  clear hx hy
  by_cases hl3 : ds.length = es.length
  case neg =>
    have hR : Hid (decide (ds = es) = false) := by unfold Hid; exact decide_eq_false fun h => hl3 (by rw [h])
    have hl4 : ¬ (ds.length : Int) = es.length := by omega
    go_enter Try.func72, Try.ntmps72
    go_wp2_with fail
    go_ret
    exact ⟨ret_bool hR.out.symm, bb _⟩
  have hB0 := Lib.hid (bb w)
  rw [hl3]
  replace hl3 := Lib.hid hl3
  go_enter Try.func72, Try.ntmps72
  go_wp2_with fail
  go_loopw [17] (fun i wr => ∃ k : Nat, k ≤ es.length ∧ i = .int .i64 k ∧ Hid (ds.take k = es.take k) ∧ Hid (Below w.heap.size w wr)) (fun i _ => es.length - (intOf i).toNat)
  case atStart => exact ⟨0, Nat.zero_le _, rfl, rfl, hB0⟩
  case round =>
    obtain ⟨k, hk, rfl, HD, HS⟩ := hrel
    clear hB0
    by_cases hlt2 : k < es.length
    · have hlt : k < ds.length := by have := hl3.out; omega
      obtain ⟨b, off, N, nc, rfl, m0, m1, mN⟩ := (hN.out.grow HS.out).at_ k hlt
      obtain ⟨b', off', N', nc', rfl, p0, p1, pN⟩ := (hM.out.grow HS.out).at_ k hlt2
      have l1 := hd.out _ (List.getElem_mem hlt)
      have l2 := he.out _ (List.getElem_mem hlt2)
      have hyes := Lib.hid (dgs_take hlt hlt2 HD.out)
      have hno : Hid (¬ (ds[k].1 = es[k].1 ∧ ds[k].2 = es[k].2) → decide (ds = es) = false) := fun h => decide_eq_false fun e => h (by subst e; exact ⟨rfl, rfl⟩)
      generalize ds[k].1 = r at *
      generalize ds[k].2 = ns at *
      generalize es[k].1 = r' at *
      generalize es[k].2 = ms at *
      have S1 := ((Sp.of_below HS.out).alloc_box #[.int .i64 r, .slice N ns.length nc] 34).alloc_box #[.int .i64 r', .slice N' ms.length nc'] 34
      simp only [World.size_alloc] at S1
      have q0 := S1.cell (i := 1) rfl (o := 0) rfl
      have q1 := S1.cell (i := 1) rfl (o := 1) rfl
      have s0 := S1.cell (i := 0) rfl (o := 0) rfl
      have s1 := S1.cell (i := 0) rfl (o := 1) rfl
      have hcall := Lib.hid (sameDiagram_any r r' N N' nc nc' ns ms _ (mN.grow (bal (bal (bb _) _) _)) (pN.grow (bal (bal (bb _) (.cells #[.int .i64 r, .slice N ns.length nc] 34)) (.cells #[.int .i64 r', .slice N' ms.length nc'] 34))) l1 l2)
      have p0' := (bcell (bal (bb wr) (.cells #[.int .i64 r, .slice N ns.length nc] 34))).1 _ _ (World.block_lt_of_cell? _ _ p0) |>.trans p0
      have p1' := (bcell (bal (bb wr) (.cells #[.int .i64 r, .slice N ns.length nc] 34))).1 _ _ (World.block_lt_of_cell? _ _ p1) |>.trans p1
      have hB1 := Lib.hid S1.below
      obtain ⟨q, hq⟩ : ∃ q, decide (r = r' ∧ ns = ms) = q := ⟨_, rfl⟩
      rw [hq] at hcall
      replace hq := Lib.hid hq
      clear mN pN S1 HS p0 p1
      go_wp2_with fail
      refine hcall.out.mono ?_
      rintro e w2 ⟨rfl, hb2⟩
      have HS2 := Lib.hid (btr hB1.out hb2)
      clear hcall hB1 q0 q1 s0 s1 p0' p1' m0 m1 hb2
      cases q
      · have hR := Lib.hid (hno.out (of_decide_eq_false hq.out))
        clear hyes hno hq HD
        go_wp2_with fail
        go_ret
        exact ⟨ret_bool hR.out.symm, HS2.out⟩
      · have hD := Lib.hid (hyes.out (of_decide_eq_true hq.out))
        clear hyes hno hq HD
        go_wp2_with fail
        go_roundw
        case rel => exact ⟨k + 1, by omega, by go_num, hD, HS2⟩
        case measure => simp [intOf]; omega
    · obtain rfl : k = es.length := by omega
      have he : ds = es := by
        have := HD.out
        rw [List.take_length, ← hl3.out, List.take_length] at this
        exact this
      have hR : Hid (decide (ds = es) = true) := by unfold Hid; simp [he]
      have hB := HS.out
      clear HD he HS
      go_wp2_with fail
      go_ret
      exact ⟨ret_bool hR.out.symm, hB⟩

def outQ (ok : Bool) (q : Bool) : Bool := ok && q
set_option maxRecDepth 100000 in
set_option maxHeartbeats 4000000 in
theorem isConjTrace_any (vars : Int) (v : Value) (xss : List (List Int)) (F : List Nat) (A' : Option Addr) (c' : Nat) (es : List (Int × List Nd)) (w : World) (hx : (Ty.slice Ty.int).row false w v xss F) (hy : DgsAt w A' es) (hl' : es.length ≤ 1000000) (he : ∀ d ∈ es, d.2.length ≤ 1000000) :
    Calls Try.prog 19 #[.agg #[.int .i64 vars, v], .slice A' es.length c'] w fun e w' => e = .returned (.tuple #[.bool (outQ (dCnf vars xss) (decide (outL (dCnf vars xss) vars xss = es))), .bool (dCnf vars xss)]) ∧ Below w.heap.size w w' := by
  obtain ⟨A, cap, rfl, hcap, hI⟩ := cnf_row (vars := vars) hx
  have S0 := (Sp.start w).alloc_box #[.int .i64 vars, .slice A xss.length cap] 26
  have hcall := Lib.hid (diagramCnf_any vars _ xss F _ (Ty.row_below hx S0.below (Ty.row_lt hx)))
  replace hI := Lib.hid hI
  replace S0 := Lib.hid S0
  replace hy := Lib.hid hy
  clear hx
  cases h1 : dCnf vars xss
  · rw [h1] at hcall
    clear hy
    go_enter Try.func19, Try.ntmps19
    go_wp2_with fail
    refine hcall.out.mono ?_
    rintro e w1 ⟨rfl, hb1⟩
    have hB := (S0.out.grow hb1).below
    clear S0 hcall hb1
    go_wp2_with fail
    go_ret2
    exact ⟨rfl, hB⟩
  rw [h1] at hcall
  unfold dCnf at h1
  rw [Bool.and_eq_true, inB_def] at h1
  obtain ⟨⟨hv0, hv1⟩, hg⟩ := h1
  have hgc := good_cnf hg
  obtain ⟨n, rfl⟩ := Int.eq_ofNat_of_zero_le hv0
  have hn : n ≤ 6 := by omega
  have hO : Hid (outL true (n : Int) xss = trL n xss xss.length) := rfl
  rw [hO.out]
  clear hO
  have htr := Lib.hid (fun W (hb : Below w.heap.size w W) => trace_any n hn xss hgc.2.2.2 (by omega) A cap hcap W (hI.out.grow hb))
  have hsm := tr_small hn xss xss.length
  have hLl : (trL n xss xss.length).length ≤ 60 := by rw [trL_len]; exact hgc.2.1
  generalize trL n xss xss.length = L at *
  have heq := Lib.hid (fun A c W (h : DgsAt W A L) (h' : DgsAt W A' es) => equalFuncD_any A A' c c' L es W h h' (by omega) hl' (fun d hd => by have := hsm d hd; omega) he)
  obtain ⟨q, hq⟩ : ∃ q, decide (L = es) = q := ⟨_, rfl⟩
  rw [hq] at heq ⊢
  clear hgc hg hI hv0 hv1 hq hsm hLl hl' he
  go_enter Try.func19, Try.ntmps19
  go_wp2_with fail
  refine hcall.out.mono ?_
  rintro e w2 ⟨rfl, hb1⟩
  have S2 := S0.out.grow hb1
  have c0 := S2.cell (i := 0) rfl (o := 0) rfl
  have c1 := S2.cell (i := 0) rfl (o := 1) rfl
  have hpl2 := Lib.hid (htr.out _ S2.below)
  replace S2 := Lib.hid S2
  clear S0 hcall hb1 htr
  go_wp2_with fail
  refine hpl2.out.mono ?_
  rintro e w3 ⟨v, rfl, B, k, ks, rfl, hL, T⟩
  have S3 := (S2.out.seq T).front (qs := [_, _])
  obtain ⟨_, _, e2, hD⟩ := dgs_own (S3.own (i := 0) rfl) (S3.ndpool_at (i := 1) rfl)
  cases e2
  have hlen : ks.length = L.length := by rw [← hL, List.length_map]
  rw [hL] at hD
  rw [hlen]
  have hcall := Lib.hid (heq.out B k w3 hD (hy.out.grow S3.below))
  have hB := Lib.hid S3.below
  clear S2 T hpl2 c0 c1 S3 hL hlen hD heq hy
  go_wp2_with fail
  refine hcall.out.mono ?_
  rintro e w4 ⟨rfl, hb4⟩
  have hB2 := btr hB.out hb4
  clear hcall hb4 hB
  go_wp2_with fail
  go_ret2
  exact ⟨rfl, hB2⟩
end Go.Proofs.Ytbemodacpimiiaa

/- Contracts: the values of a Cnf, in the reference. -/
namespace Go.Proofs.Ytbemodacpimiiaa
open Go.RowKit

theorem mod_take {xss : List (List Int)} {j m b : Nat} (hj : j ≤ m) (h : modT (xss.take j) b = false) : modT (xss.take m) b = false := by
  cases hm : modT (xss.take m) b
  · rfl
  · unfold modT at *
    rw [List.all_eq_true] at hm
    have : (xss.take j).all (fun c => clT c b) = true := List.all_eq_true.2 fun c hc => by
      obtain ⟨i, hi, rfl⟩ := List.mem_take_iff_getElem.1 hc
      exact hm _ (List.mem_take_iff_getElem.2 ⟨i, by omega, rfl⟩)
    rw [this] at h; cases h
theorem mod_next {xss : List (List Int)} {j : Nat} (hj : j < xss.length) (b : Nat) : modT (xss.take (j + 1)) b = (modT (xss.take j) b && clT xss[j] b) := by
  unfold modT
  rw [List.take_succ_eq_append_getElem hj, List.all_append]
  simp
theorem any_tot {n b : Nat} {c : List Int} (h : ∀ l ∈ c, l ≠ 0 ∧ -(n : Int) ≤ l ∧ l ≤ n) : c.any (hasI (totB n b)) = clT c b := by
  unfold clT
  rw [Bool.eq_iff_iff, List.any_eq_true, List.any_eq_true]
  constructor
  · rintro ⟨l, hl, h2⟩
    obtain ⟨a1, a2, a3⟩ := h l hl
    exact ⟨l, hl, by rw [← has_tot a1 a2 a3]; exact h2⟩
  · rintro ⟨l, hl, h2⟩
    obtain ⟨a1, a2, a3⟩ := h l hl
    exact ⟨l, hl, by rw [has_tot a1 a2 a3]; exact h2⟩

set_option maxRecDepth 100000 in
set_option maxHeartbeats 8000000 in
theorem l26Cnf_any (n m : Nat) (hn : n ≤ 6) (xss : List (List Int)) (hc : ∀ c ∈ xss, clauseB n c = true) (hm : m ≤ xss.length) (hl : xss.length ≤ 1000) (A : Option Addr) (cap : Nat) (w : World) (hx : ClsAt w A xss) :
    Calls Try.prog 129 #[.agg #[.int .i64 n, .slice A xss.length cap], .int .i64 m] w fun e w' => ∃ B k, e = .returned (.slice B (2 ^ n) k) ∧ Sp w w' [Own 4 1 (.slice B (2 ^ n) k) (2 ^ n) (blV (2 ^ n) (modT (xss.take m)))] := by
  obtain ⟨hsh, hp⟩ := pow12 (v := n) (by omega)
  have hp62 : 2 ^ n < 2 ^ 62 := Nat.pow_lt_pow_right (by decide) (by omega)
  generalize 2 ^ n = N at *
  have S0 := ((Sp.start w).alloc_box #[.int .i64 n, .slice A xss.length cap] 26).own_made 4 1
  simp only [World.size_alloc] at S0
  replace S0 := Lib.hid S0
  have hN := Lib.hid hx
  have hcc := Lib.hid hc
  clear hx hc
  obtain ⟨i0, hi, hz0, hz1, hz2⟩ := info_parts infoBl
  go_enter Try.func129, Try.ntmps129
  go_wp2_with fail
  go_loopw [5, 6, 7, 8, 9] (fun vo vi _ _ _ wr => ∃ (k : Nat) (B : Option Addr) (cc : Nat), k ≤ N ∧ vi = .int .i64 k ∧ vo = .slice B k cc ∧ Hid (Sp w wr [Own 4 1 (.slice B k cc) k (blV k (modT (xss.take m))), Box w.heap.size 26 #[.int .i64 n, .slice A xss.length cap]])) (fun _ vi _ _ _ _ => N - (intOf vi).toNat)
  case atStart => exact ⟨0, _, _, Nat.zero_le _, rfl, rfl, S0⟩
  case round =>
    obtain ⟨k, B, cc, hk, rfl, rfl, HS⟩ := hrel
    clear S0
    have c0 := HS.out.cell (i := 1) rfl (o := 0) rfl
    by_cases hlt : k < N
    · have htot := Lib.hid (l3Total_any n k (by omega) (by omega) wr)
      have hok := Lib.hid (tot_ok n k (by omega))
      have hlen := Lib.hid (tot_len n k)
      have hany : Hid (∀ c ∈ xss, c.any (hasI (totB n k)) = clT c k) := fun c hc => any_tot (clause_parts (hcc.out c hc)).2.1
      have hsn := Lib.hid (blV_snoc k (modT (xss.take m)))
      generalize totB n k = a at *
      go_wp2_with fail
      refine htot.out.mono ?_
      rintro e w3 ⟨B3, k3, rfl, T3⟩
      have S3 : Hid (Sp w w3 [Own 3 1 (.slice B3 n k3) n (a.map (.int .i64)), Own 4 1 (.slice B k cc) k (blV k (modT (xss.take m))), Box w.heap.size 26 #[.int .i64 n, .slice A xss.length cap]]) := HS.out.seq T3
      clear HS htot T3 c0
      go_wp2_with fail
      go_loopw [8, 9] (fun vq vj wx => ∃ (j : Nat) (q : Bool), j ≤ m ∧ vj = .int .i64 j ∧ vq = .bool q ∧ Hid (modT (xss.take j) k = q) ∧ Hid (Sp w wx [Own 3 1 (.slice B3 n k3) n (a.map (.int .i64)), Own 4 1 (.slice B k cc) k (blV k (modT (xss.take m))), Box w.heap.size 26 #[.int .i64 n, .slice A xss.length cap]])) (fun _ vj _ => m - (intOf vj).toNat)
      case atStart => exact ⟨0, true, Nat.zero_le _, rfl, rfl, rfl, S3⟩
      case round =>
        obtain ⟨j, q, hj, rfl, rfl, hq, HS⟩ := hrel
        clear S3
        by_cases hgo : j < m ∧ q = true
        · obtain ⟨hjm, rfl⟩ := hgo
          have hjl : j < xss.length := by omega
          obtain ⟨b, off, Bc, cc2, rfl, m0, hI⟩ := (hN.out.grow HS.out.below).at_ j hjl
          have c1 := HS.out.cell (i := 2) rfl (o := 1) rfl
          have hown := HS.out.own (i := 0) rfl
          rw [← hlen.out] at hown
          obtain ⟨F, hr, _, _⟩ := own_row hown hok.out
          rw [hlen.out] at hr
          have hmem : xss[j] ∈ xss := List.getElem_mem hjl
          have hcl := clause_s (hcc.out _ hmem)
          have hval := Lib.hid (l3Value_any xss[j] a hcl.1 (by have := hcl.2; omega) Bc B3 cc2 k3 F _ hI (by rw [hlen.out]; exact Ty.row_down hr))
          rw [hlen.out] at hval
          have hnx := mod_next hjl k
          rw [hq.out, Bool.true_and] at hnx
          have ha := hany.out _ hmem
          replace hnx := Lib.hid hnx
          replace ha := Lib.hid ha
          generalize xss[j] = c at *
          clear hown hr hI hcl hmem
          go_wp2_with fail
          refine hval.out.mono ?_
          rintro e w4 ⟨⟨z, rfl, hz⟩, hb4⟩
          have S4 := Lib.hid (HS.out.grow hb4)
          obtain ⟨q2, hq2⟩ : ∃ q2, (z == 1) = q2 := ⟨_, rfl⟩
          have hq3 : Hid (modT (xss.take (j + 1)) k = q2) := by unfold Hid; rw [hnx.out, ← ha.out, ← hz, hq2]
          clear HS hval hb4 hz hnx ha hq m0 c1
          go_wp2_with fail
          go_roundw
          case rel => exact ⟨j + 1, q2, by omega, by go_num, by first | rfl | rw [hq2], hq3, S4⟩
          case measure => simp [intOf]; omega
        · have hq2 : Hid (modT (xss.take m) k = q) := by
            unfold Hid
            by_cases hjm : j < m
            · have : q = false := by cases q; rfl; exact absurd ⟨hjm, rfl⟩ hgo
              subst this
              exact mod_take (by omega) hq.out
            · obtain rfl : j = m := by omega
              exact hq.out
          rw [hq2.out] at hsn
          have S5 := HS.out.alloc_box #[.bool q] 4
          have kB := S5.cell (i := 0) rfl (o := 0) rfl
          replace S5 := Lib.hid S5
          clear HS hq
          have hcase : j < m ∧ q = false ∨ ¬ j < m := by
            by_cases hjm : j < m
            · left; exact ⟨hjm, by cases q; rfl; exact absurd ⟨hjm, rfl⟩ hgo⟩
            · exact .inr hjm
          clear hgo
          rcases hcase with ⟨hjm, rfl⟩ | hjm
          all_goals
            go_wp2_with (at_builtin; refine wpList_append_src rfl _ _ rfl Try.underlying149 hi hz0 hz1 hz2 rfl (by decide) _ _ _ rfl (S5.out.own (i := 2) rfl) _ 1 1 [.bool _] rfl (Src.one kB) (by simp [Value.oneCell']) ?c3 ?c4 ?_)
            case c3 => unfold maxLen; omega
            case c4 => omega
            intro vY wY hownY hgY hatY
            have S6 := (S5.out.own_push (i := 2) rfl (bb _) hownY hgY (by simpa using hatY)).tail.tail
            obtain ⟨aY, cY, rfl⟩ := own_slice hownY
            have HS3 : Hid (Sp w wY [Own 4 1 (.slice aY (k + 1) cY) (k + 1) (blV (k + 1) (modT (xss.take m))), Box w.heap.size 26 #[.int .i64 n, .slice A xss.length cap]]) := by
              unfold Hid; rw [hsn.out]; exact S6
            clear S5 S6 kB hownY hgY hatY hsn
            go_wp2_with fail
            go_roundw
            case rel => exact ⟨k + 1, aY, cY, by omega, by go_num, rfl, HS3⟩
            case measure => simp [intOf]; omega
    · obtain rfl : k = N := by omega
      go_wp2_with fail
      go_ret
      exact ⟨B, cc, rfl, HS.out.swap.tail⟩
end Go.Proofs.Ytbemodacpimiiaa

/- Contracts: the trace of a Cnf, in the reference. -/
namespace Go.Proofs.Ytbemodacpimiiaa
open Go.RowKit

set_option maxRecDepth 100000 in
set_option maxHeartbeats 4000000 in
theorem l26Asked_any (vars : Int) (v : Value) (xss : List (List Int)) (F : List Nat) (w : World) (hx : (Ty.slice Ty.int).row false w v xss F) :
    Calls Try.prog 62 #[.agg #[.int .i64 vars, v]] w fun e w' => e = .returned (.bool (dCnf vars xss)) ∧ Below w.heap.size w w' := by
  obtain ⟨A, cap, rfl, -⟩ := cls_row hx
  have S0 := (Sp.start w).alloc_box #[.int .i64 vars, .slice A xss.length cap] 26
  have hcall := Lib.hid (l2Good_any vars _ xss F _ (Ty.row_below hx S0.below (Ty.row_lt hx)))
  have hv := Lib.hid (fun W => l26Vars_any vars W)
  have c0 := S0.cell (i := 0) rfl (o := 0) rfl
  have c1 := S0.cell (i := 0) rfl (o := 1) rfl
  have hB := Lib.hid S0.below
  clear hx S0
  unfold dCnf
  generalize inB vars 0 6 = p at *
  generalize goodB vars xss = q at *
  cases p
  · clear hcall
    go_enter Try.func62, Try.ntmps62
    go_wp2_with fail
    refine (hv.out _).mono ?_
    rintro e w1 ⟨rfl, rfl⟩
    go_wp2_with fail
    go_ret
    exact ⟨rfl, hB.out⟩
  · go_enter Try.func62, Try.ntmps62
    go_wp2_with fail
    refine (hv.out _).mono ?_
    rintro e w1 ⟨rfl, rfl⟩
    go_wp2_with fail
    refine hcall.out.mono ?_
    rintro e w2 ⟨rfl, hb2⟩
    have hB2 := btr hB.out hb2
    clear hcall hB c0 c1 hb2
    go_wp2_with fail
    go_ret
    exact ⟨rfl, hB2⟩

set_option maxRecDepth 100000 in
set_option maxHeartbeats 4000000 in
theorem l26Trace_any (n : Nat) (hn : n ≤ 6) (xss : List (List Int)) (hc : ∀ c ∈ xss, clauseB n c = true) (hl : xss.length ≤ 1000) (A : Option Addr) (cap : Nat) (w : World) (hx : ClsAt w A xss) :
    Calls Try.prog 63 #[.agg #[.int .i64 n, .slice A xss.length cap]] w fun e w' => ∃ v, e = .returned v ∧ DgL w (trL n xss xss.length) v w' := by
  obtain ⟨i0, hi0, hz0, hz1, hz2⟩ := info_parts infoDg
  have S0 := (((Sp.start w).alloc_box #[.int .i64 n, .slice A xss.length cap] 26).ndpool_nil).own_made 34 2
  simp only [World.size_alloc] at S0
  replace S0 := Lib.hid S0
  have hX := Lib.hid hx
  have hC := Lib.hid hc
  clear hx hc
  obtain ⟨m, hm⟩ : ∃ m, xss.length = m := ⟨_, rfl⟩
  have hcnf := Lib.hid (fun (k : Nat) (hk : k ≤ m) W (hb : Below w.heap.size w W) => l26Cnf_any n k hn xss hC.out (by omega) hl A cap W (hX.out.grow hb))
  rw [hm] at hl S0 hcnf
  rw [hm]
  have hmH := Lib.hid hm
  clear hm
  have hm63 : (m : Int) ≤ 9223372036854775807 := by omega
  go_enter Try.func63, Try.ntmps63
  go_wp2_with fail
  go_loopw [3, 4] (fun o i wr => ∃ (k : Nat) (B : Option Addr) (c : Nat) (ks : List Dk), k ≤ m ∧ i = .int .i64 ((k : Int) + 1) ∧ o = .slice B k c ∧ Hid (ks.length = k) ∧ Hid (ks.map Dk.d = trL n xss k) ∧ Hid (Sp w wr [Own 34 2 (.slice B k c) k (ks.flatMap dkEnc), NdPool ks, Box w.heap.size 26 #[.int .i64 n, .slice A m cap]])) (fun _ i _ => m + 1 - (intOf i).toNat)
  case atStart => exact ⟨0, _, 0, [], Nat.zero_le _, rfl, rfl, rfl, rfl, S0⟩
  case round =>
    clear S0
    obtain ⟨k, B, c, ks, hk, rfl, rfl, hks, hL, HS⟩ := hrel
    have c1 := HS.out.cell (i := 2) rfl (o := 1) rfl
    by_cases hlt : k < m
    · have hki : (k : Int) + 1 ≤ m := by omega
      have hw1 : IntKind.i64.wrap ((k : Int) + 1 + 1) = ((k : Int) + 1 + 1) := IntWalk.i64_in _ (by omega)
      have hcall := Lib.hid (fun W hb => hcnf.out (k + 1) (by omega) W hb)
      have hof := Lib.hid (fun B c W h => l26Of_any n hn (modT (xss.take (k + 1))) B c W h)
      have hL2 : Hid (trL n xss (k + 1) = trL n xss k ++ [(dgR n (modT (xss.take (k + 1))), dgN n (modT (xss.take (k + 1))))]) := trL_succ n xss k
      generalize dgR n (modT (xss.take (k + 1))) = r at *
      generalize dgN n (modT (xss.take (k + 1))) = nn at *
      generalize modT (xss.take (k + 1)) = f at *
      have hcast : ((k + 1 : Nat) : Int) = (k : Int) + 1 := by omega
      rw [hcast] at hcall
      generalize 2 ^ n = N at *
      go_wp2_with fail
      refine wp_region_held_lit (S := (fun w' => w'.cell? ⟨w.heap.size, 0, none⟩ = some (.int .i64 n) ∧ w'.cell? ⟨w.heap.size, 1, none⟩ = some (.slice A m cap))) 10 [false, false, false, false, false, false, false, false, false, false] (by kernel_rfl) (by kernel_rfl) (by kernel_rfl) ?_ ?_
      · exact ⟨HS.out.cell (i := 2) rfl (o := 0) rfl, HS.out.cell (i := 2) rfl (o := 1) rfl⟩
      intro hSc
      (refine wpAnyH_take (i := 0) (v := ?_) rfl (by kernel_rfl) (by kernel_rfl) (by kernel_rfl) (fun _ _ _ h => h) (Or.inl ⟨by rfl, ?_⟩) (by assumption) ?_; rotate_left; (focus (intro w hSw; (try dsimp only at hSw); go_simp; (try with_reducible rfl); done)); (try simp only [put_rules]))
      (refine wpAnyH_take (i := 1) (v := ?_) rfl (by kernel_rfl) (by kernel_rfl) (by kernel_rfl) (fun _ _ _ h => h) (Or.inl ⟨by rfl, ?_⟩) (by assumption) ?_; rotate_left; (focus (intro w hSw; (try dsimp only at hSw); go_simp; (try with_reducible rfl); done)); (try simp only [put_rules]))
      (refine wpAnyH_take (i := 2) (v := ?_) rfl (by kernel_rfl) (by kernel_rfl) (by kernel_rfl) (fun _ _ _ h => h) (Or.inl ⟨by rfl, ?_⟩) (by assumption) ?_; rotate_left; (focus (intro w hSw; (try dsimp only at hSw); go_simp; (try with_reducible rfl); done)); (try simp only [put_rules]))
      (refine wpAnyH_take (i := 3) (v := ?_) rfl (by kernel_rfl) (by kernel_rfl) (by kernel_rfl) (fun _ _ _ h => h) (Or.inl ⟨by rfl, ?_⟩) (by assumption) ?_; rotate_left; (focus (intro w hSw; (try dsimp only at hSw); go_simp; (try with_reducible rfl); done)); (try simp only [put_rules]))
      (refine wpAnyH_take (i := 4) (v := ?_) rfl (by kernel_rfl) (by kernel_rfl) (by kernel_rfl) (fun _ _ _ h => h) (Or.inl ⟨by rfl, ?_⟩) (by assumption) ?_; rotate_left; (focus (intro w hSw; (try dsimp only at hSw); go_simp; (try with_reducible rfl); done)); (try simp only [put_rules]))
      (refine wpAnyH_ready (rs := [5]) (by kernel_rfl) (by simp) ?_; refine AllReadyH.cons rfl (fun K hK => ?_) AllReadyH.nil)
      go_simp
      go_at_call 129
      refine (hcall.out _ HS.out.drew.below).mono ?_
      rintro e w2 ⟨A2, k2, rfl, T⟩
      obtain ⟨A3, c3, e3, hbl⟩ := bl_own (T.own (i := 0) rfl)
      cases e3
      have S2 := Lib.hid (HS.out.drew.grow T.below)
      have hof2 := Lib.hid (hof.out _ k2 _ hbl)
      clear HS T hcall hof hbl
      go_wp2_with fail
      refine hK.out _ _ ⟨S2.out.cell (i := 2) rfl (o := 0) rfl, S2.out.cell (i := 2) rfl (o := 1) rfl⟩ (fun hSd => ?_)
      clear hK hSc
      (try simp only [put_rules])
      (refine wpAnyH_ready (rs := [6]) (by kernel_rfl) (by simp) ?_; refine AllReadyH.cons rfl (fun K hK => ?_) AllReadyH.nil)
      go_simp
      go_at_call 128
      refine hof2.out.mono ?_
      rintro e w3 ⟨v, rfl, hp⟩
      obtain ⟨Av, cv, ev, -⟩ := id hp
      subst ev
      have S3 := S2.out.ndpool_add (i := 1) rfl (d := ⟨r, .slice Av nn.length cv, nn⟩) (K' := ks ++ [(⟨r, .slice Av nn.length cv, nn⟩ : Dk)]) hp (by intro q hq; rcases List.mem_append.1 hq with h | h; exact .inr h; exact .inl (by simpa using h))
      replace S3 := Lib.hid S3
      clear S2 hof2 hp
      go_wp2_with fail
      refine hK.out _ _ ⟨S3.out.cell (i := 2) rfl (o := 0) rfl, S3.out.cell (i := 2) rfl (o := 1) rfl⟩ (fun hSe => ?_)
      clear hK hSd
      (try simp only [put_rules])
      (refine wpAnyH_ready (rs := [7]) (by kernel_rfl) (by simp) ?_; refine AllReadyH.cons rfl (fun K hK => ?_) AllReadyH.nil)
      go_simp
      have S5 := Lib.hid (S3.out.alloc_box #[.int .i64 r, .slice Av nn.length cv] 34)
      refine hK.out _ _ ⟨S5.out.cell (i := 3) rfl (o := 0) rfl, S5.out.cell (i := 3) rfl (o := 1) rfl⟩ (fun hSf => ?_)
      clear hK hSe S3
      (try simp only [put_rules])
      (refine wpAnyH_ready (rs := [8]) (by kernel_rfl) (by simp) ?_; refine AllReadyH.cons rfl (fun K hK => ?_) AllReadyH.nil)
      (refine step_append_src rfl _ _ rfl Try.underlying28 hi0 hz0 hz1 hz2 rfl (by decide) _ k _ rfl (S5.out.own (i := 1) rfl) _ 1 1 [.int .i64 r, .slice Av nn.length cv] rfl (Src.pair (S5.out.cell (i := 0) rfl (o := 0) rfl) (S5.out.cell (i := 0) rfl (o := 1) rfl)) (by simp [Value.oneCell']) (by unfold maxLen; omega) (by omega) ?_; intro vE wE hownE hgE hatE)
      have S6 := (S5.out.own_push (i := 1) rfl (bb _) hownE hgE hatE).tail
      obtain ⟨aE, cE, rfl⟩ := own_slice hownE
      have hks2 : Hid ((ks ++ [(⟨r, .slice Av nn.length cv, nn⟩ : Dk)]).length = k + 1) := by unfold Hid; rw [List.length_append, hks.out]; rfl
      have hL3 : Hid ((ks ++ [(⟨r, .slice Av nn.length cv, nn⟩ : Dk)]).map Dk.d = trL n xss (k + 1)) := by unfold Hid; rw [hL2.out, List.map_append, hL.out]; rfl
      have hfl : ks.flatMap dkEnc ++ [.int .i64 r, .slice Av nn.length cv] = (ks ++ [(⟨r, .slice Av nn.length cv, nn⟩ : Dk)]).flatMap dkEnc := (dk_flat ks ⟨r, .slice Av nn.length cv, nn⟩).symm
      rw [hfl] at S6
      generalize ks ++ [(⟨r, .slice Av nn.length cv, nn⟩ : Dk)] = ks2 at *
      replace S6 := Lib.hid S6
      refine hK.out _ _ ⟨S6.out.cell (i := 2) rfl (o := 0) rfl, S6.out.cell (i := 2) rfl (o := 1) rfl⟩ (fun _ => ?_)
      clear hK hSf S5 hownE hgE hatE hL hL2 hks hfl c1
      (try simp only [put_rules])
      (refine wpAnyH_take (i := 9) (v := ?_) rfl (by kernel_rfl) (by kernel_rfl) (by kernel_rfl) (fun _ _ _ h => h) (Or.inl ⟨by rfl, ?_⟩) (by assumption) ?_; rotate_left; (focus (intro w hSw; (try dsimp only at hSw); go_simp; (try with_reducible rfl); done)); (try simp only [put_rules]))
      (refine wpAnyH_done (by kernel_rfl) ?_ _)
      go_wp2_with fail
      go_roundw
      case rel => exact ⟨k + 1, aE, cE, ks2, by omega, by go_num, rfl, hks2, hL3, S6⟩
      case measure => simp [intOf]; omega
    · obtain rfl : k = m := by omega
      have hki : ¬ (k : Int) + 1 ≤ k := by omega
      go_wp2_with fail
      go_ret
      refine ⟨.slice B k c, rfl, B, c, ks, by rw [hks.out], hL.out, ?_⟩
      unfold DList
      rw [hks.out]
      exact Sp.front (qs := [_, _]) HS.out
end Go.Proofs.Ytbemodacpimiiaa

/- Contracts: conjunction traces, their sizes, traces that are told, in the reference. Printed by gen_dth.py. -/
namespace Go.Proofs.Ytbemodacpimiiaa
open Go.RowKit

set_option maxRecDepth 100000 in
set_option maxHeartbeats 4000000 in
theorem specTrace_any (vars : Int) (v : Value) (xss : List (List Int)) (F : List Nat) (w : World) (hx : (Ty.slice Ty.int).row false w v xss F) :
    Calls Try.prog 10 #[.agg #[.int .i64 vars, v]] w (TrTold w (dCnf vars xss) (outL (dCnf vars xss) vars xss)) := by
  obtain ⟨A, cap, rfl, hcap, hI⟩ := cnf_row (vars := vars) hx
  have S0 := (Sp.start w).alloc_box #[.int .i64 vars, .slice A xss.length cap] 26
  have hcall := Lib.hid (l26Asked_any vars _ xss F _ (Ty.row_below hx S0.below (Ty.row_lt hx)))
  replace hI := Lib.hid hI
  replace S0 := Lib.hid S0
  clear hx
  cases h1 : dCnf vars xss
  · rw [h1] at hcall
    go_enter Try.func10, Try.ntmps10
    go_wp2_with fail
    refine hcall.out.mono ?_
    rintro e w1 ⟨rfl, hb1⟩
    have S1 := Lib.hid ((((S0.out.grow hb1).ndpool_nil).own_made 34 2).front (qs := [_, _]))
    clear S0 hcall hb1
    go_wp2_with fail
    go_ret2
    exact ⟨_, 0, [], rfl, rfl, S1.out⟩
  rw [h1] at hcall
  unfold dCnf at h1
  rw [Bool.and_eq_true, inB_def] at h1
  obtain ⟨⟨hv0, hv1⟩, hg⟩ := h1
  have hgc := good_cnf hg
  obtain ⟨n, rfl⟩ := Int.eq_ofNat_of_zero_le hv0
  have hn : n ≤ 6 := by omega
  have hO : Hid (outL true (n : Int) xss = trL n xss xss.length) := rfl
  have htr := Lib.hid (fun W (hb : Below w.heap.size w W) => l26Trace_any n hn xss hgc.2.2.1 (by omega) A cap W (hI.out.grow hb))
  clear hgc hg hI hv0 hv1
  go_enter Try.func10, Try.ntmps10
  go_wp2_with fail
  refine hcall.out.mono ?_
  rintro e w2 ⟨rfl, hb1⟩
  have S2 := S0.out.grow hb1
  have c0 := S2.cell (i := 0) rfl (o := 0) rfl
  have c1 := S2.cell (i := 0) rfl (o := 1) rfl
  have hpl2 := Lib.hid (htr.out _ S2.below)
  replace S2 := Lib.hid S2
  clear S0 hcall hb1 htr
  go_wp2_with fail
  refine hpl2.out.mono ?_
  rintro e w3 ⟨v, rfl, B, k, ks, rfl, hL, T⟩
  have S3 := Lib.hid ((S2.out.seq T).front (qs := [_, _]))
  replace hL := Lib.hid hL
  clear S2 T hpl2 c0 c1
  go_wp2_with fail
  go_ret2
  exact ⟨B, k, ks, rfl, by rw [hO.out, hL.out], S3.out⟩

set_option maxRecDepth 100000 in
set_option maxHeartbeats 4000000 in
theorem specSizes_any (vars : Int) (v : Value) (xss : List (List Int)) (F : List Nat) (w : World) (hx : (Ty.slice Ty.int).row false w v xss F) :
    Calls Try.prog 13 #[.agg #[.int .i64 vars, v]] w (SzTold w (dCnf vars xss) (szL (outL (dCnf vars xss) vars xss))) := by
  obtain ⟨A, cap, rfl, hcap, hI⟩ := cnf_row (vars := vars) hx
  have S0 := ((Sp.start w).alloc_box #[.int .i64 vars, .slice A xss.length cap] 26).own_made 3 1
  simp only [World.size_alloc] at S0
  have hcall := Lib.hid (l26Asked_any vars _ xss F _ (Ty.row_below hx S0.below (Ty.row_lt hx)))
  replace hI := Lib.hid hI
  replace S0 := Lib.hid S0
  clear hx
  cases h1 : dCnf vars xss
  · rw [h1] at hcall
    go_enter Try.func13, Try.ntmps13
    go_wp2_with fail
    refine hcall.out.mono ?_
    rintro e w1 ⟨rfl, hb1⟩
    have hB := (S0.out.grow hb1).below
    clear S0 hcall hb1
    go_wp2_with fail
    go_ret2
    exact ⟨_, 0, rfl, .nil _ _, hB⟩
  rw [h1] at hcall
  unfold dCnf at h1
  rw [Bool.and_eq_true, inB_def] at h1
  obtain ⟨⟨hv0, hv1⟩, hg⟩ := h1
  have hgc := good_cnf hg
  obtain ⟨n, rfl⟩ := Int.eq_ofNat_of_zero_le hv0
  have hn : n ≤ 6 := by omega
  have hO : Hid (outL true (n : Int) xss = trL n xss xss.length) := rfl
  have htr := Lib.hid (fun W (hb : Below w.heap.size w W) => l26Trace_any n hn xss hgc.2.2.1 (by omega) A cap W (hI.out.grow hb))
  have hsm := Lib.hid (tr_small hn xss xss.length)
  have hLl : Hid ((trL n xss xss.length).length ≤ 60) := by unfold Hid; rw [trL_len]; exact hgc.2.1
  obtain ⟨i0, hi0, hy0, hy1, hy2⟩ := info_parts infoInt
  generalize trL n xss xss.length = L at *
  clear hgc hg hI hv0 hv1
  go_enter Try.func13, Try.ntmps13
  go_wp2_with fail
  refine hcall.out.mono ?_
  rintro e w2 ⟨rfl, hb1⟩
  have S2 := S0.out.grow hb1
  have c0 := S2.cell (i := 1) rfl (o := 0) rfl
  have c1 := S2.cell (i := 1) rfl (o := 1) rfl
  have hpl2 := Lib.hid (htr.out _ S2.below)
  replace S2 := Lib.hid S2
  clear S0 hcall hb1 htr
  go_wp2_with fail
  refine hpl2.out.mono ?_
  rintro e w3 ⟨v, rfl, B, k, ks, rfl, hL, T⟩
  have S3 := (S2.out.seq T).front (qs := [_, _, _])
  have hlen : ks.length = L.length := by rw [← hL, List.length_map]
  obtain ⟨m, hm⟩ : ∃ m, L.length = m := ⟨_, rfl⟩
  rw [hm] at hlen hLl
  have hm60 := hLl.out
  have S4 : Sp w w3 [Own 3 1 (.slice (some ⟨w.heap.size + 1, 0, none⟩) 0 0) 0 [], Own 34 2 (.slice B m k) m (ks.flatMap dkEnc), NdPool ks] := by
    rw [← hlen]; exact S3.pick [2, 0, 0] rfl
  rw [hlen]
  replace S4 := Lib.hid S4
  replace hm := Lib.hid hm
  replace hlen := Lib.hid hlen
  replace hL := Lib.hid hL
  clear S2 T hpl2 c0 c1 S3
  go_wp2_with fail
  go_loopw [4, 6] (fun o i wr => ∃ (j : Nat) (D : Option Addr) (c : Nat) (zs : List Int), j ≤ m ∧ i = .int .i64 j ∧ o = .slice D j c ∧ Hid (zs.length = j) ∧ Hid (zs = szL (L.take j)) ∧ Hid (Sp w wr [Own 3 1 (.slice D j c) j (zs.map (.int .i64)), Own 34 2 (.slice B m k) m (ks.flatMap dkEnc), NdPool ks])) (fun _ i _ => m - (intOf i).toNat)
  case atStart => exact ⟨0, _, 0, [], Nat.zero_le _, rfl, rfl, rfl, rfl, S4⟩
  case round =>
    clear S4
    obtain ⟨j, D, c, zs, hj, rfl, rfl, hzl, hz, HS⟩ := hrel
    by_cases hlt : j < m
    · have hjL : j < L.length := by rw [hm.out]; exact hlt
      have hown := HS.out.own (i := 1) rfl
      rw [← hlen.out] at hown
      obtain ⟨_, _, e2, hD⟩ := dgs_own hown (HS.out.ndpool_at (i := 2) rfl)
      rw [hL.out, hlen.out] at *
      cases e2
      obtain ⟨b, off, N, nc, rfl, m0, m1, -⟩ := hD.at_ j hjL
      have hz2 : Hid (zs ++ [((L[j].2.length : Nat) : Int)] = szL (L.take (j + 1))) := by
        unfold Hid
        rw [hz.out, List.take_succ_eq_append_getElem hjL]
        simp only [szL, List.map_append, List.map_cons, List.map_nil]
      have hln : L[j].2.length ≤ 63 := hsm.out _ (List.getElem_mem _)
      generalize L[j].1 = r at *
      generalize L[j].2.length = q at *
      clear hown hD hz
      have S7 := HS.out.alloc_box #[.int .i64 q] 3
      have kB := S7.cell (i := 0) rfl (o := 0) rfl
      replace S7 := Lib.hid S7
      clear HS
      go_wp2_with (at_builtin; refine wpList_append_src rfl _ _ rfl Try.underlying35 hi0 hy0 hy1 hy2 rfl (by decide) _ j _ rfl (S7.out.own (i := 1) rfl) _ 1 1 [.int .i64 q] rfl (Src.one kB) (by simp [Value.oneCell']) ?c3 ?c4 ?_)
      case c3 => unfold maxLen; omega
      case c4 => omega
      intro vE wE hownE hgE hatE
      have S8 := (S7.out.own_push (i := 1) rfl (bb _) hownE hgE (by simpa using hatE)).tail
      obtain ⟨aE, cE, rfl⟩ := own_slice hownE
      have hzl2 : Hid ((zs ++ [(q : Int)]).length = j + 1) := by unfold Hid; rw [List.length_append, hzl.out]; rfl
      have hfl : zs.map (Value.int .i64) ++ [.int .i64 (q : Int)] = (zs ++ [(q : Int)]).map (.int .i64) := by simp
      simp only [List.set_cons_zero, List.set_cons_succ] at S8
      rw [hfl] at S8
      replace S8 := Lib.hid S8
      generalize zs ++ [(q : Int)] = zs2 at *
      clear S7 kB hownE hgE hatE m0 m1 hzl hfl
      go_wp2_with fail
      go_roundw
      case rel => exact ⟨j + 1, aE, cE, zs2, by omega, by go_num, rfl, hzl2, hz2, S8⟩
      case measure => simp [intOf]; omega
    · obtain rfl : j = m := by omega
      have hz3 : zs = szL L := by rw [hz.out, ← hm.out, List.take_length]
      have hI2 : ∀ x ∈ zs, I64 x := fun x hx => by
        rw [hz3] at hx
        unfold szL at hx
        obtain ⟨d, hd, rfl⟩ := List.mem_map.1 hx
        have := hsm.out d hd
        unfold I64; omega
      have hown := HS.out.own (i := 0) rfl
      have hB := HS.out.below
      rw [← hzl.out] at hown
      obtain ⟨_, _, e2, hI⟩ := ints_own hown hI2
      rw [hzl.out] at e2
      cases e2
      rw [hz3] at hI
      have hsl : (szL L).length = j := by rw [szL_len, hm.out]
      replace hI := Lib.hid hI
      clear hown hI2 HS hz hz3 hzl
      go_wp2_with fail
      go_ret2
      exact ⟨D, c, by rw [hO.out, hsl]; rfl, by rw [hO.out]; exact hI.out, hB⟩

set_option maxRecDepth 100000 in
set_option maxHeartbeats 4000000 in
theorem specIsTrace_any (vars : Int) (v : Value) (xss : List (List Int)) (F : List Nat) (A' : Option Addr) (c' : Nat) (es : List (Int × List Nd)) (w : World) (hx : (Ty.slice Ty.int).row false w v xss F) (hy : DgsAt w A' es) (hl' : es.length ≤ 1000000) (he : ∀ d ∈ es, d.2.length ≤ 1000000) :
    Calls Try.prog 22 #[.agg #[.int .i64 vars, v], .slice A' es.length c'] w fun e w' => e = .returned (.tuple #[.bool (outQ (dCnf vars xss) (decide (outL (dCnf vars xss) vars xss = es))), .bool (dCnf vars xss)]) ∧ Below w.heap.size w w' := by
  obtain ⟨A, cap, rfl, hcap, hI⟩ := cnf_row (vars := vars) hx
  have S0 := (Sp.start w).alloc_box #[.int .i64 vars, .slice A xss.length cap] 26
  have hcall := Lib.hid (l26Asked_any vars _ xss F _ (Ty.row_below hx S0.below (Ty.row_lt hx)))
  replace hI := Lib.hid hI
  replace S0 := Lib.hid S0
  replace hy := Lib.hid hy
  clear hx
  cases h1 : dCnf vars xss
  · rw [h1] at hcall
    clear hy
    go_enter Try.func22, Try.ntmps22
    go_wp2_with fail
    refine hcall.out.mono ?_
    rintro e w1 ⟨rfl, hb1⟩
    have hB := (S0.out.grow hb1).below
    clear S0 hcall hb1
    go_wp2_with fail
    go_ret2
    exact ⟨rfl, hB⟩
  rw [h1] at hcall
  unfold dCnf at h1
  rw [Bool.and_eq_true, inB_def] at h1
  obtain ⟨⟨hv0, hv1⟩, hg⟩ := h1
  have hgc := good_cnf hg
  obtain ⟨n, rfl⟩ := Int.eq_ofNat_of_zero_le hv0
  have hn : n ≤ 6 := by omega
  have hO : Hid (outL true (n : Int) xss = trL n xss xss.length) := rfl
  rw [hO.out]
  clear hO
  have htr := Lib.hid (fun W (hb : Below w.heap.size w W) => l26Trace_any n hn xss hgc.2.2.1 (by omega) A cap W (hI.out.grow hb))
  have hsm := tr_small hn xss xss.length
  have hLl : (trL n xss xss.length).length ≤ 60 := by rw [trL_len]; exact hgc.2.1
  generalize trL n xss xss.length = L at *
  have hd := Lib.hid (fun d (hd : d ∈ L) => show d.2.length ≤ 1000000 from by have := hsm d hd; omega)
  replace he := Lib.hid he
  clear hgc hg hI hv0 hv1 hsm
  go_enter Try.func22, Try.ntmps22
  go_wp2_with fail
  refine hcall.out.mono ?_
  rintro e w2 ⟨rfl, hb1⟩
  have S2 := S0.out.grow hb1
  have c0 := S2.cell (i := 0) rfl (o := 0) rfl
  have c1 := S2.cell (i := 0) rfl (o := 1) rfl
  have hpl2 := Lib.hid (htr.out _ S2.below)
  replace S2 := Lib.hid S2
  clear S0 hcall hb1 htr
  go_wp2_with fail
  refine hpl2.out.mono ?_
  rintro e w3 ⟨v, rfl, B, k, ks, rfl, hL, T⟩
  have S3 := (S2.out.seq T).front (qs := [_, _])
  obtain ⟨_, _, e2, hD⟩ := dgs_own (S3.own (i := 0) rfl) (S3.ndpool_at (i := 1) rfl)
  cases e2
  have hlen : ks.length = L.length := by rw [← hL, List.length_map]
  rw [hL] at hD
  rw [hlen]
  have hM := Lib.hid (hy.out.grow S3.below)
  replace hD := Lib.hid hD
  have hB := Lib.hid S3.below
  clear S2 T hpl2 c0 c1 S3 hL hlen hy
  by_cases hl3 : L.length = es.length
  case neg =>
    have hR : Hid (decide (L = es) = false) := by unfold Hid; exact decide_eq_false fun h => hl3 (by rw [h])
    have hl4 : ¬ (L.length : Int) = es.length := by omega
    go_wp2_with fail
    go_ret2
    exact ⟨by rw [hR.out]; rfl, hB.out⟩
  rw [hl3]
  replace hl3 := Lib.hid hl3
  have hB0 := Lib.hid (bb w3)
  go_wp2_with fail
  go_loopw [7] (fun i wr => ∃ k : Nat, k ≤ es.length ∧ i = .int .i64 k ∧ Hid (L.take k = es.take k) ∧ Hid (Below w3.heap.size w3 wr)) (fun i _ => es.length - (intOf i).toNat)
  case atStart => exact ⟨0, Nat.zero_le _, rfl, rfl, hB0⟩
  case round =>
    obtain ⟨k, hk, rfl, HD, HS⟩ := hrel
    clear hB0
    by_cases hlt2 : k < es.length
    · have hlt : k < L.length := by have := hl3.out; omega
      obtain ⟨b, off, N, nc, rfl, m0, m1, mN⟩ := (hD.out.grow HS.out).at_ k hlt
      obtain ⟨b', off', N', nc', rfl, p0, p1, pN⟩ := (hM.out.grow HS.out).at_ k hlt2
      have l1 := hd.out _ (List.getElem_mem hlt)
      have l2 := he.out _ (List.getElem_mem hlt2)
      have hyes := Lib.hid (dgs_take hlt hlt2 HD.out)
      have hno : Hid (¬ (L[k].1 = es[k].1 ∧ L[k].2 = es[k].2) → decide (L = es) = false) := fun h => decide_eq_false fun e => h (by subst e; exact ⟨rfl, rfl⟩)
      generalize L[k].1 = r at *
      generalize L[k].2 = ns at *
      generalize es[k].1 = r' at *
      generalize es[k].2 = ms at *
      have k0 := cell_regrown m0
      have k1 := cell_regrown m1
      have q0 := cell_regrown p0
      have q1 := cell_regrown p1
      have hcall := Lib.hid (fun W hb => l26Same_any r r' N N' nc nc' ns ms W (mN.grow hb) (pN.grow hb) l1 l2)
      obtain ⟨q, hq⟩ : ∃ q, decide (r = r' ∧ ns = ms) = q := ⟨_, rfl⟩
      rw [hq] at hcall
      replace hq := Lib.hid hq
      clear mN pN m0 m1 p0 p1
      cases q
      · have hR := Lib.hid (hno.out (of_decide_eq_false hq.out))
        clear hyes hno hq HD
        go_wp2_with fail
        refine wp_region_quiet_below (by kernel_rfl) (by kernel_rfl) ?_
        repeat (any_goals (go_big_quiet_step ((go_at_call 79; exact Calls.regrown_of (hcall.out _ (below_regrown _ _ _))))))
        refine wpQuiet_nil ?_
        rintro w4 ⟨p, rfl⟩
        have HS2 := btr hB.out (HS.out.trans ((below_regrown _ p.d p.os).mono HS.out.size))
        clear hcall HS k0 k1 q0 q1
        go_wp2_with fail
        go_ret2
        exact ⟨by rw [hR.out]; rfl, HS2⟩
      · have hDD := Lib.hid (hyes.out (of_decide_eq_true hq.out))
        clear hyes hno hq HD
        go_wp2_with fail
        refine wp_region_quiet_below (by kernel_rfl) (by kernel_rfl) ?_
        repeat (any_goals (go_big_quiet_step ((go_at_call 79; exact Calls.regrown_of (hcall.out _ (below_regrown _ _ _))))))
        refine wpQuiet_nil ?_
        rintro w4 ⟨p, rfl⟩
        have HS2 := Lib.hid (HS.out.trans ((below_regrown _ p.d p.os).mono HS.out.size))
        clear hcall HS k0 k1 q0 q1
        go_wp2_with fail
        go_roundw
        case rel => exact ⟨k + 1, by omega, by go_num, hDD, HS2⟩
        case measure => simp [intOf]; omega
    · obtain rfl : k = es.length := by omega
      have he : L = es := by
        have := HD.out
        rw [List.take_length, ← hl3.out, List.take_length] at this
        exact this
      have hR : Hid (decide (L = es) = true) := by unfold Hid; simp [he]
      have hB2 := btr hB.out HS.out
      clear HD he HS
      go_wp2_with fail
      go_ret2
      exact ⟨by rw [hR.out]; rfl, hB2⟩
end Go.Proofs.Ytbemodacpimiiaa

/- Contract, a weak one: a Cnf with its variables renamed, in the reference. -/
namespace Go.Proofs.Ytbemodacpimiiaa
open Go.RowKit

theorem clause_len {vars : Int} {c : List Int} (h : clauseB vars c = true) : c.length ≤ 12 := by
  have hp := clause_parts h
  exact rising_len (m := 12) (k := 1) (clause_rising h) (fun l hl => by have := hp.2.1 l hl; omega)

theorem absV_of (l : Int) (h : -13 ≤ l ∧ l ≤ 13) : absV l = (l.natAbs : Int) := by
  unfold absV negV
  split
  · rw [IntWalk.wrap64_in _ (by omega)]; omega
  · omega

set_option maxRecDepth 100000 in
set_option maxHeartbeats 4000000 in
theorem renameW_any (vars : Int) (v : Value) (xss : List (List Int)) (tl : List Int) (TA : Option Addr) (tc : Nat) (F G : List Nat) (w : World) (hx : (Ty.slice Ty.int).row false w v xss F) (hy : Ty.int.row false w (.slice TA tl.length tc) tl G) (hto : Within 13 tl) (hl : tl.length ≤ 1000) :
    Calls Try.prog 180 #[.agg #[.int .i64 vars, v], .slice TA tl.length tc] w (CnfW w) := by
  obtain ⟨FA, fc, rfl, hI⟩ := cls_row hx
  have S0 := ((Sp.start w).alloc_box #[.int .i64 vars, .slice FA xss.length fc] 26).alloc_box #[.int .i64 0, .slice none 0 0] 26
  simp only [World.size_alloc] at S0
  have hgood := Lib.hid (l2Good_any vars _ xss F _ (Ty.row_below hx S0.below (Ty.row_lt hx)))
  have c0 := S0.cell (i := 1) rfl (o := 0) rfl
  have c1 := S0.cell (i := 1) rfl (o := 1) rfl
  replace S0 := Lib.hid S0
  cases h1 : goodB vars xss
  · rw [h1] at hgood
    go_enter Try.func180, Try.ntmps180
    go_wp2_with fail
    refine hgood.out.mono ?_
    rintro e w1 ⟨rfl, hb1⟩
    have S1 := Lib.hid (S0.out.grow hb1)
    clear S0 hgood hb1 c0 c1 hx hI
    have r0 := S1.out.cell (i := 0) rfl (o := 0) rfl
    have r1 := S1.out.cell (i := 0) rfl (o := 1) rfl
    have f0 := S1.out.frozen (i := 0) rfl 0
    have f1 := S1.out.frozen (i := 0) rfl 1
    have SF := (S1.out.store (i := 0) rfl 0 (.int .i64 0)).store (i := 0) rfl 1 (.slice none 0 0)
    have j0 := SF.cell (i := 0) rfl (o := 0) rfl
    have j1 := SF.cell (i := 0) rfl (o := 1) rfl
    have hB := Lib.hid SF.below
    clear SF
    go_wp2_with fail
    exact bodyPost_ret (v := .tuple #[.agg #[.int .i64 0, .slice none 0 0], .bool false]) (by simp [results, Try.results180, go_sem, j0, j1]) rfl (cnfW_no hB.out)
  have hg := good_cnf h1
  rw [h1] at hgood
  obtain ⟨n, rfl⟩ := Int.eq_ofNat_of_zero_le hg.1.1
  by_cases hln : tl.length = n
  case neg =>
    have hne : ((tl.length : Int) != (n : Int)) = true := by rw [bne_iff_ne]; omega
    go_enter Try.func180, Try.ntmps180
    go_wp2_with fail
    refine hgood.out.mono ?_
    rintro e w1 ⟨rfl, hb1⟩
    have S1 := Lib.hid (S0.out.grow hb1)
    have d0 := S1.out.cell (i := 1) rfl (o := 0) rfl
    clear S0 hgood hb1 c0 c1 hx hI hg
    have r0 := S1.out.cell (i := 0) rfl (o := 0) rfl
    have r1 := S1.out.cell (i := 0) rfl (o := 1) rfl
    have f0 := S1.out.frozen (i := 0) rfl 0
    have f1 := S1.out.frozen (i := 0) rfl 1
    have SF := (S1.out.store (i := 0) rfl 0 (.int .i64 0)).store (i := 0) rfl 1 (.slice none 0 0)
    have j0 := SF.cell (i := 0) rfl (o := 0) rfl
    have j1 := SF.cell (i := 0) rfl (o := 1) rfl
    have hB := Lib.hid SF.below
    clear SF
    go_wp2_with fail
    exact bodyPost_ret (v := .tuple #[.agg #[.int .i64 0, .slice none 0 0], .bool false]) (by simp [results, Try.results180, go_sem, j0, j1]) rfl (cnfW_no hB.out)
  case pos =>
  have hne : ((tl.length : Int) != (n : Int)) = false := by rw [bne_eq_false_iff_eq]; omega
  have hn12 : n ≤ 12 := by omega
  replace hln := Lib.hid hln
  replace hI := Lib.hid hI
  have hyH := Lib.hid hy
  obtain ⟨TA', tc', e', hT⟩ := ints_row hy
  cases e'
  replace hT := Lib.hid hT
  replace hto := Lib.hid hto
  have hgH := Lib.hid hg
  obtain ⟨i0, hi, hz0, hz1, hz2⟩ := info_parts infoRow
  obtain ⟨t0, ti, tz0, tz1, tz2⟩ := info_parts infoInt
  have hcap : tl.length ≤ tc := by
    obtain ⟨a, cap, e, h, _⟩ := row_int hy
    simp only [Value.slice.injEq] at e
    omega
  clear hx hy hg
  go_enter Try.func180, Try.ntmps180
  go_wp2_with fail
  refine hgood.out.mono ?_
  rintro e w1 ⟨rfl, hb1⟩
  have S1 : Hid (Sp w w1 [Box (w.heap.size + 1) 26 #[.int .i64 0, .slice none 0 0], Box w.heap.size 26 #[.int .i64 n, .slice FA xss.length fc]]) := S0.out.grow hb1
  have d0 := S1.out.cell (i := 1) rfl (o := 0) rfl
  clear S0 hgood hb1 c0 c1
  go_wp2_with fail
  go_loopw [6] (fun vi wr => ∃ k : Nat, k ≤ tl.length ∧ vi = .int .i64 k ∧ Hid (Sp w wr [Box (w.heap.size + 1) 26 #[.int .i64 0, .slice none 0 0], Box w.heap.size 26 #[.int .i64 n, .slice FA xss.length fc]])) (fun vi _ => tl.length - (intOf vi).toNat)
  case atStart => exact ⟨0, Nat.zero_le _, rfl, S1⟩
  case round =>
    obtain ⟨k, hk, rfl, HS⟩ := hrel
    clear S1 d0
    by_cases hlt : k < tl.length
    · obtain ⟨b, off, rfl, m0⟩ := (hT.out.grow HS.out.below).at_ k hlt
      have d0 := HS.out.cell (i := 1) rfl (o := 0) rfl
      obtain ⟨G', hG, _⟩ := row_int_take (Ty.row_below hyH.out HS.out.below (Ty.row_lt hyH.out)) hk
      have hlk : (tl.take k).length = k := by rw [List.length_take]; omega
      have hx13 := hto.out _ (List.getElem_mem hlt)
      have hneg : IntKind.i64.wrap (-tl[k]) = -tl[k] := IntWalk.i64_in _ (by omega)
      generalize tl[k] = x at *
      have hlit := Lib.hid (fun W => l2Lit_any (n : Int) x W)
      have hh1 := Lib.hid (l2Has_any (.slice (some ⟨b, off, none⟩) k tc) (tl.take k) G' x)
      have hh2 := Lib.hid (l2Has_any (.slice (some ⟨b, off, none⟩) k tc) (tl.take k) G' (-x))
      have hGH := Lib.hid (fun W (h : Below wr.heap.size wr W) => Ty.row_below hG h (Ty.row_lt hG))
      generalize litB (n : Int) x = q0 at *
      generalize hasI (tl.take k) x = q1 at *
      generalize hasI (tl.take k) (-x) = q2 at *
      clear hG hlk
      go_upto_region 6 with fail
      go_cut [58] (fun v wx => ∃ q : Bool, v = .bool q ∧ Hid (Sp w wx [Box (w.heap.size + 1) 26 #[.int .i64 0, .slice none 0 0], Box w.heap.size 26 #[.int .i64 n, .slice FA xss.length fc]]))
      case first =>
        as_aux_lemma =>
        refine wp_region_held_lit (S := (fun w' => w'.cell? ⟨w.heap.size, 0, none⟩ = some (.int .i64 n) ∧ w'.cell? ⟨b, off + k, none⟩ = some (.int .i64 x))) 29 [false, false, false, false, false, false, false, false, false, false, false, false, false, false, false, false, false, false, false, false, false, false, false, false, false, false, false, false, false] (by kernel_rfl) (by kernel_rfl) (by kernel_rfl) ?_ ?_
        · exact ⟨d0, m0⟩
        intro hS
        (refine wpAnyH_take (i := 0) (v := ?_) rfl (by kernel_rfl) (by kernel_rfl) (by kernel_rfl) (fun _ _ _ h => h) (Or.inl ⟨by rfl, ?_⟩) (by assumption) ?_; rotate_left; (focus (intro w hSw; (try dsimp only at hSw); go_simp; (try with_reducible rfl); done)); (try simp only [put_rules]))
        (refine wpAnyH_take (i := 1) (v := ?_) rfl (by kernel_rfl) (by kernel_rfl) (by kernel_rfl) (fun _ _ _ h => h) (Or.inl ⟨by rfl, ?_⟩) (by assumption) ?_; rotate_left; (focus (intro w hSw; (try dsimp only at hSw); go_simp; (try with_reducible rfl); done)); (try simp only [put_rules]))
        (refine wpAnyH_take (i := 2) (v := ?_) rfl (by kernel_rfl) (by kernel_rfl) (by kernel_rfl) (fun _ _ _ h => h) (Or.inl ⟨by rfl, ?_⟩) (by assumption) ?_; rotate_left; (focus (intro w hSw; (try dsimp only at hSw); go_simp; (try with_reducible rfl); done)); (try simp only [put_rules]))
        (refine wpAnyH_take (i := 3) (v := ?_) rfl (by kernel_rfl) (by kernel_rfl) (by kernel_rfl) (fun _ _ _ h => h) (Or.inl ⟨by rfl, ?_⟩) (by assumption) ?_; rotate_left; (focus (intro w hSw; (try dsimp only at hSw); go_simp; (try with_reducible rfl); done)); (try simp only [put_rules]))
        (refine wpAnyH_take (i := 4) (v := ?_) rfl (by kernel_rfl) (by kernel_rfl) (by kernel_rfl) (fun _ _ _ h => h) (Or.inl ⟨by rfl, ?_⟩) (by assumption) ?_; rotate_left; (focus (intro w hSw; (try dsimp only at hSw); go_simp; (try with_reducible rfl); done)); (try simp only [put_rules]))
        (refine wpAnyH_take (i := 5) (v := ?_) rfl (by kernel_rfl) (by kernel_rfl) (by kernel_rfl) (fun _ _ _ h => h) (Or.inl ⟨by rfl, ?_⟩) (by assumption) ?_; rotate_left; (focus (intro w hSw; (try dsimp only at hSw); go_simp; (try with_reducible rfl); done)); (try simp only [put_rules]))
        (refine wpAnyH_ready (rs := [6]) (by kernel_rfl) (by simp) ?_; refine AllReadyH.cons rfl (fun K hK => ?_) AllReadyH.nil)
        go_simp
        go_at_call 193
        refine (hlit.out _).mono ?_
        rintro e w3 ⟨rfl, rfl⟩
        go_wp2_with fail
        refine hK.out _ _ hS (fun hS2 => ?_)
        clear hK
        (try simp only [put_rules])
        (refine wpAnyH_take (i := 7) (v := ?_) rfl (by kernel_rfl) (by kernel_rfl) (by kernel_rfl) (fun _ _ _ h => h) (Or.inl ⟨by rfl, ?_⟩) (by assumption) ?_; rotate_left; (focus (intro w hSw; (try dsimp only at hSw); go_simp; (try with_reducible rfl); done)); (try simp only [put_rules]))
        (refine wpAnyH_take (i := 8) (v := ?_) rfl (by kernel_rfl) (by kernel_rfl) (by kernel_rfl) (fun _ _ _ h => h) (Or.inl ⟨by rfl, ?_⟩) (by assumption) ?_; rotate_left; (focus (intro w hSw; (try dsimp only at hSw); go_simp; (try with_reducible rfl); done)); (try simp only [put_rules]))
        cases q0
        · (refine wpAnyH_take (i := 9) (v := undef) rfl (by kernel_rfl) (by kernel_rfl) (by kernel_rfl) (fun _ _ _ h => h) (Or.inr ⟨by rfl, rfl⟩) (by assumption) ?_; (try simp only [put_rules]))
          (refine wpAnyH_take (i := 10) (v := undef) rfl (by kernel_rfl) (by kernel_rfl) (by kernel_rfl) (fun _ _ _ h => h) (Or.inr ⟨by rfl, rfl⟩) (by assumption) ?_; (try simp only [put_rules]))
          (refine wpAnyH_take (i := 11) (v := undef) rfl (by kernel_rfl) (by kernel_rfl) (by kernel_rfl) (fun _ _ _ h => h) (Or.inr ⟨by rfl, rfl⟩) (by assumption) ?_; (try simp only [put_rules]))
          (refine wpAnyH_take (i := 12) (v := undef) rfl (by kernel_rfl) (by kernel_rfl) (by kernel_rfl) (fun _ _ _ h => h) (Or.inr ⟨by rfl, rfl⟩) (by assumption) ?_; (try simp only [put_rules]))
          (refine wpAnyH_take (i := 13) (v := undef) rfl (by kernel_rfl) (by kernel_rfl) (by kernel_rfl) (fun _ _ _ h => h) (Or.inr ⟨by rfl, rfl⟩) (by assumption) ?_; (try simp only [put_rules]))
          (refine wpAnyH_take (i := 14) (v := undef) rfl (by kernel_rfl) (by kernel_rfl) (by kernel_rfl) (fun _ _ _ h => h) (Or.inr ⟨by rfl, rfl⟩) (by assumption) ?_; (try simp only [put_rules]))
          (refine wpAnyH_take (i := 15) (v := undef) rfl (by kernel_rfl) (by kernel_rfl) (by kernel_rfl) (fun _ _ _ h => h) (Or.inr ⟨by rfl, rfl⟩) (by assumption) ?_; (try simp only [put_rules]))
          (refine wpAnyH_take (i := 16) (v := undef) rfl (by kernel_rfl) (by kernel_rfl) (by kernel_rfl) (fun _ _ _ h => h) (Or.inr ⟨by rfl, rfl⟩) (by assumption) ?_; (try simp only [put_rules]))
          (refine wpAnyH_take (i := 17) (v := ?_) rfl (by kernel_rfl) (by kernel_rfl) (by kernel_rfl) (fun _ _ _ h => h) (Or.inl ⟨by rfl, ?_⟩) (by assumption) ?_; rotate_left; (focus (intro w hSw; (try dsimp only at hSw); go_simp; (try with_reducible rfl); done)); (try simp only [put_rules]))
          (refine wpAnyH_take (i := 18) (v := ?_) rfl (by kernel_rfl) (by kernel_rfl) (by kernel_rfl) (fun _ _ _ h => h) (Or.inl ⟨by rfl, ?_⟩) (by assumption) ?_; rotate_left; (focus (intro w hSw; (try dsimp only at hSw); go_simp; (try with_reducible rfl); done)); (try simp only [put_rules]))
          (refine wpAnyH_take (i := 19) (v := undef) rfl (by kernel_rfl) (by kernel_rfl) (by kernel_rfl) (fun _ _ _ h => h) (Or.inr ⟨by rfl, rfl⟩) (by assumption) ?_; (try simp only [put_rules]))
          (refine wpAnyH_take (i := 20) (v := undef) rfl (by kernel_rfl) (by kernel_rfl) (by kernel_rfl) (fun _ _ _ h => h) (Or.inr ⟨by rfl, rfl⟩) (by assumption) ?_; (try simp only [put_rules]))
          (refine wpAnyH_take (i := 21) (v := undef) rfl (by kernel_rfl) (by kernel_rfl) (by kernel_rfl) (fun _ _ _ h => h) (Or.inr ⟨by rfl, rfl⟩) (by assumption) ?_; (try simp only [put_rules]))
          (refine wpAnyH_take (i := 22) (v := undef) rfl (by kernel_rfl) (by kernel_rfl) (by kernel_rfl) (fun _ _ _ h => h) (Or.inr ⟨by rfl, rfl⟩) (by assumption) ?_; (try simp only [put_rules]))
          (refine wpAnyH_take (i := 23) (v := undef) rfl (by kernel_rfl) (by kernel_rfl) (by kernel_rfl) (fun _ _ _ h => h) (Or.inr ⟨by rfl, rfl⟩) (by assumption) ?_; (try simp only [put_rules]))
          (refine wpAnyH_take (i := 24) (v := undef) rfl (by kernel_rfl) (by kernel_rfl) (by kernel_rfl) (fun _ _ _ h => h) (Or.inr ⟨by rfl, rfl⟩) (by assumption) ?_; (try simp only [put_rules]))
          (refine wpAnyH_take (i := 25) (v := undef) rfl (by kernel_rfl) (by kernel_rfl) (by kernel_rfl) (fun _ _ _ h => h) (Or.inr ⟨by rfl, rfl⟩) (by assumption) ?_; (try simp only [put_rules]))
          (refine wpAnyH_take (i := 26) (v := undef) rfl (by kernel_rfl) (by kernel_rfl) (by kernel_rfl) (fun _ _ _ h => h) (Or.inr ⟨by rfl, rfl⟩) (by assumption) ?_; (try simp only [put_rules]))
          (refine wpAnyH_take (i := 27) (v := undef) rfl (by kernel_rfl) (by kernel_rfl) (by kernel_rfl) (fun _ _ _ h => h) (Or.inr ⟨by rfl, rfl⟩) (by assumption) ?_; (try simp only [put_rules]))
          (refine wpAnyH_take (i := 28) (v := ?_) rfl (by kernel_rfl) (by kernel_rfl) (by kernel_rfl) (fun _ _ _ h => h) (Or.inl ⟨by rfl, ?_⟩) (by assumption) ?_; rotate_left; (focus (intro w hSw; (try dsimp only at hSw); go_simp; (try with_reducible rfl); done)); (try simp only [put_rules]))
          (refine wpAnyH_done (by kernel_rfl) ?_ _)
          go_wp2_with fail
          go_meet
          exact ⟨_, rfl, HS.out.drew⟩
        · (refine wpAnyH_take (i := 9) (v := ?_) rfl (by kernel_rfl) (by kernel_rfl) (by kernel_rfl) (fun _ _ _ h => h) (Or.inl ⟨by rfl, ?_⟩) (by assumption) ?_; rotate_left; (focus (intro w hSw; (try dsimp only at hSw); go_simp; (try with_reducible rfl); done)); (try simp only [put_rules]))
          (refine wpAnyH_take (i := 10) (v := ?_) rfl (by kernel_rfl) (by kernel_rfl) (by kernel_rfl) (fun _ _ _ h => h) (Or.inl ⟨by rfl, ?_⟩) (by assumption) ?_; rotate_left; (focus (intro w hSw; (try dsimp only at hSw); go_simp; (try with_reducible rfl); done)); (try simp only [put_rules]))
          (refine wpAnyH_take (i := 11) (v := .slice _ k tc) rfl (by kernel_rfl) (by kernel_rfl) (by kernel_rfl) (fun _ _ _ h => h) (Or.inl ⟨by rfl, fun _ _ => exec_slice_to rfl rfl rfl Try.underlying35 ti (by omega)⟩) (by assumption) ?_; (try simp only [put_rules]))
          (refine wpAnyH_take (i := 12) (v := ?_) rfl (by kernel_rfl) (by kernel_rfl) (by kernel_rfl) (fun _ _ _ h => h) (Or.inl ⟨by rfl, ?_⟩) (by assumption) ?_; rotate_left; (focus (intro w hSw; (try dsimp only at hSw); go_simp; (try with_reducible rfl); done)); (try simp only [put_rules]))
          (refine wpAnyH_take (i := 13) (v := ?_) rfl (by kernel_rfl) (by kernel_rfl) (by kernel_rfl) (fun _ _ _ h => h) (Or.inl ⟨by rfl, ?_⟩) (by assumption) ?_; rotate_left; (focus (intro w hSw; (try dsimp only at hSw); go_simp; (try with_reducible rfl); done)); (try simp only [put_rules]))
          (refine wpAnyH_take (i := 14) (v := ?_) rfl (by kernel_rfl) (by kernel_rfl) (by kernel_rfl) (fun _ _ _ h => h) (Or.inl ⟨by rfl, ?_⟩) (by assumption) ?_; rotate_left; (focus (intro w hSw; (try dsimp only at hSw); go_simp; (try with_reducible rfl); done)); (try simp only [put_rules]))
          (refine wpAnyH_take (i := 15) (v := ?_) rfl (by kernel_rfl) (by kernel_rfl) (by kernel_rfl) (fun _ _ _ h => h) (Or.inl ⟨by rfl, ?_⟩) (by assumption) ?_; rotate_left; (focus (intro w hSw; (try dsimp only at hSw); go_simp; (try with_reducible rfl); done)); (try simp only [put_rules]))
          (refine wpAnyH_ready (rs := [16]) (by kernel_rfl) (by simp) ?_; refine AllReadyH.cons rfl (fun K hK => ?_) AllReadyH.nil)
          go_simp
          go_at_call 88
          refine (hh1.out _ (hGH.out _ (bdr (bb _)))).mono ?_
          rintro e w3 ⟨rfl, rfl⟩
          go_wp2_with fail
          refine hK.out _ _ hS (fun hS3 => ?_)
          clear hK
          (try simp only [put_rules])
          cases q1
          · (refine wpAnyH_take (i := 17) (v := ?_) rfl (by kernel_rfl) (by kernel_rfl) (by kernel_rfl) (fun _ _ _ h => h) (Or.inl ⟨by rfl, ?_⟩) (by assumption) ?_; rotate_left; (focus (intro w hSw; (try dsimp only at hSw); go_simp; (try with_reducible rfl); done)); (try simp only [put_rules]))
            (refine wpAnyH_take (i := 18) (v := ?_) rfl (by kernel_rfl) (by kernel_rfl) (by kernel_rfl) (fun _ _ _ h => h) (Or.inl ⟨by rfl, ?_⟩) (by assumption) ?_; rotate_left; (focus (intro w hSw; (try dsimp only at hSw); go_simp; (try with_reducible rfl); done)); (try simp only [put_rules]))
            (refine wpAnyH_take (i := 19) (v := ?_) rfl (by kernel_rfl) (by kernel_rfl) (by kernel_rfl) (fun _ _ _ h => h) (Or.inl ⟨by rfl, ?_⟩) (by assumption) ?_; rotate_left; (focus (intro w hSw; (try dsimp only at hSw); go_simp; (try with_reducible rfl); done)); (try simp only [put_rules]))
            (refine wpAnyH_take (i := 20) (v := ?_) rfl (by kernel_rfl) (by kernel_rfl) (by kernel_rfl) (fun _ _ _ h => h) (Or.inl ⟨by rfl, ?_⟩) (by assumption) ?_; rotate_left; (focus (intro w hSw; (try dsimp only at hSw); go_simp; (try with_reducible rfl); done)); (try simp only [put_rules]))
            (refine wpAnyH_take (i := 21) (v := .slice _ k tc) rfl (by kernel_rfl) (by kernel_rfl) (by kernel_rfl) (fun _ _ _ h => h) (Or.inl ⟨by rfl, fun _ _ => exec_slice_to rfl rfl rfl Try.underlying35 ti (by omega)⟩) (by assumption) ?_; (try simp only [put_rules]))
            (refine wpAnyH_take (i := 22) (v := ?_) rfl (by kernel_rfl) (by kernel_rfl) (by kernel_rfl) (fun _ _ _ h => h) (Or.inl ⟨by rfl, ?_⟩) (by assumption) ?_; rotate_left; (focus (intro w hSw; (try dsimp only at hSw); go_simp; (try with_reducible rfl); done)); (try simp only [put_rules]))
            (refine wpAnyH_take (i := 23) (v := ?_) rfl (by kernel_rfl) (by kernel_rfl) (by kernel_rfl) (fun _ _ _ h => h) (Or.inl ⟨by rfl, ?_⟩) (by assumption) ?_; rotate_left; (focus (intro w hSw; (try dsimp only at hSw); go_simp; (try with_reducible rfl); done)); (try simp only [put_rules]))
            (refine wpAnyH_take (i := 24) (v := ?_) rfl (by kernel_rfl) (by kernel_rfl) (by kernel_rfl) (fun _ _ _ h => h) (Or.inl ⟨by rfl, ?_⟩) (by assumption) ?_; rotate_left; (focus (intro w hSw; (try dsimp only at hSw); go_simp; (try with_reducible rfl); done)); (try simp only [put_rules]))
            (refine wpAnyH_take (i := 25) (v := ?_) rfl (by kernel_rfl) (by kernel_rfl) (by kernel_rfl) (fun _ _ _ h => h) (Or.inl ⟨by rfl, ?_⟩) (by assumption) ?_; rotate_left; (focus (intro w hSw; (try dsimp only at hSw); go_simp; (try with_reducible rfl); done)); (try simp only [put_rules]))
            (refine wpAnyH_take (i := 26) (v := ?_) rfl (by kernel_rfl) (by kernel_rfl) (by kernel_rfl) (fun _ _ _ h => h) (Or.inl ⟨by rfl, ?_⟩) (by assumption) ?_; rotate_left; (focus (intro w hSw; (try dsimp only at hSw); go_simp; (try with_reducible rfl); done)); (try simp only [put_rules]))
            (refine wpAnyH_ready (rs := [27]) (by kernel_rfl) (by simp) ?_; refine AllReadyH.cons rfl (fun K hK => ?_) AllReadyH.nil)
            go_simp
            go_at_call 88
            refine (hh2.out _ (hGH.out _ (bdr (bb _)))).mono ?_
            rintro e w3 ⟨rfl, rfl⟩
            go_wp2_with fail
            refine hK.out _ _ hS (fun hS4 => ?_)
            clear hK
            (try simp only [put_rules])
            (refine wpAnyH_take (i := 28) (v := ?_) rfl (by kernel_rfl) (by kernel_rfl) (by kernel_rfl) (fun _ _ _ h => h) (Or.inl ⟨by rfl, ?_⟩) (by assumption) ?_; rotate_left; (focus (intro w hSw; (try dsimp only at hSw); go_simp; (try with_reducible rfl); done)); (try simp only [put_rules]))
            (refine wpAnyH_done (by kernel_rfl) ?_ _)
            go_wp2_with fail
            go_meet
            exact ⟨_, rfl, HS.out.drew⟩
          · (refine wpAnyH_take (i := 17) (v := ?_) rfl (by kernel_rfl) (by kernel_rfl) (by kernel_rfl) (fun _ _ _ h => h) (Or.inl ⟨by rfl, ?_⟩) (by assumption) ?_; rotate_left; (focus (intro w hSw; (try dsimp only at hSw); go_simp; (try with_reducible rfl); done)); (try simp only [put_rules]))
            (refine wpAnyH_take (i := 18) (v := ?_) rfl (by kernel_rfl) (by kernel_rfl) (by kernel_rfl) (fun _ _ _ h => h) (Or.inl ⟨by rfl, ?_⟩) (by assumption) ?_; rotate_left; (focus (intro w hSw; (try dsimp only at hSw); go_simp; (try with_reducible rfl); done)); (try simp only [put_rules]))
            (refine wpAnyH_take (i := 19) (v := undef) rfl (by kernel_rfl) (by kernel_rfl) (by kernel_rfl) (fun _ _ _ h => h) (Or.inr ⟨by rfl, rfl⟩) (by assumption) ?_; (try simp only [put_rules]))
            (refine wpAnyH_take (i := 20) (v := undef) rfl (by kernel_rfl) (by kernel_rfl) (by kernel_rfl) (fun _ _ _ h => h) (Or.inr ⟨by rfl, rfl⟩) (by assumption) ?_; (try simp only [put_rules]))
            (refine wpAnyH_take (i := 21) (v := undef) rfl (by kernel_rfl) (by kernel_rfl) (by kernel_rfl) (fun _ _ _ h => h) (Or.inr ⟨by rfl, rfl⟩) (by assumption) ?_; (try simp only [put_rules]))
            (refine wpAnyH_take (i := 22) (v := undef) rfl (by kernel_rfl) (by kernel_rfl) (by kernel_rfl) (fun _ _ _ h => h) (Or.inr ⟨by rfl, rfl⟩) (by assumption) ?_; (try simp only [put_rules]))
            (refine wpAnyH_take (i := 23) (v := undef) rfl (by kernel_rfl) (by kernel_rfl) (by kernel_rfl) (fun _ _ _ h => h) (Or.inr ⟨by rfl, rfl⟩) (by assumption) ?_; (try simp only [put_rules]))
            (refine wpAnyH_take (i := 24) (v := undef) rfl (by kernel_rfl) (by kernel_rfl) (by kernel_rfl) (fun _ _ _ h => h) (Or.inr ⟨by rfl, rfl⟩) (by assumption) ?_; (try simp only [put_rules]))
            (refine wpAnyH_take (i := 25) (v := undef) rfl (by kernel_rfl) (by kernel_rfl) (by kernel_rfl) (fun _ _ _ h => h) (Or.inr ⟨by rfl, rfl⟩) (by assumption) ?_; (try simp only [put_rules]))
            (refine wpAnyH_take (i := 26) (v := undef) rfl (by kernel_rfl) (by kernel_rfl) (by kernel_rfl) (fun _ _ _ h => h) (Or.inr ⟨by rfl, rfl⟩) (by assumption) ?_; (try simp only [put_rules]))
            (refine wpAnyH_take (i := 27) (v := undef) rfl (by kernel_rfl) (by kernel_rfl) (by kernel_rfl) (fun _ _ _ h => h) (Or.inr ⟨by rfl, rfl⟩) (by assumption) ?_; (try simp only [put_rules]))
            (refine wpAnyH_take (i := 28) (v := ?_) rfl (by kernel_rfl) (by kernel_rfl) (by kernel_rfl) (fun _ _ _ h => h) (Or.inl ⟨by rfl, ?_⟩) (by assumption) ?_; rotate_left; (focus (intro w hSw; (try dsimp only at hSw); go_simp; (try with_reducible rfl); done)); (try simp only [put_rules]))
            (refine wpAnyH_done (by kernel_rfl) ?_ _)
            go_wp2_with fail
            go_meet
            exact ⟨_, rfl, HS.out.drew⟩
      case rest =>
      clear HS d0 m0 hlit hh1 hh2 hGH
      obtain ⟨q, rfl, HS⟩ := hcut
      cases q
      · go_wp2_with fail
        go_roundw
        case rel => exact ⟨k + 1, by omega, by go_num, HS⟩
        case measure => simp [intOf]; omega
      · have r0 := HS.out.cell (i := 0) rfl (o := 0) rfl
        have r1 := HS.out.cell (i := 0) rfl (o := 1) rfl
        have f0 := HS.out.frozen (i := 0) rfl 0
        have f1 := HS.out.frozen (i := 0) rfl 1
        have SF := (HS.out.store (i := 0) rfl 0 (.int .i64 0)).store (i := 0) rfl 1 (.slice none 0 0)
        have j0 := SF.cell (i := 0) rfl (o := 0) rfl
        have j1 := SF.cell (i := 0) rfl (o := 1) rfl
        have hB := Lib.hid SF.below
        clear SF
        go_wp2_with fail
        exact bodyPost_ret (v := .tuple #[.agg #[.int .i64 0, .slice none 0 0], .bool false]) (by simp [results, Try.results180, go_sem, j0, j1]) rfl (cnfW_no hB.out)
    · have hge : ¬ (k : Int) < (tl.length : Int) := by omega
      have d0 := HS.out.cell (i := 1) rfl (o := 0) rfl
      have S3 := (HS.out.rows_made Ty.int 35).alloc_box #[.int .i64 n, .slice (some ⟨wr.heap.size, 0, none⟩) 0 0] 26
      simp only [World.size_alloc] at S3
      obtain ⟨ob, hob⟩ : ∃ ob, wr.heap.size + 1 = ob := ⟨_, rfl⟩
      rw [hob] at S3
      have S4 : Hid (Sp w _ [Rows Ty.int 35 (.slice (some ⟨wr.heap.size, 0, none⟩) ([] : List (List Int)).length 0) [] ([] : List (List Int)), Box ob 26 #[.int .i64 n, .slice (some ⟨wr.heap.size, 0, none⟩) ([] : List (List Int)).length 0], Box (w.heap.size + 1) 26 #[.int .i64 0, .slice none 0 0], Box w.heap.size 26 #[.int .i64 n, .slice FA xss.length fc]]) := S3.swap
      clear HS S3
      go_wp2_with fail
      go_loopw [8, 9, 10, 11, 12] (fun vi _ _ _ _ wr => ∃ (ys : List (List Int)) (cs : List Value) (B : Option Addr) (cap : Nat) (k : Nat), k ≤ xss.length ∧ vi = .int .i64 k ∧ Hid (ys.length = k) ∧ Hid (SmallC ys) ∧ Hid (Sp w wr [Rows Ty.int 35 (.slice B ys.length cap) cs ys, Box ob 26 #[.int .i64 n, .slice B ys.length cap], Box (w.heap.size + 1) 26 #[.int .i64 0, .slice none 0 0], Box w.heap.size 26 #[.int .i64 n, .slice FA xss.length fc]])) (fun vi _ _ _ _ _ => xss.length - (intOf vi).toNat)
      case atStart => exact ⟨[], [], _, _, 0, Nat.zero_le _, rfl, rfl, (fun c hc => by simp at hc), S4⟩
      case round =>
        obtain ⟨ys, cs, B, cap, k, hk, rfl, hyl, HC, HS⟩ := hrel
        rename World => wo
        have hx60 := hgH.out.2.1
        clear S4
        have d1 := HS.out.cell (i := 3) rfl (o := 1) rfl
        by_cases hlt : k < xss.length
        · obtain ⟨b, off, Bc, cc, rfl, m0, hIc⟩ := (hI.out.grow HS.out.below).at_ k hlt
          have hcb := hgH.out.2.2.1 _ (List.getElem_mem hlt)
          have hcl := clause_len hcb
          have hpar := Lib.hid (clause_parts hcb).2.1
          generalize xss[k] = c at *
          replace hIc := Lib.hid hIc
          have m0H := Lib.hid m0
          have S5 := Lib.hid (HS.out.own_made 3 1)
          clear HS hcb m0
          go_wp2_with fail
          clear d1
          go_loopw [9, 10, 11, 12] (fun vc vk _ _ WR => ∃ (c2 : List Int) (B2 : Option Addr) (cap2 j : Nat), j ≤ c.length ∧ vk = .int .i64 j ∧ vc = .slice B2 c2.length cap2 ∧ Hid (c2.length ≤ j) ∧ Hid (Within 13 c2) ∧ Hid (Sp w WR (Own 3 1 (.slice B2 c2.length cap2) c2.length (c2.map (.int .i64)) :: [Rows Ty.int 35 (.slice B ys.length cap) cs ys, Box ob 26 #[.int .i64 n, .slice B ys.length cap], Box (w.heap.size + 1) 26 #[.int .i64 0, .slice none 0 0], Box w.heap.size 26 #[.int .i64 n, .slice (some ⟨b, off, none⟩) xss.length fc]])) ∧ Hid (Below wo.heap.size wo WR)) (fun _ vk _ _ _ => c.length - (intOf vk).toNat)
          case atStart => exact ⟨[], _, _, 0, Nat.zero_le _, rfl, rfl, Nat.le_refl _, (fun x hx => by simp at hx), S5, bal (bb _) _⟩
          case round =>
            obtain ⟨c2, B2, cap2, j, hj, rfl, rfl, hc2l, HW, HS2, HB⟩ := hrel
            clear S5
            have d1 := HS2.out.cell (i := 4) rfl (o := 1) rfl
            have m0 := ((bcell HB.out).1 _ _ (World.block_lt_of_cell? _ _ m0H.out)).trans m0H.out
            by_cases hlt2 : j < c.length
            · obtain ⟨b3, off3, rfl, m1⟩ := (hIc.out.grow HB.out).at_ j hlt2
              have hx := hpar.out _ (List.getElem_mem hlt2)
              generalize c[j] = x at *
              obtain ⟨p, hp⟩ : ∃ p : Nat, absV x - 1 = (p : Int) := ⟨x.natAbs - 1, by rw [absV_of x (by omega)]; omega⟩
              have hpn : p < tl.length := by rw [hln.out]; rw [absV_of x (by omega)] at hp; omega
              obtain ⟨b4, off4, rfl, m2⟩ := (hT.out.grow HS2.out.below).at_ p hpn
              have hy13 := hto.out _ (List.getElem_mem hpn)
              generalize tl[p] = y at *
              have hyn : IntKind.i64.wrap (-y) = -y := IntWalk.i64_in _ (by omega)
              have hpw : IntKind.i64.wrap (absV x - 1) = (p : Int) := by rw [hp]; exact IntWalk.i64_in _ (by omega)
              have hpl : (p : Int) < (tl.length : Int) := by omega
              have hlv := Lib.hid (fun W => l2Var_any x W)
              clear hp
              generalize absV x = av at *
              go_wp2_with fail
              refine (hlv.out _).mono ?_
              rintro e w3 ⟨rfl, rfl⟩
              clear hlv
              go_upto_if 97 with fail
              go_cut [12] (fun s wx => ∃ l : Int, s = .int .i64 l ∧ -13 ≤ l ∧ l ≤ 13 ∧ Hid (Sp w wx (Own 3 1 (.slice B2 c2.length cap2) c2.length (c2.map (.int .i64)) :: [Rows Ty.int 35 (.slice B ys.length cap) cs ys, Box ob 26 #[.int .i64 n, .slice B ys.length cap], Box (w.heap.size + 1) 26 #[.int .i64 0, .slice none 0 0], Box w.heap.size 26 #[.int .i64 n, .slice (some ⟨b, off, none⟩) xss.length fc]])) ∧ Hid (Below wo.heap.size wo wx))
              case first =>
                by_cases hx0 : x < 0
                · have dx : decide (x < 0) = true := decide_eq_true hx0
                  go_wp2_with fail
                  go_meet
                  exact ⟨-y, rfl, by omega, by omega, HS2, HB⟩
                · have dx : decide (x < 0) = false := decide_eq_false hx0
                  go_wp2_with fail
                  go_meet
                  exact ⟨y, rfl, by omega, by omega, HS2, HB⟩
              case rest =>
              clear HS2 HB m0 m1 m2 d1 hyn hpw hpl hx
              obtain ⟨l, rfl, hl0, hl1, HS2, HB⟩ := hcut
              obtain ⟨F5, hr5, _, _⟩ := own_row (HS2.out.own (i := 0) rfl) (HW.out.i64 (by decide))
              have hc2' := hc2l.out
              have hpu := Lib.hid (l2Put_any _ c2 l F5 _ (Ty.row_down hr5) (by omega))
              clear hr5
              go_wp2_with fail
              refine hpu.out.mono ?_
              rintro e w6 ⟨v6, rfl, ho6, hb6⟩
              have S6 := (HS2.out.own_new hb6 (owns_zero ho6) (owns_ge ho6)).swap.tail
              have HW6 := Lib.hid (within_put HW.out ⟨hl0, hl1⟩)
              have hl6 := put_len c2 l
              obtain ⟨B6, cap6, rfl⟩ := own_slice ho6
              have HB6 := Lib.hid (btr HB.out hb6)
              generalize putB c2 l = c6 at *
              have hc6 : Hid (c6.length ≤ j + 1) := by unfold Hid; omega
              replace S6 := Lib.hid S6
              clear HS2 HB hpu ho6 hb6 hl6 hc2l hc2' HW
              go_wp2_with fail
              go_roundw
              case rel => exact ⟨c6, B6, cap6, j + 1, by omega, by go_num, rfl, hc6, HW6, S6, HB6⟩
              case measure => simp [intOf]; omega
            · obtain rfl : j = c.length := by omega
              have hc13 : c2.length ≤ 13 := by have := hc2l.out; omega
              have hsm : Within 1000000 c2 := fun z hz => by have := HW.out z hz; omega
              have S5 := Lib.hid (HS2.out.own_to_row (HW.out.i64 (by decide)))
              clear HS2
              have l1 := S5.out.cell (i := 2) rfl (o := 1) rfl
              have hrows := Lib.hid ((S5.out.rows (i := 1) rfl).alloc (.cells #[.slice B2 c2.length cap2] 35))
              have hbl := (S5.out.box (i := 2) rfl).2.1
              have l1a := ((bcell (bal (bb wr) (.cells #[.slice B2 c2.length cap2] 35))).1 _ 1 hbl).trans l1
              have kB : (wr.alloc (.cells #[.slice B2 c2.length cap2] 35)).cell? ⟨wr.heap.size, 0, none⟩ = some (.slice B2 c2.length cap2) := cell_of_row _ _ _ _ _ _ (heap_alloc_new wr _)
              go_wp2_with (at_builtin; refine wpList_append_src rfl _ _ rfl Try.underlying24 hi hz0 hz1 hz2 rfl (by decide) _ ys.length _ rfl hrows.out _ 1 1 [.slice B2 c2.length cap2] rfl (Src.one kB) (by simp [Value.oneCell']) ?c3 ?c4 ?_)
              case c3 => have hyk := hyl.out; have := hgH.out.2.1; unfold maxLen; omega
              case c4 => have hyk := hyl.out; have := hgH.out.2.1; omega
              intro vY wY hownY hgY hatY
              have S6 := S5.out.rows_push (bal (bb _) _) hownY hgY (by simpa using hatY)
              obtain ⟨aY, cY, rfl⟩ := own_slice hownY
              have b1 := S6.cell (i := 1) rfl (o := 1) rfl
              have q1 := S6.frozen (i := 1) rfl 1
              have hlen : ys.length + 1 = (ys ++ [c2]).length := by simp
              have S7 : Hid (Sp w (wY.setCell ⟨ob, 1, none⟩ (.slice aY (ys.length + 1) cY)) [Rows Ty.int 35 (.slice aY (ys ++ [c2]).length cY) (cs ++ [.slice B2 c2.length cap2]) (ys ++ [c2]), Box ob 26 #[.int .i64 n, .slice aY (ys ++ [c2]).length cY], Box (w.heap.size + 1) 26 #[.int .i64 0, .slice none 0 0], Box w.heap.size 26 #[.int .i64 n, .slice (some ⟨b, off, none⟩) xss.length fc]]) := by
                unfold Hid; rw [← hlen]
                have := S6.store (i := 1) rfl 1 (.slice aY (ys.length + 1) cY)
                rw [hlen] at this ⊢
                exact this
              have HC2 : Hid (SmallC (ys ++ [c2])) := fun y hy => by
                rcases List.mem_append.1 hy with hy | hy
                · exact HC.out y hy
                · obtain rfl : y = c2 := by simpa using hy
                  exact ⟨hsm, hc13⟩
              have hyl2 : Hid ((ys ++ [c2]).length = k + 1) := by unfold Hid; rw [← hlen, hyl.out]
              clear S5 S6 hrows hownY hgY hatY kB l1 l1a hbl hyl
              replace hlen := Lib.hid hlen
              go_wp2_with fail
              go_roundw
              case rel => exact ⟨ys ++ [c2], cs ++ [.slice B2 c2.length cap2], aY, cY, k + 1, by omega, by go_num, hyl2, HC2, S7⟩
              case measure => simp [intOf]; omega
        · obtain rfl : k = xss.length := by omega
          have l0 := HS.out.cell (i := 1) rfl (o := 0) rfl
          have l1 := HS.out.cell (i := 1) rfl (o := 1) rfl
          have r0 := HS.out.cell (i := 2) rfl (o := 0) rfl
          have r1 := HS.out.cell (i := 2) rfl (o := 1) rfl
          have f0 := HS.out.frozen (i := 2) rfl 0
          have f1 := HS.out.frozen (i := 2) rfl 1
          have SF := (HS.out.store (i := 2) rfl 0 (.int .i64 n)).store (i := 2) rfl 1 (.slice B ys.length cap)
          have j0 := SF.cell (i := 2) rfl (o := 0) rfl
          have j1 := SF.cell (i := 2) rfl (o := 1) rfl
          have hR := Lib.hid (Sp.front (qs := [_]) SF)
          have hy60 : ys.length ≤ 60 := by rw [hyl.out]; exact hgH.out.2.1
          clear SF HS
          go_wp2_with fail
          exact bodyPost_ret (v := .tuple #[.agg #[.int .i64 n, .slice B ys.length cap], .bool true]) (by simp [results, Try.results180, go_sem, j0, j1]) rfl ⟨n, B, cap, cs, ys, true, rfl, by omega, by omega, hy60, HC.out, hR.out⟩
end Go.Proofs.Ytbemodacpimiiaa

/- Contracts: numbers of variables that are drawn, mostly up to five. -/
namespace Go.Proofs.Ytbemodacpimiiaa
open Go.RowKit

/- left out: the seat has no (*loop.example/g01080/spec.l1Cur).vars2 -/
end Go.Proofs.Ytbemodacpimiiaa
