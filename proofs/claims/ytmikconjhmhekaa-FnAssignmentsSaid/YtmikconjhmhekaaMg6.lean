/- Lemmas and contracts for a law, put together out of several texts: SdE SdF SdG SdH SdI CurR MdG MdH MdI MdJ. -/
import Derived.Test.YtmikconjhmhekaaMg5
import Derived.Test.YtmikconjhmhekaaMg4
import Derived.Test.YtmikconjhmhekaaMg2
/- Contracts: the variables of both sides, in the reference. -/
namespace Go.Proofs.Ytmikconjhmhekaa
open Go.RowKit

/-- The parts of what the reference tells of the sides. -/
def onlyL (L R : List (List Int)) (v : Nat) : Bool := usedB L v && !usedB R v
def bothL (L R : List (List Int)) (v : Nat) : Bool := usedB L v && usedB R v
theorem varF_yes {n : Nat} {p : Nat → Bool} {z : Int} (hz : (n : Int) + 1 = z) (h : p (n + 1) = true) : varF n p ++ [z] = varF (n + 1) p := by
  rw [varF_snoc, if_pos h, ← hz]; rfl
theorem varF_no {n : Nat} {p : Nat → Bool} (h : p (n + 1) = false) : varF n p = varF (n + 1) p := by
  rw [varF_snoc, h]; simp
/-- Three rows of numbers. -/
def Ints3 (w : World) (a b c : List Int) (e : Ending) (w' : World) : Prop :=
  ∃ D dc E ec G gc, e = .returned (.tuple #[.slice D a.length dc, .slice E b.length ec, .slice G c.length gc]) ∧ Sp w w' [Own 3 1 (.slice D a.length dc) a.length (a.map (.int .i64)), Own 3 1 (.slice E b.length ec) b.length (b.map (.int .i64)), Own 3 1 (.slice G c.length gc) c.length (c.map (.int .i64))]

set_option maxRecDepth 100000 in
set_option maxHeartbeats 8000000 in
theorem l29Sides_any (n : Nat) (hn : n ≤ 12) (A : Option Addr) (cap : Nat) (xss : List (List Int)) (k : Nat) (w : World) (hx : ClsAt w A xss) (hl : xss.length ≤ 1000) (hs : ∀ c ∈ xss, c.length ≤ 1000000) (hk : k ≤ xss.length) (hcap : xss.length ≤ cap) :
    Calls Try.prog 158 #[.agg #[.int .i64 n, .slice A xss.length cap], .int .i64 k] w (Ints3 w (varF n (onlyL (xss.take k) (xss.drop k))) (varF n (onlyL (xss.drop k) (xss.take k))) (varF n (bothL (xss.take k) (xss.drop k)))) := by
  obtain ⟨i0, hi0, hy0, hy1, hy2⟩ := info_parts infoInt
  have S0 := ((((Sp.start w).alloc_box #[.int .i64 n, .slice A xss.length cap] 26).own_made 3 1).own_made 3 1).own_made 3 1
  simp only [World.size_alloc] at S0
  have hcall := Lib.hid (fun v (hv : v ≤ 1000) W (h : Below w.heap.size w W) => l29Left_any n A cap xss k v W (hx.grow h) hl hs hk hcap hv)
  have ya := Lib.hid (fun (i : Nat) (z : Int) (hz : (i : Int) + 1 = z) (h : onlyL (xss.take k) (xss.drop k) (i + 1) = true) => varF_yes hz h)
  have yb := Lib.hid (fun (i : Nat) (z : Int) (hz : (i : Int) + 1 = z) (h : onlyL (xss.drop k) (xss.take k) (i + 1) = true) => varF_yes hz h)
  have yc := Lib.hid (fun (i : Nat) (z : Int) (hz : (i : Int) + 1 = z) (h : bothL (xss.take k) (xss.drop k) (i + 1) = true) => varF_yes hz h)
  have na := Lib.hid (fun (i : Nat) (h : onlyL (xss.take k) (xss.drop k) (i + 1) = false) => varF_no h)
  have nb := Lib.hid (fun (i : Nat) (h : onlyL (xss.drop k) (xss.take k) (i + 1) = false) => varF_no h)
  have nc := Lib.hid (fun (i : Nat) (h : bothL (xss.take k) (xss.drop k) (i + 1) = false) => varF_no h)
  have pa : Hid (∀ v, onlyL (xss.take k) (xss.drop k) v = (usedB (xss.take k) v && !usedB (xss.drop k) v)) := fun v => rfl
  have pb : Hid (∀ v, onlyL (xss.drop k) (xss.take k) v = (usedB (xss.drop k) v && !usedB (xss.take k) v)) := fun v => rfl
  have pc : Hid (∀ v, bothL (xss.take k) (xss.drop k) v = (usedB (xss.take k) v && usedB (xss.drop k) v)) := fun v => rfl
  generalize onlyL (xss.take k) (xss.drop k) = A1 at *
  generalize onlyL (xss.drop k) (xss.take k) = B1 at *
  generalize bothL (xss.take k) (xss.drop k) = C1 at *
  generalize usedB (xss.take k) = UL at *
  generalize usedB (xss.drop k) = UR at *
  have la := Lib.hid (fun i => varF_len i A1)
  have lb := Lib.hid (fun i => varF_len i B1)
  have lc := Lib.hid (fun i => varF_len i C1)
  clear hx hs
  obtain ⟨m, hm⟩ : ∃ m, xss.length = m := ⟨_, rfl⟩
  rw [hm] at S0 hk hl hcap hcall ⊢
  clear hm
  replace S0 : Hid (Sp w _ [Own 3 1 (.slice (some ⟨w.heap.size + 1, 0, none⟩) 0 0) 0 [], Own 3 1 (.slice (some ⟨w.heap.size + 1 + 1, 0, none⟩) 0 0) 0 [], Own 3 1 (.slice (some ⟨w.heap.size + 1 + 1 + 1, 0, none⟩) 0 0) 0 [], Box w.heap.size 26 #[.int .i64 n, .slice A m cap]]) := S0.pick [2, 1, 0, 0] rfl
  go_enter Try.func158, Try.ntmps158
  go_wp2_with fail
  go_loopw [7, 8, 9, 10, 11, 12] (fun v7 v8 v9 v10 _ _ wr => ∃ (i : Nat) (z : Int) (ds es fs : List Int) (D E G : Option Addr) (dc ec gc : Nat), i ≤ n ∧ 1 ≤ z ∧ z ≤ 13 ∧ Hid ((i : Int) + 1 = z) ∧ v10 = .int .i64 z ∧ v7 = .slice D ds.length dc ∧ v8 = .slice E es.length ec ∧ v9 = .slice G fs.length gc ∧ ds.length ≤ 12 ∧ es.length ≤ 12 ∧ fs.length ≤ 12 ∧
    Hid (ds = varF i A1) ∧ Hid (es = varF i B1) ∧ Hid (fs = varF i C1) ∧ Hid (Sp w wr [Own 3 1 (.slice D ds.length dc) ds.length (ds.map (.int .i64)), Own 3 1 (.slice E es.length ec) es.length (es.map (.int .i64)), Own 3 1 (.slice G fs.length gc) fs.length (fs.map (.int .i64)), Box w.heap.size 26 #[.int .i64 n, .slice A m cap]])) (fun _ _ _ v10 _ _ _ => 20 - (intOf v10).toNat)
  case atStart => exact ⟨0, 1, [], [], [], _, _, _, _, _, _, Nat.zero_le _, by decide, by decide, rfl, rfl, rfl, rfl, rfl, by simp, by simp, by simp, rfl, rfl, rfl, S0⟩
  case round =>
    obtain ⟨i, z, ds, es, fs, D, E, G, dc, ec, gc, hi, hz1, hz13, hiz, rfl, rfl, rfl, rfl, hda, heb, hfc, hds, hes, hfs, HS⟩ := hrel
    clear S0
    have d0 := HS.out.cell (i := 3) rfl (o := 0) rfl
    by_cases hlt : i < n
    · have hzn : decide (z ≤ (n : Int)) = true := decide_eq_true (by have := hiz.out; omega)
      have hcl := Lib.hid (hcall.out (i + 1) (by omega) _ HS.out.below)
      rw [show (((i + 1 : Nat) : Int)) = z from hiz.out] at hcl
      have d1 := HS.out.cell (i := 3) rfl (o := 1) rfl
      have hw : IntKind.i64.wrap (z + 1) = z + 1 := IntWalk.i64_in _ (by omega)
      have wa := Lib.hid (ya.out i z hiz.out)
      have wb := Lib.hid (yb.out i z hiz.out)
      have wc := Lib.hid (yc.out i z hiz.out)
      have xa := Lib.hid (na.out i)
      have xb := Lib.hid (nb.out i)
      have xc := Lib.hid (nc.out i)
      rw [pa.out] at wa xa
      rw [pb.out] at wb xb
      rw [pc.out] at wc xc
      rw [← hds.out] at wa xa
      rw [← hes.out] at wb xb
      rw [← hfs.out] at wc xc
      have hz12 : z ≤ 12 := by have := hiz.out; omega
      have hiz2 : Hid (((i + 1 : Nat) : Int) + 1 = z + 1) := by unfold Hid; have := hiz.out; omega
      have ka := Lib.hid (la.out (i + 1))
      have kb := Lib.hid (lb.out (i + 1))
      have kc := Lib.hid (lc.out (i + 1))
      obtain ⟨ql, hql⟩ : ∃ q, UL (i + 1) = q := ⟨_, rfl⟩
      obtain ⟨qr, hqr⟩ : ∃ q, UR (i + 1) = q := ⟨_, rfl⟩
      rw [hql, hqr] at wa xa wc xc hcl
      rw [hqr, hql] at wb xb
      clear hql hqr hds hes hfs hiz
      go_wp2_with fail
      refine hcl.out.mono ?_
      rintro e w2 ⟨rfl, hb2⟩
      have HS2 := Lib.hid (HS.out.grow hb2)
      clear HS hb2 d0 d1 hcl
      cases ql <;> cases qr
      · as_aux_lemma =>
          go_wp2_with fail
          go_roundw
          case rel => exact ⟨i + 1, z + 1, ds, es, fs, D, E, G, dc, ec, gc, by omega, by omega, by omega, hiz2, by go_num, rfl, rfl, rfl, hda, heb, hfc, xa.out rfl, xb.out rfl, xc.out rfl, HS2⟩
          case measure => simp [intOf]; omega
      · as_aux_lemma =>
          have HS3 := Lib.hid (HS2.out.pick (qs := [Own 3 1 (.slice E es.length ec) es.length (es.map (.int .i64)), Own 3 1 (.slice D ds.length dc) ds.length (ds.map (.int .i64)), Own 3 1 (.slice G fs.length gc) fs.length (fs.map (.int .i64)), Box w.heap.size 26 #[.int .i64 n, .slice A m cap]]) [1, 0, 0, 0] rfl)
          clear HS2
          have S3 := HS3.out.alloc_box #[.int .i64 z] 3
          have kB := S3.cell (i := 0) rfl (o := 0) rfl
          replace S3 := Lib.hid S3
          clear HS3
          go_wp2_with (at_builtin; refine wpList_append_src rfl _ _ rfl Try.underlying30 hi0 hy0 hy1 hy2 rfl (by decide) _ _ _ rfl (S3.out.own (i := 1) rfl) _ 1 1 [.int .i64 z] rfl (Src.one kB) (by simp [Value.oneCell']) ?c3 ?c4 ?_)
          case c3 => unfold maxLen; omega
          case c4 => omega
          intro vY wY hownY hgY hatY
          have S4 := (S3.out.own_push (i := 1) rfl (bb _) hownY hgY (by simpa using hatY)).tail
          obtain ⟨aY, cY, rfl⟩ := own_slice hownY
          have S5 := Lib.hid (ownI_snoc (d := es) (x := z) S4)
          clear S3 S4 kB hownY hgY hatY
          have hlen : es.length + 1 = (es ++ [z]).length := by simp
          rw [hlen]
          replace hlen := Lib.hid hlen
          have S6 := Lib.hid (S5.out.pick (qs := [Own 3 1 (.slice D ds.length dc) ds.length (ds.map (.int .i64)), Own 3 1 (.slice aY (es ++ [z]).length cY) (es ++ [z]).length ((es ++ [z]).map (.int .i64)), Own 3 1 (.slice G fs.length gc) fs.length (fs.map (.int .i64)), Box w.heap.size 26 #[.int .i64 n, .slice A m cap]]) [1, 0, 0, 0] rfl)
          have h2 : Hid (es ++ [z] = varF (i + 1) B1) := wb.out rfl
          have h3 : (es ++ [z]).length ≤ 12 := by rw [h2.out]; have := kb.out; omega
          clear S5 wa wb wc xb
          generalize es ++ [z] = es2 at *
          go_wp2_with fail
          go_roundw
          case rel => exact ⟨i + 1, z + 1, ds, es2, fs, D, aY, G, dc, cY, gc, by omega, by omega, by omega, hiz2, by go_num, rfl, rfl, rfl, hda, h3, hfc, xa.out rfl, h2, xc.out rfl, S6⟩
          case measure => simp [intOf]; omega
      · as_aux_lemma =>
          have S3 := HS2.out.alloc_box #[.int .i64 z] 3
          have kB := S3.cell (i := 0) rfl (o := 0) rfl
          replace S3 := Lib.hid S3
          clear HS2
          go_wp2_with (at_builtin; refine wpList_append_src rfl _ _ rfl Try.underlying30 hi0 hy0 hy1 hy2 rfl (by decide) _ _ _ rfl (S3.out.own (i := 1) rfl) _ 1 1 [.int .i64 z] rfl (Src.one kB) (by simp [Value.oneCell']) ?c3 ?c4 ?_)
          case c3 => unfold maxLen; omega
          case c4 => omega
          intro vY wY hownY hgY hatY
          have S4 := (S3.out.own_push (i := 1) rfl (bb _) hownY hgY (by simpa using hatY)).tail
          obtain ⟨aY, cY, rfl⟩ := own_slice hownY
          have S5 := Lib.hid (ownI_snoc (d := ds) (x := z) S4)
          clear S3 S4 kB hownY hgY hatY
          have hlen : ds.length + 1 = (ds ++ [z]).length := by simp
          rw [hlen]
          replace hlen := Lib.hid hlen
          have h2 : Hid (ds ++ [z] = varF (i + 1) A1) := wa.out rfl
          have h3 : (ds ++ [z]).length ≤ 12 := by rw [h2.out]; have := ka.out; omega
          clear wa wb wc xa
          generalize ds ++ [z] = ds2 at *
          go_wp2_with fail
          go_roundw
          case rel => exact ⟨i + 1, z + 1, ds2, es, fs, aY, E, G, cY, ec, gc, by omega, by omega, by omega, hiz2, by go_num, rfl, rfl, rfl, h3, heb, hfc, h2, xb.out rfl, xc.out rfl, S5⟩
          case measure => simp [intOf]; omega
      · as_aux_lemma =>
          have HS3 := Lib.hid (HS2.out.pick (qs := [Own 3 1 (.slice G fs.length gc) fs.length (fs.map (.int .i64)), Own 3 1 (.slice D ds.length dc) ds.length (ds.map (.int .i64)), Own 3 1 (.slice E es.length ec) es.length (es.map (.int .i64)), Box w.heap.size 26 #[.int .i64 n, .slice A m cap]]) [2, 0, 0, 0] rfl)
          clear HS2
          have S3 := HS3.out.alloc_box #[.int .i64 z] 3
          have kB := S3.cell (i := 0) rfl (o := 0) rfl
          replace S3 := Lib.hid S3
          clear HS3
          go_wp2_with (at_builtin; refine wpList_append_src rfl _ _ rfl Try.underlying30 hi0 hy0 hy1 hy2 rfl (by decide) _ _ _ rfl (S3.out.own (i := 1) rfl) _ 1 1 [.int .i64 z] rfl (Src.one kB) (by simp [Value.oneCell']) ?c3 ?c4 ?_)
          case c3 => unfold maxLen; omega
          case c4 => omega
          intro vY wY hownY hgY hatY
          have S4 := (S3.out.own_push (i := 1) rfl (bb _) hownY hgY (by simpa using hatY)).tail
          obtain ⟨aY, cY, rfl⟩ := own_slice hownY
          have S5 := Lib.hid (ownI_snoc (d := fs) (x := z) S4)
          clear S3 S4 kB hownY hgY hatY
          have hlen : fs.length + 1 = (fs ++ [z]).length := by simp
          rw [hlen]
          replace hlen := Lib.hid hlen
          have S6 := Lib.hid (S5.out.pick (qs := [Own 3 1 (.slice D ds.length dc) ds.length (ds.map (.int .i64)), Own 3 1 (.slice E es.length ec) es.length (es.map (.int .i64)), Own 3 1 (.slice aY (fs ++ [z]).length cY) (fs ++ [z]).length ((fs ++ [z]).map (.int .i64)), Box w.heap.size 26 #[.int .i64 n, .slice A m cap]]) [1, 1, 0, 0] rfl)
          have h2 : Hid (fs ++ [z] = varF (i + 1) C1) := wc.out rfl
          have h3 : (fs ++ [z]).length ≤ 12 := by rw [h2.out]; have := kc.out; omega
          clear S5 wa wb wc xc
          generalize fs ++ [z] = fs2 at *
          go_wp2_with fail
          go_roundw
          case rel => exact ⟨i + 1, z + 1, ds, es, fs2, D, E, aY, dc, ec, cY, by omega, by omega, by omega, hiz2, by go_num, rfl, rfl, rfl, hda, heb, h3, xa.out rfl, xb.out rfl, h2, S6⟩
          case measure => simp [intOf]; omega
    · obtain rfl : i = n := by omega
      have hzn : decide (z ≤ (i : Int)) = false := decide_eq_false (by have := hiz.out; omega)
      have S6 := Lib.hid (HS.out.pick (qs := [Own 3 1 (.slice D ds.length dc) ds.length (ds.map (.int .i64)), Own 3 1 (.slice E es.length ec) es.length (es.map (.int .i64)), Own 3 1 (.slice G fs.length gc) fs.length (fs.map (.int .i64))]) [0, 0, 0] rfl)
      clear HS ya yb yc na nb nc pa pb pc la lb lc
      go_wp2_with fail
      refine bodyPost_ret (v := .tuple #[.slice D ds.length dc, .slice E es.length ec, .slice G fs.length gc]) (by simp [results, Try.results158, go_sem]) rfl ?_
      unfold Ints3
      rw [← hds.out, ← hes.out, ← hfs.out]
      exact ⟨D, dc, E, ec, G, gc, rfl, S6.out⟩

end Go.Proofs.Ytmikconjhmhekaa

/- Contract: the sides of a Cnf, in the reference. -/
namespace Go.Proofs.Ytmikconjhmhekaa
open Go.RowKit

/-- Three rows of numbers, and whether they are told. -/
def Ints4 (w : World) (ok : Bool) (a b c : List Int) (e : Ending) (w' : World) : Prop :=
  ∃ D dc E ec G gc, e = .returned (.tuple #[.slice D a.length dc, .slice E b.length ec, .slice G c.length gc, .bool ok]) ∧ IntsAt w' D a ∧ IntsAt w' E b ∧ IntsAt w' G c ∧ Below w.heap.size w w'
/-- What is told of the sides. -/
def sideL (vars : Int) (xss : List (List Int)) (k : Int) (L R : List (List Int)) : List Int := if askB vars xss k then varF vars.toNat (onlyL L R) else []
def sideB (vars : Int) (xss : List (List Int)) (k : Int) (L R : List (List Int)) : List Int := if askB vars xss k then varF vars.toNat (bothL L R) else []
theorem varF_ok {n : Nat} (hn : n ≤ 1000) {p : Nat → Bool} : ∀ x ∈ varF n p, I64 x := fun x hx => by
  have := varF_mem.1 hx
  unfold I64; omega
theorem Sp.ints {w0 w : World} {ps : List Asn} {i : Nat} {A : Option Addr} {cs : List Int} {c : Nat} {e : TypeId} (h : Sp w0 w ps) (hi : ps[i]? = some (Own e 1 (.slice A cs.length c) cs.length (cs.map (.int .i64)))) (hok : ∀ x ∈ cs, I64 x) : IntsAt w A cs := by
  obtain ⟨A', c', e1, hI⟩ := ints_own (h.own hi) hok
  cases e1
  exact hI
theorem ask_parts {vars : Int} {xss : List (List Int)} {k : Int} (h : askB vars xss k = true) : goodB vars xss = true ∧ 0 ≤ k ∧ k ≤ xss.length := by
  unfold askB at h
  rw [Bool.and_eq_true, inB_true] at h
  exact ⟨h.1, h.2.1, h.2.2⟩

set_option maxRecDepth 100000 in
set_option maxHeartbeats 4000000 in
theorem specSidesOf_any (vars : Int) (v : Value) (xss : List (List Int)) (k : Int) (F : List Nat) (w : World) (hx : (Ty.slice Ty.int).row false w v xss F) :
    Calls Try.prog 62 #[.agg #[.int .i64 vars, v], .int .i64 k] w (Ints4 w (askB vars xss k) (sideL vars xss k (xss.take k.toNat) (xss.drop k.toNat)) (sideL vars xss k (xss.drop k.toNat) (xss.take k.toNat)) (sideB vars xss k (xss.take k.toNat) (xss.drop k.toNat))) := by
  obtain ⟨A, cap, rfl, hI⟩ := cls_row hx
  obtain ⟨_, _, e1, hcap, -⟩ := Ty.row_len hx
  cases e1
  have S0 := (Sp.start w).alloc_box #[.int .i64 vars, .slice A xss.length cap] 26
  have hcall := Lib.hid (l29Asked_any vars _ xss k F _ (Ty.row_below hx S0.below (Ty.row_lt hx)))
  replace S0 := Lib.hid S0
  have c0 := S0.out.cell (i := 0) rfl (o := 0) rfl
  have c1 := S0.out.cell (i := 0) rfl (o := 1) rfl
  clear hx
  unfold sideL sideB
  cases h1 : askB vars xss k
  · rw [h1] at hcall
    simp only [Bool.false_eq_true, if_false]
    clear hI hcap h1
    go_enter Try.func62, Try.ntmps62
    go_wp2_with fail
    refine hcall.out.mono ?_
    rintro e w1 ⟨rfl, hb1⟩
    have S1 := S0.out.grow hb1
    have hB := Lib.hid (((S1.alloc (.cells #[] 3)).alloc (.cells #[] 3)).alloc (.cells #[] 3)).below
    clear hcall S0 c0 c1 hb1 S1
    go_wp2_with fail
    exact bodyPost_ret (v := .tuple #[.slice (some ⟨w1.heap.size, 0, none⟩) 0 0, .slice (some ⟨w1.heap.size + 1, 0, none⟩) 0 0, .slice (some ⟨w1.heap.size + 1 + 1, 0, none⟩) 0 0, .bool false]) (by simp [results, Try.results62, go_sem]) rfl ⟨_, _, _, _, _, _, rfl, IntsAt.nil _ _, IntsAt.nil _ _, IntsAt.nil _ _, hB.out⟩
  · rw [h1] at hcall
    simp only [if_true]
    obtain ⟨hg, hk0, hk1⟩ := ask_parts h1
    have hgc := good_cnf hg
    obtain ⟨n, rfl⟩ := Int.eq_ofNat_of_zero_le hgc.1.1
    obtain ⟨k, rfl⟩ := Int.eq_ofNat_of_zero_le hk0
    rw [show ((n : Int)).toNat = n by omega, show ((k : Int)).toNat = k by omega]
    have hsd := Lib.hid (fun W (h : Below w.heap.size w W) => l29Sides_any n (by omega) A cap xss k W (hI.grow h) (by omega) (fun c hc => by have := (hgc.2.2.2 c hc).2; omega) (by omega) hcap)
    have oa := Lib.hid (varF_ok (n := n) (by omega) (p := onlyL (xss.take k) (xss.drop k)))
    have ob := Lib.hid (varF_ok (n := n) (by omega) (p := onlyL (xss.drop k) (xss.take k)))
    have oc := Lib.hid (varF_ok (n := n) (by omega) (p := bothL (xss.take k) (xss.drop k)))
    generalize varF n (onlyL (xss.take k) (xss.drop k)) = la at *
    generalize varF n (onlyL (xss.drop k) (xss.take k)) = lb at *
    generalize varF n (bothL (xss.take k) (xss.drop k)) = lc at *
    obtain ⟨m, hm⟩ : ∃ m, xss.length = m := ⟨_, rfl⟩
    rw [hm] at S0 c1 hcall hsd ⊢
    clear hI hcap h1 hg hk0 hk1 hgc hm
    go_enter Try.func62, Try.ntmps62
    go_wp2_with fail
    refine hcall.out.mono ?_
    rintro e w1 ⟨rfl, hb1⟩
    have S1 := Lib.hid (S0.out.grow hb1)
    have hs2 := Lib.hid (hsd.out w1 S1.out.below)
    clear hcall S0 c0 c1 hb1 hsd
    have c0 := S1.out.cell (i := 0) rfl (o := 0) rfl
    have c1 := S1.out.cell (i := 0) rfl (o := 1) rfl
    go_wp2_with fail
    refine hs2.out.mono ?_
    rintro e w2 ⟨D, dc, E, ec, G, gc, rfl, T⟩
    have i1 := Lib.hid (T.ints (i := 0) rfl oa.out)
    have i2 := Lib.hid (T.ints (i := 1) rfl ob.out)
    have i3 := Lib.hid (T.ints (i := 2) rfl oc.out)
    have hB := Lib.hid (S1.out.seq T).below
    clear hs2 S1 T c0 c1
    go_wp2_with fail
    exact bodyPost_ret (v := .tuple #[.slice D la.length dc, .slice E lb.length ec, .slice G lc.length gc, .bool true]) (by simp [results, Try.results62, go_sem]) rfl ⟨D, dc, E, ec, G, gc, rfl, i1.out, i2.out, i3.out, hB.out⟩
end Go.Proofs.Ytmikconjhmhekaa

/- Contracts: a Cnf with its left clauses, in the program. -/
namespace Go.Proofs.Ytmikconjhmhekaa
open Go.RowKit

theorem containsIA_any (xs : List Int) (A : Option Addr) (cap : Nat) (x : Int) (w : World) (hx : IntsAt w A xs) (hl : xs.length ≤ 1000000) :
    Calls Try.prog 154 #[.slice A xs.length cap, .int .i64 x] w fun e w' => e = .returned (.bool (hasI xs x)) ∧ w' = w := by
  rcases Nat.eq_zero_or_pos xs.length with h0 | h0
  · obtain rfl : xs = [] := List.length_eq_zero_iff.1 h0
    exact Try.slices_Contains_int_empty A cap x w
  · obtain ⟨b, off, rfl, -⟩ := hx.at_ 0 h0
    have h := Try.slices_Contains_int b off xs.length cap xs x w (Nat.le_refl _) (by omega) fun j hj => by
      obtain ⟨b', off', e, h1⟩ := hx.at_ j hj
      cases e
      rw [h1, List.getD_eq_getElem?_getD, List.getElem?_eq_getElem hj]; rfl
    rw [List.take_length] at h
    exact h

theorem has_varF {n : Nat} {q : Nat → Bool} {x : Int} (h1 : 1 ≤ x) (h2 : x ≤ n) : hasI (varF n q) x = q x.toNat := by
  unfold hasI
  rw [Bool.eq_iff_iff, List.contains_iff_mem, varF_mem]
  exact ⟨fun h => h.2.2, fun h => ⟨h1, h2, h⟩⟩
theorem filt_both (n : Nat) (p q : Nat → Bool) : ((varF n p).filter fun x => !(!hasI (varF n q) x)) = varF n fun v => p v && q v := by
  rw [← varF_sub]
  apply List.filter_congr
  intro x hx
  obtain ⟨h1, h2, -⟩ := varF_mem.1 hx
  rw [Bool.not_not, has_varF h1 h2]
theorem filt_only (n : Nat) (p q : Nat → Bool) : ((varF n p).filter fun x => !hasI (varF n fun v => p v && q v) x) = varF n fun v => p v && !q v := by
  rw [← varF_sub n p (fun v => !q v)]
  apply List.filter_congr
  intro x hx
  obtain ⟨h1, h2, h3⟩ := varF_mem.1 hx
  rw [has_varF h1 h2, h3, Bool.true_and]

set_option maxHeartbeats 2000000 in
theorem left_any (sb k m cap : Nat) (A : Option Addr) (w : World) (c1 : w.cell? ⟨sb, 1, none⟩ = some (.slice A m cap)) (c2 : w.cell? ⟨sb, 2, none⟩ = some (.int .i64 k)) (hk : k ≤ cap) :
    Calls Try.prog 155 #[.pointer (some ⟨sb, 0, none⟩)] w fun e w' => e = .returned (.slice A k cap) ∧ Below w.heap.size w w' := by
  obtain ⟨i0, hi0, -, hz1, -⟩ := info_parts infoRow
  have hk0 : (0 : Int) ≤ (k : Int) := by omega
  go_enter Try.func155, Try.ntmps155
  go_wp2_with fail
  refine wp_region_held_lit (S := (fun w' => w'.cell? ⟨sb, 1, none⟩ = some (.slice A m cap) ∧ w'.cell? ⟨sb, 2, none⟩ = some (.int .i64 k))) 11 [false, false, false, false, false, false, false, false, false, false, false] (by kernel_rfl) (by kernel_rfl) (by kernel_rfl) ?_ ?_
  · exact ⟨c1, c2⟩
  intro hSc
  (refine wpAnyH_take (i := 0) (v := ?_) rfl (by kernel_rfl) (by kernel_rfl) (by kernel_rfl) (fun _ _ _ h => h) (Or.inl ⟨by rfl, ?_⟩) (by assumption) ?_; rotate_left; (focus (intro w hSw; (try dsimp only at hSw); go_simp; (try with_reducible rfl); done)); (try simp only [put_rules]))
  (refine wpAnyH_take (i := 1) (v := ?_) rfl (by kernel_rfl) (by kernel_rfl) (by kernel_rfl) (fun _ _ _ h => h) (Or.inl ⟨by rfl, ?_⟩) (by assumption) ?_; rotate_left; (focus (intro w hSw; (try dsimp only at hSw); go_simp; (try with_reducible rfl); done)); (try simp only [put_rules]))
  (refine wpAnyH_take (i := 2) (v := ?_) rfl (by kernel_rfl) (by kernel_rfl) (by kernel_rfl) (fun _ _ _ h => h) (Or.inl ⟨by rfl, ?_⟩) (by assumption) ?_; rotate_left; (focus (intro w hSw; (try dsimp only at hSw); go_simp; (try with_reducible rfl); done)); (try simp only [put_rules]))
  (refine wpAnyH_take (i := 3) (v := ?_) rfl (by kernel_rfl) (by kernel_rfl) (by kernel_rfl) (fun _ _ _ h => h) (Or.inl ⟨by rfl, ?_⟩) (by assumption) ?_; rotate_left; (focus (intro w hSw; (try dsimp only at hSw); go_simp; (try with_reducible rfl); done)); (try simp only [put_rules]))
  (refine wpAnyH_take (i := 4) (v := ?_) rfl (by kernel_rfl) (by kernel_rfl) (by kernel_rfl) (fun _ _ _ h => h) (Or.inl ⟨by rfl, ?_⟩) (by assumption) ?_; rotate_left; (focus (intro w hSw; (try dsimp only at hSw); go_simp; (try with_reducible rfl); done)); (try simp only [put_rules]))
  (refine wpAnyH_take (i := 5) (v := ?_) rfl (by kernel_rfl) (by kernel_rfl) (by kernel_rfl) (fun _ _ _ h => h) (Or.inl ⟨by rfl, ?_⟩) (by assumption) ?_; rotate_left; (focus (intro w hSw; (try dsimp only at hSw); go_simp; (try with_reducible rfl); done)); (try simp only [put_rules]))
  (refine wpAnyH_take (i := 6) (v := ?_) rfl (by kernel_rfl) (by kernel_rfl) (by kernel_rfl) (fun _ _ _ h => h) (Or.inl ⟨by rfl, ?_⟩) (by assumption) ?_; rotate_left; (focus (intro w hSw; (try dsimp only at hSw); go_simp; (try with_reducible rfl); done)); (try simp only [put_rules]))
  (refine wpAnyH_take (i := 7) (v := ?_) rfl (by kernel_rfl) (by kernel_rfl) (by kernel_rfl) (fun _ _ _ h => h) (Or.inl ⟨by rfl, ?_⟩) (by assumption) ?_; rotate_left; (focus (intro w hSw; (try dsimp only at hSw); go_simp; (try with_reducible rfl); done)); (try simp only [put_rules]))
  (refine wpAnyH_take (i := 8) (v := ?_) rfl (by kernel_rfl) (by kernel_rfl) (by kernel_rfl) (fun _ _ _ h => h) (Or.inl ⟨by rfl, ?_⟩) (by assumption) ?_; rotate_left; (focus (intro w hSw; (try dsimp only at hSw); go_simp; (try with_reducible rfl); done)); (try simp only [put_rules]))
  (refine wpAnyH_take (i := 9) (v := .slice A k cap) rfl (by kernel_rfl) (by kernel_rfl) (by kernel_rfl) (fun _ _ _ h => h) (Or.inl ⟨by rfl, fun _ _ => exec_slice_to rfl rfl rfl Try.underlying24 hi0 (by omega)⟩) (by assumption) ?_; (try simp only [put_rules]))
  (refine wpAnyH_take (i := 10) (v := ?_) rfl (by kernel_rfl) (by kernel_rfl) (by kernel_rfl) (fun _ _ _ h => h) (Or.inl ⟨by rfl, ?_⟩) (by assumption) ?_; rotate_left; (focus (intro w hSw; (try dsimp only at hSw); go_simp; (try with_reducible rfl); done)); (try simp only [put_rules]))
  (refine wpAnyH_done (by kernel_rfl) ?_ _)
  (try simp only [put_rules])
  go_wp2_with fail
  go_ret
  exact ⟨rfl, bdr (bb _)⟩

set_option maxHeartbeats 2000000 in
theorem right_any (sb k m cap : Nat) (A : Option Addr) (w : World) (c1 : w.cell? ⟨sb, 1, none⟩ = some (.slice A m cap)) (c2 : w.cell? ⟨sb, 2, none⟩ = some (.int .i64 k)) (hk : k ≤ m) (hm : m ≤ cap) :
    Calls Try.prog 156 #[.pointer (some ⟨sb, 0, none⟩)] w fun e w' => e = .returned (.slice (cutA A cap k 1) (m - k) (cap - k)) ∧ Below w.heap.size w w' := by
  obtain ⟨i0, hi0, -, hz1, -⟩ := info_parts infoRow
  have hk0 : (0 : Int) ≤ (k : Int) := by omega
  go_enter Try.func156, Try.ntmps156
  go_wp2_with fail
  refine wp_region_held_lit (S := (fun w' => w'.cell? ⟨sb, 1, none⟩ = some (.slice A m cap) ∧ w'.cell? ⟨sb, 2, none⟩ = some (.int .i64 k))) 11 [false, false, false, false, false, false, false, false, false, false, false] (by kernel_rfl) (by kernel_rfl) (by kernel_rfl) ?_ ?_
  · exact ⟨c1, c2⟩
  intro hSc
  (refine wpAnyH_take (i := 0) (v := ?_) rfl (by kernel_rfl) (by kernel_rfl) (by kernel_rfl) (fun _ _ _ h => h) (Or.inl ⟨by rfl, ?_⟩) (by assumption) ?_; rotate_left; (focus (intro w hSw; (try dsimp only at hSw); go_simp; (try with_reducible rfl); done)); (try simp only [put_rules]))
  (refine wpAnyH_take (i := 1) (v := ?_) rfl (by kernel_rfl) (by kernel_rfl) (by kernel_rfl) (fun _ _ _ h => h) (Or.inl ⟨by rfl, ?_⟩) (by assumption) ?_; rotate_left; (focus (intro w hSw; (try dsimp only at hSw); go_simp; (try with_reducible rfl); done)); (try simp only [put_rules]))
  (refine wpAnyH_take (i := 2) (v := ?_) rfl (by kernel_rfl) (by kernel_rfl) (by kernel_rfl) (fun _ _ _ h => h) (Or.inl ⟨by rfl, ?_⟩) (by assumption) ?_; rotate_left; (focus (intro w hSw; (try dsimp only at hSw); go_simp; (try with_reducible rfl); done)); (try simp only [put_rules]))
  (refine wpAnyH_take (i := 3) (v := ?_) rfl (by kernel_rfl) (by kernel_rfl) (by kernel_rfl) (fun _ _ _ h => h) (Or.inl ⟨by rfl, ?_⟩) (by assumption) ?_; rotate_left; (focus (intro w hSw; (try dsimp only at hSw); go_simp; (try with_reducible rfl); done)); (try simp only [put_rules]))
  (refine wpAnyH_take (i := 4) (v := ?_) rfl (by kernel_rfl) (by kernel_rfl) (by kernel_rfl) (fun _ _ _ h => h) (Or.inl ⟨by rfl, ?_⟩) (by assumption) ?_; rotate_left; (focus (intro w hSw; (try dsimp only at hSw); go_simp; (try with_reducible rfl); done)); (try simp only [put_rules]))
  (refine wpAnyH_take (i := 5) (v := ?_) rfl (by kernel_rfl) (by kernel_rfl) (by kernel_rfl) (fun _ _ _ h => h) (Or.inl ⟨by rfl, ?_⟩) (by assumption) ?_; rotate_left; (focus (intro w hSw; (try dsimp only at hSw); go_simp; (try with_reducible rfl); done)); (try simp only [put_rules]))
  (refine wpAnyH_take (i := 6) (v := ?_) rfl (by kernel_rfl) (by kernel_rfl) (by kernel_rfl) (fun _ _ _ h => h) (Or.inl ⟨by rfl, ?_⟩) (by assumption) ?_; rotate_left; (focus (intro w hSw; (try dsimp only at hSw); go_simp; (try with_reducible rfl); done)); (try simp only [put_rules]))
  (refine wpAnyH_take (i := 7) (v := ?_) rfl (by kernel_rfl) (by kernel_rfl) (by kernel_rfl) (fun _ _ _ h => h) (Or.inl ⟨by rfl, ?_⟩) (by assumption) ?_; rotate_left; (focus (intro w hSw; (try dsimp only at hSw); go_simp; (try with_reducible rfl); done)); (try simp only [put_rules]))
  (refine wpAnyH_take (i := 8) (v := ?_) rfl (by kernel_rfl) (by kernel_rfl) (by kernel_rfl) (fun _ _ _ h => h) (Or.inl ⟨by rfl, ?_⟩) (by assumption) ?_; rotate_left; (focus (intro w hSw; (try dsimp only at hSw); go_simp; (try with_reducible rfl); done)); (try simp only [put_rules]))
  (refine wpAnyH_take (i := 9) (v := .slice (cutA A cap k 1) (m - k) (cap - k)) rfl (by kernel_rfl) (by kernel_rfl) (by kernel_rfl) (fun _ _ _ h => h) (Or.inl ⟨by rfl, fun _ _ => exec_slice_from rfl rfl rfl Try.underlying24 hi0 hz1 (by omega)⟩) (by assumption) ?_; (try simp only [put_rules]))
  (refine wpAnyH_take (i := 10) (v := ?_) rfl (by kernel_rfl) (by kernel_rfl) (by kernel_rfl) (fun _ _ _ h => h) (Or.inl ⟨by rfl, ?_⟩) (by assumption) ?_; rotate_left; (focus (intro w hSw; (try dsimp only at hSw); go_simp; (try with_reducible rfl); done)); (try simp only [put_rules]))
  (refine wpAnyH_done (by kernel_rfl) ?_ _)
  (try simp only [put_rules])
  go_wp2_with fail
  go_ret
  exact ⟨rfl, bdr (bb _)⟩

set_option maxHeartbeats 2000000 in
theorem splitOf1_any (x : Int) (rb : Nat) (R : Option Addr) (rc : Nat) (rs : List Int) (w : World) (c0 : w.cell? ⟨rb, 0, none⟩ = some (.slice R rs.length rc)) (hR : IntsAt w R rs) (hl : rs.length ≤ 1000) :
    Calls Try.prog 229 #[.int .i64 x, .pointer (some ⟨rb, 0, none⟩)] w fun e w' => e = .returned (.bool (!hasI rs x)) ∧ Below w.heap.size w w' := by
  have hc := Lib.hid (containsIA_any rs R rc x w hR (by omega))
  clear hR
  go_enter Try.func229, Try.ntmps229
  go_wp2_with fail
  refine hc.out.mono ?_
  rintro e w1 ⟨rfl, rfl⟩
  go_wp2_with fail
  go_ret
  exact ⟨rfl, bb _⟩
end Go.Proofs.Ytmikconjhmhekaa

/- Contracts: a Cnf with its left clauses, in the program: made. -/
namespace Go.Proofs.Ytmikconjhmhekaa
open Go.RowKit

set_option maxRecDepth 100000 in
set_option maxHeartbeats 4000000 in
theorem splitOfNo_any (vars : Int) (v : Value) (xss : List (List Int)) (k : Int) (F : List Nat) (w : World) (hx : (Ty.slice Ty.int).row false w v xss F) (hq : askB vars xss k = false) :
    Calls Try.prog 150 #[.agg #[.int .i64 vars, v], .int .i64 k] w fun e w' => e = .returned (.tuple #[.pointer none, .bool false]) ∧ Below w.heap.size w w' := by
  obtain ⟨A, cap, rfl, hI⟩ := cls_row hx
  have S0 := (Sp.start w).alloc_box #[.int .i64 vars, .slice A xss.length cap] 26
  have hcall := Lib.hid (implIsCnf_any vars _ xss F _ (Ty.row_below hx S0.below (Ty.row_lt hx)))
  replace S0 := Lib.hid S0
  have c0 := S0.out.cell (i := 0) rfl (o := 0) rfl
  have c1 := S0.out.cell (i := 0) rfl (o := 1) rfl
  unfold askB at hq
  have hin := Lib.hid (fun W => withinB (x := k) (lo := 0) (hi := xss.length) rfl W)
  generalize inB k 0 xss.length = q2 at *
  generalize goodB vars xss = q1 at *
  clear hx hI
  cases q1
  · clear hq hin
    go_enter Try.func150, Try.ntmps150
    go_wp2_with fail
    refine hcall.out.mono ?_
    rintro e w1 ⟨rfl, hb1⟩
    have hB := Lib.hid (S0.out.grow hb1).below
    clear hcall S0 c0 c1 hb1
    go_wp2_with fail
    go_ret2
    exact ⟨rfl, hB.out⟩
  · obtain rfl : q2 = false := by simpa using hq
    clear hq
    go_enter Try.func150, Try.ntmps150
    go_wp2_with fail
    refine hcall.out.mono ?_
    rintro e w1 ⟨rfl, hb1⟩
    have S1 := Lib.hid (S0.out.grow hb1)
    clear hcall S0 c0 c1 hb1
    have c1 := S1.out.cell (i := 0) rfl (o := 1) rfl
    go_wp2_with fail
    refine (hin.out _).mono ?_
    rintro e w2 ⟨rfl, hb2⟩
    have hB := Lib.hid (S1.out.grow hb2).below
    clear hin S1 c1 hb2
    go_wp2_with fail
    go_ret2
    exact ⟨rfl, hB.out⟩

/-- A split Cnf. -/
def SplitP (n : Nat) (A : Option Addr) (m cap k : Nat) (sh : List Int) (w : World) (e : Ending) (w' : World) : Prop :=
  ∃ sb B cc, e = .returned (.tuple #[.pointer (some ⟨sb, 0, none⟩), .bool true]) ∧ Sp w w' [Box sb 132 #[.int .i64 n, .slice A m cap, .int .i64 k, .slice B sh.length cc], Own 3 1 (.slice B sh.length cc) sh.length (sh.map (.int .i64))]

set_option maxRecDepth 100000 in
set_option maxHeartbeats 8000000 in
theorem splitOfYes_any (n : Nat) (A : Option Addr) (cap : Nat) (xss : List (List Int)) (k : Nat) (F : List Nat) (w : World) (hx : (Ty.slice Ty.int).row false w (.slice A xss.length cap) xss F) (hq : askB n xss k = true) :
    Calls Try.prog 150 #[.agg #[.int .i64 n, .slice A xss.length cap], .int .i64 k] w (SplitP n A xss.length cap k (varF n (bothL (xss.take k) (xss.drop k))) w) := by
  obtain ⟨A', cap', e1, hI⟩ := cls_row hx
  cases e1
  obtain ⟨_, _, e1, hcap, -⟩ := Ty.row_len hx
  cases e1
  obtain ⟨hg, -, hk1⟩ := ask_parts hq
  have hgc := good_cnf hg
  have hk : k ≤ xss.length := by omega
  have hn : n ≤ 12 := by omega
  have hl60 := hgc.2.1
  have S0 := (Sp.start w).alloc_box #[.int .i64 n, .slice A xss.length cap] 26
  have hcall := Lib.hid (implIsCnf_any n _ xss F _ (Ty.row_below hx S0.below (Ty.row_lt hx)))
  rw [hg] at hcall
  have hin := Lib.hid (fun W => withinB (x := k) (lo := 0) (hi := xss.length) (inB_true.2 ⟨by omega, hk1⟩) W)
  have hlit : ∀ c ∈ xss, ∀ l ∈ c, l ≠ 0 ∧ l.natAbs ≤ n := fun c hc l hl => by
    have := (clause_parts (hgc.2.2.1 c hc)).2.1 l hl
    omega
  have vL := Lib.hid (fun W (h : Below w.heap.size w W) => varsOf_any (xss.take k) (fun c hc => hgc.2.2.2 c (List.mem_of_mem_take hc)) n (fun c hc => hlit c (List.mem_of_mem_take hc)) (by rw [List.length_take]; omega) A cap W ((hI.grow h).to k))
  have vR := Lib.hid (fun W (h : Below w.heap.size w W) => varsOf_any (xss.drop k) (fun c hc => hgc.2.2.2 c (List.mem_of_mem_drop hc)) n (fun c hc => hlit c (List.mem_of_mem_drop hc)) (by rw [List.length_drop]; omega) (cutA A cap k 1) (cap - k) W ((hI.grow h).from k hcap))
  rw [show (xss.take k).length = k by rw [List.length_take]; omega] at vL
  rw [show (xss.drop k).length = xss.length - k by rw [List.length_drop]] at vR
  have hfin := Lib.hid (filt_both n (usedB (xss.take k)) (usedB (xss.drop k)))
  have oL := Lib.hid (varF_ok (n := n) (by omega) (p := usedB (xss.take k)))
  have oR := Lib.hid (varF_ok (n := n) (by omega) (p := usedB (xss.drop k)))
  have lL := varF_len n (usedB (xss.take k))
  have lR := varF_len n (usedB (xss.drop k))
  change Hid (_ = varF n (bothL (xss.take k) (xss.drop k))) at hfin
  generalize varF n (bothL (xss.take k) (xss.drop k)) = sh at *
  generalize varF n (usedB (xss.take k)) = ls at *
  generalize varF n (usedB (xss.drop k)) = rs at *
  obtain ⟨m, hm⟩ : ∃ m, xss.length = m := ⟨_, rfl⟩
  rw [hm] at S0 hcall hin vR hk hcap ⊢
  clear hm hx hI hg hk1 hgc hlit hq hl60
  have eg : Enter1 229 := enters_of Try.func229 (by kernel_rfl) rfl
  have c0 := S0.cell (i := 0) rfl (o := 0) rfl
  have c1 := S0.cell (i := 0) rfl (o := 1) rfl
  replace S0 := Lib.hid S0
  go_enter Try.func150, Try.ntmps150
  go_wp2_with fail
  refine hcall.out.mono ?_
  rintro e w1 ⟨rfl, hb1⟩
  have S1 := Lib.hid (S0.out.grow hb1)
  clear hcall S0 c0 c1 hb1
  have c0 := S1.out.cell (i := 0) rfl (o := 0) rfl
  have c1 := S1.out.cell (i := 0) rfl (o := 1) rfl
  go_wp2_with fail
  refine (hin.out _).mono ?_
  rintro e w2 ⟨rfl, hb2⟩
  have S2 := Lib.hid (S1.out.grow hb2)
  clear hin S1 c0 c1 hb2
  have c0 := S2.out.cell (i := 0) rfl (o := 0) rfl
  have c1 := S2.out.cell (i := 0) rfl (o := 1) rfl
  have S3 := S2.out.alloc_box #[.int .i64 n, .slice A m cap, .int .i64 k, .slice none 0 0] 132
  have d1 := S3.cell (i := 0) rfl (o := 1) rfl
  have d2 := S3.cell (i := 0) rfl (o := 2) rfl
  have hri := Lib.hid (right_any _ k m cap A _ d1 d2 hk hcap)
  obtain ⟨sb, hsb⟩ : ∃ s, w2.heap.size = s := ⟨_, rfl⟩
  rw [hsb] at S3 hri
  replace S3 := Lib.hid S3
  clear S2 d1 d2
  go_wp2_with fail
  refine hri.out.mono ?_
  rintro e w3 ⟨rfl, hb3⟩
  have S4 := Lib.hid (S3.out.grow hb3)
  clear S3 hri hb3 c0 c1 hsb
  have hvr := Lib.hid (vR.out w3 S4.out.below)
  clear vR
  go_wp2_with fail
  refine hvr.out.mono ?_
  rintro e w4 ⟨R, rc, rfl, TR⟩
  have S5 := (S4.out.seq TR).alloc_box #[.slice R rs.length rc] 30
  obtain ⟨rb, hrb⟩ : ∃ s, w4.heap.size = s := ⟨_, rfl⟩
  rw [hrb] at S5
  have d1 := S5.cell (i := 2) rfl (o := 1) rfl
  have d2 := S5.cell (i := 2) rfl (o := 2) rfl
  have hle := Lib.hid (left_any sb k m cap A _ d1 d2 (by omega))
  replace S5 := Lib.hid S5
  clear S4 TR hvr d1 d2
  go_wp2_with fail
  refine hle.out.mono ?_
  rintro e w5 ⟨rfl, hb5⟩
  have S6 := Lib.hid (S5.out.grow hb5)
  clear S5 hle hb5
  have hvl := Lib.hid (vL.out w5 S6.out.below)
  clear vL
  go_wp2_with fail
  refine hvl.out.mono ?_
  rintro e w6 ⟨L, lc, rfl, TL⟩
  have S7 : Sp w w6 [Own 3 1 (.slice L ls.length lc) ls.length (ls.map (.int .i64)), Box rb 30 #[.slice R rs.length rc], Own 3 1 (.slice R rs.length rc) rs.length (rs.map (.int .i64)), Box sb 132 #[.int .i64 n, .slice A m cap, .int .i64 k, .slice none 0 0], Box w.heap.size 26 #[.int .i64 n, .slice A m cap]] := S6.out.seq TL
  have hdel := Lib.hid (deleteFuncI_any (cb := #[.pointer (some ⟨rb, 0, none⟩)]) (p := fun x => !hasI rs x) (R := I64) eg ls L lc w w6 _ S7 oL.out (by omega) oL.out fun x ys W _ SW => splitOf1_any x rb R rc rs W (SW.cell (i := 1) rfl (o := 0) rfl) (SW.ints (i := 2) rfl oR.out) (by omega))
  rw [hfin.out] at hdel
  clear S6 S7 TL hvl hfin
  go_wp2_with fail
  refine hdel.out.mono ?_
  rintro e w7 ⟨rfl, S8, -⟩
  have k0 := S8.cell (i := 3) rfl (o := 3) rfl
  have f0 := S8.frozen (i := 3) rfl 3
  have S9 := S8.store (i := 3) rfl 3 (.slice L sh.length lc)
  have S10 := Lib.hid (S9.pick (qs := [Box sb 132 #[.int .i64 n, .slice A m cap, .int .i64 k, .slice L sh.length lc], Own 3 1 (.slice L sh.length lc) sh.length (sh.map (.int .i64))]) [3, 0] rfl)
  clear S8 S9 hdel hrb
  go_wp2_with fail
  go_ret2
  exact ⟨sb, L, lc, rfl, S10.out⟩
end Go.Proofs.Ytmikconjhmhekaa

/- Contract: the sides of a Cnf, in the program. -/
namespace Go.Proofs.Ytmikconjhmhekaa
open Go.RowKit

set_option maxHeartbeats 2000000 in
theorem sidesOf11_any (x : Int) (pb sb : Nat) (B : Option Addr) (sc : Nat) (sh : List Int) (w : World) (c0 : w.cell? ⟨pb, 0, none⟩ = some (.pointer (some ⟨sb, 0, none⟩))) (c3 : w.cell? ⟨sb, 3, none⟩ = some (.slice B sh.length sc)) (hS : IntsAt w B sh) (hl : sh.length ≤ 1000) :
    Calls Try.prog 153 #[.int .i64 x, .pointer (some ⟨pb, 0, none⟩)] w fun e w' => e = .returned (.bool (hasI sh x)) ∧ Below w.heap.size w w' := by
  have hc := Lib.hid (containsIA_any sh B sc x w hS (by omega))
  clear hS
  go_enter Try.func153, Try.ntmps153
  go_wp2_with fail
  refine hc.out.mono ?_
  rintro e w1 ⟨rfl, rfl⟩
  go_wp2_with fail
  go_ret
  exact ⟨rfl, bb _⟩

/-- A row of numbers of the call's own. -/
def OneI (w : World) (zs : List Int) (e : Ending) (w' : World) : Prop := ∃ D dc, e = .returned (.slice D zs.length dc) ∧ Sp w w' [Own 3 1 (.slice D zs.length dc) zs.length (zs.map (.int .i64))]
theorem cell_below {w w' : World} {a : Addr} {u : Value} (h : w.cell? a = some u) (hb : Below w.heap.size w w') : w'.cell? a = some u := (hb.cell (World.block_lt_of_cell? _ _ h)).trans h

set_option maxRecDepth 100000 in
set_option maxHeartbeats 4000000 in
theorem sidesOf1_any (cls : List (List Int)) (hc : ∀ c ∈ cls, ClS c) (n : Nat) (hn : ∀ c ∈ cls, ∀ l ∈ c, l ≠ 0 ∧ l.natAbs ≤ n) (hn1 : n ≤ 1000) (hl : cls.length ≤ 100) (A : Option Addr) (cap : Nat) (pb sb : Nat) (B : Option Addr) (sc : Nat) (sh : List Int) (hsl : sh.length ≤ 1000) (w : World) (hx : ClsAt w A cls)
    (c0 : w.cell? ⟨pb, 0, none⟩ = some (.pointer (some ⟨sb, 0, none⟩))) (c3 : w.cell? ⟨sb, 3, none⟩ = some (.slice B sh.length sc)) (hS : IntsAt w B sh) :
    Calls Try.prog 151 #[.slice A cls.length cap, .pointer (some ⟨pb, 0, none⟩)] w (OneI w ((varF n (usedB cls)).filter fun x => !hasI sh x)) := by
  have eg : Enter1 153 := enters_of Try.func153 (by kernel_rfl) rfl
  have hv := Lib.hid (varsOf_any cls hc n hn hl A cap w hx)
  have oL := Lib.hid (varF_ok (n := n) hn1 (p := usedB cls))
  have lL := varF_len n (usedB cls)
  have c0H := Lib.hid c0
  have c3H := Lib.hid c3
  have hSH := Lib.hid hS
  generalize varF n (usedB cls) = ls at *
  generalize cls.length = m at *
  obtain ⟨zs, hzs⟩ : ∃ zs, (ls.filter fun x => !hasI sh x) = zs := ⟨_, rfl⟩
  rw [hzs]
  replace hzs := Lib.hid hzs
  clear hx hc hn hS c0 c3
  go_enter Try.func151, Try.ntmps151
  go_wp2_with fail
  refine hv.out.mono ?_
  rintro e w1 ⟨L, lc, rfl, T⟩
  have hdel := Lib.hid (deleteFuncI_any (cb := #[.pointer (some ⟨pb, 0, none⟩)]) (p := fun x => hasI sh x) (R := I64) eg ls L lc w w1 _ T oL.out (by omega) oL.out fun x ys W _ SW => sidesOf11_any x pb sb B sc sh W (cell_below c0H.out SW.below) (cell_below c3H.out SW.below) (hSH.out.grow SW.below) hsl)
  rw [hzs.out] at hdel
  clear hv T c0H c3H hSH oL
  go_wp2_with fail
  refine hdel.out.mono ?_
  rintro e w2 ⟨rfl, S8, -⟩
  replace S8 := Lib.hid S8
  go_wp2_with fail
  go_ret
  exact ⟨L, lc, rfl, S8.out⟩

set_option maxRecDepth 100000 in
set_option maxHeartbeats 8000000 in
theorem implSidesOf_any (vars : Int) (v : Value) (xss : List (List Int)) (k : Int) (F : List Nat) (w : World) (hx : (Ty.slice Ty.int).row false w v xss F) :
    Calls Try.prog 61 #[.agg #[.int .i64 vars, v], .int .i64 k] w (Ints4 w (askB vars xss k) (sideL vars xss k (xss.take k.toNat) (xss.drop k.toNat)) (sideL vars xss k (xss.drop k.toNat) (xss.take k.toNat)) (sideB vars xss k (xss.take k.toNat) (xss.drop k.toNat))) := by
  obtain ⟨A, cap, rfl, hI⟩ := cls_row hx
  obtain ⟨_, _, e1, hcap, -⟩ := Ty.row_len hx
  cases e1
  have S0 := (Sp.start w).alloc_box #[.int .i64 vars, .slice A xss.length cap] 26
  have hx2 := Ty.row_below hx S0.below (Ty.row_lt hx)
  replace S0 := Lib.hid S0
  have c0 := S0.out.cell (i := 0) rfl (o := 0) rfl
  have c1 := S0.out.cell (i := 0) rfl (o := 1) rfl
  unfold sideL sideB
  cases h1 : askB vars xss k
  · have hcall := Lib.hid (splitOfNo_any vars _ xss k F _ hx2 h1)
    simp only [Bool.false_eq_true, if_false]
    clear hI hcap h1 hx hx2
    go_enter Try.func61, Try.ntmps61
    go_wp2_with fail
    refine hcall.out.mono ?_
    rintro e w1 ⟨rfl, hb1⟩
    have hB := Lib.hid ((S0.out.grow hb1).alloc (.cells #[.pointer none] 127)).below
    clear hcall S0 c0 c1 hb1
    go_wp2_with fail
    exact bodyPost_ret (v := .tuple #[.slice none 0 0, .slice none 0 0, .slice none 0 0, .bool false]) (by simp [results, Try.results61, go_sem]) rfl ⟨_, _, _, _, _, _, rfl, IntsAt.nil _ _, IntsAt.nil _ _, IntsAt.nil _ _, hB.out⟩
  · simp only [if_true]
    obtain ⟨hg, hk0, hk1⟩ := ask_parts h1
    have hgc := good_cnf hg
    obtain ⟨n, rfl⟩ := Int.eq_ofNat_of_zero_le hgc.1.1
    obtain ⟨k, rfl⟩ := Int.eq_ofNat_of_zero_le hk0
    rw [show ((n : Int)).toNat = n by omega, show ((k : Int)).toNat = k by omega]
    have hk : k ≤ xss.length := by omega
    have hn : n ≤ 12 := by omega
    have hl60 := hgc.2.1
    have hsp := Lib.hid (splitOfYes_any n A cap xss k F _ hx2 h1)
    have hlit : ∀ c ∈ xss, ∀ l ∈ c, l ≠ 0 ∧ l.natAbs ≤ n := fun c hc l hl => by
      have := (clause_parts (hgc.2.2.1 c hc)).2.1 l hl
      omega
    have lS := varF_len n (bothL (xss.take k) (xss.drop k))
    have vL := fun pb sb B sc W (h : Below w.heap.size w W) => sidesOf1_any (xss.take k) (fun c hc => hgc.2.2.2 c (List.mem_of_mem_take hc)) n (fun c hc => hlit c (List.mem_of_mem_take hc)) (by omega) (by rw [List.length_take]; omega) A cap pb sb B sc (varF n (bothL (xss.take k) (xss.drop k))) (by omega) W ((hI.grow h).to k)
    have vR := fun pb sb B sc W (h : Below w.heap.size w W) => sidesOf1_any (xss.drop k) (fun c hc => hgc.2.2.2 c (List.mem_of_mem_drop hc)) n (fun c hc => hlit c (List.mem_of_mem_drop hc)) (by omega) (by rw [List.length_drop]; omega) (cutA A cap k 1) (cap - k) pb sb B sc (varF n (bothL (xss.take k) (xss.drop k))) (by omega) W ((hI.grow h).from k hcap)
    rw [show (xss.take k).length = k by rw [List.length_take]; omega] at vL
    rw [show (xss.drop k).length = xss.length - k by rw [List.length_drop]] at vR
    have e1 : ((varF n (usedB (xss.take k))).filter fun x => !hasI (varF n (bothL (xss.take k) (xss.drop k))) x) = varF n (onlyL (xss.take k) (xss.drop k)) := filt_only n _ _
    have e2 : ((varF n (usedB (xss.drop k))).filter fun x => !hasI (varF n (bothL (xss.take k) (xss.drop k))) x) = varF n (onlyL (xss.drop k) (xss.take k)) := by
      rw [show varF n (bothL (xss.take k) (xss.drop k)) = varF n (fun v => usedB (xss.drop k) v && usedB (xss.take k) v) from varF_congr fun v _ _ => Bool.and_comm _ _]
      exact filt_only n _ _
    rw [e1] at vL
    rw [e2] at vR
    have vL2 := Lib.hid vL
    have vR2 := Lib.hid vR
    have oa := Lib.hid (varF_ok (n := n) (by omega) (p := onlyL (xss.take k) (xss.drop k)))
    have ob := Lib.hid (varF_ok (n := n) (by omega) (p := onlyL (xss.drop k) (xss.take k)))
    have oc := Lib.hid (varF_ok (n := n) (by omega) (p := bothL (xss.take k) (xss.drop k)))
    clear e1 e2 vL vR
    generalize varF n (onlyL (xss.take k) (xss.drop k)) = la at *
    generalize varF n (onlyL (xss.drop k) (xss.take k)) = lb at *
    generalize varF n (bothL (xss.take k) (xss.drop k)) = sh at *
    obtain ⟨m, hm⟩ : ∃ m, xss.length = m := ⟨_, rfl⟩
    rw [hm] at S0 c1 hsp vR2 hk hcap ⊢
    clear hI h1 hg hk0 hk1 hgc hm hx hx2 hlit hl60
    go_enter Try.func61, Try.ntmps61
    go_wp2_with fail
    refine hsp.out.mono ?_
    rintro e w1 ⟨sb, B, sc, rfl, T1⟩
    have S2 := (S0.out.seq T1).alloc_box #[.pointer (some ⟨sb, 0, none⟩)] 127
    obtain ⟨pb, hpb⟩ : ∃ p, w1.heap.size = p := ⟨_, rfl⟩
    rw [hpb] at S2
    have S3 := Lib.hid S2.drew
    clear S0 T1 hsp S2 c0 c1
    have d0 := S3.out.cell (i := 0) rfl (o := 0) rfl
    have d1 := S3.out.cell (i := 1) rfl (o := 1) rfl
    have d2 := S3.out.cell (i := 1) rfl (o := 2) rfl
    have d3 := S3.out.cell (i := 1) rfl (o := 3) rfl
    go_wp2_with fail
    refine wp_region_held_lit (S := (fun w' => w'.cell? ⟨pb, 0, none⟩ = some (.pointer (some ⟨sb, 0, none⟩)) ∧ w'.cell? ⟨sb, 1, none⟩ = some (.slice A m cap) ∧ w'.cell? ⟨sb, 2, none⟩ = some (.int .i64 k) ∧ w'.cell? ⟨sb, 3, none⟩ = some (.slice B sh.length sc))) 16 [false, false, false, false, false, false, false, false, false, false, false, false, false, false, false, false] (by kernel_rfl) (by kernel_rfl) (by kernel_rfl) ?_ ?_
    · exact ⟨d0, d1, d2, d3⟩
    intro hSc
    (refine wpAnyH_take (i := 0) (v := ?_) rfl (by kernel_rfl) (by kernel_rfl) (by kernel_rfl) (fun _ _ _ h => h) (Or.inl ⟨by rfl, ?_⟩) (by assumption) ?_; rotate_left; (focus (intro w hSw; (try dsimp only at hSw); go_simp; (try with_reducible rfl); done)); (try simp only [put_rules]))
    (refine wpAnyH_take (i := 1) (v := ?_) rfl (by kernel_rfl) (by kernel_rfl) (by kernel_rfl) (fun _ _ _ h => h) (Or.inl ⟨by rfl, ?_⟩) (by assumption) ?_; rotate_left; (focus (intro w hSw; (try dsimp only at hSw); go_simp; (try with_reducible rfl); done)); (try simp only [put_rules]))
    (refine wpAnyH_take (i := 4) (v := ?_) rfl (by kernel_rfl) (by kernel_rfl) (by kernel_rfl) (fun _ _ _ h => h) (Or.inl ⟨by rfl, ?_⟩) (by assumption) ?_; rotate_left; (focus (intro w hSw; (try dsimp only at hSw); go_simp; (try with_reducible rfl); done)); (try simp only [put_rules]))
    (refine wpAnyH_take (i := 5) (v := ?_) rfl (by kernel_rfl) (by kernel_rfl) (by kernel_rfl) (fun _ _ _ h => h) (Or.inl ⟨by rfl, ?_⟩) (by assumption) ?_; rotate_left; (focus (intro w hSw; (try dsimp only at hSw); go_simp; (try with_reducible rfl); done)); (try simp only [put_rules]))
    (refine wpAnyH_take (i := 8) (v := ?_) rfl (by kernel_rfl) (by kernel_rfl) (by kernel_rfl) (fun _ _ _ h => h) (Or.inl ⟨by rfl, ?_⟩) (by assumption) ?_; rotate_left; (focus (intro w hSw; (try dsimp only at hSw); go_simp; (try with_reducible rfl); done)); (try simp only [put_rules]))
    (refine wpAnyH_take (i := 9) (v := ?_) rfl (by kernel_rfl) (by kernel_rfl) (by kernel_rfl) (fun _ _ _ h => h) (Or.inl ⟨by rfl, ?_⟩) (by assumption) ?_; rotate_left; (focus (intro w hSw; (try dsimp only at hSw); go_simp; (try with_reducible rfl); done)); (try simp only [put_rules]))
    (refine wpAnyH_take (i := 10) (v := ?_) rfl (by kernel_rfl) (by kernel_rfl) (by kernel_rfl) (fun _ _ _ h => h) (Or.inl ⟨by rfl, ?_⟩) (by assumption) ?_; rotate_left; (focus (intro w hSw; (try dsimp only at hSw); go_simp; (try with_reducible rfl); done)); (try simp only [put_rules]))
    (refine wpAnyH_take (i := 11) (v := ?_) rfl (by kernel_rfl) (by kernel_rfl) (by kernel_rfl) (fun _ _ _ h => h) (Or.inl ⟨by rfl, ?_⟩) (by assumption) ?_; rotate_left; (focus (intro w hSw; (try dsimp only at hSw); go_simp; (try with_reducible rfl); done)); (try simp only [put_rules]))
    have hle := Lib.hid (left_any sb k m cap A _ d1 d2 (by omega))
    clear d0 d1 d2 d3
    (refine wpAnyH_ready (rs := [2]) (by kernel_rfl) (by simp) ?_; refine AllReadyH.cons rfl (fun K hK => ?_) AllReadyH.nil)
    go_simp
    go_at_call 155
    refine hle.out.mono ?_
    rintro e w3 ⟨rfl, hb3⟩
    have S4 := Lib.hid (S3.out.grow hb3)
    clear S3 hle hb3
    go_wp2_with fail
    refine hK.out _ _ ⟨S4.out.cell (i := 0) rfl (o := 0) rfl, S4.out.cell (i := 1) rfl (o := 1) rfl, S4.out.cell (i := 1) rfl (o := 2) rfl, S4.out.cell (i := 1) rfl (o := 3) rfl⟩ (fun hS2 => ?_)
    clear hK hSc
    (try simp only [put_rules])
    (refine wpAnyH_ready (rs := [3]) (by kernel_rfl) (by simp) ?_; refine AllReadyH.cons rfl (fun K hK => ?_) AllReadyH.nil)
    go_simp
    refine (vL2.out pb sb B sc w3 S4.out.below (S4.out.cell (i := 0) rfl (o := 0) rfl) (S4.out.cell (i := 1) rfl (o := 3) rfl) (S4.out.ints (i := 2) rfl oc.out)).mono ?_
    rintro e w4 ⟨D, dc, rfl, T4⟩
    have S5 := Lib.hid (S4.out.seq T4)
    clear S4 T4 vL2
    go_wp2_with fail
    refine hK.out _ _ ⟨S5.out.cell (i := 1) rfl (o := 0) rfl, S5.out.cell (i := 2) rfl (o := 1) rfl, S5.out.cell (i := 2) rfl (o := 2) rfl, S5.out.cell (i := 2) rfl (o := 3) rfl⟩ (fun hS3 => ?_)
    clear hK hS2
    (try simp only [put_rules])
    have hri := Lib.hid (right_any sb k m cap A w4 (S5.out.cell (i := 2) rfl (o := 1) rfl) (S5.out.cell (i := 2) rfl (o := 2) rfl) hk hcap)
    (refine wpAnyH_ready (rs := [6]) (by kernel_rfl) (by simp) ?_; refine AllReadyH.cons rfl (fun K hK => ?_) AllReadyH.nil)
    go_simp
    go_at_call 156
    refine hri.out.mono ?_
    rintro e w5 ⟨rfl, hb5⟩
    have S6 := Lib.hid (S5.out.grow hb5)
    clear S5 hri hb5
    go_wp2_with fail
    refine hK.out _ _ ⟨S6.out.cell (i := 1) rfl (o := 0) rfl, S6.out.cell (i := 2) rfl (o := 1) rfl, S6.out.cell (i := 2) rfl (o := 2) rfl, S6.out.cell (i := 2) rfl (o := 3) rfl⟩ (fun hS4 => ?_)
    clear hK hS3
    (try simp only [put_rules])
    (refine wpAnyH_ready (rs := [7]) (by kernel_rfl) (by simp) ?_; refine AllReadyH.cons rfl (fun K hK => ?_) AllReadyH.nil)
    go_simp
    refine (vR2.out pb sb B sc w5 S6.out.below (S6.out.cell (i := 1) rfl (o := 0) rfl) (S6.out.cell (i := 2) rfl (o := 3) rfl) (S6.out.ints (i := 3) rfl oc.out)).mono ?_
    rintro e w6 ⟨E, ec, rfl, T6⟩
    have S7 := Lib.hid (S6.out.seq T6)
    clear S6 T6 vR2
    go_wp2_with fail
    refine hK.out _ _ ⟨S7.out.cell (i := 2) rfl (o := 0) rfl, S7.out.cell (i := 3) rfl (o := 1) rfl, S7.out.cell (i := 3) rfl (o := 2) rfl, S7.out.cell (i := 3) rfl (o := 3) rfl⟩ (fun hS5 => ?_)
    clear hK hS4
    (try simp only [put_rules])
    (refine wpAnyH_take (i := 12) (v := ?_) rfl (by kernel_rfl) (by kernel_rfl) (by kernel_rfl) (fun _ _ _ h => h) (Or.inl ⟨by rfl, ?_⟩) (by assumption) ?_; rotate_left; (focus (intro w hSw; (try dsimp only at hSw); go_simp; (try with_reducible rfl); done)); (try simp only [put_rules]))
    (refine wpAnyH_take (i := 13) (v := ?_) rfl (by kernel_rfl) (by kernel_rfl) (by kernel_rfl) (fun _ _ _ h => h) (Or.inl ⟨by rfl, ?_⟩) (by assumption) ?_; rotate_left; (focus (intro w hSw; (try dsimp only at hSw); go_simp; (try with_reducible rfl); done)); (try simp only [put_rules]))
    (refine wpAnyH_take (i := 14) (v := ?_) rfl (by kernel_rfl) (by kernel_rfl) (by kernel_rfl) (fun _ _ _ h => h) (Or.inl ⟨by rfl, ?_⟩) (by assumption) ?_; rotate_left; (focus (intro w hSw; (try dsimp only at hSw); go_simp; (try with_reducible rfl); done)); (try simp only [put_rules]))
    (refine wpAnyH_take (i := 15) (v := ?_) rfl (by kernel_rfl) (by kernel_rfl) (by kernel_rfl) (fun _ _ _ h => h) (Or.inl ⟨by rfl, ?_⟩) (by assumption) ?_; rotate_left; (focus (intro w hSw; (try dsimp only at hSw); go_simp; (try with_reducible rfl); done)); (try simp only [put_rules]))
    (refine wpAnyH_done (by kernel_rfl) ?_ _)
    (try simp only [put_rules])
    have i1 := Lib.hid (S7.out.ints (i := 1) rfl oa.out)
    have i2 := Lib.hid (S7.out.ints (i := 0) rfl ob.out)
    have i3 := Lib.hid (S7.out.ints (i := 4) rfl oc.out)
    have hB := Lib.hid S7.out.below
    clear S7 hS5
    go_wp2_with fail
    exact bodyPost_ret (v := .tuple #[.slice D la.length dc, .slice E lb.length ec, .slice B sh.length sc, .bool true]) (by simp [results, Try.results61, go_sem]) rfl ⟨D, dc, E, ec, B, sc, rfl, i1.out, i2.out, i3.out, hB.out⟩
end Go.Proofs.Ytmikconjhmhekaa

/- Memory in parts beside a cursor that turns: rows of rows. -/
namespace Go.Proofs.Ytmikconjhmhekaa
open Go.RowKit

/-- An own row of numbers is a row with all that it reaches. -/
theorem Sp.own_to_row {w0 w : World} {ps : List Asn} {e : TypeId} {v : Value} {c : List Int} (h : Sp w0 w (Own e 1 v c.length (c.map (.int .i64)) :: ps)) (hok : ∀ x ∈ c, I64 x) : Sp w0 w (Row Ty.int v c :: ps) := by
  obtain ⟨F, ⟨rfl, ho⟩, _, hall⟩ := h.upd (i := 0) rfl
  obtain ⟨F, hr, hF, _⟩ := Ty.row_of_owns (T := Ty.int) ho rfl (by decide) (Ty.all_int hok)
  refine hall w (Row Ty.int v c) F (Chg.refl _ _) ⟨hr, ?_⟩ fun b hb => .inl ?_
  · rcases hF with rfl | ⟨g, _, _, _, rfl⟩ <;> simp
  · rcases hF with rfl | ⟨g, _, _, hg, rfl⟩
    · simp at hb
    · simp [hg] at hb ⊢; exact hb
section
variable {w0 w w' w1 : World} {g cl cc A i : Nat} {ca : Option Addr} {ps : List Asn} {e : TypeId}
theorem CS.own_to_row {v : Value} {c : List Int} (h : CS w0 g ca cl cc A w (Own e 1 v c.length (c.map (.int .i64)) :: ps)) (hok : ∀ x ∈ c, I64 x) : CS w0 g ca cl cc A w (Row Ty.int v c :: ps) := by
  obtain ⟨F, ⟨rfl, ho⟩, _, hall⟩ := h.upd (i := 0) rfl
  obtain ⟨F, hr, hF, _⟩ := Ty.row_of_owns (T := Ty.int) ho rfl (by decide) (Ty.all_int hok)
  refine hall w (Row Ty.int v c) F (Chg.refl _ _) ⟨hr, ?_⟩ fun b hb => .inl ?_
  · rcases hF with rfl | ⟨g, _, _, _, rfl⟩ <;> simp
  · rcases hF with rfl | ⟨g, _, _, hg, rfl⟩
    · simp at hb
    · simp [hg] at hb ⊢; exact hb
variable {α : Type} {T : Ty α} {v v' u : Value} {cs : List Value} {xss : List (List α)} {ys : List α}
theorem CS.rows (h : CS w0 g ca cl cc A w ps) (hi : ps[i]? = some (Rows T e v cs xss)) : w.ownsRow 0 e 1 v xss.length cs := by
  obtain ⟨F, ⟨G, _, _, _, h⟩, _⟩ := h.get hi
  exact h
theorem CS.rows_made (h : CS w0 g ca cl cc A w ps) (T : Ty α) (e : TypeId) : CS w0 g ca cl cc A (w.alloc (.cells #[] e)) (Rows T e (.slice (some ⟨w.heap.size, 0, none⟩) 0 0) [] [] :: ps) :=
  h.new (F := [w.heap.size]) (bal (bb _) _) ⟨[], rfl, by simp, ⟨rfl, rfl⟩, ⟨by simp, .inr ⟨w.heap.size, 0, #[], rfl, Nat.zero_le _, heap_alloc_new w _, Nat.le_refl _, by decide, by simp, by simp⟩⟩⟩ (by simp)
/-- A row goes into a row of rows. -/
theorem CS.rows_push (h : CS w0 g ca cl cc A w (Row T u ys :: Rows T e v cs xss :: ps)) (hb : Below w.heap.size w w1) (ho : w'.ownsRow 0 e 1 v' (xss.length + 1) (cs ++ [u])) (hg : w1.grownBy w' v.ownBlock)
    (hat : v'.ownBlock = v.ownBlock ∨ v'.ownBlock = some w1.heap.size) : CS w0 g ca cl cc A w' (Rows T e v' (cs ++ [u]) (xss ++ [ys]) :: ps) := by
  have hsz := h.chg.size
  obtain ⟨⟨A0, h0'⟩, hcur, h1, F, ⟨F1, F2, rfl, hd, ⟨hr, hn⟩, ⟨F3, F4, rfl, hd', ⟨G, rfl, hn', hall, hown⟩, h5⟩⟩, h3⟩ := h
  have hr1 := Ty.row_keep hr fun b hm => hb.block b (Ty.row_lt hr b hm)
  have hall1 := Ty.all_keep hall fun b hm => hb.block b (Ty.all_lt hall b hm)
  have h51 := sep_keep h5 fun b hm => hb.block b (sep_lt h5 b hm)
  have hkeep : ∀ b, b < w.heap.size → (∀ g, v.ownBlock = some g → b ≠ g) → w'.heap[b]? = w1.heap[b]? := fun b hlt hne => hg.block b (Nat.lt_of_lt_of_le hlt hb.size) (fun e => hne b e.symm rfl)
  have hr2 := Ty.row_keep hr1 fun b hm => hkeep b (Ty.row_lt hr b hm) fun g hg' e => hd b hm (by simp [hg', e])
  have hnG : ∀ b ∈ G, ∀ g, v.ownBlock = some g → b ≠ g := fun b hm g hg' e => by
    rw [List.nodup_append] at hn'
    exact hn'.2.2 g (by simp [hg']) b hm e.symm
  have hall2 := Ty.all_keep hall1 fun b hm => hkeep b (Ty.all_lt hall b hm) (hnG b hm)
  have h52 := sep_keep h51 fun b hm => hkeep b (sep_lt h5 b hm) fun g hg' e => hd' b (by simp [hg', e]) hm
  have hlv : ∀ b ∈ v'.ownBlock.toList, b ∈ v.ownBlock.toList ∨ b = w1.heap.size := fun b hm => by
    rcases hat with h | h
    · left; rwa [h] at hm
    · right; rw [h] at hm; simpa using hm
  have hs := hb.size
  have hold : ∀ k, k < w0.heap.size → w'.heap[k]? = w.heap[k]? := fun k hk => (hkeep k (by omega) fun g hg' e => by have := h3 g (by simp [hg']); omega).trans (hb.block k (by omega))
  have hchg : Chg [g] w0 w' := ⟨hg.os.trans (hb.os.trans h1.os), hg.tape.trans (hb.tape.trans h1.tape), hg.output.trans (hb.output.trans h1.output), by have := hg.size; omega, fun k hk hn => (hold k hk).trans (h1.block k hk hn)⟩
  refine ⟨⟨A0, h0'⟩, h0'.stay hcur hold, hchg, (v'.ownBlock.toList ++ (G ++ F1)) ++ F4, ⟨_, F4, rfl, ?_, ⟨G ++ F1, rfl, ?_, ?_, by simpa using ho⟩, h52⟩, ?_⟩
  · intro b hm hm4
    rcases List.mem_append.1 hm with hm | hm
    · rcases hlv b hm with h | h
      · exact hd' b (List.mem_append.2 (.inl h)) hm4
      · have := sep_lt h5 b hm4; omega
    · rcases List.mem_append.1 hm with hm | hm
      · exact hd' b (List.mem_append.2 (.inr hm)) hm4
      · exact hd b hm (List.mem_append.2 (.inr hm4))
  · refine List.nodup_append.2 ⟨by cases v'.ownBlock <;> simp, List.nodup_append.2 ⟨(List.nodup_append.1 hn').2.1, hn, fun x hx y hy e => hd y hy (by simp [← e, hx])⟩, fun x hx y hy e => ?_⟩
    subst e
    rcases hlv x hx with h | h
    · rcases List.mem_append.1 hy with hy | hy
      · exact (List.nodup_append.1 hn').2.2 x h x hy rfl
      · exact hd x hy (List.mem_append.2 (.inl (List.mem_append.2 (.inl h))))
    · rcases List.mem_append.1 hy with hy | hy
      · have := Ty.all_lt hall x hy; omega
      · have := Ty.row_lt hr x hy; omega
  · exact Ty.all_snoc hall2 ⟨u, rfl, hr2⟩
  · intro b hm
    rcases List.mem_append.1 hm with hm | hm
    · rcases List.mem_append.1 hm with hm | hm
      · rcases hlv b hm with h | h
        · exact h3 b (by simp at h ⊢; simp [h])
        · omega
      · rcases List.mem_append.1 hm with hm | hm
        · exact h3 b (by simp [hm])
        · exact h3 b (by simp [hm])
    · exact h3 b (by simp [hm])
/-- The finished row of rows. -/
theorem CS.rows_done (h : CS w0 g ca cl cc A w ps) (hi : ps[i]? = some (Rows T e v cs xss)) : ∃ F, (Ty.slice T).row true w v xss F ∧ F.Nodup ∧ (∀ b ∈ F, w0.heap.size ≤ b) := by
  obtain ⟨F, ⟨G, rfl, hn, hall, hown⟩, hF⟩ := h.get hi
  obtain ⟨F', hr, hF', _⟩ := Ty.row_of_owns hown rfl (by decide) hall
  rcases hF' with rfl | ⟨g, _, _, ho, rfl⟩
  · exact ⟨[], hr, by simp, by simp⟩
  · refine ⟨g :: G, hr, ?_, ?_⟩
    · rw [ho] at hn; simpa using hn
    · rw [ho] at hF; simpa using hF
end
end Go.Proofs.Ytmikconjhmhekaa

/- Contracts: counted models and the first one, in the program. -/
namespace Go.Proofs.Ytmikconjhmhekaa
open Go.RowKit

set_option maxRecDepth 100000 in
set_option maxHeartbeats 4000000 in
theorem countCnfModels_any (vars : Int) (v : Value) (xss : List (List Int)) (F : List Nat) (w : World) (hx : (Ty.slice Ty.int).row false w v xss F) (h1 : goodB vars xss = true) :
    Calls Try.prog 11 #[.agg #[.int .i64 vars, v]] w fun e w' => e = .returned (.tuple #[.int .i64 (cntP (modT xss) (2 ^ vars.toNat)), .bool true]) ∧ Below w.heap.size w w' := by
  obtain ⟨A, cap, rfl, hI⟩ := cls_row hx
  have hg := good_cnf h1
  obtain ⟨n, rfl⟩ := Int.eq_ofNat_of_zero_le hg.1.1
  rw [show (n : Int).toNat = n by omega]
  have hn : n ≤ 12 := by omega
  have hp := (pow12 hn).2
  have S0 := (Sp.start w).alloc_box #[.int .i64 n, .slice A xss.length cap] 26
  have hcall := Lib.hid (implIsCnf_any n _ xss F _ (Ty.row_below hx S0.below (Ty.row_lt hx)))
  have eg : Enter1 84 := enters_of Try.func84 (by kernel_rfl) rfl
  have hmod := Lib.hid (fun W (S : Sp w W [Box w.heap.size 26 #[.int .i64 n, .slice A xss.length cap]]) =>
    models_any (cb := #[.pointer (some ⟨W.heap.size, 0, none⟩)]) eg n hn xss hg.2.2.2 (by omega) A cap (W.alloc (.cells #[.int .i64 0] 3)) [W.heap.size] (by simp)
    (fun k V => Sp w V [Box W.heap.size 3 #[.int .i64 (cntP (modT xss) k)], Box w.heap.size 26 #[.int .i64 n, .slice A xss.length cap]])
    (S.alloc_box #[.int .i64 0] 3) (fun k V V' h hb => h.grow hb) (fun k V h => hI.grow h.below)
    (fun k V hm h => by rw [cntP_no hm]; exact h)
    (fun k V hk hm h => by
      have f0 := h.frozen (i := 0) rfl 0
      have c0 := h.cell (i := 0) rfl (o := 0) rfl
      have hcl := cntP_le (modT xss) k
      have hcn := Lib.hid (cntP_yes hm)
      have S1 := Lib.hid (h.store (i := 0) rfl 0 (.int .i64 ((cntP (modT xss) k : Int) + 1)))
      have hch := Lib.hid ((Chg.refl [W.heap.size] V).set (p := ⟨W.heap.size, 0, none⟩) (by simp) (.int .i64 ((cntP (modT xss) k : Int) + 1)))
      have hlt : k < 4096 := Nat.lt_of_lt_of_le hk hp
      generalize cntP (modT xss) k = c at *
      have hwc : IntKind.i64.wrap ((c : Int) + 1) = (c : Int) + 1 := IntWalk.i64_in _ (by omega)
      clear h hcl hk hm
      show Calls Try.prog 84 #[.int .i64 k, .pointer (some ⟨W.heap.size, 0, none⟩)] V _
      go_enter Try.func84, Try.ntmps84
      go_wp2_with fail
      go_ret
      exact ⟨true, rfl, hch.out, by rw [if_pos rfl, hcn.out]; exact S1.out⟩))
  replace S0 := Lib.hid S0
  have c0 := S0.out.cell (i := 0) rfl (o := 0) rfl
  have c1 := S0.out.cell (i := 0) rfl (o := 1) rfl
  rw [h1] at hcall
  clear eg hx hI hg h1
  generalize 2 ^ n = N at *
  go_enter Try.func11, Try.ntmps11
  go_wp2_with fail
  refine hcall.out.mono ?_
  rintro e w1 ⟨rfl, hb1⟩
  have S1 := Lib.hid (S0.out.grow hb1)
  have SA := S1.out.alloc_box #[.int .i64 0] 3
  have d0 := SA.cell (i := 1) rfl (o := 0) rfl
  have d1 := SA.cell (i := 1) rfl (o := 1) rfl
  clear SA
  have hm2 := Lib.hid (hmod.out _ S1.out)
  clear hcall hmod S0 S1 c0 c1 hb1
  go_wp2_with fail
  refine hm2.out.mono ?_
  rintro e w2 ⟨rfl, S2⟩
  have d2 := S2.cell (i := 0) rfl (o := 0) rfl
  have hB := S2.below
  clear hm2 S2 d0 d1
  go_wp2_with fail
  go_ret2
  exact ⟨rfl, hB⟩

set_option maxHeartbeats 2000000 in
theorem countCnfNo_any (vars : Int) (v : Value) (xss : List (List Int)) (F : List Nat) (w : World) (hx : (Ty.slice Ty.int).row false w v xss F) (h1 : goodB vars xss = false) :
    Calls Try.prog 11 #[.agg #[.int .i64 vars, v]] w fun e w' => e = .returned (.tuple #[.int .i64 0, .bool false]) ∧ Below w.heap.size w w' := by
  obtain ⟨A, cap, rfl, hI⟩ := cls_row hx
  have S0 := (Sp.start w).alloc_box #[.int .i64 vars, .slice A xss.length cap] 26
  have hcall := Lib.hid (implIsCnf_any vars _ xss F _ (Ty.row_below hx S0.below (Ty.row_lt hx)))
  replace S0 := Lib.hid S0
  have c0 := S0.out.cell (i := 0) rfl (o := 0) rfl
  have c1 := S0.out.cell (i := 0) rfl (o := 1) rfl
  rw [h1] at hcall
  clear hx hI h1
  go_enter Try.func11, Try.ntmps11
  go_wp2_with fail
  refine hcall.out.mono ?_
  rintro e w1 ⟨rfl, hb1⟩
  have hB := Lib.hid (S0.out.grow hb1).below
  clear hcall S0 c0 c1 hb1
  go_wp2_with fail
  go_ret2
  exact ⟨rfl, hB.out⟩

theorem idx_next {p : Nat → Bool} {k : Nat} (h : p k = false) : idxP p (List.range (k + 1)) = idxP p (List.range k) := by
  unfold idxP
  rw [rany_next, h, Bool.or_false]
  cases ha : (List.range k).any p
  · rfl
  · rw [if_pos rfl, if_pos rfl, List.range_succ, List.findIdx_append, if_pos (List.findIdx_lt_length_of_exists (by simpa using List.any_eq_true.1 ha))]

set_option maxRecDepth 100000 in
set_option maxHeartbeats 4000000 in
theorem firstModel_any (vars : Int) (v : Value) (xss : List (List Int)) (F : List Nat) (w : World) (hx : (Ty.slice Ty.int).row false w v xss F) :
    Calls Try.prog 16 #[.agg #[.int .i64 vars, v]] w fun e w' => e = .returned (.tuple #[.int .i64 (if goodB vars xss && (List.range (2 ^ vars.toNat)).any (modT xss) then idxP (modT xss) (List.range (2 ^ vars.toNat)) else 0), .bool (goodB vars xss && (List.range (2 ^ vars.toNat)).any (modT xss))]) ∧ Below w.heap.size w w' := by
  obtain ⟨A, cap, rfl, hI⟩ := cls_row hx
  have S0 := (Sp.start w).alloc_box #[.int .i64 vars, .slice A xss.length cap] 26
  have hcall := Lib.hid (implIsCnf_any vars _ xss F _ (Ty.row_below hx S0.below (Ty.row_lt hx)))
  replace S0 := Lib.hid S0
  have c0 := S0.out.cell (i := 0) rfl (o := 0) rfl
  have c1 := S0.out.cell (i := 0) rfl (o := 1) rfl
  clear hx
  cases h1 : goodB vars xss
  · rw [h1] at hcall
    go_enter Try.func16, Try.ntmps16
    go_wp2_with fail
    refine hcall.out.mono ?_
    rintro e w1 ⟨rfl, hb1⟩
    have hB := Lib.hid (S0.out.grow hb1).below
    clear hcall S0 c0 c1 hb1
    go_wp2_with fail
    go_ret2
    exact ⟨rfl, hB.out⟩
  have hg := good_cnf h1
  obtain ⟨n, rfl⟩ := Int.eq_ofNat_of_zero_le hg.1.1
  rw [show (n : Int).toNat = n by omega]
  have hn : n ≤ 12 := by omega
  have hp := (pow12 hn).2
  have eg : Enter1 89 := enters_of Try.func89 (by kernel_rfl) rfl
  have hmod := Lib.hid (fun W (S : Sp w W [Box w.heap.size 26 #[.int .i64 n, .slice A xss.length cap]]) =>
    models_any (cb := #[.pointer (some ⟨W.heap.size, 0, none⟩)]) eg n hn xss hg.2.2.2 (by omega) A cap (W.alloc (.cells #[.int .i64 (-1)] 3)) [W.heap.size] (by simp)
    (fun k V => (k < 2 ^ n → (List.range k).any (modT xss) = false) ∧ Sp w V [Box W.heap.size 3 #[.int .i64 (idxP (modT xss) (List.range k))], Box w.heap.size 26 #[.int .i64 n, .slice A xss.length cap]])
    ⟨fun _ => rfl, S.alloc_box #[.int .i64 (-1)] 3⟩ (fun k V V' h hb => ⟨h.1, h.2.grow hb⟩) (fun k V h => hI.grow h.2.below)
    (fun k V hm h => ⟨fun hk => by rw [rany_next, h.1 (by omega), hm]; rfl, by rw [idx_next hm]; exact h.2⟩)
    (fun k V hk hm hh => by
      obtain ⟨hno, h⟩ := hh
      have f0 := h.frozen (i := 0) rfl 0
      have c0 := h.cell (i := 0) rfl (o := 0) rfl
      have hid := Lib.hid (first_at hk (hno hk) hm)
      have S1 := Lib.hid (h.store (i := 0) rfl 0 (.int .i64 k))
      have hch := Lib.hid ((Chg.refl [W.heap.size] V).set (p := ⟨W.heap.size, 0, none⟩) (by simp) (.int .i64 k))
      generalize idxP (modT xss) (List.range k) = z0 at *
      clear h hk hm hno
      show Calls Try.prog 89 #[.int .i64 k, .pointer (some ⟨W.heap.size, 0, none⟩)] V _
      go_enter Try.func89, Try.ntmps89
      go_wp2_with fail
      go_ret
      exact ⟨false, rfl, hch.out, ⟨fun hlt => absurd hlt (Nat.lt_irrefl _), by rw [hid.out]; exact S1.out⟩⟩))
  have hge := idxP_ge (modT xss) (List.range (2 ^ n))
  have hno := Lib.hid (fun h => first_no (p := modT xss) (N := 2 ^ n) h)
  rw [h1] at hcall
  rw [Bool.true_and]
  clear eg hI hg h1
  generalize (List.range (2 ^ n)).any (modT xss) = q at *
  generalize idxP (modT xss) (List.range (2 ^ n)) = z at *
  generalize 2 ^ n = N at *
  go_enter Try.func16, Try.ntmps16
  go_wp2_with fail
  refine hcall.out.mono ?_
  rintro e w1 ⟨rfl, hb1⟩
  have S1 := Lib.hid (S0.out.grow hb1)
  have SA := S1.out.alloc_box #[.int .i64 (-1)] 3
  have d0 := SA.cell (i := 1) rfl (o := 0) rfl
  have d1 := SA.cell (i := 1) rfl (o := 1) rfl
  clear SA
  have hm2 := Lib.hid (hmod.out _ S1.out)
  clear hcall hmod S0 S1 c0 c1 hb1
  go_wp2_with fail
  refine hm2.out.mono ?_
  rintro e w2 ⟨rfl, -, S2⟩
  have d2 := S2.cell (i := 0) rfl (o := 0) rfl
  have hB := S2.below
  clear hm2 S2 d0 d1
  cases q
  · have hz : z < 0 := by have := of_decide_eq_false hge; omega
    have dz : decide (z < 0) = true := decide_eq_true hz
    go_wp2_with fail
    go_ret2
    exact ⟨rfl, hB⟩
  · have hz : ¬ z < 0 := by have := of_decide_eq_true hge; omega
    have dz : decide (z < 0) = false := decide_eq_false hz
    go_wp2_with fail
    go_ret2
    exact ⟨rfl, hB⟩
end Go.Proofs.Ytmikconjhmhekaa

/- Contract: a loop over all models with a closure that may turn blocks that it made. -/
namespace Go.Proofs.Ytmikconjhmhekaa
open Go.RowKit

set_option maxRecDepth 100000 in
set_option maxHeartbeats 4000000 in
theorem models2_any {g : FuncId} {cb : Array Value} (eg : Enter1 g) (n : Nat) (hn : n ≤ 12) (xss : List (List Int)) (hc : ∀ c ∈ xss, ClS c) (hl : xss.length ≤ 1000000) (A : Option Addr) (cap : Nat) (w : World)
    (P : Nat → World → Prop) (h0 : P 0 w) (hgrow : ∀ k w w', P k w → Below w.heap.size w w' → P k w') (hcls : ∀ k w, P k w → ClsAt w A xss)
    (hnot : ∀ k w, modT xss k = false → P k w → P (k + 1) w)
    (hstep : ∀ k W, w.heap.size < W.heap.size → k < 2 ^ n → modT xss k = true → P k W → Calls Try.prog g (#[.int .i64 k] ++ cb) W fun e w' => ∃ (q : Bool) (F : List Nat), e = .returned (.bool q) ∧ w.heap.size ∉ F ∧ Chg F W w' ∧ (if q then P (k + 1) w' else P (2 ^ n) w')) :
    Calls Try.prog 83 #[.agg #[.int .i64 n, .slice A xss.length cap], .func (.func g) #[] cb] w fun e w' => e = .returned (.tuple #[]) ∧ P (2 ^ n) w' := by
  unfold Enter1 at eg
  obtain ⟨hsh, hp⟩ := pow12 hn
  generalize 2 ^ n = N at *
  have c0 : (w.alloc (.cells #[.int .i64 n, .slice A xss.length cap] 26)).cell? ⟨w.heap.size, 0, none⟩ = some (.int .i64 n) := cell_of_row _ _ _ _ _ _ (heap_alloc_new w _)
  have c1 : (w.alloc (.cells #[.int .i64 n, .slice A xss.length cap] 26)).cell? ⟨w.heap.size, 1, none⟩ = some (.slice A xss.length cap) := cell_of_row _ _ _ _ _ _ (heap_alloc_new w _)
  have HP0 := Lib.hid (hgrow 0 w _ h0 (bal (bb w) (.cells #[.int .i64 n, .slice A xss.length cap] 26)))
  replace hgrow := Lib.hid hgrow
  replace hcls := Lib.hid hcls
  replace hnot := Lib.hid hnot
  replace hstep := Lib.hid hstep
  have hcc := Lib.hid hc
  clear h0 hc
  go_enter Try.func83, Try.ntmps83
  go_wp2_with fail
  rw [hsh]
  go_loopw [4, 8] (fun _ i wr => ∃ k : Nat, k ≤ N ∧ i = .int .i64 k ∧ wr.cell? ⟨w.heap.size, 1, none⟩ = some (.slice A xss.length cap) ∧ Hid (P k wr)) (fun _ i _ => N - (intOf i).toNat)
  case atStart => exact ⟨0, Nat.zero_le _, rfl, c1, HP0⟩
  case round =>
    obtain ⟨k, hk, rfl, d1, HP⟩ := hrel
    clear HP0 c0 c1
    by_cases hlt : k < N
    · have hcall := Lib.hid (isModel_any xss hcc.out hl A cap k (Nat.lt_of_lt_of_le hlt (Nat.le_trans hp (by decide))) wr (hcls.out k wr HP.out))
      cases hq : modT xss k
      · rw [hq] at hcall
        go_wp2_with fail
        refine hcall.out.mono ?_
        rintro e w1 ⟨rfl, hb1⟩
        have HP2 := Lib.hid (hnot.out k w1 hq (hgrow.out k wr w1 HP.out hb1))
        have d2 := ((bcell hb1).1 _ _ (World.block_lt_of_cell? _ _ d1)).trans d1
        clear hcall hb1 HP d1
        go_wp2_with fail
        go_roundw
        case rel => exact ⟨k + 1, by omega, by go_num, d2, HP2⟩
        case measure => simp [intOf]; omega
      · rw [hq] at hcall
        go_wp2_with fail
        refine hcall.out.mono ?_
        rintro e w1 ⟨rfl, hb1⟩
        have d2 := ((bcell hb1).1 _ _ (World.block_lt_of_cell? _ _ d1)).trans d1
        have hst := Lib.hid (hstep.out k w1 (World.block_lt_of_cell? _ _ d2) hlt hq (hgrow.out k wr w1 HP.out hb1))
        clear hcall hb1 HP d1
        go_wp2_with fail
        refine hst.out.mono ?_
        rintro e w2 ⟨q, F, rfl, hFF, hch, hP2⟩
        have d3 := (World.cell?_of_block (a := ⟨w.heap.size, 1, none⟩) (hch.block _ (World.block_lt_of_cell? _ _ d2) hFF)).trans d2
        cases q
        · replace hP2 := Lib.hid hP2
          clear hst hch hFF d2
          go_wp2_with fail
          have hP3 : P N w2 := hP2.out
          exact bodyPost_ret (v := .tuple #[]) (by simp [results, Try.results83, go_sem]) rfl ⟨rfl, hP3⟩
        · have HP2 : Hid (P (k + 1) w2) := hP2
          clear hst hch hFF d2 hP2
          go_wp2_with fail
          go_roundw
          case rel => exact ⟨k + 1, by omega, by go_num, d3, HP2⟩
          case measure => simp [intOf]; omega
    · obtain rfl : k = N := by omega
      go_wp2_with fail
      exact bodyPost_end (v := .tuple #[]) (by simp [results, Try.results83, go_sem]) rfl ⟨rfl, HP.out⟩
end Go.Proofs.Ytmikconjhmhekaa

/- Contract: the closure that lists models, in the program. -/
namespace Go.Proofs.Ytmikconjhmhekaa
open Go.RowKit

set_option maxRecDepth 100000 in
set_option maxHeartbeats 4000000 in
theorem allStep_any (w V : World) (ts : List Int) (B : Option Addr) (cc o fb k m : Nat) (fcs : Array Value) (hk : k < 4096) (hl : ts.length ≤ 300)
    (S : Sp w V [Own 3 1 (.slice B ts.length cc) ts.length (ts.map (.int .i64)), Box o 30 #[.slice B ts.length cc], Box fb 26 fcs])
    (hm1 : m < V.heap.size) (hmo : m ≠ o) (hmB : ∀ g, (Value.slice B ts.length cc).ownBlock = some g → g ≠ m) (q : Bool) (hq : decide (ts.length + 1 ≤ 300) = q) :
    Calls Try.prog 87 #[.int .i64 k, .pointer (some ⟨o, 0, none⟩)] V fun e w' => ∃ (B' : Option Addr) (cc' : Nat) (F : List Nat), e = .returned (.bool q) ∧ m ∉ F ∧ Chg F V w' ∧ (∀ g, (Value.slice B' (ts ++ [(k : Int)]).length cc').ownBlock = some g → g ≠ m) ∧
      Sp w w' [Own 3 1 (.slice B' (ts ++ [(k : Int)]).length cc') (ts ++ [(k : Int)]).length ((ts ++ [(k : Int)]).map (.int .i64)), Box o 30 #[.slice B' (ts ++ [(k : Int)]).length cc'], Box fb 26 fcs] := by
  obtain ⟨i0, hi0, hy0, hy1, hy2⟩ := info_parts infoInt
  have S4 := S.alloc_box #[.int .i64 (k : Int)] 3
  have kB := S4.cell (i := 0) rfl (o := 0) rfl
  have l0 := S.cell (i := 1) rfl (o := 0) rfl
  replace S4 := Lib.hid S4
  replace hmB := Lib.hid hmB
  clear S
  go_enter Try.func87, Try.ntmps87
  go_wp2_with (at_builtin; refine wpList_append_src rfl _ _ rfl Try.underlying30 hi0 hy0 hy1 hy2 rfl (by decide) _ _ _ rfl (S4.out.own (i := 1) rfl) _ 1 1 [.int .i64 (k : Int)] rfl (Src.one kB) (by simp [Value.oneCell']) ?c3 ?c4 ?_)
  case c3 => unfold maxLen; omega
  case c4 => omega
  intro vY wY hownY hgY hatY
  have S5 := (S4.out.own_push (i := 1) rfl (bb _) hownY hgY (by simpa using hatY)).tail
  have b1 := S5.cell (i := 1) rfl (o := 0) rfl
  have q1 := S5.frozen (i := 1) rfl 0
  have hl2 : ts.length + 1 = (ts ++ [(k : Int)]).length := by simp
  have hch : Chg ((Value.slice B ts.length cc).ownBlock.toList ++ [o]) V wY := by
    have hb := bal (bb V) (.cells #[.int .i64 (k : Int)] 3)
    exact ⟨hgY.os.trans hb.os, hgY.tape.trans hb.tape, hgY.output.trans hb.output, Nat.le_trans hb.size hgY.size, fun j hj hn =>
      (hgY.block j (Nat.lt_of_lt_of_le hj hb.size) (fun e => hn (List.mem_append.2 (.inl (by rw [← e]; simp))))).trans (hb.block j hj)⟩
  have hnew : ∀ g, vY.ownBlock = some g → g ≠ m := fun g hg => by
    have h2 : vY.ownBlock = (Value.slice B ts.length cc).ownBlock ∨ vY.ownBlock = some (V.heap.size + 1) := by simpa using hatY
    rcases h2 with h2 | h2
    · rw [h2] at hg; exact hmB.out g hg
    · rw [h2] at hg
      simp only [Option.some.injEq] at hg
      omega
  obtain ⟨aY, cY, rfl⟩ := own_slice hownY
  obtain ⟨L, hL⟩ : ∃ L, ts.length + 1 = L := ⟨_, rfl⟩
  rw [hL] at S5 hnew ⊢
  have S6 : Sp w (wY.setCell ⟨o, 0, none⟩ (.slice aY L cY)) [Own 3 1 (.slice aY L cY) L ((ts ++ [(k : Int)]).map (.int .i64)), Box o 30 #[.slice aY L cY], Box fb 26 fcs] := by
    rw [List.map_append]
    exact S5.store (i := 1) rfl 0 (.slice aY L cY)
  have l2 := S6.cell (i := 1) rfl (o := 0) rfl
  have hch2 := Lib.hid (hch.set (p := ⟨o, 0, none⟩) (by simp) (.slice aY L cY))
  have hmF : Hid (m ∉ (Value.slice B ts.length cc).ownBlock.toList ++ [o]) := fun h => by
    rcases List.mem_append.1 h with h | h
    · exact hmB.out m (by simpa using h) rfl
    · exact hmo (by simpa using h)
  have hlL : Hid ((ts ++ [(k : Int)]).length = L) := by unfold Hid; rw [← hl2, hL]
  replace hnew := Lib.hid hnew
  replace S6 := Lib.hid S6
  replace hL := Lib.hid hL
  clear S4 S5 kB l0 hownY hgY hatY hch hmB hl2
  cases q
  · have d3 : decide ((L : Int) ≤ 300) = false := decide_eq_false (by have := of_decide_eq_false hq; have := hL.out; omega)
    clear hq
    go_wp2_with fail
    go_ret
    first
      | exact ⟨aY, cY, _, rfl, hmF.out, hch2.out, by rw [hlL.out]; exact hnew.out, by rw [hlL.out]; exact S6.out⟩
      | exact ⟨rfl, aY, cY, _, hmF.out, hch2.out, by rw [hlL.out]; exact hnew.out, by rw [hlL.out]; exact S6.out⟩
  · have d3 : decide ((L : Int) ≤ 300) = true := decide_eq_true (by have := of_decide_eq_true hq; have := hL.out; omega)
    clear hq
    go_wp2_with fail
    go_ret
    first
      | exact ⟨aY, cY, _, rfl, hmF.out, hch2.out, by rw [hlL.out]; exact hnew.out, by rw [hlL.out]; exact S6.out⟩
      | exact ⟨rfl, aY, cY, _, hmF.out, hch2.out, by rw [hlL.out]; exact hnew.out, by rw [hlL.out]; exact S6.out⟩
end Go.Proofs.Ytmikconjhmhekaa

/- Contract: all models listed, in the program. -/
namespace Go.Proofs.Ytmikconjhmhekaa
open Go.RowKit

theorem cntP_mono {p : Nat → Bool} {k : Nat} : ∀ d, cntP p k ≤ cntP p (k + d)
  | 0 => Nat.le_refl _
  | d + 1 => by
    have := cntP_mono (p := p) (k := k) d
    cases h : p (k + d)
    · rw [show k + (d + 1) = (k + d) + 1 from rfl, cntP_no h]; exact this
    · rw [show k + (d + 1) = (k + d) + 1 from rfl, cntP_yes h]; omega
/-- What is listed before k, at most 301 numbers. -/
def AllP (w : World) (p : Nat → Bool) (N o m fb : Nat) (fcs : Array Value) (k : Nat) (V : World) : Prop :=
  ∃ (ts : List Int) (B : Option Addr) (cc : Nat), (ts.length ≤ 300 → ts = allN p k) ∧ (300 < ts.length → 300 < cntP p N) ∧ (k < N → ts.length ≤ 300) ∧ (∀ g, (Value.slice B ts.length cc).ownBlock = some g → g ≠ m) ∧
    Sp w V [Own 3 1 (.slice B ts.length cc) ts.length (ts.map (.int .i64)), Box o 30 #[.slice B ts.length cc], Box fb 26 fcs]

set_option maxRecDepth 100000 in
set_option maxHeartbeats 4000000 in
theorem allModels_any (vars : Int) (v : Value) (xss : List (List Int)) (F : List Nat) (w : World) (hx : (Ty.slice Ty.int).row false w v xss F) :
    Calls Try.prog 13 #[.agg #[.int .i64 vars, v]] w (IAns w (goodB vars xss && decide (cntP (modT xss) (2 ^ vars.toNat) ≤ 300)) (if goodB vars xss && decide (cntP (modT xss) (2 ^ vars.toNat) ≤ 300) then allN (modT xss) (2 ^ vars.toNat) else [])) := by
  obtain ⟨A, cap, rfl, hI⟩ := cls_row hx
  have S0 := (Sp.start w).alloc_box #[.int .i64 vars, .slice A xss.length cap] 26
  have hcall := Lib.hid (implIsCnf_any vars _ xss F _ (Ty.row_below hx S0.below (Ty.row_lt hx)))
  replace S0 := Lib.hid S0
  have c0 := S0.out.cell (i := 0) rfl (o := 0) rfl
  have c1 := S0.out.cell (i := 0) rfl (o := 1) rfl
  clear hx
  cases h1 : goodB vars xss
  · rw [h1] at hcall
    go_enter Try.func13, Try.ntmps13
    go_wp2_with fail
    refine hcall.out.mono ?_
    rintro e w1 ⟨rfl, hb1⟩
    have hB := Lib.hid (S0.out.grow hb1).below
    clear hcall S0 c0 c1 hb1
    go_wp2_with fail
    go_ret2
    exact ⟨none, 0, rfl, ⟨fun j hj => by simp at hj, fun c hc => by simp at hc⟩, hB.out⟩
  have hg := good_cnf h1
  obtain ⟨n, rfl⟩ := Int.eq_ofNat_of_zero_le hg.1.1
  rw [show (n : Int).toNat = n by omega]
  have hn : n ≤ 12 := by omega
  have hp := (pow12 hn).2
  have eg : Enter1 87 := enters_of Try.func87 (by kernel_rfl) rfl
  have hmod := Lib.hid (fun W (S : Sp w W [Box w.heap.size 26 #[.int .i64 n, .slice A xss.length cap]]) =>
    models2_any (cb := #[.pointer (some ⟨W.heap.size, 0, none⟩)]) eg n hn xss hg.2.2.2 (by omega) A cap (W.alloc (.cells #[.slice none 0 0] 30))
    (AllP w (modT xss) (2 ^ n) W.heap.size (W.alloc (.cells #[.slice none 0 0] 30)).heap.size w.heap.size #[.int .i64 n, .slice A xss.length cap])
    ⟨[], none, 0, fun _ => rfl, fun h => absurd h (by simp), fun _ => by simp, fun g hg => (by cases hg), (S.alloc_box #[.slice none 0 0] 30).own_nil _ _⟩
    (fun k V V' ⟨ts, B, cc, a1, a2, a3, a4, h⟩ hb => ⟨ts, B, cc, a1, a2, a3, a4, h.grow hb⟩) (fun k V ⟨_, _, _, _, _, _, _, h⟩ => hI.grow h.below)
    (fun k V hm ⟨ts, B, cc, a1, a2, a3, a4, h⟩ => ⟨ts, B, cc, fun hl => by rw [allN_no hm]; exact a1 hl, a2, fun hk => a3 (by omega), a4, h⟩)
    (fun k V hV hk hm ⟨ts, B, cc, a1, a2, a3, a4, h⟩ => by
      have hts := a1 (a3 hk)
      have hy := allN_yes hm
      have hcy := cntP_yes hm
      have hln := allN_len (modT xss) k
      have hmo := cntP_mono (p := modT xss) (k := k + 1) (2 ^ n - (k + 1))
      rw [show k + 1 + (2 ^ n - (k + 1)) = 2 ^ n by omega] at hmo
      obtain ⟨q, hq⟩ : ∃ q, decide (ts.length + 1 ≤ 300) = q := ⟨_, rfl⟩
      refine (allStep_any w V ts B cc W.heap.size w.heap.size k _ _ (Nat.lt_of_lt_of_le hk hp) (a3 hk) h hV (by simp) a4 q hq).mono ?_
      rintro e w' ⟨B', cc', G, rfl, hmG, hch, hnb, hS⟩
      refine ⟨q, G, rfl, hmG, hch, ?_⟩
      have hl2 : (ts ++ [(k : Int)]).length = ts.length + 1 := by simp
      cases q
      · have h3 := of_decide_eq_false hq
        exact ⟨_, B', cc', fun hl => absurd hl (by rw [hl2]; omega), fun _ => by rw [← hts] at hln; omega, fun hlt => absurd hlt (Nat.lt_irrefl _), hnb, hS⟩
      · have h3 := of_decide_eq_true hq
        exact ⟨_, B', cc', fun _ => by rw [hy, hts], fun hl => absurd hl (by rw [hl2]; omega), fun _ => by rw [hl2]; omega, hnb, hS⟩))
  have hlen := Lib.hid (allN_len (modT xss) (2 ^ n))
  have hok := Lib.hid (allN_ok (modT xss) (k := 2 ^ n) hp)
  rw [h1] at hcall
  rw [Bool.true_and]
  clear eg hI hg h1 hp
  generalize 2 ^ n = N at *
  obtain ⟨ok, hq⟩ : ∃ ok, decide (cntP (modT xss) N ≤ 300) = ok := ⟨_, rfl⟩
  rw [hq]
  obtain ⟨zs, hzs⟩ : ∃ zs, (if ok = true then allN (modT xss) N else []) = zs := ⟨_, rfl⟩
  rw [hzs]
  replace hq := Lib.hid hq
  replace hzs := Lib.hid hzs
  go_enter Try.func13, Try.ntmps13
  go_wp2_with fail
  refine hcall.out.mono ?_
  rintro e w1 ⟨rfl, hb1⟩
  have S1 := Lib.hid (S0.out.grow hb1)
  have SA := S1.out.alloc_box #[.slice none 0 0] 30
  have d0 := SA.cell (i := 1) rfl (o := 0) rfl
  have d1 := SA.cell (i := 1) rfl (o := 1) rfl
  clear SA
  have hm2 := Lib.hid (hmod.out _ S1.out)
  clear hcall hmod S0 S1 c0 c1 hb1
  go_wp2_with fail
  refine hm2.out.mono ?_
  rintro e w2 ⟨rfl, ts, B, cc, a1, a2, -, -, S2⟩
  have d2 := S2.cell (i := 1) rfl (o := 0) rfl
  have hB := Lib.hid S2.below
  clear hm2 d0 d1
  by_cases h3 : (300 : Int) < (ts.length : Int)
  · have d3 : decide ((300 : Int) < (ts.length : Int)) = true := decide_eq_true h3
    have h4 := a2 (by omega)
    have d4 : decide (cntP (modT xss) N ≤ 300) = false := decide_eq_false (by omega)
    obtain rfl : ok = false := by rw [← hq.out]; exact d4
    obtain rfl : zs = [] := by rw [← hzs.out]; rfl
    clear S2 a1 a2 h4 d4
    go_wp2_with fail
    go_ret2
    exact ⟨none, 0, rfl, ⟨fun j hj => by simp at hj, fun c hc => by simp at hc⟩, hB.out⟩
  · have d3 : decide ((300 : Int) < (ts.length : Int)) = false := decide_eq_false h3
    have h4 := a1 (by omega)
    have d4 : decide (cntP (modT xss) N ≤ 300) = true := decide_eq_true (by rw [← hlen.out, ← h4]; omega)
    have hokt : ∀ x ∈ ts, I64 x := by rw [h4]; exact hok.out
    obtain ⟨G, hr, -, -⟩ := own_row (S2.own (i := 0) rfl) hokt
    obtain ⟨B', c', e', hT⟩ := ints_row (Ty.row_down hr)
    cases e'
    replace hT := Lib.hid hT
    replace h4 := Lib.hid h4
    obtain rfl : ok = true := by rw [← hq.out]; exact d4
    obtain rfl : zs = ts := by rw [← hzs.out, h4.out]; rfl
    clear S2 a1 a2 hr hokt d4
    go_wp2_with fail
    go_ret2
    exact ⟨_, _, rfl, hT.out, hB.out⟩
end Go.Proofs.Ytmikconjhmhekaa
