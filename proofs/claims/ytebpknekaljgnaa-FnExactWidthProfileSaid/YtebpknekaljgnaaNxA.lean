/- Contracts: how many clauses of each width a closure has, in the program. -/
import Derived.Test.YtebpknekaljgnaaNwZ
namespace Go.Proofs.Ytebpknekaljgnaa
open Go.RowKit Go.Maps

/-- Parts made by a call go behind. -/
theorem Sp.behind {w0 w w' : World} {ps qs : List Asn} (h : Sp w0 w ps) (k : Sp w w' qs) : Sp w0 w' (ps ++ qs) := by
  obtain ⟨h1, G, h2, h3⟩ := h
  obtain ⟨k1, F, k2, k3⟩ := k
  refine ⟨btr h1 k1, G ++ F, sep_append (sep_keep h2 fun b hm => k1.block b (sep_lt h2 b hm)) k2 (fun b hb hb2 => ?_), fun b hb => ?_⟩
  · have := k3 b hb2; have := sep_lt h2 b hb; omega
  · rcases List.mem_append.1 hb with h | h
    · exact h3 b h
    · have := k3 b h; have := h1.size; omega
def IK (w : World) (b n bx mb : Nat) (mv : Value) (ms : List Nat) (L : List (List Int)) (k : Nat) (wr : World) : Prop :=
  ∃ last R X, Sp w wr (Arr b (profB n (L.take k)) :: (XParts bx mb mv last ms R ++ X))

set_option maxRecDepth 100000 in
set_option maxHeartbeats 8000000 in
theorem implProfile_any (vars width : Int) (v : Value) (F0 : List (List Int)) (F : List Nat) (w : World) (hx : (Ty.slice Ty.int).row false w v F0 F) :
    Calls Try.prog 22 #[.agg #[.int .i64 vars, v], .int .i64 width] w (ProfPost (narB vars F0 && inB width 0 6) F0 width w) := by
  obtain ⟨a, cp, rfl, _, _⟩ := Ty.row_len hx
  have S0 := (Sp.start w).alloc_box #[.int .i64 vars, .slice a F0.length cp] 29
  replace S0 := Lib.hid S0
  have hxr := Lib.hid hx
  clear hx
  cases hq1 : (narB vars F0 && inB width 0 6)
  · go_enter Try.func22, Try.ntmps22
    go_wp2_with fail
    refine (narrowOk_at (Ty.row_below hxr.out S0.out.below (Ty.row_lt hxr.out)) hq1).mono ?_
    rintro e w1 ⟨rfl, hb1⟩
    have S1 := Lib.hid (S0.out.grow hb1)
    go_wp2_with fail
    go_ret2
    exact ⟨_, [], [], rfl, Ty.row_nil _ _ _ _ _ (by decide), by simp, by simp, S1.out.below, ⟨fun _ => rfl, fun h => (by cases h), by simp⟩⟩
  obtain ⟨hq2, hw0, hw6⟩ := nar_in hq1
  obtain ⟨hG, h60⟩ := nar_good hq2
  replace hG := Lib.hid hG
  obtain ⟨n, hn⟩ : ∃ n : Nat, (n : Int) = width + 1 := ⟨(width + 1).toNat, by omega⟩
  have hn7 : n ≤ 7 := by omega
  have hn1 : 1 ≤ n := by omega
  have hwr : IntKind.i64.wrap (width + 1) = (n : Int) := by rw [IntWalk.i64_in _ (by omega)]; omega
  replace hn := Lib.hid hn
  go_enter Try.func22, Try.ntmps22
  go_wp2_with fail
  refine (narrowOk_at (Ty.row_below hxr.out S0.out.below (Ty.row_lt hxr.out)) hq1).mono ?_
  rintro e w1 ⟨rfl, hb1⟩
  obtain ⟨z0, hz0⟩ : ∃ z, ((List.replicate n (0 : Int)).map (Value.int .i64)).toArray = z := ⟨_, rfl⟩
  have S1 := (S0.out.grow hb1).alloc_box z0 3
  have c0 := S1.cell (i := 1) rfl (o := 0) rfl
  have d1 := S1.cell (i := 1) rfl (o := 1) rfl
  replace S1 := Lib.hid S1
  replace hz0 := Lib.hid hz0
  clear S0 hb1
  go_wp2_with (at_make; refine wpList_make_ints rfl _ _ rfl n rfl rfl (by omega) ?_; rw [hz0.out])
  refine (closureOf_any vars width _ F0 F _ (Ty.row_below hxr.out S1.out.below (Ty.row_lt hxr.out)) hG.out hw0 hw6 (by omega)).mono ?_
  rintro e w3 ⟨bx, mb, L, R, rfl, ⟨mv, last, X, T⟩, hC⟩
  have S3 := S1.out.behind T
  have hL : ∀ c ∈ L, Good c ∧ (c.length : Int) ≤ width := fun c hc => hC.good hG.out c hc
  have hkl : L.length ≤ 4096 := good_few hC.nodup (fun c hc => (hL c hc).1)
  have hP := Lib.hid (prof_is hn.out hn1 hn7 hC.nodup (fun c => hC.mem))
  obtain ⟨ms, hms⟩ : ∃ z, L.map maskN = z := ⟨_, rfl⟩
  have hml : Hid (ms.length = L.length) := by unfold Hid; rw [← hms, List.length_map]
  rw [hms] at S3
  replace hms := Lib.hid hms
  obtain ⟨ma, mc, rfl, hmc, -⟩ := own_src (S3.own (i := 3) rfl)
  have k0 := S3.cell (i := 2) rfl (o := 0) rfl
  have HK0 : Hid (IK w w1.heap.size n bx mb (.slice ma ms.length mc) ms L 0 w3) := by
    refine ⟨last, R, Box w.heap.size 29 #[.int .i64 vars, .slice a F0.length cp] :: X, ?_⟩
    have := (((S3.bring (i := 1) rfl).bring (i := 4) rfl).bring (i := 4) rfl).bring (i := 4) rfl |>.bring (i := 4) rfl
    rw [List.take_zero, profB_nil]
    rw [← hz0.out] at this
    exact this
  replace hL := Lib.hid hL
  clear S1 S3 T c0 d1 hC
  go_wp2_with fail
  clear k0
  go_loopw [23] (fun i wr => ∃ k : Nat, k ≤ ms.length ∧ i = .int .i64 k ∧ Hid (IK w w1.heap.size n bx mb (.slice ma ms.length mc) ms L k wr)) (fun i _ => ms.length - (intOf i).toNat)
  case atStart => exact ⟨0, Nat.zero_le _, rfl, HK0⟩
  case round =>
    obtain ⟨k, hk, rfl, HK⟩ := hrel
    clear HK0
    by_cases hlt : k < ms.length
    · obtain ⟨last, R, X, S⟩ := HK.out
      have hkL : k < L.length := by have := hml.out; omega
      obtain ⟨g, rfl⟩ := own_ptr (S.own (i := 2) rfl) (by omega)
      have c0 := own_cell (j := k) (u := mval (maskN L[k])) (S.own (i := 2) rfl) (by rw [List.getElem?_map, ← hms.out, List.getElem?_map, List.getElem?_eq_getElem hkL]; rfl)
      obtain ⟨hg, hw⟩ := hL.out _ (List.getElem_mem hkL)
      have hm : L[k].length < n := by have := hn.out; omega
      have c1 := S.arr_cell (i := 0) rfl (profB_get n (L.take k) hm)
      have f1 := S.frozen (i := 0) rfl L[k].length
      have hcn := cnt_le (L.take k) L[k].length
      rw [List.length_take] at hcn
      have HN : Hid (IK w w1.heap.size n bx mb (.slice (some ⟨g, 0, none⟩) ms.length mc) ms L (k + 1) (wr.setCell ⟨w1.heap.size, L[k].length, none⟩ (.int .i64 (((cntB (L.take k) L[k].length : Nat) : Int) + 1)))) := by
        refine ⟨last, R, X, ?_⟩
        rw [List.take_succ_eq_append_getElem hkL, profB_snoc hm]
        exact S.arr_set (i := 0) rfl L[k].length (((cntB (L.take k) L[k].length : Nat) : Int) + 1)
      have hcn2 : cntB (L.take k) L[k].length ≤ 100000 := by omega
      have hmI : (L[k].length : Int) < (n : Int) := by omega
      have hct := Lib.hid (fun w => count_any (maskN L[k]) w (maskN_lt hg.mem))
      simp only [pop_len hg] at hct
      clear hcn S hg hw HK
      generalize cntB (L.take k) L[k].length = y at *
      generalize L[k].length = m at *
      generalize maskN L[k] = q at *
      go_wp2_with fail
      refine (hct.out _).mono ?_
      rintro e w4 ⟨rfl, rfl⟩
      go_wp2_with fail
      go_roundw
      case rel => exact ⟨k + 1, by omega, by go_num, HN⟩
      case measure => simp [intOf]; omega
    · obtain rfl : k = ms.length := by omega
      obtain ⟨last, R, X, S⟩ := HK.out
      rw [hml.out, List.take_length] at S
      obtain ⟨hr, hb⟩ := S.arr_row (i := 0) rfl (profB_i64 (by omega)) (fun e => by have := congrArg List.length e; rw [profB_len] at this; simp at this; omega) (by rw [profB_len]; omega)
      rw [profB_len] at hr
      have hB := S.below
      replace hr := Lib.hid hr
      clear S HK
      go_wp2_with fail
      go_ret2
      exact ⟨_, _, [w1.heap.size], rfl, hr.out, by simp, by simpa using hb, hB, hP.out⟩
end Go.Proofs.Ytebpknekaljgnaa
