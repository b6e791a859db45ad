/- Contracts: the closure, in the program. -/
import Derived.Test.YtebpknekaljgnaaNwN
import Derived.Test.YtebpknekaljgnaaNwU
import Derived.Test.YtebpknekaljgnaaClC
namespace Go.Proofs.Ytebpknekaljgnaa
open Go.RowKit Go.Maps

theorem run_slice_to {P : Program} {T e : TypeId} {i : TypeInfo} (hT : P.underlying T = some (.slice e)) (hi : P.info? e = some i) (A : Option Addr) (len cap k : Nat) (w : World) (hk : k ≤ cap) :
    (Instr.sliceAt T (.slice A len cap) none (some (.int .i64 k)) none).run P w = .ok (.slice A k cap) w := by
  have hb : (Instr.sliceBounds true len cap none (some (.int .i64 k)) none).run P w = .ok (0, k, cap) w := by
    simp [Instr.sliceBounds, run_sliceBound (P := P) w .i64 (k : Int) cap .sliceAcap (by omega) (by omega)]
  have hA : (if cap = 0 then A else A.map (·.add 0)) = A := by
    split
    · rfl
    · cases A <;> simp [Addr.add]
  simp [Instr.sliceAt, run_underlying hT, Instr.slice, hb, sizeOf, typeInfo, hi, hA]

theorem Sp.map_made {w0 w : World} {ps : List Asn} (h : Sp w0 w ps) : Sp w0 (w.alloc (.map #[] 0)) (MapP w.heap.size 0 [] [] :: ps) :=
  h.new (F := [w.heap.size]) (bal (bb _) _) ⟨rfl, _, World.ownsMap_made _ _ _ _, RMap.nil⟩ (by simp)
/-- The closure of the program, with the rows that it has left behind. -/
def XS (w0 : World) (bx mb : Nat) (ms : List Nat) (R : List Int) (wr : World) : Prop := ∃ mv last X, Sp w0 wr (XParts bx mb mv last ms R ++ X)
/-- A row of masks is still there. -/
def Kept (g : Nat) (M : List Nat) (mv : Value) (ms : List Nat) (X : List Asn) : Prop := (mv.ownBlock = some g ∧ ∀ (j u : Nat), M[j]? = some u → ms[j]? = some u) ∨
  ∃ (p n c : Nat) (ms' : List Nat), X[p]? = some (Own 66 1 (.slice (some ⟨g, 0, none⟩) n c) n (ms'.map mval)) ∧ ∀ (j u : Nat), M[j]? = some u → ms'[j]? = some u
def XK (w0 : World) (bx mb g : Nat) (M : List Nat) (ms : List Nat) (R : List Int) (wr : World) : Prop := ∃ mv last X, Sp w0 wr (XParts bx mb mv last ms R ++ X) ∧ Kept g M mv ms X
section
variable {w0 w w' : World} {bx mb g : Nat} {mv : Value} {last rd : Int} {M ms ms2 : List Nat} {R R2 : List Int} {X : List Asn} {e : Ending}
theorem XK.xs (h : XK w0 bx mb g M ms R w) : XS w0 bx mb ms R w := by
  obtain ⟨a, b, c, h, _⟩ := h
  exact ⟨a, b, c, h⟩
theorem own_block {w : World} {B : Nat} {e : TypeId} {n g : Nat} {v : Value} {cs : List Value} (h : w.ownsRow B e 1 v n cs) (hb : v.ownBlock = some g) : ∃ c, v = .slice (some ⟨g, 0, none⟩) n c := by
  obtain ⟨_, ⟨rfl, _⟩ | ⟨g', c', rfl, _⟩⟩ := own_view h
  · cases hb
  · cases hb
    exact ⟨c', rfl⟩
theorem Kept.cell (h : Kept g M mv ms X) (S : Sp w0 w (XParts bx mb mv last ms R ++ X)) {j u : Nat} (hj : M[j]? = some u) : w.cell? ⟨g, j, none⟩ = some (mval u) := by
  obtain ⟨hb, hm⟩ | ⟨p, n, c, ms', hp, hm⟩ := h
  · have ho := S.own (i := 1) rfl
    obtain ⟨c, rfl⟩ := own_block ho hb
    refine own_cell ho ?_
    rw [List.getElem?_map, hm _ _ hj]; rfl
  · refine own_cell (S.own (i := p + 3) hp) ?_
    rw [List.getElem?_map, hm _ _ hj]; rfl
theorem Kept.add (h : Kept g M mv ms X) (S0 : Sp w0 w (XParts bx mb mv last ms R ++ X)) (hsub : ∀ (j u : Nat), ms[j]? = some u → ms2[j]? = some u) (hp : AddPost w0 bx mb mv rd ms ms2 R2 X e w') : XK w0 bx mb g M ms2 R2 w' := by
  obtain ⟨-, mv', ⟨hb, S⟩ | S⟩ := hp
  · obtain ⟨hg, hm⟩ | h := h
    · exact ⟨_, _, _, S, .inl ⟨hb.trans hg, fun j u hj => hsub j u (hm j u hj)⟩⟩
    · exact ⟨_, _, _, S, .inr h⟩
  · refine ⟨_, _, _, S, .inr ?_⟩
    obtain ⟨hg, hm⟩ | ⟨p, n, c, ms', hp, hm⟩ := h
    · obtain ⟨c, rfl⟩ := own_block (S0.own (i := 1) rfl) hg
      exact ⟨0, _, c, ms, rfl, hm⟩
    · exact ⟨p + 1, n, c, ms', hp, hm⟩
theorem AddPost.xs (hp : AddPost w0 bx mb mv rd ms ms2 R2 X e w') : e = .returned (.tuple #[]) ∧ XS w0 bx mb ms2 R2 w' := by
  obtain ⟨h, mv', ⟨_, S⟩ | S⟩ := hp
  · exact ⟨h, _, _, _, S⟩
  · exact ⟨h, _, _, _, S⟩
theorem XS.below (h : XS w0 bx mb ms R w) : Below w0.heap.size w0 w := by
  obtain ⟨_, _, _, S⟩ := h
  exact S.below
theorem XS.grow (h : XS w0 bx mb ms R w) (hb : Below w.heap.size w w') : XS w0 bx mb ms R w' := by
  obtain ⟨_, _, _, S⟩ := h
  exact ⟨_, _, _, S.grow hb⟩
end

/-- While the pairs of a round are looked at. -/
def CI (w0 : World) (bx mb : Nat) (L : List (List Int)) (R : List Int) (r f : Nat) (width : Int) (i : Nat) (wr : World) : Prop :=
  ∃ N, New L width (candI L f i) N ∧ XS w0 bx mb ((L ++ N).map maskN) (R ++ List.replicate N.length ((r + 1 : Nat) : Int)) wr
def CJ (w0 : World) (bx mb g : Nat) (L : List (List Int)) (R : List Int) (r f : Nat) (width : Int) (i j : Nat) (wr : World) : Prop :=
  ∃ N, New L width (candJ L f i j) N ∧ XK w0 bx mb g (L.map maskN) ((L ++ N).map maskN) (R ++ List.replicate N.length ((r + 1 : Nat) : Int)) wr
theorem sub_app {A B : List Nat} : ∀ (j u : Nat), A[j]? = some u → (A ++ B)[j]? = some u := fun j u h => by
  have hl : j < A.length := by
    rcases Nat.lt_or_ge j A.length with h1 | h1
    · exact h1
    · rw [List.getElem?_eq_none h1] at h; cases h
  rw [List.getElem?_append_left hl]; exact h
theorem rep_snoc {R : List Int} {n : Nat} {z : Int} : R ++ List.replicate (n + 1) z = (R ++ List.replicate n z) ++ [z] := by rw [List.replicate_succ', List.append_assoc]

/-- The program's closure. -/
def ImpClo (F0 : List (List Int)) (width : Int) (w : World) (e : Ending) (w' : World) : Prop :=
  ∃ bx mb L R, e = .returned (.pointer (some ⟨bx, 0, none⟩)) ∧ XS w bx mb (L.map maskN) R w' ∧ Clo F0 width L R
/-- At the head of the rounds. -/
def CH (w0 : World) (bx mb : Nat) (F0 : List (List Int)) (width : Int) (r f : Nat) (wr : World) : Prop :=
  ∃ L R, Head F0 width r f L R ∧ XS w0 bx mb (L.map maskN) R wr
theorem or_mask {a b q : Nat} (ha : a < 4096) (hb : b < 4096) (hq : q < 64) : bits .andNot .u16 (bits .or .u16 (a : Int) (b : Int)) (bits .or .u16 (q : Int) ((q : Int) * 64)) = ((notN (a ||| b) (q ||| q * 64) : Nat) : Int) := by
  have h1 : a ||| b < 2 ^ 12 := Nat.or_lt_two_pow ha hb
  have h2 : q ||| q * 64 < 2 ^ 12 := Nat.or_lt_two_pow (by omega) (by omega)
  rw [u16_or a b (by omega) (by omega), show (q : Int) * 64 = ((q * 64 : Nat) : Int) by omega, u16_or q (q * 64) (by omega) (by omega), u16_andNot _ _ (by omega) (by omega)]

set_option maxRecDepth 100000 in
set_option maxHeartbeats 16000000 in
theorem closureOf_any (n width : Int) (v : Value) (F0 : List (List Int)) (F : List Nat) (w : World) (hx : (Ty.slice Ty.int).row false w v F0 F) (hF : GoodF n F0) (_ : 0 ≤ width) (_ : width ≤ 6) (hl : F0.length ≤ 100000) :
    Calls Try.prog 35 #[.agg #[.int .i64 n, v], .int .i64 width] w (ImpClo F0 width w) := by
  obtain ⟨i0, hi, hz0, hz1, hz2⟩ := info_parts infoMask
  obtain ⟨a0, c0, rfl, hx1, hx2, hx3⟩ := row_slices hx
  have hgF := Lib.hid (fun c (hc : c ∈ F0) => (hF.2.2 c hc).1)
  have S0 := ((Sp.start w).alloc_box #[.int .i64 n, .slice a0 F0.length c0] 29)
  have S1 := S0.map_made
  have S2 := (((S1.own_nil 66 1).alloc_box #[.slice none 0 0, .map (some (w.heap.size + 1)), .int .i64 0] 64))
  simp only [World.size_alloc] at S2
  have HX : Hid (XS w (w.heap.size + 1 + 1) (w.heap.size + 1) [] [] _) := ⟨_, _, _, S2⟩
  clear S0 S1 S2
  replace hF := Lib.hid hF
  have hmm := @run_makeMap Try.prog
  have hsl := @run_slice_to Try.prog _ _ _ Try.underlying61 hi
  clear hx
  go_enter Try.func35, Try.ntmps35
  go_wp2_with fail
  go_loopw [23] (fun i wr => ∃ (k : Nat) (L : List (List Int)), k ≤ F0.length ∧ i = .int .i64 k ∧ Hid (Fst F0 width k L) ∧ Hid (XS w (w.heap.size + 1 + 1) (w.heap.size + 1) (L.map maskN) (List.replicate L.length 0) wr)) (fun i _ => F0.length - (intOf i).toNat)
  case atStart => exact ⟨0, [], Nat.zero_le _, rfl, Fst.start, HX⟩
  case round =>
    obtain ⟨k, L, hk, rfl, HF, HS⟩ := hrel
    clear HX
    by_cases hlt : k < F0.length
    · rcases hx3 with ⟨rfl, rfl⟩ | ⟨hxn, b, off, rfl, _, hxc⟩
      · exact absurd hlt (by simp)
      obtain ⟨u, Fk, hc, hr, _⟩ := hxc k hlt
      obtain ⟨ua, uc, rfl, _, _⟩ := Ty.row_len hr
      have hB := HS.out.below
      have e2 := (hc.keep (hB.block b hc.lt)).1
      have hr2 := Lib.hid (Ty.row_below hr hB (Ty.row_lt hr))
      have hgk := hgF.out _ (List.getElem_mem hlt)
      have hlk := hgk.len
      clear hxc hc hr hB
      have hfew : L.length ≤ 4096 := good_few HF.out.nodup (HF.out.good hF.out)
      have hmi := mask_mem (HF.out.good hF.out) hgk
      have hml := maskN_lt hgk.mem
      by_cases hle : (F0[k].length : Int) ≤ width
      · by_cases hin : F0[k] ∈ L
        · have HF2 := Lib.hid (HF.out.pass hlt (.inr hin))
          have hmi2 := Lib.hid (hmi.2 hin)
          have hgm := Lib.hid hgk.mem
          clear HF hmi hin hgk
          go_wp2_with fail
          refine (maskOf_any _ _ _ _ hr2.out hgm.out).mono ?_
          rintro e w1 ⟨rfl, rfl⟩
          go_wp2_with fail
          obtain ⟨mv, last, X, S⟩ := HS.out
          refine (add_old _ _ S (by omega) hmi2.out).mono ?_
          rintro e w1 ⟨rfl, rfl⟩
          clear S
          go_wp2_with fail
          go_roundw
          case rel => exact ⟨k + 1, L, by omega, by go_num, HF2, HS⟩
          case measure => simp [intOf]; omega
        · have HF2 := Lib.hid (HF.out.add hlt hle hin)
          have hmi2 := Lib.hid (fun h => hin (hmi.1 h))
          have hgm := Lib.hid hgk.mem
          have e1 : Hid ((L ++ [F0[k]]).map maskN = L.map maskN ++ [maskN F0[k]]) := by unfold Hid; rw [List.map_append]; rfl
          have e3 : Hid (List.replicate (L ++ [F0[k]]).length (0 : Int) = List.replicate L.length 0 ++ [0]) := by unfold Hid; rw [List.length_append, ← List.replicate_succ']; rfl
          clear HF hmi hin hgk
          go_wp2_with fail
          refine (maskOf_any _ _ _ _ hr2.out hgm.out).mono ?_
          rintro e w1 ⟨rfl, rfl⟩
          go_wp2_with fail
          obtain ⟨mv, last, X, S⟩ := HS.out
          refine (add_new _ _ S (by omega) hmi2.out (by simp) (by simp; omega) (by unfold I64; decide)).mono ?_
          intro e w1 hp
          obtain ⟨rfl, HS2⟩ := hp.xs
          rw [← e1.out, ← e3.out] at HS2
          replace HS2 := Lib.hid HS2
          clear S hp HS
          go_wp2_with fail
          go_roundw
          case rel => exact ⟨k + 1, _, by omega, by go_num, HF2, HS2⟩
          case measure => simp [intOf]; omega
      · have HF2 := Lib.hid (HF.out.pass hlt (.inl hle))
        clear HF hmi hgk
        go_wp2_with fail
        go_roundw
        case rel => exact ⟨k + 1, L, by omega, by go_num, HF2, HS⟩
        case measure => simp [intOf]; omega
    · obtain rfl : k = F0.length := by omega
      have HC : Hid (CH w (w.heap.size + 1 + 1) (w.heap.size + 1) F0 width 0 0 wr) := ⟨L, _, .start HF.out, HS.out⟩
      clear HF HS hx3 hgF hmm
      go_wp2_with fail
      go_loopw [8, 9] (fun x y wr => ∃ (f r : Nat), f ≤ 4096 ∧ r ≤ 4096 ∧ x = .int .i64 f ∧ y = .int .i64 ((r : Int) + 1) ∧ Hid (CH w (w.heap.size + 1 + 1) (w.heap.size + 1) F0 width r f wr)) (fun x _ _ => 5000 - (intOf x).toNat)
      case atStart => exact ⟨0, 0, by omega, by omega, rfl, rfl, HC⟩
      case round =>
        obtain ⟨f, r, hf, hr, rfl, rfl, HH⟩ := hrel
        clear HC
        obtain ⟨L, R, hH, mv, last, X, S⟩ := HH.out
        have hgL := Lib.hid (fun c (hc : c ∈ L) => (hH.at_.good hF.out c hc).1)
        have hLl := hH.at_.few hF.out
        have hRl := Lib.hid hH.at_.len
        replace hH := Lib.hid hH
        obtain ⟨ms, hms⟩ : ∃ z, L.map maskN = z := ⟨_, rfl⟩
        have hml : Hid (ms.length = L.length) := by unfold Hid; rw [← hms, List.length_map]
        have hm4 : ms.length ≤ 4096 := by have := hml.out; omega
        rw [hms] at S
        replace hms := Lib.hid hms
        obtain ⟨ma, mc, rfl, hmc, -⟩ := own_src (S.own (i := 1) rfl)
        have k0 := S.cell (i := 0) rfl (o := 0) rfl
        have HC : Hid (CI w (w.heap.size + 1 + 1) (w.heap.size + 1) L R r f width f wr) := ⟨[], New.start, by
          rw [List.append_nil, hms.out]
          exact ⟨_, _, _, by simpa using S⟩⟩
        have HX : Hid (XS w (w.heap.size + 1 + 1) (w.heap.size + 1) ms R wr) := ⟨_, _, _, S⟩
        clear S HH
        by_cases hlt : f < ms.length
        · have HHn := Lib.hid (fun N hN => hH.out.next hF.out (N := N) hN (by have := hml.out; omega))
          clear hH HX
          go_wp2_with fail
          clear k0
          go_loopw [11] (fun x wr => ∃ i : Nat, f ≤ i ∧ i ≤ ms.length ∧ x = .int .i64 i ∧ Hid (CI w (w.heap.size + 1 + 1) (w.heap.size + 1) L R r f width i wr)) (fun x _ => ms.length - (intOf x).toNat)
          case atStart => exact ⟨f, Nat.le_refl _, by omega, rfl, HC⟩
          case round =>
            obtain ⟨i, hfi, him, rfl, HI⟩ := hrel
            clear HC
            by_cases hil : i < ms.length
            · obtain ⟨N, hN, mv, last, X, S⟩ := HI.out
              obtain ⟨ma, mcc, rfl, hmcc, -⟩ := own_src (S.own (i := 1) rfl)
              have hlen : ((L ++ N).map maskN).length = ms.length + N.length := by rw [List.length_map, List.length_append, hml.out]
              have k0 := S.cell (i := 0) rfl (o := 0) rfl
              obtain ⟨g, rfl⟩ := own_ptr (S.own (i := 1) rfl) (by omega)
              have HJ0 : Hid (CJ w (w.heap.size + 1 + 1) (w.heap.size + 1) g L R r f width i 0 wr) := ⟨N, hN.congr (fun _ => candJ_zero), _, _, _, S, .inl ⟨rfl, fun j u h => by rw [List.map_append]; exact sub_app j u h⟩⟩
              have hic : i ≤ mcc := by omega
              generalize ((L ++ N).map maskN).length = n1 at *
              clear S hN HI hlen
              have hsl1 := hsl (some ⟨g, 0, none⟩) n1 mcc i wr hic
              go_wp2_with fail
              clear k0 hsl1
              go_loopw [63] (fun x wr => ∃ j : Nat, j ≤ i ∧ x = .int .i64 j ∧ Hid (CJ w (w.heap.size + 1 + 1) (w.heap.size + 1) g L R r f width i j wr)) (fun x _ => i - (intOf x).toNat)
              case atStart => exact ⟨0, Nat.zero_le _, rfl, HJ0⟩
              case round =>
                obtain ⟨j, hj, rfl, HJ⟩ := hrel
                clear HJ0
                by_cases hji : j < i
                · obtain ⟨N, hN, mv, last, X, S, HK⟩ := HJ.out
                  obtain ⟨ma, mc2, rfl, hmc2, -⟩ := own_src (S.own (i := 1) rfl)
                  have hlen : ((L ++ N).map maskN).length = ms.length + N.length := by rw [List.length_map, List.length_append, hml.out]
                  have k0 := S.cell (i := 0) rfl (o := 0) rfl
                  obtain ⟨g2, rfl⟩ := own_ptr (S.own (i := 1) rfl) (by omega)
                  have hiL : i < L.length := by have := hml.out; omega
                  have hjL : j < L.length := by omega
                  have kb := HK.cell S (j := j) (u := maskN L[j]) (by rw [List.getElem?_map, List.getElem?_eq_getElem hjL]; rfl)
                  have ka := own_cell (j := i) (u := mval (maskN L[i])) (S.own (i := 1) rfl) (by rw [List.getElem?_map, List.getElem?_map, List.getElem?_append_left hiL, List.getElem?_eq_getElem hiL]; rfl)
                  have hgi := hgL.out _ (List.getElem_mem hiL)
                  have hgj := hgL.out _ (List.getElem_mem hjL)
                  have hno : Hid (oneN (bothN (maskN L[i]) (maskN L[j])) = false → ∀ d, ¬ pairP L i j d) := fun h d => pair_no hgL.out hiL hjL h
                  have hyes := Lib.hid (pair_yes hgL.out hiL hjL)
                  have hma := maskN_lt hgi.mem
                  have hmb := maskN_lt hgj.mem
                  have hq6 := both_lt (maskN L[i]) (maskN L[j])
                  have hor := or_mask hma hmb hq6
                  have hrs : Hid (notN (maskN L[i] ||| maskN L[j]) (bothN (maskN L[i]) (maskN L[j]) ||| bothN (maskN L[i]) (maskN L[j]) * 64) = resN (maskN L[i]) (maskN L[j])) := rfl
                  have hNf : N.length ≤ 4096 := good_few hN.nodup hN.good
                  have hNg := Lib.hid (fun c (hc : c ∈ L ++ N) => (List.mem_append.1 hc).elim (hgL.out c) (hN.good c))
                  replace hN := Lib.hid hN
                  have hbo := Lib.hid (fun w => bothOf_any (maskN L[i]) (maskN L[j]) w hma hmb)
                  generalize maskN L[i] = a at *
                  generalize maskN L[j] = b at *
                  generalize hqe : bothN a b = q at *
                  clear hqe
                  have hon := Lib.hid (fun w => one_any q w (by omega))
                  replace S := Lib.hid S
                  replace HK := Lib.hid HK
                  have hlh := Lib.hid hlen
                  have hin2 : i < ((L ++ N).map maskN).length := by omega
                  clear hlen
                  generalize hn2 : ((L ++ N).map maskN).length = n2 at *
                  replace hn2 := Lib.hid hn2
                  cases hone : oneN q
                  · have HJ2 : Hid (CJ w (w.heap.size + 1 + 1) (w.heap.size + 1) g L R r f width i (j + 1) wr) := ⟨N, hN.out.pass (hno.out hone), _, _, _, S.out, HK.out⟩
                    simp only [hone] at hon
                    clear S HK HJ hN hno hyes hor hrs hNg hone HHn
                    go_wp2_with fail
                    refine (hbo.out _).mono ?_
                    rintro e w1 ⟨rfl, rfl⟩
                    go_wp2_with fail
                    refine (hon.out _).mono ?_
                    rintro e w1 ⟨rfl, rfl⟩
                    go_wp2_with fail
                    go_roundw
                    case rel => exact ⟨j + 1, by omega, by go_num, HJ2⟩
                    case measure => simp [intOf]; omega
                  · obtain ⟨c, hgc, hrm, hpc⟩ := hyes.out hone
                    simp only [hone] at hon
                    have he : bits .andNot .u16 (bits .or .u16 (a : Int) (b : Int)) (bits .or .u16 (q : Int) ((q : Int) * 64)) = ((maskN c : Nat) : Int) := by rw [hor, hrs.out, hrm]
                    have hmc4 := maskN_lt hgc.mem
                    have hct := Lib.hid (fun w => count_any (maskN c) w hmc4)
                    simp only [pop_len hgc] at hct
                    have hc6 := hgc.len
                    have hmi := mask_mem hNg.out hgc
                    clear hno hyes hor hrs hrm hone
                    by_cases hle : (c.length : Int) ≤ width
                    · by_cases hin : c ∈ L ++ N
                      · have HJ2 : Hid (CJ w (w.heap.size + 1 + 1) (w.heap.size + 1) g L R r f width i (j + 1) wr) := ⟨N, hN.out.old hpc (.inr hin), _, _, _, S.out, HK.out⟩
                        have hmi2 := Lib.hid (hmi.2 hin)
                        clear HK HJ hN hNg HHn hmi hin hpc hgc
                        go_wp2_with fail
                        refine (hbo.out _).mono ?_
                        rintro e w1 ⟨rfl, rfl⟩
                        go_wp2_with fail
                        refine (hon.out _).mono ?_
                        rintro e w1 ⟨rfl, rfl⟩
                        go_wp2_with fail
                        refine (hct.out _).mono ?_
                        rintro e w1 ⟨rfl, rfl⟩
                        go_wp2_with fail
                        refine (add_old _ _ S.out (by omega) hmi2.out).mono ?_
                        rintro e w1 ⟨rfl, rfl⟩
                        go_wp2_with fail
                        go_roundw
                        case rel => exact ⟨j + 1, by omega, by go_num, HJ2⟩
                        case measure => simp [intOf]; omega
                      · have hmi2 := Lib.hid (fun h => hin (hmi.1 h))
                        have hN2 := Lib.hid (hN.out.add hpc hgc hle hin)
                        have e1 : Hid ((L ++ (N ++ [c])).map maskN = (L ++ N).map maskN ++ [maskN c]) := by unfold Hid; simp
                        have e3 : Hid (R ++ List.replicate (N ++ [c]).length ((r + 1 : Nat) : Int) = (R ++ List.replicate N.length ((r + 1 : Nat) : Int)) ++ [(r : Int) + 1]) := by unfold Hid; rw [List.length_append, List.length_singleton, List.replicate_succ', List.append_assoc]; rfl
                        have hll : Hid ((R ++ List.replicate N.length ((r + 1 : Nat) : Int)).length = ((L ++ N).map maskN).length) := by unfold Hid; rw [List.length_map, List.length_append, List.length_append, List.length_replicate, hRl.out]
                        have hn5 : Hid (((L ++ N).map maskN).length ≤ 100000) := by unfold Hid; rw [List.length_map, List.length_append]; omega
                        clear HJ hN hNg HHn hmi hin hpc hgc
                        go_wp2_with fail
                        refine (hbo.out _).mono ?_
                        rintro e w1 ⟨rfl, rfl⟩
                        go_wp2_with fail
                        refine (hon.out _).mono ?_
                        rintro e w1 ⟨rfl, rfl⟩
                        go_wp2_with fail
                        refine (hct.out _).mono ?_
                        rintro e w1 ⟨rfl, rfl⟩
                        go_wp2_with fail
                        refine (add_new _ _ S.out (by omega) hmi2.out hll.out hn5.out (by unfold I64; omega)).mono ?_
                        intro e w1 hp
                        have hXK := HK.out.add S.out sub_app hp
                        obtain ⟨rfl, -⟩ := hp
                        rw [← e1.out, ← e3.out] at hXK
                        have HJ2 : Hid (CJ w (w.heap.size + 1 + 1) (w.heap.size + 1) g L R r f width i (j + 1) w1) := ⟨_, hN2.out, hXK⟩
                        clear hXK S HK hN2
                        go_wp2_with fail
                        go_roundw
                        case rel => exact ⟨j + 1, by omega, by go_num, HJ2⟩
                        case measure => simp [intOf]; omega
                    · have HJ2 : Hid (CJ w (w.heap.size + 1 + 1) (w.heap.size + 1) g L R r f width i (j + 1) wr) := ⟨N, hN.out.old hpc (.inl (by omega)), _, _, _, S.out, HK.out⟩
                      clear S HK HJ hN hNg HHn hmi hpc hgc
                      go_wp2_with fail
                      refine (hbo.out _).mono ?_
                      rintro e w1 ⟨rfl, rfl⟩
                      go_wp2_with fail
                      refine (hon.out _).mono ?_
                      rintro e w1 ⟨rfl, rfl⟩
                      go_wp2_with fail
                      refine (hct.out _).mono ?_
                      rintro e w1 ⟨rfl, rfl⟩
                      go_wp2_with fail
                      go_roundw
                      case rel => exact ⟨j + 1, by omega, by go_num, HJ2⟩
                      case measure => simp [intOf]; omega
                · obtain rfl : j = i := by omega
                  have HI2 : Hid (CI w (w.heap.size + 1 + 1) (w.heap.size + 1) L R r f width (j + 1) wr) := by
                    obtain ⟨N, hN, HK⟩ := HJ.out
                    exact ⟨N, hN.congr (fun _ => candI_succ hfi), HK.xs⟩
                  clear HJ
                  go_wp2_with fail
                  go_roundw
                  case rel => exact ⟨j + 1, by omega, by omega, by go_num, HI2⟩
                  case measure => simp [intOf]; omega
            · obtain rfl : i = ms.length := by omega
              have HH2 : Hid (CH w (w.heap.size + 1 + 1) (w.heap.size + 1) F0 width (r + 1) ms.length wr) := by
                obtain ⟨N, hN, HS⟩ := HI.out
                rw [hml.out] at hN
                have := HHn.out N hN
                rw [← hml.out] at this
                exact ⟨_, _, this, HS⟩
              have hr1 : r + 1 ≤ 4096 := by
                obtain ⟨L2, R2, hH2, _⟩ := HH2.out
                have := hH2.few
                omega
              clear HI HHn
              go_wp2_with fail
              go_roundw
              case rel => exact ⟨ms.length, r + 1, by omega, hr1, by go_num, by go_num, HH2⟩
              case measure => simp [intOf]; omega
        · have hCl := Lib.hid (hH.out.clo hF.out (by have := hml.out; omega))
          clear hH HC
          go_wp2_with fail
          go_ret
          exact ⟨_, _, L, R, rfl, by rw [hms.out]; exact HX.out, hCl.out⟩
end Go.Proofs.Ytebpknekaljgnaa
