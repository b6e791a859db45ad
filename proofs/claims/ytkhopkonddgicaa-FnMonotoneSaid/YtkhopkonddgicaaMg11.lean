/- Lemmas and contracts for a law, put together out of several texts: GuA GuB GuC GuD GuE. -/
import Derived.Test.YtkhopkonddgicaaMg3
import Derived.Test.YtkhopkonddgicaaMg6
import Derived.Test.YtkhopkonddgicaaMg10
import Derived.Test.YtkhopkonddgicaaMg5
import Derived.Test.YtkhopkonddgicaaMg7
import Derived.Deep.DeepCutAuto
import Derived.BigRegion
/- Contracts: the gates that a gate asks and a gate with other numbers, in the reference. -/
namespace Go.Proofs.Ytkhopkonddgicaa
open Go.RowKit

set_option maxRecDepth 100000 in
set_option maxHeartbeats 8000000 in
theorem l6Inputs_any (g : Gt) (ha : 0 ≤ g.a ∧ g.a ≤ 1000000) (hb : 0 ≤ g.b ∧ g.b ≤ 1000000) (w : World) :
    Calls Try.prog 100 #[gtV g] w fun e w' => ∃ A c, e = .returned (.slice A (insG g).length c) ∧ IntsAt w' A (natI (insG g)) ∧ Below w.heap.size w w' := by
  obtain ⟨k, a', b'⟩ := g
  dsimp only at ha hb
  obtain ⟨a, rfl⟩ : ∃ a : Nat, a' = a := ⟨a'.toNat, by omega⟩
  obtain ⟨b, rfl⟩ : ∃ b : Nat, b' = b := ⟨b'.toNat, by omega⟩
  have hB0 := Lib.hid (bal (bb w) (.cells #[.int .i64 k, .int .i64 (a : Int), .int .i64 (b : Int)] 41))
  by_cases h4 : k = 4
  · subst h4
    have hM : insG ⟨4, (a : Int), (b : Int)⟩ = [a] := by simp [insG]
    rw [hM]
    have S1 := ((Sp.start w).alloc_box #[.int .i64 4, .int .i64 (a : Int), .int .i64 (b : Int)] 41).alloc_box #[.int .i64 (a : Int)] 3
    simp only [World.size_alloc] at S1
    have k0 := S1.cell (i := 0) rfl (o := 0) rfl
    have hB1 := S1.below
    clear S1 hM
    go_enter Try.func100, Try.ntmps100
    go_wp2_with fail
    go_ret
    refine ⟨_, _, rfl, ⟨fun j hj => ⟨_, 0, rfl, ?_⟩, fun c hc => ?_⟩, hB1⟩
    · obtain rfl : j = 0 := by simp [natI] at hj; omega
      exact k0
    · simp [natI] at hc; subst hc; unfold I64; omega
  by_cases h5 : k = 5 ∨ k = 6
  · have hM : insG ⟨k, (a : Int), (b : Int)⟩ = [a, b] := by simp [insG, h4, h5]
    rw [hM]
    have S1 := ((Sp.start w).alloc_box #[.int .i64 k, .int .i64 (a : Int), .int .i64 (b : Int)] 41).alloc_box #[.int .i64 (a : Int), .int .i64 (b : Int)] 3
    simp only [World.size_alloc] at S1
    have k0 := S1.cell (i := 0) rfl (o := 0) rfl
    have k1 := S1.cell (i := 0) rfl (o := 1) rfl
    have hB1 := S1.below
    clear S1 hM h4
    rcases h5 with rfl | rfl
    all_goals
      go_enter Try.func100, Try.ntmps100
      go_wp2_with fail
      go_ret
      refine ⟨_, _, rfl, ⟨fun j hj => ⟨_, 0, rfl, ?_⟩, fun c hc => ?_⟩, hB1⟩
      · have : j = 0 ∨ j = 1 := by simp [natI] at hj; omega
        rcases this with rfl | rfl
        · exact k0
        · exact k1
      · simp [natI] at hc; rcases hc with rfl | rfl <;> unfold I64 <;> omega
  · have hM : insG ⟨k, (a : Int), (b : Int)⟩ = [] := by simp [insG, h4, h5]
    have h5' : k ≠ 5 := fun e => h5 (.inl e)
    have h6' : k ≠ 6 := fun e => h5 (.inr e)
    rw [hM]
    clear hM h5
    have hB1 := Lib.hid (bal hB0.out (.cells #[] 3))
    go_enter Try.func100, Try.ntmps100
    go_wp2_with fail
    go_ret
    exact ⟨_, _, rfl, .nil _ _, hB1.out⟩

set_option maxRecDepth 100000 in
set_option maxHeartbeats 8000000 in
theorem l6Moved_any (g : Gt) (tb off n c : Nat) (f : Nat → Nat) (ha : 0 ≤ g.a) (hb : 0 ≤ g.b) (w : World) (hT : ∀ k ∈ insG g, k < n ∧ w.cell? ⟨tb, off + k, none⟩ = some (.int .i64 (f k : Nat))) :
    Calls Try.prog 63 #[gtV g, .slice (some ⟨tb, off, none⟩) n c] w fun e w' => e = .returned (gtV (mvG f g)) ∧ Below w.heap.size w w' := by
  obtain ⟨k, a', b'⟩ := g
  obtain ⟨a, rfl⟩ : ∃ a : Nat, a' = a := ⟨a'.toNat, by dsimp only at ha; omega⟩
  obtain ⟨b, rfl⟩ : ∃ b : Nat, b' = b := ⟨b'.toNat, by dsimp only at hb; omega⟩
  have S0 := ((Sp.start w).alloc_box #[.int .i64 k, .int .i64 (a : Int), .int .i64 (b : Int)] 41).alloc_box #[.int .i64 0, .int .i64 0, .int .i64 0] 41
  simp only [World.size_alloc] at S0
  by_cases h4 : k = 4
  · subst h4
    have hM : mvG f ⟨4, (a : Int), (b : Int)⟩ = ⟨4, (f a : Nat), (b : Int)⟩ := by simp [mvG]
    obtain ⟨han, hca⟩ := hT a (by simp [insG])
    have hlt := World.block_lt_of_cell? _ _ hca
    have t0 := (S0.below.cell (p := ⟨tb, off + a, none⟩) hlt).trans hca
    have hani : (a : Int) < n := by omega
    have S5 := ((Sp.start w).alloc_box #[.int .i64 4, .int .i64 (f a : Nat), .int .i64 (b : Int)] 41).alloc_box #[.int .i64 4, .int .i64 (f a : Nat), .int .i64 (b : Int)] 41
    simp only [World.size_alloc] at S5
    have j0 := S5.cell (i := 0) rfl (o := 0) rfl
    have j1 := S5.cell (i := 0) rfl (o := 1) rfl
    have j2 := S5.cell (i := 0) rfl (o := 2) rfl
    have hB := S5.below
    rw [hM]
    clear hM hT ha hb S0 S5 hca
    go_enter Try.func63, Try.ntmps63
    go_wp2_with fail
    exact bodyPost_ret (v := gtV ⟨4, (f a : Nat), (b : Int)⟩) (by simp [results, Try.results63, go_sem, j0, j1, j2]) rfl ⟨rfl, hB⟩
  by_cases h5 : k = 5 ∨ k = 6
  · have hM : mvG f ⟨k, (a : Int), (b : Int)⟩ = ⟨k, (f a : Nat), (f b : Nat)⟩ := by simp [mvG, h4, h5]
    obtain ⟨han, hca⟩ := hT a (by simp [insG, h4, h5])
    obtain ⟨hbn, hcb⟩ := hT b (by simp [insG, h4, h5])
    have hlt := World.block_lt_of_cell? _ _ hca
    have t0 := (S0.below.cell (p := ⟨tb, off + a, none⟩) hlt).trans hca
    have S1 := ((Sp.start w).alloc_box #[.int .i64 k, .int .i64 (f a : Nat), .int .i64 (b : Int)] 41).alloc_box #[.int .i64 0, .int .i64 0, .int .i64 0] 41
    have t1 := (S1.below.cell (p := ⟨tb, off + b, none⟩) hlt).trans hcb
    have hani : (a : Int) < n := by omega
    have hbni : (b : Int) < n := by omega
    have S5 := ((Sp.start w).alloc_box #[.int .i64 k, .int .i64 (f a : Nat), .int .i64 (f b : Nat)] 41).alloc_box #[.int .i64 k, .int .i64 (f a : Nat), .int .i64 (f b : Nat)] 41
    simp only [World.size_alloc] at S5
    have j0 := S5.cell (i := 0) rfl (o := 0) rfl
    have j1 := S5.cell (i := 0) rfl (o := 1) rfl
    have j2 := S5.cell (i := 0) rfl (o := 2) rfl
    have hB := S5.below
    rw [hM]
    clear hM hT ha hb S0 S1 S5 hca hcb h4
    rcases h5 with rfl | rfl
    · go_enter Try.func63, Try.ntmps63
      go_wp2_with fail
      exact bodyPost_ret (v := gtV ⟨5, (f a : Nat), (f b : Nat)⟩) (by simp [results, Try.results63, go_sem, j0, j1, j2]) rfl ⟨rfl, hB⟩
    · go_enter Try.func63, Try.ntmps63
      go_wp2_with fail
      exact bodyPost_ret (v := gtV ⟨6, (f a : Nat), (f b : Nat)⟩) (by simp [results, Try.results63, go_sem, j0, j1, j2]) rfl ⟨rfl, hB⟩
  · have hM : mvG f ⟨k, (a : Int), (b : Int)⟩ = ⟨k, (a : Int), (b : Int)⟩ := by simp [mvG, h4, h5]
    have h5' : k ≠ 5 := fun e => h5 (.inl e)
    have h6' : k ≠ 6 := fun e => h5 (.inr e)
    rw [hM]
    clear hM hT ha hb h5
    have S5 := ((Sp.start w).alloc_box #[.int .i64 k, .int .i64 (a : Int), .int .i64 (b : Int)] 41).alloc_box #[.int .i64 k, .int .i64 (a : Int), .int .i64 (b : Int)] 41
    simp only [World.size_alloc] at S5
    have j0 := S5.cell (i := 0) rfl (o := 0) rfl
    have j1 := S5.cell (i := 0) rfl (o := 1) rfl
    have j2 := S5.cell (i := 0) rfl (o := 2) rfl
    have hB := S5.below
    clear S0 S5
    go_enter Try.func63, Try.ntmps63
    go_wp2_with fail
    exact bodyPost_ret (v := gtV ⟨k, (a : Int), (b : Int)⟩) (by simp [results, Try.results63, go_sem, j0, j1, j2]) rfl ⟨rfl, hB⟩
end Go.Proofs.Ytkhopkonddgicaa

/- Contract: which gates are needed, in the reference. -/
namespace Go.Proofs.Ytkhopkonddgicaa
open Go.RowKit

/-- What has been looked at when c rounds are over. -/
def dnN (n c : Nat) : List Nat := (comeF n c).map Fin.val
theorem dnN_zero (n : Nat) : dnN n 0 = [] := rfl
theorem dnN_succ {n c : Nat} (h : c < n) : dnN n (c + 1) = dnN n c ++ [n - 1 - c] := by unfold dnN; rw [comeF_succ h, List.map_append]; rfl
theorem dnN_all (n : Nat) : dnN n n = downN n := comeF_all n

set_option maxRecDepth 100000 in
set_option maxHeartbeats 8000000 in
theorem l6Needed_any {vars : Int} (A : Option Addr) (c : Nat) (gs : List Gt) (w : World) (hx : GtAt w A gs) (hg : OkG vars gs) (hp : 0 < gs.length) (hl : gs.length ≤ 1000) (hv : vars ≤ 1000) :
    Calls Try.prog 67 #[.slice A gs.length c] w fun e w' => e = .returned (.slice (some ⟨w.heap.size, 0, none⟩) gs.length gs.length) ∧ Sp w w' [Box w.heap.size 4 (boolsA gs.length (needB gs))] := by
  obtain ⟨m, hm⟩ : ∃ m, gs.length = m + 1 := ⟨gs.length - 1, by omega⟩
  have hw : IntKind.i64.wrap ((gs.length : Int) - 1) = (m : Int) := by rw [show (gs.length : Int) - 1 = m by omega]; exact IntWalk.i64_in _ (by omega)
  have hmi : (m : Int) < gs.length := by omega
  have hml : m < gs.length := by omega
  replace hm := Lib.hid hm
  have hmk := fun W => mk_bools gs.length (by omega) (gs.length : Int) rfl W
  obtain ⟨M, hM⟩ : ∃ M, boolsA gs.length (fun _ => false) = M := ⟨_, rfl⟩
  rw [hM] at hmk
  have S0 := (Sp.start w).alloc_box M 4
  have k0 := S0.cell (i := 0) rfl (o := m) (by rw [← hM]; exact boolsA_get hml)
  have k1 := S0.frozen (i := 0) rfl m
  have hM2 : M.setIfInBounds m (.bool true) = boolsA gs.length (needF gs (dnN gs.length 0)).1 := by
    rw [← hM, boolsA_set]
    refine boolsA_congr fun j _ => ?_
    have hm2 := hm.out
    by_cases e : j = m
    · simp [needF, dnN_zero, e, show m = gs.length - 1 by omega]
    · simp [needF, dnN_zero, e, show ¬ j = gs.length - 1 by omega]
  replace hM2 := Lib.hid hM2
  have S2 := Lib.hid ((Sp.start w).alloc_box (M.setIfInBounds m (.bool true)) 4)
  have hX := Lib.hid hx
  replace hg := Lib.hid hg
  clear S0 hM hx
  go_enter Try.func67, Try.ntmps67
  go_wp2_with fail
  clear k0 k1 hmk
  go_loopw [4] (fun i wr => ∃ (q : Nat) (z : Int), q ≤ gs.length ∧ i = .int .i64 z ∧ z = (gs.length : Int) - 1 - q ∧ Hid (Sp w wr [Box w.heap.size 4 (boolsA gs.length (needF gs (dnN gs.length q)).1)])) (fun i _ => (intOf i + 1).toNat)
  case atStart => exact ⟨0, _, Nat.zero_le _, rfl, by have := hm.out; omega, by unfold Hid; rw [← hM2.out]; exact S2.out⟩
  case round =>
    obtain ⟨q, z, hq, rfl, hz, hS⟩ := hrel
    clear S2
    by_cases hlt : q < gs.length
    · obtain ⟨y, hy⟩ : ∃ y, gs.length - 1 - q = y := ⟨_, rfl⟩
      have hyl : y < gs.length := by omega
      obtain rfl : z = (y : Int) := by omega
      have hz0 : (0 : Int) ≤ (y : Int) := by omega
      have hyi : (y : Int) < gs.length := by omega
      have hw1 : IntKind.i64.wrap ((y : Int) - 1) = (y : Int) - 1 := IntWalk.i64_in _ (by omega)
      have hdn := dnN_succ hlt
      rw [hy] at hdn
      have hst : needF gs (dnN gs.length (q + 1)) = needStep gs (needF gs (dnN gs.length q)) y := by rw [hdn, needF_snoc]
      clear hdn
      replace hz := Lib.hid hz
      replace hy := Lib.hid hy
      obtain ⟨b, off, e, m0, m1, m2⟩ := (hX.out.grow hS.out.below).at_ y hyl
      cases e
      have hgx := gtB_iff.1 (hg.out y hyl)
      have hins := ins_lt (hg.out y hyl)
      have hd : gs.getD y ⟨0, 0, 0⟩ = gs[y] := by rw [List.getD_eq_getElem?_getD, List.getElem?_eq_getElem hyl]; rfl
      have hst2 : (needF gs (dnN gs.length (q + 1))).1 = fun j => (needF gs (dnN gs.length q)).1 j || ((needF gs (dnN gs.length q)).1 y && decide (j ∈ insG gs[y])) := by
        rw [hst]
        unfold needStep
        rw [hd]
        cases (needF gs (dnN gs.length q)).1 y
        · simp
        · simp
      clear hst hd
      generalize (needF gs (dnN gs.length q)).1 = f at hS hst2
      generalize gs[y] = g at m0 m1 m2 hgx hins hst2
      have hI2 : (insG g).length ≤ 2 := by
        unfold insG
        split
        · simp
        · split
          · simp
          · simp
      have hcall := Lib.hid (fun W => l6Inputs_any g (by omega) (by omega) W)
      obtain ⟨gk, ga, gb⟩ := g
      dsimp only at m0 m1 m2
      generalize insG ⟨gk, ga, gb⟩ = I at hcall hins hI2 hst2
      replace hst2 := Lib.hid hst2
      clear hgx
      go_wp2_with fail
      refine (hcall.out _).mono ?_
      rintro e w5 ⟨A5, c5, rfl, hI5, hb5⟩
      have S3 := hS.out.grow hb5
      have hS7 : Sp w w5 [Box w.heap.size 4 (boolsA gs.length (fun j => f j || (f y && decide (j ∈ I.take 0))))] := by
        rw [boolsA_congr (g := f) (fun j _ => by simp)]
        exact S3
      replace hS7 := Lib.hid hS7
      replace hI5 := Lib.hid hI5
      clear S3 hS hb5 hcall m0 m1 m2
      go_wp2_with fail
      go_loopw [6] (fun i wo => ∃ q2 : Nat, q2 ≤ I.length ∧ i = .int .i64 q2 ∧ Hid (Sp w wo [Box w.heap.size 4 (boolsA gs.length (fun j => f j || (f y && decide (j ∈ I.take q2))))]) ∧ Hid (IntsAt wo A5 (natI I))) (fun i _ => I.length - (intOf i).toNat)
      case atStart => exact ⟨0, Nat.zero_le _, rfl, hS7, hI5⟩
      case round =>
        rename World => wo
        obtain ⟨q2, hq2, rfl, hSr, hIr⟩ := hrel
        clear hS7 hI5
        have t9 := hSr.out.cell (i := 0) rfl (o := y) (boolsA_get hyl)
        have hyv : (f y || (f y && decide (y ∈ I.take q2))) = f y := by cases f y <;> simp
        rw [hyv] at t9
        by_cases hlt2 : q2 < I.length
        · have hqi : (q2 : Int) < I.length := by omega
          cases hfy : f y
          · rw [hfy] at t9
            go_wp2_with fail
            go_roundw
            case rel =>
              refine ⟨q + 1, _, by omega, rfl, by have := hz.out; omega, ?_⟩
              unfold Hid
              rw [hst2.out]
              have h := hSr.out
              rw [boolsA_congr (g := fun j => f j || (f y && decide (j ∈ I))) (fun j _ => by simp [hfy])] at h
              exact h
            case measure => simp [intOf]
          · rw [hfy] at t9
            have hnl2 := natI_len I
            obtain ⟨b5, off5, e, hc⟩ := hIr.out.at_ q2 (by omega)
            have hne := Lib.hid (ints_ne (i := 0) hSr.out rfl hIr.out (by intro e0; rw [e0] at hnl2; simp at hnl2; omega))
            subst e
            have hv2 : (natI I)[q2]'(by omega) = ((I[q2] : Nat) : Int) := by simp [natI]
            rw [hv2] at hc
            have hx := Nat.lt_trans (hins _ (List.getElem_mem hlt2)) hyl
            have htk : I.take (q2 + 1) = I.take q2 ++ [I[q2]] := by rw [List.take_succ_eq_append_getElem hlt2]
            have htk2 := Lib.hid htk
            clear htk hv2
            generalize I[q2] = x at hc hx htk2
            have hxi : (x : Int) < gs.length := by omega
            have t1 := hSr.out.cell (i := 0) rfl (o := x) (boolsA_get hx)
            have t2 := hSr.out.frozen (i := 0) rfl x
            have SS := Lib.hid (hSr.out.store (i := 0) rfl x (.bool true))
            clear hSr
            go_wp2_with fail
            go_roundw
            case rel =>
              refine ⟨q2 + 1, by omega, by first | rfl | simp, ?_, ?_⟩
              · have h := SS.out
                simp only [List.set_cons_zero, List.set_cons_succ] at h
                rw [boolsA_set] at h
                unfold Hid
                rw [htk2.out]
                rw [boolsA_congr (g := fun j => f j || (f y && decide (j ∈ I.take q2 ++ [x]))) (fun j _ => by
                  by_cases e : j = x
                  · simp [e, hfy]
                  · simp [e])] at h
                first | exact h | (simp only [hfy] at h; exact h)
              · exact Lib.hid (hIr.out.set hne.out _ _)
            case measure => simp [intOf]; omega
        · obtain rfl : q2 = I.length := by omega
          go_wp2_with fail
          go_roundw
          case rel =>
            refine ⟨q + 1, _, by omega, rfl, by have := hz.out; omega, ?_⟩
            unfold Hid
            rw [hst2.out]
            have h := hSr.out
            rw [List.take_length] at h
            exact h
          case measure => simp [intOf]
    · obtain rfl : q = gs.length := by omega
      have hz0 : ¬ (0 : Int) ≤ z := by omega
      rw [dnN_all] at hS
      go_wp2_with fail
      go_ret
      exact ⟨rfl, hS.out⟩
end Go.Proofs.Ytkhopkonddgicaa

/- Contract: the trimmed circuit, in the reference. -/
namespace Go.Proofs.Ytkhopkonddgicaa
open Go.RowKit

theorem two1 {w W : World} {ps : List Asn} {N : Nat} (S : Sp w W ps) (hN : W.heap.size = N) (c : Array Value) (t e : TypeId) (size : Nat) :
    Sp w ((W.alloc (.cells #[] e)).alloc (.cells c t)).drew (Box (N + 1) t c :: Own e size (.slice (some ⟨N, 0, none⟩) 0 0) 0 [] :: ps) := by
  have h := ((S.own_made e size).alloc_box c t).drew
  simp only [World.size_alloc, hN] at h
  exact h
theorem two2 {w W : World} {ps : List Asn} {N : Nat} (S : Sp w W ps) (hN : W.heap.size = N) (c : Array Value) (t e : TypeId) (size : Nat) :
    Sp w ((W.alloc (.cells c t)).alloc (.cells #[] e)).drew (Own e size (.slice (some ⟨N + 1, 0, none⟩) 0 0) 0 [] :: Box N t c :: ps) := by
  have h := ((S.alloc_box c t).own_made e size).drew
  simp only [World.size_alloc, hN] at h
  exact h
/-- Where the needed gates go. -/
def toF (f : Nat → Bool) (q j : Nat) : Nat := if j < q ∧ f j = true then cntF f j else 0

set_option maxRecDepth 100000 in
set_option maxHeartbeats 16000000 in
theorem l6Trim_any {vars : Int} (A : Option Addr) (c : Nat) (gs : List Gt) (w : World) (hx : GtAt w A gs) (hg : OkG vars gs) (hp : 0 < gs.length) (hl : gs.length ≤ 1000) (hv : vars ≤ 1000) :
    Calls Try.prog 58 #[.slice A gs.length c] w fun e w' => ∃ v, e = .returned v ∧ Sp w w' [Own 41 3 v (trimG gs (needL gs)).length ((trimG gs (needL gs)).flatMap gtEnc)] := by
  obtain ⟨i0, hi0, hz0, hz1, hz2⟩ := info_parts infoGt
  have hcall := Lib.hid (l6Needed_any A c gs w hx hg hp hl hv)
  have hall := Lib.hid (trimT_all hg hp)
  have hni := Lib.hid (fun i hi h => needB_ins hg hp (i := i) hi h)
  generalize trimG gs (needL gs) = R at hall ⊢
  generalize needB gs = f at hcall hall hni
  have hmk := fun W => mk_nums gs.length (by omega) (gs.length : Int) rfl W
  obtain ⟨Z, hZ⟩ : ∃ Z, numsA gs.length (fun _ => 0) = Z := ⟨_, rfl⟩
  rw [hZ] at hmk
  replace hZ := Lib.hid hZ
  have hX := Lib.hid hx
  replace hg := Lib.hid hg
  clear hx
  go_enter Try.func58, Try.ntmps58
  go_wp2_with fail
  refine hcall.out.mono ?_
  rintro e w1 ⟨rfl, S1⟩
  obtain ⟨N1, hN1⟩ : ∃ N1, w1.heap.size = N1 := ⟨_, rfl⟩
  clear hcall
  go_upto_region 2 with fail
  go_cut [4, 5] (fun s4 s5 wx => ∃ ob tb : Nat, s4 = .slice (some ⟨ob, 0, none⟩) 0 0 ∧ s5 = .slice (some ⟨tb, 0, none⟩) gs.length gs.length ∧ Hid (Sp w wx [Own 41 3 (.slice (some ⟨ob, 0, none⟩) 0 0) 0 [], Box tb 3 Z, Box w.heap.size 4 (boolsA gs.length f)]))
  case first =>
    go_region
    all_goals go_wp2_with fail
    all_goals go_meet
    all_goals (try rw [hN1])
    all_goals first
      | exact ⟨_, _, rfl, rfl, Lib.hid (Sp.pick [1, 0, 0] (two1 S1 hN1 _ _ _ _) rfl)⟩
      | exact ⟨_, _, rfl, rfl, Lib.hid (Sp.pick [0, 0, 0] (two2 S1 hN1 _ _ _ _) rfl)⟩
  case rest =>
    obtain ⟨ob, tb, rfl, rfl, S2⟩ := hcut
    clear S1 hmk hN1
    have hz3 : Hid (numsA gs.length (toF f 0) = Z) := by
      unfold Hid
      rw [← hZ.out]
      exact numsA_congr fun j _ => by simp [toF]
    go_wp2_with fail
    go_loopw [6, 4] (fun i o wr => ∃ (q : Nat) (ov : Value), q ≤ gs.length ∧ i = .int .i64 (q : Int) ∧ o = ov ∧ Hid (Sp w wr [Own 41 3 ov (cntF f q) ((trimT gs f q).flatMap gtEnc), Box tb 3 (numsA gs.length (toF f q)), Box w.heap.size 4 (boolsA gs.length f)])) (fun i _ _ => gs.length - (intOf i).toNat)
    case atStart => exact ⟨0, _, Nat.zero_le _, rfl, rfl, by unfold Hid; rw [hz3.out]; exact S2.out⟩
    case round =>
      obtain ⟨q, ov, hq, rfl, rfl, hS⟩ := hrel
      clear S2
      obtain ⟨aO, cO, rfl⟩ := own_slice (hS.out.own (i := 0) rfl)
      by_cases hlt : q < gs.length
      · have hqi : (q : Int) < gs.length := by omega
        have hcl := cntF_le f q
        have hts := trimT_succ gs f q
        have hcs := cntF_succ f q
        have t0 := hS.out.cell (i := 2) rfl (o := q) (boolsA_get hlt)
        cases hfq : f q
        · rw [hfq] at t0
          rw [hfq, if_neg (by decide)] at hts hcs
          replace hts := Lib.hid hts
          replace hcs := Lib.hid hcs
          have hnq : Hid (numsA gs.length (toF f q) = numsA gs.length (toF f (q + 1))) := numsA_congr fun j _ => by
            unfold toF
            by_cases e : j = q
            · subst e; simp [hfq]
            · by_cases h : j < q
              · simp [h, Nat.lt_succ_of_lt h]
              · simp [h, show ¬ j < q + 1 by omega]
          go_wp2_with fail
          go_roundw
          case rel =>
            refine ⟨q + 1, _, by omega, by first | rfl | simp, rfl, ?_⟩
            unfold Hid
            rw [hts.out, hcs.out, ← hnq.out]
            exact hS.out
          case measure => simp [intOf]; omega
        · rw [hfq] at t0
          rw [hfq, if_pos rfl] at hts hcs
          have hd : gs.getD q ⟨0, 0, 0⟩ = gs[q] := by rw [List.getD_eq_getElem?_getD, List.getElem?_eq_getElem hlt]; rfl
          rw [hd] at hts
          have t1 := hS.out.cell (i := 1) rfl (o := q) (numsA_get hlt)
          have t2 := hS.out.frozen (i := 1) rfl q
          have S3 := hS.out.store (i := 1) rfl q (.int .i64 (cntF f q : Nat))
          simp only [List.set_cons_zero, List.set_cons_succ] at S3
          rw [numsA_set, numsA_congr (g := toF f (q + 1)) (fun j _ => by
            unfold toF
            by_cases e : j = q
            · subst e; simp [hfq]
            · by_cases h : j < q
              · simp [e, h, Nat.lt_succ_of_lt h]
              · simp [e, h, show ¬ j < q + 1 by omega])] at S3
          obtain ⟨bg, og, e, m0, m1, m2⟩ := (hX.out.grow S3.below).at_ q hlt
          cases e
          have hgx := gtB_iff.1 (hg.out q hlt)
          have hins := ins_lt (hg.out q hlt)
          have hni2 := hni.out q hlt hfq
          generalize gs[q] = g at m0 m1 m2 hgx hins hni2 hts
          have hmv := Lib.hid (l6Moved_any g tb 0 gs.length gs.length (cntF f) (by omega) (by omega) _ (fun k hk => ⟨by have := hins k hk; omega, by
            have h := S3.cell (i := 1) rfl (o := k) (numsA_get (by have := hins k hk; omega))
            have e2 : toF f (q + 1) k = cntF f k := by unfold toF; rw [if_pos ⟨by have := hins k hk; omega, hni2 k hk⟩]
            rw [e2] at h
            rw [Nat.zero_add]
            exact h⟩))
          generalize mvG (cntF f) g = z at hmv hts
          obtain ⟨gk, ga, gb⟩ := g
          obtain ⟨zk, za, zb⟩ := z
          dsimp only at m0 m1 m2
          replace hts := Lib.hid hts
          replace hcs := Lib.hid hcs
          replace S3 := Lib.hid S3
          generalize cntF f q = N at *
          clear hgx hins hni2 hd hS
          go_wp2_with fail
          refine hmv.out.mono ?_
          rintro e w2 ⟨rfl, hb2⟩
          have hS := Lib.hid (S3.out.grow hb2)
          clear S3 hb2 hmv t0 t1 t2 m0 m1 m2
          have S3 := hS.out.alloc_box #[.int .i64 zk, .int .i64 za, .int .i64 zb] 41
          (try simp only [World.size_setCell] at S3)
          have kG0 := S3.cell (i := 0) rfl (o := 0) rfl
          have kG1 := S3.cell (i := 0) rfl (o := 1) rfl
          have kG2 := S3.cell (i := 0) rfl (o := 2) rfl
          replace S3 := Lib.hid S3
          clear hS
          go_wp2_with (at_builtin; refine wpList_append_src rfl _ _ rfl Try.underlying28 hi0 hz0 hz1 hz2 rfl (by decide) _ N _ rfl (S3.out.own (i := 1) rfl) _ 1 1 [.int .i64 zk, .int .i64 za, .int .i64 zb] rfl (Src.threeG kG0 kG1 kG2) (by simp [Value.oneCell']) ?c3 ?c4 ?_)
          case c3 => unfold maxLen; omega
          case c4 => omega
          intro vE wE hownE hgE hatE
          have S4 := (S3.out.own_push (i := 1) rfl (bb _) hownE hgE (by simpa using hatE)).tail
          simp only [List.set_cons_zero, List.set_cons_succ] at S4
          obtain ⟨aE, cE, rfl⟩ := own_slice hownE
          have hS := Lib.hid S4
          clear S3 S4 kG0 kG1 kG2 hownE hgE hatE
          go_wp2_with fail
          go_roundw
          case rel =>
            refine ⟨q + 1, _, by omega, by first | rfl | simp, rfl, ?_⟩
            unfold Hid
            rw [hts.out, hcs.out, flat_snoc]
            exact hS.out
          case measure => simp [intOf]; omega
      · obtain rfl : q = gs.length := by omega
        have hR := hall.out
        have hlen : Hid (R.length = cntF f gs.length) := by unfold Hid; rw [← hR, trimT_len]
        rw [hR] at hS
        replace hR := Lib.hid hR
        go_wp2_with fail
        go_ret
        refine ⟨_, rfl, ?_⟩
        rw [hlen.out]
        exact hS.out.pick [0] rfl
end Go.Proofs.Ytkhopkonddgicaa

/- Contracts: valid circuits, kept gates, in the reference. -/
namespace Go.Proofs.Ytkhopkonddgicaa
open Go.RowKit

theorem l1InG {x lo hi : Int} {q : Bool} (h : inB x lo hi = q) (w : World) : Calls Try.prog 76 #[.int .i64 x, .int .i64 lo, .int .i64 hi] w fun e w' => e = .returned (.bool q) ∧ Below w.heap.size w w' :=
  (l1In_any x lo hi w).mono fun e w' ⟨h1, h2⟩ => ⟨by rw [h1, h], h2 ▸ bb _⟩

set_option maxRecDepth 100000 in
set_option maxHeartbeats 8000000 in
theorem l6Gate_any (vars : Int) (i : Nat) (g : Gt) (hi : i ≤ 1000000) (w : World) : Calls Try.prog 92 #[.int .i64 vars, gtV g, .int .i64 i] w fun e w' => e = .returned (.bool (gtB vars i g)) ∧ Below w.heap.size w w' := by
  obtain ⟨k, a, b⟩ := g
  have hB := bal (bb w) (.cells #[.int .i64 k, .int .i64 a, .int .i64 b] 41)
  have hw : IntKind.i64.wrap ((i : Int) - 1) = (i : Int) - 1 := IntWalk.i64_in _ (by omega)
  replace hB := Lib.hid hB
  by_cases h1 : k = 1
  · subst h1
    rw [gtB_1]
    obtain ⟨q, hq⟩ : ∃ q, inB a 1 vars = q := ⟨_, rfl⟩
    rw [hq]
    have hc := Lib.hid (fun W => l1InG hq W)
    cases q <;> by_cases hb : b = 0
    all_goals
      have k2 := Lib.hid (((Sp.start w).alloc_box #[.int .i64 1, .int .i64 a, .int .i64 b] 41).cell (i := 0) rfl (o := 2) rfl)
      first | subst hb | skip
      go_enter Try.func92, Try.ntmps92
      go_wp2_with fail
      refine (hc.out _).mono ?_
      rintro e w1 ⟨rfl, hb1⟩
      have hB2 := btr hB.out hb1
      have k3 := (bcell hb1).1 _ 2 (World.block_lt_of_cell? _ _ k2.out) ▸ k2.out
      clear k2
      go_wp2_with fail
      go_ret
      exact ⟨by first | rfl | simp [hb], hB2⟩
  by_cases h2 : k = 2
  · subst h2
    rw [gtB_2]
    by_cases ha : a = 0 <;> by_cases hb : b = 0
    all_goals
      first | subst ha | skip
      first | subst hb | skip
      go_enter Try.func92, Try.ntmps92
      go_wp2_with fail
      go_ret
      exact ⟨by first | rfl | simp [ha] | simp [hb] | simp [ha, hb], hB.out⟩
  by_cases h3 : k = 3
  · subst h3
    rw [gtB_3]
    by_cases ha : a = 0 <;> by_cases hb : b = 0
    all_goals
      first | subst ha | skip
      first | subst hb | skip
      go_enter Try.func92, Try.ntmps92
      go_wp2_with fail
      go_ret
      exact ⟨by first | rfl | simp [ha] | simp [hb] | simp [ha, hb], hB.out⟩
  by_cases h4 : k = 4
  · subst h4
    rw [gtB_4]
    obtain ⟨q, hq⟩ : ∃ q, inB a 0 ((i : Int) - 1) = q := ⟨_, rfl⟩
    rw [hq]
    have hc := Lib.hid (fun W => l1InG hq W)
    cases q <;> by_cases hb : b = 0
    all_goals
      have k2 := Lib.hid (((Sp.start w).alloc_box #[.int .i64 4, .int .i64 a, .int .i64 b] 41).cell (i := 0) rfl (o := 2) rfl)
      first | subst hb | skip
      go_enter Try.func92, Try.ntmps92
      go_wp2_with fail
      refine (hc.out _).mono ?_
      rintro e w1 ⟨rfl, hb1⟩
      have hB2 := btr hB.out hb1
      have k3 := (bcell hb1).1 _ 2 (World.block_lt_of_cell? _ _ k2.out) ▸ k2.out
      clear k2
      go_wp2_with fail
      go_ret
      exact ⟨by first | rfl | simp [hb], hB2⟩
  by_cases h5 : k = 5 ∨ k = 6
  · have hg : gtB vars i ⟨k, a, b⟩ = (inB a 0 ((i : Int) - 1) && inB b 0 ((i : Int) - 1)) := by
      rcases h5 with rfl | rfl
      · rfl
      · rfl
    rw [hg]
    obtain ⟨q, hq⟩ : ∃ q, inB a 0 ((i : Int) - 1) = q := ⟨_, rfl⟩
    obtain ⟨q2, hq2⟩ : ∃ q, inB b 0 ((i : Int) - 1) = q := ⟨_, rfl⟩
    rw [hq, hq2]
    have hc := Lib.hid (fun W => l1InG hq W)
    have hc2 := Lib.hid (fun W => l1InG hq2 W)
    have k2 := Lib.hid (((Sp.start w).alloc_box #[.int .i64 k, .int .i64 a, .int .i64 b] 41).cell (i := 0) rfl (o := 2) rfl)
    clear hg hq hq2
    rcases h5 with rfl | rfl
    all_goals
      cases q
      · go_enter Try.func92, Try.ntmps92
        go_wp2_with fail
        refine (hc.out _).mono ?_
        rintro e w1 ⟨rfl, hb1⟩
        have hB2 := btr hB.out hb1
        go_wp2_with fail
        go_ret
        exact ⟨rfl, hB2⟩
      · go_enter Try.func92, Try.ntmps92
        go_wp2_with fail
        refine (hc.out _).mono ?_
        rintro e w1 ⟨rfl, hb1⟩
        have hB2 := btr hB.out hb1
        have k3 := (bcell hb1).1 _ 2 (World.block_lt_of_cell? _ _ k2.out) ▸ k2.out
        clear k2
        go_wp2_with fail
        refine (hc2.out _).mono ?_
        rintro e w2 ⟨rfl, hb2⟩
        have hB3 := btr hB2 hb2
        go_wp2_with fail
        go_ret
        exact ⟨rfl, hB3⟩
  · have h5' : k ≠ 5 := fun e => h5 (.inl e)
    have h6' : k ≠ 6 := fun e => h5 (.inr e)
    rw [gtB_no h1 h2 h3 h4 h5' h6']
    clear h5
    go_enter Try.func92, Try.ntmps92
    go_wp2_with fail
    go_ret
    exact ⟨rfl, hB.out⟩

set_option maxRecDepth 100000 in
set_option maxHeartbeats 8000000 in
theorem l6Good_any (vars : Int) (A : Option Addr) (c : Nat) (gs : List Gt) (w : World) (hx : GtAt w A gs) (hl : gs.length ≤ 1000000) :
    Calls Try.prog 57 #[.int .i64 vars, .slice A gs.length c] w fun e w' => e = .returned (.bool (circB vars gs)) ∧ Below w.heap.size w w' := by
  have hN := Lib.hid hx
  have hz : Hid (gsB vars gs 0 = true) := rfl
  clear hx
  have hcirc : Hid (circB vars gs = (gsB vars gs gs.length && inB vars 0 12 && inB gs.length 1 200)) := rfl
  obtain ⟨q1, hq1⟩ : ∃ q, inB vars 0 12 = q := ⟨_, rfl⟩
  obtain ⟨q2, hq2⟩ : ∃ q, inB gs.length 1 200 = q := ⟨_, rfl⟩
  rw [hq1, hq2] at hcirc
  have h1 := l2Vars_any vars
  rw [hq1] at h1
  have h2 := fun W => l1InG hq2 W
  replace h1 := Lib.hid h1
  replace h2 := Lib.hid h2
  clear hq1 hq2
  cases q1
  · have hR : Hid (circB vars gs = false) := by unfold Hid; rw [hcirc.out, Bool.and_false, Bool.false_and]
    clear hcirc
    go_enter Try.func57, Try.ntmps57
    go_wp2_with fail
    refine (h1.out _).mono ?_
    rintro e w1 ⟨rfl, rfl⟩
    go_wp2_with fail
    go_ret
    exact ⟨ret_bool hR.out.symm, bb _⟩
  cases q2
  · have hR : Hid (circB vars gs = false) := by unfold Hid; rw [hcirc.out, Bool.and_false]
    clear hcirc
    go_enter Try.func57, Try.ntmps57
    go_wp2_with fail
    refine (h1.out _).mono ?_
    rintro e w1 ⟨rfl, rfl⟩
    go_wp2_with fail
    refine (h2.out _).mono ?_
    rintro e w2 ⟨rfl, hb2⟩
    replace hb2 := Lib.hid hb2
    go_wp2_with fail
    go_ret
    exact ⟨ret_bool hR.out.symm, hb2.out⟩
  rw [Bool.and_true, Bool.and_true] at hcirc
  go_enter Try.func57, Try.ntmps57
  go_wp2_with fail
  refine (h1.out _).mono ?_
  rintro e w1 ⟨rfl, rfl⟩
  go_wp2_with fail
  refine (h2.out _).mono ?_
  rintro e w2 ⟨rfl, hb2⟩
  replace hb2 := Lib.hid hb2
  go_wp2_with fail
  go_loopw [5] (fun i wr => ∃ k : Nat, k ≤ gs.length ∧ i = .int .i64 k ∧ Hid (gsB vars gs k = true) ∧ Hid (Below w.heap.size w wr)) (fun i _ => gs.length - (intOf i).toNat)
  case atStart => exact ⟨0, Nat.zero_le _, rfl, hz, hb2⟩
  case round =>
    obtain ⟨k, hk, rfl, HD, HB⟩ := hrel
    clear hb2
    by_cases hlt : k < gs.length
    · obtain ⟨b, off, rfl, m0, m1, m2⟩ := (hN.out.grow HB.out).at_ k hlt
      have hki : (k : Int) < gs.length := by omega
      have hsu := gsB_succ vars gs k
      rw [HD.out, List.getD_eq_getElem?_getD, List.getElem?_eq_getElem hlt] at hsu
      have hall : Hid (gtB vars k gs[k] = false → circB vars gs = false) := by
        intro h
        rw [hcirc.out]
        cases h2 : gsB vars gs gs.length
        · rfl
        · have := gsB_ok.1 h2 k hlt
          rw [h] at this; exact absurd this (by decide)
      have hcall := Lib.hid (l6Gate_any vars k gs[k] (by omega))
      dsimp only [Option.getD_some] at hsu
      generalize gs[k] = g at *
      obtain ⟨gk, ga, gb⟩ := g
      dsimp only at *
      clear HD
      obtain ⟨q, hq⟩ : ∃ q, gtB vars k ⟨gk, ga, gb⟩ = q := ⟨_, rfl⟩
      rw [hq] at hcall hall hsu
      clear hq
      replace hsu := Lib.hid hsu
      go_wp2_with fail
      refine (hcall.out _).mono ?_
      rintro e w3 ⟨rfl, hb1⟩
      have HB3 := Lib.hid (btr HB.out hb1)
      clear HB hb1 m0 m1 m2 hcall
      cases q
      · have hno := Lib.hid (hall.out rfl)
        clear hall
        go_wp2_with fail
        go_ret
        exact ⟨ret_bool hno.out.symm, HB3.out⟩
      · have hD : Hid (gsB vars gs (k + 1) = true) := hsu.out
        go_wp2_with fail
        go_roundw
        case rel => exact ⟨k + 1, by omega, by first | rfl | simp, hD, HB3⟩
        case measure => simp [intOf]; omega
    · obtain rfl : k = gs.length := by omega
      have hR : Hid (circB vars gs = true) := by unfold Hid; rw [hcirc.out, HD.out]
      go_wp2_with fail
      go_ret
      exact ⟨ret_bool hR.out.symm, HB.out⟩

theorem l6Opposite_any (k : Int) (w : World) : Calls Try.prog 62 #[.int .i64 k] w fun e w' => e = .returned (.int .i64 (dualK k)) ∧ w = w' := by
  unfold dualK
  by_cases h5 : k = 5
  · subst h5
    go_enter Try.func62, Try.ntmps62
    go_wp2_with fail
    go_ret
    exact ⟨rfl, rfl⟩
  by_cases h6 : k = 6
  · subst h6
    go_enter Try.func62, Try.ntmps62
    go_wp2_with fail
    go_ret
    exact ⟨rfl, rfl⟩
  by_cases h2 : k = 2
  · subst h2
    go_enter Try.func62, Try.ntmps62
    go_wp2_with fail
    go_ret
    exact ⟨rfl, rfl⟩
  by_cases h3 : k = 3
  · subst h3
    go_enter Try.func62, Try.ntmps62
    go_wp2_with fail
    go_ret
    exact ⟨rfl, rfl⟩
  rw [if_neg h5, if_neg h6, if_neg h2, if_neg h3]
  go_enter Try.func62, Try.ntmps62
  go_wp2_with fail
  go_ret
  exact ⟨rfl, rfl⟩

set_option maxRecDepth 100000 in
set_option maxHeartbeats 8000000 in
theorem l6Keep_any {w0 : World} {ps : List Asn} (u : Value) (M : List Gt) (g : Gt) (w : World) (hok : ∀ x ∈ M, gtOk x) (hl : M.length ≤ 1000) (HS : Sp w0 w (Own 41 3 u M.length (M.flatMap gtEnc) :: ps)) :
    Calls Try.prog 94 #[u, gtV g] w fun e w' => ∃ v', e = .returned (.tuple #[.int .i64 ((keepG M g).2 : Nat), v']) ∧ Sp w0 w' (Own 41 3 v' (keepG M g).1.length ((keepG M g).1.flatMap gtEnc) :: ps) := by
  obtain ⟨v, lo, hi⟩ := g
  obtain ⟨i0, hi0, hz0, hz1, hz2⟩ := info_parts infoGt
  obtain ⟨A, c, rfl, hN⟩ := gt_own (HS.own (i := 0) rfl) hok
  have S0 := Lib.hid (HS.alloc_box #[.int .i64 v, .int .i64 lo, .int .i64 hi] 41)
  clear hN HS
  go_enter Try.func94, Try.ntmps94
  go_wp2_with fail
  go_loopw [6] (fun i wr => ∃ k : Nat, k ≤ M.length ∧ i = .int .i64 k ∧ Hid ((⟨v, lo, hi⟩ : Gt) ∉ M.take k) ∧ Hid (Sp w0 wr (Box w.heap.size 41 #[.int .i64 v, .int .i64 lo, .int .i64 hi] :: Own 41 3 (.slice A M.length c) M.length (M.flatMap gtEnc) :: ps))) (fun i _ => M.length - (intOf i).toNat)
  case atStart => exact ⟨0, Nat.zero_le _, rfl, by unfold Hid; simp, S0⟩
  case round =>
    obtain ⟨k, hk, rfl, HD, HS⟩ := hrel
    clear S0
    by_cases hlt : k < M.length
    · have hki : (k : Int) < M.length := by omega
      obtain ⟨A', c', e', hM⟩ := gt_own (HS.out.own (i := 1) rfl) hok
      cases e'
      obtain ⟨b, off, rfl, m0, m1, m2⟩ := hM.at_ k hlt
      have k0 := cell_regrown m0
      have k1 := cell_regrown m1
      have k2 := cell_regrown m2
      have c0 := cell_regrown (HS.out.cell (i := 0) rfl (o := 0) rfl)
      have c1 := cell_regrown (HS.out.cell (i := 0) rfl (o := 1) rfl)
      have c2 := cell_regrown (HS.out.cell (i := 0) rfl (o := 2) rfl)
      have hyes := Lib.hid (idxG_here hlt HD.out)
      have hno := Lib.hid (idxG_next hlt HD.out)
      have hmem := List.getElem_mem hlt
      generalize M[k] = m at *
      obtain ⟨v', lo', hi'⟩ := m
      dsimp only at *
      clear m0 m1 m2 hM
      have hst := gt_held
      have hgu := gt_guard
      by_cases e : (⟨v', lo', hi'⟩ : Gt) = ⟨v, lo, hi⟩
      · have hR := hyes.out e
        unfold idxG at hR
        rw [← e, if_pos hmem] at hR
        have hK : Hid (keepG M ⟨v, lo, hi⟩ = (M, k)) := by
          unfold Hid keepG
          rw [← e, if_pos hmem]
          congr 1
          omega
        cases e
        clear hyes hno HD hR hmem
        go_wp2_with fail
        refine wp_region_quiet_below (by kernel_rfl) (by kernel_rfl) ?_
        repeat (any_goals (go_big_quiet_step (fail)))
        refine wpQuiet_nil ?_
        rintro w1 ⟨p, rfl⟩
        have HS2 := Lib.hid (HS.out.grow (below_regrown _ p.d p.os)).tail
        clear HS k0 k1 k2 c0 c1 c2
        go_wp2_with fail
        go_ret2
        rw [hK.out]
        exact ⟨_, rfl, HS2.out⟩
      · have hD := Lib.hid (hno.out e)
        have hcase : (¬ v' = v) ∨ (v' = v ∧ ¬ lo' = lo) ∨ (v' = v ∧ lo' = lo ∧ ¬ hi' = hi) := by
          by_cases h1 : v' = v
          · by_cases h2 : lo' = lo
            · exact .inr (.inr ⟨h1, h2, fun h3 => e (by rw [h1, h2, h3])⟩)
            · exact .inr (.inl ⟨h1, h2⟩)
          · exact .inl h1
        clear hyes hno HD e hmem
        rcases hcase with hne | ⟨rfl, hne⟩ | ⟨rfl, rfl, hne⟩
        all_goals
          go_wp2_with fail
          refine wp_region_quiet_below (by kernel_rfl) (by kernel_rfl) ?_
          repeat (any_goals (go_big_quiet_step (fail)))
          refine wpQuiet_nil ?_
          rintro w1 ⟨p, rfl⟩
          have HS2 := Lib.hid (HS.out.grow (below_regrown _ p.d p.os))
          clear HS k0 k1 k2 c0 c1 c2
          go_wp2_with fail
          go_roundw
          case rel => exact ⟨k + 1, by omega, by go_num, hD, HS2⟩
          case measure => simp [intOf]; omega
    · obtain rfl : k = M.length := by omega
      have hK : Hid (keepG M ⟨v, lo, hi⟩ = (M ++ [⟨v, lo, hi⟩], M.length)) := by
        unfold Hid keepG
        have := HD.out
        rw [List.take_length] at this
        rw [if_neg this]
      have c0 := HS.out.cell (i := 0) rfl (o := 0) rfl
      have c1 := HS.out.cell (i := 0) rfl (o := 1) rfl
      have c2 := HS.out.cell (i := 0) rfl (o := 2) rfl
      have hS := HS
      clear HD HS
      have S3 := hS.out.alloc_box #[.int .i64 v, .int .i64 lo, .int .i64 hi] 41
      (try simp only [World.size_setCell] at S3)
      have kG0 := S3.cell (i := 0) rfl (o := 0) rfl
      have kG1 := S3.cell (i := 0) rfl (o := 1) rfl
      have kG2 := S3.cell (i := 0) rfl (o := 2) rfl
      replace S3 := Lib.hid S3
      clear hS
      go_wp2_with (at_builtin; refine wpList_append_src rfl _ _ rfl Try.underlying28 hi0 hz0 hz1 hz2 rfl (by decide) _ M.length _ rfl (S3.out.own (i := 2) rfl) _ 1 1 [.int .i64 v, .int .i64 lo, .int .i64 hi] rfl (Src.threeG kG0 kG1 kG2) (by simp [Value.oneCell']) ?c3 ?c4 ?_)
      case c3 => unfold maxLen; omega
      case c4 => omega
      intro vE wE hownE hgE hatE
      have S4 := (S3.out.own_push (i := 2) rfl (bb _) hownE hgE (by simpa using hatE)).tail
      simp only [List.set_cons_zero, List.set_cons_succ] at S4
      obtain ⟨aE, cE, rfl⟩ := own_slice hownE
      have hS := Lib.hid S4
      clear S3 S4 kG0 kG1 kG2 hownE hgE hatE
      have hT := Lib.hid hS.out.tail
      clear hS c0 c1 c2
      go_wp2_with fail
      go_ret2
      rw [hK.out]
      refine ⟨_, rfl, ?_⟩
      rw [List.length_append, flat_snoc]
      exact hT.out

def sameR (M : List Gt) (g : Gt) (d n : Int) : Int :=
  if kindG M g.a = d then g.a else if kindG M g.b = d then g.b else if kindG M g.a = n ∨ g.a = g.b then g.b else if kindG M g.b = n then g.a else -1

set_option maxRecDepth 100000 in
set_option maxHeartbeats 8000000 in
theorem l6Same_any (A : Option Addr) (c : Nat) (M : List Gt) (g : Gt) (d n : Int) (w : World) (hM : GtAt w A M) (ha : 0 ≤ g.a ∧ g.a < M.length) (hb : 0 ≤ g.b ∧ g.b < M.length) :
    Calls Try.prog 93 #[.slice A M.length c, gtV g, .int .i64 d, .int .i64 n] w fun e w' => e = .returned (.int .i64 (sameR M g d n)) ∧ Below w.heap.size w w' := by
  obtain ⟨k, a', b'⟩ := g
  dsimp only at ha hb
  obtain ⟨a, rfl⟩ : ∃ a : Nat, a' = a := ⟨a'.toNat, by omega⟩
  obtain ⟨b, rfl⟩ : ∃ b : Nat, b' = b := ⟨b'.toNat, by omega⟩
  have hBw := bal (bb w) (.cells #[.int .i64 k, .int .i64 (a : Int), .int .i64 (b : Int)] 41)
  obtain ⟨gb, off, rfl, m0, -, -⟩ := (hM.grow hBw).at_ a (by omega)
  obtain ⟨gb2, off2, e, n0, -, -⟩ := (hM.grow hBw).at_ b (by omega)
  cases e
  have hka : kindG M (a : Int) = M[a].k := kind_at (i := (a : Int)) (by omega)
  have hkb : kindG M (b : Int) = M[b].k := kind_at (i := (b : Int)) (by omega)
  rw [← hka] at m0
  rw [← hkb] at n0
  have hP : Hid (sameR M ⟨k, (a : Int), (b : Int)⟩ d n = if kindG M (a : Int) = d then (a : Int) else if kindG M (b : Int) = d then (b : Int) else if kindG M (a : Int) = n ∨ (a : Int) = b then (b : Int) else if kindG M (b : Int) = n then (a : Int) else -1) := rfl
  generalize kindG M (a : Int) = x at *
  generalize kindG M (b : Int) = y at *
  have hai : (a : Int) < M.length := ha.2
  have hbi : (b : Int) < M.length := hb.2
  have S0 := (Sp.start w).alloc_box #[.int .i64 k, .int .i64 (a : Int), .int .i64 (b : Int)] 41
  have c1 := S0.cell (i := 0) rfl (o := 1) rfl
  have c2 := S0.cell (i := 0) rfl (o := 2) rfl
  replace hBw := Lib.hid hBw
  clear S0 hM hka hkb ha hb
  by_cases h1 : x = d
  · have hR : Hid (sameR M ⟨k, (a : Int), (b : Int)⟩ d n = a) := by unfold Hid; rw [hP.out, if_pos h1]
    clear hP
    go_enter Try.func93, Try.ntmps93
    go_wp2_with fail
    go_ret
    exact ⟨ret_int hR.out.symm, hBw.out⟩
  by_cases h2 : y = d
  · have hR : Hid (sameR M ⟨k, (a : Int), (b : Int)⟩ d n = b) := by unfold Hid; rw [hP.out, if_neg h1, if_pos h2]
    clear hP
    go_enter Try.func93, Try.ntmps93
    go_wp2_with fail
    go_ret
    exact ⟨ret_int hR.out.symm, hBw.out⟩
  by_cases h3 : x = n
  · have hR : Hid (sameR M ⟨k, (a : Int), (b : Int)⟩ d n = b) := by unfold Hid; rw [hP.out, if_neg h1, if_neg h2, if_pos (.inl h3)]
    clear hP
    go_enter Try.func93, Try.ntmps93
    go_wp2_with fail
    go_ret
    exact ⟨ret_int hR.out.symm, hBw.out⟩
  by_cases h5 : (a : Int) = b
  · have hR : Hid (sameR M ⟨k, (a : Int), (b : Int)⟩ d n = b) := by unfold Hid; rw [hP.out, if_neg h1, if_neg h2, if_pos (.inr h5)]
    obtain rfl : a = b := by omega
    clear hP
    go_enter Try.func93, Try.ntmps93
    go_wp2_with fail
    go_ret
    exact ⟨ret_int hR.out.symm, hBw.out⟩
  have h5b : ((a : Int) == (b : Int)) = false := beq_eq_false_iff_ne.2 h5
  by_cases h4 : y = n
  · have hR : Hid (sameR M ⟨k, (a : Int), (b : Int)⟩ d n = a) := by unfold Hid; rw [hP.out, if_neg h1, if_neg h2, if_neg (fun h => h.elim h3 h5), if_pos h4]
    clear hP
    go_enter Try.func93, Try.ntmps93
    go_wp2_with fail
    go_ret
    exact ⟨ret_int hR.out.symm, hBw.out⟩
  have hR : Hid (sameR M ⟨k, (a : Int), (b : Int)⟩ d n = -1) := by unfold Hid; rw [hP.out, if_neg h1, if_neg h2, if_neg (fun h => h.elim h3 h5), if_neg h4]
  clear hP
  go_enter Try.func93, Try.ntmps93
  go_wp2_with fail
  go_ret
  exact ⟨ret_int hR.out.symm, hBw.out⟩
end Go.Proofs.Ytkhopkonddgicaa

/- Contract: the folded circuit, in the reference. Printed by gen_l6fold.py. -/
namespace Go.Proofs.Ytkhopkonddgicaa
open Go.RowKit

theorem pair_same (M : List Gt) (g : Gt) (d n : Int) (ha : 0 ≤ g.a) (hb : 0 ≤ g.b) : (0 ≤ sameR M g d n → pairG M g d n = (M, (sameR M g d n).toNat)) ∧ (¬ 0 ≤ sameR M g d n → pairG M g d n = keepG M g) := by
  unfold sameR pairG
  by_cases h1 : kindG M g.a = d
  · simp only [if_pos h1]; exact ⟨fun _ => trivial, fun h => absurd ha h⟩
  simp only [if_neg h1]
  by_cases h2 : kindG M g.b = d
  · simp only [if_pos h2]; exact ⟨fun _ => trivial, fun h => absurd hb h⟩
  simp only [if_neg h2]
  by_cases h3 : kindG M g.a = n
  · simp only [if_pos h3, if_pos (Or.inl h3 : kindG M g.a = n ∨ g.a = g.b)]; exact ⟨fun _ => trivial, fun h => absurd hb h⟩
  simp only [if_neg h3]
  by_cases h5 : g.a = g.b
  · simp only [if_pos (Or.inr h5 : kindG M g.a = n ∨ g.a = g.b), if_pos (Or.inr h5 : kindG M g.b = n ∨ g.a = g.b)]; exact ⟨fun _ => by rw [h5], fun h => absurd hb h⟩
  by_cases h4 : kindG M g.b = n
  · simp only [if_neg (fun h => h.elim h3 h5 : ¬ (kindG M g.a = n ∨ g.a = g.b)), if_pos h4, if_pos (Or.inl h4 : kindG M g.b = n ∨ g.a = g.b)]; exact ⟨fun _ => trivial, fun h => absurd ha h⟩
  · simp only [if_neg (fun h => h.elim h3 h5 : ¬ (kindG M g.a = n ∨ g.a = g.b)), if_neg h4, if_neg (fun h => h.elim h4 h5 : ¬ (kindG M g.b = n ∨ g.a = g.b))]; exact ⟨fun h => absurd h (by decide), fun _ => trivial⟩

set_option maxRecDepth 100000 in
set_option maxHeartbeats 16000000 in
theorem l6Fold_any {vars : Int} (A : Option Addr) (c : Nat) (gs : List Gt) (w : World) (hx : GtAt w A gs) (hg : OkG vars gs) (hp : 0 < gs.length) (hl : gs.length ≤ 1000) (hv : vars ≤ 1000) :
    Calls Try.prog 61 #[.slice A gs.length c] w fun e w' => ∃ v, e = .returned v ∧ Sp w w' [Own 41 3 v (foldR gs).length ((foldR gs).flatMap gtEnc)] := by
  have hmk := fun W => mk_nums gs.length (by omega) (gs.length : Int) rfl W
  obtain ⟨Z, hZ⟩ : ∃ Z, numsA gs.length (fun _ => 0) = Z := ⟨_, rfl⟩
  rw [hZ] at hmk
  replace hZ := Lib.hid hZ
  have hX := Lib.hid hx
  replace hg := Lib.hid hg
  obtain ⟨N1, hN1⟩ : ∃ N1, w.heap.size = N1 := ⟨_, rfl⟩
  have S1 := Sp.start w
  clear hx
  go_enter Try.func61, Try.ntmps61
  go_upto_region 1 with fail
  go_cut [3, 4] (fun s4 s5 wx => ∃ ob tb : Nat, s4 = .slice (some ⟨ob, 0, none⟩) 0 0 ∧ s5 = .slice (some ⟨tb, 0, none⟩) gs.length gs.length ∧ Hid (Sp w wx [Own 41 3 (.slice (some ⟨ob, 0, none⟩) 0 0) 0 [], Box tb 3 Z]))
  case first =>
    go_region
    all_goals go_wp2_with fail
    all_goals go_meet
    all_goals (try rw [hN1])
    all_goals first
      | exact ⟨_, _, rfl, rfl, Lib.hid (Sp.pick [1, 0] (two1 S1 hN1 _ _ _ _) rfl)⟩
      | exact ⟨_, _, rfl, rfl, Lib.hid (Sp.pick [0, 0] (two2 S1 hN1 _ _ _ _) rfl)⟩
  case rest =>
    obtain ⟨ob, tb, rfl, rfl, S2⟩ := hcut
    clear S1 hmk hN1
    have hz3 : Hid (numsA gs.length (fun j => (foldsG (gs.take 0)).2.getD j 0) = Z) := by
      unfold Hid
      rw [← hZ.out]
      exact numsA_congr fun j _ => by simp [foldsG]
    go_wp2_with fail
    go_loopw [5, 3] (fun i o wr => ∃ (q : Nat) (sv : Value), q ≤ gs.length ∧ i = .int .i64 (q : Int) ∧ o = sv ∧ Hid (Sp w wr [Own 41 3 sv (foldsG (gs.take q)).1.length ((foldsG (gs.take q)).1.flatMap gtEnc), Box tb 3 (numsA gs.length (fun j => (foldsG (gs.take q)).2.getD j 0))])) (fun i _ _ => gs.length - (intOf i).toNat)
    case atStart => exact ⟨0, _, Nat.zero_le _, rfl, rfl, by unfold Hid; rw [hz3.out]; exact S2.out⟩
    case round =>
      obtain ⟨q, sv, hq, rfl, rfl, hS⟩ := hrel
      clear S2
      obtain ⟨aS, cS, rfl⟩ := own_slice (hS.out.own (i := 0) rfl)
      by_cases hlt : q < gs.length
      · have hqi : (q : Int) < gs.length := by omega
        have hF := finv (gs.take q) (hg.out.take q)
        have hst := folds_take hlt
        obtain ⟨bg, og, e, m0, m1, m2⟩ := (hX.out.grow hS.out.below).at_ q hlt
        cases e
        have hgq := hg.out q hlt
        have hlt2 := ins_lt hgq
        have hgi := gtB_iff.1 hgq
        have hl2 : (gs.take q).length = q := by rw [List.length_take]; omega
        generalize foldsG (gs.take q) = s at hS hF hst
        obtain ⟨M, B⟩ := s
        generalize gs[q] = g at m0 m1 m2 hst hgq hlt2 hgi
        dsimp only at hst
        have hFn := hF.n
        have hFl := hF.len
        have hFt := hF.lt
        have hFo := hF.ok
        rw [hl2] at hFn hFl hFt
        dsimp only at hFn hFl hFt hFo hS
        have hok := gt_small hFo hv (by omega)
        have hmv := Lib.hid (l6Moved_any g tb 0 gs.length gs.length (fun k => B.getD k 0) (by omega) (by omega) wr (fun k hk => ⟨by have := hlt2 k hk; omega, by rw [Nat.zero_add]; exact hS.out.cell (i := 1) rfl (o := k) (numsA_get (by have := hlt2 k hk; omega))⟩))
        have hmg : gtB vars M.length (mvG (fun k => B.getD k 0) g) = true := mv_ok hgq fun k hk => hFt k (hlt2 k hk)
        generalize mvG (fun k => B.getD k 0) g = z at hmv hst hmg
        have hzi := gtB_iff.1 hmg
        obtain ⟨gk, ga, gb⟩ := g
        obtain ⟨zk, za, zb⟩ := z
        dsimp only at m0 m1 m2 hzi
        have hFold : Hid (foldG M ⟨zk, za, zb⟩ = if zk = 4 then (if kindG M za = 2 then keepG M ⟨3, 0, 0⟩ else if kindG M za = 3 then keepG M ⟨2, 0, 0⟩
          else if kindG M za = 4 then (M, (M.getD za.toNat ⟨0, 0, 0⟩).a.toNat) else keepG M ⟨zk, za, zb⟩) else if zk = 5 then pairG M ⟨zk, za, zb⟩ 3 2 else if zk = 6 then pairG M ⟨zk, za, zb⟩ 2 3 else keepG M ⟨zk, za, zb⟩) := rfl
        have hps := Lib.hid (fun d n (h : 0 ≤ za) (h' : 0 ≤ zb) => pair_same M ⟨zk, za, zb⟩ d n h h')
        obtain ⟨R, hR⟩ : ∃ R, foldG M ⟨zk, za, zb⟩ = R := ⟨_, rfl⟩
        rw [hR] at hst hFold
        clear hR
        replace hst := Lib.hid hst
        replace hFo := Lib.hid hFo
        replace hok := Lib.hid hok
        replace hzi := Lib.hid hzi
        clear hF hgi hlt2 hmg hFt hgq hz3
        go_wp2_with fail
        refine hmv.out.mono ?_
        rintro e w2 ⟨rfl, hb2⟩
        have S4 := (hS.out.grow hb2).alloc_box #[.int .i64 zk, .int .i64 za, .int .i64 zb] 41
        have d0 := S4.cell (i := 0) rfl (o := 0) rfl
        have d1 := S4.cell (i := 0) rfl (o := 1) rfl
        have d2 := S4.cell (i := 0) rfl (o := 2) rfl
        have v0 := S4.frozen (i := 0) rfl 0
        have v1 := S4.frozen (i := 0) rfl 1
        have v2 := S4.frozen (i := 0) rfl 2
        replace S4 := Lib.hid S4
        clear hmv hS hb2 m0 m1 m2
        by_cases h4 : zk = 4
        · subst h4
          rw [if_pos rfl] at hFold
          obtain ⟨a, rfl⟩ : ∃ a : Nat, za = a := ⟨za.toNat, by have := hzi.out; omega⟩
          have haM : a < M.length := by have := hzi.out; omega
          have hai : (a : Int) < M.length := by omega
          obtain ⟨A', c', e', hM⟩ := gt_own (S4.out.own (i := 1) rfl) hok.out
          cases e'
          obtain ⟨mb, mo, rfl, m0, m1, m2⟩ := hM.at_ a haM
          have hka : kindG M (a : Int) = M[a].k := kind_at (i := (a : Int)) (by omega)
          have hd : M.getD (a : Int).toNat ⟨0, 0, 0⟩ = M[a] := by rw [Int.toNat_natCast, List.getD_eq_getElem?_getD, List.getElem?_eq_getElem haM]; rfl
          rw [hka, hd] at hFold
          have hya := gtB_iff.1 (hFo.out a haM)
          generalize M[a] = y at m0 m1 m2 hFold hya
          obtain ⟨yk, ya, yb⟩ := y
          dsimp only at m0 m1 m2 hFold hya
          replace hya := Lib.hid hya
          clear hka hd hM m2
          by_cases y2 : yk = 2
          · subst y2
            rw [if_pos rfl] at hFold
            go_wp2_with fail
            refine (l6Constant_any false _).mono ?_
            rintro e w3 ⟨rfl, hb3⟩
            have S5 := S4.out.grow hb3
            have u0 := S5.frozen (i := 0) rfl 0
            have u1 := S5.frozen (i := 0) rfl 1
            have u2 := S5.frozen (i := 0) rfl 2
            have x0 := S5.cell (i := 0) rfl (o := 0) rfl
            have x1 := S5.cell (i := 0) rfl (o := 1) rfl
            have x2 := S5.cell (i := 0) rfl (o := 2) rfl
            have S8 := ((S5.store (i := 0) rfl 0 (.int .i64 3)).store (i := 0) rfl 1 (.int .i64 0)).store (i := 0) rfl 2 (.int .i64 0)
            have z0 := S8.cell (i := 0) rfl (o := 0) rfl
            have z1 := S8.cell (i := 0) rfl (o := 1) rfl
            have z2 := S8.cell (i := 0) rfl (o := 2) rfl
            replace S8 := Lib.hid S8
            clear S4 S5 hb3 d0 d1 d2 v0 v1 v2 m0 m1
            have hRe := hFold.out
            have hk := Lib.hid (l6Keep_any (w0 := w) (.slice (some ⟨mb, mo, none⟩) M.length cS) M ⟨3, 0, 0⟩ _ hok.out (by omega) (S8.out.pick [1, 0, 0] rfl))
            rw [← hRe] at hk
            replace hRe := Lib.hid hRe
            go_wp2_with fail
            refine hk.out.mono ?_
            rintro e wk ⟨sv', rfl, S5⟩
            replace S5 := Lib.hid S5
            obtain ⟨aT, cT, rfl⟩ := own_slice (S5.out.own (i := 0) rfl)
            clear hk S8 u0 u1 u2 x0 x1 x2 z0 z1 z2
            have t0 := S5.out.cell (i := 2) rfl (o := q) (numsA_get hlt)
            have t1 := S5.out.frozen (i := 2) rfl q
            have S6 := S5.out.store (i := 2) rfl q (.int .i64 ((R.2 : Nat) : Int))
            simp only [List.set_cons_zero, List.set_cons_succ] at S6
            have S7 := Lib.hid (S6.pick [0, 1] rfl)
            clear S6
            go_wp2_with fail
            go_roundw
            case rel =>
              refine ⟨q + 1, _, by omega, by first | rfl | simp, rfl, ?_⟩
              unfold Hid
              rw [hst.out]
              have h := S7.out
              rw [numsA_snoc hFn] at h
              exact h
            case measure => simp [intOf]; omega
          rw [if_neg y2] at hFold
          by_cases y3 : yk = 3
          · subst y3
            rw [if_pos rfl] at hFold
            go_wp2_with fail
            refine (l6Constant_any true _).mono ?_
            rintro e w3 ⟨rfl, hb3⟩
            have S5 := S4.out.grow hb3
            have u0 := S5.frozen (i := 0) rfl 0
            have u1 := S5.frozen (i := 0) rfl 1
            have u2 := S5.frozen (i := 0) rfl 2
            have x0 := S5.cell (i := 0) rfl (o := 0) rfl
            have x1 := S5.cell (i := 0) rfl (o := 1) rfl
            have x2 := S5.cell (i := 0) rfl (o := 2) rfl
            have S8 := ((S5.store (i := 0) rfl 0 (.int .i64 2)).store (i := 0) rfl 1 (.int .i64 0)).store (i := 0) rfl 2 (.int .i64 0)
            have z0 := S8.cell (i := 0) rfl (o := 0) rfl
            have z1 := S8.cell (i := 0) rfl (o := 1) rfl
            have z2 := S8.cell (i := 0) rfl (o := 2) rfl
            replace S8 := Lib.hid S8
            clear S4 S5 hb3 d0 d1 d2 v0 v1 v2 m0 m1
            have hRe := hFold.out
            have hk := Lib.hid (l6Keep_any (w0 := w) (.slice (some ⟨mb, mo, none⟩) M.length cS) M ⟨2, 0, 0⟩ _ hok.out (by omega) (S8.out.pick [1, 0, 0] rfl))
            rw [← hRe] at hk
            replace hRe := Lib.hid hRe
            go_wp2_with fail
            refine hk.out.mono ?_
            rintro e wk ⟨sv', rfl, S5⟩
            replace S5 := Lib.hid S5
            obtain ⟨aT, cT, rfl⟩ := own_slice (S5.out.own (i := 0) rfl)
            clear hk S8 u0 u1 u2 x0 x1 x2 z0 z1 z2
            have t0 := S5.out.cell (i := 2) rfl (o := q) (numsA_get hlt)
            have t1 := S5.out.frozen (i := 2) rfl q
            have S6 := S5.out.store (i := 2) rfl q (.int .i64 ((R.2 : Nat) : Int))
            simp only [List.set_cons_zero, List.set_cons_succ] at S6
            have S7 := Lib.hid (S6.pick [0, 1] rfl)
            clear S6
            go_wp2_with fail
            go_roundw
            case rel =>
              refine ⟨q + 1, _, by omega, by first | rfl | simp, rfl, ?_⟩
              unfold Hid
              rw [hst.out]
              have h := S7.out
              rw [numsA_snoc hFn] at h
              exact h
            case measure => simp [intOf]; omega
          rw [if_neg y3] at hFold
          by_cases y4 : yk = 4
          · subst y4
            rw [if_pos rfl] at hFold
            obtain ⟨r, rfl⟩ : ∃ r : Nat, ya = r := ⟨ya.toNat, by have := hya.out; omega⟩
            rw [Int.toNat_natCast] at hFold
            have hRe := hFold.out
            subst hRe
            have S5 := S4
            have hr0 : ¬ (r : Int) < 0 := by omega
            clear S4
            have t0 := S5.out.cell (i := 2) rfl (o := q) (numsA_get hlt)
            have t1 := S5.out.frozen (i := 2) rfl q
            have S6 := S5.out.store (i := 2) rfl q (.int .i64 ((r : Nat) : Int))
            simp only [List.set_cons_zero, List.set_cons_succ] at S6
            have S7 := Lib.hid (S6.pick [1, 1] rfl)
            clear S6
            go_wp2_with fail
            go_roundw
            case rel =>
              refine ⟨q + 1, _, by omega, by first | rfl | simp, rfl, ?_⟩
              unfold Hid
              rw [hst.out]
              have h := S7.out
              rw [numsA_snoc hFn] at h
              exact h
            case measure => simp [intOf]; omega
          rw [if_neg y4] at hFold
          have hRe := hFold.out
          have hk := Lib.hid (l6Keep_any (w0 := w) (.slice (some ⟨mb, mo, none⟩) M.length cS) M ⟨4, (a : Int), zb⟩ _ hok.out (by omega) (S4.out.pick [1, 0, 0] rfl))
          rw [← hRe] at hk
          replace hRe := Lib.hid hRe
          go_wp2_with fail
          refine hk.out.mono ?_
          rintro e wk ⟨sv', rfl, S5⟩
          replace S5 := Lib.hid S5
          obtain ⟨aT, cT, rfl⟩ := own_slice (S5.out.own (i := 0) rfl)
          clear hk S4 d0 d1 d2 v0 v1 v2 m0 m1
          have t0 := S5.out.cell (i := 2) rfl (o := q) (numsA_get hlt)
          have t1 := S5.out.frozen (i := 2) rfl q
          have S6 := S5.out.store (i := 2) rfl q (.int .i64 ((R.2 : Nat) : Int))
          simp only [List.set_cons_zero, List.set_cons_succ] at S6
          have S7 := Lib.hid (S6.pick [0, 1] rfl)
          clear S6
          go_wp2_with fail
          go_roundw
          case rel =>
            refine ⟨q + 1, _, by omega, by first | rfl | simp, rfl, ?_⟩
            unfold Hid
            rw [hst.out]
            have h := S7.out
            rw [numsA_snoc hFn] at h
            exact h
          case measure => simp [intOf]; omega
        rw [if_neg h4] at hFold
        by_cases h5 : zk = 5
        · subst h5
          rw [if_pos rfl] at hFold
          have hza : 0 ≤ za ∧ za < M.length := by have := hzi.out; omega
          have hzb : 0 ≤ zb ∧ zb < M.length := by have := hzi.out; omega
          obtain ⟨A', c', e', hM⟩ := gt_own (S4.out.own (i := 1) rfl) hok.out
          cases e'
          have hsm := Lib.hid (l6Same_any aS cS M ⟨5, za, zb⟩ 3 2 _ hM hza hzb)
          have hpp := hps.out 3 2 hza.1 hzb.1
          generalize sameR M ⟨5, za, zb⟩ 3 2 = at_ at hsm hpp
          clear hM
          by_cases hat : 0 ≤ at_
          · obtain ⟨r, rfl⟩ : ∃ r : Nat, at_ = r := ⟨at_.toNat, by omega⟩
            have hRe := hpp.1 hat
            rw [← hFold.out, Int.toNat_natCast] at hRe
            subst hRe
            have hr0 : ¬ (r : Int) < 0 := by omega
            go_wp2_with fail
            refine hsm.out.mono ?_
            rintro e w3 ⟨rfl, hb3⟩
            have S5 := Lib.hid (S4.out.grow hb3)
            clear S4 hb3 hsm d0 d1 d2 v0 v1 v2
            have t0 := S5.out.cell (i := 2) rfl (o := q) (numsA_get hlt)
            have t1 := S5.out.frozen (i := 2) rfl q
            have S6 := S5.out.store (i := 2) rfl q (.int .i64 ((r : Nat) : Int))
            simp only [List.set_cons_zero, List.set_cons_succ] at S6
            have S7 := Lib.hid (S6.pick [1, 1] rfl)
            clear S6
            go_wp2_with fail
            go_roundw
            case rel =>
              refine ⟨q + 1, _, by omega, by first | rfl | simp, rfl, ?_⟩
              unfold Hid
              rw [hst.out]
              have h := S7.out
              rw [numsA_snoc hFn] at h
              exact h
            case measure => simp [intOf]; omega
          · have hRe := hpp.2 (by omega)
            have hr0 : at_ < 0 := by omega
            have hFold : Hid (R = keepG M ⟨5, za, zb⟩) := by unfold Hid; rw [← hRe]; exact hFold.out
            go_wp2_with fail
            refine hsm.out.mono ?_
            rintro e w3 ⟨rfl, hb3⟩
            have S5 := S4.out.grow hb3
            have d0 := S5.cell (i := 0) rfl (o := 0) rfl
            have d1 := S5.cell (i := 0) rfl (o := 1) rfl
            have d2 := S5.cell (i := 0) rfl (o := 2) rfl
            have S9 := Lib.hid S5
            clear S4 S5 hb3 hsm hRe
            have hRe := hFold.out
            have hk := Lib.hid (l6Keep_any (w0 := w) (.slice aS M.length cS) M ⟨5, za, zb⟩ _ hok.out (by omega) (S9.out.pick [1, 0, 0] rfl))
            rw [← hRe] at hk
            replace hRe := Lib.hid hRe
            go_wp2_with fail
            refine hk.out.mono ?_
            rintro e wk ⟨sv', rfl, S5⟩
            replace S5 := Lib.hid S5
            obtain ⟨aT, cT, rfl⟩ := own_slice (S5.out.own (i := 0) rfl)
            clear hk S9 d0 d1 d2 v0 v1 v2
            have t0 := S5.out.cell (i := 2) rfl (o := q) (numsA_get hlt)
            have t1 := S5.out.frozen (i := 2) rfl q
            have S6 := S5.out.store (i := 2) rfl q (.int .i64 ((R.2 : Nat) : Int))
            simp only [List.set_cons_zero, List.set_cons_succ] at S6
            have S7 := Lib.hid (S6.pick [0, 1] rfl)
            clear S6
            go_wp2_with fail
            go_roundw
            case rel =>
              refine ⟨q + 1, _, by omega, by first | rfl | simp, rfl, ?_⟩
              unfold Hid
              rw [hst.out]
              have h := S7.out
              rw [numsA_snoc hFn] at h
              exact h
            case measure => simp [intOf]; omega
        rw [if_neg h5] at hFold
        by_cases h6 : zk = 6
        · subst h6
          rw [if_pos rfl] at hFold
          have hza : 0 ≤ za ∧ za < M.length := by have := hzi.out; omega
          have hzb : 0 ≤ zb ∧ zb < M.length := by have := hzi.out; omega
          obtain ⟨A', c', e', hM⟩ := gt_own (S4.out.own (i := 1) rfl) hok.out
          cases e'
          have hsm := Lib.hid (l6Same_any aS cS M ⟨6, za, zb⟩ 2 3 _ hM hza hzb)
          have hpp := hps.out 2 3 hza.1 hzb.1
          generalize sameR M ⟨6, za, zb⟩ 2 3 = at_ at hsm hpp
          clear hM
          by_cases hat : 0 ≤ at_
          · obtain ⟨r, rfl⟩ : ∃ r : Nat, at_ = r := ⟨at_.toNat, by omega⟩
            have hRe := hpp.1 hat
            rw [← hFold.out, Int.toNat_natCast] at hRe
            subst hRe
            have hr0 : ¬ (r : Int) < 0 := by omega
            go_wp2_with fail
            refine hsm.out.mono ?_
            rintro e w3 ⟨rfl, hb3⟩
            have S5 := Lib.hid (S4.out.grow hb3)
            clear S4 hb3 hsm d0 d1 d2 v0 v1 v2
            have t0 := S5.out.cell (i := 2) rfl (o := q) (numsA_get hlt)
            have t1 := S5.out.frozen (i := 2) rfl q
            have S6 := S5.out.store (i := 2) rfl q (.int .i64 ((r : Nat) : Int))
            simp only [List.set_cons_zero, List.set_cons_succ] at S6
            have S7 := Lib.hid (S6.pick [1, 1] rfl)
            clear S6
            go_wp2_with fail
            go_roundw
            case rel =>
              refine ⟨q + 1, _, by omega, by first | rfl | simp, rfl, ?_⟩
              unfold Hid
              rw [hst.out]
              have h := S7.out
              rw [numsA_snoc hFn] at h
              exact h
            case measure => simp [intOf]; omega
          · have hRe := hpp.2 (by omega)
            have hr0 : at_ < 0 := by omega
            have hFold : Hid (R = keepG M ⟨6, za, zb⟩) := by unfold Hid; rw [← hRe]; exact hFold.out
            go_wp2_with fail
            refine hsm.out.mono ?_
            rintro e w3 ⟨rfl, hb3⟩
            have S5 := S4.out.grow hb3
            have d0 := S5.cell (i := 0) rfl (o := 0) rfl
            have d1 := S5.cell (i := 0) rfl (o := 1) rfl
            have d2 := S5.cell (i := 0) rfl (o := 2) rfl
            have S9 := Lib.hid S5
            clear S4 S5 hb3 hsm hRe
            have hRe := hFold.out
            have hk := Lib.hid (l6Keep_any (w0 := w) (.slice aS M.length cS) M ⟨6, za, zb⟩ _ hok.out (by omega) (S9.out.pick [1, 0, 0] rfl))
            rw [← hRe] at hk
            replace hRe := Lib.hid hRe
            go_wp2_with fail
            refine hk.out.mono ?_
            rintro e wk ⟨sv', rfl, S5⟩
            replace S5 := Lib.hid S5
            obtain ⟨aT, cT, rfl⟩ := own_slice (S5.out.own (i := 0) rfl)
            clear hk S9 d0 d1 d2 v0 v1 v2
            have t0 := S5.out.cell (i := 2) rfl (o := q) (numsA_get hlt)
            have t1 := S5.out.frozen (i := 2) rfl q
            have S6 := S5.out.store (i := 2) rfl q (.int .i64 ((R.2 : Nat) : Int))
            simp only [List.set_cons_zero, List.set_cons_succ] at S6
            have S7 := Lib.hid (S6.pick [0, 1] rfl)
            clear S6
            go_wp2_with fail
            go_roundw
            case rel =>
              refine ⟨q + 1, _, by omega, by first | rfl | simp, rfl, ?_⟩
              unfold Hid
              rw [hst.out]
              have h := S7.out
              rw [numsA_snoc hFn] at h
              exact h
            case measure => simp [intOf]; omega
        rw [if_neg h6] at hFold
        have hRe := hFold.out
        have hk := Lib.hid (l6Keep_any (w0 := w) (.slice aS M.length cS) M ⟨zk, za, zb⟩ _ hok.out (by omega) (S4.out.pick [1, 0, 0] rfl))
        rw [← hRe] at hk
        replace hRe := Lib.hid hRe
        go_wp2_with fail
        refine hk.out.mono ?_
        rintro e wk ⟨sv', rfl, S5⟩
        replace S5 := Lib.hid S5
        obtain ⟨aT, cT, rfl⟩ := own_slice (S5.out.own (i := 0) rfl)
        clear hk S4 d0 d1 d2 v0 v1 v2
        have t0 := S5.out.cell (i := 2) rfl (o := q) (numsA_get hlt)
        have t1 := S5.out.frozen (i := 2) rfl q
        have S6 := S5.out.store (i := 2) rfl q (.int .i64 ((R.2 : Nat) : Int))
        simp only [List.set_cons_zero, List.set_cons_succ] at S6
        have S7 := Lib.hid (S6.pick [0, 1] rfl)
        clear S6
        go_wp2_with fail
        go_roundw
        case rel =>
          refine ⟨q + 1, _, by omega, by first | rfl | simp, rfl, ?_⟩
          unfold Hid
          rw [hst.out]
          have h := S7.out
          rw [numsA_snoc hFn] at h
          exact h
        case measure => simp [intOf]; omega
      · obtain rfl : q = gs.length := by omega
        have hF := finv gs hg.out
        rw [List.take_length] at hS
        have hR : foldR gs = trimG (cutK (foldsG gs) gs.length) (needL (cutK (foldsG gs) gs.length)) := rfl
        unfold cutK at hR
        generalize foldsG gs = s at hS hF hR
        obtain ⟨M, B⟩ := s
        have hFl := hF.len
        have hFt := hF.lt (gs.length - 1) (by omega)
        have hFo := hF.ok
        dsimp only at hFl hFt hFo hR hS
        obtain ⟨A', c', e', hM⟩ := gt_own (hS.out.own (i := 0) rfl) (gt_small hFo hv (by omega))
        cases e'
        have hcap := own_cap (hS.out.own (i := 0) rfl)
        obtain ⟨mb, mo, rfl, -, -, -⟩ := hM.at_ 0 (by omega)
        obtain ⟨x, hx⟩ : ∃ x, B.getD (gs.length - 1) 0 = x := ⟨_, rfl⟩
        have t0 := hS.out.cell (i := 1) rfl (o := gs.length - 1) (numsA_get (by omega))
        rw [hx] at hFt hR t0
        obtain ⟨m, hm⟩ : ∃ m, gs.length - 1 = m := ⟨_, rfl⟩
        rw [hm] at t0
        have hmi : (m : Int) < gs.length := by omega
        have hw1 : IntKind.i64.wrap ((gs.length : Int) - 1) = (m : Int) := by rw [show (gs.length : Int) - 1 = m by omega]; exact IntWalk.i64_in _ (by omega)
        have hw2 : IntKind.i64.wrap ((x : Int) + 1) = ((x + 1 : Nat) : Int) := by rw [show (x : Int) + 1 = ((x + 1 : Nat) : Int) by omega]; exact IntWalk.i64_in _ (by omega)
        have hxc : (x : Int) + 1 ≤ cS := by omega
        have hx0 : (0 : Int) ≤ (x : Int) + 1 := by omega
        have htl : (M.take (x + 1)).length = x + 1 := by rw [List.length_take]; omega
        have htr := l6Trim_any (some ⟨mb, mo, none⟩) cS (M.take (x + 1)) wr (hM.take (x + 1)) (hFo.take _) (by omega) (by omega) hv
        rw [htl, ← hR] at htr
        replace htr := Lib.hid htr
        replace hm := Lib.hid hm
        replace hS := Lib.hid (Sp.of_below hS.out.below)
        clear hF hFt hFo hR hM htl hz3
        go_wp2_with fail
        refine htr.out.mono ?_
        rintro e w2 ⟨u, rfl, S4⟩
        have S5 := Lib.hid (hS.out.seq S4)
        clear htr hS S4
        go_wp2_with fail
        go_ret
        exact ⟨_, rfl, S5.out⟩
      end Go.Proofs.Ytkhopkonddgicaa
