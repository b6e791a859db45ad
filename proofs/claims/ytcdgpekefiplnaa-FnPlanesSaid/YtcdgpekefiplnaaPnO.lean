/- Contracts: inequalities that are drawn. -/
import Derived.Test.YtcdgpekefiplnaaPnN
import Derived.Test.YtcdgpekefiplnaaPnE
namespace Go.Proofs.Ytcdgpekefiplnaa
open Go.RowKit

/-- The memory while an inequality is drawn: its box, the box of the result, the row. -/
def PS (w0 : World) (g : Nat) (ca : Option Addr) (cl cc A : Nat) (w : World) (qb : Nat) (B : Option Addr) (cap : Nat) (cs : List Int) (b : Int) : Prop :=
  AllI cs ∧ CS w0 g ca cl cc A w [Box qb 26 #[.slice B cs.length cap, .int .i64 b], Own 3 1 (.slice B cs.length cap) cs.length (cs.map (.int .i64)), Box w0.heap.size 26 #[.slice none 0 0, .int .i64 0]]
def lenAt0 (w : World) (b : Nat) : Nat := match w.cell? ⟨b, 0, none⟩ with | some (.slice _ n _) => n | _ => 0
theorem lenAt0_of {w : World} {b n c : Nat} {B : Option Addr} (h : w.cell? ⟨b, 0, none⟩ = some (.slice B n c)) : lenAt0 w b = n := by simp [lenAt0, h]
/-- A drawn inequality. -/
def PlanePost (A g : Nat) (ca : Option Addr) (cl cc : Nat) (w : World) (e : Ending) (w' : World) : Prop :=
  ∃ B cap cs b, e = .returned (.agg #[.slice B (List.length cs) cap, .int .i64 b]) ∧ cs.length ≤ 14 ∧ I64 b ∧ IntsAt w' B cs ∧ (∀ a, B = some a → w.heap.size ≤ a.block) ∧ CurIs A g ca cl cc w' ∧ Chg [g] w w'
section
variable {w0 w : World} {g cl cc A A' qb cap : Nat} {ca B : Option Addr} {cs : List Int} {b : Int}
theorem PS.mono (h : PS w0 g ca cl cc A w qb B cap cs b) (hA : A ≤ A') : PS w0 g ca cl cc A' w qb B cap cs b := ⟨h.1, h.2.mono hA⟩
theorem PS.push {w' : World} {B' : Option Addr} {cap' : Nat} {u : Int} (h : CS w0 g ca cl cc A w' [Box qb 26 #[.slice B' (cs.length + 1) cap', .int .i64 b], Own 3 1 (.slice B' (cs.length + 1) cap') (cs.length + 1) (cs.map (.int .i64) ++ [.int .i64 u]), Box w0.heap.size 26 #[.slice none 0 0, .int .i64 0]])
    (hI : AllI cs) (hu : I64 u) : PS w0 g ca cl cc A w' qb B' cap' (cs ++ [u]) b := by
  refine ⟨fun x hx => ?_, ?_⟩
  · rcases List.mem_append.1 hx with hx | hx
    · exact hI x hx
    · obtain rfl : x = u := by simpa using hx
      exact hu
  · have e : (cs ++ [u]).length = cs.length + 1 := by simp
    rw [e, List.map_append]
    exact h
theorem PS.put {w' : World} {k : Nat} {u : Int} (h : CS w0 g ca cl cc A w' [Box qb 26 #[.slice B cs.length cap, .int .i64 b], Own 3 1 (.slice B cs.length cap) cs.length ((cs.map (.int .i64)).set k (.int .i64 u)), Box w0.heap.size 26 #[.slice none 0 0, .int .i64 0]])
    (hI : AllI cs) (hu : I64 u) : PS w0 g ca cl cc A w' qb B cap (cs.set k u) b := by
  refine ⟨fun x hx => ?_, ?_⟩
  · rcases List.mem_or_eq_of_mem_set hx with hx | rfl
    · exact hI x hx
    · exact hu
  · have e : (cs.set k u).length = cs.length := by simp
    rw [e, List.map_set]
    exact h
theorem plane_fin {q : Asn} (h : CS w0 g ca cl cc A w [Box qb 26 #[.slice B cs.length cap, .int .i64 b], q, Box w0.heap.size 26 #[.slice none 0 0, .int .i64 0]]) :
    CS w0 g ca cl cc A ((w.setCell ⟨w0.heap.size, 0, none⟩ (.slice B cs.length cap)).setCell ⟨w0.heap.size, 1, none⟩ (.int .i64 b)) [Box qb 26 #[.slice B cs.length cap, .int .i64 b], q, Box w0.heap.size 26 #[.slice B cs.length cap, .int .i64 b]] ∧
    ((w.setCell ⟨w0.heap.size, 0, none⟩ (.slice B cs.length cap)).setCell ⟨w0.heap.size, 1, none⟩ (.int .i64 b)).cell? ⟨w0.heap.size, 0, none⟩ = some (.slice B cs.length cap) ∧
    ((w.setCell ⟨w0.heap.size, 0, none⟩ (.slice B cs.length cap)).setCell ⟨w0.heap.size, 1, none⟩ (.int .i64 b)).cell? ⟨w0.heap.size, 1, none⟩ = some (.int .i64 b) := by
  have S := (h.store (i := 2) rfl 0 (.slice B cs.length cap)).store (i := 2) rfl 1 (.int .i64 b)
  exact ⟨S, S.cell (i := 2) rfl (o := 0) rfl, S.cell (i := 2) rfl (o := 1) rfl⟩
theorem plane_post {q1 q2 : Asn} {AA : Nat} (h : CS w0 g ca cl cc A w [q1, Own 3 1 (.slice B cs.length cap) cs.length (cs.map (.int .i64)), q2]) (hl : cs.length ≤ 14) (hb : I64 b) (hI : AllI cs) (hA : A ≤ AA) :
    PlanePost AA g ca cl cc w0 (.returned (.agg #[.slice B cs.length cap, .int .i64 b])) w := by
  obtain ⟨A', c', e, hN⟩ := ints_own (h.own (i := 1) rfl) hI
  cases e
  exact ⟨B, cap, cs, b, rfl, hl, hb, hN, own_from (h.owns_end (i := 1) rfl), h.cur.mono hA, h.chg⟩
theorem plane_put {AA n : Nat} (h : CS w0 g ca cl cc A w [Box qb 26 #[.slice B n cap, .int .i64 b], Own 3 1 (.slice B n cap) n (cs.map (.int .i64)), Box w0.heap.size 26 #[.slice none 0 0, .int .i64 0]]) (hn : cs.length = n) (hl : n ≤ 14) (hb : I64 b) (hI : AllI cs) (hA : A ≤ AA) :
    PlanePost AA g ca cl cc w0 (.returned (.agg #[.slice B n cap, .int .i64 b])) ((w.setCell ⟨w0.heap.size, 0, none⟩ (.slice B n cap)).setCell ⟨w0.heap.size, 1, none⟩ (.int .i64 b)) ∧
    ((w.setCell ⟨w0.heap.size, 0, none⟩ (.slice B n cap)).setCell ⟨w0.heap.size, 1, none⟩ (.int .i64 b)).cell? ⟨w0.heap.size, 0, none⟩ = some (.slice B n cap) ∧
    ((w.setCell ⟨w0.heap.size, 0, none⟩ (.slice B n cap)).setCell ⟨w0.heap.size, 1, none⟩ (.int .i64 b)).cell? ⟨w0.heap.size, 1, none⟩ = some (.int .i64 b) := by
  subst hn
  obtain ⟨S, h0, h1⟩ := plane_fin h
  exact ⟨plane_post S hl hb hI hA, h0, h1⟩
end

set_option maxRecDepth 100000 in
set_option maxHeartbeats 16000000 in
theorem cur_plane (vars : Int) (hv : -1 ≤ vars ∧ vars ≤ 13) (A g : Nat) (ca : Option Addr) (cl cc : Nat) (w : World) (h : CurIs A g ca cl cc w) (hA : A ≤ 50000000) :
    Calls Try.prog 23 #[.pointer (some ⟨g, 0, none⟩), .int .i64 vars] w (PlanePost (A + 200) g ca cl cc w) := by
  have hg := h.lt
  obtain ⟨i0, hi0, hz0, hz1, hz2⟩ := info_parts infoInt
  have S0 := ((CS.start h).alloc_box #[.slice none 0 0, .int .i64 0] 26).own_made 3 1
  simp only [World.size_alloc] at S0
  have S1 := Lib.hid (S0.alloc (.cells #[.int .i64 (-2), .int .i64 (-1), .int .i64 0, .int .i64 1, .int .i64 1, .int .i64 2, .int .i64 3, .int .i64 10000, .int .i64 (-10000)] 3))
  have hcall := Lib.hid (cur_among (-10000) 10000 (w.heap.size + 1 + 1) 0 9 9 (A) g ca cl cc _ S1.out.cur (by omega) (by decide) (by decide) (ints_new (by simp) fun j hj => by
        match j, hj with
        | 0, _ => exact ⟨_, rfl, by decide, by decide⟩
        | 1, _ => exact ⟨_, rfl, by decide, by decide⟩
        | 2, _ => exact ⟨_, rfl, by decide, by decide⟩
        | 3, _ => exact ⟨_, rfl, by decide, by decide⟩
        | 4, _ => exact ⟨_, rfl, by decide, by decide⟩
        | 5, _ => exact ⟨_, rfl, by decide, by decide⟩
        | 6, _ => exact ⟨_, rfl, by decide, by decide⟩
        | 7, _ => exact ⟨_, rfl, by decide, by decide⟩
        | 8, _ => exact ⟨_, rfl, by decide, by decide⟩) (by first | omega | (simp; omega)))
  clear S0
  go_enter Try.func23, Try.ntmps23
  go_wp2_with fail
  refine hcall.out.mono ?_
  rintro e w1 ⟨_, ⟨b0, hb0, hb1, rfl⟩, rfl, hi1, hc1⟩
  have S2 := (S1.out.turn hi1 hc1).alloc_box #[.slice (some ⟨w.heap.size + 1, 0, none⟩) ([] : List Int).length 0, .int .i64 b0] 26
  obtain ⟨qb, hqb⟩ : ∃ qb, w1.heap.size = qb := ⟨_, rfl⟩
  rw [hqb] at S2
  have S3 : Hid (PS w g ca cl cc (A + 4) _ qb (some ⟨w.heap.size + 1, 0, none⟩) 0 [] b0) := ⟨fun x hx => by simp at hx, S2.mono (show A + 2 ≤ A + 4 by omega)⟩
  clear S1 S2 hcall hi1 hc1
  go_wp2_with fail
  (try rw [hqb])
  go_loopw [6] (fun vk wr => ∃ (k : Nat) (cs : List Int) (B : Option Addr) (cap : Nat), 1 ≤ k ∧ k ≤ 14 ∧ cs.length + 1 = k ∧ vk = .int .i64 k ∧ Hid (PS w g ca cl cc (A + 4 * k) wr qb B cap cs b0)) (fun vk _ => 14 - (intOf vk).toNat)
  case atStart => exact ⟨1, [], _, _, by omega, by omega, rfl, rfl, S3⟩
  case round =>
    obtain ⟨k, cs, B, cap, hk1, hk2, hkl, rfl, HS⟩ := hrel
    replace hkl := Lib.hid hkl
    clear S3
    go_upto_region 3 with fail
    go_cut [19] (fun s wx => ∃ q : Bool, s = .bool q ∧ Hid (q = true → k ≤ 13) ∧ Hid (PS w g ca cl cc (A + 4 * k) wx qb B cap cs b0))
    case first =>
      have hcond : ((k : Int) ≤ vars ∧ (k : Int) ≤ 13) ∨ ¬ (k : Int) ≤ vars ∨ ((k : Int) ≤ vars ∧ ¬ (k : Int) ≤ 13) := by omega
      rcases hcond with ⟨hm, hn0⟩ | hm | ⟨hm, hn0⟩
      · have d1 : decide ((k : Int) ≤ vars) = true := decide_eq_true hm
        have d2 : decide ((k : Int) ≤ 13) = true := decide_eq_true hn0
        go_wp2_with fail
        go_meet
        exact ⟨true, rfl, fun _ => by omega, HS⟩
      · have d1 : decide ((k : Int) ≤ vars) = false := decide_eq_false hm
        go_wp2_with fail
        go_meet
        exact ⟨false, rfl, (fun e => by cases e), HS⟩
      · have d1 : decide ((k : Int) ≤ vars) = true := decide_eq_true hm
        have d2 : decide ((k : Int) ≤ 13) = false := decide_eq_false hn0
        go_wp2_with fail
        go_meet
        exact ⟨false, rfl, (fun e => by cases e), HS⟩
    case rest =>
    clear HS
    obtain ⟨q, rfl, hq, HS⟩ := hcut
    cases q
    case true =>
      have hk13 := hq.out rfl
      clear hq
      have hkw : IntKind.i64.wrap ((k : Int) + 1) = ((k + 1 : Nat) : Int) := by rw [IntWalk.i64_in _ (by omega)]; omega
      obtain ⟨hAI, HS1⟩ := HS.out
      replace hAI := Lib.hid hAI
      replace HS1 := Lib.hid HS1
      have l0 := HS1.out.cell (i := 0) rfl (o := 0) rfl
      clear HS
      go_wp2_with fail
      refine wp_region_tail_lit (S := (fun w' => w'.cell? ⟨qb, 0, none⟩ = some (.slice B cs.length cap))) 6 [false, false, false, false, false, false, false, false, false] (by kernel_rfl) (by kernel_rfl) (by kernel_rfl) ?_ ?_
      · exact l0
      intro hS
      (refine walkT_take (i := 0) (v := ?_) rfl (by kernel_rfl) (by decide) (by kernel_rfl) (by kernel_rfl) (fun _ _ _ h => h) (Or.inl ⟨by rfl, ?_⟩) (by assumption) ?_; rotate_left; (focus (intro w hSw; (try dsimp only at hSw); go_simp; (try with_reducible rfl); done)); (try simp only [put_rules]))
      (refine walkT_take (i := 1) (v := ?_) rfl (by kernel_rfl) (by decide) (by kernel_rfl) (by kernel_rfl) (fun _ _ _ h => h) (Or.inl ⟨by rfl, ?_⟩) (by assumption) ?_; rotate_left; (focus (intro w hSw; (try dsimp only at hSw); go_simp; (try with_reducible rfl); done)); (try simp only [put_rules]))
      (refine walkT_take (i := 2) (v := ?_) rfl (by kernel_rfl) (by decide) (by kernel_rfl) (by kernel_rfl) (fun _ _ _ h => h) (Or.inl ⟨by rfl, ?_⟩) (by assumption) ?_; rotate_left; (focus (intro w hSw; (try dsimp only at hSw); go_simp; (try with_reducible rfl); done)); (try simp only [put_rules]))
      (refine walkT_ready (rs := [3]) (by kernel_rfl) (by simp) (by decide) ?_; refine AllT.cons rfl (fun K hK => ?_) AllT.nil)
      go_simp
      have S4 := Lib.hid (HS1.out.drew.alloc (.cells #[.int .i64 (-2), .int .i64 (-1), .int .i64 (-1), .int .i64 0, .int .i64 0, .int .i64 1, .int .i64 1, .int .i64 2, .int .i64 2, .int .i64 3, .int .i64 4, .int .i64 1000, .int .i64 (-1000)] 3))
      refine hK.out _ _ (S4.out.cell (i := 0) rfl (o := 0) rfl) (fun hS2 => ?_)
      clear hK hS
      (try simp only [put_rules])
      (refine walkT_ready (rs := [4]) (by kernel_rfl) (by simp) (by decide) ?_; refine AllT.cons rfl (fun K hK => ?_) AllT.nil)
      go_simp
      have hgl := HS1.out.cur.lt
      go_at_call 30
      have hcall := Lib.hid (cur_among (-1000) 1000 wc.heap.size 0 13 13 (A + 4 * k) g ca cl cc _ S4.out.cur (by omega) (by decide) (by decide) (ints_new (by simp) fun j hj => by
          match j, hj with
          | 0, _ => exact ⟨_, rfl, by decide, by decide⟩
          | 1, _ => exact ⟨_, rfl, by decide, by decide⟩
          | 2, _ => exact ⟨_, rfl, by decide, by decide⟩
          | 3, _ => exact ⟨_, rfl, by decide, by decide⟩
          | 4, _ => exact ⟨_, rfl, by decide, by decide⟩
          | 5, _ => exact ⟨_, rfl, by decide, by decide⟩
          | 6, _ => exact ⟨_, rfl, by decide, by decide⟩
          | 7, _ => exact ⟨_, rfl, by decide, by decide⟩
          | 8, _ => exact ⟨_, rfl, by decide, by decide⟩
          | 9, _ => exact ⟨_, rfl, by decide, by decide⟩
          | 10, _ => exact ⟨_, rfl, by decide, by decide⟩
          | 11, _ => exact ⟨_, rfl, by decide, by decide⟩
          | 12, _ => exact ⟨_, rfl, by decide, by decide⟩) (by first | omega | (simp; omega)))
      refine hcall.out.mono ?_
      rintro e w4 ⟨_, ⟨z, hz3, hz4, rfl⟩, rfl, hi4, hc4⟩
      have S5 := Lib.hid (S4.out.turn hi4 hc4)
      have l5 := S5.out.cell (i := 0) rfl (o := 0) rfl
      clear S4 HS1 hcall hi4 hc4 l0
      go_wp2_with fail
      refine hK.out _ _ l5 (fun hS3 => ?_)
      clear hK hS2 l5
      (try simp only [put_rules])
      (refine walkT_ready (rs := [5]) (by kernel_rfl) (by simp) (by decide) ?_; refine AllT.cons rfl (fun K hK => ?_) AllT.nil)
      go_simp
      have S6 := S5.out.alloc_box #[.int .i64 z] 3
      have kB := S6.cell (i := 0) rfl (o := 0) rfl
      have e0 := S6.cell (i := 1) rfl (o := 0) rfl
      replace S6 := Lib.hid S6
      clear S5
      refine hK.out _ _ e0 (fun _ => ?_)
      clear hK e0
      (try simp only [put_rules])
      (refine walkT_done (by kernel_rfl) ?_)
      simp only [List.drop_succ_cons, List.drop_zero]
      have hl14 : cs.length ≤ 14 := by have := hkl.out; omega
      (refine wpList_append_src rfl _ _ rfl Try.underlying24 hi0 hz0 hz1 hz2 rfl (by decide) _ _ _ rfl (S6.out.own (i := 2) rfl) _ 1 1 [.int .i64 z] rfl (Src.one kB) (by simp [Value.oneCell']) (by unfold maxLen; omega) (by omega) ?_; intro vZ wZ hownZ hgZ hatZ)
      have S7 := (S6.out.own_push (i := 2) rfl (bb _) hownZ hgZ hatZ).tail
      obtain ⟨aZ, cZ, rfl⟩ := own_slice hownZ
      have p0 := S7.frozen (i := 0) rfl 0
      have j0 := S7.cell (i := 0) rfl (o := 0) rfl
      have S8 := PS.push (S7.store (i := 0) rfl 0 (.slice aZ (cs.length + 1) cZ)) hAI.out (u := z) (by unfold I64; omega)
      have hlen : (cs ++ [z]).length = cs.length + 1 := by simp
      have S9 : Hid (PS w g ca cl cc (A + 4 * (k + 1)) _ qb aZ cZ (cs ++ [z]) b0) := S8.mono (by omega)
      have hkl2 : Hid ((cs ++ [z]).length + 1 = k + 1) := by unfold Hid; rw [hlen, hkl.out]
      clear S6 S7 S8 kB hownZ hgZ hatZ hlen hAI hkl
      go_wp2_with fail
      go_roundw
      case rel => exact ⟨k + 1, cs ++ [z], aZ, cZ, by omega, by omega, hkl2.out, rfl, S9⟩
      case measure => simp [intOf]; omega
    case false =>
    clear hq
    have hl13 : cs.length ≤ 13 := by have := hkl.out; omega
    have HS2 : Hid (PS w g ca cl cc (A + 60) _ qb B cap cs b0) := HS.out.mono (by omega)
    have hb64 : Hid (I64 b0) := by unfold Hid I64; omega
    clear HS hkl hk1 hk2
    have hcur := Lib.hid HS2.out.2.cur
    go_wp2_with fail
    refine (cur_one 3 _ g ca cl cc _ hcur.out (by omega) (by omega)).mono ?_
    rintro e w3 ⟨_, ⟨q, rfl⟩, rfl, hi3, hc3⟩
    have S3 := Lib.hid (HS2.out.2.turn hi3 hc3)
    have hAI := Lib.hid HS2.out.1
    clear HS2 hcur hi3 hc3
    go_upto_if 31 with fail
    go_cut [] (fun wx => ∃ (cs : List Int), cs.length ≤ 13 ∧ Hid (PS w g ca cl cc (A + 100) wx qb B cap cs b0))
    case first =>
      cases q
      · go_wp2_with fail
        go_meet
        exact ⟨cs, hl13, hAI.out, S3.out.mono (by omega)⟩
      · have S4 : Hid (PS w g ca cl cc (A + 62 + 2 * 0) w3 qb B cap cs b0) := ⟨hAI.out, S3.out⟩
        clear hAI S3
        go_wp2_with fail
        go_loopw [7] (fun vi wr => ∃ (i : Nat) (cs : List Int), i ≤ cs.length ∧ cs.length ≤ 13 ∧ vi = .int .i64 i ∧ Hid (PS w g ca cl cc (A + 62 + 2 * i) wr qb B cap cs b0)) (fun vi wr => lenAt0 wr qb - (intOf vi).toNat)
        case atStart => exact ⟨0, cs, by omega, hl13, rfl, S4⟩
        case round =>
          clear S4 hl13
          obtain ⟨i, cs, hil, hl13, rfl, HS⟩ := hrel
          obtain ⟨hAI, HS1⟩ := HS.out
          replace hAI := Lib.hid hAI
          replace HS1 := Lib.hid HS1
          have l0 := HS1.out.cell (i := 0) rfl (o := 0) rfl
          by_cases hlt : i < cs.length
          · have hiw : IntKind.i64.wrap ((i : Int) + 1) = ((i + 1 : Nat) : Int) := by rw [IntWalk.i64_in _ (by omega)]; omega
            have d0 : decide ((i : Int) < (cs.length : Int)) = true := decide_eq_true (by omega)
            have hm1 : Hid (lenAt0 wr qb = cs.length) := lenAt0_of l0
            obtain ⟨gx, cap', cur, e1, -, hh, -, -, -, ht⟩ := own_block (HS1.out.own (i := 1) rfl) (by omega)
            simp only [Value.slice.injEq] at e1
            obtain ⟨rfl, -, rfl⟩ := e1
            go_wp2_with fail
            refine wp_region_tail_lit (S := (fun w' => w'.cell? ⟨qb, 0, none⟩ = some (.slice (some ⟨gx, 0, none⟩) cs.length cap))) 6 [false, false, false, false, false, false, false, false] (by kernel_rfl) (by kernel_rfl) (by kernel_rfl) ?_ ?_
            · exact l0
            intro hS
            (refine walkT_take (i := 0) (v := ?_) rfl (by kernel_rfl) (by decide) (by kernel_rfl) (by kernel_rfl) (fun _ _ _ h => h) (Or.inl ⟨by rfl, ?_⟩) (by assumption) ?_; rotate_left; (focus (intro w hSw; (try dsimp only at hSw); go_simp; (try with_reducible rfl); done)); (try simp only [put_rules]))
            (refine walkT_take (i := 1) (v := ?_) rfl (by kernel_rfl) (by decide) (by kernel_rfl) (by kernel_rfl) (fun _ _ _ h => h) (Or.inl ⟨by rfl, ?_⟩) (by assumption) ?_; rotate_left; (focus (intro w hSw; (try dsimp only at hSw); go_simp; (try with_reducible rfl); done)); (try simp only [put_rules]))
            (refine walkT_take (i := 2) (v := ?_) rfl (by kernel_rfl) (by decide) (by kernel_rfl) (by kernel_rfl) (fun _ _ _ h => h) (Or.inl ⟨by rfl, ?_⟩) (by assumption) ?_; rotate_left; (focus (intro w hSw; (try dsimp only at hSw); go_simp; (try with_reducible rfl); done)); (try simp only [put_rules]))
            (refine walkT_take (i := 3) (v := ?_) rfl (by kernel_rfl) (by decide) (by kernel_rfl) (by kernel_rfl) (fun _ _ _ h => h) (Or.inl ⟨by rfl, ?_⟩) (by assumption) ?_; rotate_left; (focus (intro w hSw; (try dsimp only at hSw); go_simp; (try with_reducible rfl); done)); (try simp only [put_rules]))
            (refine walkT_ready (rs := [4]) (by kernel_rfl) (by simp) (by decide) ?_; refine AllT.cons rfl (fun K hK => ?_) AllT.nil)
            go_simp
            have S4 := Lib.hid (HS1.out.drew.alloc (.cells #[.int .i64 (-2), .int .i64 0, .int .i64 2, .int .i64 4] 3))
            refine hK.out _ _ (S4.out.cell (i := 0) rfl (o := 0) rfl) (fun hS2 => ?_)
            clear hK hS
            (try simp only [put_rules])
            (refine walkT_ready (rs := [5]) (by kernel_rfl) (by simp) (by decide) ?_; refine AllT.cons rfl (fun K hK => ?_) AllT.nil)
            go_simp
            have hgl : g < wr.heap.size := HS1.out.cur.lt
            go_at_call 30
            have hcall := Lib.hid (cur_among (-2) 4 wr.heap.size 0 4 4 (A + 62 + 2 * i) g ca cl cc _ S4.out.cur (by omega) (by decide) (by decide) (ints_new (by simp) fun j hj => by
          match j, hj with
          | 0, _ => exact ⟨_, rfl, by decide, by decide⟩
          | 1, _ => exact ⟨_, rfl, by decide, by decide⟩
          | 2, _ => exact ⟨_, rfl, by decide, by decide⟩
          | 3, _ => exact ⟨_, rfl, by decide, by decide⟩) (by first | omega | (simp; omega)))
            refine hcall.out.mono ?_
            rintro e w4 ⟨_, ⟨z, hz3, hz4, rfl⟩, rfl, hi4, hc4⟩
            have S5 := S4.out.turn hi4 hc4
            have l5 := S5.cell (i := 0) rfl (o := 0) rfl
            obtain ⟨g', cap', cur', e1, -, hh', -, -, -, ht'⟩ := own_block (S5.own (i := 1) rfl) (by omega)
            simp only [Value.slice.injEq, Option.some.injEq, Addr.mk.injEq] at e1
            obtain ⟨⟨rfl, -⟩, -, rfl⟩ := e1
            have hcx := (own_at hh' ht' (o := i) (by omega)).1
            have hfx := (own_at hh' ht' (o := i) (by omega)).2
            have S6 := PS.put (S5.own_put (i := 1) rfl (.int .i64 z) (o := i) (by omega)) hAI.out (u := z) (by unfold I64; omega)
            obtain ⟨u, hu⟩ : ∃ u, (cs.map (Value.int .i64))[i]? = some u := ⟨_, List.getElem?_eq_getElem (by simp; omega)⟩
            rw [hu] at hcx
            have hlen : (cs.set i z).length = cs.length := by simp
            have S7 : Hid (PS w g ca cl cc (A + 62 + 2 * (i + 1)) _ qb (some ⟨gx, 0, none⟩) cap (cs.set i z) b0) := S6.mono (by omega)
            have hl2 : Hid ((cs.set i z).length = cs.length) := hlen
            have hm2 : Hid (lenAt0 (w4.setCell ⟨gx, i, none⟩ (.int .i64 z)) qb = cs.length) := by
              have := lenAt0_of (S7.out.2.cell (i := 0) rfl (o := 0) rfl)
              unfold Hid; rw [this, hlen]
            go_wp2_with fail
            refine hK.out _ _ l5 (fun hS3 => ?_)
            clear hK hS2 hh hh' ht ht' S4 S5 S6 hi4 hc4 hu hlen HS1 HS hcall
            (try simp only [put_rules])
            (refine walkT_done (by kernel_rfl) ?_)
            simp only [List.drop_succ_cons, List.drop_zero]
            go_wp2_with fail
            go_roundw
            case rel => exact ⟨i + 1, cs.set i z, by rw [hl2.out]; omega, by rw [hl2.out]; omega, rfl, S7⟩
            case measure => rw [hm1.out, hm2.out]; simp [intOf]; omega
          · have d0 : decide ((i : Int) < (cs.length : Int)) = false := decide_eq_false (by omega)
            have HS3 : Hid (PS w g ca cl cc (A + 100) _ qb B cap cs b0) := HS.out.mono (by omega)
            clear HS HS1 hAI
            go_wp2_with fail
            go_meet
            exact ⟨cs, hl13, HS3⟩
    case rest =>
    clear S3 hAI hl13
    obtain ⟨cs, hl13, HS⟩ := hcut
    obtain ⟨hAI, HS1⟩ := HS.out
    replace hAI := Lib.hid hAI
    have hcur := Lib.hid HS1.cur
    go_wp2_with fail
    refine (cur_pick_at (lo := 0) (hi := 29) hcur.out (by omega) (by omega) (by omega) (by omega) (by omega)).mono ?_
    rintro e w4 ⟨_, ⟨x, hx0, hx1, rfl⟩, rfl, hi4, hc4⟩
    have S4 := Lib.hid (HS1.turn hi4 hc4)
    clear HS HS1 hcur hi4 hc4
    have hgl : g < w4.heap.size := S4.out.cur.lt
    have hx5 : x = 0 ∨ x = 1 ∨ x = 2 ∨ 2 < x := by omega
    rcases hx5 with rfl | rfl | rfl | hx5
    · have l0 := S4.out.cell (i := 0) rfl (o := 0) rfl
      have S6 := S4.out.alloc_box #[.int .i64 0] 3
      have kB := S6.cell (i := 0) rfl (o := 0) rfl
      have e0 := S6.cell (i := 1) rfl (o := 0) rfl
      replace S6 := Lib.hid S6
      clear S4
      go_wp2_with (at_builtin; refine wpList_append_src rfl _ _ rfl Try.underlying24 hi0 hz0 hz1 hz2 rfl (by decide) _ cs.length _ rfl (S6.out.own (i := 2) rfl) _ 1 1 [.int .i64 0] rfl (Src.one kB) (by simp [Value.oneCell']) ?c3 ?c4 ?_)
      case c3 => unfold maxLen; omega
      case c4 => omega
      intro vY wY hownY hgY hatY
      have S7 := (S6.out.own_push (i := 2) rfl (bb _) hownY hgY (by simpa using hatY)).tail
      obtain ⟨aY, cY, rfl⟩ := own_slice hownY
      have b0' := S7.cell (i := 0) rfl (o := 0) rfl
      have q0 := S7.frozen (i := 0) rfl 0
      have S8 := PS.push (S7.store (i := 0) rfl 0 (.slice aY (cs.length + 1) cY)) hAI.out (u := 0) (by unfold I64; omega)
      have hlen : (cs ++ [0]).length = cs.length + 1 := by simp
      have hl2 : (cs ++ [0]).length ≤ 14 := by omega
      obtain ⟨hAI2, S9⟩ := S8
      rw [hlen] at S9
      have S10 := Lib.hid S9
      clear S6 S7 S9 kB e0 hownY hgY hatY l0

      have l0 := S10.out.cell (i := 0) rfl (o := 0) rfl
      have l1 := S10.out.cell (i := 0) rfl (o := 1) rfl
      have r0 := S10.out.cell (i := 2) rfl (o := 0) rfl
      have r1 := S10.out.cell (i := 2) rfl (o := 1) rfl
      have f0 := S10.out.frozen (i := 2) rfl 0
      have f1 := S10.out.frozen (i := 2) rfl 1
      have hPP := Lib.hid (plane_put (AA := A + 200) S10.out hlen (by omega) hb64.out hAI2 (by omega))
      obtain ⟨hP1, j0, j1⟩ := hPP.out
      replace hP1 := Lib.hid hP1
      clear S10 hPP 
      go_wp2_with fail
      exact bodyPost_ret (v := .agg #[.slice aY (cs.length + 1) cY, .int .i64 b0]) (by simp [results, Try.results23, go_sem, j0, j1]) rfl hP1.out
    · by_cases hl0 : 0 < cs.length
      · have d0 : decide ((0 : Int) < (cs.length : Int)) = true := decide_eq_true (by omega)
        have l0 := S4.out.cell (i := 0) rfl (o := 0) rfl
        obtain ⟨gx, cap', cur, e1, -, hh, -, -, -, ht⟩ := own_block (S4.out.own (i := 1) rfl) hl0
        simp only [Value.slice.injEq] at e1
        obtain ⟨rfl, -, rfl⟩ := e1
        replace S4 := Lib.hid S4.out.drew
        go_wp2_with fail
        refine wp_region_tail_lit (S := (fun w' => w'.cell? ⟨qb, 0, none⟩ = some (.slice (some ⟨gx, 0, none⟩) cs.length cap))) 10 [false, false, false, false, false, false, false, false, false, false, false, false] (by kernel_rfl) (by kernel_rfl) (by kernel_rfl) ?_ ?_
        · exact l0
        intro hS
        (refine walkT_take (i := 0) (v := ?_) rfl (by kernel_rfl) (by decide) (by kernel_rfl) (by kernel_rfl) (fun _ _ _ h => h) (Or.inl ⟨by rfl, ?_⟩) (by assumption) ?_; rotate_left; (focus (intro w hSw; (try dsimp only at hSw); go_simp; (try with_reducible rfl); done)); (try simp only [put_rules]))
        (refine walkT_take (i := 1) (v := ?_) rfl (by kernel_rfl) (by decide) (by kernel_rfl) (by kernel_rfl) (fun _ _ _ h => h) (Or.inl ⟨by rfl, ?_⟩) (by assumption) ?_; rotate_left; (focus (intro w hSw; (try dsimp only at hSw); go_simp; (try with_reducible rfl); done)); (try simp only [put_rules]))
        (refine walkT_take (i := 2) (v := ?_) rfl (by kernel_rfl) (by decide) (by kernel_rfl) (by kernel_rfl) (fun _ _ _ h => h) (Or.inl ⟨by rfl, ?_⟩) (by assumption) ?_; rotate_left; (focus (intro w hSw; (try dsimp only at hSw); go_simp; (try with_reducible rfl); done)); (try simp only [put_rules]))
        (refine walkT_take (i := 3) (v := ?_) rfl (by kernel_rfl) (by decide) (by kernel_rfl) (by kernel_rfl) (fun _ _ _ h => h) (Or.inl ⟨by rfl, ?_⟩) (by assumption) ?_; rotate_left; (focus (intro w hSw; (try dsimp only at hSw); go_simp; (try with_reducible rfl); done)); (try simp only [put_rules]))
        (refine walkT_take (i := 4) (v := ?_) rfl (by kernel_rfl) (by decide) (by kernel_rfl) (by kernel_rfl) (fun _ _ _ h => h) (Or.inl ⟨by rfl, ?_⟩) (by assumption) ?_; rotate_left; (focus (intro w hSw; (try dsimp only at hSw); go_simp; (try with_reducible rfl); done)); (try simp only [put_rules]))
        (refine walkT_take (i := 5) (v := ?_) rfl (by kernel_rfl) (by decide) (by kernel_rfl) (by kernel_rfl) (fun _ _ _ h => h) (Or.inl ⟨by rfl, ?_⟩) (by assumption) ?_; rotate_left; (focus (intro w hSw; (try dsimp only at hSw); go_simp; (try with_reducible rfl); done)); (try simp only [put_rules]))
        (refine walkT_take (i := 7) (v := ?_) rfl (by kernel_rfl) (by decide) (by kernel_rfl) (by kernel_rfl) (fun _ _ _ h => h) (Or.inl ⟨by rfl, ?_⟩) (by assumption) ?_; rotate_left; (focus (intro w hSw; (try dsimp only at hSw); go_simp; (try with_reducible rfl); done)); (try simp only [put_rules]))
        (refine walkT_ready (rs := [6, 8]) (by kernel_rfl) (by simp) (by decide) ?_; refine AllT.cons rfl (fun K hK => ?_) (AllT.cons rfl (fun K hK => ?_) AllT.nil))
        · as_aux_lemma =>
            go_simp
            go_at_call 31
            refine (cur_pick_at (lo := 0) (hi := (cs.length : Int) - 1) S4.out.cur (by omega) (by omega) (by omega) (by omega) (by omega)).mono ?_
            rintro e w5 ⟨_, ⟨y, hy0, hy1, rfl⟩, rfl, hi5, hc5⟩
            obtain ⟨m, rfl⟩ := Int.eq_ofNat_of_zero_le hy0
            have hml : m < cs.length := by omega
            have S5 := Lib.hid (S4.out.turn hi5 hc5)
            have l5 := S5.out.cell (i := 0) rfl (o := 0) rfl
            clear S4 hi5 hc5 hy0 hy1
            go_wp2_with fail
            refine hK.out _ _ l5 (fun hS3 => ?_)
            clear hK l5
            (try simp only [put_rules])
            (refine walkT_ready (rs := [8]) (by kernel_rfl) (by simp) (by decide) ?_; refine AllT.cons rfl (fun K hK => ?_) AllT.nil)
            have hgl5 : g < w5.heap.size := S5.out.cur.lt
            go_simp
            have S6 := Lib.hid (S5.out.alloc (.cells #[.int .i64 1001, .int .i64 (-1001), .int .i64 4611686018427387904] 3))
            refine hK.out _ _ (S6.out.cell (i := 0) rfl (o := 0) rfl) (fun hS4 => ?_)
            clear hK
            (try simp only [put_rules])
            (refine walkT_ready (rs := [9]) (by kernel_rfl) (by simp) (by decide) ?_; refine AllT.cons rfl (fun K hK => ?_) AllT.nil)
            go_simp

            go_at_call 30
            have hcall := Lib.hid (cur_among (-1001) 4611686018427387904 w5.heap.size 0 3 3 (A + 104) g ca cl cc _ S6.out.cur (by omega) (by decide) (by decide) (ints_new (by simp) fun j hj => by
                  match j, hj with
                  | 0, _ => exact ⟨_, rfl, by decide, by decide⟩
                  | 1, _ => exact ⟨_, rfl, by decide, by decide⟩
                  | 2, _ => exact ⟨_, rfl, by decide, by decide⟩) (by first | omega | (simp; omega)))
            refine hcall.out.mono ?_
            rintro e w6 ⟨_, ⟨z, hz3, hz4, rfl⟩, rfl, hi6, hc6⟩
            have S7 := S6.out.turn hi6 hc6
            have l6 := S7.cell (i := 0) rfl (o := 0) rfl
            obtain ⟨g', cap', cur', e1, -, hh', -, -, -, ht'⟩ := own_block (S7.own (i := 1) rfl) (by omega)
            simp only [Value.slice.injEq, Option.some.injEq, Addr.mk.injEq] at e1
            obtain ⟨⟨rfl, -⟩, -, rfl⟩ := e1
            have hcx := (own_at hh' ht' (o := m) (by omega)).1
            have hfx := (own_at hh' ht' (o := m) (by omega)).2
            have hS8 := PS.put (S7.own_put (i := 1) rfl (.int .i64 z) (o := m) (by omega)) hAI.out (u := z) (by unfold I64; omega)
            obtain ⟨u, hu⟩ : ∃ u, (cs.map (Value.int .i64))[m]? = some u := ⟨_, List.getElem?_eq_getElem (by simp; omega)⟩
            rw [hu] at hcx
            have hlen : (cs.set m z).length = cs.length := by simp
            obtain ⟨hAI2, S8⟩ := hS8
            replace hAI2 := Lib.hid hAI2
            have hl2 : Hid ((cs.set m z).length = cs.length) := hlen
            rw [hlen] at S8
            replace S8 := Lib.hid S8
            go_wp2_with fail
            refine hK.out _ _ l6 (fun hS3 => ?_)
            clear hK hh hh' ht ht' S6 S7 hi6 hc6 hu hcall
            (try simp only [put_rules])
            (refine walkT_done (by kernel_rfl) ?_)
            simp only [List.drop_succ_cons, List.drop_zero]
            have l0 := S8.out.cell (i := 0) rfl (o := 0) rfl
            have l1 := S8.out.cell (i := 0) rfl (o := 1) rfl
            have r0 := S8.out.cell (i := 2) rfl (o := 0) rfl
            have r1 := S8.out.cell (i := 2) rfl (o := 1) rfl
            have f0 := S8.out.frozen (i := 2) rfl 0
            have f1 := S8.out.frozen (i := 2) rfl 1
            have hPP := Lib.hid (plane_put S8.out hl2.out (by omega) hb64.out hAI2.out (show A + 104 + 2 ≤ A + 200 by omega))
            obtain ⟨hP1, j0, j1⟩ := hPP.out
            replace hP1 := Lib.hid hP1
            clear S8 hPP hlen hS3
            go_wp2_with fail
            exact bodyPost_ret (v := .agg #[.slice (some ⟨gx, 0, none⟩) cs.length cap, .int .i64 b0]) (by simp [results, Try.results23, go_sem, j0, j1]) rfl hP1.out
        · as_aux_lemma =>
            go_simp
            have S6 := Lib.hid (S4.out.alloc_box #[.int .i64 1001, .int .i64 (-1001), .int .i64 4611686018427387904] 3)
            refine hK.out _ _ (S6.out.cell (i := 1) rfl (o := 0) rfl) (fun hS4 => ?_)
            clear hK
            (try simp only [put_rules])
            (refine walkT_ready (rs := [6]) (by kernel_rfl) (by simp) (by decide) ?_; refine AllT.cons rfl (fun K hK => ?_) AllT.nil)
            go_simp
            go_at_call 31
            refine (cur_pick_at (lo := 0) (hi := (cs.length : Int) - 1) S6.out.cur (by omega) (by omega) (by omega) (by omega) (by omega)).mono ?_
            rintro e w5 ⟨_, ⟨y, hy0, hy1, rfl⟩, rfl, hi5, hc5⟩
            obtain ⟨m, rfl⟩ := Int.eq_ofNat_of_zero_le hy0
            have hml : m < cs.length := by omega
            have S5 := Lib.hid (S6.out.turn hi5 hc5)
            have l5 := S5.out.cell (i := 1) rfl (o := 0) rfl
            clear S6 hi5 hc5 hy0 hy1
            go_wp2_with fail
            refine hK.out _ _ l5 (fun hS3 => ?_)
            clear hK l5
            (try simp only [put_rules])
            have hgl5 : g < w5.heap.size := S5.out.cur.lt
            have hcell : ∀ j, j < 3 → ∃ x, (-1001 : Int) ≤ x ∧ x ≤ 4611686018427387904 ∧ w5.cell? ⟨w4.heap.size, 0 + j, none⟩ = some (.int .i64 x) := fun j hj => by
              rw [Nat.zero_add]
              match j, hj with
              | 0, _ => exact ⟨_, by decide, by decide, S5.out.cell (i := 0) rfl rfl⟩
              | 1, _ => exact ⟨_, by decide, by decide, S5.out.cell (i := 0) rfl rfl⟩
              | 2, _ => exact ⟨_, by decide, by decide, S5.out.cell (i := 0) rfl rfl⟩
            replace S5 := Lib.hid S5.out.tail
            replace hcell := Lib.hid hcell
            (refine walkT_ready (rs := [9]) (by kernel_rfl) (by simp) (by decide) ?_; refine AllT.cons rfl (fun K hK => ?_) AllT.nil)
            go_simp

            go_at_call 30
            have hcall := Lib.hid (cur_among (-1001) 4611686018427387904 w4.heap.size 0 3 3 (A + 104) g ca cl cc _ S5.out.cur (by omega) (by decide) (by decide) hcell.out (by omega))
            refine hcall.out.mono ?_
            rintro e w6 ⟨_, ⟨z, hz3, hz4, rfl⟩, rfl, hi6, hc6⟩
            have S7 := S5.out.turn hi6 hc6
            have l6 := S7.cell (i := 0) rfl (o := 0) rfl
            obtain ⟨g', cap', cur', e1, -, hh', -, -, -, ht'⟩ := own_block (S7.own (i := 1) rfl) (by omega)
            simp only [Value.slice.injEq, Option.some.injEq, Addr.mk.injEq] at e1
            obtain ⟨⟨rfl, -⟩, -, rfl⟩ := e1
            have hcx := (own_at hh' ht' (o := m) (by omega)).1
            have hfx := (own_at hh' ht' (o := m) (by omega)).2
            have hS8 := PS.put (S7.own_put (i := 1) rfl (.int .i64 z) (o := m) (by omega)) hAI.out (u := z) (by unfold I64; omega)
            obtain ⟨u, hu⟩ : ∃ u, (cs.map (Value.int .i64))[m]? = some u := ⟨_, List.getElem?_eq_getElem (by simp; omega)⟩
            rw [hu] at hcx
            have hlen : (cs.set m z).length = cs.length := by simp
            obtain ⟨hAI2, S8⟩ := hS8
            replace hAI2 := Lib.hid hAI2
            have hl2 : Hid ((cs.set m z).length = cs.length) := hlen
            rw [hlen] at S8
            replace S8 := Lib.hid S8
            go_wp2_with fail
            refine hK.out _ _ l6 (fun hS3 => ?_)
            clear hK hh hh' ht ht' S5 S7 hi6 hc6 hu hcall
            (try simp only [put_rules])
            (refine walkT_done (by kernel_rfl) ?_)
            simp only [List.drop_succ_cons, List.drop_zero]
            have l0 := S8.out.cell (i := 0) rfl (o := 0) rfl
            have l1 := S8.out.cell (i := 0) rfl (o := 1) rfl
            have r0 := S8.out.cell (i := 2) rfl (o := 0) rfl
            have r1 := S8.out.cell (i := 2) rfl (o := 1) rfl
            have f0 := S8.out.frozen (i := 2) rfl 0
            have f1 := S8.out.frozen (i := 2) rfl 1
            have hPP := Lib.hid (plane_put S8.out hl2.out (by omega) hb64.out hAI2.out (show A + 104 + 2 ≤ A + 200 by omega))
            obtain ⟨hP1, j0, j1⟩ := hPP.out
            replace hP1 := Lib.hid hP1
            clear S8 hPP hlen hS3
            go_wp2_with fail
            exact bodyPost_ret (v := .agg #[.slice (some ⟨gx, 0, none⟩) cs.length cap, .int .i64 b0]) (by simp [results, Try.results23, go_sem, j0, j1]) rfl hP1.out
      · have d0 : decide ((0 : Int) < (cs.length : Int)) = false := decide_eq_false (by omega)
        have l0 := S4.out.cell (i := 0) rfl (o := 0) rfl
        have l1 := S4.out.cell (i := 0) rfl (o := 1) rfl
        have r0 := S4.out.cell (i := 2) rfl (o := 0) rfl
        have r1 := S4.out.cell (i := 2) rfl (o := 1) rfl
        have f0 := S4.out.frozen (i := 2) rfl 0
        have f1 := S4.out.frozen (i := 2) rfl 1
        have hPP := Lib.hid (plane_put (AA := A + 200) S4.out rfl (by omega) hb64.out hAI.out (by omega))
        obtain ⟨hP1, j0, j1⟩ := hPP.out
        replace hP1 := Lib.hid hP1
        clear S4 hPP 
        go_wp2_with fail
        exact bodyPost_ret (v := .agg #[.slice B (cs.length) cap, .int .i64 b0]) (by simp [results, Try.results23, go_sem, j0, j1]) rfl hP1.out
    · have S5 := Lib.hid (S4.out.alloc (.cells #[.int .i64 10001, .int .i64 (-10001), .int .i64 (-9223372036854775808)] 3))
      have hcall := Lib.hid (cur_among (-9223372036854775808) 10001 w4.heap.size 0 3 3 (A + 102) g ca cl cc _ S5.out.cur (by omega) (by decide) (by decide) (ints_new (by simp) fun j hj => by
          match j, hj with
          | 0, _ => exact ⟨_, rfl, by decide, by decide⟩
          | 1, _ => exact ⟨_, rfl, by decide, by decide⟩
          | 2, _ => exact ⟨_, rfl, by decide, by decide⟩) (by first | omega | (simp; omega)))
      go_wp2_with fail
      refine hcall.out.mono ?_
      rintro e w5 ⟨_, ⟨z, hz3, hz4, rfl⟩, rfl, hi5, hc5⟩
      have S6 := S5.out.turn hi5 hc5
      have b1' := S6.cell (i := 0) rfl (o := 1) rfl
      have q1 := S6.frozen (i := 0) rfl 1
      have S7 : Hid (CS w g ca cl cc (A + 102 + 2) _ [Box qb 26 #[.slice B cs.length cap, .int .i64 z], _, _]) := S6.store (i := 0) rfl 1 (.int .i64 z)
      have hz64 : Hid (I64 z) := by unfold Hid I64; omega
      clear S4 S5 S6 hcall hi5 hc5
      have l0 := S7.out.cell (i := 0) rfl (o := 0) rfl
      have l1 := S7.out.cell (i := 0) rfl (o := 1) rfl
      have r0 := S7.out.cell (i := 2) rfl (o := 0) rfl
      have r1 := S7.out.cell (i := 2) rfl (o := 1) rfl
      have f0 := S7.out.frozen (i := 2) rfl 0
      have f1 := S7.out.frozen (i := 2) rfl 1
      have hPP := Lib.hid (plane_put (AA := A + 200) S7.out rfl (by omega) hz64.out hAI.out (by omega))
      obtain ⟨hP1, j0, j1⟩ := hPP.out
      replace hP1 := Lib.hid hP1
      clear S7 hPP 
      go_wp2_with fail
      exact bodyPost_ret (v := .agg #[.slice B (cs.length) cap, .int .i64 z]) (by simp [results, Try.results23, go_sem, j0, j1]) rfl hP1.out
    · have x0 : (x == 0) = false := by simp; omega
      have x1 : (x == 1) = false := by simp; omega
      have x2 : (x == 2) = false := by simp; omega
      have l0 := S4.out.cell (i := 0) rfl (o := 0) rfl
      have l1 := S4.out.cell (i := 0) rfl (o := 1) rfl
      have r0 := S4.out.cell (i := 2) rfl (o := 0) rfl
      have r1 := S4.out.cell (i := 2) rfl (o := 1) rfl
      have f0 := S4.out.frozen (i := 2) rfl 0
      have f1 := S4.out.frozen (i := 2) rfl 1
      have hPP := Lib.hid (plane_put (AA := A + 200) S4.out rfl (by omega) hb64.out hAI.out (by omega))
      obtain ⟨hP1, j0, j1⟩ := hPP.out
      replace hP1 := Lib.hid hP1
      clear S4 hPP 
      go_wp2_with fail
      exact bodyPost_ret (v := .agg #[.slice B (cs.length) cap, .int .i64 b0]) (by simp [results, Try.results23, go_sem, j0, j1]) rfl hP1.out
end Go.Proofs.Ytcdgpekefiplnaa
