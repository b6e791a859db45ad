/- Lemmas and contracts for a law, put together out of several texts: CyD PnN CyE RsA CyF CxF. -/
import Derived.Test.YtahbepajeplcmaaGreatDoorMg7
import Derived.Test.YtahbepajeplcmaaGreatDoorMg3
import Derived.Lib.Hide
import Derived.Deep.QuietTactic
import Derived.BigQuiet
import Derived.Lib.QuietBelow
/- Rows of rows that grow by several rows; rows of one number. -/
namespace Go.Proofs.YtahbepajeplcmaaGreatDoor
open Go.RowKit

/-- Rows that wait to be appended. -/
def Pend {α : Type} (T : Ty α) (us : List Value) (yss : List (List α)) : Asn where
  p w F := F.Nodup ∧ (Ty.slice T).all true w us yss F
  lt h := Ty.all_lt h.2
  keep h hk := ⟨h.1, Ty.all_keep h.2 hk⟩
section
variable {w0 w w' w1 : World} {g cl cc A : Nat} {ca : Option Addr} {ps : List Asn} {e : TypeId} {α : Type} {T : Ty α} {v v' u1 u2 : Value} {cs us : List Value} {xss yss : List (List α)} {ys1 ys2 : List α}
theorem CS.pend (h : CS w0 g ca cl cc A w (Row T u1 ys1 :: Row T u2 ys2 :: ps)) : CS w0 g ca cl cc A w (Pend T [u1, u2] [ys1, ys2] :: ps) := by
  obtain ⟨h0, h1, h2, F, ⟨F1, F2, rfl, hd, ⟨hr, hn⟩, ⟨F3, F4, rfl, hd', ⟨hr', hn'⟩, h5⟩⟩, h3⟩ := h
  refine ⟨h0, h1, h2, (F1 ++ F3) ++ F4, ⟨F1 ++ F3, F4, rfl, ?_, ⟨?_, Ty.all_append (cs := [u1]) (xs := [ys1]) (Ty.all_one ⟨u1, rfl, hr⟩) (Ty.all_one ⟨u2, rfl, hr'⟩)⟩, h5⟩, ?_⟩
  · intro b hm hm4
    rcases List.mem_append.1 hm with hm | hm
    · exact hd b hm (List.mem_append.2 (.inr hm4))
    · exact hd' b hm hm4
  · exact List.nodup_append.2 ⟨hn, hn', fun x hx y hy e => hd x hx (List.mem_append.2 (.inl (e ▸ hy)))⟩
  · intro b hm
    exact h3 b (by simpa [List.append_assoc] using hm)
theorem CS.rows_append (h : CS w0 g ca cl cc A w (Pend T us yss :: Rows T e v cs xss :: ps)) (hb : Below w.heap.size w w1) (ho : w'.ownsRow 0 e 1 v' (xss.length + yss.length) (cs ++ us)) (hg : w1.grownBy w' v.ownBlock)
    (hat : v'.ownBlock = v.ownBlock ∨ v'.ownBlock = some w1.heap.size) : CS w0 g ca cl cc A w' (Rows T e v' (cs ++ us) (xss ++ yss) :: ps) := by
  have hsz := h.chg.size
  obtain ⟨⟨A0, h0'⟩, hcur, h1, F, ⟨F1, F2, rfl, hd, ⟨hn, hr⟩, ⟨F3, F4, rfl, hd', ⟨G, rfl, hn', hall, hown⟩, h5⟩⟩, h3⟩ := h
  have hr1 := Ty.all_keep hr fun b hm => hb.block b (Ty.all_lt hr b hm)
  have hall1 := Ty.all_keep hall fun b hm => hb.block b (Ty.all_lt hall b hm)
  have h51 := sep_keep h5 fun b hm => hb.block b (sep_lt h5 b hm)
  have hkeep : ∀ b, b < w.heap.size → (∀ g, v.ownBlock = some g → b ≠ g) → w'.heap[b]? = w1.heap[b]? := fun b hlt hne => hg.block b (Nat.lt_of_lt_of_le hlt hb.size) (fun e => hne b e.symm rfl)
  have hr2 := Ty.all_keep hr1 fun b hm => hkeep b (Ty.all_lt hr b hm) fun g hg' e => hd b hm (by simp [hg', e])
  have hnG : ∀ b ∈ G, ∀ g, v.ownBlock = some g → b ≠ g := fun b hm g hg' e => by
    rw [List.nodup_append] at hn'
    exact hn'.2.2 g (by simp [hg']) b hm e.symm
  have hall2 := Ty.all_keep hall1 fun b hm => hkeep b (Ty.all_lt hall b hm) (hnG b hm)
  have h52 := sep_keep h51 fun b hm => hkeep b (sep_lt h5 b hm) fun g hg' e => hd' b (by simp [hg', e]) hm
  have hlv : ∀ b ∈ v'.ownBlock.toList, b ∈ v.ownBlock.toList ∨ b = w1.heap.size := fun b hm => by
    rcases hat with h | h
    · left; rwa [h] at hm
    · right; rw [h] at hm; simpa using hm
  have hs := hb.size
  have hold : ∀ k, k < w0.heap.size → w'.heap[k]? = w.heap[k]? := fun k hk => (hkeep k (by omega) fun g hg' e => by have := h3 g (by simp [hg']); omega).trans (hb.block k (by omega))
  have hchg : Chg [g] w0 w' := ⟨hg.os.trans (hb.os.trans h1.os), hg.tape.trans (hb.tape.trans h1.tape), hg.output.trans (hb.output.trans h1.output), by have := hg.size; omega, fun k hk hn => (hold k hk).trans (h1.block k hk hn)⟩
  refine ⟨⟨A0, h0'⟩, h0'.stay hcur hold, hchg, (v'.ownBlock.toList ++ (G ++ F1)) ++ F4, ⟨_, F4, rfl, ?_, ⟨G ++ F1, rfl, ?_, ?_, by simpa using ho⟩, h52⟩, ?_⟩
  · intro b hm hm4
    rcases List.mem_append.1 hm with hm | hm
    · rcases hlv b hm with h | h
      · exact hd' b (List.mem_append.2 (.inl h)) hm4
      · have := sep_lt h5 b hm4; omega
    · rcases List.mem_append.1 hm with hm | hm
      · exact hd' b (List.mem_append.2 (.inr hm)) hm4
      · exact hd b hm (List.mem_append.2 (.inr hm4))
  · refine List.nodup_append.2 ⟨by cases v'.ownBlock <;> simp, List.nodup_append.2 ⟨(List.nodup_append.1 hn').2.1, hn, fun x hx y hy e => hd y hy (by simp [← e, hx])⟩, fun x hx y hy e => ?_⟩
    subst e
    rcases hlv x hx with h | h
    · rcases List.mem_append.1 hy with hy | hy
      · exact (List.nodup_append.1 hn').2.2 x h x hy rfl
      · exact hd x hy (List.mem_append.2 (.inl (List.mem_append.2 (.inl h))))
    · rcases List.mem_append.1 hy with hy | hy
      · have := Ty.all_lt hall x hy; omega
      · have := Ty.all_lt hr x hy; omega
  · exact Ty.all_append hall2 hr2
  · intro b hm
    rcases List.mem_append.1 hm with hm | hm
    · rcases List.mem_append.1 hm with hm | hm
      · rcases hlv b hm with h | h
        · exact h3 b (by simp at h ⊢; simp [h])
        · omega
      · rcases List.mem_append.1 hm with hm | hm
        · exact h3 b (by simp [hm])
        · exact h3 b (by simp [hm])
    · exact h3 b (by simp [hm])
theorem CS.own_one (h : CS w0 g ca cl cc A w ps) (x : Value) (e : TypeId) : CS w0 g ca cl cc A (w.alloc (.cells #[x] e)) (Own e 1 (.slice (some ⟨w.heap.size, 0, none⟩) 1 1) 1 [x] :: ps) :=
  h.own_new (bal (bb _) _) ⟨by simp, .inr ⟨w.heap.size, 1, #[x], rfl, Nat.zero_le _, heap_alloc_new w _, Nat.le_refl _, by decide, by simp, by simp⟩⟩ (fun g hg => by
    have : w.heap.size = g := by simpa [Value.ownBlock] using hg
    omega)
end
theorem Src.two {w : World} {b : Nat} {x y : Value} (h : w.cell? ⟨b, 0, none⟩ = some x) (h2 : w.cell? ⟨b, 1, none⟩ = some y) : Src w (some ⟨b, 0, none⟩) 2 1 [x, y] := .inr ⟨_, rfl, rfl, fun j u hj => by
    match j, hj with
    | 0, hj => simp at hj; subst hj; rw [add_none]; exact h
    | 1, hj => simp at hj; subst hj; rw [add_none]; exact h2⟩
set_option maxHeartbeats 400000 in
theorem bs_five (a : Act) (w : World) (K : Act → World → Prop) (Q : Exit → Act → World → Prop) (p : String) (h : K (a.put (some 34) (.slice (some ⟨w.heap.size, 0, none⟩) 5 5)) (w.alloc (.cells #[.int .i64 (-1), .int .i64 13, .int .i64 12, .int .i64 0, .int .i64 1] 3))) :
    Oper.wp Tryz.prog {dst := some 34, op := Op.buildSlice 43 5 #[(0, .const (.int .i64 (-1))), (1, .const (.int .i64 13)), (2, .const (.int .i64 12)), (3, .const (.int .i64 0)), (4, .const (.int .i64 1))], type := 43, pos := p, after := #[], guard := none} a w K Q := by
  go_simp
  exact h
/-- The length of the row that lies in a block's second cell. -/
def lenAt1 (w : World) (b : Nat) : Nat := match w.cell? ⟨b, 1, none⟩ with | some (.slice _ n _) => n | _ => 0
theorem lenAt1_of {w : World} {b n c : Nat} {B : Option Addr} (h : w.cell? ⟨b, 1, none⟩ = some (.slice B n c)) : lenAt1 w b = n := by simp [lenAt1, h]
end Go.Proofs.YtahbepajeplcmaaGreatDoor

/- Contracts: numbers of variables and literals that are drawn, up to thirteen. -/
namespace Go.Proofs.YtahbepajeplcmaaGreatDoor
open Go.RowKit

/- left out: the seat has no (*loop.example/g01080/spec.l1Cur).vars6 -/

theorem lit_three13 {w1 : World} {vars : Int} {g A cl cc : Nat} {ca : Option Addr} (h : CurIs A g ca cl cc w1) (hv : -1 ≤ vars ∧ vars ≤ 13) (hA : A ≤ 80000000) :
    Calls Tryz.prog 87 #[.pointer (some ⟨g, 0, none⟩), .slice (some ⟨w1.heap.size, 0, none⟩) 3 3] (w1.alloc (.cells #[.int .i64 0, .int .i64 (vars + 1), .int .i64 (-vars - 1)] 3)) (CurPost (IntIn (-14) 14) (A + 2) g ca cl cc (w1.alloc (.cells #[.int .i64 0, .int .i64 (vars + 1), .int .i64 (-vars - 1)] 3))) := by
  have hg := h.lt
  refine cur_among (-14) 14 w1.heap.size 0 3 3 A g ca cl cc _ (h.grow (bal (bb _) _)) (by omega) (by decide) (by decide) (ints_new rfl fun j hj => ?_) (by omega)
  match j, hj with
  | 0, _ => exact ⟨_, rfl, by decide, by decide⟩
  | 1, _ => exact ⟨_, rfl, by omega, by omega⟩
  | 2, _ => exact ⟨_, rfl, by omega, by omega⟩

set_option maxRecDepth 100000 in
set_option maxHeartbeats 4000000 in
theorem cur_lit13 (vars : Int) (hv : -1 ≤ vars ∧ vars ≤ 13) (A g : Nat) (ca : Option Addr) (cl cc : Nat) (w : World) (h : CurIs A g ca cl cc w) (hA : A ≤ 70000000) :
    Calls Tryz.prog 75 #[.pointer (some ⟨g, 0, none⟩), .int .i64 vars] w (CurPost (IntIn (-14) 14) (A + 8) g ca cl cc w) := by
  have hg := h.lt
  have w1' : IntKind.i64.wrap (vars + 1) = vars + 1 := IntWalk.i64_in _ (by omega)
  have w2' : IntKind.i64.wrap (-vars) = -vars := IntWalk.i64_in _ (by omega)
  have w3' : IntKind.i64.wrap (-vars - 1) = -vars - 1 := IntWalk.i64_in _ (by omega)
  have S0 := Lib.hid (CS.start h)
  by_cases hlt : vars < 1
  · have hcall := Lib.hid (lit_three13 h hv (by omega))
    go_enter Tryz.func75, Tryz.ntmps75
    go_wp2_with fail
    refine hcall.out.mono ?_
    rintro e w2 ⟨_, ⟨z, hz0, hz1, rfl⟩, rfl, hi2, hc2⟩
    have hC := ((S0.out.alloc _).turn hi2 hc2).chg
    clear S0 hc2 hcall
    go_wp2_with fail
    go_ret
    exact ⟨_, ⟨z, hz0, hz1, rfl⟩, rfl, hi2.mono (by omega), hC⟩
  · go_enter Tryz.func75, Tryz.ntmps75
    go_wp2_with fail
    refine (cur_one 40 A g ca cl cc w h (by omega) (by omega)).mono ?_
    rintro e w1 ⟨_, ⟨q, rfl⟩, rfl, hi1, hc1⟩
    have S1 := Lib.hid (S0.out.turn hi1 hc1)
    have hg1 := hi1.lt
    clear S0 hc1
    cases q
    · go_wp2_with fail
      refine (cur_pick_at (lo := 0) (hi := vars - 1) hi1 (by omega) (by omega) (by omega) (by omega) (by omega)).mono ?_
      rintro e w2 ⟨_, ⟨x, hx0, hx1, rfl⟩, rfl, hi2, hc2⟩
      have S2 := Lib.hid (S1.out.turn hi2 hc2)
      have w4 : IntKind.i64.wrap (1 + x) = 1 + x := IntWalk.i64_in _ (by omega)
      have w5 : IntKind.i64.wrap (-(1 + x)) = -(1 + x) := IntWalk.i64_in _ (by omega)
      clear S1 hc2
      go_wp2_with fail
      refine (cur_one 2 _ g ca cl cc _ hi2 (by omega) (by omega)).mono ?_
      rintro e w3 ⟨_, ⟨q, rfl⟩, rfl, hi3, hc3⟩
      have hC := (S2.out.turn hi3 hc3).chg
      clear S2 hc3
      cases q
      · go_wp2_with fail
        go_ret
        exact ⟨_, ⟨1 + x, by omega, by omega, rfl⟩, rfl, hi3.mono (by omega), hC⟩
      · go_wp2_with fail
        go_ret
        exact ⟨_, ⟨-(1 + x), by omega, by omega, rfl⟩, rfl, hi3.mono (by omega), hC⟩
    · have hcall := Lib.hid (lit_three13 hi1 hv (by omega))
      go_wp2_with fail
      refine hcall.out.mono ?_
      rintro e w2 ⟨_, ⟨z, hz0, hz1, rfl⟩, rfl, hi2, hc2⟩
      have hC := ((S1.out.alloc _).turn hi2 hc2).chg
      clear S1 hc2 hcall
      go_wp2_with fail
      go_ret
      exact ⟨_, ⟨z, hz0, hz1, rfl⟩, rfl, hi2.mono (by omega), hC⟩

theorem among_four {w1 : World} {vars : Int} {g A cl cc : Nat} {ca : Option Addr} (h : CurIs A g ca cl cc w1) (hv : -1 ≤ vars ∧ vars ≤ 13) (hA : A ≤ 80000000) :
    Calls Tryz.prog 87 #[.pointer (some ⟨g, 0, none⟩), .slice (some ⟨w1.heap.size, 0, none⟩) 4 4] (w1.alloc (.cells #[.int .i64 0, .int .i64 (vars + 1), .int .i64 (-vars - 1), .int .i64 (-9223372036854775808)] 3)) (CurPost (IntIn (-9223372036854775808) 14) (A + 2) g ca cl cc (w1.alloc (.cells #[.int .i64 0, .int .i64 (vars + 1), .int .i64 (-vars - 1), .int .i64 (-9223372036854775808)] 3))) := by
  have hg := h.lt
  refine cur_among (-9223372036854775808) 14 w1.heap.size 0 4 4 A g ca cl cc _ (h.grow (bal (bb _) _)) (by omega) (by decide) (by decide) (ints_new rfl fun j hj => ?_) (by omega)
  match j, hj with
  | 0, _ => exact ⟨_, rfl, by decide, by decide⟩
  | 1, _ => exact ⟨_, rfl, by omega, by omega⟩
  | 2, _ => exact ⟨_, rfl, by omega, by omega⟩
  | 3, _ => exact ⟨_, rfl, by decide, by decide⟩
def AllI (c : List Int) : Prop := ∀ x ∈ c, I64 x
theorem rowPost_of {n : Nat} {R : List Int → Prop} {A A0 g : Nat} {ca : Option Addr} {cl cc : Nat} {w w' : World} {ps : List Asn} {i : Nat} {B : Option Addr} {cap : Nat} {c : List Int} (h : CS w g ca cl cc A0 w' ps)
    (hi : ps[i]? = some (Own 3 1 (.slice B c.length cap) c.length (c.map (.int .i64)))) (hl : c.length ≤ n) (hR : R c) (hA : A0 ≤ A) : RowPost n R A g ca cl cc w (.returned (.slice B c.length cap)) w' :=
  ⟨_, c, rfl, h.owns_end hi, hl, hR, h.cur.mono hA, h.chg⟩

set_option maxRecDepth 100000 in
set_option maxHeartbeats 8000000 in
theorem cur_anyClause (vars : Int) (hv : -1 ≤ vars ∧ vars ≤ 13) (A g : Nat) (ca : Option Addr) (cl cc : Nat) (w : World) (h : CurIs A g ca cl cc w) (hA : A ≤ 50000000) :
    Calls Tryz.prog 74 #[.pointer (some ⟨g, 0, none⟩), .int .i64 vars] w (RowPost 5 AllI (A + 80) g ca cl cc w) := by
  have hg := h.lt
  have S0 := Lib.hid (CS.start h)
  have w1' : IntKind.i64.wrap (vars + 1) = vars + 1 := IntWalk.i64_in _ (by omega)
  have w2' : IntKind.i64.wrap (-vars) = -vars := IntWalk.i64_in _ (by omega)
  have w3' : IntKind.i64.wrap (-vars - 1) = -vars - 1 := IntWalk.i64_in _ (by omega)
  go_enter Tryz.func74, Tryz.ntmps74
  go_wp2_with fail
  refine (cur_clause vars hv A g ca cl cc w h (by omega)).mono ?_
  rintro e w1 ⟨v, c, rfl, ho, hl, hW, hi1, hc1⟩
  have hne := owns_ge ho
  obtain ⟨B, cap, rfl⟩ := own_slice ho
  have hI := Lib.hid (hW.i64 (by decide))
  have S1 : Hid (CS w g ca cl cc (A + 60) w1 [Own 3 1 (.slice B c.length cap) c.length (c.map (.int .i64))]) := by
    refine ⟨⟨A, h⟩, hi1, hc1, _, ⟨(Value.slice B c.length cap).ownBlock.toList, [], by rw [List.append_nil], by simp, ⟨rfl, owns_zero ho⟩, rfl⟩, fun b hb => ?_⟩
    exact hne b (by simpa using hb)
  clear ho hW hi1 hc1 hne S0
  have hcur := Lib.hid S1.out.cur
  go_wp2_with fail
  refine (cur_pick_at (lo := 0) (hi := 31) hcur.out (by omega) (by omega) (by omega) (by omega) (by omega)).mono ?_
  rintro e w2 ⟨_, ⟨x, hx0, hx1, rfl⟩, rfl, hi2, hc2⟩
  have S2 := Lib.hid (S1.out.turn hi2 hc2)
  clear S1 hcur hi2 hc2
  have hx5 : x = 0 ∨ x = 1 ∨ x = 2 ∨ 2 < x := by omega
  rcases hx5 with rfl | rfl | rfl | hx5
  · have hlit := Lib.hid (cur_lit13 vars hv _ g ca cl cc _ S2.out.cur (by omega))
    obtain ⟨i0, hi0, hz0, hz1, hz2⟩ := info_parts infoInt
    go_wp2_with fail
    refine hlit.out.mono ?_
    rintro e w3 ⟨_, ⟨z, hz3, hz4, rfl⟩, rfl, hi3, hc3⟩
    have S3 := (S2.out.turn hi3 hc3).alloc_box #[.int .i64 z] 3
    have kB := S3.cell (i := 0) rfl (o := 0) rfl
    replace S3 := Lib.hid S3
    clear S2 hlit hi3 hc3
    go_wp2_with (at_builtin; refine wpList_append_src rfl _ _ rfl Tryz.underlying43 hi0 hz0 hz1 hz2 rfl (by decide) _ _ _ rfl (S3.out.own (i := 1) rfl) _ 1 1 [.int .i64 z] rfl (Src.one kB) (by simp [Value.oneCell']) ?c3 ?c4 ?_)
    case c3 => unfold maxLen; omega
    case c4 => omega
    intro vY wY hownY hgY hatY
    have S4 := (S3.out.own_push (i := 1) rfl (bb _) hownY hgY (by simpa using hatY)).tail
    obtain ⟨aY, cY, rfl⟩ := own_slice hownY
    have hlen : c.length + 1 = (c ++ [z]).length := by simp
    have hI2 : AllI (c ++ [z]) := fun y hy => by
      rcases List.mem_append.1 hy with hy | hy
      · exact hI.out y hy
      · obtain rfl : y = z := by simpa using hy
        unfold I64; omega
    have S5 : CS w g ca cl cc (A + 60 + 10 + 8) wY [Own 3 1 (.slice aY (c ++ [z]).length cY) (c ++ [z]).length ((c ++ [z]).map (.int .i64))] := by
      rw [← hlen, List.map_append]; exact S4.mono (by omega)
    have hl2 : (c ++ [z]).length ≤ 5 := by omega
    rw [hlen]
    generalize c ++ [z] = c2 at *
    have hP := Lib.hid (rowPost_of (n := 5) (R := AllI) (A := A + 80) S5 (i := 0) rfl hl2 hI2 (by omega))
    clear S3 S4 S5 hlen hI2 hl2 kB hownY hgY hatY
    go_wp2_with fail
    go_ret
    exact hP.out
  · by_cases hl0 : 0 < c.length
    · have d0 : decide ((0 : Int) < (c.length : Int)) = true := decide_eq_true (by omega)
      have hcall := Lib.hid (among_four S2.out.cur hv (by omega))
      go_wp2_with fail
      refine hcall.out.mono ?_
      rintro e w3 ⟨_, ⟨z, hz3, hz4, rfl⟩, rfl, hi3, hc3⟩
      have S3 := (S2.out.alloc _).turn hi3 hc3
      obtain ⟨gx, cap', cur, e1, -, hh, -, -, -, ht⟩ := own_block (S3.own (i := 0) rfl) hl0
      simp only [Value.slice.injEq] at e1
      obtain ⟨rfl, -, rfl⟩ := e1
      have hcx := (own_at hh ht (o := 0) (by omega)).1
      have hfx := (own_at hh ht (o := 0) (by omega)).2
      have S4 := S3.own_put (i := 0) rfl (.int .i64 z) (o := 0) (by omega)
      have hI2 : AllI (c.set 0 z) := fun y hy => by
        rcases List.mem_or_eq_of_mem_set hy with hy | rfl
        · exact hI.out y hy
        · unfold I64; omega
      have hlen : (c.set 0 z).length = c.length := by simp
      have S5 : CS w g ca cl cc (A + 80) (w3.setCell ⟨gx, 0, none⟩ (.int .i64 z)) [Own 3 1 (.slice (some ⟨gx, 0, none⟩) (c.set 0 z).length cap) (c.set 0 z).length ((c.set 0 z).map (.int .i64))] := by
        rw [hlen, List.map_set]; exact S4.mono (by omega)
      have hP := rowPost_of (n := 5) (R := AllI) (A := A + 80) S5 (i := 0) rfl (by omega) hI2 (by omega)
      rw [hlen] at hP
      replace hP := Lib.hid hP
      have hcx' : ∃ u, w3.cell? ⟨gx, 0, none⟩ = some u := by
        rw [hcx]
        exact ⟨_, List.getElem?_eq_getElem (by simp; omega)⟩
      obtain ⟨u, hu⟩ := hcx'
      clear S2 S3 S4 S5 hI2 hh ht hcx hi3 hc3 hcall hlen
      go_wp2_with fail
      go_ret
      exact hP.out
    · have d0 : decide ((0 : Int) < (c.length : Int)) = false := decide_eq_false (by omega)
      have hP := Lib.hid (rowPost_of (n := 5) (R := AllI) (A := A + 80) S2.out (i := 0) rfl (by omega) hI.out (by omega))
      clear S2
      go_wp2_with fail
      go_ret
      exact hP.out
  · by_cases hl0 : 1 < c.length
    · have d0 : decide ((1 : Int) < (c.length : Int)) = true := decide_eq_true (by omega)
      obtain ⟨gx, cap', cur, e1, -, hh, -, -, -, ht⟩ := own_block (S2.out.own (i := 0) rfl) (by omega)
      simp only [Value.slice.injEq] at e1
      obtain ⟨rfl, -, rfl⟩ := e1
      obtain ⟨x0, hx0'⟩ : ∃ z, (c.map (Value.int .i64))[0]? = some (.int .i64 z) ∧ c[0]? = some z := ⟨c[0], by rw [List.getElem?_map, List.getElem?_eq_getElem]; rfl, List.getElem?_eq_getElem _⟩
      obtain ⟨x1, hx1'⟩ : ∃ z, (c.map (Value.int .i64))[1]? = some (.int .i64 z) ∧ c[1]? = some z := ⟨c[1], by rw [List.getElem?_map, List.getElem?_eq_getElem]; rfl, List.getElem?_eq_getElem _⟩
      have k0 := (own_at hh ht (o := 0) (by omega)).1.trans hx0'.1
      have k1 := (own_at hh ht (o := 1) (by omega)).1.trans hx1'.1
      have f0 := (own_at hh ht (o := 0) (by omega)).2
      have f1 := (own_at hh ht (o := 1) (by omega)).2
      have S3 := S2.out.own_put (i := 0) rfl (.int .i64 x1) (o := 0) (by omega)
      have S4 := S3.own_put (i := 0) rfl (.int .i64 x0) (o := 1) (by omega)
      have hI2 : AllI ((c.set 0 x1).set 1 x0) := fun y hy => by
        rcases List.mem_or_eq_of_mem_set hy with hy | rfl
        · rcases List.mem_or_eq_of_mem_set hy with hy | rfl
          · exact hI.out y hy
          · exact hI.out _ (List.mem_of_getElem? hx1'.2)
        · exact hI.out _ (List.mem_of_getElem? hx0'.2)
      have hlen : ((c.set 0 x1).set 1 x0).length = c.length := by simp
      have S5 : CS w g ca cl cc (A + 80) ((w2.setCell ⟨gx, 0, none⟩ (.int .i64 x1)).setCell ⟨gx, 1, none⟩ (.int .i64 x0)) [Own 3 1 (.slice (some ⟨gx, 0, none⟩) ((c.set 0 x1).set 1 x0).length cap) ((c.set 0 x1).set 1 x0).length (((c.set 0 x1).set 1 x0).map (.int .i64))] := by
        rw [hlen, List.map_set, List.map_set]; exact S4.mono (by omega)
      have hP := rowPost_of (n := 5) (R := AllI) (A := A + 80) S5 (i := 0) rfl (by omega) hI2 (by omega)
      rw [hlen] at hP
      replace hP := Lib.hid hP
      have hI64a : I64 x0 := hI.out _ (List.mem_of_getElem? hx0'.2)
      have hI64b : I64 x1 := hI.out _ (List.mem_of_getElem? hx1'.2)
      clear S2 S3 S4 S5 hI2 hh ht hlen hx0' hx1'
      go_wp2_with fail
      go_ret
      exact hP.out
    · have d0 : decide ((1 : Int) < (c.length : Int)) = false := decide_eq_false (by omega)
      have hP := Lib.hid (rowPost_of (n := 5) (R := AllI) (A := A + 80) S2.out (i := 0) rfl (by omega) hI.out (by omega))
      clear S2
      go_wp2_with fail
      go_ret
      exact hP.out
  · have x0 : (x == 0) = false := by simp; omega
    have x1 : (x == 1) = false := by simp; omega
    have x2 : (x == 2) = false := by simp; omega
    have hP := Lib.hid (rowPost_of (n := 5) (R := AllI) (A := A + 80) S2.out (i := 0) rfl (by omega) hI.out (by omega))
    clear S2
    go_wp2_with fail
    go_ret
    exact hP.out
end Go.Proofs.YtahbepajeplcmaaGreatDoor

/- Contract: a drawn Cnf. -/
namespace Go.Proofs.YtahbepajeplcmaaGreatDoor
open Go.RowKit

set_option maxRecDepth 100000 in
set_option maxHeartbeats 16000000 in
theorem cur_cnf (A g : Nat) (ca : Option Addr) (cl cc : Nat) (w : World) (h : CurIs A g ca cl cc w) (hA : A ≤ 30000000) :
    Calls Tryz.prog 105 #[.pointer (some ⟨g, 0, none⟩)] w (CnfPost (A + 2000) g ca cl cc w) := by
  have hg := h.lt
  have S0 := Lib.hid ((CS.start h).alloc_box #[.int .i64 0, .slice none 0 0] 61)
  obtain ⟨i1, hi, hz0, hz1, hz2⟩ := info_parts infoRow
  clear h
  have hcur := Lib.hid S0.out.cur
  go_enter Tryz.func105, Tryz.ntmps105
  go_wp2_with fail
  refine (cur_one 4 A g ca cl cc _ hcur.out (by omega) (by omega)).mono ?_
  rintro e w1 ⟨_, ⟨q, rfl⟩, rfl, hi1, hc1⟩
  have S1 := Lib.hid (S0.out.turn hi1 hc1)
  clear S0 hcur hi1 hc1
  cases q
  case true =>
    have hh := Lib.hid (cur_hard _ g ca cl cc _ S1.out.cur (by omega))
    go_wp2_with fail
    refine hh.out.mono ?_
    rintro e w2 ⟨vars, B, cap, cs, ys, rfl, hv0, hv1, hyl, HC, T2⟩
    replace HC := Lib.hid HC
    have S2 := S1.out.comp T2
    have r0 := S2.cell (i := 1) rfl (o := 0) rfl
    have r1 := S2.cell (i := 1) rfl (o := 1) rfl
    have f0 := S2.frozen (i := 1) rfl 0
    have f1 := S2.frozen (i := 1) rfl 1
    have SF := (S2.store (i := 1) rfl 0 (.int .i64 vars)).store (i := 1) rfl 1 (.slice B ys.length cap)
    have j0 := SF.cell (i := 1) rfl (o := 0) rfl
    have j1 := SF.cell (i := 1) rfl (o := 1) rfl
    have hR := Lib.hid ((CS.front (qs := [_]) SF).mono (show _ ≤ A + 2000 by omega))
    clear SF S2 S1 T2 hh
    go_wp2_with fail
    exact bodyPost_ret (v := .agg #[.int .i64 vars, .slice B ys.length cap]) (by simp [results, Tryz.results105, go_sem, j0, j1]) rfl ⟨vars, B, cap, cs, ys, rfl, by omega, by omega, by omega, HC.out, hR.out⟩
  case false =>
    have hgl : g < w1.heap.size := S1.out.cur.lt
    have hcall := Lib.hid (cur_among (2) 5 w1.heap.size 0 5 5 _ g ca cl cc (w1.alloc (.cells #[.int .i64 2, .int .i64 3, .int .i64 3, .int .i64 4, .int .i64 5] 3)) (S1.out.cur.grow (bal (bb _) _)) (by omega) (by decide) (by decide) (ints_new rfl fun j hj => by
      match j, hj with
      | 0, _ => exact ⟨_, rfl, by decide, by decide⟩
      | 1, _ => exact ⟨_, rfl, by decide, by decide⟩
      | 2, _ => exact ⟨_, rfl, by decide, by decide⟩
      | 3, _ => exact ⟨_, rfl, by decide, by decide⟩
      | 4, _ => exact ⟨_, rfl, by decide, by decide⟩
      ) (by omega))
    go_wp2_with fail
    refine hcall.out.mono ?_
    rintro e w2 ⟨_, ⟨vars, hva0, hva1, rfl⟩, rfl, hi2, hc2⟩
    have S2 := (S1.out.alloc _).turn hi2 hc2
    have S3 := (S2.rows_made Ty.int 43).alloc_box #[.int .i64 vars, .slice (some ⟨w2.heap.size, 0, none⟩) 0 0] 61
    simp only [World.size_alloc] at S3
    obtain ⟨fb, hfb⟩ : ∃ fb, w2.heap.size + 1 = fb := ⟨_, rfl⟩
    rw [hfb] at S3
    have S4 : Hid (CS w g ca cl cc (A + 2 + 2) _ [Rows Ty.int 43 (.slice (some ⟨w2.heap.size, 0, none⟩) ([] : List (List Int)).length 0) [] ([] : List (List Int)), Box fb 61 #[.int .i64 vars, .slice (some ⟨w2.heap.size, 0, none⟩) ([] : List (List Int)).length 0], Box w.heap.size 61 #[.int .i64 0, .slice none 0 0]]) := S3.swap
    have hcur := Lib.hid S4.out.cur
    clear S1 S2 S3 hi2 hc2 hcall
    go_wp2_with fail
    refine (cur_pick_at (lo := 0) (hi := 9) hcur.out (by omega) (by omega) (by omega) (by omega) (by omega)).mono ?_
    rintro e w3 ⟨_, ⟨x, hx0, hx1, rfl⟩, rfl, hi3, hc3⟩
    obtain ⟨m0, rfl⟩ := Int.eq_ofNat_of_zero_le hx0
    have hm9 : m0 ≤ 9 := by omega
    have S5 := Lib.hid ((S4.out.turn hi3 hc3).mono (show _ ≤ A + 20 + 100 * (9 - m0) by omega))
    clear S4 hcur hi3 hc3 hx0 hx1
    go_wp2_with fail
    go_loopw [4] (fun vv wr => ∃ (m : Nat) (B : Option Addr) (cap : Nat) (cs : List Value) (ys : List (List Int)), m ≤ 9 ∧ vv = .int .i64 m ∧ ys.length + m ≤ 9 ∧ Hid (SmallR 13 ys) ∧ Hid (CS w g ca cl cc (A + 20 + 100 * (9 - m)) wr [Rows Ty.int 43 (.slice B ys.length cap) cs ys, Box fb 61 #[.int .i64 vars, .slice B ys.length cap], Box w.heap.size 61 #[.int .i64 0, .slice none 0 0]])) (fun vv _ => (intOf vv).toNat)
    case atStart => exact ⟨m0, _, _, [], [], hm9, rfl, by simpa using hm9, (fun c hc => by simp at hc), S5⟩
    case round =>
      clear S5
      obtain ⟨m, B, cap, cs, ys, hm2, rfl, hyl, HC, HS⟩ := hrel
      by_cases hm : 0 < m
      · have e0 : decide ((0 : Int) < (m : Int)) = true := decide_eq_true (by omega)
        have hmw : IntKind.i64.wrap ((m : Int) - 1) = ((m - 1 : Nat) : Int) := by rw [IntWalk.i64_in _ (by omega)]; omega
        as_aux_lemma =>
          have l0 := HS.out.cell (i := 1) rfl (o := 0) rfl
          have l1 := HS.out.cell (i := 1) rfl (o := 1) rfl
          go_wp2_with fail
          refine wp_region_tail_lit (S := (fun w' => w'.cell? ⟨fb, 0, none⟩ = some (.int .i64 vars) ∧ w'.cell? ⟨fb, 1, none⟩ = some (.slice B ys.length cap))) 7 [false, false, false, false, false, false, false, false, false, false] (by kernel_rfl) (by kernel_rfl) (by kernel_rfl) ?_ ?_
          · exact ⟨l0, l1⟩
          intro hSc
          (refine walkT_take (i := 0) (v := ?_) rfl (by kernel_rfl) (by decide) (by kernel_rfl) (by kernel_rfl) (fun _ _ _ h => h) (Or.inl ⟨by rfl, ?_⟩) (by assumption) ?_; rotate_left; (focus (intro w hSw; (try dsimp only at hSw); go_simp; (try with_reducible rfl); done)); (try simp only [put_rules]))
          (refine walkT_take (i := 1) (v := ?_) rfl (by kernel_rfl) (by decide) (by kernel_rfl) (by kernel_rfl) (fun _ _ _ h => h) (Or.inl ⟨by rfl, ?_⟩) (by assumption) ?_; rotate_left; (focus (intro w hSw; (try dsimp only at hSw); go_simp; (try with_reducible rfl); done)); (try simp only [put_rules]))
          (refine walkT_take (i := 2) (v := ?_) rfl (by kernel_rfl) (by decide) (by kernel_rfl) (by kernel_rfl) (fun _ _ _ h => h) (Or.inl ⟨by rfl, ?_⟩) (by assumption) ?_; rotate_left; (focus (intro w hSw; (try dsimp only at hSw); go_simp; (try with_reducible rfl); done)); (try simp only [put_rules]))
          (refine walkT_take (i := 3) (v := ?_) rfl (by kernel_rfl) (by decide) (by kernel_rfl) (by kernel_rfl) (fun _ _ _ h => h) (Or.inl ⟨by rfl, ?_⟩) (by assumption) ?_; rotate_left; (focus (intro w hSw; (try dsimp only at hSw); go_simp; (try with_reducible rfl); done)); (try simp only [put_rules]))
          (refine walkT_take (i := 4) (v := ?_) rfl (by kernel_rfl) (by decide) (by kernel_rfl) (by kernel_rfl) (fun _ _ _ h => h) (Or.inl ⟨by rfl, ?_⟩) (by assumption) ?_; rotate_left; (focus (intro w hSw; (try dsimp only at hSw); go_simp; (try with_reducible rfl); done)); (try simp only [put_rules]))
          (refine walkT_ready (rs := [5]) (by kernel_rfl) (by simp) (by decide) ?_; refine AllT.cons rfl (fun K hK => ?_) AllT.nil)
          go_simp
          go_at_call 91
          have S3 := HS.out.drew
          have hcall := Lib.hid (cur_clause vars (by omega) _ g ca cl cc _ S3.cur (by omega))
          refine hcall.out.mono ?_
          rintro e w3 ⟨v, c, rfl, ho, hl, hW, hi3, hc3⟩
          have S4 := S3.comp (row_cs S3.cur hi3 hc3 ho)
          obtain ⟨B2, cap2, rfl⟩ := own_slice ho
          have S5 := Lib.hid (CS.own_to_row (ps := _) S4 (hW.i64 (by decide)))
          clear hcall S3 S4 HS l0 l1 hi3 hc3 ho
          go_wp2_with fail
          refine hK.out _ _ ⟨S5.out.cell (i := 2) rfl (o := 0) rfl, S5.out.cell (i := 2) rfl (o := 1) rfl⟩ (fun hS2 => ?_)
          clear hK hSc
          (try simp only [put_rules])
          (refine walkT_ready (rs := [6]) (by kernel_rfl) (by simp) (by decide) ?_; refine AllT.cons rfl (fun K hK => ?_) AllT.nil)
          go_simp
          have hrows := Lib.hid ((S5.out.rows (i := 1) rfl).alloc (.cells #[.slice B2 c.length cap2] 43))
          have kB : (w3.alloc (.cells #[.slice B2 c.length cap2] 43)).cell? ⟨w3.heap.size, 0, none⟩ = some (.slice B2 c.length cap2) := cell_of_row _ _ _ _ _ _ (heap_alloc_new w3 _)
          have S6 := Lib.hid (S5.out.alloc (.cells #[.slice B2 c.length cap2] 43))
          refine hK.out _ _ ⟨S6.out.cell (i := 2) rfl (o := 0) rfl, S6.out.cell (i := 2) rfl (o := 1) rfl⟩ (fun hS3 => ?_)
          clear hK hS2
          (try simp only [put_rules])
          (refine walkT_done (by kernel_rfl) ?_)
          simp only [List.drop_succ_cons, List.drop_zero]
          (refine wpList_append_src rfl _ _ rfl Tryz.underlying59 hi hz0 hz1 hz2 rfl (by decide) _ ys.length _ rfl hrows.out _ 1 1 [.slice B2 c.length cap2] rfl (Src.one kB) (by simp [Value.oneCell']) (by unfold maxLen; omega) (by omega) ?_; intro vY wY hownY hgY hatY)
          have S7 := S5.out.rows_push (bal (bb _) _) hownY hgY hatY
          obtain ⟨aY, cY, rfl⟩ := own_slice hownY
          have b1 := S7.cell (i := 1) rfl (o := 1) rfl
          have q1 := S7.frozen (i := 1) rfl 1
          have hlen : ys.length + 1 = (ys ++ [c]).length := by simp
          have S8 : Hid (CS w g ca cl cc (A + 20 + 100 * (9 - (m - 1))) (wY.setCell ⟨fb, 1, none⟩ (.slice aY (ys.length + 1) cY)) [Rows Ty.int 43 (.slice aY (ys ++ [c]).length cY) (cs ++ [.slice B2 c.length cap2]) (ys ++ [c]), Box fb 61 #[.int .i64 vars, .slice aY (ys ++ [c]).length cY], Box w.heap.size 61 #[.int .i64 0, .slice none 0 0]]) := by
            unfold Hid; rw [← hlen]
            have := (S7.store (i := 1) rfl 1 (.slice aY (ys.length + 1) cY)).mono (show _ ≤ A + 20 + 100 * (9 - (m - 1)) by omega)
            rw [hlen] at this ⊢
            exact this
          have HC2 : Hid (SmallR 13 (ys ++ [c])) := fun y hy => by
            rcases List.mem_append.1 hy with hy | hy
            · exact HC.out y hy
            · obtain rfl : y = c := by simpa using hy
              exact ⟨hW.i64 (by decide), by omega⟩
          clear S5 S6 S7 hrows hownY hgY hatY kB hW HC
          replace hlen := Lib.hid hlen
          have hyl2 : (ys ++ [c]).length + (m - 1) ≤ 9 := by rw [← hlen.out]; omega
          go_wp2_with fail
          go_roundw
          case rel => exact ⟨m - 1, aY, cY, cs ++ [.slice B2 c.length cap2], ys ++ [c], by omega, rfl, hyl2, HC2, S8⟩
          case measure => simp [intOf]; omega
      · have e0 : decide ((0 : Int) < (m : Int)) = false := decide_eq_false (by omega)
        have S4 := Lib.hid (HS.out.mono (show _ ≤ A + 1000 by omega))
        have hcur := Lib.hid S4.out.cur
        clear HS
        go_wp2_with fail
        refine (cur_pick_at (lo := 0) (hi := 39) hcur.out (by omega) (by omega) (by omega) (by omega) (by omega)).mono ?_
        rintro e w5 ⟨_, ⟨x, hx0, hx1, rfl⟩, rfl, hi5, hc5⟩
        have S5 := Lib.hid (S4.out.turn hi5 hc5)
        clear S4 hcur hi5 hc5 e0
        have hx5 : x = 0 ∨ x = 1 ∨ x = 2 ∨ x = 3 ∨ 3 < x := by omega
        rcases hx5 with rfl | rfl | rfl | rfl | hx5
        · as_aux_lemma =>
          have hgl : g < w5.heap.size := S5.out.cur.lt
          have hcall := Lib.hid (cur_among (-1) 13 w5.heap.size 0 5 5 _ g ca cl cc (w5.alloc (.cells #[.int .i64 (-1), .int .i64 13, .int .i64 12, .int .i64 0, .int .i64 1] 3)) (S5.out.cur.grow (bal (bb _) _)) (by omega) (by decide) (by decide) (ints_new rfl fun j hj => by
            match j, hj with
            | 0, _ => exact ⟨_, rfl, by decide, by decide⟩
            | 1, _ => exact ⟨_, rfl, by decide, by decide⟩
            | 2, _ => exact ⟨_, rfl, by decide, by decide⟩
            | 3, _ => exact ⟨_, rfl, by decide, by decide⟩
            | 4, _ => exact ⟨_, rfl, by decide, by decide⟩
            ) (by omega))
          go_upto_region 10 with fail
          (first | go_values | go_skip | go_guarded | go_step | go_upon)
          (first | go_values | go_skip | go_guarded | go_step | go_upon)
          (first | go_values | go_skip | go_guarded | go_step | go_upon)
          (first | go_values | go_skip | go_guarded | go_step | go_upon)
          (first | go_values | go_skip | go_guarded | go_step | go_upon)
          refine bs_five _ _ _ _ _ ?_
          simp only [put_rules]
          go_wp2_with fail
          refine hcall.out.mono ?_
          rintro e w6 ⟨_, ⟨va, hva2, hva3, rfl⟩, rfl, hi6, hc6⟩
          have S6 := (S5.out.alloc _).turn hi6 hc6
          have q0 := S6.frozen (i := 1) rfl 0
          have d0 := S6.cell (i := 1) rfl (o := 0) rfl
          have S7 : Hid (CS w g ca cl cc (A + 1000 + 2 + 2) _ [Rows Ty.int 43 (.slice B ys.length cap) cs ys, Box fb 61 #[.int .i64 va, .slice B ys.length cap], Box w.heap.size 61 #[.int .i64 0, .slice none 0 0]]) := S6.store (i := 1) rfl 0 (.int .i64 va)
          clear S5 S6 hi6 hc6 hcall
          have l0 := S7.out.cell (i := 1) rfl (o := 0) rfl
          have l1 := S7.out.cell (i := 1) rfl (o := 1) rfl
          have r0 := S7.out.cell (i := 2) rfl (o := 0) rfl
          have r1 := S7.out.cell (i := 2) rfl (o := 1) rfl
          have f0 := S7.out.frozen (i := 2) rfl 0
          have f1 := S7.out.frozen (i := 2) rfl 1
          have SF := (S7.out.store (i := 2) rfl 0 (.int .i64 va)).store (i := 2) rfl 1 (.slice B ys.length cap)
          have j0 := SF.cell (i := 2) rfl (o := 0) rfl
          have j1 := SF.cell (i := 2) rfl (o := 1) rfl
          have hR := Lib.hid ((CS.front (qs := [_]) SF).mono (show _ ≤ A + 2000 by omega))
          clear SF S7
          go_wp2_with fail
          exact bodyPost_ret (v := .agg #[.int .i64 va, .slice B ys.length cap]) (by simp [results, Tryz.results105, go_sem, j0, j1]) rfl ⟨va, B, cap, cs, ys, rfl, by omega, by omega, by omega, HC.out, hR.out⟩
        · as_aux_lemma =>
          have HS := S5
          clear S5
          have l0 := HS.out.cell (i := 1) rfl (o := 0) rfl
          have l1 := HS.out.cell (i := 1) rfl (o := 1) rfl
          go_wp2_with fail
          refine wp_region_tail_lit (S := (fun w' => w'.cell? ⟨fb, 0, none⟩ = some (.int .i64 vars) ∧ w'.cell? ⟨fb, 1, none⟩ = some (.slice B ys.length cap))) 7 [false, false, false, false, false, false, false, false, false, false] (by kernel_rfl) (by kernel_rfl) (by kernel_rfl) ?_ ?_
          · exact ⟨l0, l1⟩
          intro hSc
          (refine walkT_take (i := 0) (v := ?_) rfl (by kernel_rfl) (by decide) (by kernel_rfl) (by kernel_rfl) (fun _ _ _ h => h) (Or.inl ⟨by rfl, ?_⟩) (by assumption) ?_; rotate_left; (focus (intro w hSw; (try dsimp only at hSw); go_simp; (try with_reducible rfl); done)); (try simp only [put_rules]))
          (refine walkT_take (i := 1) (v := ?_) rfl (by kernel_rfl) (by decide) (by kernel_rfl) (by kernel_rfl) (fun _ _ _ h => h) (Or.inl ⟨by rfl, ?_⟩) (by assumption) ?_; rotate_left; (focus (intro w hSw; (try dsimp only at hSw); go_simp; (try with_reducible rfl); done)); (try simp only [put_rules]))
          (refine walkT_take (i := 2) (v := ?_) rfl (by kernel_rfl) (by decide) (by kernel_rfl) (by kernel_rfl) (fun _ _ _ h => h) (Or.inl ⟨by rfl, ?_⟩) (by assumption) ?_; rotate_left; (focus (intro w hSw; (try dsimp only at hSw); go_simp; (try with_reducible rfl); done)); (try simp only [put_rules]))
          (refine walkT_take (i := 3) (v := ?_) rfl (by kernel_rfl) (by decide) (by kernel_rfl) (by kernel_rfl) (fun _ _ _ h => h) (Or.inl ⟨by rfl, ?_⟩) (by assumption) ?_; rotate_left; (focus (intro w hSw; (try dsimp only at hSw); go_simp; (try with_reducible rfl); done)); (try simp only [put_rules]))
          (refine walkT_take (i := 4) (v := ?_) rfl (by kernel_rfl) (by decide) (by kernel_rfl) (by kernel_rfl) (fun _ _ _ h => h) (Or.inl ⟨by rfl, ?_⟩) (by assumption) ?_; rotate_left; (focus (intro w hSw; (try dsimp only at hSw); go_simp; (try with_reducible rfl); done)); (try simp only [put_rules]))
          (refine walkT_ready (rs := [5]) (by kernel_rfl) (by simp) (by decide) ?_; refine AllT.cons rfl (fun K hK => ?_) AllT.nil)
          go_simp
          go_at_call 74
          have S3 := HS.out.drew
          have hcall := Lib.hid (cur_anyClause vars (by omega) _ g ca cl cc _ S3.cur (by omega))
          refine hcall.out.mono ?_
          rintro e w3 ⟨v, c, rfl, ho, hl, hW, hi3, hc3⟩
          have S4 := S3.comp (row_cs S3.cur hi3 hc3 ho)
          obtain ⟨B2, cap2, rfl⟩ := own_slice ho
          have S5 := Lib.hid (CS.own_to_row (ps := _) S4 hW)
          clear hcall S3 S4 HS l0 l1 hi3 hc3 ho
          go_wp2_with fail
          refine hK.out _ _ ⟨S5.out.cell (i := 2) rfl (o := 0) rfl, S5.out.cell (i := 2) rfl (o := 1) rfl⟩ (fun hS2 => ?_)
          clear hK hSc
          (try simp only [put_rules])
          (refine walkT_ready (rs := [6]) (by kernel_rfl) (by simp) (by decide) ?_; refine AllT.cons rfl (fun K hK => ?_) AllT.nil)
          go_simp
          have hrows := Lib.hid ((S5.out.rows (i := 1) rfl).alloc (.cells #[.slice B2 c.length cap2] 43))
          have kB : (w3.alloc (.cells #[.slice B2 c.length cap2] 43)).cell? ⟨w3.heap.size, 0, none⟩ = some (.slice B2 c.length cap2) := cell_of_row _ _ _ _ _ _ (heap_alloc_new w3 _)
          have S6 := Lib.hid (S5.out.alloc (.cells #[.slice B2 c.length cap2] 43))
          refine hK.out _ _ ⟨S6.out.cell (i := 2) rfl (o := 0) rfl, S6.out.cell (i := 2) rfl (o := 1) rfl⟩ (fun hS3 => ?_)
          clear hK hS2
          (try simp only [put_rules])
          (refine walkT_done (by kernel_rfl) ?_)
          simp only [List.drop_succ_cons, List.drop_zero]
          (refine wpList_append_src rfl _ _ rfl Tryz.underlying59 hi hz0 hz1 hz2 rfl (by decide) _ ys.length _ rfl hrows.out _ 1 1 [.slice B2 c.length cap2] rfl (Src.one kB) (by simp [Value.oneCell']) (by unfold maxLen; omega) (by omega) ?_; intro vY wY hownY hgY hatY)
          have S7 := S5.out.rows_push (bal (bb _) _) hownY hgY hatY
          obtain ⟨aY, cY, rfl⟩ := own_slice hownY
          have b1 := S7.cell (i := 1) rfl (o := 1) rfl
          have q1 := S7.frozen (i := 1) rfl 1
          have hlen : ys.length + 1 = (ys ++ [c]).length := by simp
          have S8 : Hid (CS w g ca cl cc (A + 1500) (wY.setCell ⟨fb, 1, none⟩ (.slice aY (ys.length + 1) cY)) [Rows Ty.int 43 (.slice aY (ys ++ [c]).length cY) (cs ++ [.slice B2 c.length cap2]) (ys ++ [c]), Box fb 61 #[.int .i64 vars, .slice aY (ys ++ [c]).length cY], Box w.heap.size 61 #[.int .i64 0, .slice none 0 0]]) := by
            unfold Hid; rw [← hlen]
            have := (S7.store (i := 1) rfl 1 (.slice aY (ys.length + 1) cY)).mono (show _ ≤ A + 1500 by omega)
            rw [hlen] at this ⊢
            exact this
          have HC2 : Hid (SmallR 13 (ys ++ [c])) := fun y hy => by
            rcases List.mem_append.1 hy with hy | hy
            · exact HC.out y hy
            · obtain rfl : y = c := by simpa using hy
              exact ⟨hW, by omega⟩
          clear S5 S6 S7 hrows hownY hgY hatY kB hW HC
          replace hlen := Lib.hid hlen
          rw [hlen.out]
          rw [hlen.out] at S8
          generalize ys ++ [c] = zs at *
          have hzl : zs.length ≤ 62 := by rw [← hlen.out]; omega
          have l0 := S8.out.cell (i := 1) rfl (o := 0) rfl
          have l1 := S8.out.cell (i := 1) rfl (o := 1) rfl
          have r0 := S8.out.cell (i := 2) rfl (o := 0) rfl
          have r1 := S8.out.cell (i := 2) rfl (o := 1) rfl
          have f0 := S8.out.frozen (i := 2) rfl 0
          have f1 := S8.out.frozen (i := 2) rfl 1
          have SF := (S8.out.store (i := 2) rfl 0 (.int .i64 vars)).store (i := 2) rfl 1 (.slice aY zs.length cY)
          have j0 := SF.cell (i := 2) rfl (o := 0) rfl
          have j1 := SF.cell (i := 2) rfl (o := 1) rfl
          have hR := Lib.hid ((CS.front (qs := [_]) SF).mono (show _ ≤ A + 2000 by omega))
          clear SF S8
          go_wp2_with fail
          exact bodyPost_ret (v := .agg #[.int .i64 vars, .slice aY zs.length cY]) (by simp [results, Tryz.results105, go_sem, j0, j1]) rfl ⟨vars, aY, cY, _, zs, rfl, by omega, by omega, by omega, HC2.out, hR.out⟩
        · as_aux_lemma =>
          go_wp2_with fail
          go_loopw [] (fun wr => ∃ (B : Option Addr) (cap : Nat) (cs : List Value) (ys : List (List Int)), ys.length ≤ 61 ∧ Hid (SmallR 13 ys) ∧ Hid (CS w g ca cl cc (A + 1010 + 4 * ys.length) wr [Rows Ty.int 43 (.slice B ys.length cap) cs ys, Box fb 61 #[.int .i64 vars, .slice B ys.length cap], Box w.heap.size 61 #[.int .i64 0, .slice none 0 0]])) (fun wr => 70 - lenAt1 wr fb)
          case atStart => exact ⟨B, cap, cs, ys, by omega, HC, S5.out.mono (by omega)⟩
          case round =>
            clear S5 HC hyl
            obtain ⟨B, cap, cs, ys, hyl, HC, HS⟩ := hrel
            have l1 := HS.out.cell (i := 1) rfl (o := 1) rfl
            have hm1 : Hid (lenAt1 wr fb = ys.length) := lenAt1_of l1
            go_wp2_with fail
            refine wp_region_held_lit (S := (fun w' => w'.cell? ⟨fb, 1, none⟩ = some (.slice B ys.length cap))) 7 [false, false, false, false, false, false, false] (by kernel_rfl) (by kernel_rfl) (by kernel_rfl) ?_ ?_
            · exact l1
            intro hSc
            (refine wpAnyH_take (i := 0) (v := ?_) rfl (by kernel_rfl) (by kernel_rfl) (by kernel_rfl) (fun _ _ _ h => h) (Or.inl ⟨by rfl, ?_⟩) (by assumption) ?_; rotate_left; (focus (intro w hSw; (try dsimp only at hSw); go_simp; (try with_reducible rfl); done)); (try simp only [put_rules]))
            (refine wpAnyH_take (i := 1) (v := ?_) rfl (by kernel_rfl) (by kernel_rfl) (by kernel_rfl) (fun _ _ _ h => h) (Or.inl ⟨by rfl, ?_⟩) (by assumption) ?_; rotate_left; (focus (intro w hSw; (try dsimp only at hSw); go_simp; (try with_reducible rfl); done)); (try simp only [put_rules]))
            (refine wpAnyH_take (i := 2) (v := ?_) rfl (by kernel_rfl) (by kernel_rfl) (by kernel_rfl) (fun _ _ _ h => h) (Or.inl ⟨by rfl, ?_⟩) (by assumption) ?_; rotate_left; (focus (intro w hSw; (try dsimp only at hSw); go_simp; (try with_reducible rfl); done)); (try simp only [put_rules]))
            (refine wpAnyH_take (i := 3) (v := ?_) rfl (by kernel_rfl) (by kernel_rfl) (by kernel_rfl) (fun _ _ _ h => h) (Or.inl ⟨by rfl, ?_⟩) (by assumption) ?_; rotate_left; (focus (intro w hSw; (try dsimp only at hSw); go_simp; (try with_reducible rfl); done)); (try simp only [put_rules]))
            (refine wpAnyH_ready (rs := [4]) (by kernel_rfl) (by simp) ?_; refine AllReadyH.cons rfl (fun K hK => ?_) AllReadyH.nil)
            go_simp
            go_at_call 124
            have S3 := HS.out.drew
            have hcall := Lib.hid (cur_pick_at (lo := 0) (hi := 1) (n := 2) S3.cur (by omega) (by omega) (by omega) (by omega) (by omega))
            refine hcall.out.mono ?_
            rintro e w3 ⟨_, ⟨x, hx0, hx1, rfl⟩, rfl, hi3, hc3⟩
            have S4 := Lib.hid (S3.turn hi3 hc3)
            clear hcall S3 HS hi3 hc3
            have hxw : IntKind.i64.wrap (60 + x) = 60 + x := IntWalk.i64_in _ (by omega)
            have m1 := S4.out.cell (i := 1) rfl (o := 1) rfl
            go_wp2_with fail
            refine hK.out _ _ m1 (fun hS2 => ?_)
            clear l1
            clear hK hSc
            (try simp only [put_rules])
            (refine wpAnyH_take (i := 5) (v := ?_) rfl (by kernel_rfl) (by kernel_rfl) (by kernel_rfl) (fun _ _ _ h => h) (Or.inl ⟨by rfl, ?_⟩) (by assumption) ?_; rotate_left; (focus (intro w hSw; (try dsimp only at hSw); go_simp; (try with_reducible rfl); done)); (try simp only [put_rules]))
            by_cases hlt : (ys.length : Int) < 60 + x
            · have d0 : decide ((ys.length : Int) < 60 + x) = true := decide_eq_true hlt
              (refine wpAnyH_take (i := 6) (v := ?_) rfl (by kernel_rfl) (by kernel_rfl) (by kernel_rfl) (fun _ _ _ h => h) (Or.inl ⟨by rfl, ?_⟩) (by assumption) ?_; rotate_left; (focus (intro w hSw; (try dsimp only at hSw); go_simp; (try with_reducible rfl); done)); (try simp only [put_rules]))
              (refine wpAnyH_done (by kernel_rfl) ?_ _)
              have hp1 : ∀ x ∈ ([1] : List Int), I64 x := fun x hx => by
                obtain rfl : x = 1 := by simpa using hx
                unfold I64; omega
              have S5 := Lib.hid (CS.own_to_row (c := [1]) (S4.out.own_one (.int .i64 1) 3) hp1)
              obtain ⟨w4, hw4⟩ : ∃ w4, w3.alloc (.cells #[.int .i64 1] 3) = w4 := ⟨_, rfl⟩
              have hrows := (S5.out.rows (i := 1) rfl).alloc (.cells #[.slice (some ⟨w3.heap.size, 0, none⟩) 1 1] 43)
              have kB : ((w3.alloc (.cells #[.int .i64 1] 3)).alloc (.cells #[.slice (some ⟨w3.heap.size, 0, none⟩) 1 1] 43)).cell? ⟨w3.heap.size + 1, 0, none⟩ = some (.slice (some ⟨w3.heap.size, 0, none⟩) 1 1) := by
                have := cell_of_row _ _ 0 _ _ _ (heap_alloc_new (w3.alloc (.cells #[.int .i64 1] 3)) (.cells #[.slice (some ⟨w3.heap.size, 0, none⟩) 1 1] 43))
                rw [World.size_alloc] at this
                exact this
              replace hrows := Lib.hid hrows
              clear S4 hp1 hw4 w4
              go_wp2_with (at_builtin; refine wpList_append_src rfl _ _ rfl Tryz.underlying59 hi hz0 hz1 hz2 rfl (by decide) _ ys.length _ rfl hrows.out _ 1 1 [.slice (some ⟨w3.heap.size, 0, none⟩) 1 1] rfl (Src.one kB) (by simp [Value.oneCell']) ?c3 ?c4 ?_)
              case c3 => unfold maxLen; omega
              case c4 => omega
              intro vY wY hownY hgY hatY
              have S6 := S5.out.rows_push (bal (bb _) _) hownY hgY (by simpa using hatY)
              obtain ⟨aY, cY, rfl⟩ := own_slice hownY
              have b1 := S6.cell (i := 1) rfl (o := 1) rfl
              have q1 := S6.frozen (i := 1) rfl 1
              have hlen : ys.length + 1 = (ys ++ [[1]]).length := by simp
              have S8 : Hid (CS w g ca cl cc (A + 1010 + 4 * (ys.length + 1)) (wY.setCell ⟨fb, 1, none⟩ (.slice aY (ys.length + 1) cY)) [Rows Ty.int 43 (.slice aY (ys ++ [[1]]).length cY) (cs ++ [.slice (some ⟨w3.heap.size, 0, none⟩) 1 1]) (ys ++ [[1]]), Box fb 61 #[.int .i64 vars, .slice aY (ys ++ [[1]]).length cY], Box w.heap.size 61 #[.int .i64 0, .slice none 0 0]]) := by
                unfold Hid; rw [← hlen]
                have := (S6.store (i := 1) rfl 1 (.slice aY (ys.length + 1) cY)).mono (show _ ≤ A + 1010 + 4 * (ys.length + 1) by omega)
                rw [hlen] at this ⊢
                exact this
              have HC2 : Hid (SmallR 13 (ys ++ [[1]])) := fun y hy => by
                rcases List.mem_append.1 hy with hy | hy
                · exact HC.out y hy
                · obtain rfl : y = [1] := by simpa using hy
                  exact ⟨fun x hx => (by obtain rfl : x = 1 := by simpa using hx
                                         unfold I64; omega), by simp⟩
              have hm2 : Hid (lenAt1 (wY.setCell ⟨fb, 1, none⟩ (.slice aY (ys.length + 1) cY)) fb = ys.length + 1) := by
                have := lenAt1_of (S8.out.cell (i := 1) rfl (o := 1) rfl)
                unfold Hid; rw [this, hlen]
              clear S5 S6 hrows hownY hgY hatY kB HC
              rw [hlen] at S8
              replace hlen := Lib.hid hlen
              go_wp2_with fail
              go_roundw
              case rel => exact ⟨aY, cY, cs ++ [.slice (some ⟨w3.heap.size, 0, none⟩) 1 1], ys ++ [[1]], by rw [← hlen.out]; omega, HC2, by rw [hlen.out]; exact S8⟩
              case measure => rw [hm1.out, hm2.out]; omega
            · have d0 : decide ((ys.length : Int) < 60 + x) = false := decide_eq_false hlt
              (refine wpAnyH_take (i := 6) (v := ?_) rfl (by kernel_rfl) (by kernel_rfl) (by kernel_rfl) (fun _ _ _ h => h) (Or.inl ⟨by rfl, ?_⟩) (by assumption) ?_; rotate_left; (focus (intro w hSw; (try dsimp only at hSw); go_simp; (try with_reducible rfl); done)); (try simp only [put_rules]))
              (refine wpAnyH_done (by kernel_rfl) ?_ _)
              have l0 := S4.out.cell (i := 1) rfl (o := 0) rfl
              have l1 := S4.out.cell (i := 1) rfl (o := 1) rfl
              have r0 := S4.out.cell (i := 2) rfl (o := 0) rfl
              have r1 := S4.out.cell (i := 2) rfl (o := 1) rfl
              have f0 := S4.out.frozen (i := 2) rfl 0
              have f1 := S4.out.frozen (i := 2) rfl 1
              have SF := (S4.out.store (i := 2) rfl 0 (.int .i64 vars)).store (i := 2) rfl 1 (.slice B ys.length cap)
              have j0 := SF.cell (i := 2) rfl (o := 0) rfl
              have j1 := SF.cell (i := 2) rfl (o := 1) rfl
              have hR := Lib.hid ((CS.front (qs := [_]) SF).mono (show _ ≤ A + 2000 by omega))
              clear SF S4
              go_wp2_with fail
              exact bodyPost_ret (v := .agg #[.int .i64 vars, .slice B ys.length cap]) (by simp [results, Tryz.results105, go_sem, j0, j1]) rfl ⟨vars, B, cap, cs, ys, rfl, by omega, by omega, by omega, HC.out, hR.out⟩
        · as_aux_lemma =>
          have HS := S5
          clear S5
          have l0 := HS.out.cell (i := 1) rfl (o := 0) rfl
          have l1 := HS.out.cell (i := 1) rfl (o := 1) rfl
          go_wp2_with fail
          refine wp_region_tail_lit (S := (fun w' => w'.cell? ⟨fb, 0, none⟩ = some (.int .i64 vars) ∧ w'.cell? ⟨fb, 1, none⟩ = some (.slice B ys.length cap))) 8 [false, false, false, false, false, false, false, false, false, false, false] (by kernel_rfl) (by kernel_rfl) (by kernel_rfl) ?_ ?_
          · exact ⟨l0, l1⟩
          intro hSc
          (refine walkT_take (i := 0) (v := ?_) rfl (by kernel_rfl) (by decide) (by kernel_rfl) (by kernel_rfl) (fun _ _ _ h => h) (Or.inl ⟨by rfl, ?_⟩) (by assumption) ?_; rotate_left; (focus (intro w hSw; (try dsimp only at hSw); go_simp; (try with_reducible rfl); done)); (try simp only [put_rules]))
          (refine walkT_take (i := 1) (v := ?_) rfl (by kernel_rfl) (by decide) (by kernel_rfl) (by kernel_rfl) (fun _ _ _ h => h) (Or.inl ⟨by rfl, ?_⟩) (by assumption) ?_; rotate_left; (focus (intro w hSw; (try dsimp only at hSw); go_simp; (try with_reducible rfl); done)); (try simp only [put_rules]))
          (refine walkT_take (i := 2) (v := ?_) rfl (by kernel_rfl) (by decide) (by kernel_rfl) (by kernel_rfl) (fun _ _ _ h => h) (Or.inl ⟨by rfl, ?_⟩) (by assumption) ?_; rotate_left; (focus (intro w hSw; (try dsimp only at hSw); go_simp; (try with_reducible rfl); done)); (try simp only [put_rules]))
          (refine walkT_take (i := 3) (v := ?_) rfl (by kernel_rfl) (by decide) (by kernel_rfl) (by kernel_rfl) (fun _ _ _ h => h) (Or.inl ⟨by rfl, ?_⟩) (by assumption) ?_; rotate_left; (focus (intro w hSw; (try dsimp only at hSw); go_simp; (try with_reducible rfl); done)); (try simp only [put_rules]))
          (refine walkT_take (i := 4) (v := ?_) rfl (by kernel_rfl) (by decide) (by kernel_rfl) (by kernel_rfl) (fun _ _ _ h => h) (Or.inl ⟨by rfl, ?_⟩) (by assumption) ?_; rotate_left; (focus (intro w hSw; (try dsimp only at hSw); go_simp; (try with_reducible rfl); done)); (try simp only [put_rules]))
          (refine walkT_ready (rs := [5, 6]) (by kernel_rfl) (by simp) (by decide) ?_; refine AllT.cons rfl (fun K hK => ?_) (AllT.cons rfl (fun K hK => ?_) AllT.nil))
          · as_aux_lemma =>
              go_simp
              go_at_call 91
              have S3 := HS.out.drew
              have hcall := Lib.hid (cur_clause vars (by omega) _ g ca cl cc _ S3.cur (by omega))
              refine hcall.out.mono ?_
              rintro e w3 ⟨v, c, rfl, ho, hl, hW, hi3, hc3⟩
              have S4 := S3.comp (row_cs S3.cur hi3 hc3 ho)
              obtain ⟨B2, cap2, rfl⟩ := own_slice ho
              have S5 := Lib.hid (CS.own_to_row (ps := _) S4 (hW.i64 (by decide)))
              clear hcall S3 S4 HS l0 l1 hi3 hc3 ho
              go_wp2_with fail
              refine hK.out _ _ ⟨S5.out.cell (i := 2) rfl (o := 0) rfl, S5.out.cell (i := 2) rfl (o := 1) rfl⟩ (fun hS2 => ?_)
              clear hK hSc
              (try simp only [put_rules])
              (refine walkT_ready (rs := [6]) (by kernel_rfl) (by simp) (by decide) ?_; refine AllT.cons rfl (fun K hK => ?_) AllT.nil)
              go_simp
              have S6 := CS.own_to_row (c := []) (S5.out.own_made 3 1) (fun x hx => by simp at hx)
              have S7 := Lib.hid (CS.pend S6.swap)
              refine hK.out _ _ ⟨S7.out.cell (i := 2) rfl (o := 0) rfl, S7.out.cell (i := 2) rfl (o := 1) rfl⟩ (fun hS3 => ?_)
              clear hK hS2 S5 S6
              (try simp only [put_rules])
              (refine walkT_ready (rs := [7]) (by kernel_rfl) (by simp) (by decide) ?_; refine AllT.cons rfl (fun K hK => ?_) AllT.nil)
              go_simp
              obtain ⟨w4, hw4⟩ : ∃ w4, w3.alloc (.cells #[] 3) = w4 := ⟨_, rfl⟩
              have hsz4 : w3.heap.size + 1 = w4.heap.size := by rw [← hw4, World.size_alloc]
              rw [hw4] at S7 ⊢
              have hrows := Lib.hid ((S7.out.rows (i := 1) rfl).alloc (.cells #[.slice B2 c.length cap2, .slice (some ⟨w3.heap.size, 0, none⟩) 0 0] 43))
              have kB : (w4.alloc (.cells #[.slice B2 c.length cap2, .slice (some ⟨w3.heap.size, 0, none⟩) 0 0] 43)).cell? ⟨w4.heap.size, 0, none⟩ = some (.slice B2 c.length cap2) := cell_of_row _ _ _ _ _ _ (heap_alloc_new w4 _)
              have kC : (w4.alloc (.cells #[.slice B2 c.length cap2, .slice (some ⟨w3.heap.size, 0, none⟩) 0 0] 43)).cell? ⟨w4.heap.size, 1, none⟩ = some (.slice (some ⟨w3.heap.size, 0, none⟩) 0 0) := cell_of_row _ _ _ _ _ _ (heap_alloc_new w4 _)
              rw [← hsz4] at kB kC
              have S6 := Lib.hid (S7.out.alloc (.cells #[.slice B2 c.length cap2, .slice (some ⟨w3.heap.size, 0, none⟩) 0 0] 43))
              refine hK.out _ _ ⟨S6.out.cell (i := 2) rfl (o := 0) rfl, S6.out.cell (i := 2) rfl (o := 1) rfl⟩ (fun hS4 => ?_)
              clear hK hS3
              (try simp only [put_rules])
              (refine walkT_done (by kernel_rfl) ?_)
              simp only [List.drop_succ_cons, List.drop_zero]
              (refine wpList_append_src rfl _ _ rfl Tryz.underlying59 hi hz0 hz1 hz2 rfl (by decide) _ ys.length _ rfl hrows.out _ 2 2 [.slice B2 c.length cap2, .slice (some ⟨w3.heap.size, 0, none⟩) 0 0] rfl (Src.two kB kC) (by simp [Value.oneCell']) (by unfold maxLen; omega) (by omega) ?_; intro vY wY hownY hgY hatY)
              have S9 := S7.out.rows_append (bal (bb _) _) hownY hgY hatY
              obtain ⟨aY, cY, rfl⟩ := own_slice hownY
              have b1 := S9.cell (i := 1) rfl (o := 1) rfl
              have q1 := S9.frozen (i := 1) rfl 1
              have hlen : ys.length + 2 = (ys ++ [c, []]).length := by simp
              have S8 : Hid (CS w g ca cl cc (A + 1500) (wY.setCell ⟨fb, 1, none⟩ (.slice aY (ys.length + 2) cY)) [Rows Ty.int 43 (.slice aY (ys ++ [c, []]).length cY) (cs ++ [.slice B2 c.length cap2, .slice (some ⟨w3.heap.size, 0, none⟩) 0 0]) (ys ++ [c, []]), Box fb 61 #[.int .i64 vars, .slice aY (ys ++ [c, []]).length cY], Box w.heap.size 61 #[.int .i64 0, .slice none 0 0]]) := by
                unfold Hid; rw [← hlen]
                have := (S9.store (i := 1) rfl 1 (.slice aY (ys.length + 2) cY)).mono (show _ ≤ A + 1500 by omega)
                rw [hlen] at this ⊢
                exact this
              have HC2 : Hid (SmallR 13 (ys ++ [c, []])) := fun y hy => by
                rcases List.mem_append.1 hy with hy | hy
                · exact HC.out y hy
                · rcases List.mem_cons.1 hy with rfl | hy
                  · exact ⟨hW.i64 (by decide), by omega⟩
                  · obtain rfl : y = [] := by simpa using hy
                    exact ⟨by simp, by simp⟩
              clear S6 S7 S9 hrows hownY hgY hatY kB kC hW HC
              replace hlen := Lib.hid hlen
              rw [hlen.out]
              rw [hlen.out] at S8
              generalize ys ++ [c, []] = zs at *
              have hzl : zs.length ≤ 62 := by rw [← hlen.out]; omega
              have l0 := S8.out.cell (i := 1) rfl (o := 0) rfl
              have l1 := S8.out.cell (i := 1) rfl (o := 1) rfl
              have r0 := S8.out.cell (i := 2) rfl (o := 0) rfl
              have r1 := S8.out.cell (i := 2) rfl (o := 1) rfl
              have f0 := S8.out.frozen (i := 2) rfl 0
              have f1 := S8.out.frozen (i := 2) rfl 1
              have SF := (S8.out.store (i := 2) rfl 0 (.int .i64 vars)).store (i := 2) rfl 1 (.slice aY zs.length cY)
              have j0 := SF.cell (i := 2) rfl (o := 0) rfl
              have j1 := SF.cell (i := 2) rfl (o := 1) rfl
              have hR := Lib.hid ((CS.front (qs := [_]) SF).mono (show _ ≤ A + 2000 by omega))
              clear SF S8
              go_wp2_with fail
              exact bodyPost_ret (v := .agg #[.int .i64 vars, .slice aY zs.length cY]) (by simp [results, Tryz.results105, go_sem, j0, j1]) rfl ⟨vars, aY, cY, _, zs, rfl, by omega, by omega, by omega, HC2.out, hR.out⟩
          · as_aux_lemma =>
              go_simp
              have S6 := CS.own_to_row (c := []) (HS.out.drew.own_made 3 1) (fun x hx => by simp at hx)
              (repeat (first | simp only [drew_size] at S6 | simp only [World.size_setCell] at S6 | simp only [World.size_alloc] at S6))
              replace S6 := Lib.hid S6
              refine hK.out _ _ ⟨S6.out.cell (i := 2) rfl (o := 0) rfl, S6.out.cell (i := 2) rfl (o := 1) rfl⟩ (fun hS2 => ?_)
              clear hK hSc HS l0 l1
              (try simp only [put_rules])
              (refine walkT_ready (rs := [5]) (by kernel_rfl) (by simp) (by decide) ?_; refine AllT.cons rfl (fun K hK => ?_) AllT.nil)
              go_simp
              go_at_call 91
              have hcall := Lib.hid (cur_clause vars (by omega) _ g ca cl cc _ S6.out.cur (by omega))
              refine hcall.out.mono ?_
              rintro e w4 ⟨v, c, rfl, ho, hl, hW, hi3, hc3⟩
              have S4 := S6.out.comp (row_cs S6.out.cur hi3 hc3 ho)
              obtain ⟨B2, cap2, rfl⟩ := own_slice ho
              have S7 := Lib.hid (CS.pend (CS.own_to_row (ps := _) S4 (hW.i64 (by decide))))
              clear hcall S4 S6 hi3 hc3 ho
              go_wp2_with fail
              refine hK.out _ _ ⟨S7.out.cell (i := 2) rfl (o := 0) rfl, S7.out.cell (i := 2) rfl (o := 1) rfl⟩ (fun hS3 => ?_)
              clear hK hS2
              (try simp only [put_rules])
              (refine walkT_ready (rs := [7]) (by kernel_rfl) (by simp) (by decide) ?_; refine AllT.cons rfl (fun K hK => ?_) AllT.nil)
              go_simp
              have hrows := Lib.hid ((S7.out.rows (i := 1) rfl).alloc (.cells #[.slice B2 c.length cap2, .slice (some ⟨w5.heap.size, 0, none⟩) 0 0] 43))
              have kB : (w4.alloc (.cells #[.slice B2 c.length cap2, .slice (some ⟨w5.heap.size, 0, none⟩) 0 0] 43)).cell? ⟨w4.heap.size, 0, none⟩ = some (.slice B2 c.length cap2) := cell_of_row _ _ _ _ _ _ (heap_alloc_new w4 _)
              have kC : (w4.alloc (.cells #[.slice B2 c.length cap2, .slice (some ⟨w5.heap.size, 0, none⟩) 0 0] 43)).cell? ⟨w4.heap.size, 1, none⟩ = some (.slice (some ⟨w5.heap.size, 0, none⟩) 0 0) := cell_of_row _ _ _ _ _ _ (heap_alloc_new w4 _)
              have S6 := Lib.hid (S7.out.alloc (.cells #[.slice B2 c.length cap2, .slice (some ⟨w5.heap.size, 0, none⟩) 0 0] 43))
              refine hK.out _ _ ⟨S6.out.cell (i := 2) rfl (o := 0) rfl, S6.out.cell (i := 2) rfl (o := 1) rfl⟩ (fun hS4 => ?_)
              clear hK hS3
              (try simp only [put_rules])
              (refine walkT_done (by kernel_rfl) ?_)
              simp only [List.drop_succ_cons, List.drop_zero]
              (refine wpList_append_src rfl _ _ rfl Tryz.underlying59 hi hz0 hz1 hz2 rfl (by decide) _ ys.length _ rfl hrows.out _ 2 2 [.slice B2 c.length cap2, .slice (some ⟨w5.heap.size, 0, none⟩) 0 0] rfl (Src.two kB kC) (by simp [Value.oneCell']) (by unfold maxLen; omega) (by omega) ?_; intro vY wY hownY hgY hatY)
              have S9 := S7.out.rows_append (bal (bb _) _) hownY hgY hatY
              obtain ⟨aY, cY, rfl⟩ := own_slice hownY
              have b1 := S9.cell (i := 1) rfl (o := 1) rfl
              have q1 := S9.frozen (i := 1) rfl 1
              have hlen : ys.length + 2 = (ys ++ [c, []]).length := by simp
              have S8 : Hid (CS w g ca cl cc (A + 1500) (wY.setCell ⟨fb, 1, none⟩ (.slice aY (ys.length + 2) cY)) [Rows Ty.int 43 (.slice aY (ys ++ [c, []]).length cY) (cs ++ [.slice B2 c.length cap2, .slice (some ⟨w5.heap.size, 0, none⟩) 0 0]) (ys ++ [c, []]), Box fb 61 #[.int .i64 vars, .slice aY (ys ++ [c, []]).length cY], Box w.heap.size 61 #[.int .i64 0, .slice none 0 0]]) := by
                unfold Hid; rw [← hlen]
                have := (S9.store (i := 1) rfl 1 (.slice aY (ys.length + 2) cY)).mono (show _ ≤ A + 1500 by omega)
                rw [hlen] at this ⊢
                exact this
              have HC2 : Hid (SmallR 13 (ys ++ [c, []])) := fun y hy => by
                rcases List.mem_append.1 hy with hy | hy
                · exact HC.out y hy
                · rcases List.mem_cons.1 hy with rfl | hy
                  · exact ⟨hW.i64 (by decide), by omega⟩
                  · obtain rfl : y = [] := by simpa using hy
                    exact ⟨by simp, by simp⟩
              clear S6 S7 S9 hrows hownY hgY hatY kB kC hW HC
              replace hlen := Lib.hid hlen
              rw [hlen.out]
              rw [hlen.out] at S8
              generalize ys ++ [c, []] = zs at *
              have hzl : zs.length ≤ 62 := by rw [← hlen.out]; omega
              have l0 := S8.out.cell (i := 1) rfl (o := 0) rfl
              have l1 := S8.out.cell (i := 1) rfl (o := 1) rfl
              have r0 := S8.out.cell (i := 2) rfl (o := 0) rfl
              have r1 := S8.out.cell (i := 2) rfl (o := 1) rfl
              have f0 := S8.out.frozen (i := 2) rfl 0
              have f1 := S8.out.frozen (i := 2) rfl 1
              have SF := (S8.out.store (i := 2) rfl 0 (.int .i64 vars)).store (i := 2) rfl 1 (.slice aY zs.length cY)
              have j0 := SF.cell (i := 2) rfl (o := 0) rfl
              have j1 := SF.cell (i := 2) rfl (o := 1) rfl
              have hR := Lib.hid ((CS.front (qs := [_]) SF).mono (show _ ≤ A + 2000 by omega))
              clear SF S8
              go_wp2_with fail
              exact bodyPost_ret (v := .agg #[.int .i64 vars, .slice aY zs.length cY]) (by simp [results, Tryz.results105, go_sem, j0, j1]) rfl ⟨vars, aY, cY, _, zs, rfl, by omega, by omega, by omega, HC2.out, hR.out⟩
        · as_aux_lemma =>
          have l0 := S5.out.cell (i := 1) rfl (o := 0) rfl
          have l1 := S5.out.cell (i := 1) rfl (o := 1) rfl
          have r0 := S5.out.cell (i := 2) rfl (o := 0) rfl
          have r1 := S5.out.cell (i := 2) rfl (o := 1) rfl
          have f0 := S5.out.frozen (i := 2) rfl 0
          have f1 := S5.out.frozen (i := 2) rfl 1
          have SF := (S5.out.store (i := 2) rfl 0 (.int .i64 vars)).store (i := 2) rfl 1 (.slice B ys.length cap)
          have j0 := SF.cell (i := 2) rfl (o := 0) rfl
          have j1 := SF.cell (i := 2) rfl (o := 1) rfl
          have hR := Lib.hid ((CS.front (qs := [_]) SF).mono (show _ ≤ A + 2000 by omega))
          clear SF S5
          go_wp2_with fail
          exact bodyPost_ret (v := .agg #[.int .i64 vars, .slice B ys.length cap]) (by simp [results, Tryz.results105, go_sem, j0, j1]) rfl ⟨vars, B, cap, cs, ys, rfl, by omega, by omega, by omega, HC.out, hR.out⟩
end Go.Proofs.YtahbepajeplcmaaGreatDoor

/- Contracts: the laws' own comparisons of numbers. -/
namespace Go.Proofs.YtahbepajeplcmaaGreatDoor
open Go.RowKit

theorem rBig_any (ca : Option Addr) (cl cc : Nat) (w : World) : Calls Tryz.prog 6 #[.slice ca cl cc] w fun e w' => e = .returned (.bool (decide ((65536 : Int) < (cl : Int)))) ∧ w' = w := by
  go_enter Tryz.func6, Tryz.ntmps6
  go_wp2_with fail
  go_ret
  exact ⟨rfl, rfl⟩

/- left out: the seat has no laws.rInts -/

set_option maxRecDepth 100000 in
set_option maxHeartbeats 4000000 in
theorem vInts_same (A A' : Option Addr) (c c' : Nat) (ns : List Int) (w : World) (hx : IntsAt w A ns) (hy : IntsAt w A' ns) (hl : ns.length ≤ 1000000) :
    Calls Tryz.prog 23 #[.slice A ns.length c, .slice A' ns.length c'] w fun e w' => e = .returned (.bool true) ∧ Below w.heap.size w w' := by
  have hN := Lib.hid hx
  have hM := Lib.hid hy
  clear hx hy
  go_enter Tryz.func23, Tryz.ntmps23
  go_wp2_with fail
  go_loopw [5] (fun i wr => ∃ k : Nat, k ≤ ns.length ∧ i = .int .i64 k ∧ Hid (Below w.heap.size w wr)) (fun i _ => ns.length - (intOf i).toNat)
  case atStart => exact ⟨0, Nat.zero_le _, rfl, bb _⟩
  case round =>
    obtain ⟨k, hk, rfl, HS⟩ := hrel
    by_cases hlt : k < ns.length
    · obtain ⟨b, off, rfl, m0⟩ := (hN.out.grow HS.out).at_ k hlt
      obtain ⟨b', off', rfl, p0⟩ := (hM.out.grow HS.out).at_ k hlt
      have k0 := cell_regrown m0
      have q0 := cell_regrown p0
      generalize ns[k] = v at *
      clear m0 p0
      go_wp2_with fail
      refine wp_region_quiet_below (by kernel_rfl) (by kernel_rfl) ?_
      repeat (any_goals (go_big_quiet_step (fail)))
      refine wpQuiet_nil ?_
      rintro w3 ⟨p, rfl⟩
      have HS4 := Lib.hid (btr HS.out (below_regrown _ p.d p.os))
      clear HS k0 q0
      go_wp2_with fail
      go_roundw
      case rel => exact ⟨k + 1, by omega, by go_num, HS4⟩
      case measure => simp [intOf]; omega
    · obtain rfl : k = ns.length := by omega
      have hB := HS.out
      go_wp2_with fail
      go_ret
      exact ⟨rfl, hB⟩
end Go.Proofs.YtahbepajeplcmaaGreatDoor

/- Contracts: drawn Cnfs as inputs of laws. -/
namespace Go.Proofs.YtahbepajeplcmaaGreatDoor
open Go.RowKit

section
variable {w0 w w' : World} {ps qs : List Asn} {A A' g cl cc : Nat} {ca : Option Addr}
theorem Sp.cur_laid (h : Sp w0 w ps) (ca : Option Addr) (cl cc : Nat) : Sp w0 (w.alloc (.cells #[.slice ca cl cc, .int .i64 0, .int .u64 0] 74)) (CurA 0 w.heap.size ca cl cc :: ps) :=
  h.new (bal (bb w) _) (F := [w.heap.size]) ⟨rfl, 0, 0, heap_alloc_new w _, Nat.le_refl 0, Int.le_refl 0, by omega⟩ (by simp)
theorem Sp.cs_call (h : Sp w0 w (CurA A g ca cl cc :: ps)) (k : CS w g ca cl cc A' w' qs) (hc : CodeOk w0 ca cl) (hs : cl ≤ 65536) : Sp w0 w' (qs ++ CurA A' g ca cl cc :: ps) := by
  have hb := ((h.cur (A' := A') (i := 0) rfl hc hs).2 w' k.cur k.chg).below
  obtain ⟨h1, F, ⟨F1, F2, rfl, hd, ⟨rfl, -⟩, h5⟩, h3⟩ := h
  have hg : g < w.heap.size := by
    obtain ⟨A0, h0⟩ := k.1
    exact h0.lt
  obtain ⟨k0, k1, k2, G, k3, k4⟩ := k
  have hk := sep_keep h5 fun b hm => k2.block b (sep_lt h5 b hm) fun hb => by
    obtain rfl : b = g := by simpa using hb
    exact hd b (by simp) hm
  refine ⟨hb, G ++ ([g] ++ F2), sep_append k3 ⟨[g], F2, rfl, hd, ⟨rfl, k1.ok⟩, hk⟩ (fun b hb hb2 => ?_), fun b hb => ?_⟩
  · have := k4 b hb
    rcases List.mem_append.1 hb2 with h' | h'
    · obtain rfl : b = g := by simpa using h'
      omega
    · have := sep_lt h5 b h'; omega
  · rcases List.mem_append.1 hb with hb | hb
    · have := k4 b hb; have := h1.size; omega
    · exact h3 b hb
end
/-- A drawn Cnf of its own. -/
def CnfD (w : World) (e : Ending) (w' : World) : Prop := ∃ (vars : Int) (B : Option Addr) (cap : Nat) (cs : List Value) (xss : List (List Int)), e = .returned (.agg #[.int .i64 vars, .slice B xss.length cap]) ∧ -1 ≤ vars ∧ vars ≤ 13 ∧ xss.length ≤ 62 ∧ SmallR 13 xss ∧
  Sp w w' [Rows Ty.int 43 (.slice B xss.length cap) cs xss]

set_option maxRecDepth 100000 in
set_option maxHeartbeats 4000000 in
theorem drawIsCnf_any (ca : Option Addr) (cl cc : Nat) (w : World) (hc : CodeOk w ca cl) (hs : cl ≤ 65536) : Calls Tryz.prog 99 #[.slice ca cl cc] w (CnfD w) := by
  have S0 := ((Sp.start w).alloc_box #[.int .i64 0, .slice none 0 0] 61).cur_laid ca cl cc
  simp only [World.size_alloc] at S0
  have hi := Lib.hid (S0.cur (A' := 0) (i := 0) rfl hc hs).1
  replace S0 := Lib.hid S0
  go_enter Tryz.func99, Tryz.ntmps99
  go_wp2_with fail
  refine (cur_cnf 0 (w.heap.size + 1) ca cl cc _ hi.out (by omega)).mono ?_
  rintro e w1 ⟨vars, B, cap, cs, xss, rfl, hv0, hv1, hl, HC, T⟩
  replace HC := Lib.hid HC
  have S1 := S0.out.cs_call T hc hs
  clear T S0 hi
  have e0 := S1.cell (i := 2) rfl (o := 0) rfl
  have e1 := S1.cell (i := 2) rfl (o := 1) rfl
  have f0 := S1.frozen (i := 2) rfl 0
  have f1 := S1.frozen (i := 2) rfl 1
  have S6 := (S1.store (i := 2) rfl 0 (.int .i64 vars)).store (i := 2) rfl 1 (.slice B xss.length cap)
  have j0 := S6.cell (i := 2) rfl (o := 0) rfl
  have j1 := S6.cell (i := 2) rfl (o := 1) rfl
  have hR := Lib.hid (Sp.front (qs := [_]) S6)
  clear S6 S1
  go_wp2_with fail
  exact bodyPost_ret (v := .agg #[.int .i64 vars, .slice B xss.length cap]) (by simp [results, Tryz.results99, go_sem, j0, j1]) rfl ⟨vars, B, cap, cs, xss, rfl, hv0, hv1, hl, HC.out, hR.out⟩

/- left out: the seat has no spec.DrawBackboneOf -/
end Go.Proofs.YtahbepajeplcmaaGreatDoor

/- Contracts: drawn Cnfs and texts of Cnfs. -/
namespace Go.Proofs.YtahbepajeplcmaaGreatDoor
open Go.RowKit

set_option maxRecDepth 100000 in
set_option maxHeartbeats 4000000 in
theorem drawCnfText_any (ca : Option Addr) (cl cc : Nat) (w : World) (hc : CodeOk w ca cl) (hs : cl ≤ 65536) : Calls Tryz.prog 36 #[.slice ca cl cc] w (CnfD w) := by
  have S0 := (Sp.start w).alloc_box #[.int .i64 0, .slice none 0 0] 61
  have hd := Lib.hid (drawIsCnf_any ca cl cc _ (hc.grow S0.below) hs)
  replace S0 := Lib.hid S0
  go_enter Tryz.func36, Tryz.ntmps36
  go_wp2_with fail
  refine hd.out.mono ?_
  rintro e w1 ⟨vars, B, cap, cs, xss, rfl, hv0, hv1, hl, HC, T⟩
  replace HC := Lib.hid HC
  have S1 := S0.out.seq T
  clear T S0 hd
  have e0 := S1.cell (i := 1) rfl (o := 0) rfl
  have e1 := S1.cell (i := 1) rfl (o := 1) rfl
  have f0 := S1.frozen (i := 1) rfl 0
  have f1 := S1.frozen (i := 1) rfl 1
  have S6 := (S1.store (i := 1) rfl 0 (.int .i64 vars)).store (i := 1) rfl 1 (.slice B xss.length cap)
  have j0 := S6.cell (i := 1) rfl (o := 0) rfl
  have j1 := S6.cell (i := 1) rfl (o := 1) rfl
  have hR := Lib.hid (Sp.front (qs := [_]) S6)
  clear S6 S1
  go_wp2_with fail
  exact bodyPost_ret (v := .agg #[.int .i64 vars, .slice B xss.length cap]) (by simp [results, Tryz.results36, go_sem, j0, j1]) rfl ⟨vars, B, cap, cs, xss, rfl, hv0, hv1, hl, HC.out, hR.out⟩

set_option maxRecDepth 100000 in
set_option maxHeartbeats 4000000 in
theorem drawDropWeaker_any (ca : Option Addr) (cl cc : Nat) (w : World) (hc : CodeOk w ca cl) (hs : cl ≤ 65536) : Calls Tryz.prog 44 #[.slice ca cl cc] w (CnfD w) := by
  have S0 := (Sp.start w).alloc_box #[.int .i64 0, .slice none 0 0] 61
  have hd := Lib.hid (drawIsCnf_any ca cl cc _ (hc.grow S0.below) hs)
  replace S0 := Lib.hid S0
  go_enter Tryz.func44, Tryz.ntmps44
  go_wp2_with fail
  refine hd.out.mono ?_
  rintro e w1 ⟨vars, B, cap, cs, xss, rfl, hv0, hv1, hl, HC, T⟩
  replace HC := Lib.hid HC
  have S1 := S0.out.seq T
  clear T S0 hd
  have e0 := S1.cell (i := 1) rfl (o := 0) rfl
  have e1 := S1.cell (i := 1) rfl (o := 1) rfl
  have f0 := S1.frozen (i := 1) rfl 0
  have f1 := S1.frozen (i := 1) rfl 1
  have S6 := (S1.store (i := 1) rfl 0 (.int .i64 vars)).store (i := 1) rfl 1 (.slice B xss.length cap)
  have j0 := S6.cell (i := 1) rfl (o := 0) rfl
  have j1 := S6.cell (i := 1) rfl (o := 1) rfl
  have hR := Lib.hid (Sp.front (qs := [_]) S6)
  clear S6 S1
  go_wp2_with fail
  exact bodyPost_ret (v := .agg #[.int .i64 vars, .slice B xss.length cap]) (by simp [results, Tryz.results44, go_sem, j0, j1]) rfl ⟨vars, B, cap, cs, xss, rfl, hv0, hv1, hl, HC.out, hR.out⟩

set_option maxRecDepth 100000 in
set_option maxHeartbeats 8000000 in
theorem drawParseCnf_any (ca : Option Addr) (cl cc : Nat) (w : World) (hc : CodeOk w ca cl) (hs : cl ≤ 65536) : Calls Tryz.prog 42 #[.slice ca cl cc] w fun e w' => ∃ t : ByteArray, e = .returned (.string t) ∧ t.size ≤ 50000 ∧ Below w.heap.size w w' := by
  have S0 := (Sp.start w).cur_laid ca cl cc
  have hi := Lib.hid (S0.cur (A' := 0) (i := 0) rfl hc hs).1
  obtain ⟨gc, hgc⟩ : ∃ gc, w.heap.size = gc := ⟨_, rfl⟩
  rw [hgc] at S0 hi
  replace S0 := Lib.hid S0
  have hcH := Lib.hid hc
  clear hc
  go_enter Tryz.func42, Tryz.ntmps42
  go_wp2_with fail
  refine (cur_cnf 0 gc ca cl cc _ hi.out (by omega)).mono ?_
  rintro e w1 ⟨vars, B, cap, cs, xss, rfl, hv0, hv1, hl, HC, T⟩
  have S1 := S0.out.cs_call T hcH.out hs
  obtain ⟨F, hr, -, -⟩ := S1.rows_done (i := 0) rfl
  have S2 := S1.alloc_box #[.int .i64 vars, .slice B xss.length cap] 61
  have hrb := Ty.row_below (Ty.row_down hr) (bal (bb _) (.cells #[.int .i64 vars, .slice B xss.length cap] 61)) (Ty.row_lt hr)
  have hgo := Lib.hid (l2Good_any vars _ xss F _ hrb)
  obtain ⟨A', cap', e', hI⟩ := cls_row hrb
  cases e'
  replace hI := Lib.hid hI
  obtain ⟨fb, hfb⟩ : ∃ fb, w1.heap.size = fb := ⟨_, rfl⟩
  rw [hfb] at S2
  have S3 : Hid (Sp w _ [Box fb 61 #[.int .i64 vars, .slice B xss.length cap], Rows Ty.int 43 (.slice B xss.length cap) cs xss, CurA 2000 gc ca cl cc]) := S2
  have c0 := S3.out.cell (i := 0) rfl (o := 0) rfl
  have c1 := S3.out.cell (i := 0) rfl (o := 1) rfl
  clear S0 S1 S2 T hi hr hrb HC
  go_wp2_with fail
  refine hgo.out.mono ?_
  rintro e w2 ⟨rfl, hb2⟩
  have S4 := Lib.hid (S3.out.grow hb2)
  have hI2 := Lib.hid (hI.out.grow hb2)
  have hgm := Lib.hid (fun h => good_mildC (vars := vars) (xss := xss) h)
  have hgp := Lib.hid (fun h => goodN_parts (vars := vars) (xss := xss) h)
  obtain ⟨q, hq⟩ : ∃ q, goodB vars xss = q := ⟨_, rfl⟩
  rw [hq] at hgm hgp ⊢
  clear S3 hgo hb2 c0 c1 hI hq
  go_upto_if 13 with fail
  go_cut [] (fun wx => ∃ (vars : Int) (B : Option Addr) (cap : Nat) (cs : List Value) (xss : List (List Int)), 0 ≤ vars ∧ vars ≤ 12 ∧ xss.length ≤ 60 ∧ Hid (MildC xss) ∧ Hid (ClsAt wx B xss) ∧ Hid (Sp w wx [Box fb 61 #[.int .i64 vars, .slice B xss.length cap], CurA 2000 gc ca cl cc]))
  case first =>
    cases q
    · clear hgm hgp hI2
      go_wp2_with fail
      refine (l2KnownW_any ⟨#[50, 59, 32, 49, 32, 50, 59, 32, 45, 49]⟩ w2 (by decide)).mono ?_
      rintro e w3 ⟨vars2, B2, cap2, cs2, xss2, rfl, hv0, hv1, hl2, HC2, T⟩
      have S5 := S4.out.seq T
      obtain ⟨F, hr, -, -⟩ := S5.rows_done (i := 0) rfl
      have r0 := S5.cell (i := 1) rfl (o := 0) rfl
      have r1 := S5.cell (i := 1) rfl (o := 1) rfl
      have f0 := S5.frozen (i := 1) rfl 0
      have f1 := S5.frozen (i := 1) rfl 1
      have S6 := (S5.store (i := 1) rfl 0 (.int .i64 vars2)).store (i := 1) rfl 1 (.slice B2 xss2.length cap2)
      obtain ⟨F6, hr6, -, -⟩ := S6.rows_done (i := 0) rfl
      obtain ⟨A', cap', e', hI6⟩ := cls_row hr6
      cases e'
      replace hI6 := Lib.hid hI6
      have S7 := Lib.hid (S6.pick (qs := [Box fb 61 #[.int .i64 vars2, .slice B2 xss2.length cap2], CurA 2000 gc ca cl cc]) [1, 2] rfl)
      have HC3 : Hid (MildC xss2) := HC2
      clear S4 S5 S6 T hr hr6 HC2
      go_wp2_with fail
      go_meet
      exact ⟨vars2, B2, cap2, cs2, xss2, hv0, hv1, hl2, HC3, hI6, S7⟩
    · have hm := Lib.hid (hgm.out rfl)
      obtain ⟨g1, g2, -⟩ := hgp.out rfl
      have hv := inB_true.1 g1
      have S5 := Lib.hid (S4.out.pick (qs := [Box fb 61 #[.int .i64 vars, .slice B xss.length cap], CurA 2000 gc ca cl cc]) [0, 1] rfl)
      clear g1 hgm hgp S4
      go_wp2_with fail
      go_meet
      exact ⟨vars, B, cap, cs, xss, hv.1, hv.2, g2, hm, hI2, S5⟩
  case rest =>
  obtain ⟨vars, B, cap, cs, xss, hv0, hv1, hl, HM, HI, HS⟩ := hcut
  clear S4 hI2 hgm hgp
  have c0 := HS.out.cell (i := 0) rfl (o := 0) rfl
  have c1 := HS.out.cell (i := 0) rfl (o := 1) rfl
  have htx := Lib.hid (l2TextOfN_any vars (by omega) xss HM.out (by omega) B cap _ HI.out)
  have hsz : (ms (cnfT vars xss)).size ≤ 20000 := by
    rw [ms_size, ← cnfK_all]
    have := cnfK_len (vars := vars) (by omega) HM.out xss.length (Nat.le_refl _)
    omega
  generalize ms (cnfT vars xss) = t at *
  clear HI HM
  go_wp2_with fail
  refine htx.out.mono ?_
  rintro e w3 ⟨rfl, hb3⟩
  have S4 := Lib.hid ((HS.out.grow hb3).pick (qs := [CurA 2000 gc ca cl cc]) [1] rfl)
  clear HS htx hb3 c0 c1
  have hcu := Lib.hid (S4.out.cur (A' := 2000) (i := 0) rfl hcH.out hs).1
  go_wp2_with fail
  refine (cur_one 4 _ _ ca cl cc _ hcu.out (by omega) (by decide)).mono ?_
  rintro e w4 ⟨_, ⟨q, rfl⟩, rfl, hi4, hc4⟩
  have S5 : Hid (Sp w w4 [CurA 2010 gc ca cl cc]) := Lib.hid ((S4.out.cur (A' := 2010) (i := 0) rfl hcH.out hs).2 w4 (hi4.mono (by omega)) hc4)
  clear S4 hcu hi4 hc4
  have hcu := Lib.hid (S5.out.cur (A' := 2010) (i := 0) rfl hcH.out hs).1
  cases q
  · have hB := Lib.hid S5.out.below
    clear S5 hcu
    go_wp2_with fail
    go_ret
    exact ⟨t, rfl, by omega, hB.out⟩
  · go_wp2_with fail
    refine (cur_spoilt t ⟨#[59, 32, 45, 48, 49, 50, 57, 110, 111, 110, 101]⟩ _ _ ca cl cc _ hcu.out (by omega) (by omega) (by decide) (by decide)).mono ?_
    rintro e w5 ⟨_, ⟨u, hu, rfl⟩, rfl, hi5, hc5⟩
    have hB := Lib.hid ((S5.out.cur (A' := 2020) (i := 0) rfl hcH.out hs).2 w5 (hi5.mono (by omega)) hc5).below
    have hu2 : u.size ≤ 50000 := by unfold SizeLe at hu; omega
    clear S5 hcu hi5 hc5 hu
    go_wp2_with fail
    go_ret
    exact ⟨u, rfl, hu2, hB.out⟩
end Go.Proofs.YtahbepajeplcmaaGreatDoor
