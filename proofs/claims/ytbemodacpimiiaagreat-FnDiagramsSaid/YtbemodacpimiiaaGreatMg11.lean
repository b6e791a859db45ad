/- Lemmas and contracts for a law, put together out of several texts: CyD DuE DuF DgS. -/
import Derived.Test.YtbemodacpimiiaaGreatMg10
import Derived.Test.YtbemodacpimiiaaGreatMg6
import Derived.Test.YtbemodacpimiiaaGreatMg7
/- Rows of rows that grow by several rows; rows of one number. -/
namespace Go.Proofs.YtbemodacpimiiaaGreat
open Go.RowKit

/-- Rows that wait to be appended. -/
def Pend {α : Type} (T : Ty α) (us : List Value) (yss : List (List α)) : Asn where
  p w F := F.Nodup ∧ (Ty.slice T).all true w us yss F
  lt h := Ty.all_lt h.2
  keep h hk := ⟨h.1, Ty.all_keep h.2 hk⟩
section
variable {w0 w w' w1 : World} {g cl cc A : Nat} {ca : Option Addr} {ps : List Asn} {e : TypeId} {α : Type} {T : Ty α} {v v' u1 u2 : Value} {cs us : List Value} {xss yss : List (List α)} {ys1 ys2 : List α}
theorem CS.pend (h : CS w0 g ca cl cc A w (Row T u1 ys1 :: Row T u2 ys2 :: ps)) : CS w0 g ca cl cc A w (Pend T [u1, u2] [ys1, ys2] :: ps) := by
  obtain ⟨h0, h1, h2, F, ⟨F1, F2, rfl, hd, ⟨hr, hn⟩, ⟨F3, F4, rfl, hd', ⟨hr', hn'⟩, h5⟩⟩, h3⟩ := h
  refine ⟨h0, h1, h2, (F1 ++ F3) ++ F4, ⟨F1 ++ F3, F4, rfl, ?_, ⟨?_, Ty.all_append (cs := [u1]) (xs := [ys1]) (Ty.all_one ⟨u1, rfl, hr⟩) (Ty.all_one ⟨u2, rfl, hr'⟩)⟩, h5⟩, ?_⟩
  · intro b hm hm4
    rcases List.mem_append.1 hm with hm | hm
    · exact hd b hm (List.mem_append.2 (.inr hm4))
    · exact hd' b hm hm4
  · exact List.nodup_append.2 ⟨hn, hn', fun x hx y hy e => hd x hx (List.mem_append.2 (.inl (e ▸ hy)))⟩
  · intro b hm
    exact h3 b (by simpa [List.append_assoc] using hm)
theorem CS.rows_append (h : CS w0 g ca cl cc A w (Pend T us yss :: Rows T e v cs xss :: ps)) (hb : Below w.heap.size w w1) (ho : w'.ownsRow 0 e 1 v' (xss.length + yss.length) (cs ++ us)) (hg : w1.grownBy w' v.ownBlock)
    (hat : v'.ownBlock = v.ownBlock ∨ v'.ownBlock = some w1.heap.size) : CS w0 g ca cl cc A w' (Rows T e v' (cs ++ us) (xss ++ yss) :: ps) := by
  have hsz := h.chg.size
  obtain ⟨⟨A0, h0'⟩, hcur, h1, F, ⟨F1, F2, rfl, hd, ⟨hn, hr⟩, ⟨F3, F4, rfl, hd', ⟨G, rfl, hn', hall, hown⟩, h5⟩⟩, h3⟩ := h
  have hr1 := Ty.all_keep hr fun b hm => hb.block b (Ty.all_lt hr b hm)
  have hall1 := Ty.all_keep hall fun b hm => hb.block b (Ty.all_lt hall b hm)
  have h51 := sep_keep h5 fun b hm => hb.block b (sep_lt h5 b hm)
  have hkeep : ∀ b, b < w.heap.size → (∀ g, v.ownBlock = some g → b ≠ g) → w'.heap[b]? = w1.heap[b]? := fun b hlt hne => hg.block b (Nat.lt_of_lt_of_le hlt hb.size) (fun e => hne b e.symm rfl)
  have hr2 := Ty.all_keep hr1 fun b hm => hkeep b (Ty.all_lt hr b hm) fun g hg' e => hd b hm (by simp [hg', e])
  have hnG : ∀ b ∈ G, ∀ g, v.ownBlock = some g → b ≠ g := fun b hm g hg' e => by
    rw [List.nodup_append] at hn'
    exact hn'.2.2 g (by simp [hg']) b hm e.symm
  have hall2 := Ty.all_keep hall1 fun b hm => hkeep b (Ty.all_lt hall b hm) (hnG b hm)
  have h52 := sep_keep h51 fun b hm => hkeep b (sep_lt h5 b hm) fun g hg' e => hd' b (by simp [hg', e]) hm
  have hlv : ∀ b ∈ v'.ownBlock.toList, b ∈ v.ownBlock.toList ∨ b = w1.heap.size := fun b hm => by
    rcases hat with h | h
    · left; rwa [h] at hm
    · right; rw [h] at hm; simpa using hm
  have hs := hb.size
  have hold : ∀ k, k < w0.heap.size → w'.heap[k]? = w.heap[k]? := fun k hk => (hkeep k (by omega) fun g hg' e => by have := h3 g (by simp [hg']); omega).trans (hb.block k (by omega))
  have hchg : Chg [g] w0 w' := ⟨hg.os.trans (hb.os.trans h1.os), hg.tape.trans (hb.tape.trans h1.tape), hg.output.trans (hb.output.trans h1.output), by have := hg.size; omega, fun k hk hn => (hold k hk).trans (h1.block k hk hn)⟩
  refine ⟨⟨A0, h0'⟩, h0'.stay hcur hold, hchg, (v'.ownBlock.toList ++ (G ++ F1)) ++ F4, ⟨_, F4, rfl, ?_, ⟨G ++ F1, rfl, ?_, ?_, by simpa using ho⟩, h52⟩, ?_⟩
  · intro b hm hm4
    rcases List.mem_append.1 hm with hm | hm
    · rcases hlv b hm with h | h
      · exact hd' b (List.mem_append.2 (.inl h)) hm4
      · have := sep_lt h5 b hm4; omega
    · rcases List.mem_append.1 hm with hm | hm
      · exact hd' b (List.mem_append.2 (.inr hm)) hm4
      · exact hd b hm (List.mem_append.2 (.inr hm4))
  · refine List.nodup_append.2 ⟨by cases v'.ownBlock <;> simp, List.nodup_append.2 ⟨(List.nodup_append.1 hn').2.1, hn, fun x hx y hy e => hd y hy (by simp [← e, hx])⟩, fun x hx y hy e => ?_⟩
    subst e
    rcases hlv x hx with h | h
    · rcases List.mem_append.1 hy with hy | hy
      · exact (List.nodup_append.1 hn').2.2 x h x hy rfl
      · exact hd x hy (List.mem_append.2 (.inl (List.mem_append.2 (.inl h))))
    · rcases List.mem_append.1 hy with hy | hy
      · have := Ty.all_lt hall x hy; omega
      · have := Ty.all_lt hr x hy; omega
  · exact Ty.all_append hall2 hr2
  · intro b hm
    rcases List.mem_append.1 hm with hm | hm
    · rcases List.mem_append.1 hm with hm | hm
      · rcases hlv b hm with h | h
        · exact h3 b (by simp at h ⊢; simp [h])
        · omega
      · rcases List.mem_append.1 hm with hm | hm
        · exact h3 b (by simp [hm])
        · exact h3 b (by simp [hm])
    · exact h3 b (by simp [hm])
theorem CS.own_one (h : CS w0 g ca cl cc A w ps) (x : Value) (e : TypeId) : CS w0 g ca cl cc A (w.alloc (.cells #[x] e)) (Own e 1 (.slice (some ⟨w.heap.size, 0, none⟩) 1 1) 1 [x] :: ps) :=
  h.own_new (bal (bb _) _) ⟨by simp, .inr ⟨w.heap.size, 1, #[x], rfl, Nat.zero_le _, heap_alloc_new w _, Nat.le_refl _, by decide, by simp, by simp⟩⟩ (fun g hg => by
    have : w.heap.size = g := by simpa [Value.ownBlock] using hg
    omega)
end
theorem Src.two {w : World} {b : Nat} {x y : Value} (h : w.cell? ⟨b, 0, none⟩ = some x) (h2 : w.cell? ⟨b, 1, none⟩ = some y) : Src w (some ⟨b, 0, none⟩) 2 1 [x, y] := .inr ⟨_, rfl, rfl, fun j u hj => by
    match j, hj with
    | 0, hj => simp at hj; subst hj; rw [add_none]; exact h
    | 1, hj => simp at hj; subst hj; rw [add_none]; exact h2⟩
set_option maxHeartbeats 400000 in
theorem bs_five (a : Act) (w : World) (K : Act → World → Prop) (Q : Exit → Act → World → Prop) (p : String) (h : K (a.put (some 34) (.slice (some ⟨w.heap.size, 0, none⟩) 5 5)) (w.alloc (.cells #[.int .i64 (-1), .int .i64 13, .int .i64 12, .int .i64 0, .int .i64 1] 3))) :
    Oper.wp Tryz.prog {dst := some 34, op := Op.buildSlice 37 5 #[(0, .const (.int .i64 (-1))), (1, .const (.int .i64 13)), (2, .const (.int .i64 12)), (3, .const (.int .i64 0)), (4, .const (.int .i64 1))], type := 37, pos := p, after := #[], guard := none} a w K Q := by
  go_simp
  exact h
/-- The length of the row that lies in a block's second cell. -/
def lenAt1 (w : World) (b : Nat) : Nat := match w.cell? ⟨b, 1, none⟩ with | some (.slice _ n _) => n | _ => 0
theorem lenAt1_of {w : World} {b n c : Nat} {B : Option Addr} (h : w.cell? ⟨b, 1, none⟩ = some (.slice B n c)) : lenAt1 w b = n := by simp [lenAt1, h]
end Go.Proofs.YtbemodacpimiiaaGreat

/- Contract: all clauses over the first variables, in the program. Printed by gen_due.py. -/
namespace Go.Proofs.YtbemodacpimiiaaGreat
open Go.RowKit

theorem sgnK_zero (n : Nat) : sgnK n 0 = [] := rfl
/-- What signings holds: the clauses of now, and the next ones. -/
def SgPost (n : Nat) (w : World) (e : Ending) (w' : World) : Prop := ∃ (B : Option Addr) (c : Nat) (ks K : List (Value × List Int)), e = .returned (.slice B ks.length c) ∧ ks.map Prod.snd = sgnL n ∧ (∀ q ∈ ks, q ∈ K) ∧ Sp w w' [SRow (.slice B ks.length c) ks, IPool K]

set_option maxRecDepth 100000 in
set_option maxHeartbeats 16000000 in
theorem signings_any (n : Nat) (hn : n ≤ 6) (A : Option Addr) (cap : Nat) (w : World) (hx : IntsAt w A ((List.range n).map fun (j : Nat) => (j : Int) + 1)) :
    Calls Tryz.prog 51 #[.slice A n cap] w (SgPost n w) := by
  obtain ⟨i0, hi0, hz0, hz1, hz2⟩ := info_parts infoInt
  obtain ⟨i1, hi1, hy0, hy1, hy2⟩ := info_parts infoRow
  have S0 : Hid (Sp w (w.alloc (.cells #[.slice none 0 0] 37)) [Own 37 1 (.slice (some ⟨w.heap.size, 0, none⟩) 1 1) 1 [.slice none 0 0], IPool [(.slice none 0 0, [])]]) :=
    (((Sp.start w).ipool_nil).ipool_empty).own_new (bal (bb _) _) ⟨by simp, .inr ⟨w.heap.size, 1, #[.slice none 0 0], rfl, Nat.zero_le _, heap_alloc_new w _, Nat.le_refl _, by decide, by simp, by simp⟩⟩ (fun g hg => by
      have : w.heap.size = g := by simpa [Value.ownBlock] using hg
      omega)
  have hX := Lib.hid hx
  clear hx
  go_enter Tryz.func51, Tryz.ntmps51
  go_wp2_with fail
  go_loopw [3, 12] (fun ov i wr => ∃ (v m : Nat) (B : Option Addr) (c : Nat) (ks K : List (Value × List Int)), v ≤ n ∧ i = .int .i64 v ∧ ov = .slice B m c ∧ m ≤ 64 ∧ Hid (ks.length = m) ∧ Hid (ks.map Prod.snd = sgnL v) ∧ Hid (∀ q ∈ ks, q ∈ K) ∧ Hid (Sp w wr [Own 37 1 (.slice B m c) m (ks.map Prod.fst), IPool K])) (fun _ i _ => n - (intOf i).toNat)
  case atStart => exact ⟨0, 1, _, 1, [(.slice none 0 0, [])], _, Nat.zero_le _, rfl, rfl, by decide, rfl, rfl, Lib.hid (fun q h => h), S0⟩
  case round =>
    clear S0
    obtain ⟨v, m, B, c, ks, K, hv, rfl, rfl, hm64, hkm, hks, hsub, HS⟩ := hrel
    by_cases hlt : v < n
    · obtain ⟨b, off, rfl, m0⟩ := (hX.out.grow HS.out.below).at_ v (by simpa using hlt)
      rw [List.getElem_map, List.getElem_range] at m0
      have hvi : (v : Int) < n := by omega
      have hm2 : Hid (m = 2 ^ v) := by unfold Hid; rw [← hkm.out, ← sgnL_len, ← hks.out, List.length_map]
      have hm32 : m ≤ 32 := by
        have : 2 ^ v ≤ 2 ^ 5 := Nat.pow_le_pow_right (by decide) (by omega)
        rw [hm2.out]; omega
      have S1 := Lib.hid (HS.out.own_nil 37 1)
      obtain ⟨x, hx⟩ : ∃ x, (v : Int) + 1 = x := ⟨_, rfl⟩
      rw [hx] at m0
      have hxb : 1 ≤ x ∧ x ≤ 6 := by omega
      have hw : IntKind.i64.wrap (-x) = -x := IntWalk.i64_in _ (by omega)
      replace hx := Lib.hid hx
      clear HS
      go_wp2_with fail
      go_loopw [6, 18] (fun ov i wr => ∃ (j q : Nat) (D : Option Addr) (d : Nat) (ns K : List (Value × List Int)), j ≤ m ∧ i = .int .i64 j ∧ ov = .slice D q d ∧ q = 2 * j ∧ Hid (ns.length = q) ∧ Hid (ns.map Prod.snd = sgnK v j) ∧ Hid (∀ p ∈ ns, p ∈ K) ∧ Hid (∀ p ∈ ks, p ∈ K) ∧ Hid (Sp w wr [IPool K, Own 37 1 (.slice D q d) q (ns.map Prod.fst), Own 37 1 (.slice B m c) m (ks.map Prod.fst)])) (fun _ i _ => m - (intOf i).toNat)
      case atStart => exact ⟨0, 0, none, 0, [], K, Nat.zero_le _, rfl, rfl, rfl, rfl, rfl, Lib.hid (fun p hp => by cases hp), hsub, S1.out.pick [2, 0, 0] rfl⟩
      case round =>
        clear S1 hsub
        obtain ⟨j, q, D, d, ns, K, hj, rfl, rfl, hqj, hnq, hns, hsubn, hsubk, HS⟩ := hrel
        have hq64 : q ≤ 64 := by omega
        replace hqj := Lib.hid hqj
        by_cases hlt2 : j < m
        · have hjk : j < ks.length := by rw [hkm.out]; exact hlt2
          have hji : (j : Int) < m := by omega
          have hown := HS.out.own (i := 2) rfl
          obtain ⟨go, capo, curo, e2, -, hh, -, -, -, ht⟩ := own_block hown (by omega)
          cases e2
          have p0 := (own_at hh ht (o := j) (by omega)).1
          have hmem := hsubk.out ks[j] (List.getElem_mem hjk)
          obtain ⟨E, ec, eE, -⟩ := HS.out.ipool_at (i := 0) rfl _ hmem
          have hrow : ks[j].2 = rowS v j := by
            have : (ks.map Prod.snd)[j]? = (sgnL v)[j]? := by rw [hks.out]
            rw [List.getElem?_map, List.getElem?_eq_getElem hjk, List.getElem?_eq_getElem (by rw [sgnL_len, ← hm2.out]; exact hlt2), sgnL_get] at this
            exact Option.some.inj this
          have hrl := rowS_len v j
          rw [List.getElem?_map, List.getElem?_eq_getElem hjk, Option.map_some, eE, hrow, hrl] at p0
          have hsel : Hid (∀ W, (∀ p ∈ K, IOf W p) → IntsAt W E (rowS v j)) := fun W h => by
            obtain ⟨A', c', e', h'⟩ := h _ hmem
            rw [eE] at e'
            cases e'
            rw [hrow] at h'
            exact h'
          have hns2 : Hid (sgnK v (j + 1) = sgnK v j ++ [rowS v j ++ [x], rowS v j ++ [-x]]) := by unfold Hid; rw [sgnK_succ, hx.out]
          have hok : Hid (∀ y ∈ rowS v j, I64 y) := rowS_ok (by omega)
          clear hown hh ht hmem eE hrow curo
          generalize hR : rowS v j = R at *
          clear hR
          have hcl := Lib.hid (fun W h => cloneD_any E ec R W (hsel.out W h) (by omega))
          rw [hrl] at hcl
          have hrlH := Lib.hid hrl
          clear hrl hsel
          go_wp2_with fail
          refine (hcl.out _ (HS.out.ipool_at (i := 0) rfl)).mono ?_
          rintro e w2 ⟨E2, f2, rfl, U⟩
          have T2 := (HS.out.seq U).alloc_box #[.int .i64 x] 3
          have k0 := T2.cell (i := 0) rfl (o := 0) rfl
          replace T2 := Lib.hid T2
          clear HS U
          go_wp2_with (at_builtin; refine wpList_append_src rfl _ _ rfl Tryz.underlying37 hi0 hz0 hz1 hz2 rfl (by decide) _ v _ rfl (T2.out.own (i := 1) rfl) _ 1 1 [.int .i64 x] rfl (Src.one k0) (by simp [Value.oneCell']) ?c3 ?c4 ?_)
          case c3 => unfold maxLen; omega
          case c4 => omega
          intro vE wE hownE hgE hatE
          have T3 := T2.out.own_push (i := 1) rfl (bb _) hownE hgE (by simpa using hatE)
          obtain ⟨E3, f3, rfl⟩ := own_slice hownE
          have T4 := Lib.hid (T3.pick [1, 1, 1, 1] rfl)
          clear T2 T3 k0 hownE hgE hatE
          go_wp2_with fail
          refine (hcl.out _ (T4.out.ipool_at (i := 1) rfl)).mono ?_
          rintro e w4 ⟨E4, f4, rfl, U⟩
          have T6 := (T4.out.seq U).alloc_box #[.int .i64 (-x)] 3
          have k0 := T6.cell (i := 0) rfl (o := 0) rfl
          replace T6 := Lib.hid T6
          clear T4 U hcl
          go_wp2_with (at_builtin; refine wpList_append_src rfl _ _ rfl Tryz.underlying37 hi0 hz0 hz1 hz2 rfl (by decide) _ v _ rfl (T6.out.own (i := 1) rfl) _ 1 1 [.int .i64 (-x)] rfl (Src.one k0) (by simp [Value.oneCell']) ?c5 ?c6 ?_)
          case c5 => unfold maxLen; omega
          case c6 => omega
          intro vF wF hownF hgF hatF
          have T7 := T6.out.own_push (i := 1) rfl (bb _) hownF hgF (by simpa using hatF)
          obtain ⟨E7, f7, rfl⟩ := own_slice hownF
          have T8 := (T7.pick [1, 1, 1, 1, 1] rfl).alloc_box #[.slice E3 (v + 1) f3, .slice E7 (v + 1) f7] 37
          have k0 := T8.cell (i := 0) rfl (o := 0) rfl
          have k1 := T8.cell (i := 0) rfl (o := 1) rfl
          replace T8 := Lib.hid T8
          clear T6 T7 hownF hgF hatF
          go_wp2_with (at_builtin; refine wpList_append_src rfl _ _ rfl Tryz.underlying43 hi1 hy0 hy1 hy2 rfl (by decide) _ q _ rfl (T8.out.own (i := 4) rfl) _ 2 2 [.slice E3 (v + 1) f3, .slice E7 (v + 1) f7] rfl (Src.two k0 k1) (by simp [Value.oneCell']) ?c7 ?c8 ?_)
          case c7 => unfold maxLen; omega
          case c8 => omega
          intro vG wG hownG hgG hatG
          have T9 := T8.out.own_push (i := 4) rfl (bb _) hownG hgG (by simpa using hatG)
          obtain ⟨E9, f9, rfl⟩ := own_slice hownG
          have hl1 : v + 1 = (R ++ [x]).length := by rw [List.length_append, hrlH.out]; rfl
          have hl2 : v + 1 = (R ++ [-x]).length := by rw [List.length_append, hrlH.out]; rfl
          have hm1 : R.map (Value.int .i64) ++ [.int .i64 x] = (R ++ [x]).map (.int .i64) := by simp
          have hm3 : R.map (Value.int .i64) ++ [.int .i64 (-x)] = (R ++ [-x]).map (.int .i64) := by simp
          have hok1 : ∀ y ∈ R ++ [x], I64 y := fun y hy => by
            rcases List.mem_append.1 hy with h | h
            · exact hok.out y h
            · rw [List.mem_singleton.1 h]; unfold I64; omega
          have hok2 : ∀ y ∈ R ++ [-x], I64 y := fun y hy => by
            rcases List.mem_append.1 hy with h | h
            · exact hok.out y h
            · rw [List.mem_singleton.1 h]; unfold I64; omega
          have TA : Sp w wG [Own 3 1 (.slice E3 (v + 1) f3) (R ++ [x]).length ((R ++ [x]).map (.int .i64)), IPool K, Own 3 1 (.slice E7 (v + 1) f7) (R ++ [-x]).length ((R ++ [-x]).map (.int .i64)), Own 37 1 (.slice E9 (q + 2) f9) (q + 2) (ns.map Prod.fst ++ [.slice E3 (v + 1) f3, .slice E7 (v + 1) f7]), Own 37 1 (.slice (some ⟨go, 0, none⟩) m c) m (ks.map Prod.fst)] := by
            rw [← hl1, ← hl2, ← hm1, ← hm3]
            exact T9.pick [2, 2, 1, 1, 1] rfl
          have TB := (TA.ipool_in hok1).swap.ipool_in hok2
          have hns3 : Hid ((ns ++ [(Value.slice E3 (v + 1) f3, R ++ [x]), (Value.slice E7 (v + 1) f7, R ++ [-x])]).map Prod.snd = sgnK v (j + 1)) := by unfold Hid; rw [hns2.out, List.map_append, hns.out]; rfl
          have hnl : Hid ((ns ++ [(Value.slice E3 (v + 1) f3, R ++ [x]), (Value.slice E7 (v + 1) f7, R ++ [-x])]).length = q + 2) := by unfold Hid; rw [List.length_append, hnq.out]; rfl
          have hsn : Hid (∀ p ∈ ns ++ [(Value.slice E3 (v + 1) f3, R ++ [x]), (Value.slice E7 (v + 1) f7, R ++ [-x])], p ∈ (Value.slice E7 (v + 1) f7, R ++ [-x]) :: (Value.slice E3 (v + 1) f3, R ++ [x]) :: K) := fun p hp => by
            rcases List.mem_append.1 hp with h | h
            · exact List.mem_cons_of_mem _ (List.mem_cons_of_mem _ (hsubn.out p h))
            · simp only [List.mem_cons, List.mem_nil_iff, or_false] at h
              rcases h with rfl | rfl <;> simp
          have hsk : Hid (∀ p ∈ ks, p ∈ (Value.slice E7 (v + 1) f7, R ++ [-x]) :: (Value.slice E3 (v + 1) f3, R ++ [x]) :: K) := fun p hp => List.mem_cons_of_mem _ (List.mem_cons_of_mem _ (hsubk.out p hp))
          have hfs : ns.map Prod.fst ++ [.slice E3 (v + 1) f3, .slice E7 (v + 1) f7] = (ns ++ [(Value.slice E3 (v + 1) f3, R ++ [x]), (Value.slice E7 (v + 1) f7, R ++ [-x])]).map Prod.fst := by simp
          rw [hfs] at TB
          have hq2 : q + 2 = 2 * (j + 1) := by have := hqj.out; omega
          generalize ns ++ [(Value.slice E3 (v + 1) f3, R ++ [x]), (Value.slice E7 (v + 1) f7, R ++ [-x])] = ns2 at *
          generalize (Value.slice E7 (v + 1) f7, R ++ [-x]) :: (Value.slice E3 (v + 1) f3, R ++ [x]) :: K = K2 at *
          replace TB := Lib.hid TB
          replace hq2 := Lib.hid hq2
          clear T8 T9 TA k0 k1 hownG hgG hatG hl1 hl2 hm1 hm3 hok1 hok2 hfs hns hns2 hnq hsubn hsubk
          go_wp2_with fail
          go_roundw
          case rel => exact ⟨j + 1, q + 2, E9, f9, ns2, K2, by omega, by go_num, rfl, hq2.out, hnl, hns3, hsn, hsk, TB⟩
          case measure => simp [intOf]; omega
        · obtain rfl : j = m := by omega
          have hTT := Lib.hid (HS.out.pick [1, 0] rfl)
          have hnn : Hid (ns.map Prod.snd = sgnL (v + 1)) := by unfold Hid; rw [hns.out, hm2.out, sgnK_all]
          have hq2 := hqj.out
          have hq64b : q ≤ 64 := by omega
          clear HS hns hq2
          go_wp2_with fail
          go_roundw
          case rel => exact ⟨v + 1, q, D, d, ns, K, by omega, by go_num, rfl, hq64b, hnq, hnn, hsubn, hTT⟩
          case measure => simp [intOf]; omega
    · obtain rfl : v = n := by omega
      go_wp2_with fail
      go_ret
      refine ⟨B, c, ks, K, by rw [hkm.out]; rfl, hks.out, hsub.out, ?_⟩
      unfold SRow
      rw [hkm.out]
      exact HS.out
end Go.Proofs.YtbemodacpimiiaaGreat

/- Contracts: the first bits of a diagram, on both sides. Printed by gen_duf.py. -/
namespace Go.Proofs.YtbemodacpimiiaaGreat
open Go.RowKit
set_option maxRecDepth 100000 in
set_option maxHeartbeats 4000000 in
theorem upToD_any (n : Nat) (hn : n ≤ 1000) (w : World) :
    Calls Tryz.prog 52 #[.int .i64 n] w fun e w' => ∃ B c, e = .returned (.slice B n c) ∧ Sp w w' [Own 3 1 (.slice B n c) n ((List.range n).map fun (j : Nat) => .int .i64 ((j : Int) + 1))] := by
  have S0 := Lib.hid ((Sp.start w).own_nil 3 1)
  obtain ⟨i0, hi, hz0, hz1, hz2⟩ := info_parts infoInt
  go_enter Tryz.func52, Tryz.ntmps52
  go_wp2_with fail
  go_loopw [3, 4] (fun vo vi wr => ∃ (k : Nat) (v : Int) (B : Option Addr) (cc : Nat), k ≤ n ∧ vi = .int .i64 v ∧ Hid (v = (k : Int) + 1) ∧ vo = .slice B k cc ∧ Hid (Sp w wr [Own 3 1 (.slice B k cc) k ((List.range k).map fun (j : Nat) => .int .i64 ((j : Int) + 1))])) (fun _ vi _ => n + 1 - (intOf vi).toNat)
  case atStart => exact ⟨0, 1, _, _, Nat.zero_le _, rfl, rfl, rfl, S0⟩
  case round =>
    obtain ⟨k, v, B, cc, hk, rfl, hve, rfl, HS⟩ := hrel
    clear S0
    have hve' := hve.out
    by_cases hlt : k < n
    · have hle : v ≤ (n : Int) := by omega
      have hw4 : IntKind.i64.wrap (v + 1) = v + 1 := by rw [IntWalk.i64_in _ (by omega)]
      have hk12 : k ≤ 1000 := by omega
      have hsn : Hid (((List.range (k + 1)).map fun (j : Nat) => Value.int .i64 ((j : Int) + 1)) = ((List.range k).map fun (j : Nat) => Value.int .i64 ((j : Int) + 1)) ++ [.int .i64 v]) := by
        unfold Hid; rw [List.range_succ, List.map_append, hve']; rfl
      clear hve'
      have S2 := HS.out.alloc_box #[.int .i64 v] 3
      have kB := S2.cell (i := 0) rfl (o := 0) rfl
      replace S2 := Lib.hid S2
      clear HS
      go_wp2_with (at_builtin; refine wpList_append_src rfl _ _ rfl Tryz.underlying37 hi hz0 hz1 hz2 rfl (by decide) _ _ _ rfl (S2.out.own (i := 1) rfl) _ 1 1 [.int .i64 v] rfl (Src.one kB) (by simp [Value.oneCell']) ?c3 ?c4 ?_)
      case c3 => unfold maxLen; omega
      case c4 => omega
      intro vY wY hownY hgY hatY
      have S4 := (S2.out.own_push (i := 1) rfl (bb _) hownY hgY (by simpa using hatY)).tail
      obtain ⟨aY, cY, rfl⟩ := own_slice hownY
      have HS3 : Hid (Sp w wY [Own 3 1 (.slice aY (k + 1) cY) (k + 1) ((List.range (k + 1)).map fun (j : Nat) => .int .i64 ((j : Int) + 1))]) := by
        unfold Hid; rw [hsn.out]; exact S4
      clear S2 S4 kB hownY hgY hatY hsn
      go_wp2_with fail
      go_roundw
      case rel => exact ⟨k + 1, v + 1, aY, cY, by omega, rfl, by have := hve.out; unfold Hid; omega, rfl, HS3⟩
      case measure => have := hve.out; simp [intOf]; omega
    · obtain rfl : k = n := by omega
      have hgt : ¬ v ≤ (k : Int) := by omega
      clear hve'
      go_wp2_with fail
      go_ret
      exact ⟨B, cc, rfl, HS.out⟩

theorem or_natD (a b : Nat) (ha : a < 2 ^ 62) (hb : b < 2 ^ 62) : bits .or .i64 (a : Int) (b : Int) = ((a ||| b : Nat) : Int) := by
  have h := bits_nat .i64 62 (by decide) (fun n h0 h1 => by rw [IntKind.wrap_i64]; have : (2 : Int) ^ 62 = 4611686018427387904 := by decide
                                                            omega) a b ha hb
  exact h.2
theorem mod_nextD (b k : Nat) : b % 2 ^ (k + 1) = if b.testBit k then (b % 2 ^ k) ||| 2 ^ k else b % 2 ^ k := by
  rw [Nat.mod_pow_succ, Nat.testBit_eq_decide_div_mod_eq]
  have h : b % 2 ^ k < 2 ^ k := Nat.mod_lt _ (Nat.two_pow_pos k)
  have h3 : b / 2 ^ k % 2 < 2 := Nat.mod_lt _ (by decide)
  by_cases h1 : b / 2 ^ k % 2 = 1
  · rw [h1, decide_eq_true rfl, if_pos rfl, Nat.mul_one]
    have h2 := Nat.two_pow_add_eq_or_of_lt h 1
    rw [Nat.mul_one] at h2
    rw [Nat.or_comm, ← h2, Nat.add_comm]
  · have h4 : b / 2 ^ k % 2 = 0 := by omega
    rw [h4]
    simp

set_option maxRecDepth 100000 in
set_option maxHeartbeats 4000000 in
theorem bitsOfD_any (n b : Nat) (hn : n ≤ 12) (hb : b < 2 ^ n) (A : Option Addr) (cap : Nat) (w : World) (hx : IntsAt w A (totB n b)) :
    Calls Tryz.prog 54 #[.slice A n cap] w fun e w' => e = .returned (.int .i64 b) ∧ w = w' := by
  have hX := Lib.hid hx
  have hlen := Lib.hid (tot_len n b)
  have hfin : Hid (b % 2 ^ n = b) := Lib.hid (Nat.mod_eq_of_lt hb)
  have h0 : Hid (b % 2 ^ 0 = 0) := Lib.hid (by simp [Nat.mod_one])
  have hlt : Hid (∀ k, k ≤ 12 → b % 2 ^ k < 4096) := fun k hk => Nat.lt_of_lt_of_le (Nat.mod_lt _ (Nat.two_pow_pos k)) (Nat.le_trans (Nat.pow_le_pow_right (by decide : 0 < 2) hk) (by decide))
  clear hx hb
  go_enter Tryz.func54, Tryz.ntmps54
  go_wp2_with fail
  go_loopw [3, 5, 8] (fun v3 _ v8 wr => ∃ (k x : Nat), k ≤ n ∧ v8 = .int .i64 k ∧ v3 = .int .i64 x ∧ Hid (b % 2 ^ k = x) ∧ wr = w) (fun _ _ v8 _ => n - (intOf v8).toNat)
  case atStart => exact ⟨0, 0, Nat.zero_le _, rfl, rfl, h0, rfl⟩
  case round =>
    obtain ⟨k, x, hk, rfl, rfl, hx, rfl⟩ := hrel
    by_cases hlt2 : k < n
    · obtain ⟨db, doff, rfl, m0⟩ := hX.out.at_ k (by rw [hlen.out]; exact hlt2)
      have hk12 : k ≤ 12 := by omega
      obtain ⟨hsh, hp⟩ := pow12 (v := k) hk12
      have hti : (totB n b)[k]'(by rw [hlen.out]; exact hlt2) = totI b k := by simp [totB]
      rw [hti] at m0
      have hxl : x < 4096 := by rw [← hx.out]; exact hlt.out k hk12
      have hnx := mod_nextD b k
      rw [hx.out] at hnx
      obtain ⟨y, hy⟩ : ∃ y, b % 2 ^ (k + 1) = y := ⟨_, rfl⟩
      rw [hy] at hnx
      replace hy := Lib.hid hy
      have hor := or_natD x (2 ^ k) (by omega) (by omega)
      obtain ⟨P, hP⟩ : ∃ P, 2 ^ k = P := ⟨_, rfl⟩
      rw [hP] at hsh hnx hor
      clear hti hx hP hp
      unfold totI at m0
      cases hq : b.testBit k
      · rw [hq] at m0 hnx
        simp only [Bool.false_eq_true, if_false] at m0 hnx
        subst hnx
        obtain ⟨l, hl⟩ : ∃ l : Int, -((k : Int) + 1) = l := ⟨_, rfl⟩
        rw [hl] at m0
        have hneg : decide ((0 : Int) < l) = false := decide_eq_false (by omega)
        clear hl hsh hor hq
        go_wp2_with fail
        go_roundw
        case rel => exact ⟨k + 1, y, by omega, by go_num, rfl, hy, by first | rfl | trivial⟩
        case measure => simp [intOf]; omega
      · rw [hq] at m0 hnx
        simp only [if_true] at m0 hnx
        rw [← hnx] at hor
        obtain ⟨l, hl⟩ : ∃ l : Int, (k : Int) + 1 = l := ⟨_, rfl⟩
        rw [hl] at m0
        have hpos : decide ((0 : Int) < l) = true := decide_eq_true (by omega)
        have hw1 : IntKind.i64.wrap (l - 1) = (k : Int) := by rw [IntWalk.i64_in _ (by omega)]; omega
        have hk0 : (0 : Int) ≤ (k : Int) := by omega
        clear hl hnx hq
        go_wp2_with fail
        go_roundw
        case rel => exact ⟨k + 1, y, by omega, by go_num, rfl, hy, by first | rfl | trivial⟩
        case measure => simp [intOf]; omega
    · obtain rfl : k = n := by omega
      have hxb : Hid (x = b) := by unfold Hid; rw [← hx.out]; exact hfin.out
      clear hx hfin
      go_wp2_with fail
      go_ret
      exact ⟨by first | (rw [hxb.out]; rfl) | rw [hxb.out], rfl⟩

def outFB (ok : Bool) (vars : Int) (f : Nat → Bool) : Bool := ok && firstB vars.toNat f
def outF (ok : Bool) (vars : Int) (f : Nat → Bool) : List Int := if ok then firstL vars.toNat f else []
/-- Literals and whether there are any. -/
def FrTold (w : World) (q : Bool) (L : List Int) (e : Ending) (w' : World) : Prop := ∃ (B : Option Addr) (c : Nat), e = .returned (.tuple #[.slice B L.length c, .bool q]) ∧ IntsAt w' B L ∧ Below w.heap.size w w'
theorem tot_small {n b : Nat} (hn : n ≤ 12) : ∀ x ∈ totB n b, I64 x := tot_ok n b (by omega)

set_option maxRecDepth 100000 in
set_option maxHeartbeats 8000000 in
theorem first_any (vars r : Int) (A : Option Addr) (c : Nat) (ns : List Nd) (w : World) (hx : NdAt w A ns) (hl : ns.length ≤ 1000000) :
    Calls Tryz.prog 15 #[.int .i64 vars, dgV r (.slice A ns.length c)] w (FrTold w (outFB (goodD vars r ns) vars (valD r ns)) (outF (goodD vars r ns) vars (valD r ns))) := by
  have S0 := (Sp.start w).alloc_box #[.int .i64 r, .slice A ns.length c] 26
  have hcall := Lib.hid (isDiagram_any vars r A c ns _ (hx.grow S0.below) hl)
  replace hx := Lib.hid hx
  replace S0 := Lib.hid S0
  cases h1 : goodD vars r ns
  · rw [h1] at hcall
    go_enter Tryz.func15, Tryz.ntmps15
    go_wp2_with fail
    refine hcall.out.mono ?_
    rintro e w1 ⟨rfl, hb1⟩
    have hB := (S0.out.grow hb1).below
    clear S0 hcall hb1
    go_wp2_with fail
    go_ret2
    exact ⟨none, 0, rfl, .nil _ _, hB⟩
  have g1 := good_parts h1
  rw [h1] at hcall
  obtain ⟨n, rfl⟩ := Int.eq_ofNat_of_zero_le g1.1.1
  have hn : n ≤ 6 := by omega
  have hva := Lib.hid (fun b W (hb : b < 2 ^ n) (hbW : Below w.heap.size w W) => valueAt_any r b A c ns W (hx.out.grow hbW) hl g1.2.2.2 g1.2.2.1.1 g1.2.2.1.2 (pow62 (by omega) hb))
  have hF : Hid (outF true (n : Int) (valD r ns) = firstL n (valD r ns)) := rfl
  have hFB : Hid (outFB true (n : Int) (valD r ns) = firstB n (valD r ns)) := by unfold Hid outFB; rw [Int.toNat_natCast, Bool.true_and]
  rw [hF.out, hFB.out]
  clear g1 hx hF hFB
  generalize valD r ns = f at *
  obtain ⟨N, hN⟩ : ∃ N, 2 ^ n = N := ⟨_, rfl⟩
  have hsl : Hid ((sgnL n).length = N) := by unfold Hid; rw [sgnL_len, hN]
  replace hN := Lib.hid hN
  go_enter Tryz.func15, Tryz.ntmps15
  go_wp2_with fail
  refine hcall.out.mono ?_
  rintro e w1 ⟨rfl, hb1⟩
  have S1 := Lib.hid (S0.out.grow hb1)
  clear S0 hcall hb1
  go_wp2_with fail
  refine (upToD_any n (by omega) _).mono ?_
  rintro e w2 ⟨U, uc, rfl, T2⟩
  have hU : ∃ A c, Value.slice U n uc = .slice A ((List.range n).map fun (j : Nat) => (j : Int) + 1).length c ∧ IntsAt w2 A ((List.range n).map fun (j : Nat) => (j : Int) + 1) := by
    refine ints_own (B := 0) (e := 3) ?_ (fun x hx => by
      obtain ⟨j, hj, rfl⟩ := List.mem_map.1 hx
      have := List.mem_range.1 hj
      unfold I64; omega)
    have ho := T2.own (i := 0) rfl
    rw [show (List.range n).map (fun (j : Nat) => Value.int .i64 ((j : Int) + 1)) = ((List.range n).map fun (j : Nat) => (j : Int) + 1).map (.int .i64) by rw [List.map_map]; rfl] at ho
    simpa using ho
  obtain ⟨U', uc', e2, hU⟩ := hU
  rw [List.length_map, List.length_range] at e2
  cases e2
  have S2 := Lib.hid (S1.out.grow T2.below)
  have hsg := Lib.hid (signings_any n hn U uc w2 hU)
  clear S1 T2 hU
  go_wp2_with fail
  refine hsg.out.mono ?_
  rintro e w3 ⟨B, bc, ks, K, rfl, hks, hsub, T3⟩
  have S3 := S2.out.grow T3.below
  obtain ⟨_, _, e3, hC⟩ := cls_own (T3.own (i := 0) rfl) (fun p hp => T3.ipool_at (i := 1) rfl p (hsub p hp))
  cases e3
  rw [hks] at hC
  have hkl : ks.length = N := by rw [← hsl.out, ← hks, List.length_map]
  rw [hkl]
  replace hC := Lib.hid hC
  have hN64 : N ≤ 64 := by rw [← hN.out]; exact (pow_small hn).2
  have d0 := Lib.hid (S3.cell (i := 0) rfl (o := 0) rfl)
  have d1 := Lib.hid (S3.cell (i := 0) rfl (o := 1) rfl)
  have hB3 := Lib.hid S3.below
  clear S2 S3 T3 hsg hks hsub hkl
  go_wp2_with fail
  go_loopw [17] (fun i wr => ∃ k : Nat, k ≤ N ∧ i = .int .i64 (k : Int) ∧ Hid (∀ e, e < k → f (revB n e) = false) ∧ Hid (Below w3.heap.size w3 wr)) (fun i _ => N - (intOf i).toNat)
  case atStart => exact ⟨0, Nat.zero_le _, rfl, Lib.hid (fun e he => absurd he (by omega)), Lib.hid (bb _)⟩
  case round =>
    obtain ⟨k, hk, rfl, hno, hbr⟩ := hrel
    by_cases hlt : k < N
    · obtain ⟨b, off, E, ec, rfl, m0, hI⟩ := (hC.out.grow hbr.out).at_ k (by rw [hsl.out]; exact hlt)
      rw [sgnL_get] at m0 hI
      rw [rowS_len] at m0
      have hki : (k : Int) < N := by omega
      have hneg := negated_any (rowS n k) E ec wr hI (by rw [rowS_len]; omega) (fun x hx => by
        unfold rowS at hx
        obtain ⟨j, hj, rfl⟩ := List.mem_map.1 hx
        have := List.mem_range.1 hj
        split <;> omega)
      rw [rowS_neg, rowS_len] at hneg
      have hrb : revB n k < 2 ^ n := revB_lt n k
      have hval := Lib.hid (fun W hbW => hva.out (revB n k) W hrb hbW)
      have hbo := Lib.hid (fun D dc W h => bitsOfD_any n (revB n k) (by omega) hrb D dc W h)
      replace hrb := Lib.hid hrb
      replace hneg := Lib.hid hneg
      have hyes := Lib.hid (fun h => first_some (n := n) (c := k) (f := f) (by rw [hN.out]; exact hlt) hno.out h)
      have hnext : Hid (f (revB n k) = false → ∀ e, e < k + 1 → f (revB n e) = false) := fun h e he => by
        rcases Nat.lt_succ_iff_lt_or_eq.1 he with h2 | h2
        · exact hno.out e h2
        · rw [h2]; exact h
      clear hI
      go_wp2_with fail
      refine hneg.out.mono ?_
      rintro e w4 ⟨D, dc, rfl, T4⟩
      have hown := T4.own (i := 0) rfl
      have htl := tot_len n (revB n k)
      have hown2 : w4.ownsRow 0 3 1 (.slice D n dc) (totB n (revB n k)).length ((totB n (revB n k)).map (.int .i64)) := by rw [htl]; exact hown
      obtain ⟨_, _, e4, hT⟩ := ints_own hown2 (tot_small (by omega))
      rw [htl] at e4
      cases e4
      have hb4 := Lib.hid (btr hbr.out T4.below)
      have hbo2 := Lib.hid (fun W (h : Below w4.heap.size w4 W) => hbo.out D dc W (hT.grow h))
      have hval2 := Lib.hid (fun W (h : Below w4.heap.size w4 W) => hval.out W (btr hB3.out (btr hb4.out h)))
      have kk0 := cell_regrown (((bcell hb4.out).1 _ _ (World.block_lt_of_cell? _ _ d0.out)).trans d0.out)
      have kk1 := cell_regrown (((bcell hb4.out).1 _ _ (World.block_lt_of_cell? _ _ d1.out)).trans d1.out)
      replace hT := Lib.hid hT
      replace htl := Lib.hid htl
      generalize hq : f (revB n k) = q at *
      generalize revB n k = bits at *
      clear hown hown2 T4 hneg hbo hval m0
      go_wp2_with fail
      refine wp_region_quiet_below (by kernel_rfl) (by kernel_rfl) ?_
      repeat (any_goals (go_big_quiet_step (first | (go_at_call 54; exact Calls.regrown_of ((hbo2.out _ (below_regrown _ _ _)).mono fun e w' h => ⟨h.1, h.2 ▸ bb _⟩)) | (go_at_call 43; exact Calls.regrown_of (hval2.out _ (below_regrown _ _ _))))))
      refine wpQuiet_nil ?_
      rintro w5 ⟨p, rfl⟩
      have hb5 := below_regrown w4 p.d p.os
      cases q
      · have hno2 := Lib.hid (hnext.out rfl)
        have hb6 := Lib.hid (btr hb4.out hb5)
        clear hyes hnext hbo2 hval2 kk0 kk1 hT hb4 hb5 hbr hno
        go_wp2_with fail
        go_roundw
        case rel => exact ⟨k + 1, by omega, by go_num, hno2, hb6⟩
        case measure => simp [intOf]; omega
      · obtain ⟨y1, y2⟩ := hyes.out rfl
        have hT2 := Lib.hid (hT.out.grow hb5)
        have hb6 := Lib.hid (btr hB3.out (btr hb4.out hb5))
        replace y1 := Lib.hid y1
        replace y2 := Lib.hid y2
        clear hyes hnext hbo2 hval2 kk0 kk1 hT hb4 hb5 hbr hno
        go_wp2_with fail
        go_ret2
        exact ⟨D, dc, by rw [y1.out, y2.out, htl.out]; rfl, by rw [y2.out]; exact hT2.out, hb6.out⟩
    · obtain rfl : k = N := by omega
      obtain ⟨y1, y2⟩ := first_none (n := n) (f := f) (fun e he => hno.out e (by rw [← hN.out]; exact he))
      have hb6 := btr hB3.out hbr.out
      replace y1 := Lib.hid y1
      replace y2 := Lib.hid y2
      clear hno hbr
      go_wp2_with fail
      go_ret2
      exact ⟨none, 0, by rw [y1.out, y2.out]; rfl, by rw [y2.out]; exact .nil _ _, hb6⟩
end Go.Proofs.YtbemodacpimiiaaGreat

/- Contracts: numbers of variables and literals that are drawn. -/
namespace Go.Proofs.YtbemodacpimiiaaGreat
open Go.RowKit

set_option maxRecDepth 100000 in
set_option maxHeartbeats 4000000 in
theorem cur_vars26 (A g : Nat) (ca : Option Addr) (cl cc : Nat) (w : World) (h : CurIs A g ca cl cc w) (hA : A ≤ 80000000) :
    Calls Tryz.prog 67 #[.pointer (some ⟨g, 0, none⟩)] w (CurPost (IntIn (-1) 7) (A + 4) g ca cl cc w) := by
  have hg := h.lt
  have S0 := Lib.hid ((CS.start h).alloc_box #[.int .i64 2, .int .i64 3, .int .i64 3, .int .i64 4, .int .i64 1, .int .i64 0, .int .i64 6, .int .i64 7, .int .i64 (-1)] 3)
  go_enter Tryz.func67, Tryz.ntmps67
  go_wp2_with fail
  refine (cur_pick_at (lo := 0) (hi := 23) S0.out.cur (by omega) (by omega) (by omega) (by omega) (by omega)).mono ?_
  rintro e w1 ⟨_, ⟨x, hx0, hx1, rfl⟩, rfl, hi1, hc1⟩
  have S1 := Lib.hid (S0.out.turn hi1 hc1)
  have hcell : ∀ j, j < 9 → ∃ x, (-1 : Int) ≤ x ∧ x ≤ 7 ∧ w1.cell? ⟨w.heap.size, 0 + j, none⟩ = some (.int .i64 x) := fun j hj => by
    rw [Nat.zero_add]
    match j, hj with
    | 0, _ => exact ⟨_, by decide, by decide, S1.out.cell (i := 0) rfl rfl⟩
    | 1, _ => exact ⟨_, by decide, by decide, S1.out.cell (i := 0) rfl rfl⟩
    | 2, _ => exact ⟨_, by decide, by decide, S1.out.cell (i := 0) rfl rfl⟩
    | 3, _ => exact ⟨_, by decide, by decide, S1.out.cell (i := 0) rfl rfl⟩
    | 4, _ => exact ⟨_, by decide, by decide, S1.out.cell (i := 0) rfl rfl⟩
    | 5, _ => exact ⟨_, by decide, by decide, S1.out.cell (i := 0) rfl rfl⟩
    | 6, _ => exact ⟨_, by decide, by decide, S1.out.cell (i := 0) rfl rfl⟩
    | 7, _ => exact ⟨_, by decide, by decide, S1.out.cell (i := 0) rfl rfl⟩
    | 8, _ => exact ⟨_, by decide, by decide, S1.out.cell (i := 0) rfl rfl⟩
  replace hcell := Lib.hid hcell
  clear S0 hc1
  obtain ⟨k, hk, hkx⟩ : ∃ k : Nat, k ≤ 2 ∧ x.tdiv 11 = (k : Int) := ⟨(x / 11).toNat, by omega, by rw [Int.tdiv_eq_ediv_of_nonneg hx0]; omega⟩
  have hq : ∀ m, 7 ≤ m → m ≤ 9 → Calls Tryz.prog 59 #[.pointer (some ⟨g, 0, none⟩), .slice (some ⟨w.heap.size, 0, none⟩) m 9] w1 (CurPost (IntIn (-1) 7) (A + 2 + 2) g ca cl cc w1) := fun m h1 h2 =>
    cur_among (-1) 7 w.heap.size 0 m 9 (A + 2) g ca cl cc w1 hi1 (by omega) (by omega) (by omega) (fun j hj => hcell.out j (by omega)) (by omega)
  replace hq := Lib.hid hq
  clear hi1
  have hk3 : k = 0 ∨ k = 1 ∨ k = 2 := by omega
  rcases hk3 with rfl | rfl | rfl
  all_goals
    go_wp2_with fail
    refine (hq.out _ (by decide) (by decide)).mono ?_
    rintro e w2 ⟨_, ⟨z, hz0, hz1, rfl⟩, rfl, hi2, hc2⟩
    have S2 := S1.out.turn hi2 hc2
    have hC := S2.chg
    clear S1 S2 hc2 hq hcell
    go_wp2_with fail
    go_ret
    exact ⟨_, ⟨z, hz0, hz1, rfl⟩, rfl, hi2, hC⟩

theorem lit_three {w1 : World} {vars : Int} {g A cl cc : Nat} {ca : Option Addr} (h : CurIs A g ca cl cc w1) (hv : -1 ≤ vars ∧ vars ≤ 7) (hA : A ≤ 80000000) :
    Calls Tryz.prog 59 #[.pointer (some ⟨g, 0, none⟩), .slice (some ⟨w1.heap.size, 0, none⟩) 3 3] (w1.alloc (.cells #[.int .i64 0, .int .i64 (vars + 1), .int .i64 (-vars - 1)] 3)) (CurPost (IntIn (-8) 8) (A + 2) g ca cl cc (w1.alloc (.cells #[.int .i64 0, .int .i64 (vars + 1), .int .i64 (-vars - 1)] 3))) := by
  have hg := h.lt
  refine cur_among (-8) 8 w1.heap.size 0 3 3 A g ca cl cc _ (h.grow (bal (bb _) _)) (by omega) (by decide) (by decide) (ints_new rfl fun j hj => ?_) (by omega)
  match j, hj with
  | 0, _ => exact ⟨_, rfl, by decide, by decide⟩
  | 1, _ => exact ⟨_, rfl, by omega, by omega⟩
  | 2, _ => exact ⟨_, rfl, by omega, by omega⟩

set_option maxRecDepth 100000 in
set_option maxHeartbeats 4000000 in
theorem cur_lit (vars : Int) (hv : -1 ≤ vars ∧ vars ≤ 7) (A g : Nat) (ca : Option Addr) (cl cc : Nat) (w : World) (h : CurIs A g ca cl cc w) (hA : A ≤ 70000000) :
    Calls Tryz.prog 113 #[.pointer (some ⟨g, 0, none⟩), .int .i64 vars] w (CurPost (IntIn (-8) 8) (A + 8) g ca cl cc w) := by
  have hg := h.lt
  have w1' : IntKind.i64.wrap (vars + 1) = vars + 1 := IntWalk.i64_in _ (by omega)
  have w2' : IntKind.i64.wrap (-vars) = -vars := IntWalk.i64_in _ (by omega)
  have w3' : IntKind.i64.wrap (-vars - 1) = -vars - 1 := IntWalk.i64_in _ (by omega)
  have S0 := Lib.hid (CS.start h)
  by_cases hlt : vars < 1
  · have hcall := Lib.hid (lit_three h hv (by omega))
    go_enter Tryz.func113, Tryz.ntmps113
    go_wp2_with fail
    refine hcall.out.mono ?_
    rintro e w2 ⟨_, ⟨z, hz0, hz1, rfl⟩, rfl, hi2, hc2⟩
    have hC := ((S0.out.alloc _).turn hi2 hc2).chg
    clear S0 hc2 hcall
    go_wp2_with fail
    go_ret
    exact ⟨_, ⟨z, hz0, hz1, rfl⟩, rfl, hi2.mono (by omega), hC⟩
  · go_enter Tryz.func113, Tryz.ntmps113
    go_wp2_with fail
    refine (cur_one 40 A g ca cl cc w h (by omega) (by omega)).mono ?_
    rintro e w1 ⟨_, ⟨q, rfl⟩, rfl, hi1, hc1⟩
    have S1 := Lib.hid (S0.out.turn hi1 hc1)
    have hg1 := hi1.lt
    clear S0 hc1
    cases q
    · go_wp2_with fail
      refine (cur_pick_at (lo := 0) (hi := vars - 1) hi1 (by omega) (by omega) (by omega) (by omega) (by omega)).mono ?_
      rintro e w2 ⟨_, ⟨x, hx0, hx1, rfl⟩, rfl, hi2, hc2⟩
      have S2 := Lib.hid (S1.out.turn hi2 hc2)
      have w4 : IntKind.i64.wrap (1 + x) = 1 + x := IntWalk.i64_in _ (by omega)
      have w5 : IntKind.i64.wrap (-(1 + x)) = -(1 + x) := IntWalk.i64_in _ (by omega)
      clear S1 hc2
      go_wp2_with fail
      refine (cur_one 2 _ g ca cl cc _ hi2 (by omega) (by omega)).mono ?_
      rintro e w3 ⟨_, ⟨q, rfl⟩, rfl, hi3, hc3⟩
      have hC := (S2.out.turn hi3 hc3).chg
      clear S2 hc3
      cases q
      · go_wp2_with fail
        go_ret
        exact ⟨_, ⟨1 + x, by omega, by omega, rfl⟩, rfl, hi3.mono (by omega), hC⟩
      · go_wp2_with fail
        go_ret
        exact ⟨_, ⟨-(1 + x), by omega, by omega, rfl⟩, rfl, hi3.mono (by omega), hC⟩
    · have hcall := Lib.hid (lit_three hi1 hv (by omega))
      go_wp2_with fail
      refine hcall.out.mono ?_
      rintro e w2 ⟨_, ⟨z, hz0, hz1, rfl⟩, rfl, hi2, hc2⟩
      have hC := ((S1.out.alloc _).turn hi2 hc2).chg
      clear S1 hc2 hcall
      go_wp2_with fail
      go_ret
      exact ⟨_, ⟨z, hz0, hz1, rfl⟩, rfl, hi2.mono (by omega), hC⟩
end Go.Proofs.YtbemodacpimiiaaGreat
