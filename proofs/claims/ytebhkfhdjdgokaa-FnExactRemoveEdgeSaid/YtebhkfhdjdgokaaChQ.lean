/- Contracts: an edge is removed. -/
import Derived.Test.YtebhkfhdjdgokaaChP
import Derived.Test.YtebhkfhdjdgokaaChO
import Derived.Deep.RegionLaw
import Derived.Lib.SliceRun
import Derived.Laws.IdiomCopy
namespace Go.Proofs.Ytebhkfhdjdgokaa
open Go.RowKit

theorem Chg.setCells {F : List Nat} {a : World} {b : Nat} (hb : b ∈ F) : ∀ (vs : List Value) (o : Nat) {w : World}, Chg F a w → Chg F a (w.setCells b o vs)
  | [], _, _, h => h
  | v :: r, o, _, h => Chg.setCells hb r (o + 1) (h.set (p := ⟨b, o, none⟩) hb v)
theorem cellIs.of_get {wr : Bool} {w : World} {b o : Nat} {u v : Value} (h : cellIs wr w b o u) (e : u = v) : cellIs wr w b o v := e ▸ h
/-- What stands behind a piece moves over it; the end is overwritten. -/
theorem drop_cells {w : World} {b o : Nat} {pre mid news z : List Value} (h : ∀ j (hj : j < (pre ++ mid ++ news).length), cellIs true w b (o + j) (pre ++ mid ++ news)[j]) :
    ∀ j (hj : j < (pre ++ news).length), cellIs true ((w.setCells b (o + pre.length) news).setCells b (o + (pre.length + news.length)) z) b (o + j) (pre ++ news)[j] := by
  intro j hj
  have hl : (pre ++ mid ++ news).length = pre.length + mid.length + news.length := by simp; omega
  have hl2 : (pre ++ news).length = pre.length + news.length := by simp
  have hc := h j (by omega)
  refine ⟨?_, fun _ => by rw [World.frozen?_setCells, World.frozen?_setCells]; exact hc.2 rfl⟩
  rw [World.cell?_setCells_out _ _ _ _ _ (fun _ _ => .inl (by show o + j < _; omega))]
  by_cases hlt : j < pre.length
  · rw [World.cell?_setCells_out _ _ _ _ _ (fun _ _ => .inl (by show o + j < _; omega)), hc.1]
    rw [List.getElem_append_left (show j < (pre ++ mid).length by simp; omega), List.getElem_append_left hlt, List.getElem_append_left hlt]
  · obtain ⟨i, rfl⟩ : ∃ i, j = pre.length + i := ⟨j - pre.length, by omega⟩
    rw [← Nat.add_assoc, World.cell?_setCells_in b news (o + pre.length) w (fun i hi => by
      rw [Nat.add_assoc, (h (pre.length + i) (by omega)).1]; rfl) i (by omega)]
    rw [List.getElem_append_right (by omega)]
    simp

theorem run_clear_pair {P : Program} (w : World) (t e ty : TypeId) (z : Value) (u0 u1 : Value) (ht : P.underlying t = some (.slice e)) (hv : ∀ w, (zeroValue e).run P w = .ok z w) (hz : z.cells = #[u0, u1]) (h1 : u0.oneCell' = true) (h2 : u1.oneCell' = true) (b o c : Nat)
    (hc : ∀ j, j < 2 → (w.cell? ⟨b, o + j, none⟩).isSome = true) (hf : ∀ j, j < 2 → w.frozen? ⟨b, o + j, none⟩ = false) :
    (Builtin.clear_ #[t] ty #[.slice (some ⟨b, o, none⟩) 1 c]).run P w = .ok (.tuple #[]) (w.setCells b o [u0, u1]) := by
  have hzc : (Builtin.zeroCells z.cells 1).toList = [u0, u1] := by
    rw [hz]
    simp [Builtin.zeroCells, Array.range, Array.ofFn]
    try rfl
  have hst := run_storeCells_cells (P := P) b o [u0, u1] 0 w (by simpa using hc) (by simpa using hf) (by intro v hv'; simp at hv'; rcases hv' with rfl | rfl <;> assumption)
  simp only [Nat.add_zero] at hst
  simp [Builtin.clear_, run_underlying ht, hv, hzc, hst]

theorem zeroPair (w : World) : (zeroValue 85).run Try.prog w = .ok (.agg #[.int .i64 0, .int .i64 0]) w := by kernel_rfl

/-- A row that shrank. -/
def DelPost (F : List Nat) (b o n c : Nat) (ys : List (Int × Int)) (w : World) (e : Ending) (w' : World) : Prop :=
  e = .returned (.slice (some ⟨b, o, none⟩) n c) ∧ ∃ F', tmTy.row true w' (.slice (some ⟨b, o, none⟩) n c) ys F' ∧ F'.Nodup ∧ (∀ x ∈ F', x ∈ F) ∧ Chg F w w'

theorem wp_append_room {P : Program} {w : World} {o : Oper} {a : Act} {K : Act → World → Prop} {Q : Exit → Act → World → Prop} (s x : Operand) (t : TypeId) (hop : o.op = .call { callee := .builtin .append, args := #[s, x], argTypes := #[t, t] })
    (e : TypeId) (i : TypeInfo) (size : Nat) (h1 : P.underlying t = some (.slice e)) (h2 : P.info? e = some i) (h4 : i.size = size)
    (b off n cap : Nat) (hs : a.eval s = .slice (some ⟨b, off, none⟩) n cap)
    (ad : Addr) (m c : Nat) (news : List Value) (hx : a.eval x = .slice (some ad) m c) (hn : news.length = m * size) (hc : ∀ j u, news[j]? = some u → w.cell? (ad.add j) = some u) (h1c : ∀ u ∈ news, u.oneCell' = true)
    (hroom : n + m ≤ cap) (hspare : ∀ j, j < news.length → (w.cell? ⟨b, off + n * size + j, none⟩).isSome = true ∧ w.frozen? ⟨b, off + n * size + j, none⟩ = false)
    (hK : K (a.put o.dst (.slice (some ⟨b, off, none⟩) (n + m) cap)) (w.setCells b (off + n * size) news)) : o.wp P a w K Q := by
  subst h4
  have hrun := run_append_room_cells (P := P) w t o.type e i h1 h2 b off n cap ad m c news hn hc h1c hroom (fun j hj => (hspare j hj).1) (fun j hj => (hspare j hj).2)
  unfold Oper.wp
  simp [execOp, hop, resolve, invoke, builtin, hs, hx, hrun, Result.andThen]
  exact hK

set_option maxRecDepth 100000 in
set_option maxHeartbeats 2000000 in
theorem delPair_any (b o c k : Nat) (xs : List (Int × Int)) (F : List Nat) (w : World) (hx : tmTy.row true w (.slice (some ⟨b, o, none⟩) xs.length c) xs F) (hk : k < xs.length) (hl : xs.length ≤ 100) :
    Calls Try.prog 55 #[.slice (some ⟨b, o, none⟩) xs.length c, .int .i64 k, .int .i64 (k + 1)] w (DelPost F b o (xs.length - 1) c (xs.take k ++ xs.drop (k + 1)) w) := by
  obtain ⟨i0, hi, hz0, hz1, hz2⟩ := info_parts infoPair
  have hne : xs ≠ [] := fun e => by subst e; simp at hk
  obtain ⟨b', o', c', cs, G, e, h1, h2, hall, rfl, hc⟩ := Ty.row_view hx hne
  simp only [Value.slice.injEq, Option.some.injEq, Addr.mk.injEq] at e
  obtain ⟨⟨rfl, rfl, _⟩, _, rfl⟩ := e
  obtain ⟨hcs, hg, rfl⟩ := flat_all.1 hall
  obtain ⟨pre, hpre⟩ : ∃ pre, pre = (xs.take k).flatMap tmEnc := ⟨_, rfl⟩
  obtain ⟨mid, hmid⟩ : ∃ mid, mid = tmEnc xs[k] := ⟨_, rfl⟩
  obtain ⟨news, hnews⟩ : ∃ news, news = (xs.drop (k + 1)).flatMap tmEnc := ⟨_, rfl⟩
  have hsplit : cs = pre ++ mid ++ news := by
    rw [hcs, hpre, hmid, hnews]
    have := congrArg (List.flatMap tmEnc) (List.take_append_drop k xs).symm
    rw [List.flatMap_append, List.drop_eq_getElem_cons hk, List.flatMap_cons, ← List.append_assoc] at this
    exact this
  subst hsplit
  have lp : pre.length = k * 2 := by rw [hpre, flat_len (enc := tmEnc) (n := 2) (fun _ => rfl), List.length_take]; congr 1; omega
  have lm : mid.length = 2 := by rw [hmid]; rfl
  have ln : news.length = (xs.length - (k + 1)) * 2 := by rw [hnews, flat_len (enc := tmEnc) (n := 2) (fun _ => rfl), List.length_drop]
  have ltot : (pre ++ mid ++ news).length = pre.length + mid.length + news.length := by simp; omega
  have hone : ∀ u ∈ news, u.oneCell' = true := by rw [hnews]; exact flat_one _
  -- where the end lies
  have hsrc : ∃ ad, cutA (some ⟨b, o, none⟩) c (k + 1) 2 = some ad ∧ Hid (∀ j u, news[j]? = some u → w.drew.cell? (ad.add j) = some u) := by
    unfold cutA
    by_cases h : c = k + 1
    · refine ⟨_, if_pos h, fun j u hu => ?_⟩
      have h0 : news.length = 0 := by rw [ln]; omega
      rw [List.length_eq_zero_iff.1 h0] at hu
      simp at hu
    · rw [if_neg h]
      refine ⟨_, rfl, fun j u hu => ?_⟩
      have hj := (List.getElem?_eq_some_iff.1 hu).1
      show w.drew.cell? (((⟨b, o, none⟩ : Addr).add ((k + 1) * 2)).add j) = some u
      rw [add_none, add_none, show o + (k + 1) * 2 + j = o + (pre.length + mid.length + j) by omega]
      have := (hc (pre.length + mid.length + j) (by omega)).1
      rw [List.getElem_append_right (by simp)] at this
      refine Eq.trans (show w.drew.cell? _ = w.cell? _ from rfl) (this.trans ?_)
      simp only [List.length_append, Nat.add_sub_cancel_left]
      exact (List.getElem?_eq_getElem hj).symm.trans hu
  obtain ⟨ad, had, hsrc⟩ := hsrc
  have hspare : Hid (∀ j, j < news.length → (w.drew.cell? ⟨b, o + k * 2 + j, none⟩).isSome = true ∧ w.drew.frozen? ⟨b, o + k * 2 + j, none⟩ = false) := by
    intro j hj
    have := hc (pre.length + j) (by omega)
    rw [show o + k * 2 + j = o + (pre.length + j) by omega]
    exact ⟨by show (w.cell? _).isSome = true; rw [this.1]; rfl, this.2 rfl⟩
  have hdone := drop_cells (w := w.drew) (z := [.int .i64 0, .int .i64 0]) hc
  obtain ⟨W1, hW1⟩ : ∃ W1, W1 = w.drew.setCells b (o + k * 2) news := ⟨_, rfl⟩
  rw [lp, ← hW1] at hdone
  have hchg : Chg [b] w ((W1.setCells b (o + (k * 2 + news.length)) [.int .i64 0, .int .i64 0])) := by
    rw [hW1]
    exact Chg.setCells (by simp) _ _ (Chg.setCells (by simp) _ _ (.of_below (bdr (bb _))))
  have hend : Hid (∀ j, j < 2 → (W1.cell? ⟨b, o + (xs.length - 1) * 2 + j, none⟩).isSome = true ∧ W1.frozen? ⟨b, o + (xs.length - 1) * 2 + j, none⟩ = false) := by
    intro j hj
    have := hc (pre.length + news.length + j) (by omega)
    rw [hW1, show o + (xs.length - 1) * 2 + j = o + (pre.length + news.length + j) by omega, World.frozen?_setCells]
    refine ⟨?_, this.2 rfl⟩
    rw [World.cell?_setCells_out _ _ _ _ _ (fun _ _ => .inr (by show _ ≤ o + _; omega))]
    show (w.cell? _).isSome = true
    rw [this.1]; rfl
  replace hdone := Lib.hid hdone
  replace hchg := Lib.hid hchg
  replace hW1 := Lib.hid hW1
  have hn : Hid (k + (xs.length - (k + 1)) = xs.length - 1) := by unfold Hid; omega
  have hkk : ((k : Int) == (k : Int) + 1) = false := by simp; omega
  have hkn : ((k + 1 : Nat) : Int) = (k : Int) + 1 := by omega
  replace hkn := Lib.hid hkn
  have q1 : k ≤ c := by omega
  have q2 : k + 1 ≤ xs.length := by omega
  replace hg := Lib.hid hg
  clear hx hall hc hcs
  go_enter Try.func55, Try.ntmps55
  go_wp2_with fail
  refine wp_region_tail_lit (S := (fun _ => True)) 6 [false, false, false, false, false, false, false, false] (by kernel_rfl) (by kernel_rfl) (by kernel_rfl) ?_ ?_
  · trivial
  intro hS
  (refine walkT_take (i := 0) (v := ?_) rfl (by kernel_rfl) (by decide) (by kernel_rfl) (by kernel_rfl) (fun _ _ _ h => h) (Or.inl ⟨by rfl, ?_⟩) (by assumption) ?_; rotate_left; (focus (intro w hSw; (try dsimp only at hSw); go_simp; (try with_reducible rfl); done)); (try simp only [put_rules]))
  (refine walkT_take (i := 1) (v := ?_) rfl (by kernel_rfl) (by decide) (by kernel_rfl) (by kernel_rfl) (fun _ _ _ h => h) (Or.inl ⟨by rfl, ?_⟩) (by assumption) ?_; rotate_left; (focus (intro w hSw; (try dsimp only at hSw); go_simp; (try with_reducible rfl); done)); (try simp only [put_rules]))
  (refine walkT_take (i := 2) (v := .slice _ k c) rfl (by kernel_rfl) (by decide) (by kernel_rfl) (by kernel_rfl) (fun _ _ _ h => h) (Or.inl ⟨by rfl, fun _ _ => exec_slice_to rfl rfl rfl Try.underlying30 hi q1⟩) (by assumption) ?_; (try simp only [put_rules]))
  (refine walkT_take (i := 3) (v := ?_) rfl (by kernel_rfl) (by decide) (by kernel_rfl) (by kernel_rfl) (fun _ _ _ h => h) (Or.inl ⟨by rfl, ?_⟩) (by assumption) ?_; rotate_left; (focus (intro w hSw; (try dsimp only at hSw); go_simp; (try with_reducible rfl); done)); (try simp only [put_rules]))
  (refine walkT_take (i := 4) (v := ?_) rfl (by kernel_rfl) (by decide) (by kernel_rfl) (by kernel_rfl) (fun _ _ _ h => h) (Or.inl ⟨by rfl, ?_⟩) (by assumption) ?_; rotate_left; (focus (intro w hSw; (try dsimp only at hSw); go_simp; (try with_reducible rfl); done)); (try simp only [put_rules]))
  (refine walkT_take (i := 5) (v := .slice (cutA _ c (k + 1) 2) (xs.length - (k + 1)) (c - (k + 1))) rfl (by kernel_rfl) (by decide) (by kernel_rfl) (by kernel_rfl) (fun _ _ _ h => h) (Or.inl ⟨by rfl, fun _ _ => exec_slice_from (k := k + 1) rfl rfl rfl Try.underlying30 hi hz1 q2⟩) (by assumption) ?_; (try simp only [put_rules]))
  (refine walkT_done (by kernel_rfl) ?_)
  simp only [List.drop_succ_cons, List.drop_zero]
  rw [← lp] at hW1
  refine wpList_plain rfl fun _ hK => wp_append_room _ _ _ rfl 85 i0 2 Try.underlying30 hi hz1 b o k c rfl ad (xs.length - (k + 1)) (c - (k + 1)) news (by rw [← had]; rfl) ln hsrc.out hone (by omega) hspare.out (hK _ _ ?_)
  rw [lp] at hW1
  rw [← hW1.out, hn.out]
  clear hK hsrc hspare had hS
  have hcl : ∀ ty, (Builtin.clear_ #[30] ty #[.slice (some ⟨b, o + (xs.length - 1) * 2, none⟩) (xs.length - (xs.length - 1)) (c - (xs.length - 1))]).run Try.prog W1 = .ok (.tuple #[]) (W1.setCells b (o + (xs.length - 1) * 2) [.int .i64 0, .int .i64 0]) := fun ty => by
    rw [show xs.length - (xs.length - 1) = 1 by omega]
    exact run_clear_pair W1 _ _ ty _ _ _ Try.underlying30 zeroPair rfl rfl rfl b _ _ (fun j hj => (hend.out j hj).1) (fun j hj => (hend.out j hj).2)
  have hof : o + (k * 2 + news.length) = o + (xs.length - 1) * 2 := by rw [ln]; omega
  rw [hof] at hdone hchg
  obtain ⟨W2, hW2⟩ : ∃ W2, W2 = W1.setCells b (o + (xs.length - 1) * 2) [.int .i64 0, .int .i64 0] := ⟨_, rfl⟩
  rw [← hW2] at hcl hdone hchg
  clear hof hW2 hend
  go_wp2_with fail
  go_ret
  refine ⟨rfl, ?_⟩
  have hys : (xs.take k ++ xs.drop (k + 1)).length = xs.length - 1 := by rw [List.length_append, List.length_take, List.length_drop]; omega
  have hcs2 : pre ++ news = (xs.take k ++ xs.drop (k + 1)).flatMap tmEnc := by rw [hpre, hnews, List.flatMap_append]
  have hg2 : ∀ x ∈ xs.take k ++ xs.drop (k + 1), tmGood x := fun x hx => by
    rcases List.mem_append.1 hx with h | h
    · exact hg.out x (List.mem_of_mem_take h)
    · exact hg.out x (List.mem_of_mem_drop h)
  generalize (xs.take k ++ xs.drop (k + 1)) = ys at hys hcs2 hg2 ⊢
  rw [← hys]
  by_cases hy : ys = []
  · subst hy
    exact ⟨[], Ty.row_nil _ _ _ _ _ (by omega), by simp, by simp, hchg.out⟩
  · refine ⟨[b], ⟨_, c, pre ++ news, [], rfl, by omega, h2, flat_all.2 ⟨hcs2, hg2, rfl⟩, .inr ⟨by decide, hy, b, o, rfl, rfl, hdone.out⟩⟩, by simp, by simp, hchg.out⟩

end Go.Proofs.Ytebhkfhdjdgokaa
