/- Lemmas and contracts for a law, put together out of several texts: BmE OwnB BrA BmF RcC RcD RcE Cur CurS RcF. -/
import Derived.Test.YtpiimlmfcdjbbaaGreatDoorMg3
import Derived.Shelf.Spec.SlicesInsert
import Derived.Deep.AppendSrc
import Derived.Deep.RegionLaw
import Derived.Laws.NewBlocks
import Derived.Test.YtpiimlmfcdjbbaaGreatDoorMg2
import Derived.Test.YtpiimlmfcdjbbaaGreatDoorMg1
import Derived.Test.YtpiimlmfcdjbbaaGreatDoorProg
import Derived.WalkLawsBesides
import Derived.WalkSpells
import Derived.Lib.Hide
/- Contracts: a record put into a row of records. -/
namespace Go.Proofs.YtpiimlmfcdjbbaaGreatDoor
open Go.RowKit

/-- What the row is behind it: in its own block or in a new one. -/
def PutPost (w : World) (v : Value) (n : Nat) (cs : List Value) (e : Ending) (w' : World) : Prop :=
  ∃ v', e = .returned v' ∧ w'.ownsRow 0 30 4 v' n cs ∧ w.grownBy w' v.ownBlock ∧ (v'.ownBlock = v.ownBlock ∨ v'.ownBlock = some w.heap.size)

set_option maxRecDepth 100000 in
set_option maxHeartbeats 4000000 in
theorem insertEnd_any (A : Option Addr) (n c vb m vc : Nat) (cs news : List Value) (w : World) (hm : 0 < m) (hown : w.ownsRow 0 30 4 (.slice A n c) n cs) (hsrc : Src w (some ⟨vb, 0, none⟩) m 4 news) (h1 : ∀ u ∈ news, u.oneCell' = true) (hn : n + m ≤ 1000) :
    Calls Tryz.prog 47 #[.slice A n c, .int .i64 n, .slice (some ⟨vb, 0, none⟩) m vc] w (PutPost w (.slice A n c) (n + m) (cs ++ news)) := by
  obtain ⟨i0, hi, hz0, hz1, hz2⟩ := info_parts infoRc
  have hnc : n ≤ c ∧ c ≤ 9223372036854775807 := by
    obtain ⟨_, ⟨e, h0⟩ | ⟨g, cap, cur, e, _, _, h2, h3, _⟩⟩ := hown
    · simp only [Value.slice.injEq] at e; omega
    · simp only [Value.slice.injEq] at e; unfold maxLen at h3; omega
  obtain ⟨hnc, hc63⟩ := hnc
  have hz3 : ¬ ((m : Int) = 0) := by omega
  replace hown := Lib.hid hown
  by_cases hcn : c = n
  · subst hcn
    go_enter Tryz.func47, Tryz.ntmps47
    go_wp2_with (at_builtin; refine wpList_append_src rfl _ _ rfl Tryz.underlying24 hi hz0 hz1 hz2 rfl (by decide) _ c _ rfl hown.out (some ⟨vb, 0, none⟩) m vc news rfl hsrc h1 ?c3 ?c4 ?_)
    case c3 => unfold maxLen; omega
    case c4 => omega
    intro vY wY hownY hgY hatY
    have hf := Lib.hid (show PutPost w (.slice A c c) (c + m) (cs ++ news) (.returned vY) wY from ⟨vY, rfl, hownY, hgY, hatY⟩)
    obtain ⟨aY, cY, rfl⟩ := owns_form hownY
    clear hownY hgY hatY hown
    go_wp2_with fail
    go_ret
    exact hf.out
  · go_enter Tryz.func47, Tryz.ntmps47
    go_wp2_with (at_builtin; refine wpList_append_src rfl _ _ rfl Tryz.underlying24 hi hz0 hz1 hz2 rfl (by decide) _ n _ rfl hown.out (some ⟨vb, 0, none⟩) m vc news rfl hsrc h1 ?c3 ?c4 ?_)
    case c3 => unfold maxLen; omega
    case c4 => omega
    intro vY wY hownY hgY hatY
    have hf := Lib.hid (show PutPost w (.slice A n c) (n + m) (cs ++ news) (.returned vY) wY from ⟨vY, rfl, hownY, hgY, hatY⟩)
    obtain ⟨aY, cY, rfl⟩ := owns_form hownY
    clear hownY hgY hatY hown
    go_wp2_with fail
    go_ret
    exact hf.out

set_option maxRecDepth 100000 in
set_option maxHeartbeats 4000000 in
theorem insertRoom_any (g n c i vb m vc : Nat) (cs news cur : List Value) (t : TypeId) (w : World) (hi' : i < n) (hm : 0 < m) (hroom : n + m ≤ c) (hc63 : c ≤ 9223372036854775807) (hvb : vb ≠ g) (hn : n + m ≤ 1000)
    (hg : w.heap[g]? = some (.cells cur.toArray 30 (0, 0))) (hcl : cur.length = c * 4) (hcs : cur.take (n * 4) = cs) (hv : w.heap[vb]? = some (.cells news.toArray t (0, 0))) (hvl : news.length = m * 4) (h1 : ∀ u ∈ news, u.oneCell' = true) (h2 : ∀ u ∈ cs, u.oneCell' = true) :
    Calls Tryz.prog 47 #[.slice (some ⟨g, 0, none⟩) n c, .int .i64 i, .slice (some ⟨vb, 0, none⟩) m vc] w (PutPost w (.slice (some ⟨g, 0, none⟩) n c) (n + m) (cs.take (i * 4) ++ news ++ cs.drop (i * 4))) := by
  obtain ⟨i0, hi, hz0, hz1, hz2⟩ := info_parts infoRc
  have hsz : (Tryz.prog.info? 30).map (·.size) = some 4 := by rw [hi]; simp [hz1]
  have hz3 : ¬ ((m : Int) = 0) := by omega
  have hz4 : ¬ ((i : Int) = (n : Int)) := by omega
  have hsa : w.shape? vb = some (t, news.length) := by simp [World.shape?, hv]
  have hsb : w.shape? g = some (30, cur.length) := by simp [World.shape?, hg]
  have hov : ∀ lb cb, (callFunc 64 #[.slice (some ⟨vb, 0, none⟩) m vc, .slice (some ⟨g, (i + m) * 4, none⟩) lb cb]).run Tryz.prog w = .ok (.value (.bool false)) w := fun lb cb => by
    rw [run_callFunc_extern Tryz.func64 (by kernel_rfl) (by kernel_rfl) (by kernel_rfl) (e := Extern.SlicesOverlaps.overlaps #[24, 24] #[4]) (by kernel_rfl),
      Lib.run_overlaps_apart w 24 4 30 Tryz.underlying24 4 (fun w => by simp [sizeOf, typeInfo, hi, hz1]) ⟨vb, 0, none⟩ ⟨g, (i + m) * 4, none⟩ m vc lb cb hvb t 30 news.length cur.length hsa hsb (by omega) (by simp [World.frozen?, hv]) (by simp [World.frozen?, hv])]
    rfl
  have hcsl : cs.length = n * 4 := by rw [← hcs, List.length_take]; omega
  have hdl : (cs.drop (i * 4)).length = n * 4 - i * 4 := by rw [List.length_drop, hcsl]
  have hw1 : IntKind.i64.wrap ((i : Int) + (m : Int)) = (i : Int) + (m : Int) := by rw [IntKind.wrap_i64]; omega
  have hb1 : (0 : Int) ≤ (i : Int) + (m : Int) := by omega
  have hin : i ≤ n := by omega
  have htn : ((i : Int) + (m : Int)).toNat = i + m := by omega
  have hb2 : ¬ (c = i + m) := by omega
  have hb3 : (i : Int) ≤ (n : Int) + (m : Int) := by omega
  have hb4 : ¬ (c = i) := by omega
  obtain ⟨X, hX⟩ : ∃ X, X = cur.take ((i + m) * 4) ++ cs.drop (i * 4) ++ cur.drop ((i + m) * 4 + (cs.drop (i * 4)).length) := ⟨_, rfl⟩
  obtain ⟨Y, hY⟩ : ∃ Y, Y = X.take (i * 4) ++ news ++ X.drop (i * 4 + news.length) := ⟨_, rfl⟩
  obtain ⟨hXl, hYl, hYt⟩ := put_in hcl hroom hin hcs hvl hX hY
  have hcp1 : ∀ ty dc sc, (Builtin.copy_ #[24, 24] ty #[.slice (some ⟨g, (i + m) * 4, none⟩) (n + m - (i + m)) dc, .slice (some ⟨g, i * 4, none⟩) (n + m - i) sc]).run Tryz.prog w.drew = .ok (goInt (Nat.min (n + m - i) (n + m - (i + m)))) (w.drew.setRow g X.toArray) := fun ty dc sc => by
    have := run_copy_box (P := Tryz.prog) w.drew 24 24 ty 30 4 g ((i + m) * 4) (n + m - (i + m)) dc ⟨g, i * 4, none⟩ (n + m - i) sc cur.toArray 30 (cs.drop (i * 4)) Tryz.underlying24 hsz hg
      (by rw [hdl]; simp only [Nat.min_def]; split <;> omega)
      (fun j v hj => by
        rw [add_none, List.getElem?_drop] at *
        rw [← hcs, List.getElem?_take] at hj
        split at hj
        · show w.cell? _ = _
          simp [World.cell?, hg, hj]
        · cases hj)
      (by rw [hdl, List.size_toArray]; omega) (fun u hu => h2 u (List.mem_of_mem_drop hu))
    rw [hX]
    exact this
  obtain ⟨W1, hW1⟩ : ∃ W1, W1 = w.drew.setRow g X.toArray := ⟨_, rfl⟩
  have hg1 : W1.heap[g]? = some (.cells X.toArray 30 (0, 0)) := by rw [hW1]; exact setRow_heap w.drew g _ _ 30 _ hg
  have hv1 : W1.heap[vb]? = some (.cells news.toArray t (0, 0)) := by rw [hW1, setRow_other w.drew g vb _ hvb]; exact hv
  have hcp2 : ∀ ty dc, (Builtin.copy_ #[24, 24] ty #[.slice (some ⟨g, i * 4, none⟩) (n + m - i) dc, .slice (some ⟨vb, 0, none⟩) m vc]).run Tryz.prog W1 = .ok (goInt (Nat.min m (n + m - i))) (W1.setRow g Y.toArray) := fun ty dc => by
    have := run_copy_box (P := Tryz.prog) W1 24 24 ty 30 4 g (i * 4) (n + m - i) dc ⟨vb, 0, none⟩ m vc X.toArray 30 news Tryz.underlying24 hsz hg1
      (by rw [hvl]; simp only [Nat.min_def]; split <;> omega)
      (fun j v hj => by
        rw [add_none]
        simp [World.cell?, hv1, hj])
      (by rw [List.size_toArray, hvl, hXl]; omega) h1
    rw [hY]
    exact this
  have hf : Hid (PutPost w (.slice (some ⟨g, 0, none⟩) n c) (n + m) (cs.take (i * 4) ++ news ++ cs.drop (i * 4)) (.returned (.slice (some ⟨g, 0, none⟩) (n + m) c)) (W1.setRow g Y.toArray)) := by
    refine ⟨_, rfl, owns_mk (setRow_heap W1 g _ _ 30 _ hg1) hroom (by unfold maxLen; omega) hYl hYt, ?_, .inl rfl⟩
    subst hW1
    exact ⟨rfl, rfl, rfl, by rw [setRow_size, setRow_size]; exact Nat.le_refl _, fun k hk hkg => by
      have hkg' : k ≠ g := fun e => hkg (by rw [e]; rfl)
      rw [setRow_other _ g k _ hkg', setRow_other _ g k _ hkg']; rfl⟩
  rw [← hW1] at hcp1
  clear hX hY hYt hYl hXl hcsl hdl hg hv hg1 hv1 hsa hsb hcs hcl hW1
  go_enter Tryz.func47, Tryz.ntmps47
  go_wp2_with (simp only [hov])
  go_region_law (refine step_copy_runI rfl _ _ 24 24 rfl _ _ (by simp [Act.eval, Act.put]) (by simp [Act.eval, Act.put]) (hcp1 _ _ _) ?_)
  go_wp2_with (at_builtin; refine wpList_copy_runI _ rfl _ _ 24 24 rfl _ _ rfl rfl (hcp2 _ _) ?_)
  go_ret
  exact hf.out

set_option maxRecDepth 100000 in
set_option maxHeartbeats 4000000 in
theorem insertGrow_any (g n c i vb m vc : Nat) (cs news cur : List Value) (t : TypeId) (w : World) (hi' : i < n) (hm : 0 < m) (hnc : n ≤ c) (hroom : c < n + m) (hn : n + m ≤ 1000)
    (hg : w.heap[g]? = some (.cells cur.toArray 30 (0, 0))) (hcl : cur.length = c * 4) (hcs : cur.take (n * 4) = cs) (hv : w.heap[vb]? = some (.cells news.toArray t (0, 0))) (hvl : news.length = m * 4) (h1 : ∀ u ∈ news, u.oneCell' = true) (h2 : ∀ u ∈ cs, u.oneCell' = true) :
    Calls Tryz.prog 47 #[.slice (some ⟨g, 0, none⟩) n c, .int .i64 i, .slice (some ⟨vb, 0, none⟩) m vc] w (PutPost w (.slice (some ⟨g, 0, none⟩) n c) (n + m) (cs.take (i * 4) ++ news ++ cs.drop (i * 4))) := by
  obtain ⟨i0, hi, hz0, hz1, hz2⟩ := info_parts infoRc
  have hsz : (Tryz.prog.info? 30).map (·.size) = some 4 := by rw [hi]; simp [hz1]
  have hz3 : ¬ ((m : Int) = 0) := by omega
  have hz4 : ¬ ((i : Int) = (n : Int)) := by omega
  have hz5 : (c : Int) < (n : Int) + (m : Int) := by omega
  have hbw : g < w.heap.size := by
    rcases Nat.lt_or_ge g w.heap.size with h | h
    · exact h
    · rw [Array.getElem?_eq_none h] at hg; cases hg
  have hvw : vb < w.heap.size := by
    rcases Nat.lt_or_ge vb w.heap.size with h | h
    · exact h
    · rw [Array.getElem?_eq_none h] at hv; cases hv
  have hcsl : cs.length = n * 4 := by rw [← hcs, List.length_take]; omega
  have hdl : (cs.drop (i * 4)).length = n * 4 - i * 4 := by rw [List.length_drop, hcsl]
  have hin : i ≤ n := by omega
  have hkk : (n : Int) + (m : Int) - (i : Int) = ((n + m - i : Nat) : Int) := by omega
  have hik : i + (n + m - i) = n + m := by omega
  have hcell : ∀ (W : World), W.heap[g]? = some (.cells cur.toArray 30 (0, 0)) → ∀ j u, cs[j]? = some u → W.cell? ⟨g, j, none⟩ = some u := fun W hW j u hj => by
    rw [← hcs, List.getElem?_take] at hj
    split at hj
    · simp [World.cell?, hW, hj]
    · cases hj
  have hold : (Builtin.firstCells i0.size i (.slice (some ⟨g, 0, none⟩) i c)).run Tryz.prog w.drew = .ok (cs.take (i * 4)).toArray w.drew := by
    rw [hz1]
    exact run_firstCells_some w.drew 4 i ⟨g, 0, none⟩ i c (cs.take (i * 4)) (by rw [List.length_take]; omega) (fun j v hj => by
      rw [add_none, Nat.zero_add]
      rw [List.getElem?_take] at hj
      split at hj
      · exact hcell w.drew hg j v hj
      · cases hj)
  obtain ⟨Z, hZ⟩ : ∃ Z : Array Value, Z = (Value.agg #[.string ByteArray.empty, .int .i64 0, .int .i64 0, .int .i64 0]).cells := ⟨_, rfl⟩
  have hZs : Z.size = 4 := by rw [hZ]; rfl
  obtain ⟨G, hG⟩ : ∃ G, G = grownCap w (n + m) c 30 := ⟨_, rfl⟩
  obtain ⟨ROW, hROW⟩ : ∃ ROW : Array Value, ROW = (cs.take (i * 4)).toArray ++ Builtin.zeroCells Z (n + m - i) ++ Builtin.zeroCells Z (G - (n + m)) := ⟨_, rfl⟩
  have hGn : n + m ≤ G := by rw [hG]; exact grownCap_ge w _ _ _
  have hG63 : G ≤ 9223372036854775807 := by
    have := grownCap_le_maxLen w (n + m) c 30 (by unfold maxLen; omega)
    rw [← hG] at this
    unfold maxLen at this
    omega
  have hRs : ROW.toList.length = G * 4 := by
    rw [hROW]
    simp [Builtin.zeroCells, hZs, hcsl]
    omega
  have hRt : ROW.toList.take (i * 4) = cs.take (i * 4) := by
    rw [hROW]
    simp only [Array.toList_append, List.append_assoc]
    rw [List.take_append_of_le_length (by rw [List.length_take]; omega), List.take_of_length_le (by rw [List.length_take]; omega)]
  have hrz : ∀ ty, (Builtin.append_ #[24, 3] ty #[.slice (some ⟨g, 0, none⟩) i c, .int .i64 ((n : Int) + (m : Int) - (i : Int))]).run Tryz.prog w =
      .ok (.slice (some ⟨w.heap.size, 0, none⟩) (n + m) G) (w.drew.alloc (.cells ROW 30)) := fun ty => by
    have h := Lib.run_append_grow_zeros w 24 3 ty 30 i0 _ .i64 .i64 Tryz.underlying24 Tryz.underlying3 hi hz0 (some ⟨g, 0, none⟩) i c (cs.take (i * 4)) hold (n + m - i) (by omega) (by omega) (by omega) (by omega) (by rw [hz2]; omega) (by rw [hz2, hik]; exact growslice_fits hroom (by omega))
    rw [hik] at h
    rw [hkk, hROW, hZ, hG]
    exact h
  obtain ⟨X, hX⟩ : ∃ X, X = ROW.toList.take (i * 4) ++ news ++ ROW.toList.drop (i * 4 + news.length) := ⟨_, rfl⟩
  obtain ⟨Y, hY⟩ : ∃ Y, Y = X.take ((i + m) * 4) ++ cs.drop (i * 4) ++ X.drop ((i + m) * 4 + (cs.drop (i * 4)).length) := ⟨_, rfl⟩
  obtain ⟨hXl, hYl, hYt⟩ := put_new hGn hin hcsl hvl hRs hRt hX hY
  obtain ⟨W1, hW1⟩ : ∃ W1, W1 = w.drew.alloc (.cells ROW 30) := ⟨_, rfl⟩
  have hs1 : W1.heap.size = w.heap.size + 1 := by rw [hW1]; simp
  have hr1 : W1.heap[w.heap.size]? = some (.cells ROW 30 (0, 0)) := by rw [hW1]; exact heap_alloc_new w.drew _
  have hold1 : ∀ k, k < w.heap.size → W1.heap[k]? = w.heap[k]? := fun k hk => by rw [hW1]; exact (bal (bb w.drew) (.cells ROW 30)).block k hk
  have hg1 : W1.heap[g]? = some (.cells cur.toArray 30 (0, 0)) := (hold1 g hbw).trans hg
  have hv1 : W1.heap[vb]? = some (.cells news.toArray t (0, 0)) := (hold1 vb hvw).trans hv
  have hcpA : ∀ ty dc, (Builtin.copy_ #[24, 24] ty #[.slice (some ⟨w.heap.size, i * 4, none⟩) (n + m - i) dc, .slice (some ⟨vb, 0, none⟩) m vc]).run Tryz.prog W1 = .ok (goInt (Nat.min m (n + m - i))) (W1.setRow w.heap.size X.toArray) := fun ty dc => by
    have := run_copy_box (P := Tryz.prog) W1 24 24 ty 30 4 w.heap.size (i * 4) (n + m - i) dc ⟨vb, 0, none⟩ m vc ROW 30 news Tryz.underlying24 hsz hr1
      (by rw [hvl]; simp only [Nat.min_def]; split <;> omega)
      (fun j v hj => by
        rw [add_none]
        simp [World.cell?, hv1, hj])
      (by rw [← Array.length_toList, hRs, hvl]; omega) h1
    rw [hX]
    exact this
  obtain ⟨W2, hW2⟩ : ∃ W2, W2 = W1.setRow w.heap.size X.toArray := ⟨_, rfl⟩
  have hr2 : W2.heap[w.heap.size]? = some (.cells X.toArray 30 (0, 0)) := by rw [hW2]; exact setRow_heap W1 w.heap.size _ _ 30 _ hr1
  have hg2 : W2.heap[g]? = some (.cells cur.toArray 30 (0, 0)) := by rw [hW2, setRow_other W1 w.heap.size g _ (by omega)]; exact hg1
  have hcpB : ∀ ty dc sc, (Builtin.copy_ #[24, 24] ty #[.slice (some ⟨w.heap.size, (i + m) * 4, none⟩) (n + m - (i + m)) dc, .slice (some ⟨g, i * 4, none⟩) (n - i) sc]).run Tryz.prog W2.drew = .ok (goInt (Nat.min (n - i) (n + m - (i + m)))) (W2.drew.setRow w.heap.size Y.toArray) := fun ty dc sc => by
    have := run_copy_box (P := Tryz.prog) W2.drew 24 24 ty 30 4 w.heap.size ((i + m) * 4) (n + m - (i + m)) dc ⟨g, i * 4, none⟩ (n - i) sc X.toArray 30 (cs.drop (i * 4)) Tryz.underlying24 hsz hr2
      (by rw [hdl]; simp only [Nat.min_def]; split <;> omega)
      (fun j v hj => by
        rw [add_none]
        rw [List.getElem?_drop] at hj
        exact hcell W2.drew hg2 _ _ hj)
      (by rw [hdl, List.size_toArray, hXl]; omega) (fun u hu => h2 u (List.mem_of_mem_drop hu))
    rw [hY]
    exact this
  have hf : Hid (PutPost w (.slice (some ⟨g, 0, none⟩) n c) (n + m) (cs.take (i * 4) ++ news ++ cs.drop (i * 4)) (.returned (.slice (some ⟨w.heap.size, 0, none⟩) (n + m) G)) (W2.drew.setRow w.heap.size Y.toArray)) := by
    refine ⟨_, rfl, owns_mk (setRow_heap W2.drew w.heap.size _ _ 30 _ hr2) hGn (by unfold maxLen; omega) hYl hYt, ?_, .inr rfl⟩
    refine ⟨by rw [hW2, hW1]; rfl, by rw [hW2, hW1]; rfl, by rw [hW2, hW1]; rfl, ?_, fun k hk hkg => ?_⟩
    · rw [setRow_size]
      show w.heap.size ≤ W2.heap.size
      rw [hW2, setRow_size, hs1]; omega
    · have hkn : k ≠ w.heap.size := by omega
      rw [setRow_other W2.drew w.heap.size k _ hkn]
      show W2.heap[k]? = _
      rw [hW2, setRow_other W1 w.heap.size k _ hkn]
      exact hold1 k hk
  rw [← hW1] at hrz
  rw [← hW2] at hcpA
  have hw1 : IntKind.i64.wrap ((i : Int) + (m : Int)) = (i : Int) + (m : Int) := by rw [IntKind.wrap_i64]; omega
  have hb1 : (0 : Int) ≤ (i : Int) + (m : Int) := by omega
  have htn : ((i : Int) + (m : Int)).toNat = i + m := by omega
  have hb3 : (i : Int) ≤ (n : Int) := by omega
  have hGi : ¬ (G = i) := by omega
  have hGim : ¬ (G = i + m) := by omega
  have hci : ¬ (c = i) := by omega
  clear hkk hik hold hROW hG hRs hRt hX hY hXl hYl hYt hr1 hr2 hg1 hg2 hv1 hold1 hs1 hcell hcsl hdl hg hv hcl hcs hbw hvw hW1 hW2
  go_enter Tryz.func47, Tryz.ntmps47
  go_wp2_with (first
    | (at_builtin; refine Lib.wpList_append_run _ rfl _ _ _ _ rfl _ _ rfl rfl _ _ (hrz _) ?_)
    | (at_builtin; refine wpList_copy_runI _ rfl _ _ 24 24 rfl _ _ rfl rfl (hcpA _ _) ?_))
  go_region_law (refine step_copy_runI rfl _ _ 24 24 rfl _ _ (by simp [Act.eval, Act.put]) (by simp [Act.eval, Act.put]) (hcpB _ _ _) ?_)
  go_wp2
  go_ret
  exact hf.out

/-- A record is put in at place i. -/
theorem insertRec_any (A : Option Addr) (n c i vb m : Nat) (cs news : List Value) (t : TypeId) (w : World) (hi' : i ≤ n) (hm : 0 < m) (hn : n + m ≤ 1000) (hown : w.ownsRow 0 30 4 (.slice A n c) n cs)
    (hv : w.heap[vb]? = some (.cells news.toArray t (0, 0))) (hne : ∀ g, A = some ⟨g, 0, none⟩ → vb ≠ g) (hvl : news.length = m * 4) (h1 : ∀ u ∈ news, u.oneCell' = true) (h2 : ∀ u ∈ cs, u.oneCell' = true) :
    Calls Tryz.prog 47 #[.slice A n c, .int .i64 i, .slice (some ⟨vb, 0, none⟩) m m] w (PutPost w (.slice A n c) (n + m) (cs.take (i * 4) ++ news ++ cs.drop (i * 4))) := by
  rcases Nat.lt_or_ge i n with h | h
  · obtain ⟨g, cur, rfl, hg, hnc, hm63, hcl, hct, hcsl⟩ := owns_block hown (by omega)
    have hg' : w.heap[g]? = some (.cells cur.toList.toArray 30 (0, 0)) := by simpa using hg
    rcases Nat.lt_or_ge c (n + m) with hr | hr
    · exact insertGrow_any g n c i vb m m cs news cur.toList t w h hm hnc hr hn hg' hcl hct hv hvl h1 h2
    · exact insertRoom_any g n c i vb m m cs news cur.toList t w h hm hr (by unfold maxLen at hm63; omega) (hne g rfl) hn hg' hcl hct hv hvl h1 h2
  · obtain rfl : i = n := by omega
    have hcsl : cs.length = i * 4 := hown.1
    have hsrc : Src w (some ⟨vb, 0, none⟩) m 4 news := .inr ⟨_, rfl, hvl, fun j u hj => by rw [add_none]; simp [World.cell?, hv, hj]⟩
    have := insertEnd_any A i c vb m m cs news w hm hown hsrc h1 hn
    rw [List.take_of_length_le (by omega), List.drop_eq_nil_of_le (by omega), List.append_nil]
    exact this
end Go.Proofs.YtpiimlmfcdjbbaaGreatDoor

/- Own rows: their blocks, stores into them, parts in front. -/
namespace Go.Proofs.YtpiimlmfcdjbbaaGreatDoor
open Go.RowKit

theorem owns_base {w : World} {B : Nat} {e : TypeId} {size : Nat} {v : Value} {n : Nat} {xs : List Value} (h : w.ownsRow 0 e size v n xs) (hB : ∀ g, v.ownBlock = some g → B ≤ g) : w.ownsRow B e size v n xs := by
  obtain ⟨hl, h | ⟨g, cap, cur, rfl, hg, r⟩⟩ := h
  · exact ⟨hl, .inl h⟩
  · exact ⟨hl, .inr ⟨g, cap, cur, rfl, hB g rfl, r⟩⟩
theorem owns_zero {w : World} {B : Nat} {e : TypeId} {size : Nat} {v : Value} {n : Nat} {xs : List Value} (h : w.ownsRow B e size v n xs) : w.ownsRow 0 e size v n xs := by
  obtain ⟨hl, h | ⟨g, cap, cur, rfl, hg, r⟩⟩ := h
  · exact ⟨hl, .inl h⟩
  · exact ⟨hl, .inr ⟨g, cap, cur, rfl, Nat.zero_le _, r⟩⟩
theorem owns_ge {w : World} {B : Nat} {e : TypeId} {size : Nat} {v : Value} {n : Nat} {xs : List Value} (h : w.ownsRow B e size v n xs) : ∀ g, v.ownBlock = some g → B ≤ g := by
  obtain ⟨hl, ⟨rfl, _⟩ | ⟨g, cap, cur, rfl, hg, r⟩⟩ := h
  · intro g hg; cases hg
  · intro g' hg'
    obtain rfl : g = g' := by simpa [Value.ownBlock] using hg'
    exact hg
/-- The row that a list of parts owns, at the end. -/
theorem Sp.owns_end {w0 w : World} {ps : List Asn} {i : Nat} {size n : Nat} {e : TypeId} {v : Value} {xs : List Value} (h : Sp w0 w ps) (hi : ps[i]? = some (Own e size v n xs)) : w.ownsRow w0.heap.size e size v n xs := by
  obtain ⟨F, ⟨rfl, h1⟩, h2⟩ := h.get hi
  exact owns_base h1 fun g hg => h2 g (by simp [hg])
theorem Sp.own_call {w0 w w' : World} {ps : List Asn} {size n : Nat} {e : TypeId} {v : Value} {xs : List Value} (h : Sp w0 w ps) (hb : Below w.heap.size w w') (ho : w'.ownsRow w.heap.size e size v n xs) : Sp w0 w' (Own e size v n xs :: ps) :=
  h.own_new hb (owns_zero ho) (owns_ge ho)
theorem sep_append : ∀ {qs ps : List Asn} {w : World} {F G : List Nat}, sep qs w F → sep ps w G → (∀ b ∈ F, b ∉ G) → sep (qs ++ ps) w (F ++ G)
  | [], ps, w, F, G, h, k, hd => by
    obtain rfl : F = [] := h
    exact k
  | q :: qs, ps, w, F, G, h, k, hd => by
    obtain ⟨F1, F2, rfl, h1, h2, h3⟩ := h
    refine ⟨F1, F2 ++ G, by rw [List.append_assoc], fun b hb hb2 => ?_, h2, sep_append h3 k fun b hb => hd b (List.mem_append.2 (.inr hb))⟩
    rcases List.mem_append.1 hb2 with h | h
    · exact h1 b hb h
    · exact hd b (List.mem_append.2 (.inl hb)) h
/-- Parts made by a call go in front. -/
theorem Sp.seq {w0 w w' : World} {ps qs : List Asn} (h : Sp w0 w ps) (k : Sp w w' qs) : Sp w0 w' (qs ++ ps) := by
  obtain ⟨h1, G, h2, h3⟩ := h
  obtain ⟨k1, F, k2, k3⟩ := k
  refine ⟨btr h1 k1, F ++ G, sep_append k2 (sep_keep h2 fun b hm => k1.block b (sep_lt h2 b hm)) (fun b hb hb2 => ?_), fun b hb => ?_⟩
  · have := k3 b hb; have := sep_lt h2 b hb2; omega
  · rcases List.mem_append.1 hb with h | h
    · have := k3 b h; have := h1.size; omega
    · exact h3 b h
theorem own_slice {w : World} {B : Nat} {e : TypeId} {size : Nat} {v : Value} {n : Nat} {xs : List Value} (h : w.ownsRow B e size v n xs) : ∃ a c, v = .slice a n c := by
  obtain ⟨_, ⟨rfl, rfl⟩ | ⟨g, cap, cur, rfl, _⟩⟩ := h
  · exact ⟨_, _, rfl⟩
  · exact ⟨_, _, rfl⟩
theorem own_from {w : World} {B : Nat} {e : TypeId} {size : Nat} {A : Option Addr} {n c : Nat} {k : Nat} {xs : List Value} (h : w.ownsRow B e size (.slice A n c) k xs) : ∀ a, A = some a → B ≤ a.block := by
  rintro a rfl
  exact owns_ge h a.block rfl
/-- An own row, told by its block. -/
theorem own_block {w : World} {B : Nat} {e : TypeId} {size : Nat} {v : Value} {n : Nat} {xs : List Value} (h : w.ownsRow B e size v n xs) (hn : 0 < n) :
    ∃ g cap cur, v = .slice (some ⟨g, 0, none⟩) n cap ∧ B ≤ g ∧ w.heap[g]? = some (.cells cur e (0, 0)) ∧ n ≤ cap ∧ cap ≤ maxLen ∧ cur.size = cap * size ∧ cur.toList.take (n * size) = xs := by
  obtain ⟨_, ⟨_, h0⟩ | h⟩ := h
  · omega
  · exact h
theorem own_at {w : World} {g : Nat} {cur : Array Value} {e : TypeId} {size n : Nat} {xs : List Value} (hh : w.heap[g]? = some (.cells cur e (0, 0))) (ht : cur.toList.take (n * size) = xs) {o : Nat} (ho : o < n * size) : w.cell? ⟨g, o, none⟩ = xs[o]? ∧ w.frozen? ⟨g, o, none⟩ = false :=
  ⟨hown_cell hh ht ho, by simp [World.frozen?, hh]⟩
/-- A store into an own row. -/
theorem Sp.own_put {w0 w : World} {ps : List Asn} {i g cap n size o : Nat} {e : TypeId} {xs : List Value} (h : Sp w0 w ps) (hi : ps[i]? = some (Own e size (.slice (some ⟨g, 0, none⟩) n cap) n xs)) (u : Value) (ho : o < n * size) :
    Sp w0 (w.setCell ⟨g, o, none⟩ u) (ps.set i (Own e size (.slice (some ⟨g, 0, none⟩) n cap) n (xs.set o u))) := by
  obtain ⟨F, ⟨rfl, hh⟩, hF, hall⟩ := h.upd hi
  have hlen := hh.1
  obtain ⟨g', cap', cur, e1, h0, hg, hn, hm, hc, ht⟩ := own_block hh (by
    rcases Nat.eq_zero_or_pos n with rfl | h
    · simp at ho
    · exact h)
  simp only [Value.slice.injEq, Option.some.injEq, Addr.mk.injEq] at e1
  obtain ⟨⟨rfl, _⟩, _, rfl⟩ := e1
  have hset : (w.setCell ⟨g, o, none⟩ u).heap[g]? = some (.cells (cur.setIfInBounds o u) e (0, 0)) := by
    simp [World.setCell, Array.getElem?_modify]
    exact ⟨_, hg, rfl⟩
  refine hall _ _ [g] ?_ ⟨rfl, by rw [List.length_set]; exact hlen, .inr ⟨g, cap, cur.setIfInBounds o u, rfl, Nat.zero_le _, hset, hn, hm, by rw [Array.size_setIfInBounds]; exact hc, ?_⟩⟩ fun b hb => .inl hb
  · exact ⟨rfl, rfl, rfl, by simp [World.setCell], fun k _ hn => Below.heap_setCell _ _ _ _ (by simpa [Value.ownBlock] using hn)⟩
  · rw [Array.toList_setIfInBounds, List.take_set, ht]
end Go.Proofs.YtpiimlmfcdjbbaaGreatDoor

/- A part of the memory brought to the front. No program in sight. -/
namespace Go.Proofs.YtpiimlmfcdjbbaaGreatDoor
open Go.RowKit

theorem sep_bring {w : World} : ∀ {ps : List Asn} {F : List Nat} {i : Nat} {q : Asn}, sep ps w F → ps[i]? = some q → ∃ F', sep (q :: ps.eraseIdx i) w F' ∧ ∀ b ∈ F', b ∈ F
  | [], _, _, _, _, h => by simp at h
  | p :: ps, F, 0, q, h, hi => by
    simp at hi; subst hi
    exact ⟨F, h, fun _ h => h⟩
  | p :: ps, _, i + 1, q, h, hi => by
    obtain ⟨F1, F2, rfl, hd, h1, h2⟩ := h
    obtain ⟨F', ⟨F3, F4, rfl, hd', h3, h4⟩, hs⟩ := sep_bring (i := i) h2 (by simpa using hi)
    refine ⟨F3 ++ (F1 ++ F4), ⟨F3, F1 ++ F4, rfl, fun b hb hb2 => ?_, h3, F1, F4, rfl, fun b hb hb2 => hd b hb (hs b (List.mem_append.2 (.inr hb2))), h1, h4⟩, fun b hb => ?_⟩
    · rcases List.mem_append.1 hb2 with h | h
      · exact hd b h (hs b (List.mem_append.2 (.inl hb)))
      · exact hd' b hb h
    · simp only [List.mem_append] at hb ⊢
      rcases hb with h | h | h
      · exact .inr (hs b (List.mem_append.2 (.inl h)))
      · exact .inl h
      · exact .inr (hs b (List.mem_append.2 (.inr h)))
section
variable {w0 w w' : World} {ps : List Asn} {i j : Nat} {q : Asn}
/-- A part is brought to the front. -/
theorem Sp.bring (h : Sp w0 w ps) (hi : ps[i]? = some q) : Sp w0 w (q :: ps.eraseIdx i) := by
  obtain ⟨h1, F, h2, h3⟩ := h
  obtain ⟨F', h4, h5⟩ := sep_bring h2 hi
  exact ⟨h1, F', h4, fun b hb => h3 b (h5 b hb)⟩
end
/-- Parts are picked, by their places in what is left. -/
def pickQ : List Nat → List Asn → Option (List Asn)
  | [], _ => some []
  | i :: is, ps => match ps[i]? with
    | none => none
    | some q => match pickQ is (ps.eraseIdx i) with
      | none => none
      | some qs => some (q :: qs)
theorem sep_pick {w : World} : ∀ {is : List Nat} {ps qs : List Asn} {F : List Nat}, sep ps w F → pickQ is ps = some qs → ∃ F', sep qs w F' ∧ ∀ b ∈ F', b ∈ F
  | [], _, _, _, _, hq => by
    simp only [pickQ, Option.some.injEq] at hq
    subst hq
    exact ⟨[], rfl, by simp⟩
  | i :: is, ps, qs, F, h, hq => by
    unfold pickQ at hq
    cases hi : ps[i]? with
    | none => rw [hi] at hq; cases hq
    | some q =>
      rw [hi] at hq
      simp only at hq
      cases hr : pickQ is (ps.eraseIdx i) with
      | none => rw [hr] at hq; cases hq
      | some rs =>
        rw [hr] at hq
        simp only [Option.some.injEq] at hq
        subst hq
        obtain ⟨F1, ⟨F2, F3, rfl, hd, h1, h2⟩, hs⟩ := sep_bring h hi
        obtain ⟨F4, h3, h4⟩ := sep_pick h2 hr
        exact ⟨F2 ++ F4, ⟨F2, F4, rfl, fun b hb hb4 => hd b hb (h4 b hb4), h1, h3⟩, fun b hb => by
          rcases List.mem_append.1 hb with hb | hb
          · exact hs b (List.mem_append.2 (.inl hb))
          · exact hs b (List.mem_append.2 (.inr (h4 b hb)))⟩
theorem Sp.pick {w0 w : World} {ps qs : List Asn} (is : List Nat) (h : Sp w0 w ps) (hq : pickQ is ps = some qs) : Sp w0 w qs := by
  obtain ⟨h1, F, h2, h3⟩ := h
  obtain ⟨F', h4, h5⟩ := sep_pick h2 hq
  exact ⟨h1, F', h4, fun b hb => h3 b (h5 b hb)⟩
end Go.Proofs.YtpiimlmfcdjbbaaGreatDoor

/- Contracts: own rows of records; a book copied. -/
namespace Go.Proofs.YtpiimlmfcdjbbaaGreatDoor
open Go.RowKit

/-- A row of records of its own. -/
abbrev Recs (v : Value) (ys : List Rec) : Asn := Own 30 4 v ys.length (ys.flatMap rcEnc)
theorem rec_ones (ys : List Rec) : ∀ u ∈ ys.flatMap rcEnc, u.oneCell' = true := by
  intro u hu
  obtain ⟨r, _, hr⟩ := List.mem_flatMap.1 hu
  simp only [rcEnc, List.mem_cons, List.not_mem_nil, or_false] at hr
  rcases hr with rfl | rfl | rfl | rfl <;> rfl
theorem flat4_len (ys : List Rec) : (ys.flatMap rcEnc).length = ys.length * 4 := by
  induction ys with
  | nil => rfl
  | cons y ys ih => rw [List.flatMap_cons, List.length_append, ih, List.length_cons]; simp [rcEnc]; omega
theorem flat4_take : ∀ (ys : List Rec) (i : Nat), (ys.flatMap rcEnc).take (i * 4) = (ys.take i).flatMap rcEnc
  | [], i => by simp
  | y :: ys, 0 => by simp
  | y :: ys, i + 1 => by
    rw [List.flatMap_cons, List.take_succ_cons, List.flatMap_cons, show (i + 1) * 4 = (rcEnc y).length + i * 4 by simp [rcEnc]; omega, List.take_length_add_append, flat4_take ys i]
theorem flat4_drop : ∀ (ys : List Rec) (i : Nat), (ys.flatMap rcEnc).drop (i * 4) = (ys.drop i).flatMap rcEnc
  | [], i => by simp
  | y :: ys, 0 => by simp
  | y :: ys, i + 1 => by
    rw [List.flatMap_cons, List.drop_succ_cons, show (i + 1) * 4 = (rcEnc y).length + i * 4 by simp [rcEnc]; omega, List.drop_length_add_append, flat4_drop ys i]
theorem flat4_get {ys : List Rec} {k j : Nat} {u : Value} (hk : k < ys.length) (hu : (rcEnc ys[k])[j]? = some u) : (ys.flatMap rcEnc)[k * 4 + j]? = some u := by
  have h1 : ((ys.flatMap rcEnc).drop (k * 4))[j]? = some u := by
    rw [flat4_drop, List.drop_eq_getElem_cons hk, List.flatMap_cons, List.getElem?_append_left (List.getElem?_eq_some_iff.1 hu).1]
    exact hu
  rwa [List.getElem?_drop] at h1
theorem flat4_set {ys : List Rec} {k : Nat} (hk : k < ys.length) (r : Rec) :
    ((((ys.flatMap rcEnc).set (k * 4) (.string (ms r.name))).set (k * 4 + 1) (.int .i64 r.sys)).set (k * 4 + 2) (.int .i64 r.size)).set (k * 4 + 3) (.int .i64 r.extra) = (ys.set k r).flatMap rcEnc := by
  have e : ys.flatMap rcEnc = (ys.take k).flatMap rcEnc ++ (rcEnc ys[k] ++ (ys.drop (k + 1)).flatMap rcEnc) := by
    rw [← List.flatMap_cons, List.getElem_cons_drop, ← List.flatMap_append, List.take_append_drop]
  have hl : ((ys.take k).flatMap rcEnc).length = k * 4 := by rw [flat4_len, List.length_take]; omega
  have e2 : (ys.set k r).flatMap rcEnc = (ys.take k).flatMap rcEnc ++ (rcEnc r ++ (ys.drop (k + 1)).flatMap rcEnc) := by
    rw [List.set_eq_take_append_cons_drop, if_pos hk, List.flatMap_append, List.flatMap_cons]
  rw [e, e2]
  generalize (ys.take k).flatMap rcEnc = X at *
  generalize (ys.drop (k + 1)).flatMap rcEnc = Z at *
  rw [List.set_append_right _ _ (by omega), List.set_append_right _ _ (by omega), List.set_append_right _ _ (by omega), List.set_append_right _ _ (by omega), hl]
  simp only [Nat.sub_self, Nat.add_sub_cancel_left]
  rfl
theorem Sp.recs_row {w0 w : World} {ps : List Asn} {i : Nat} {v : Value} {ys : List Rec} (h : Sp w0 w ps) (hi : ps[i]? = some (Recs v ys)) (hg : ∀ y ∈ ys, rcOk y) :
    ∃ F, rcTy.row true w v ys F ∧ F.Nodup ∧ ∀ b ∈ F, w0.heap.size ≤ b := by
  obtain ⟨Fi, ⟨rfl, ho⟩, hF, -⟩ := h.upd hi
  obtain ⟨F, hr, hF2, _⟩ := Ty.row_of_owns (T := rcTy) (xs := ys) (G := []) ho rfl (by decide) (flat_all.2 ⟨rfl, hg, rfl⟩)
  refine ⟨F, hr, ?_, fun b hb => ?_⟩
  · rcases hF2 with rfl | ⟨g, _, _, _, rfl⟩ <;> simp
  · rcases hF2 with rfl | ⟨g, _, _, hg, rfl⟩
    · cases hb
    · refine hF b ?_
      rw [hg]; simpa using hb
theorem row_read {v : Value} {xs : List Rec} {F : List Nat} {w : World} (h : rcTy.row true w v xs F) : rcTy.row false w v xs F := Ty.row_down h
theorem rec_src {v : Value} {xs : List Rec} {F : List Nat} {w : World} (h : rcTy.row false w v xs F) : ∃ A c, v = .slice A xs.length c ∧ Src w A xs.length 4 (xs.flatMap rcEnc) ∧ (∀ x ∈ xs, rcOk x) ∧ (A = none → xs = []) := by
  obtain ⟨A, c, cs, G, rfl, hall, hs, _⟩ := row_src h
  obtain ⟨rfl, h2, _⟩ := flat_all.1 hall
  refine ⟨A, c, rfl, hs, h2, ?_⟩
  rintro rfl
  rcases hs with ⟨h, _⟩ | ⟨ad, e, _⟩
  · exact List.length_eq_zero_iff.1 h
  · cases e

set_option maxRecDepth 100000 in
set_option maxHeartbeats 4000000 in
theorem cloneR_any (v : Value) (xs : List Rec) (F : List Nat) (w : World) (hx : rcTy.row false w v xs F) (hl : xs.length ≤ 1000) :
    Calls Tryz.prog 18 #[v] w fun e w' => ∃ A c, e = .returned (.slice A xs.length c) ∧ Sp w w' [Recs (.slice A xs.length c) xs] := by
  obtain ⟨i0, hi0, hz0, hz1, hz2⟩ := info_parts infoRc
  obtain ⟨A, c, rfl, hsr, hg, hnone⟩ := rec_src hx
  have hnil := fun w : World => Lib.run_eql_slice_nil (P := Tryz.prog) w 24 30 A xs.length c 0 0 Tryz.underlying24
  cases A with
  | none =>
    obtain rfl := hnone rfl
    simp only [Option.isNone_none, List.length_nil] at hnil ⊢
    have S0 := (Sp.start w).own_nil 30 4
    replace S0 := Lib.hid S0
    clear hx hsr
    go_enter Tryz.func18, Tryz.ntmps18
    go_wp2_with fail
    go_ret
    exact ⟨_, _, rfl, S0.out⟩
  | some ad =>
    simp only [Option.isNone_some] at hnil
    have S4 := (Sp.start w).own_made 30 4
    have hsr2 := Lib.hid (hsr.grow S4.below)
    have h1c := Lib.hid (rec_ones xs)
    replace S4 := Lib.hid S4
    clear hx hsr hnone
    go_enter Tryz.func18, Tryz.ntmps18
    go_wp2_with (at_builtin; refine wpList_append_src rfl _ _ rfl Tryz.underlying24 hi0 hz0 hz1 hz2 rfl (by decide) _ 0 _ rfl (S4.out.own (i := 0) rfl) (some ad) xs.length c (xs.flatMap rcEnc) rfl hsr2.out h1c.out ?c3 ?c4 ?_)
    case c3 => unfold maxLen; omega
    case c4 => omega
    intro vY wY hownY hgY hatY
    have S5 := S4.out.own_push (i := 0) rfl (bb _) hownY hgY (by simpa using hatY)
    (try rw [List.nil_append] at S5)
    (try simp only [Nat.zero_add, List.set_cons_zero] at S5)
    replace S5 := Lib.hid S5
    obtain ⟨aY, cY, rfl⟩ := own_slice hownY
    clear S4 hownY hgY hatY hsr2 h1c hnil
    go_wp2_with fail
    go_ret
    exact ⟨_, _, rfl, S5.out⟩
end Go.Proofs.YtpiimlmfcdjbbaaGreatDoor

/- Contracts: a name's records left out, in the program. -/
namespace Go.Proofs.YtpiimlmfcdjbbaaGreatDoor
open Go.RowKit

/-- clear(s), s a slice of elements of several cells. -/
theorem run_clear_rows {P : Program} (w : World) (t e ty : TypeId) (z : Value) (ht : P.underlying t = some (.slice e)) (hv : ∀ w, (zeroValue e).run P w = .ok z w) (b o n c : Nat) (hn : 0 < n)
    (h1 : ∀ u ∈ (Builtin.zeroCells z.cells n).toList, u.oneCell' = true) (hc : ∀ j, j < (Builtin.zeroCells z.cells n).toList.length → (w.cell? ⟨b, o + j, none⟩).isSome = true) (hf : ∀ j, j < (Builtin.zeroCells z.cells n).toList.length → w.frozen? ⟨b, o + j, none⟩ = false) :
    (Builtin.clear_ #[t] ty #[.slice (some ⟨b, o, none⟩) n c]).run P w = .ok (.tuple #[]) (w.setCells b o (Builtin.zeroCells z.cells n).toList) := by
  have hst := run_storeCells_cells (P := P) b o (Builtin.zeroCells z.cells n).toList 0 w (by simpa using hc) (by simpa using hf) h1
  simp only [Nat.add_zero] at hst
  obtain ⟨m, rfl⟩ : ∃ m, n = m + 1 := ⟨n - 1, by omega⟩
  simp [Builtin.clear_, run_underlying ht, hv, hst]

set_option maxHeartbeats 1000000 in
theorem dropCl_any (r : Rec) (n : List UInt8) (bn : Nat) (w : World) (kn : w.cell? ⟨bn, 0, none⟩ = some (.string (ms n))) :
    Calls Tryz.prog 39 #[rcV r, .pointer (some ⟨bn, 0, none⟩)] w fun e w' => e = .returned (.bool (r.name == n)) ∧ Below w.heap.size w w' := by
  have hB := bal (bb w) (.cells #[.string (ms r.name), .int .i64 r.sys, .int .i64 r.size, .int .i64 r.extra] 30)
  have k0 := cell_alloc kn (.cells #[.string (ms r.name), .int .i64 r.sys, .int .i64 r.size, .int .i64 r.extra] 30)
  go_enter Tryz.func39, Tryz.ntmps39
  go_wp2_with fail
  go_ret
  exact ⟨rfl, hB⟩
/-- Where the first record of a name stands, or -1. -/
def FindN (xs : List Rec) (n : List UInt8) (z : Int) : Prop := (z = -1 ∧ ∀ r ∈ xs, (r.name == n) = false) ∨ ∃ k, ∃ h : k < xs.length, z = (k : Int) ∧ (xs[k].name == n) = true ∧ ∀ r ∈ xs.take k, (r.name == n) = false
theorem none_next {xs : List Rec} {n : List UInt8} {k : Nat} (h : ∀ r ∈ xs.take k, (r.name == n) = false) (hk : k < xs.length) (hp : (xs[k].name == n) = false) : ∀ r ∈ xs.take (k + 1), (r.name == n) = false := by
  rw [List.take_succ_eq_append_getElem hk]
  intro r hr
  rcases List.mem_append.1 hr with hr | hr
  · exact h r hr
  · rw [List.mem_singleton.1 hr]; exact hp

set_option maxHeartbeats 2000000 in
theorem indexName_any (v : Value) (xs : List Rec) (n : List UInt8) (bn : Nat) (F : List Nat) (w : World) (hx : rcTy.row false w v xs F) (kn : w.cell? ⟨bn, 0, none⟩ = some (.string (ms n))) :
    Calls Tryz.prog 26 #[v, .func (.func 39) #[] #[.pointer (some ⟨bn, 0, none⟩)]] w fun e w' => ∃ z, e = .returned (.int .i64 z) ∧ FindN xs n z ∧ Below w.heap.size w w' := by
  have eg : ∀ args w, (callFunc 39 args).run Tryz.prog w = .ok (.enter 39 args) w := enters_of Tryz.func39 (by kernel_rfl) rfl
  obtain ⟨a, c, rfl, hx1, hx2, hg, hx3⟩ := row_rc hx
  have hbn := World.block_lt_of_cell? _ _ kn
  clear hx hg
  go_enter Tryz.func26, Tryz.ntmps26
  go_wp2_with fail
  go_loopw [8] (fun i wr => ∃ k : Nat, k ≤ xs.length ∧ i = .int .i64 k ∧ Hid (∀ r ∈ xs.take k, (r.name == n) = false) ∧ Hid (Below w.heap.size w wr)) (fun i _ => xs.length - (intOf i).toNat)
  case atStart => exact ⟨0, Nat.zero_le _, rfl, by simp [Hid], bb _⟩
  case round =>
    obtain ⟨k, hk, rfl, HD, HB⟩ := hrel
    by_cases hlt : k < xs.length
    · rcases hx3 with ⟨rfl, rfl⟩ | ⟨hxn, b, off, rfl, rfl, hxc⟩
      · exact absurd hlt (by simp)
      obtain ⟨p0, p1, p2, p3⟩ := hxc k hlt
      have hp := HB.out.block b p0.lt
      have k0 := (p0.keep hp).1
      have k1 := (p1.keep hp).1
      have k2 := (p2.keep hp).1
      have k3 := (p3.keep hp).1
      have jn := ((bcell HB.out).1 bn 0 hbn).trans kn
      have hcall := Lib.hid (dropCl_any xs[k] n bn wr jn)
      clear p0 p1 p2 p3 hp hxc jn
      cases hq : xs[k].name == n
      · have HD2 := Lib.hid (none_next HD.out hlt hq)
        rw [hq] at hcall
        clear HD hq
        go_wp2_with fail
        refine hcall.out.mono ?_
        rintro e w1 ⟨rfl, hb1⟩
        have HB2 := Lib.hid (btr HB.out hb1)
        go_wp2_with fail
        go_roundw
        case rel => exact ⟨k + 1, by omega, by go_num, HD2, HB2⟩
        case measure => simp [intOf]; omega
      · have hR : Hid (FindN xs n k) := .inr ⟨k, hlt, rfl, hq, HD.out⟩
        rw [hq] at hcall
        clear HD hq
        go_wp2_with fail
        refine hcall.out.mono ?_
        rintro e w1 ⟨rfl, hb1⟩
        have hB := btr HB.out hb1
        go_wp2_with fail
        go_ret
        exact ⟨_, rfl, hR.out, hB⟩
    · obtain rfl : k = xs.length := by omega
      have hR : Hid (FindN xs n (-1)) := .inl ⟨rfl, by have := HD.out; rwa [List.take_length] at this⟩
      clear HD
      go_wp2_with fail
      go_ret
      exact ⟨_, rfl, hR.out, HB.out⟩
end Go.Proofs.YtpiimlmfcdjbbaaGreatDoor

/- Contracts: a name's records left out of a list of its own; DropName, in the program. -/
namespace Go.Proofs.YtpiimlmfcdjbbaaGreatDoor
open Go.RowKit

theorem run_slice_from4 {P : Program} {T e : TypeId} {i : TypeInfo} (hT : P.underlying T = some (.slice e)) (hi : P.info? e = some i) (hs : i.size = 4) (g len cap k : Nat) (w : World) (hk : k ≤ len) (hc : k < cap) :
    (Instr.sliceAt T (.slice (some ⟨g, 0, none⟩) len cap) (some (.int .i64 k)) none none).run P w = .ok (.slice (some ⟨g, k * 4, none⟩) (len - k) (cap - k)) w := by
  have hb : (Instr.sliceBounds true len cap (some (.int .i64 k)) none none).run P w = .ok (k, len, cap) w := by
    simp [Instr.sliceBounds, run_sliceBound (P := P) w .i64 (k : Int) len .sliceB (by omega) (by omega)]
  have hA : (if cap = k then (some ⟨g, 0, none⟩ : Option Addr) else (some ⟨g, 0, none⟩ : Option Addr).map (·.add (k * i.size))) = some ⟨g, k * 4, none⟩ := by
    rw [if_neg (by omega), hs]
    simp [Addr.add]
    try exact fun h => h.symm
  simp [Instr.sliceAt, run_underlying hT, Instr.slice, hb, sizeOf, typeInfo, hi]
  first | exact hA | simpa using hA
/-- How many stay of the first j. -/
def leftN (xs : List Rec) (n : List UInt8) (j : Nat) : Nat := ((xs.take j).filter fun r => !(r.name == n)).length
theorem left_succ {xs : List Rec} {n : List UInt8} {j : Nat} (h : j < xs.length) : leftN xs n (j + 1) = leftN xs n j + (if xs[j].name == n then 0 else 1) := by
  unfold leftN
  rw [List.take_succ_eq_append_getElem h, List.filter_append, List.length_append]
  cases hp : xs[j].name == n <;> simp [hp]
theorem left_none {xs : List Rec} {n : List UInt8} {k : Nat} (h : ∀ r ∈ xs.take k, (r.name == n) = false) (hk : k ≤ xs.length) : leftN xs n k = k := by
  unfold leftN
  rw [List.filter_eq_self.2 (fun x hx => by rw [h x hx]; rfl), List.length_take]; omega
abbrev RParts (g bn : Nat) (cur : Array Value) (n : List UInt8) : List Asn := [Box g 30 cur, Box bn 9 #[.string (ms n)]]
/-- While records are left out. -/
def RI (w0 : World) (g bn : Nat) (n : List UInt8) (xs : List Rec) (cap i j : Nat) (wr : World) : Prop :=
  ∃ cur, cur.size = cap * 4 ∧ leftN xs n j = i ∧ (∀ q (h : q < xs.length), j ≤ q → ∀ o u, (rcEnc xs[q])[o]? = some u → cur[q * 4 + o]? = some u) ∧ Sp w0 wr (RParts g bn cur n)
theorem enc_lt {r : Rec} {o : Nat} {u : Value} (h : (rcEnc r)[o]? = some u) : o < 4 := by
  have := (List.getElem?_eq_some_iff.1 h).1
  simpa [rcEnc] using this
theorem rec_zeros (m : Nat) : (Builtin.zeroCells (Value.agg #[.string ⟨#[]⟩, .int .i64 0, .int .i64 0, .int .i64 0]).cells m).toList.length = m * 4 ∧ ∀ u ∈ (Builtin.zeroCells (Value.agg #[.string ⟨#[]⟩, .int .i64 0, .int .i64 0, .int .i64 0]).cells m).toList, u.oneCell' = true := by
  refine ⟨by simp [Builtin.zeroCells, Value.cells], fun u hu => ?_⟩
  simp only [Builtin.zeroCells, Value.cells, Array.toList_map, List.mem_map] at hu
  obtain ⟨i, -, rfl⟩ := hu
  have h4 : i % 4 < 4 := Nat.mod_lt _ (by decide)
  show ((#[Value.string ⟨#[]⟩, .int .i64 0, .int .i64 0, .int .i64 0] : Array Value)[i % 4]!).oneCell' = true
  generalize i % 4 = j at h4
  match j, h4 with
  | 0, _ => rfl
  | 1, _ => rfl
  | 2, _ => rfl
  | 3, _ => rfl

set_option maxRecDepth 100000 in
set_option maxHeartbeats 8000000 in
theorem deleteRec_any {w0 w : World} {g bn : Nat} {cur : Array Value} {n : List UInt8} {xs : List Rec} {cap : Nat} (S : Sp w0 w (RParts g bn cur n))
    (hN : ∀ q (h : q < xs.length), ∀ o u, (rcEnc xs[q])[o]? = some u → cur[q * 4 + o]? = some u) (hg : ∀ x ∈ xs, rcOk x) (h0 : 0 < xs.length) (hs : cur.size = cap * 4) (hn : xs.length ≤ 24) (hcap : xs.length ≤ cap) (hcm : cap ≤ 9223372036854775807) :
    Calls Tryz.prog 38 #[.slice (some ⟨g, 0, none⟩) xs.length cap, .func (.func 39) #[] #[.pointer (some ⟨bn, 0, none⟩)]] w fun e w' =>
      e = .returned (.slice (some ⟨g, 0, none⟩) (leftN xs n xs.length) cap) ∧ Below w0.heap.size w0 w' := by
  obtain ⟨i0, hi, hz0, hz1, hz2⟩ := info_parts infoRc
  have eg : ∀ args w, (callFunc 39 args).run Tryz.prog w = .ok (.enter 39 args) w := enters_of Tryz.func39 (by kernel_rfl) rfl
  have hsl1 := @run_slice_to Tryz.prog _ _ _ Tryz.underlying24 hi
  have hsl2 := @run_slice_from4 Tryz.prog _ _ _ Tryz.underlying24 hi hz1
  have hrow : rcTy.row false w (.slice (some ⟨g, 0, none⟩) xs.length cap) xs [g] :=
    row_flat_mk (wr := false) (w := w) (b := g) (off := 0) (cap := cap) (n := 4) (enc := rcEnc) (good := rcOk) (hn := fun _ => rfl) (xs := xs) hg hcap (by omega) (List.length_pos_iff.1 h0) (by omega) (fun q hq o u hu => by
      refine ⟨?_, fun h => by cases h⟩
      have := S.cell (i := 0) rfl (hN q hq o u hu)
      rw [Nat.zero_add]
      exact this)
  have hix := Lib.hid (indexName_any _ xs n bn [g] w hrow (S.cell (i := 1) rfl (o := 0) rfl))
  replace S := Lib.hid S
  replace hN := Lib.hid hN
  replace hs := Lib.hid hs
  clear hrow
  go_enter Tryz.func38, Tryz.ntmps38
  go_wp2_with fail
  refine hix.out.mono ?_
  rintro e w1 ⟨z, rfl, hz, hb1⟩
  have S1 := Lib.hid (S.out.grow hb1)
  clear S hix hb1
  rcases hz with ⟨rfl, hall⟩ | ⟨k, hk, rfl, hpk, hall⟩
  · have hR : Hid (leftN xs n xs.length = xs.length) := left_none (fun r hr => hall r (List.mem_of_mem_take hr)) (Nat.le_refl _)
    have hB := Lib.hid S1.out.below
    clear hall
    go_wp2_with fail
    go_ret
    exact ⟨by rw [hR.out]; rfl, hB.out⟩
  · have HI : Hid (RI w0 g bn n xs cap k (k + 1) w1) :=
      ⟨cur, hs.out, by rw [left_succ hk, hpk, left_none hall (by omega)]; rfl, fun q h _ => hN.out q h, S1.out⟩
    have hne1 : ((k : Int) == -1) = false := by rw [beq_eq_false_iff_ne]; omega
    clear hall hpk S1 hN hs
    go_wp2_with fail
    go_loopw [5, 6] (fun vi vj wr => ∃ i j : Nat, i < j ∧ j ≤ xs.length ∧ vi = .int .i64 i ∧ vj = .int .i64 j ∧ Hid (RI w0 g bn n xs cap i j wr)) (fun _ vj _ => xs.length - (intOf vj).toNat)
    case atStart => exact ⟨k, k + 1, by omega, by omega, rfl, by go_num, HI⟩
    case round =>
      obtain ⟨i, j, hij, hj, rfl, rfl, HD⟩ := hrel
      clear HI
      by_cases hlt : j < xs.length
      · obtain ⟨cur, hs, hl, hrest, S⟩ := HD.out
        have k0 := S.cell (i := 0) rfl (hrest j hlt (Nat.le_refl _) 0 _ rfl)
        have k1 := S.cell (i := 0) rfl (hrest j hlt (Nat.le_refl _) 1 _ rfl)
        have k2 := S.cell (i := 0) rfl (hrest j hlt (Nat.le_refl _) 2 _ rfl)
        have k3 := S.cell (i := 0) rfl (hrest j hlt (Nat.le_refl _) 3 _ rfl)
        simp only [Nat.add_zero] at k0
        have S1 := Lib.hid (S.alloc_box #[.string (ms xs[j].name), .int .i64 xs[j].sys, .int .i64 xs[j].size, .int .i64 xs[j].extra] 30)
        have hcall := Lib.hid (dropCl_any xs[j] n bn _ (S1.out.cell (i := 2) rfl (o := 0) rfl))
        have hks := Lib.hid (left_succ (n := n) hlt)
        replace hl := Lib.hid hl
        replace hrest := Lib.hid hrest
        replace hs := Lib.hid hs
        clear S HD
        cases hq : xs[j].name == n
        · rw [hq] at hcall hks
          go_wp2_with fail
          refine hcall.out.mono ?_
          rintro e w2 ⟨rfl, hb2⟩
          have S2 := S1.out.grow hb2
          have b0 := S2.cell (i := 0) rfl (o := 0) rfl
          have b1 := S2.cell (i := 0) rfl (o := 1) rfl
          have b2 := S2.cell (i := 0) rfl (o := 2) rfl
          have b3 := S2.cell (i := 0) rfl (o := 3) rfl
          obtain ⟨v0, e0⟩ : ∃ u, cur[i * 4]? = some u := ⟨_, Array.getElem?_eq_getElem (by rw [hs.out]; omega)⟩
          have c0 := S2.cell (i := 1) rfl e0
          obtain ⟨v1, e1⟩ : ∃ u, cur[i * 4 + 1]? = some u := ⟨_, Array.getElem?_eq_getElem (by rw [hs.out]; omega)⟩
          have c1 := S2.cell (i := 1) rfl e1
          obtain ⟨v2, e2⟩ : ∃ u, cur[i * 4 + 2]? = some u := ⟨_, Array.getElem?_eq_getElem (by rw [hs.out]; omega)⟩
          have c2 := S2.cell (i := 1) rfl e2
          obtain ⟨v3, e3⟩ : ∃ u, cur[i * 4 + 3]? = some u := ⟨_, Array.getElem?_eq_getElem (by rw [hs.out]; omega)⟩
          have c3 := S2.cell (i := 1) rfl e3
          have y0 := S2.frozen (i := 1) rfl (i * 4)
          have y1 := S2.frozen (i := 1) rfl (i * 4 + 1)
          have y2 := S2.frozen (i := 1) rfl (i * 4 + 2)
          have y3 := S2.frozen (i := 1) rfl (i * 4 + 3)
          have HD2 : Hid (RI w0 g bn n xs cap (i + 1) (j + 1) ((((w2.setCell ⟨g, i * 4, none⟩ (.string (ms xs[j].name))).setCell ⟨g, i * 4 + 1, none⟩ (.int .i64 xs[j].sys)).setCell ⟨g, i * 4 + 2, none⟩ (.int .i64 xs[j].size)).setCell ⟨g, i * 4 + 3, none⟩ (.int .i64 xs[j].extra))) := by
            refine ⟨(((cur.setIfInBounds (i * 4) (.string (ms xs[j].name))).setIfInBounds (i * 4 + 1) (.int .i64 xs[j].sys)).setIfInBounds (i * 4 + 2) (.int .i64 xs[j].size)).setIfInBounds (i * 4 + 3) (.int .i64 xs[j].extra), by simpa using hs.out, by rw [hks.out, hl.out]; rfl, fun q h hjq o u hu => ?_,
              ((((S2.store (i := 1) rfl (i * 4) (.string (ms xs[j].name))).store (i := 1) rfl (i * 4 + 1) (.int .i64 xs[j].sys)).store (i := 1) rfl (i * 4 + 2) (.int .i64 xs[j].size)).store (i := 1) rfl (i * 4 + 3) (.int .i64 xs[j].extra)).tail⟩
            have ho := enc_lt hu
            rw [Array.getElem?_setIfInBounds, if_neg (by omega), Array.getElem?_setIfInBounds, if_neg (by omega), Array.getElem?_setIfInBounds, if_neg (by omega), Array.getElem?_setIfInBounds, if_neg (by omega)]
            exact hrest.out q h (by omega) o u hu
          clear S1 S2 hb2 hcall hks hl hrest hs k0 k1 k2 k3 e0 e1 e2 e3
          go_wp2_with fail
          go_roundw
          case rel => exact ⟨i + 1, j + 1, by omega, by omega, by go_num, by go_num, HD2⟩
          case measure => simp [intOf]; omega
        · rw [hq] at hcall hks
          go_wp2_with fail
          refine hcall.out.mono ?_
          rintro e w2 ⟨rfl, hb2⟩
          have HD2 : Hid (RI w0 g bn n xs cap i (j + 1) w2) :=
            ⟨cur, hs.out, by rw [hks.out, hl.out]; rfl, fun q h hjq o u hu => hrest.out q h (by omega) o u hu, (S1.out.grow hb2).tail⟩
          clear S1 hb2 hcall hks hl hrest hs k0 k1 k2 k3
          go_wp2_with fail
          go_roundw
          case rel => exact ⟨i, j + 1, by omega, by omega, rfl, by go_num, HD2⟩
          case measure => simp [intOf]; omega
      · obtain rfl : j = xs.length := by omega
        obtain ⟨cur, hs, hl, hrest, S⟩ := HD.out
        have hic : i < cap := by omega
        have hs2 := hsl2 g xs.length cap i wr (by omega) hic
        obtain ⟨hz4, hzo⟩ := rec_zeros (xs.length - i)
        have hcl : ∀ ty, (Builtin.clear_ #[24] ty #[.slice (some ⟨g, i * 4, none⟩) (xs.length - i) (cap - i)]).run Tryz.prog wr = .ok (.tuple #[]) (wr.setCells g (i * 4) (Builtin.zeroCells (Value.agg #[.string ⟨#[]⟩, .int .i64 0, .int .i64 0, .int .i64 0]).cells (xs.length - i)).toList) :=
          fun ty => run_clear_rows wr _ _ ty _ Tryz.underlying24 Tryz.zeroValue30 g (i * 4) _ _ (by omega) hzo (fun q hq => by
            rw [hz4] at hq
            rw [S.cell (i := 0) rfl (Array.getElem?_eq_getElem (show i * 4 + q < cur.size by omega))]; rfl) (fun q hq => S.frozen (i := 0) rfl (i * 4 + q))
        have hs1 := hsl1 (some ⟨g, 0, none⟩) xs.length cap i
        obtain ⟨cur', S2, hs', hq'⟩ := S.setCells (i := 0) (Builtin.zeroCells (Value.agg #[.string ⟨#[]⟩, .int .i64 0, .int .i64 0, .int .i64 0]).cells (xs.length - i)).toList (i * 4) rfl
        have hB := Lib.hid S2.below
        replace hl := Lib.hid hl
        clear HD S S2 hrest hs hs' hq' hsl1 hsl2 hz4 hzo
        generalize wr.setCells g (i * 4) (Builtin.zeroCells (Value.agg #[.string ⟨#[]⟩, .int .i64 0, .int .i64 0, .int .i64 0]).cells (xs.length - i)).toList = W at *
        have hs1 := hs1 W (by omega)
        go_wp2_with fail
        go_ret
        exact ⟨by rw [hl.out]; rfl, hB.out⟩
end Go.Proofs.YtpiimlmfcdjbbaaGreatDoor

/- Contract: DropName, in the program. -/
namespace Go.Proofs.YtpiimlmfcdjbbaaGreatDoor
open Go.RowKit

theorem left_lt {xs : List Rec} {n : List UInt8} (h : ∃ r ∈ xs, r.name = n) : leftN xs n xs.length < xs.length := by
  unfold leftN
  rw [List.take_length]
  rcases Nat.lt_or_ge (xs.filter fun r => !(r.name == n)).length xs.length with h1 | h1
  · exact h1
  · have h2 := List.length_filter_eq_length_iff.1 (Nat.le_antisymm (List.length_filter_le _ _) h1)
    obtain ⟨r, hr, rfl⟩ := h
    have := h2 r hr
    simp at this
/-- An own row's block by itself. -/
theorem own_front_box {w0 w : World} {e : TypeId} {size n c : Nat} {A : Option Addr} {cells : List Value} {ps : List Asn} (h : Sp w0 w (Own e size (.slice A n c) n cells :: ps)) (h0 : 0 < n) :
    ∃ g cur, A = some ⟨g, 0, none⟩ ∧ Sp w0 w (Box g e cur :: ps) ∧ n ≤ c ∧ c ≤ maxLen ∧ cur.size = c * size ∧ cur.toList.take (n * size) = cells := by
  obtain ⟨g, cap, cur, e1, -, hg, hnc, hmx, hc, ht⟩ := own_block (h.own (i := 0) rfl) h0
  simp only [Value.slice.injEq] at e1
  obtain ⟨rfl, -, rfl⟩ := e1
  obtain ⟨h1, F, ⟨F1, F2, rfl, hd, ⟨rfl, -⟩, h2⟩, h3⟩ := h
  exact ⟨g, cur, rfl, ⟨h1, _, ⟨[g], F2, rfl, by simpa [Value.ownBlock] using hd, ⟨rfl, hg⟩, h2⟩, by simpa [Value.ownBlock] using h3⟩, hnc, hmx, hc, ht⟩

set_option maxRecDepth 100000 in
set_option maxHeartbeats 4000000 in
theorem dropName_any (v : Value) (xs : List Rec) (n : List UInt8) (F : List Nat) (w : World) (hx : rcTy.row false w v xs F) (hb : bookB xs = true) (hne : ∃ r ∈ xs, r.name = n) :
    Calls Tryz.prog 15 #[v, .string (ms n)] w fun e w' => ∃ A m c, m < xs.length ∧ e = .returned (.tuple #[.slice A m c, .bool true]) ∧ Below w.heap.size w w' := by
  have h24 := book_le' hb
  have h0 : 0 < xs.length := by obtain ⟨r, hr, -⟩ := hne; exact List.length_pos_of_mem hr
  have hlt := left_lt hne
  obtain ⟨a, c, rfl, hx1, hx2, hg, hx3⟩ := row_rc hx
  have S0 := Lib.hid ((Sp.start w).alloc_box #[.string (ms n)] 9)
  have hx2' := Lib.hid (fun W (h : Below w.heap.size w W) => Ty.row_below hx h (Ty.row_lt hx))
  clear hx hx3
  go_enter Tryz.func15, Tryz.ntmps15
  go_wp2_with fail
  refine (isBook_at (hx2'.out _ S0.out.below) hb).mono ?_
  rintro e w1 ⟨rfl, hb1⟩
  have S1 := Lib.hid (S0.out.grow hb1)
  clear S0 hb1
  go_wp2_with fail
  refine (cloneR_any _ xs F _ (hx2'.out _ S1.out.below) (by omega)).mono ?_
  rintro e w2 ⟨A, c2, rfl, S2⟩
  have S3 := S1.out.seq S2
  obtain ⟨g, cur, rfl, S4, hnc, hmx, hc, ht⟩ := own_front_box S3 h0
  have hdel := Lib.hid (deleteRec_any S4 (fun q hq o u hu => by
    have h1 := flat4_get hq hu
    rw [← ht, List.getElem?_take] at h1
    split at h1
    · rw [← Array.getElem?_toList]; exact h1
    · cases h1) hg h0 hc h24 hnc (by unfold maxLen at hmx; omega))
  clear S1 S2 S3 S4 ht hc
  generalize leftN xs n xs.length = m at hlt hdel
  have hm : ((m : Int) == (xs.length : Int)) = false := by rw [beq_eq_false_iff_ne]; omega
  replace hlt := Lib.hid hlt
  go_wp2_with fail
  refine hdel.out.mono ?_
  rintro e w3 ⟨rfl, hb3⟩
  replace hb3 := Lib.hid hb3
  go_wp2_with fail
  go_ret2
  exact ⟨_, _, _, hlt.out, rfl, hb3.out⟩
end Go.Proofs.YtpiimlmfcdjbbaaGreatDoor

/- Contracts: the cursor that draws from bytes. -/
namespace Go.Proofs.YtpiimlmfcdjbbaaGreatDoor
open Go.RowKit

/-- The bytes that a slice holds can be read. -/
def CodeOk (w : World) (ca : Option Addr) (cl : Nat) : Prop := ∀ j, j < cl → ∃ cb off x, ca = some ⟨cb, off, none⟩ ∧ w.cell? ⟨cb, off + j, none⟩ = some (.int .u8 x) ∧ 0 ≤ x ∧ x ≤ 255
/-- The cursor's block. -/
structure CurIs (A : Nat) (g : Nat) (ca : Option Addr) (cl cc : Nat) (w : World) : Prop where
  ok : ∃ (i : Nat) (s : Int), w.heap[g]? = some (.cells #[.slice ca cl cc, .int .i64 i, .int .u64 s] 46 (0, 0)) ∧ i ≤ A ∧ 0 ≤ s ∧ s < 18446744073709551616
  code : CodeOk w ca cl
  far : 0 < cl → ∀ a, ca = some a → a.block ≠ g
  small : cl ≤ 65536
theorem CodeOk.keep {w w' : World} {ca : Option Addr} {cl : Nat} (h : CodeOk w ca cl) (hk : ∀ a, ca = some a → w'.heap[a.block]? = w.heap[a.block]?) : CodeOk w' ca cl := fun j hj => by
  obtain ⟨cb, off, x, rfl, h1, h2⟩ := h j hj
  exact ⟨cb, off, x, rfl, (World.cell?_of_block (a := ⟨cb, off + j, none⟩) (hk ⟨cb, off, none⟩ rfl)).trans h1, h2⟩
theorem CodeOk.lt {w : World} {ca : Option Addr} {cl : Nat} (h : CodeOk w ca cl) (hl : 0 < cl) : ∀ a, ca = some a → a.block < w.heap.size := by
  obtain ⟨cb, off, x, rfl, h1, _⟩ := h 0 hl
  rintro a e
  cases e
  exact World.block_lt_of_cell? _ _ h1
theorem CodeOk.zero (w : World) (ca : Option Addr) : CodeOk w ca 0 := fun j hj => absurd hj (by omega)
theorem CodeOk.grow {w w' : World} {ca : Option Addr} {cl : Nat} (h : CodeOk w ca cl) (hb : Below w.heap.size w w') : CodeOk w' ca cl := by
  rcases Nat.eq_zero_or_pos cl with rfl | hl
  · exact .zero _ _
  · exact h.keep fun a ha => hb.block _ (h.lt hl a ha)
theorem CurIs.lt {A g : Nat} {ca : Option Addr} {cl cc : Nat} {w : World} (h : CurIs A g ca cl cc w) : g < w.heap.size := by
  obtain ⟨i, s, h, _⟩ := h.ok
  rcases Nat.lt_or_ge g w.heap.size with h' | h'
  · exact h'
  · rw [Array.getElem?_eq_none h'] at h; cases h
theorem CurIs.mono {A A' g : Nat} {ca : Option Addr} {cl cc : Nat} {w : World} (h : CurIs A g ca cl cc w) (hA : A ≤ A') : CurIs A' g ca cl cc w := by
  obtain ⟨⟨i, s, h1, h2, h3⟩, h4, h5, h6⟩ := h
  exact ⟨⟨i, s, h1, by omega, h3⟩, h4, h5, h6⟩
theorem CurIs.grow {A g : Nat} {ca : Option Addr} {cl cc : Nat} {w w' : World} (h : CurIs A g ca cl cc w) (hb : Below w.heap.size w w') : CurIs A g ca cl cc w' := by
  have hlt := h.lt
  obtain ⟨⟨i, s, h1, h2⟩, h4, h5, h6⟩ := h
  refine ⟨⟨i, s, (hb.block g hlt).trans h1, h2⟩, ?_, h5, h6⟩
  rcases Nat.eq_zero_or_pos cl with rfl | hl
  · exact .zero _ _
  · exact h4.keep fun a ha => hb.block _ (h4.lt hl a ha)
/-- A call that turns the cursor alone. -/
def CurPost (R : Value → Prop) (A g : Nat) (ca : Option Addr) (cl cc : Nat) (w : World) (e : Ending) (w' : World) : Prop := ∃ v, R v ∧ e = .returned v ∧ CurIs A g ca cl cc w' ∧ Chg [g] w w'
/-- A number in bounds. -/
def IntIn (lo hi : Int) (v : Value) : Prop := ∃ n : Int, lo ≤ n ∧ n ≤ hi ∧ v = .int .i64 n
/-- The part of the memory that the cursor is. -/
def CurA (A g : Nat) (ca : Option Addr) (cl cc : Nat) : Asn where
  p w F := F = [g] ∧ ∃ (i : Nat) (s : Int), w.heap[g]? = some (.cells #[.slice ca cl cc, .int .i64 i, .int .u64 s] 46 (0, 0)) ∧ i ≤ A ∧ 0 ≤ s ∧ s < 18446744073709551616
  lt := by
    rintro w F ⟨rfl, i, s, h, _⟩ b hb
    obtain rfl : b = g := by simpa using hb
    rcases Nat.lt_or_ge b w.heap.size with h' | h'
    · exact h'
    · rw [Array.getElem?_eq_none h'] at h; cases h
  keep := by
    rintro w w' F ⟨rfl, i, s, h, h2⟩ hk
    exact ⟨rfl, i, s, (hk g (by simp)).trans h, h2⟩
section
variable {w0 w w' : World} {ps : List Asn} {i A A' g cl cc : Nat} {ca : Option Addr}
theorem Sp.cur (h : Sp w0 w ps) (hi : ps[i]? = some (CurA A g ca cl cc)) (hc : CodeOk w0 ca cl) (hs : cl ≤ 65536) :
    CurIs A g ca cl cc w ∧ ∀ w', CurIs A' g ca cl cc w' → Chg [g] w w' → Sp w0 w' (ps.set i (CurA A' g ca cl cc)) := by
  obtain ⟨F, ⟨rfl, hh⟩, hF, hall⟩ := h.upd hi
  have hg := hF g (by simp)
  refine ⟨⟨hh, hc.grow h.below, fun hp a ha => by have := hc.lt hp a ha; omega, hs⟩, fun w' h1 h2 => hall w' _ [g] h2 ⟨rfl, h1.ok⟩ fun b hb => .inl hb⟩
end

theorem u64_in (x : Int) : 0 ≤ IntKind.u64.wrap x ∧ IntKind.u64.wrap x < 18446744073709551616 := by
  have h : IntKind.u64.wrap x = x % 18446744073709551616 := by rfl
  rw [h]; omega
theorem and255 (y : Int) : 0 ≤ bits .and .u64 y 255 ∧ bits .and .u64 y 255 ≤ 255 := by
  have h : bits .and .u64 y 255 = IntKind.u64.wrap (((BitVec.ofInt 64 y &&& BitVec.ofInt 64 255).toNat : Nat) : Int) := rfl
  have h2 : (BitVec.ofInt 64 y &&& BitVec.ofInt 64 255).toNat ≤ 255 := by
    rw [BitVec.toNat_and]
    exact Nat.le_trans Nat.and_le_right (by decide)
  rw [h, IntKind.wrap_u64]
  omega
theorem and255w (y : Int) : 0 ≤ wrap64 (bits .and .u64 y 255) ∧ wrap64 (bits .and .u64 y 255) ≤ 255 := by
  have := and255 y
  unfold wrap64
  omega
theorem cur_step {A g cl cc i : Nat} {ca : Option Addr} {w : World} {s s' : Int} (hg : w.heap[g]? = some (.cells #[.slice ca cl cc, .int .i64 i, .int .u64 s] 46 (0, 0))) (hi : i ≤ A) (hs : 0 ≤ s' ∧ s' < 18446744073709551616)
    (hcode : CodeOk w ca cl) (hfar : 0 < cl → ∀ a, ca = some a → a.block ≠ g) (hsm : cl ≤ 65536) (n m : Nat) :
    CurIs (A + 1) g ca cl cc ((((w.drewN n).setCell ⟨g, 1, none⟩ (.int .i64 ((i : Int) + 1))).setCell ⟨g, 2, none⟩ (.int .u64 s')).drewN m) ∧ Chg [g] w ((((w.drewN n).setCell ⟨g, 1, none⟩ (.int .i64 ((i : Int) + 1))).setCell ⟨g, 2, none⟩ (.int .u64 s')).drewN m) := by
  have hother : ∀ k, k ≠ g → ((((w.drewN n).setCell ⟨g, 1, none⟩ (.int .i64 ((i : Int) + 1))).setCell ⟨g, 2, none⟩ (.int .u64 s')).drewN m).heap[k]? = w.heap[k]? := fun k hk => by
    show (((w.drewN n).setCell ⟨g, 1, none⟩ (.int .i64 ((i : Int) + 1))).setCell ⟨g, 2, none⟩ (.int .u64 s')).heap[k]? = _
    rw [Below.heap_setCell _ _ _ _ hk, Below.heap_setCell _ _ _ _ hk]
    rfl
  have hg' : (w.drewN n).heap[g]? = some (.cells #[.slice ca cl cc, .int .i64 i, .int .u64 s] 46 (0, 0)) := hg
  have hcodeN : CodeOk ((((w.drewN n).setCell ⟨g, 1, none⟩ (.int .i64 ((i : Int) + 1))).setCell ⟨g, 2, none⟩ (.int .u64 s')).drewN m) ca cl := by
    rcases Nat.eq_zero_or_pos cl with h0 | hp
    · rw [h0]; exact .zero _ _
    · exact hcode.keep fun a ha => hother _ (hfar hp a ha)
  refine ⟨⟨⟨i + 1, s', ?_, by omega, hs⟩, hcodeN, hfar, hsm⟩, ⟨rfl, rfl, rfl, by show _ ≤ (((w.drewN n).setCell _ _).setCell _ _).heap.size; simp [World.setCell], fun k _ hn => hother k (by simpa using hn)⟩⟩
  show (((w.drewN n).setCell ⟨g, 1, none⟩ (.int .i64 ((i : Int) + 1))).setCell ⟨g, 2, none⟩ (.int .u64 s')).heap[g]? = _
  simp [World.setCell, Array.getElem?_modify]
  exact ⟨_, hg', rfl⟩

set_option maxRecDepth 100000 in
set_option maxHeartbeats 2000000 in
theorem cur_next (A g : Nat) (ca : Option Addr) (cl cc : Nat) (w : World) (h : CurIs A g ca cl cc w) (hA : A ≤ 1000000000) :
    Calls Tryz.prog 63 #[.pointer (some ⟨g, 0, none⟩)] w (CurPost (IntIn 0 255) (A + 1) g ca cl cc w) := by
  obtain ⟨⟨i, s, hg, hiA, hs0, hs1⟩, hcode, hfar, hsm⟩ := h
  have S0 : Sp w w [] := Sp.start w
  have c0 : w.cell? ⟨g, 0, none⟩ = some (.slice ca cl cc) := by simp [World.cell?, hg]
  have c1 : w.cell? ⟨g, 1, none⟩ = some (.int .i64 i) := by simp [World.cell?, hg]
  have c2 : w.cell? ⟨g, 2, none⟩ = some (.int .u64 s) := by simp [World.cell?, hg]
  have f1 : w.frozen? ⟨g, 1, none⟩ = false := by simp [World.frozen?, hg]
  have f2 : w.frozen? ⟨g, 2, none⟩ = false := by simp [World.frozen?, hg]
  by_cases hlt : i < cl
  · obtain ⟨cb, off, x, rfl, hx, hx0, hx1⟩ := hcode i hlt
    have hne := hfar (by omega) _ rfl
    have hlt' : (i : Int) < (cl : Int) := by omega
    go_enter Tryz.func63, Tryz.ntmps63
    go_wp2_with fail
    go_quiet (fail)
    go_wp2_with fail
    go_quiet (fail)
    go_wp2_with fail
    go_quiet (fail)
    go_wp2_with fail
    go_ret
    obtain ⟨h1, h2⟩ := cur_step hg hiA (u64_in _) hcode hfar hsm _ _
    exact ⟨_, ⟨x, hx0, hx1, rfl⟩, rfl, h1, h2⟩
  · have hge : ¬ (i : Int) < (cl : Int) := by omega
    go_enter Tryz.func63, Tryz.ntmps63
    go_wp2_with fail
    go_quiet (fail)
    go_wp2_with fail
    go_quiet (fail)
    go_wp2_with fail
    go_ret
    obtain ⟨h1, h2⟩ := cur_step hg hiA (u64_in _) hcode hfar hsm _ _
    exact ⟨_, ⟨_, (and255w _).1, (and255w _).2, rfl⟩, rfl, h1, h2⟩

theorem Chg.cell {F : List Nat} {w w' : World} {b o : Nat} {v : Value} (h : Chg F w w') (hc : w.cell? ⟨b, o, none⟩ = some v) (hb : b ∉ F) : w'.cell? ⟨b, o, none⟩ = some v :=
  (World.cell?_of_block (a := ⟨b, o, none⟩) (h.block b (World.block_lt_of_cell? _ _ hc) hb)).trans hc

set_option maxHeartbeats 2000000 in
theorem cur_pick (n : Int) (A g : Nat) (ca : Option Addr) (cl cc : Nat) (w : World) (h : CurIs A g ca cl cc w) (hA : A ≤ 100000000) (hn : n ≤ 1000000000) :
    Calls Tryz.prog 42 #[.pointer (some ⟨g, 0, none⟩), .int .i64 n] w (CurPost (IntIn 0 (if n ≤ 1 then 0 else n - 1)) (A + 2) g ca cl cc w) := by
  by_cases h1 : n ≤ 1
  · rw [if_pos h1]
    go_enter Tryz.func42, Tryz.ntmps42
    go_wp2_with fail
    go_ret
    exact ⟨_, ⟨0, by omega, by omega, rfl⟩, rfl, h.mono (by omega), Chg.refl _ _⟩
  rw [if_neg h1]
  have hn1 : 1 < n := by omega
  have hn0 : 0 < n := by omega
  by_cases h2 : 200 < n
  · go_enter Tryz.func42, Tryz.ntmps42
    go_wp2_with fail
    refine (cur_next A g ca cl cc w h (by omega)).mono ?_
    rintro e w1 ⟨_, ⟨x, hx0, hx1, rfl⟩, rfl, hi1, hc1⟩
    go_wp2_with fail
    refine (cur_next (A + 1) g ca cl cc w1 hi1 (by omega)).mono ?_
    rintro e w2 ⟨_, ⟨y, hy0, hy1, rfl⟩, rfl, hi2, hc2⟩
    have hxy : 0 ≤ x * 256 + y := by omega
    have hm := Int.emod_nonneg (x * 256 + y) (by omega : n ≠ 0)
    have hm2 := Int.emod_lt_of_pos (x * 256 + y) hn0
    have hc := hc1.trans hc2
    replace hm := Lib.hid hm
    replace hm2 := Lib.hid hm2
    go_wp2_with fail
    go_ret
    exact ⟨_, ⟨_, hm.out, by have := hm2.out; omega, rfl⟩, rfl, hi2, hc⟩
  · go_enter Tryz.func42, Tryz.ntmps42
    go_wp2_with fail
    refine (cur_next A g ca cl cc w h (by omega)).mono ?_
    rintro e w1 ⟨_, ⟨x, hx0, hx1, rfl⟩, rfl, hi1, hc1⟩
    have hm := Int.emod_nonneg x (by omega : n ≠ 0)
    have hm2 := Int.emod_lt_of_pos x hn0
    replace hm := Lib.hid hm
    replace hm2 := Lib.hid hm2
    go_wp2_with fail
    go_ret
    exact ⟨_, ⟨_, hm.out, by have := hm2.out; omega, rfl⟩, rfl, hi1.mono (by omega), hc1⟩
theorem cur_pick_at {lo hi : Int} {n : Int} {A g : Nat} {ca : Option Addr} {cl cc : Nat} {w : World} (h : CurIs A g ca cl cc w) (hA : A ≤ 100000000) (hn : n ≤ 1000000000) (h1 : lo ≤ 0) (h2 : 0 ≤ hi) (h3 : n - 1 ≤ hi) :
    Calls Tryz.prog 42 #[.pointer (some ⟨g, 0, none⟩), .int .i64 n] w (CurPost (IntIn lo hi) (A + 2) g ca cl cc w) :=
  (cur_pick n A g ca cl cc w h hA hn).mono fun e w' ⟨v, ⟨x, hx0, hx1, hx⟩, r⟩ => ⟨v, ⟨x, by omega, by split at hx1 <;> omega, hx⟩, r⟩

/-- Some bool. -/
def IsBool (v : Value) : Prop := ∃ q : Bool, v = .bool q
theorem cur_one (n : Int) (A g : Nat) (ca : Option Addr) (cl cc : Nat) (w : World) (h : CurIs A g ca cl cc w) (hA : A ≤ 100000000) (hn : n ≤ 1000000000) :
    Calls Tryz.prog 43 #[.pointer (some ⟨g, 0, none⟩), .int .i64 n] w (CurPost IsBool (A + 2) g ca cl cc w) := by
  go_enter Tryz.func43, Tryz.ntmps43
  go_wp2_with fail
  refine (cur_pick n A g ca cl cc w h hA hn).mono ?_
  rintro e w1 ⟨_, ⟨x, _, _, rfl⟩, rfl, hi1, hc1⟩
  go_wp2_with fail
  go_ret
  exact ⟨_, ⟨_, rfl⟩, rfl, hi1, hc1⟩

/-- A string of which R holds. -/
def StrR (R : ByteArray → Prop) (v : Value) : Prop := ∃ s, R s ∧ v = .string s
/-- A list of strings of which R holds. -/
def StrsR (R : ByteArray → Prop) (w : World) (b off m : Nat) : Prop := ∀ j, j < m → ∃ s, R s ∧ w.cell? ⟨b, off + j, none⟩ = some (.string s)

set_option maxHeartbeats 2000000 in
theorem cur_of (R : ByteArray → Prop) (b off m c : Nat) (A g : Nat) (ca : Option Addr) (cl cc : Nat) (w : World) (h : CurIs A g ca cl cc w) (hA : A ≤ 100000000) (hm0 : 0 < m) (hm : m ≤ 1000000) (hs : StrsR R w b off m) (hb : b ≠ g) :
    Calls Tryz.prog 45 #[.pointer (some ⟨g, 0, none⟩), .slice (some ⟨b, off, none⟩) m c] w (CurPost (StrR R) (A + 2) g ca cl cc w) := by
  go_enter Tryz.func45, Tryz.ntmps45
  go_wp2_with fail
  refine (cur_pick_at (lo := 0) (hi := (m : Int) - 1) h hA (by omega) (by omega) (by omega) (by omega)).mono ?_
  rintro e w1 ⟨_, ⟨x, hx0, hx1, rfl⟩, rfl, hi1, hc1⟩
  obtain ⟨k, rfl⟩ := Int.eq_ofNat_of_zero_le hx0
  have hk : k < m := by omega
  have hk' : (k : Int) < (m : Int) := by omega
  obtain ⟨s, hR, hcell⟩ := hs k hk
  have k0 := hc1.cell hcell (by simpa using hb)
  clear hx1
  go_wp2_with fail
  go_ret
  exact ⟨_, ⟨s, hR, rfl⟩, rfl, hi1, hc1⟩

set_option maxHeartbeats 2000000 in
theorem cur_among (lo hi : Int) (b off m c : Nat) (A g : Nat) (ca : Option Addr) (cl cc : Nat) (w : World) (h : CurIs A g ca cl cc w) (hA : A ≤ 100000000) (hm0 : 0 < m) (hm : m ≤ 1000000) (hs : ∀ j, j < m → ∃ x, lo ≤ x ∧ x ≤ hi ∧ w.cell? ⟨b, off + j, none⟩ = some (.int .i64 x)) (hb : b ≠ g) :
    Calls Tryz.prog 40 #[.pointer (some ⟨g, 0, none⟩), .slice (some ⟨b, off, none⟩) m c] w (CurPost (IntIn lo hi) (A + 2) g ca cl cc w) := by
  go_enter Tryz.func40, Tryz.ntmps40
  go_wp2_with fail
  refine (cur_pick_at (lo := 0) (hi := (m : Int) - 1) h hA (by omega) (by omega) (by omega) (by omega)).mono ?_
  rintro e w1 ⟨_, ⟨x, hx0, hx1, rfl⟩, rfl, hi1, hc1⟩
  obtain ⟨k, rfl⟩ := Int.eq_ofNat_of_zero_le hx0
  have hk : k < m := by omega
  have hk' : (k : Int) < (m : Int) := by omega
  obtain ⟨y, hy0, hy1, hcell⟩ := hs k hk
  have k0 := hc1.cell hcell (by simpa using hb)
  clear hx1
  go_wp2_with fail
  go_ret
  exact ⟨_, ⟨y, hy0, hy1, rfl⟩, rfl, hi1, hc1⟩
end Go.Proofs.YtpiimlmfcdjbbaaGreatDoor

/- Memory in parts beside a cursor that turns. -/
namespace Go.Proofs.YtpiimlmfcdjbbaaGreatDoor
open Go.RowKit

theorem ints_new {lo hi : Int} {W : World} {cs : Array Value} {t : TypeId} {b n : Nat} (hb : b = W.heap.size) (h : ∀ j, j < n → ∃ x, cs[j]? = some (.int .i64 x) ∧ lo ≤ x ∧ x ≤ hi) : ∀ j, j < n → ∃ x, lo ≤ x ∧ x ≤ hi ∧ (W.alloc (.cells cs t)).cell? ⟨b, 0 + j, none⟩ = some (.int .i64 x) := fun j hj => by
  obtain ⟨x, h1, h2, h3⟩ := h j hj
  subst hb
  refine ⟨x, h2, h3, ?_⟩
  rw [Nat.zero_add]
  exact (cell_of_row _ _ _ _ _ _ (heap_alloc_new W _)).trans h1
theorem CurPost.chg {R : Value → Prop} {A g : Nat} {ca : Option Addr} {cl cc : Nat} {w w1 : World} {e : Ending} {w' : World} (h : CurPost R A g ca cl cc w1 e w') (hc : Chg [g] w w1) : CurPost R A g ca cl cc w e w' := by
  obtain ⟨v, h1, h2, h3, h4⟩ := h
  exact ⟨v, h1, h2, h3, hc.trans h4⟩
theorem CurIs.stay {A A' g cl cc : Nat} {ca : Option Addr} {w W W' : World} (h : CurIs A g ca cl cc w) (hi : CurIs A' g ca cl cc W) (hk : ∀ k, k < w.heap.size → W'.heap[k]? = W.heap[k]?) : CurIs A' g ca cl cc W' := by
  have hg := h.lt
  have hl := h.code
  obtain ⟨⟨i, s, h1, h2⟩, h3, h4, h5⟩ := hi
  refine ⟨⟨i, s, (hk g hg).trans h1, h2⟩, ?_, h4, h5⟩
  rcases Nat.eq_zero_or_pos cl with rfl | hp
  · exact .zero _ _
  · exact h3.keep fun a ha => hk _ (hl.lt hp a ha)

/-- Parts of the call's own, beside a cursor g that was there. -/
def CS (w0 : World) (g : Nat) (ca : Option Addr) (cl cc A : Nat) (w : World) (ps : List Asn) : Prop :=
  (∃ A0, CurIs A0 g ca cl cc w0) ∧ CurIs A g ca cl cc w ∧ Chg [g] w0 w ∧ ∃ F, sep ps w F ∧ ∀ b ∈ F, w0.heap.size ≤ b
section
variable {w0 w w' w1 : World} {g cl cc A A' i b o n n' size : Nat} {ca : Option Addr} {ps : List Asn} {q : Asn} {t e : TypeId} {cs : Array Value} {v v' : Value} {xs xs' : List Value}
theorem CS.start (h : CurIs A g ca cl cc w) : CS w g ca cl cc A w [] := ⟨⟨A, h⟩, h, Chg.refl _ _, [], rfl, by simp⟩
theorem CS.cur (h : CS w0 g ca cl cc A w ps) : CurIs A g ca cl cc w := h.2.1
theorem CS.chg (h : CS w0 g ca cl cc A w ps) : Chg [g] w0 w := h.2.2.1
theorem CS.glt (h : CS w0 g ca cl cc A w ps) : g < w0.heap.size := by obtain ⟨⟨A0, h0⟩, _⟩ := h; exact h0.lt
theorem CS.mono (h : CS w0 g ca cl cc A w ps) (hA : A ≤ A') : CS w0 g ca cl cc A' w ps := ⟨h.1, h.2.1.mono hA, h.2.2⟩
theorem CS.turn (h : CS w0 g ca cl cc A w ps) (hi : CurIs A' g ca cl cc w') (hc : Chg [g] w w') : CS w0 g ca cl cc A' w' ps := by
  have hg := h.glt
  obtain ⟨h0, h1, h2, F, h3, h4⟩ := h
  exact ⟨h0, hi, h2.trans hc, F, sep_keep h3 fun b hm => hc.block b (sep_lt h3 b hm) fun hb => by
    obtain rfl : b = g := by simpa using hb
    have := h4 b hm; omega, h4⟩
theorem CS.grow (h : CS w0 g ca cl cc A w ps) (hb : Below w.heap.size w w') : CS w0 g ca cl cc A w' ps := by
  obtain ⟨h0, h1, h2, F, h3, h4⟩ := h
  exact ⟨h0, h1.grow hb, h2.then hb, F, sep_keep h3 fun b hm => hb.block b (sep_lt h3 b hm), h4⟩
theorem CS.new {F : List Nat} (h : CS w0 g ca cl cc A w ps) (hb : Below w.heap.size w w') (hq : q.p w' F) (hF : ∀ b ∈ F, w.heap.size ≤ b) : CS w0 g ca cl cc A w' (q :: ps) := by
  have hsz := h.chg.size
  obtain ⟨h0, h1, h2, F', h3, h4⟩ := h
  refine ⟨h0, h1.grow hb, h2.then hb, F ++ F', ⟨F, F', rfl, fun b hm hm2 => ?_, hq, sep_keep h3 fun b hm => hb.block b (sep_lt h3 b hm)⟩, fun b hm => ?_⟩
  · have := hF b hm; have := sep_lt h3 b hm2; omega
  · rcases List.mem_append.1 hm with hm | hm
    · have := hF b hm; omega
    · exact h4 b hm
theorem CS.upd (h : CS w0 g ca cl cc A w ps) (hi : ps[i]? = some q) : ∃ Fi, q.p w Fi ∧ (∀ b ∈ Fi, w0.heap.size ≤ b) ∧
    ∀ w' q' Fi', Chg Fi w w' → q'.p w' Fi' → (∀ b ∈ Fi', b ∈ Fi ∨ w.heap.size ≤ b) → CS w0 g ca cl cc A w' (ps.set i q') := by
  have hsz := h.chg.size
  obtain ⟨h0, h1, h2, F, h3, h4⟩ := h
  obtain ⟨Fi, hp, hsub, hall⟩ := sep_upd h3 hi
  refine ⟨Fi, hp, fun b hb => h4 b (hsub b hb), fun w' q' Fi' hc hq hF => ?_⟩
  obtain ⟨F', hs, hF'⟩ := hall w' q' Fi' hc hq hF
  have hk : ∀ k, k < w0.heap.size → w'.heap[k]? = w.heap[k]? := fun k hk => hc.block k (Nat.lt_of_lt_of_le hk hsz) fun hm => by have := h4 k (hsub k hm); omega
  obtain ⟨A0, h0'⟩ := h0
  exact ⟨⟨A0, h0'⟩, h0'.stay h1 hk, ⟨hc.os.trans h2.os, hc.tape.trans h2.tape, hc.output.trans h2.output, Nat.le_trans h2.size hc.size, fun k hk' hn => (hk k hk').trans (h2.block k hk' hn)⟩, F', hs, fun b hb => (hF' b hb).elim (h4 b) (Nat.le_trans hsz)⟩
theorem CS.get (h : CS w0 g ca cl cc A w ps) (hi : ps[i]? = some q) : ∃ Fi, q.p w Fi ∧ (∀ b ∈ Fi, w0.heap.size ≤ b) := by
  obtain ⟨Fi, h1, h2, _⟩ := h.upd hi
  exact ⟨Fi, h1, h2⟩
theorem CS.tail (h : CS w0 g ca cl cc A w (q :: ps)) : CS w0 g ca cl cc A w ps := by
  obtain ⟨h0, h1, h2, F, ⟨F1, F2, rfl, _, _, h3⟩, h4⟩ := h
  exact ⟨h0, h1, h2, F2, h3, fun b hb => h4 b (List.mem_append.2 (.inr hb))⟩
theorem CS.swap {q' : Asn} (h : CS w0 g ca cl cc A w (q :: q' :: ps)) : CS w0 g ca cl cc A w (q' :: q :: ps) := by
  obtain ⟨h0, h1, h2, F, ⟨F1, F2, rfl, hd, hq, F3, F4, rfl, hd2, hq', h3⟩, h4⟩ := h
  refine ⟨h0, h1, h2, F3 ++ (F1 ++ F4), ⟨F3, F1 ++ F4, rfl, fun b hb hb2 => ?_, hq', F1, F4, rfl, fun b hb hb2 => hd b hb (List.mem_append.2 (.inr hb2)), hq, h3⟩, fun b hb => ?_⟩
  · rcases List.mem_append.1 hb2 with hb2 | hb2
    · exact hd b hb2 (List.mem_append.2 (.inl hb))
    · exact hd2 b hb hb2
  · apply h4
    simp only [List.mem_append] at hb ⊢
    rcases hb with h | h | h
    · exact .inr (.inl h)
    · exact .inl h
    · exact .inr (.inr h)
theorem CS.third {q1 q2 q3 : Asn} (h : CS w0 g ca cl cc A w (q1 :: q2 :: q3 :: ps)) : CS w0 g ca cl cc A w (q1 :: q2 :: ps) := by
  obtain ⟨h0, h1, h2, F, ⟨F1, F2, rfl, hd, hq, F3, F4, rfl, hd2, hq', F5, F6, rfl, hd3, hq3, h3⟩, h4⟩ := h
  refine ⟨h0, h1, h2, F1 ++ (F3 ++ F6), ⟨F1, F3 ++ F6, rfl, fun b hb hb2 => hd b hb ?_, hq, F3, F6, rfl, fun b hb hb2 => hd2 b hb (List.mem_append.2 (.inr hb2)), hq', h3⟩, fun b hb => h4 b ?_⟩
  · rcases List.mem_append.1 hb2 with h | h
    · exact List.mem_append.2 (.inl h)
    · exact List.mem_append.2 (.inr (List.mem_append.2 (.inr h)))
  · simp only [List.mem_append] at hb ⊢
    rcases hb with h | h | h
    · exact .inl h
    · exact .inr (.inl h)
    · exact .inr (.inr (.inr h))
/-- The second part is let go. -/
theorem CS.third2 {q1 q2 : Asn} (h : CS w0 g ca cl cc A w (q1 :: q2 :: ps)) : CS w0 g ca cl cc A w (q1 :: ps) := h.swap.tail
theorem CS.drew (h : CS w0 g ca cl cc A w ps) : CS w0 g ca cl cc A w.drew ps := h.grow (bdr (bb _))
theorem CS.alloc (h : CS w0 g ca cl cc A w ps) (o : Obj) : CS w0 g ca cl cc A (w.alloc o) ps := h.grow (bal (bb _) o)
theorem CS.alloc_box (h : CS w0 g ca cl cc A w ps) (cs : Array Value) (t : TypeId) : CS w0 g ca cl cc A (w.alloc (.cells cs t)) (Box w.heap.size t cs :: ps) :=
  h.new (bal (bb _) _) (F := [w.heap.size]) ⟨rfl, heap_alloc_new w _⟩ (by simp)
theorem CS.box (h : CS w0 g ca cl cc A w ps) (hi : ps[i]? = some (Box b t cs)) : w0.heap.size ≤ b ∧ b < w.heap.size ∧ w.heap[b]? = some (.cells cs t (0, 0)) := by
  obtain ⟨F, hp, hF⟩ := h.get hi
  have hlt := (Box b t cs).lt hp b
  obtain ⟨rfl, hh⟩ := hp
  exact ⟨hF b (by simp), hlt (by simp), hh⟩
theorem CS.cell (h : CS w0 g ca cl cc A w ps) (hi : ps[i]? = some (Box b t cs)) {u : Value} (ho : cs[o]? = some u) : w.cell? ⟨b, o, none⟩ = some u := by
  simp [World.cell?, (h.box hi).2.2, ho]
theorem CS.frozen (h : CS w0 g ca cl cc A w ps) (hi : ps[i]? = some (Box b t cs)) (o : Nat) : w.frozen? ⟨b, o, none⟩ = false := by
  simp [World.frozen?, (h.box hi).2.2]
theorem CS.store (h : CS w0 g ca cl cc A w ps) (hi : ps[i]? = some (Box b t cs)) (o : Nat) (u : Value) : CS w0 g ca cl cc A (w.setCell ⟨b, o, none⟩ u) (ps.set i (Box b t (cs.setIfInBounds o u))) := by
  obtain ⟨Fi, ⟨rfl, hh⟩, hF, hall⟩ := h.upd hi
  exact hall _ (Box b t (cs.setIfInBounds o u)) [b] ((Chg.refl _ _).set (by simp) _) ⟨rfl, by simp [World.setCell, Array.getElem?_modify, hh]⟩ fun b hb => .inl hb
theorem CS.own (h : CS w0 g ca cl cc A w ps) (hi : ps[i]? = some (Own e size v n xs)) : w.ownsRow 0 e size v n xs := by
  obtain ⟨F, hp, _⟩ := h.get hi
  exact hp.2
theorem CS.owns_end (h : CS w0 g ca cl cc A w ps) (hi : ps[i]? = some (Own e size v n xs)) : w.ownsRow w0.heap.size e size v n xs := by
  obtain ⟨F, ⟨rfl, h1⟩, h2⟩ := h.get hi
  exact owns_base h1 fun g hg => h2 g (by simp [hg])
theorem CS.own_new (h : CS w0 g ca cl cc A w ps) (hb : Below w.heap.size w w') (ho : w'.ownsRow 0 e size v n xs) (hv : ∀ g, v.ownBlock = some g → w.heap.size ≤ g) : CS w0 g ca cl cc A w' (Own e size v n xs :: ps) :=
  h.new hb (F := v.ownBlock.toList) ⟨rfl, ho⟩ fun b hm => hv b (by simpa using hm)
theorem CS.own_made (h : CS w0 g ca cl cc A w ps) (e : TypeId) (size : Nat) : CS w0 g ca cl cc A (w.alloc (.cells #[] e)) (Own e size (.slice (some ⟨w.heap.size, 0, none⟩) 0 0) 0 [] :: ps) :=
  h.own_new (bal (bb _) _) ⟨by simp, .inr ⟨w.heap.size, 0, #[], rfl, Nat.zero_le _, heap_alloc_new w _, Nat.le_refl _, by decide, by simp, by simp⟩⟩ (fun g hg => by
    have : w.heap.size = g := by simpa [Value.ownBlock] using hg
    omega)
theorem CS.own_push (h : CS w0 g ca cl cc A w ps) (hi : ps[i]? = some (Own e size v n xs)) (hb : Below w.heap.size w w1) (ho : w'.ownsRow 0 e size v' n' xs') (hg : w1.grownBy w' v.ownBlock)
    (hat : v'.ownBlock = v.ownBlock ∨ v'.ownBlock = some w1.heap.size) : CS w0 g ca cl cc A w' (ps.set i (Own e size v' n' xs')) := by
  obtain ⟨F, ⟨rfl, hh⟩, hF, hall⟩ := h.upd hi
  refine hall w' _ v'.ownBlock.toList ?_ ⟨rfl, ho⟩ fun b hm => ?_
  · exact ⟨hg.os.trans hb.os, hg.tape.trans hb.tape, hg.output.trans hb.output, Nat.le_trans hb.size hg.size, fun k hk hn =>
      (hg.block k (Nat.lt_of_lt_of_le hk hb.size) (fun e => hn (by simp [← e]))).trans (hb.block k hk)⟩
  · rcases hat with h1 | h1
    · exact .inl (by rw [h1] at hm; exact hm)
    · rw [h1] at hm
      obtain rfl : b = w1.heap.size := by simpa using hm
      exact .inr hb.size
/-- A store into an own row. -/
theorem CS.own_put {cap : Nat} {gx : Nat} (h : CS w0 g ca cl cc A w ps) (hi : ps[i]? = some (Own e size (.slice (some ⟨gx, 0, none⟩) n cap) n xs)) (u : Value) (ho : o < n * size) :
    CS w0 g ca cl cc A (w.setCell ⟨gx, o, none⟩ u) (ps.set i (Own e size (.slice (some ⟨gx, 0, none⟩) n cap) n (xs.set o u))) := by
  obtain ⟨F, ⟨rfl, hh⟩, hF, hall⟩ := h.upd hi
  have hlen := hh.1
  obtain ⟨g', cap', cur, e1, h0, hg, hn, hm, hc, ht⟩ := own_block hh (by
    rcases Nat.eq_zero_or_pos n with rfl | h
    · simp at ho
    · exact h)
  simp only [Value.slice.injEq, Option.some.injEq, Addr.mk.injEq] at e1
  obtain ⟨⟨rfl, _⟩, _, rfl⟩ := e1
  have hset : (w.setCell ⟨gx, o, none⟩ u).heap[gx]? = some (.cells (cur.setIfInBounds o u) e (0, 0)) := by
    simp [World.setCell, Array.getElem?_modify]
    exact ⟨_, hg, rfl⟩
  refine hall _ _ [gx] ?_ ⟨rfl, by rw [List.length_set]; exact hlen, .inr ⟨gx, cap, cur.setIfInBounds o u, rfl, Nat.zero_le _, hset, hn, hm, by rw [Array.size_setIfInBounds]; exact hc, ?_⟩⟩ fun b hb => .inl hb
  · exact ⟨rfl, rfl, rfl, by simp [World.setCell], fun k _ hn => Below.heap_setCell _ _ _ _ (by simpa [Value.ownBlock] using hn)⟩
  · rw [Array.toList_setIfInBounds, List.take_set, ht]
/-- Parts of a call's own go in front. -/
theorem CS.seq {qs : List Asn} (h : CS w0 g ca cl cc A w ps) (k : Sp w w' qs) : CS w0 g ca cl cc A w' (qs ++ ps) := by
  have hsz := h.chg.size
  obtain ⟨h0, h1, h2, G, h3, h4⟩ := h
  obtain ⟨k1, F, k2, k3⟩ := k
  refine ⟨h0, h1.grow k1, h2.then k1, F ++ G, sep_append k2 (sep_keep h3 fun b hm => k1.block b (sep_lt h3 b hm)) (fun b hb hb2 => ?_), fun b hb => ?_⟩
  · have := k3 b hb; have := sep_lt h3 b hb2; omega
  · rcases List.mem_append.1 hb with hm | hm
    · have := k3 b hm; omega
    · exact h4 b hm
end
end Go.Proofs.YtpiimlmfcdjbbaaGreatDoor

/- Contract: a name that is drawn, mostly a valid one. -/
namespace Go.Proofs.YtpiimlmfcdjbbaaGreatDoor
open Go.RowKit

/-- A short name. -/
def NmLe (s : ByteArray) : Prop := s.size ≤ 20
set_option maxRecDepth 100000 in
set_option maxHeartbeats 4000000 in
theorem cur_name31 (A g : Nat) (ca : Option Addr) (cl cc : Nat) (w : World) (h : CurIs A g ca cl cc w) (hA : A ≤ 80000000) :
    Calls Tryz.prog 41 #[.pointer (some ⟨g, 0, none⟩)] w (CurPost (StrR NmLe) (A + 4) g ca cl cc w) := by
  have hg := h.lt
  have S0 := Lib.hid ((CS.start h).alloc_box #[.string ⟨#[112, 104, 112, 50]⟩, .string ⟨#[112, 104, 112, 51]⟩, .string ⟨#[99, 104, 97, 105, 110]⟩, .string ⟨#[102, 117, 108, 108, 50]⟩, .string ⟨#[97]⟩, .string ⟨#[112, 104, 112, 50]⟩, .string ⟨#[122, 122, 57]⟩, .string ⟨#[99, 104, 97, 105, 110]⟩, .string ⟨#[]⟩, .string ⟨#[65]⟩, .string ⟨#[116, 111, 111, 108, 111, 110, 103, 97, 110, 97, 109, 101, 48]⟩, .string ⟨#[97, 32, 98]⟩] 9)
  go_enter Tryz.func41, Tryz.ntmps41
  go_wp2_with fail
  refine (cur_pick_at (lo := 0) (hi := 23) S0.out.cur (by omega) (by omega) (by omega) (by omega) (by omega)).mono ?_
  rintro e w1 ⟨_, ⟨x, hx0, hx1, rfl⟩, rfl, hi1, hc1⟩
  have S1 := Lib.hid (S0.out.turn hi1 hc1)
  have hcell : ∀ j, j < 12 → ∃ s, NmLe s ∧ w1.cell? ⟨w.heap.size, 0 + j, none⟩ = some (.string s) := fun j hj => by
    rw [Nat.zero_add]
    match j, hj with
    | 0, _ => exact ⟨_, by unfold NmLe; decide, S1.out.cell (i := 0) rfl rfl⟩
    | 1, _ => exact ⟨_, by unfold NmLe; decide, S1.out.cell (i := 0) rfl rfl⟩
    | 2, _ => exact ⟨_, by unfold NmLe; decide, S1.out.cell (i := 0) rfl rfl⟩
    | 3, _ => exact ⟨_, by unfold NmLe; decide, S1.out.cell (i := 0) rfl rfl⟩
    | 4, _ => exact ⟨_, by unfold NmLe; decide, S1.out.cell (i := 0) rfl rfl⟩
    | 5, _ => exact ⟨_, by unfold NmLe; decide, S1.out.cell (i := 0) rfl rfl⟩
    | 6, _ => exact ⟨_, by unfold NmLe; decide, S1.out.cell (i := 0) rfl rfl⟩
    | 7, _ => exact ⟨_, by unfold NmLe; decide, S1.out.cell (i := 0) rfl rfl⟩
    | 8, _ => exact ⟨_, by unfold NmLe; decide, S1.out.cell (i := 0) rfl rfl⟩
    | 9, _ => exact ⟨_, by unfold NmLe; decide, S1.out.cell (i := 0) rfl rfl⟩
    | 10, _ => exact ⟨_, by unfold NmLe; decide, S1.out.cell (i := 0) rfl rfl⟩
    | 11, _ => exact ⟨_, by unfold NmLe; decide, S1.out.cell (i := 0) rfl rfl⟩
  replace hcell := Lib.hid hcell
  clear S0 hc1
  obtain ⟨k, hk, hkx⟩ : ∃ k : Nat, k ≤ 2 ∧ x.tdiv 11 = (k : Int) := ⟨(x / 11).toNat, by omega, by rw [Int.tdiv_eq_ediv_of_nonneg hx0]; omega⟩
  have hq : ∀ m, 10 ≤ m → m ≤ 12 → Calls Tryz.prog 45 #[.pointer (some ⟨g, 0, none⟩), .slice (some ⟨w.heap.size, 0, none⟩) m 12] w1 (CurPost (StrR NmLe) (A + 2 + 2) g ca cl cc w1) := fun m h1 h2 =>
    cur_of NmLe w.heap.size 0 m 12 (A + 2) g ca cl cc w1 hi1 (by omega) (by omega) (by omega) (fun j hj => hcell.out j (by omega)) (by omega)
  replace hq := Lib.hid hq
  clear hi1
  have hk3 : k = 0 ∨ k = 1 ∨ k = 2 := by omega
  rcases hk3 with rfl | rfl | rfl
  all_goals
    go_wp2_with fail
    refine (hq.out _ (by decide) (by decide)).mono ?_
    rintro e w2 ⟨_, ⟨z, hz, rfl⟩, rfl, hi2, hc2⟩
    have S2 := S1.out.turn hi2 hc2
    have hC := S2.chg
    clear S1 S2 hc2 hq hcell
    go_wp2_with fail
    go_ret
    exact ⟨_, ⟨z, hz, rfl⟩, rfl, hi2, hC⟩
end Go.Proofs.YtpiimlmfcdjbbaaGreatDoor
