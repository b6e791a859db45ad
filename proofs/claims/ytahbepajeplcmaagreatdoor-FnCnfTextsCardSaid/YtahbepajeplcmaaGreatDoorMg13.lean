/- Lemmas and contracts for a law, put together out of several texts: CxN CxO CxP CxQ CxR LtF LtG AsJ AsK AsL LtH AsM LtI. -/
import Derived.Test.YtahbepajeplcmaaGreatDoorMg12
import Derived.Test.YtahbepajeplcmaaGreatDoorMg10
import Derived.Lib.SliceRun
import Derived.Laws.IdiomCopy
import Derived.Test.YtahbepajeplcmaaGreatDoorMg7
import Derived.Test.YtahbepajeplcmaaGreatDoorMg8
/- Contracts: lists of clauses sorted, in the program. (Under way.) -/
namespace Go.Proofs.YtahbepajeplcmaaGreatDoor
open Go.RowKit Go.Sort

section
variable {α : Type} [Inhabited α] {enc : α → Value}
/-- The sort's worlds: the row's own block holds the values in their order. -/
theorem srt_block {w : World} {g n : Nat} {os : Array Obj} {cur : Array Value} {e : TypeId} {fr : Nat × Nat} (d : Array α) (hb : w.heap[g]? = some (.cells cur e fr)) :
    (sortWorld enc w g 0 n d os).heap[g]? = some (.cells (putCells enc 0 d cur) e fr) := by
  have hg : g < w.heap.size := (Array.getElem?_eq_some_iff.1 hb).1
  unfold sortWorld
  rw [heap_grow_old _ _ (by simpa using hg)]
  simp [putRow, mapBlock, Sort.ahead, Array.getElem?_modify, hb, onCells]
theorem srt_grown {w : World} {g n : Nat} {os : Array Obj} (d : Array α) : w.grownBy (sortWorld enc w g 0 n d os) (some g) := by
  refine ⟨rfl, rfl, rfl, by simp [sortWorld], fun k hk hne => ?_⟩
  have h2 : g ≠ k := fun e => hne (by rw [e])
  unfold sortWorld
  rw [heap_grow_old _ _ (by simpa using hk)]
  simp [putRow, mapBlock, Sort.ahead, Array.getElem?_modify, h2]
theorem srt_take (cur : Array Value) (ts : List α) (h : ts.length ≤ cur.size) : (putCells enc 0 ts.toArray cur).toList.take ts.length = ts.map enc := by
  apply List.ext_getElem?
  intro j
  rcases Nat.lt_or_ge j ts.length with hj | hj
  · rw [List.getElem?_take_of_lt hj, Array.getElem?_toList]
    simp [putCells, hj, show j < cur.size by omega]
  · rw [List.getElem?_take_eq_none hj, List.getElem?_eq_none (by simpa using hj)]
theorem srt_own {w : World} {base g cap n m : Nat} {e : TypeId} {os : Array Obj} {cur : Array Value} {ts : List α} (hl : ts.length = m) (hbase : base ≤ g) (hb : w.heap[g]? = some (.cells cur e (0, 0))) (h1 : m ≤ cap) (h2 : cap ≤ maxLen) (h3 : cur.size = cap * 1) :
    (sortWorld enc w g 0 n ts.toArray os).ownsRow base e 1 (.slice (some ⟨g, 0, none⟩) m cap) m (ts.map enc) := by
  subst hl
  exact ⟨by simp, .inr ⟨g, cap, _, rfl, hbase, srt_block _ hb, h1, h2, by simp [putCells, h3], by rw [Nat.mul_one]; exact srt_take cur ts (by omega)⟩⟩
theorem srt_holds {w : World} {g : Nat} {cur : Array Value} {e : TypeId} {ss : List α} (hb : w.heap[g]? = some (.cells cur e (0, 0))) (ht : cur.toList.take ss.length = ss.map enc) : Holds enc w g 0 ss.toArray := by
  intro j hj
  have hj2 : j < ss.length := by simpa using hj
  have h1 : (cur.toList.take ss.length)[j]? = (ss.map enc)[j]? := by rw [ht]
  rw [List.getElem?_take_of_lt hj2] at h1
  refine ⟨?_, by simp [World.frozen?, hb]⟩
  simp only [World.cell?, hb, Nat.zero_add, Option.isSome_none, Bool.false_eq_true, if_false]
  rw [← Array.getElem?_toList, h1]
  simp [hj2]
end

theorem ltC {a b : List Int} (ha : ∀ x ∈ a, LitS x) (hb : ∀ x ∈ b, LitS x) : decide (cmpC a b < 0) = true ↔ Bef a b := by rw [decide_eq_true_eq]; exact cmpC_bef ha hb
theorem ltC_no {a b : List Int} (ha : ∀ x ∈ a, LitS x) (hb : ∀ x ∈ b, LitS x) : decide (cmpC a b < 0) = false ↔ ¬ Bef a b := by rw [← ltC ha hb]; simp
theorem extract_full {α : Type} (d : Array α) {n : Nat} (h : d.size = n) : d.extract 0 n = d := by subst h; simp
theorem bef_irr (a : List Int) : ¬ Bef a a := fun h => bef_asym a a h h

theorem sortFuncC_any (ks K : List (Value × List Int)) (B : Option Addr) (cc : Nat) (w0 w : World) (ps : List Asn) (S : Sp w0 w (Cls (.slice B ks.length cc) ks :: Pool K :: ps)) (hK : ∀ q ∈ ks, q ∈ K) (hl : ks.length ≤ 1000000)
    (hlit : ∀ q ∈ ks, (∀ x ∈ q.2, LitS x) ∧ q.2.length ≤ 1000) (hone : ∀ q ∈ ks, ∃ a n c, q.1 = .slice a n c) :
    Calls Tryz.prog 111 #[.slice B ks.length cc, .func (.func 112) #[] #[]] w fun e w' => e = .returned (.tuple #[]) ∧ ∃ ks' : List (Value × List Int), ks'.Perm ks ∧ ((ks'.map Prod.snd).Pairwise fun a b => Bef a b ∨ a = b) ∧ Sp w0 w' (Cls (.slice B ks'.length cc) ks' :: Pool K :: ps) := by
  rcases Nat.eq_zero_or_pos ks.length with h0 | h0
  · obtain rfl : ks = [] := List.length_eq_zero_iff.1 h0
    refine (Tryz.slices_SortFunc_noneC B cc _ w).mono ?_
    rintro e w' ⟨rfl, rfl⟩
    exact ⟨rfl, [], List.Perm.refl _, List.Pairwise.nil, S⟩
  · have eg : ∀ args w, (callFunc 112 args).run Tryz.prog w = .ok (.enter 112 args) w := enters_of Tryz.func112 (by kernel_rfl) rfl
    obtain ⟨g, cap, cur, e1, h0', hg, hnc, hmx, hc, ht⟩ := own_block (S.own (i := 0) rfl) h0
    simp only [Value.slice.injEq] at e1
    obtain ⟨rfl, -, rfl⟩ := e1
    rw [Nat.mul_one] at ht
    letI : Inhabited (Fin ks.length) := ⟨⟨0, h0⟩⟩
    let enc : Fin ks.length → Value := fun i => (ks[i]).1
    let cf : Fin ks.length → Fin ks.length → Int := fun i j => cmpC (ks[i]).2 (ks[j]).2
    have hm : ∀ i : Fin ks.length, ks[i] ∈ ks := fun i => List.getElem_mem i.2
    have hL : ∀ i : Fin ks.length, ∀ x ∈ (ks[i]).2, LitS x := fun i => (hlit _ (hm i)).1
    have hfst : (List.finRange ks.length).map enc = ks.map Prod.fst := by
      apply List.ext_getElem
      · simp
      · intro j h1 h2
        simp [enc]
    have hsnd : (List.finRange ks.length).map (fun i => ks[i]) = ks := by
      apply List.ext_getElem
      · simp
      · intro j h1 h2
        simp
    have hfl : (List.finRange ks.length).length = ks.length := List.length_finRange
    have hH : Holds enc w g 0 (List.finRange ks.length).toArray := srt_holds hg (by rw [hfl, hfst]; exact ht)
    have hone1 : OneCell enc := fun i => by
      obtain ⟨a, n, c, e⟩ := hone _ (hm i)
      show ((ks[i]).1).oneCell' = true
      rw [e]; rfl
    have hswo : SWO (ltOf cf) := {
      irrefl := fun x => (ltC_no (hL x) (hL x)).2 (bef_irr _)
      trans := fun x y z h1 h2 => (ltC (hL x) (hL z)).2 (bef_trans ((ltC (hL x) (hL y)).1 h1) ((ltC (hL y) (hL z)).1 h2))
      ntrans := fun x y z h1 h2 => by
        have h1 := (ltC_no (hL x) (hL y)).1 h1
        have h2 := (ltC_no (hL y) (hL z)).1 h2
        refine (ltC_no (hL x) (hL z)).2 fun h3 => ?_
        by_cases e : (ks[x]).2 = (ks[y]).2
        · rw [e] at h3; exact h2 h3
        · rcases bef_total e with hb | hb
          · exact h1 hb
          · exact h2 (bef_trans hb h3) }
    have hown : ∀ (m : Nat) (os : Array Obj) (ts : List (Fin ks.length)), ts.length = ks.length → Sp w0 (sortWorld enc w g 0 m ts.toArray os) (Own 43 1 (.slice (some ⟨g, 0, none⟩) ks.length cc) ks.length (ts.map enc) :: Pool K :: ps) := fun m os ts hts =>
      S.own_push (i := 0) rfl (bb _) (srt_own hts (Nat.zero_le _) hg hnc hmx hc) (srt_grown _) (.inl rfl)
    have h := Any.slices_SortFunc Tryz.laysSlF6_f111 enc hone1 cf hswo 112 #[] g 0 cc (List.finRange ks.length).toArray w eg (fun m os dk hdk x y => by
      have S2 := hown m os dk.toList (by have : dk.size = (List.finRange ks.length).toArray.size := hdk
                                         simpa using this)
      obtain ⟨G1, r1⟩ := S2.pool_at (i := 1) rfl (hK _ (hm x))
      obtain ⟨G2, r2⟩ := S2.pool_at (i := 1) rfl (hK _ (hm y))
      obtain ⟨A1, c1, e1, i1⟩ := ints_row r1
      obtain ⟨A2, c2, e2, i2⟩ := ints_row r2
      have hcall := compareClauses_any (ks[x]).2 (ks[y]).2 A1 A2 c1 c2 _ i1 i2 (by have := (hlit _ (hm x)).2; omega) (by have := (hlit _ (hm y)).2; omega)
      show Calls Tryz.prog 112 (#[(ks[x]).1, (ks[y]).1] ++ #[]) _ _
      rw [e1, e2]
      exact hcall) hH (S.own (i := 0) rfl |> fun h => owns_lt h rfl) (by simp; omega)
    have hsz : (List.finRange ks.length).toArray.size = ks.length := by simp
    rw [hsz] at h
    refine Calls.mono h ?_
    rintro e w' ⟨rfl, d', n, os, hp, hs, rfl⟩
    obtain ⟨hp1, -, hp3⟩ := hp
    rw [hsz] at hp1
    refine ⟨rfl, d'.toList.map (fun i => ks[i]), ?_, ?_, ?_⟩
    · have h1 : d'.toList.Perm (List.finRange ks.length) := by
        rw [extract_full d' hp1, extract_full _ hsz] at hp3
        exact hp3
      have := h1.map (fun i => ks[i])
      rw [hsnd] at this
      exact this
    · rw [List.map_map, List.pairwise_map, List.pairwise_iff_getElem]
      intro i j hi hj hij
      have hi2 : i < d'.size := by simpa using hi
      have hj2 : j < d'.size := by simpa using hj
      have := hs i j (Nat.zero_le _) hij (by omega)
      rw [getElem!_pos d' i hi2, getElem!_pos d' j hj2] at this
      have hnb := (ltC_no (hL _) (hL _)).1 this
      simp only [Function.comp, Array.getElem_toList]
      by_cases e : (ks[d'[i]]).2 = (ks[d'[j]]).2
      · exact .inr e
      · exact .inl ((bef_total e).resolve_right hnb)
    · have S2 := hown n os d'.toList (by simpa using hp1)
      have e3 : (d'.toList.map (fun i => ks[i])).length = ks.length := by simpa using hp1
      have e4 : (d'.toList.map (fun i => ks[i])).map Prod.fst = d'.toList.map enc := by rw [List.map_map]; rfl
      show Sp w0 _ (Own 43 1 (.slice (some ⟨g, 0, none⟩) (d'.toList.map (fun i => ks[i])).length cc) (d'.toList.map (fun i => ks[i])).length ((d'.toList.map (fun i => ks[i])).map Prod.fst) :: Pool K :: ps)
      rw [e3, e4]
      exact S2
end Go.Proofs.YtahbepajeplcmaaGreatDoor

/- Memory facts: an own row of own rows as a list of clauses and a pool. -/
namespace Go.Proofs.YtahbepajeplcmaaGreatDoor
open Go.RowKit

theorem pool_of_all {w : World} : ∀ {cs : List Value} {xss : List (List Int)} {G : List Nat}, (Ty.slice Ty.int).all true w cs xss G → cs.length = xss.length ∧ ∀ q ∈ cs.zip xss, ∃ H, Ty.int.row false w q.1 q.2 H ∧ ∀ b ∈ H, b ∈ G
  | cs, [], G, h => by
    obtain ⟨rfl, -⟩ := h
    exact ⟨rfl, by simp⟩
  | cs, x :: xss, G, h => by
    obtain ⟨c, d, F1, F2, rfl, rfl, ⟨u, rfl, hu⟩, h2⟩ := h
    obtain ⟨h3, h4⟩ := pool_of_all h2
    refine ⟨by simp [h3], fun q hq => ?_⟩
    rw [List.singleton_append, List.zip_cons_cons] at hq
    rcases List.mem_cons.1 hq with rfl | hq
    · exact ⟨F1, Ty.row_down hu, fun b hb => List.mem_append.2 (.inl hb)⟩
    · obtain ⟨H, h5, h6⟩ := h4 q hq
      exact ⟨H, h5, fun b hb => List.mem_append.2 (.inr (h6 b hb))⟩
theorem Sp.rows_split {w0 w : World} {ps : List Asn} {v : Value} {cs : List Value} {xss : List (List Int)} (h : Sp w0 w (Rows Ty.int 43 v cs xss :: ps)) : cs.length = xss.length ∧ Sp w0 w (Own 43 1 v xss.length cs :: Pool (cs.zip xss) :: ps) := by
  obtain ⟨h1, F, ⟨F1, F2, rfl, hd, ⟨G, rfl, hn, hall, hown⟩, h5⟩, h3⟩ := h
  obtain ⟨h6, h7⟩ := pool_of_all hall
  rw [List.nodup_append] at hn
  refine ⟨h6, h1, v.ownBlock.toList ++ (G ++ F2), ⟨v.ownBlock.toList, G ++ F2, rfl, fun b hb hb2 => ?_, ⟨rfl, hown⟩, ⟨G, F2, rfl, fun b hb => hd b (List.mem_append.2 (.inr hb)), ⟨fun b hb => Ty.all_lt hall b hb, h7⟩, h5⟩⟩, fun b hb => h3 b (by rw [List.append_assoc]; exact hb)⟩
  rcases List.mem_append.1 hb2 with hb2 | hb2
  · exact hn.2.2 b hb b hb2 rfl
  · exact hd b (List.mem_append.2 (.inl hb)) hb2
theorem zip_fst {cs : List Value} {xss : List (List Int)} (h : cs.length = xss.length) : (cs.zip xss).map Prod.fst = cs ∧ (cs.zip xss).map Prod.snd = xss ∧ (cs.zip xss).length = xss.length :=
  ⟨List.map_fst_zip (by omega), List.map_snd_zip (by omega), by rw [List.length_zip]; omega⟩
end Go.Proofs.YtahbepajeplcmaaGreatDoor

/- Plain facts: equal neighbours left out, step by step. -/
namespace Go.Proofs.YtahbepajeplcmaaGreatDoor

theorem cptC_two (x y : List Int) (r : List (List Int)) : cptC (x :: y :: r) = if x = y then cptC (y :: r) else x :: cptC (y :: r) := by rw [cptC]
theorem cptC_one (x : List Int) : cptC [x] = [x] := by rw [cptC]
theorem cptC_snoc (c d : List Int) : ∀ l : List (List Int), cptC (l ++ [d, c]) = if d = c then cptC (l ++ [d]) else cptC (l ++ [d]) ++ [c]
  | [] => by
    rw [List.nil_append, List.nil_append, cptC_two, cptC_one, cptC_one]
    split
    · rename_i h; rw [h]
    · rfl
  | [x] => by
    have ih := cptC_snoc c d []
    rw [List.nil_append, List.nil_append] at ih
    show cptC (x :: d :: [c]) = if d = c then cptC (x :: d :: []) else cptC (x :: d :: []) ++ [c]
    rw [cptC_two x d [c], cptC_two x d [], ih]
    by_cases h1 : x = d
    · simp only [if_pos h1]
    · simp only [if_neg h1]
      split <;> simp
  | x :: y :: l => by
    have ih := cptC_snoc c d (y :: l)
    show cptC (x :: y :: (l ++ [d, c])) = if d = c then cptC (x :: y :: (l ++ [d])) else cptC (x :: y :: (l ++ [d])) ++ [c]
    rw [List.cons_append, List.cons_append] at ih
    rw [cptC_two x y, cptC_two x y, ih]
    by_cases h1 : x = y
    · simp only [if_pos h1]
    · simp only [if_neg h1]
      split <;> simp
/-- No equal neighbours: nothing is left out. -/
theorem cptC_same : ∀ {l : List (List Int)}, (∀ i (h : i + 1 < l.length), l[i] ≠ l[i + 1]) → cptC l = l
  | [], _ => by rw [cptC]
  | [x], _ => cptC_one x
  | x :: y :: l, h => by
    have ih := cptC_same (l := y :: l) fun i hi => by
      have := h (i + 1) (by simp at hi ⊢; omega)
      simpa using this
    have h0 := h 0 (by simp)
    simp only [List.getElem_cons_zero, Nat.zero_add, List.getElem_cons_succ] at h0
    rw [cptC_two, if_neg h0, ih]
/-- One step: the list up to k and one more. -/
theorem cptC_step {l : List (List Int)} {k : Nat} (hk : k + 1 < l.length) : cptC (l.take (k + 2)) = if l[k] = l[k + 1] then cptC (l.take (k + 1)) else cptC (l.take (k + 1)) ++ [l[k + 1]] := by
  have h1 : l.take (k + 1) = l.take k ++ [l[k]] := List.take_succ_eq_append_getElem (by omega)
  have h2 : l.take (k + 2) = l.take k ++ [l[k], l[k + 1]] := by
    rw [List.take_succ_eq_append_getElem (show k + 1 < l.length by omega), h1, List.append_assoc]; rfl
  rw [h2, h1, cptC_snoc]
theorem cptC_len : ∀ (l : List (List Int)), (cptC l).length ≤ l.length
  | [] => by rw [cptC]; exact Nat.le_refl _
  | [x] => by rw [cptC_one]; exact Nat.le_refl _
  | x :: y :: l => by
    have ih := cptC_len (y :: l)
    rw [cptC_two]
    split
    · simp only [List.length_cons] at ih ⊢; omega
    · simp only [List.length_cons] at ih ⊢; omega
end Go.Proofs.YtahbepajeplcmaaGreatDoor

/- Contract: equal neighbours left out, in the library.  -/
namespace Go.Proofs.YtahbepajeplcmaaGreatDoor
open Go.RowKit Go.Sort

/-- Many stores into an own row. -/
theorem Sp.own_putsQ {w0 : World} {ps : List Asn} {i g cap n : Nat} {e : TypeId} : ∀ (vs : List Value) (o : Nat) (xs : List Value) (w : World), Sp w0 w ps → ps[i]? = some (Own e 1 (.slice (some ⟨g, 0, none⟩) n cap) n xs) → o + vs.length ≤ n →
    ∃ ys, ys.take o = xs.take o ∧ Sp w0 (w.setCells g o vs) (ps.set i (Own e 1 (.slice (some ⟨g, 0, none⟩) n cap) n ys))
  | [], o, xs, w, h, hi, _ => ⟨xs, rfl, by
    have hlt : i < ps.length := (List.getElem?_eq_some_iff.1 hi).1
    have : ps.set i (Own e 1 (.slice (some ⟨g, 0, none⟩) n cap) n xs) = ps := by
      apply List.ext_getElem?
      intro j
      rw [List.getElem?_set]
      split
      · rename_i e2; subst e2; rw [hi]
      · rfl
    rw [this]; exact h⟩
  | v :: vs, o, xs, w, h, hi, hl => by
    have hl2 : o + (vs.length + 1) ≤ n := by simpa using hl
    have hlt : i < ps.length := (List.getElem?_eq_some_iff.1 hi).1
    have h1 := h.own_put hi v (o := o) (by omega)
    obtain ⟨ys, h2, h3⟩ := Sp.own_putsQ vs (o + 1) (xs.set o v) _ h1 (by rw [List.getElem?_set_self hlt]) (by omega)
    rw [List.set_set] at h3
    refine ⟨ys, ?_, h3⟩
    have h4 : (ys.take (o + 1)).take o = ((xs.set o v).take (o + 1)).take o := by rw [h2]
    rw [List.take_take, List.take_take, Nat.min_eq_left (by omega)] at h4
    rw [h4, List.take_set_of_le (Nat.le_refl _)]
/-- The front of an own row. -/
theorem Sp.own_cutQ {w0 w : World} {ps : List Asn} {i g cap n m : Nat} {e : TypeId} {xs : List Value} (h : Sp w0 w ps) (hi : ps[i]? = some (Own e 1 (.slice (some ⟨g, 0, none⟩) n cap) n xs)) (hm : m ≤ n) :
    Sp w0 w (ps.set i (Own e 1 (.slice (some ⟨g, 0, none⟩) m cap) m (xs.take m))) := by
  obtain ⟨F, ⟨rfl, hl, hh⟩, hF, hall⟩ := h.upd hi
  refine hall w _ [g] (Chg.refl _ _) ⟨rfl, by rw [List.length_take, hl]; simp; omega, ?_⟩ (fun b hb => .inl hb)
  rcases hh with ⟨h0, -⟩ | ⟨g', cap', cur, e1, h0, hg, hnc, hmx, hc, ht⟩
  · cases h0
  simp only [Value.slice.injEq, Option.some.injEq, Addr.mk.injEq] at e1
  obtain ⟨⟨rfl, _⟩, _, rfl⟩ := e1
  refine .inr ⟨g, cap, cur, rfl, h0, hg, by omega, hmx, hc, ?_⟩
  rw [← ht, List.take_take, Nat.mul_one, Nat.mul_one, Nat.min_eq_left hm]
theorem set_take_drop {α : Type} {l : List α} {m : Nat} (x : α) (h : m < l.length) : (l.set m x).take (m + 1) = l.take m ++ [x] ∧ ∀ p, m < p → (l.set m x).drop p = l.drop p := by
  refine ⟨?_, fun p hp => List.drop_set_of_lt hp⟩
  rw [List.take_succ_eq_append_getElem (by simpa using h), List.getElem_set_self, List.take_set_of_le (Nat.le_refl _)]
theorem drop_get {α : Type} {l ks : List α} {p q : Nat} (hl : l.length = ks.length) (h : l.drop p = ks.drop p) (hpq : p ≤ q) (hq : q < ks.length) : l[q]'(by omega) = ks[q] := by
  have h1 : (l.drop p)[q - p]? = (ks.drop p)[q - p]? := by rw [h]
  rw [List.getElem?_drop, List.getElem?_drop, show p + (q - p) = q by omega, List.getElem?_eq_getElem (by omega), List.getElem?_eq_getElem hq] at h1
  exact Option.some.inj h1
theorem drop_more {α : Type} {l ks : List α} {p : Nat} (h : l.drop p = ks.drop p) {q : Nat} (hpq : p ≤ q) : l.drop q = ks.drop q := by
  have : (l.drop p).drop (q - p) = (ks.drop p).drop (q - p) := by rw [h]
  rwa [List.drop_drop, List.drop_drop, show p + (q - p) = q by omega] at this

set_option maxRecDepth 100000 in
set_option maxHeartbeats 8000000 in
theorem compactFuncC_any (ks K : List (Value × List Int)) (B : Option Addr) (cc : Nat) (w0 w : World) (ps : List Asn) (S : Sp w0 w (Cls (.slice B ks.length cc) ks :: Pool K :: ps)) (hK : ∀ q ∈ ks, q ∈ K) (hl : ks.length ≤ 1000) (hlen : ∀ q ∈ ks, q.2.length ≤ 1000) :
    Calls Tryz.prog 113 #[.slice B ks.length cc, .func (.func 114) #[] #[]] w fun e w' => ∃ (ks' : List (Value × List Int)), e = .returned (.slice B ks'.length cc) ∧ ks'.map Prod.snd = cptC (ks.map Prod.snd) ∧ (∀ q ∈ ks', q ∈ K) ∧ Sp w0 w' (Cls (.slice B ks'.length cc) ks' :: Pool K :: ps) := by
  have eg : Enter1 114 := enters_of Tryz.func114 (by kernel_rfl) rfl
  unfold Enter1 at eg
  have S0 := Lib.hid S
  have hKH := Lib.hid hK
  clear S hK
  rcases Nat.lt_or_ge ks.length 2 with h2 | h2
  · have d1 : decide ((ks.length : Int) < 2) = true := decide_eq_true (by omega)
    have hR : Hid (ks.map Prod.snd = cptC (ks.map Prod.snd)) := (cptC_same fun i h => by rw [List.length_map] at h; omega).symm
    go_enter Tryz.func113, Tryz.ntmps113
    go_wp2_with fail
    go_ret
    exact ⟨ks, rfl, hR.out, hKH.out, S0.out⟩
  · have d1 : decide ((ks.length : Int) < 2) = false := decide_eq_false (by omega)
    go_enter Tryz.func113, Tryz.ntmps113
    go_wp2_with fail
    go_loopw [5] (fun vi wr => ∃ k : Nat, 1 ≤ k ∧ k ≤ ks.length ∧ vi = .int .i64 k ∧ Hid (∀ i (h : i + 1 < ks.length), i + 1 < k → (ks[i]).2 ≠ (ks[i + 1]).2) ∧ Hid (Sp w0 wr (Cls (.slice B ks.length cc) ks :: Pool K :: ps))) (fun vi _ => ks.length - (intOf vi).toNat)
    case atStart => exact ⟨1, Nat.le_refl _, by omega, rfl, fun i h h2 => by omega, S0⟩
    case round =>
      obtain ⟨k, hk1, hk, rfl, HN, HS⟩ := hrel
      clear S0
      by_cases hlt : k < ks.length
      · have hk2 : k - 1 < ks.length := by omega
        obtain ⟨G1, r1⟩ := HS.out.pool_at (i := 1) rfl (hKH.out _ (List.getElem_mem hlt))
        obtain ⟨G2, r2⟩ := HS.out.pool_at (i := 1) rfl (hKH.out _ (List.getElem_mem hk2))
        obtain ⟨A1, c1, e1, i1⟩ := ints_row r1
        obtain ⟨A2, c2, e2, i2⟩ := ints_row r2
        obtain ⟨-, ⟨-, h0, -⟩ | ⟨g, cx, eB, -, -, hcell⟩⟩ := own_view (HS.out.own (i := 0) rfl)
        · omega
        simp only [Value.slice.injEq] at eB
        obtain ⟨rfl, -, rfl⟩ := eB
        have m0 := hcell k _ (by rw [List.getElem?_map, List.getElem?_eq_getElem hlt, Option.map_some, e1])
        have m1 := hcell (k - 1) _ (by rw [List.getElem?_map, List.getElem?_eq_getElem hk2, Option.map_some, e2])
        have k0 := cell_regrown m0
        have k1 := cell_regrown m1
        have hcall := Lib.hid (fun W (h : Below wr.heap.size wr W) => equalR_any A1 A2 c1 c2 (ks[k]).2 (ks[k - 1]).2 W (i1.grow h) (i2.grow h) (by have := hlen _ (List.getElem_mem hlt); omega))
        have hkw : IntKind.i64.wrap ((k : Int) - 1) = ((k - 1 : Nat) : Int) := by rw [IntWalk.i64_in _ (by omega)]; omega
        clear hcell r1 r2 i1 i2 m0 m1
        go_wp2_with fail
        refine wp_region_quiet_below (by kernel_rfl) (by kernel_rfl) ?_
        repeat (any_goals (first | go_big_quiet_step ((go_at_call 114; exact Calls.regrown_of (hcall.out _ (below_regrown _ _ _))))))
        refine wpQuiet_nil ?_
        rintro w1 ⟨pp, hw1⟩
        have hb1 := Lib.hid (hw1 ▸ below_regrown _ _ _ : Below wr.heap.size wr w1)
        have S1 := Lib.hid (HS.out.grow hb1.out)
        clear hw1 k0 k1 HS hcall
        by_cases he : (ks[k]).2 = (ks[k - 1]).2
        · have d3 : decide ((ks[k]).2 = (ks[k - 1]).2) = true := decide_eq_true he
          have hst : Hid ((ks.take k).map Prod.snd = cptC ((ks.map Prod.snd).take (k + 1))) := by
            obtain ⟨k, rfl⟩ : ∃ k', k = k' + 1 := ⟨k - 1, by omega⟩
            have hkl : k + 1 < (ks.map Prod.snd).length := by rw [List.length_map]; exact hlt
            have e2 : (ks.map Prod.snd)[k] = (ks.map Prod.snd)[k + 1] := by simp only [List.getElem_map]; exact he.symm
            unfold Hid
            rw [cptC_step hkl, if_pos e2, cptC_same, List.map_take]
            intro i h
            have hi : i + 1 < k + 1 := by rw [List.length_take, List.length_map] at h; omega
            simp only [List.getElem_take, List.getElem_map]
            exact HN.out i (by omega) hi
          have hcw : ks.length ≤ cc := by
            obtain ⟨g', cap', cur, e1, -, -, hnc, -, -, -⟩ := own_block (S1.out.own (i := 0) rfl) (by omega)
            cases e1
            omega
          obtain ⟨n, hn⟩ : ∃ n, ks.length = n := ⟨_, rfl⟩
          have S2 : Hid (Sp w0 w1 (Own 43 1 (.slice (some ⟨g, 0, none⟩) n cc) n (ks.map Prod.fst) :: Pool K :: ps)) := by
            have h := S1.out
            unfold Cls at h
            rw [hn] at h
            exact h
          rw [hn] at hl hlt h2 hk hcw
          have hnH := Lib.hid hn
          rw [hn]
          rw [d3]
          generalize ks[k].2 = X1 at *
          generalize ks[k - 1].2 = X2 at *
          clear S1 HN d1 d3 e1 e2 hk2 he hn
          have hkc : k < cc := by omega
          have hkc2 : ¬ cc = k := by omega
          go_wp2_with fail
          go_loopw [5, 7] (fun vm vj wr => ∃ (m j : Nat) (ls : List (Value × List Int)), k ≤ m ∧ m + 1 ≤ k + j ∧ 1 ≤ j ∧ j ≤ n - k ∧ vm = .int .i64 m ∧ vj = .int .i64 j ∧ Hid (ls.length = n) ∧ Hid (ls.drop (k + j - 1) = ks.drop (k + j - 1)) ∧ Hid ((ls.take m).map Prod.snd = cptC ((ks.map Prod.snd).take (k + j))) ∧ Hid (∀ q ∈ ls, q ∈ K) ∧ Hid (Sp w0 wr (Own 43 1 (.slice (some ⟨g, 0, none⟩) n cc) n (ls.map Prod.fst) :: Pool K :: ps))) (fun _ vj _ => n - k - (intOf vj).toNat)
          case atStart => exact ⟨k, 1, ks, Nat.le_refl _, Nat.le_refl _, Nat.le_refl _, by omega, rfl, rfl, hnH, rfl, hst, hKH, S2⟩
          case round =>
            clear S2 hst
            obtain ⟨m, j, ls, hkm, hmj, hj1, hj, rfl, rfl, hlsn, hdrop, htake, hlK, HS⟩ := hrel
            by_cases hjl : j < n - k
            · have hln := hlsn.out
              have hkn := hnH.out
              have i1 : k + j < ls.length := by omega
              have i2 : k + (j - 1) < ls.length := by omega
              have i3 : k + j < ks.length := by omega
              have i4 : k + (j - 1) < ks.length := by omega
              have z1 : ls[k + j] = ks[k + j] := drop_get (by omega) hdrop.out (by omega) i3
              have z2 : ls[k + (j - 1)] = ks[k + (j - 1)] := drop_get (by omega) hdrop.out (by omega) i4
              obtain ⟨G1, r1⟩ := HS.out.pool_at (i := 1) rfl (hKH.out _ (List.getElem_mem i3))
              obtain ⟨G2, r2⟩ := HS.out.pool_at (i := 1) rfl (hKH.out _ (List.getElem_mem i4))
              obtain ⟨A1, c1, e1, q1⟩ := ints_row r1
              obtain ⟨A2, c2, e2, q2⟩ := ints_row r2
              obtain ⟨-, ⟨-, h0, -⟩ | ⟨g', cx, eB, -, -, hcell⟩⟩ := own_view (HS.out.own (i := 0) rfl)
              · omega
              simp only [Value.slice.injEq, Option.some.injEq, Addr.mk.injEq] at eB
              obtain ⟨⟨rfl, -⟩, -, rfl⟩ := eB
              have m0 := hcell (k + j) _ (by rw [List.getElem?_map, List.getElem?_eq_getElem i1, Option.map_some, z1, e1])
              have m1 := hcell (k + (j - 1)) _ (by rw [List.getElem?_map, List.getElem?_eq_getElem i2, Option.map_some, z2, e2])
              have k0 := cell_regrown m0
              have k1 := cell_regrown m1
              have hcall := Lib.hid (fun W (h : Below wr.heap.size wr W) => equalR_any A1 A2 c1 c2 (ks[k + j]).2 (ks[k + (j - 1)]).2 W (q1.grow h) (q2.grow h) (by have := hlen _ (List.getElem_mem i3); omega))
              have hjw : IntKind.i64.wrap ((j : Int) - 1) = ((j - 1 : Nat) : Int) := by rw [IntWalk.i64_in _ (by omega)]; omega
              have hj2 : j - 1 < n - k := by omega
              have hstep : Hid (cptC ((ks.map Prod.snd).take (k + (j + 1))) = if (ks[k + j]).2 = (ks[k + (j - 1)]).2 then cptC ((ks.map Prod.snd).take (k + j)) else cptC ((ks.map Prod.snd).take (k + j)) ++ [(ks[k + j]).2]) := by
                obtain ⟨j, rfl⟩ : ∃ j', j = j' + 1 := ⟨j - 1, by omega⟩
                have h := cptC_step (l := ks.map Prod.snd) (k := k + j) (by rw [List.length_map]; omega)
                simp only [List.getElem_map] at h
                unfold Hid
                rw [show k + (j + 1 + 1) = k + j + 2 by omega, h]
                by_cases e : (ks[k + j]).2 = (ks[k + j + 1]).2
                · rw [if_pos e]
                  exact (if_pos e.symm).symm
                · rw [if_neg e]
                  exact (if_neg fun e2 => e e2.symm).symm
              obtain ⟨u, hu⟩ : ∃ u, ks[k + j] = u := ⟨_, rfl⟩
              obtain ⟨v, hv⟩ : ∃ v, ks[k + (j - 1)] = v := ⟨_, rfl⟩
              rw [hu] at e1 hcall hstep m0 k0 q1 r1
              rw [hv] at e2 hcall hstep m1 k1 q2 r2
              rw [hu] at z1
              have hu2 : Hid (∀ h : k + j < ks.length, ks[k + j] = u) := fun _ => hu
              have huK := hlK.out _ (List.getElem_mem i1)
              rw [z1] at huK
              replace huK := Lib.hid huK
              replace e1 := Lib.hid e1
              clear hcell r1 r2 q1 q2 m0 m1 z2 e2 hln hkn z1 i1 i2 i3 i4 hu hv
              go_wp2_with fail
              refine wp_region_quiet_below (by kernel_rfl) (by kernel_rfl) ?_
              repeat (any_goals (first | go_big_quiet_step ((go_at_call 114; exact Calls.regrown_of (hcall.out _ (below_regrown _ _ _))))))
              refine wpQuiet_nil ?_
              rintro w2 ⟨pp, hw2⟩
              have hb2 := Lib.hid (hw2 ▸ below_regrown _ _ _ : Below wr.heap.size wr w2)
              have S3 := Lib.hid (HS.out.grow hb2.out)
              clear hw2 HS hcall
              by_cases heq : u.2 = v.2
              · have d4 : decide (u.2 = v.2) = true := decide_eq_true heq
                have hnx : Hid ((ls.take m).map Prod.snd = cptC ((ks.map Prod.snd).take (k + (j + 1)))) := by unfold Hid; rw [hstep.out, if_pos heq]; exact htake.out
                have hdr : Hid (ls.drop (k + (j + 1) - 1) = ks.drop (k + (j + 1) - 1)) := drop_more hdrop.out (by omega)
                rw [d4]
                clear k0 k1 hstep htake hdrop e1 huK heq d4
                go_wp2_with fail
                refine ⟨⟨m, j + 1, ls, hkm, by omega, by omega, by omega, rfl, by go_num, hlsn, hdr, hnx, hlK, S3⟩, ?_⟩
                simp [intOf]; omega
              · have d4 : decide (u.2 = v.2) = false := decide_eq_false heq
                have hml : m < ls.length := by have := hlsn.out; omega
                obtain ⟨t1, t2⟩ := set_take_drop u hml
                have hnx : Hid (((ls.set m u).take (m + 1)).map Prod.snd = cptC ((ks.map Prod.snd).take (k + (j + 1)))) := by
                  unfold Hid; rw [hstep.out, if_neg heq, t1, List.map_append, htake.out]; rfl
                have hdr : Hid ((ls.set m u).drop (k + (j + 1) - 1) = ks.drop (k + (j + 1) - 1)) := by
                  unfold Hid; rw [t2 _ (by omega)]; exact drop_more hdrop.out (by omega)
                have hln2 : Hid ((ls.set m u).length = n) := by unfold Hid; rw [List.length_set]; exact hlsn.out
                have hlK2 : Hid (∀ q ∈ ls.set m u, q ∈ K) := fun q hq => by
                  rcases List.mem_or_eq_of_mem_set hq with h | rfl
                  · exact hlK.out q h
                  · exact huK.out
                obtain ⟨-, ⟨-, h0, -⟩ | ⟨g', cx, eB, -, -, hcell⟩⟩ := own_view (S3.out.own (i := 0) rfl)
                · omega
                simp only [Value.slice.injEq, Option.some.injEq, Addr.mk.injEq] at eB
                obtain ⟨⟨rfl, -⟩, -, rfl⟩ := eB
                obtain ⟨gg, cap2, cur2, e2, -, hh2, -, -, -, ht2⟩ := own_block (S3.out.own (i := 0) rfl) (by omega)
                simp only [Value.slice.injEq, Option.some.injEq, Addr.mk.injEq] at e2
                obtain ⟨⟨rfl, -⟩, -, rfl⟩ := e2
                have hmn : m < n := by omega
                have m0 := own_at hh2 ht2 (o := k + j) (by omega)
                have m1 := own_at hh2 ht2 (o := m) (by omega)
                have ig : k + j < ls.length := by have := hlsn.out; omega
                have hz : ls[k + j] = u := by
                  have hln := hlsn.out
                  have hkn := hnH.out
                  have := drop_get (l := ls) (ks := ks) (by omega) hdrop.out (show k + j - 1 ≤ k + j by omega) (by omega)
                  rw [this, hu2.out]
                have ml0 : w2.cell? ⟨g, k + j, none⟩ = some (.slice A1 u.2.length c1) := by
                  rw [m0.1, List.getElem?_map, List.getElem?_eq_getElem ig, Option.map_some, hz, e1.out]
                obtain ⟨old, hold⟩ : ∃ old, w2.cell? ⟨g, m, none⟩ = some old := by
                  rw [m1.1, List.getElem?_map, List.getElem?_eq_getElem hml]; exact ⟨_, rfl⟩
                have mf := m1.2
                have S4 := S3.out.own_put (i := 0) rfl u.1 (o := m) (by omega)
                rw [← List.map_set, e1.out] at S4
                replace S4 : Hid (Sp w0 (w2.setCell ⟨g, m, none⟩ (.slice A1 u.2.length c1)) (Own 43 1 (.slice (some ⟨g, 0, none⟩) n cc) n ((ls.set m u).map Prod.fst) :: Pool K :: ps)) := S4
                rw [d4]
                clear d4 k0 k1 hstep htake hdrop e1 huK heq S3 hcell hh2 ht2 m0 m1 hz ig t1 t2
                go_wp2_with fail
                refine ⟨⟨m + 1, j + 1, ls.set m u, by omega, by omega, by omega, by omega, by go_num, by go_num, hln2, hdr, hnx, hlK2, S4⟩, ?_⟩
                simp [intOf]; omega
            · obtain rfl : j = n - k := by omega
              have hmn : m < n := by omega
              have hmc : m < cc := by omega
              have hmc2 : ¬ cc = m := by omega
              obtain ⟨i1, hi, hz0, hz1, hz2⟩ := info_parts infoRow
              obtain ⟨gg, cap2, cur2, e2, -, hh2, -, -, -, ht2⟩ := own_block (HS.out.own (i := 0) rfl) (by omega)
              simp only [Value.slice.injEq, Option.some.injEq, Addr.mk.injEq] at e2
              obtain ⟨⟨rfl, -⟩, -, rfl⟩ := e2
              have hcl : ∀ ty, (Builtin.clear_ #[59] ty #[.slice (some ⟨g, m, none⟩) (n - m) (cc - m)]).run Tryz.prog wr = .ok (.tuple #[]) (wr.setCells g m (List.replicate (n - m) (.slice none 0 0))) :=
                fun ty => Lib.run_clear_slice wr _ _ ty _ Tryz.underlying59 Tryz.zeroValue43 rfl rfl g m _ _ (by omega) (fun q hq => by
                  rw [(own_at hh2 ht2 (o := m + q) (by omega)).1, List.getElem?_map, List.getElem?_eq_getElem (by have := hlsn.out; omega)]; rfl) (fun q hq => (own_at hh2 ht2 (o := m + q) (by omega)).2)
              obtain ⟨ys, hy1, S4⟩ := Sp.own_putsQ (i := 0) (List.replicate (n - m) (.slice none 0 0)) m (ls.map Prod.fst) wr HS.out rfl (by rw [List.length_replicate]; omega)
              have S5 := S4.own_cutQ (i := 0) rfl (m := m) (by omega)
              rw [hy1, ← List.map_take] at S5
              have hlt2 : (ls.take m).length = m := by rw [List.length_take]; have := hlsn.out; omega
              have S6 : Hid (Sp w0 (wr.setCells g m (List.replicate (n - m) (.slice none 0 0))) (Cls (.slice (some ⟨g, 0, none⟩) (ls.take m).length cc) (ls.take m) :: Pool K :: ps)) := by
                unfold Hid Cls
                rw [hlt2]
                exact S5
              have hfin : Hid ((ls.take m).map Prod.snd = cptC (ks.map Prod.snd)) := by
                have h := htake.out
                rw [show (ks.map Prod.snd).take (k + (n - k)) = ks.map Prod.snd from List.take_of_length_le (by rw [List.length_map, hnH.out]; omega)] at h
                exact h
              have hsub : Hid (∀ q ∈ ls.take m, q ∈ K) := fun q hq => hlK.out q (List.mem_of_mem_take hq)
              clear HS S4 S5 hdrop htake hlK hh2 ht2 hy1 hi hz0 hz1 hz2
              replace hlt2 := Lib.hid hlt2
              go_wp2_with fail
              go_ret
              exact ⟨ls.take m, by rw [hlt2.out]; rfl, hfin.out, hsub.out, S6.out⟩
        · have d3 : decide ((ks[k]).2 = (ks[k - 1]).2) = false := decide_eq_false he
          have HN2 : Hid (∀ i (h : i + 1 < ks.length), i + 1 < k + 1 → (ks[i]).2 ≠ (ks[i + 1]).2) := fun i h h3 => by
            by_cases e : i + 1 = k
            · subst e
              exact fun e2 => he e2.symm
            · exact HN.out i h (by omega)
          go_wp2_with fail
          go_roundw
          case rel => exact ⟨k + 1, by omega, by omega, by go_num, HN2, S1⟩
          case measure => simp [intOf]; omega
      · obtain rfl : k = ks.length := by omega
        have hR : Hid (ks.map Prod.snd = cptC (ks.map Prod.snd)) := (cptC_same fun i h => by
          rw [List.length_map] at h
          simp only [List.getElem_map]
          exact HN.out i h h).symm
        go_wp2_with fail
        go_ret
        exact ⟨ks, rfl, hR.out, hKH.out, HS.out⟩
end Go.Proofs.YtahbepajeplcmaaGreatDoor

/- Contract: clauses sorted, in the program. -/
namespace Go.Proofs.YtahbepajeplcmaaGreatDoor
open Go.RowKit

set_option maxRecDepth 100000 in
set_option maxHeartbeats 8000000 in
theorem implSort_any (vars : Int) (v : Value) (xss : List (List Int)) (F : List Nat) (w : World) (hx : (Ty.slice Ty.int).row false w v xss F) :
    Calls Tryz.prog 45 #[.agg #[.int .i64 vars, v]] w (CnfQ (sortN vars xss) w) := by
  obtain ⟨A, cap, rfl, hI⟩ := cls_row hx
  have S0 := ((Sp.start w).alloc_box #[.int .i64 vars, .slice A xss.length cap] 61).alloc_box #[.int .i64 0, .slice none 0 0] 61
  simp only [World.size_alloc] at S0
  have hgood := Lib.hid (implIsCnf_any vars _ xss F _ (Ty.row_below hx S0.below (Ty.row_lt hx)))
  have hN := Lib.hid hI
  have c0 := S0.cell (i := 1) rfl (o := 0) rfl
  have c1 := S0.cell (i := 1) rfl (o := 1) rfl
  replace S0 := Lib.hid S0
  clear hx hI
  cases h1 : goodB vars xss
  · have hR := Lib.hid (show sortN vars xss = ((0, []), false) from if_neg (by rw [h1]; decide))
    rw [h1] at hgood
    go_enter Tryz.func45, Tryz.ntmps45
    go_wp2_with fail
    refine hgood.out.mono ?_
    rintro e w1 ⟨rfl, hb1⟩
    have S1 := Lib.hid (S0.out.grow hb1)
    clear S0 hgood hb1 c0 c1 hN
    have r0 := S1.out.cell (i := 0) rfl (o := 0) rfl
    have r1 := S1.out.cell (i := 0) rfl (o := 1) rfl
    have f0 := S1.out.frozen (i := 0) rfl 0
    have f1 := S1.out.frozen (i := 0) rfl 1
    have SF := (S1.out.store (i := 0) rfl 0 (.int .i64 0)).store (i := 0) rfl 1 (.slice none 0 0)
    have j0 := SF.cell (i := 0) rfl (o := 0) rfl
    have j1 := SF.cell (i := 0) rfl (o := 1) rfl
    have hB := Lib.hid SF.below
    clear SF
    go_wp2_with fail
    exact bodyPost_ret (v := .tuple #[.agg #[.int .i64 0, .slice none 0 0], .bool false]) (by simp [results, Tryz.results45, go_sem, j0, j1]) rfl (cnfQ_no hR.out hB.out)
  · have hR := Lib.hid (show sortN vars xss = if true = true then ((vars, sortA xss), true) else ((0, []), false) from (if_pos h1).trans (if_pos rfl).symm)
    rw [h1] at hgood
    have hml := Lib.hid (good_mildC h1)
    obtain ⟨g1, g2, g3⟩ := goodN_parts h1
    have hgs := Lib.hid (fun c (hc : c ∈ xss) => good_s (g3 c hc))
    clear g1 g3 h1
    go_enter Tryz.func45, Tryz.ntmps45
    go_wp2_with fail
    refine hgood.out.mono ?_
    rintro e w1 ⟨rfl, hb1⟩
    have S1 := Lib.hid (S0.out.grow hb1)
    clear S0 hgood hb1 c0 c1
    have c1 := S1.out.cell (i := 1) rfl (o := 1) rfl
    have hcl := Lib.hid (cloneLists_any xss A cap w1 (hN.out.grow S1.out.below) (by omega) (fun c hc => by have := (hml.out c hc).2; omega))
    go_wp2_with fail
    refine hcl.out.mono ?_
    rintro e w2 ⟨B, bc, cs, rfl, T⟩
    obtain ⟨hcs, S2⟩ := (S1.out.seq T).rows_split
    obtain ⟨z1, z2, z3⟩ := zip_fst hcs
    obtain ⟨ks, hks⟩ : ∃ ks, cs.zip xss = ks := ⟨_, rfl⟩
    rw [hks] at S2 z1 z2 z3
    obtain ⟨rb, hrb⟩ : ∃ rb, w.heap.size + 1 = rb := ⟨_, rfl⟩
    have S3 : Hid (Sp w w2 (Cls (.slice B ks.length bc) ks :: Pool ks :: [Box rb 61 #[.int .i64 0, .slice none 0 0], Box w.heap.size 61 #[.int .i64 vars, .slice A xss.length cap]])) := by
      unfold Hid Cls
      rw [z3, z1, ← hrb]
      exact S2
    rw [hrb]
    have hmem : ∀ q ∈ ks, q.2 ∈ xss := fun q hq => by rw [← z2]; exact List.mem_map.2 ⟨q, hq, rfl⟩
    have hsrt := Lib.hid (sortFuncC_any ks ks B bc w w2 _ S3.out (fun q h => h) (by omega) (fun q hq => ⟨fun x hx => (hgs.out _ (hmem q hq)).mem x hx, by have := (hml.out _ (hmem q hq)).2; omega⟩) (fun q hq => by
      obtain ⟨G, hr⟩ := S3.out.pool_at (i := 1) rfl hq
      obtain ⟨A1, c1, e1, -⟩ := ints_row hr
      exact ⟨_, _, _, e1⟩))
    rw [z3] at hsrt
    have hmemH := Lib.hid hmem
    have z2H := Lib.hid z2
    have z3H := Lib.hid z3
    clear S1 S2 S3 T hcl hks hcs z1 z2 z3 c1 hN hmem hrb
    go_wp2_with fail
    refine hsrt.out.mono ?_
    rintro e w3 ⟨rfl, ks2, hp, hpw, S4⟩
    have hl2 : ks2.length = xss.length := hp.length_eq.trans z3H.out
    have hcp := Lib.hid (compactFuncC_any ks2 ks B bc w w3.drew _ S4.drew (fun q hq => hp.mem_iff.1 hq) (by omega) (fun q hq => by have := (hml.out _ (hmemH.out q (hp.mem_iff.1 hq))).2; omega))
    have hsA : Hid (cptC (ks2.map Prod.snd) = sortA xss) := compact_sortA hpw (fun c => by rw [(hp.map Prod.snd).mem_iff, z2H.out])
    rw [hl2] at hcp
    have c0 := S4.cell (i := 3) rfl (o := 0) rfl
    clear S4 hl2 hp hpw hsrt
    go_wp2_with fail
    refine wp_region_tail_lit (S := (fun w' => w'.cell? ⟨w.heap.size, 0, none⟩ = some (.int .i64 vars))) 5 [false, false, false, false, false, false, false] (by kernel_rfl) (by kernel_rfl) (by kernel_rfl) ?_ ?_
    · exact c0
    intro hSc
    (refine walkT_take (i := 0) (v := ?_) rfl (by kernel_rfl) (by decide) (by kernel_rfl) (by kernel_rfl) (fun _ _ _ h => h) (Or.inl ⟨by rfl, ?_⟩) (by assumption) ?_; rotate_left; (focus (intro w hSw; (try dsimp only at hSw); go_simp; (try with_reducible rfl); done)); (try simp only [put_rules]))
    (refine walkT_take (i := 1) (v := ?_) rfl (by kernel_rfl) (by decide) (by kernel_rfl) (by kernel_rfl) (fun _ _ _ h => h) (Or.inl ⟨by rfl, ?_⟩) (by assumption) ?_; rotate_left; (focus (intro w hSw; (try dsimp only at hSw); go_simp; (try with_reducible rfl); done)); (try simp only [put_rules]))
    (refine walkT_take (i := 2) (v := ?_) rfl (by kernel_rfl) (by decide) (by kernel_rfl) (by kernel_rfl) (fun _ _ _ h => h) (Or.inl ⟨by rfl, ?_⟩) (by assumption) ?_; rotate_left; (focus (intro w hSw; (try dsimp only at hSw); go_simp; (try with_reducible rfl); done)); (try simp only [put_rules]))
    (refine walkT_ready (rs := [3]) (by kernel_rfl) (by simp) (by decide) ?_; refine AllT.cons rfl (fun K hK => ?_) AllT.nil)
    go_simp
    go_at_call 113
    refine hcp.out.mono ?_
    rintro e w4 ⟨ks3, rfl, hs3, hsub, S6⟩
    have hss : Hid (ks3.map Prod.snd = sortA xss) := by unfold Hid; rw [hs3, hsA.out]
    replace hsub := Lib.hid hsub
    replace S6 := Lib.hid S6
    clear hcp hs3 hsA c0
    go_wp2_with fail
    refine hK.out _ _ (S6.out.cell (i := 3) rfl (o := 0) rfl) (fun hS2 => ?_)
    clear hK hSc
    (try simp only [put_rules])
    (refine walkT_take (i := 4) (v := ?_) rfl (by kernel_rfl) (by decide) (by kernel_rfl) (by kernel_rfl) (fun _ _ _ h => h) (Or.inl ⟨by rfl, ?_⟩) (by assumption) ?_; rotate_left; (focus (intro w hSw; (try dsimp only at hSw); go_simp; (try with_reducible rfl); done)); (try simp only [put_rules]))
    (refine walkT_done (by kernel_rfl) ?_)
    simp only [List.drop_succ_cons, List.drop_zero]
    have r0 := S6.out.cell (i := 2) rfl (o := 0) rfl
    have r1 := S6.out.cell (i := 2) rfl (o := 1) rfl
    have f0 := S6.out.frozen (i := 2) rfl 0
    have f1 := S6.out.frozen (i := 2) rfl 1
    have SF := (S6.out.store (i := 2) rfl 0 (.int .i64 vars)).store (i := 2) rfl 1 (.slice B ks3.length bc)
    have j0 := SF.cell (i := 2) rfl (o := 0) rfl
    have j1 := SF.cell (i := 2) rfl (o := 1) rfl
    obtain ⟨FL, hLr⟩ := SF.cls_row (i := 0) (j := 1) rfl rfl hsub.out
    have hB := Lib.hid SF.below
    replace hLr := Lib.hid hLr
    clear SF S6 hsub hS2
    go_wp2_with fail
    exact bodyPost_ret (v := .tuple #[.agg #[.int .i64 vars, .slice B ks3.length bc], .bool true]) (by simp [results, Tryz.results45, go_sem, j0, j1]) rfl (cnfQ_yes hR.out hss.out (List.length_map _) hLr.out hB.out)
end Go.Proofs.YtahbepajeplcmaaGreatDoor

/- Contracts: a literal added to a clause, a variable left out, a clause that is part of another one. -/
namespace Go.Proofs.YtahbepajeplcmaaGreatDoor
open Go.RowKit

def addOk (vars : Int) (c : List Int) (l : Int) : Bool := clauseB vars c && litB vars l
def addR (vars : Int) (c : List Int) (l : Int) : List Int × Bool := if addOk vars c l then ((joinS c [l]).getD [], (joinS c [l]).isSome) else ([], false)
theorem addR_yes {vars : Int} {c : List Int} {l : Int} (h : addOk vars c l = true) : addR vars c l = ((joinS c [l]).getD [], (joinS c [l]).isSome) := if_pos h
theorem addR_no {vars : Int} {c : List Int} {l : Int} (h : addOk vars c l = false) : addR vars c l = ([], false) := if_neg (by rw [h]; decide)
def remOk (vars : Int) (c : List Int) (v : Int) : Bool := clauseB vars c && inB v 1 vars
def remR (vars : Int) (c : List Int) (v : Int) : List Int × Bool := if remOk vars c v then (withoutB c v, true) else ([], false)
theorem remR_yes {vars : Int} {c : List Int} {v : Int} (h : remOk vars c v = true) : remR vars c v = (withoutB c v, true) := if_pos h
theorem remR_no {vars : Int} {c : List Int} {v : Int} (h : remOk vars c v = false) : remR vars c v = ([], false) := if_neg (by rw [h]; decide)
theorem lit_vals {vars l : Int} (hv : 0 ≤ vars ∧ vars ≤ 12) (h : litB vars l = true) : LitS l ∧ -12 ≤ l ∧ l ≤ 12 := by
  unfold litB at h
  rw [Bool.and_eq_true, inB_true, bne_iff_ne] at h
  have hn : negV vars = -vars := IntWalk.wrap64_in _ (by omega)
  rw [hn] at h
  exact ⟨⟨h.2, by omega, by omega⟩, by omega, by omega⟩
theorem lit_one {l : Int} (h : LitS l) : GoodS [l] := ⟨by simpa using h, by simp⟩

set_option maxRecDepth 100000 in
set_option maxHeartbeats 4000000 in
theorem implAdd_any (vars : Int) (v : Value) (c : List Int) (l : Int) (F : List Nat) (w : World) (hx : Ty.int.row false w v c F) :
    Calls Tryz.prog 21 #[.int .i64 vars, v, .int .i64 l] w (PCPost (addR vars c l) w) := by
  obtain ⟨i0, hi, hz0, hz1, hz2⟩ := info_parts infoIntL
  obtain ⟨A, cap, rfl, hI⟩ := ints_row hx
  obtain ⟨q1, h1⟩ : ∃ q, clauseB vars c = q := ⟨_, rfl⟩
  obtain ⟨q2, h2⟩ : ∃ q, litB vars l = q := ⟨_, rfl⟩
  have hcl := Lib.hid (implIsClause_at (w := w) hx h1)
  have hli := Lib.hid (fun W => isLiteral_at h2 W)
  cases q1
  · have hR := Lib.hid (addR_no (vars := vars) (c := c) (l := l) (by unfold addOk; rw [h1]; rfl))
    go_enter Tryz.func21, Tryz.ntmps21
    go_wp2_with fail
    refine hcl.out.mono ?_
    rintro e w1 ⟨rfl, hb1⟩
    replace hb1 := Lib.hid hb1
    go_wp2_with fail
    go_ret2
    exact pc_nil hR.out hb1.out
  cases q2
  · have hR := Lib.hid (addR_no (vars := vars) (c := c) (l := l) (by unfold addOk; rw [h1, h2]; rfl))
    go_enter Tryz.func21, Tryz.ntmps21
    go_wp2_with fail
    refine hcl.out.mono ?_
    rintro e w1 ⟨rfl, hb1⟩
    replace hb1 := Lib.hid hb1
    go_wp2_with fail
    refine (hli.out _).mono ?_
    rintro e w2 ⟨rfl, hb2⟩
    have hB := Lib.hid (btr hb1.out hb2)
    go_wp2_with fail
    go_ret2
    exact pc_nil hR.out hB.out
  have hR := Lib.hid (addR_yes (vars := vars) (c := c) (l := l) (by unfold addOk; rw [h1, h2]; rfl))
  obtain ⟨hv0, hv1⟩ := (clause_parts h1).1
  have hgc := good_s h1
  have hL := (lit_vals ⟨hv0, hv1⟩ h2).1
  have hlen := clause_len h1
  have hcs : ∀ x ∈ c, LitS x := (clause_s h1).1
  have hjn := Lib.hid (clauseR_join hgc (lit_one hL))
  have hall : ∀ x ∈ c ++ [l], LitS x := by
    intro x hx
    rcases List.mem_append.1 hx with hx | hx
    · exact hcs x hx
    · obtain rfl : x = l := by simpa using hx
      exact hL
  have hi64 : ∀ x ∈ c ++ [l], I64 x := fun x hx => by have := hall x hx; unfold LitS at this; unfold I64; omega
  go_enter Tryz.func21, Tryz.ntmps21
  go_wp2_with fail
  refine hcl.out.mono ?_
  rintro e w1 ⟨rfl, hb1⟩
  replace hb1 := Lib.hid hb1
  go_wp2_with fail
  refine (hli.out _).mono ?_
  rintro e w2 ⟨rfl, hb2⟩
  have S2 := Lib.hid (Sp.of_below (btr hb1.out hb2))
  have hclo := Lib.hid (cloneA_any A cap c w2 (hI.grow S2.out.below) (by omega))
  clear hb1 hb2 hcl hli hI
  go_wp2_with fail
  refine hclo.out.mono ?_
  rintro e w3 ⟨D, dc, rfl, T3⟩
  have S3 := (S2.out.seq T3).alloc_box #[.int .i64 l] 3
  have kB := S3.cell (i := 0) rfl (o := 0) rfl
  replace S3 := Lib.hid S3
  clear S2 T3 hclo
  go_wp2_with (at_builtin; refine wpList_append_src rfl _ _ rfl Tryz.underlying43 hi hz0 hz1 hz2 rfl (by decide) _ _ _ rfl (S3.out.own (i := 1) rfl) _ 1 1 [.int .i64 l] rfl (Src.one kB) (by simp [Value.oneCell']) ?c3 ?c4 ?_)
  case c3 => unfold maxLen; omega
  case c4 => omega
  intro vY wY hownY hgY hatY
  have S4 := (S3.out.own_push (i := 1) rfl (bb _) hownY hgY (by simpa using hatY)).tail
  obtain ⟨aY, cY, rfl⟩ := own_slice hownY
  have S5 : Hid (Sp w wY [Own 3 1 (.slice aY (c ++ [l]).length cY) (c ++ [l]).length ((c ++ [l]).map (.int .i64))]) := by
    have e1 : (c ++ [l]).length = c.length + 1 := by simp
    unfold Hid
    rw [e1, List.map_append]
    exact S4
  have hlen2 : c.length + 1 = (c ++ [l]).length := by simp
  obtain ⟨A', c', e', hIY⟩ := ints_own (S5.out.own (i := 0) rfl) hi64
  cases e'
  have hfin := Lib.hid (clause_any (c ++ [l]) aY cY wY hIY hall (by rw [← hlen2]; omega))
  rw [hjn.out] at hfin
  clear S3 S4 kB hownY hgY hatY hIY hall hi64 hjn
  rw [hlen2]
  generalize c ++ [l] = zs at *
  replace hlen2 := Lib.hid hlen2
  go_wp2_with fail
  refine hfin.out.mono ?_
  rintro e w5 ⟨E, ec, rfl, T5⟩
  have S6 := Lib.hid ((S5.out.seq T5).pick [0] rfl)
  clear S5 T5 hfin
  go_wp2_with fail
  go_ret2
  unfold PCPost
  rw [hR.out]
  exact ⟨_, _, rfl, S6.out⟩

set_option maxRecDepth 100000 in
set_option maxHeartbeats 4000000 in
theorem implRemove_any (vars : Int) (v : Value) (c : List Int) (l : Int) (F : List Nat) (w : World) (hx : Ty.int.row false w v c F) :
    Calls Tryz.prog 24 #[.int .i64 vars, v, .int .i64 l] w (PCPost (remR vars c l) w) := by
  obtain ⟨A, cap, rfl, hI⟩ := ints_row hx
  obtain ⟨q1, h1⟩ : ∃ q, clauseB vars c = q := ⟨_, rfl⟩
  obtain ⟨q2, h2⟩ : ∃ q, inB l 1 vars = q := ⟨_, rfl⟩
  have hcl := Lib.hid (implIsClause_at (w := w) hx h1)
  have hli := Lib.hid (fun W => isVarS_any vars l W)
  rw [h2] at hli
  cases q1
  · have hR := Lib.hid (remR_no (vars := vars) (c := c) (v := l) (by unfold remOk; rw [h1]; rfl))
    go_enter Tryz.func24, Tryz.ntmps24
    go_wp2_with fail
    refine hcl.out.mono ?_
    rintro e w1 ⟨rfl, hb1⟩
    replace hb1 := Lib.hid hb1
    go_wp2_with fail
    go_ret2
    exact pc_nil hR.out hb1.out
  cases q2
  · have hR := Lib.hid (remR_no (vars := vars) (c := c) (v := l) (by unfold remOk; rw [h1, h2]; rfl))
    go_enter Tryz.func24, Tryz.ntmps24
    go_wp2_with fail
    refine hcl.out.mono ?_
    rintro e w1 ⟨rfl, hb1⟩
    replace hb1 := Lib.hid hb1
    go_wp2_with fail
    refine (hli.out _).mono ?_
    rintro e w2 ⟨rfl, rfl⟩
    go_wp2_with fail
    go_ret2
    exact pc_nil hR.out hb1.out
  have hR := Lib.hid (remR_yes (vars := vars) (c := c) (v := l) (by unfold remOk; rw [h1, h2]; rfl))
  have hlen := clause_len h1
  have hcs : ∀ x ∈ c, LitS x := (clause_s h1).1
  go_enter Tryz.func24, Tryz.ntmps24
  go_wp2_with fail
  refine hcl.out.mono ?_
  rintro e w1 ⟨rfl, hb1⟩
  replace hb1 := Lib.hid hb1
  go_wp2_with fail
  refine (hli.out _).mono ?_
  rintro e w2 ⟨rfl, rfl⟩
  have hwo := Lib.hid (withoutVar_any c A cap l w1 (hI.grow hb1.out) hcs (by omega))
  clear hcl hli hI hcs
  go_wp2_with fail
  refine hwo.out.mono ?_
  rintro e w3 ⟨D, dc, rfl, T3⟩
  have S3 := Lib.hid (((Sp.of_below hb1.out).seq T3).pick [0] rfl)
  clear hb1 T3 hwo
  go_wp2_with fail
  go_ret2
  unfold PCPost
  rw [hR.out]
  exact ⟨_, _, rfl, S3.out⟩

set_option maxRecDepth 100000 in
set_option maxHeartbeats 4000000 in
theorem isPart_any (vars : Int) (v u : Value) (a b : List Int) (F G : List Nat) (w : World) (hx : Ty.int.row false w v a F) (hy : Ty.int.row false w u b G) (h1 : clauseB vars a = true) (h2 : clauseB vars b = true) :
    Calls Tryz.prog 27 #[.int .i64 vars, v, u] w fun e w' => e = .returned (.tuple #[.bool (a.all (hasI b)), .bool true]) ∧ Below w.heap.size w w' := by
  obtain ⟨A, cap, rfl, hI⟩ := ints_row hx
  obtain ⟨B, cap2, rfl, hJ⟩ := ints_row hy
  have hcl := Lib.hid (implIsClause_at (w := w) hx h1)
  have hli := Lib.hid (fun W (h : Below w.heap.size w W) => implIsClause_at (w := W) (Ty.row_below hy h (Ty.row_lt hy)) h2)
  have la := clause_len h1
  have lb := clause_len h2
  have hpt := Lib.hid (fun W (h : Below w.heap.size w W) => part_any a b A B cap cap2 W (hI.grow h) (hJ.grow h) (by omega) (by omega))
  clear hx hy hI hJ h1 h2
  generalize a.all (hasI b) = q at *
  go_enter Tryz.func27, Tryz.ntmps27
  go_wp2_with fail
  refine hcl.out.mono ?_
  rintro e w1 ⟨rfl, hb1⟩
  replace hb1 := Lib.hid hb1
  go_wp2_with fail
  refine (hli.out _ hb1.out).mono ?_
  rintro e w2 ⟨rfl, hb2⟩
  have hB := Lib.hid (btr hb1.out hb2)
  clear hb1 hb2
  go_wp2_with fail
  refine (hpt.out _ hB.out).mono ?_
  rintro e w3 ⟨rfl, hb3⟩
  have hB2 := Lib.hid (btr hB.out hb3)
  clear hb3 hB
  go_wp2_with fail
  go_ret2
  exact ⟨rfl, hB2.out⟩
end Go.Proofs.YtahbepajeplcmaaGreatDoor

/- Contracts: a literal added to a clause and a variable left out, in the reference. -/
namespace Go.Proofs.YtahbepajeplcmaaGreatDoor
open Go.RowKit

theorem ia_made {r : List Int × Bool} {q : Bool} {w w' : World} {A : Option Addr} {c : Nat} (h : r = ([], q)) (hS : Sp w w' [Own 3 1 (.slice A 0 c) 0 []]) : IAns w r.2 r.1 (.returned (.tuple #[.slice A 0 c, .bool q])) w' := by
  subst h
  exact ⟨A, c, rfl, IntsAt.nil _ _, hS.below⟩

set_option maxRecDepth 100000 in
set_option maxHeartbeats 4000000 in
theorem specAdd_any (vars : Int) (v : Value) (c : List Int) (l : Int) (F : List Nat) (w : World) (hx : Ty.int.row false w v c F) :
    Calls Tryz.prog 22 #[.int .i64 vars, v, .int .i64 l] w (IAns w (addR vars c l).2 (addR vars c l).1) := by
  obtain ⟨A, cap, rfl, hI⟩ := ints_row hx
  obtain ⟨q1, h1⟩ : ∃ q, clauseB vars c = q := ⟨_, rfl⟩
  obtain ⟨q2, h2⟩ : ∃ q, litB vars l = q := ⟨_, rfl⟩
  have hcl := Lib.hid (l2Clause_at (w := w) hx h1)
  have hli := Lib.hid (fun W => l2Lit_at h2 W)
  cases q1
  · have hR := Lib.hid (addR_no (vars := vars) (c := c) (l := l) (by unfold addOk; rw [h1]; rfl))
    go_enter Tryz.func22, Tryz.ntmps22
    go_wp2_with fail
    refine hcl.out.mono ?_
    rintro e w1 ⟨rfl, hb1⟩
    have S1 := Lib.hid ((Sp.of_below hb1).own_made 3 1)
    clear hcl hli hb1
    go_wp2_with fail
    go_ret2
    exact ia_made hR.out S1.out
  cases q2
  · have hR := Lib.hid (addR_no (vars := vars) (c := c) (l := l) (by unfold addOk; rw [h1, h2]; rfl))
    go_enter Tryz.func22, Tryz.ntmps22
    go_wp2_with fail
    refine hcl.out.mono ?_
    rintro e w1 ⟨rfl, hb1⟩
    replace hb1 := Lib.hid hb1
    go_wp2_with fail
    refine (hli.out _).mono ?_
    rintro e w2 ⟨rfl, hb2⟩
    have S1 := Lib.hid ((Sp.of_below (btr hb1.out hb2)).own_made 3 1)
    clear hcl hli hb1 hb2
    go_wp2_with fail
    go_ret2
    exact ia_made hR.out S1.out
  rw [addR_yes (vars := vars) (c := c) (l := l) (by unfold addOk; rw [h1, h2]; rfl)]
  obtain ⟨hv0, hv1⟩ := (clause_parts h1).1
  have hL := (lit_vals ⟨hv0, hv1⟩ h2).1
  have hlen := clause_len h1
  have hwa : Within 1000 c := fun x hx => by have := (clause_s h1).1 x hx; unfold LitS at this; omega
  have hwb : Within 1000 [l] := fun x hx => by
    obtain rfl : x = l := by simpa using hx
    unfold LitS at hL; omega
  have h64 : I64 l := by unfold LitS at hL; unfold I64; omega
  have hjo := Lib.hid (fun W (h : Below w.heap.size w W) => l2JoinS_any _ _ c [l] F [W.heap.size] (W.alloc (.cells #[.int .i64 l] 3)) (Ty.row_below hx (bal h _) (Ty.row_lt hx)) (row_int_mk (xs := [l]) (cap := 1) (off := 0) (b := W.heap.size) (fun x hx => by
    obtain rfl : x = l := by simpa using hx
    exact h64) (by simp) (by omega) (by simp) (fun j hj => by
      have e : j = 0 := by simpa using hj
      subst e
      exact ⟨((Sp.of_below h).alloc_box #[.int .i64 l] 3).cell (i := 0) rfl (o := 0) rfl, fun h => by cases h⟩)) hwa hwb (by omega) (by simp))
  generalize (joinS c [l]).isSome = q at *
  generalize (joinS c [l]).getD [] = zs at *
  clear hx hI hwa hwb h1 h2
  go_enter Tryz.func22, Tryz.ntmps22
  go_wp2_with fail
  refine hcl.out.mono ?_
  rintro e w1 ⟨rfl, hb1⟩
  replace hb1 := Lib.hid hb1
  go_wp2_with fail
  refine (hli.out _).mono ?_
  rintro e w2 ⟨rfl, hb2⟩
  have hB := Lib.hid (btr hb1.out hb2)
  have hj := Lib.hid (hjo.out w2 hB.out)
  clear hb1 hb2 hjo hcl hli
  go_wp2_with fail
  refine hj.out.mono ?_
  rintro e w3 ⟨D, dc, rfl, hZ, hb3⟩
  have hB3 := Lib.hid (btr (bal hB.out _) hb3)
  replace hZ := Lib.hid hZ
  clear hB hb3 hj
  go_wp2_with fail
  go_ret2
  exact ⟨D, dc, rfl, hZ.out, hB3.out⟩

set_option maxRecDepth 100000 in
set_option maxHeartbeats 4000000 in
theorem specRemove_any (vars : Int) (v : Value) (c : List Int) (l : Int) (F : List Nat) (w : World) (hx : Ty.int.row false w v c F) :
    Calls Tryz.prog 29 #[.int .i64 vars, v, .int .i64 l] w (IAns w (remR vars c l).2 (remR vars c l).1) := by
  obtain ⟨A, cap, rfl, hI⟩ := ints_row hx
  obtain ⟨q1, h1⟩ : ∃ q, clauseB vars c = q := ⟨_, rfl⟩
  obtain ⟨q2, h2⟩ : ∃ q, inB l 1 vars = q := ⟨_, rfl⟩
  have hcl := Lib.hid (l2Clause_at (w := w) hx h1)
  have hli := Lib.hid (fun W => l1In_any l 1 vars W)
  rw [h2] at hli
  cases q1
  · have hR := Lib.hid (remR_no (vars := vars) (c := c) (v := l) (by unfold remOk; rw [h1]; rfl))
    go_enter Tryz.func29, Tryz.ntmps29
    go_wp2_with fail
    refine hcl.out.mono ?_
    rintro e w1 ⟨rfl, hb1⟩
    have S1 := Lib.hid ((Sp.of_below hb1).own_made 3 1)
    clear hcl hli hb1
    go_wp2_with fail
    go_ret2
    exact ia_made hR.out S1.out
  cases q2
  · have hR := Lib.hid (remR_no (vars := vars) (c := c) (v := l) (by unfold remOk; rw [h1, h2]; rfl))
    go_enter Tryz.func29, Tryz.ntmps29
    go_wp2_with fail
    refine hcl.out.mono ?_
    rintro e w1 ⟨rfl, hb1⟩
    have S1 := Lib.hid ((Sp.of_below hb1).own_made 3 1)
    clear hcl hb1
    go_wp2_with fail
    refine (hli.out _).mono ?_
    rintro e w2 ⟨rfl, rfl⟩
    go_wp2_with fail
    go_ret2
    exact ia_made hR.out S1.out
  rw [remR_yes (vars := vars) (c := c) (v := l) (by unfold remOk; rw [h1, h2]; rfl)]
  have hlen := clause_len h1
  have h64 : ∀ x ∈ withoutB c l, I64 x := fun x hx => by
    have := (clause_s h1).1 x (List.mem_filter.1 hx).1
    unfold LitS at this; unfold I64; omega
  have hwo := Lib.hid (fun W (h : Below w.heap.size w W) => l2Without_any _ c l F W (Ty.row_below hx h (Ty.row_lt hx)) (by omega))
  generalize withoutB c l = zs at *
  clear hx hI h1 h2
  go_enter Tryz.func29, Tryz.ntmps29
  go_wp2_with fail
  refine hcl.out.mono ?_
  rintro e w1 ⟨rfl, hb1⟩
  have hw := Lib.hid (hwo.out w1 hb1)
  replace hb1 := Lib.hid hb1
  clear hcl hwo
  go_wp2_with fail
  refine (hli.out _).mono ?_
  rintro e w2 ⟨rfl, rfl⟩
  clear hli
  go_wp2_with fail
  refine hw.out.mono ?_
  rintro e w3 ⟨v2, rfl, ho, hb2⟩
  obtain ⟨D, dc, rfl⟩ := own_slice ho
  obtain ⟨A', c', e', hIY⟩ := ints_own ho h64
  cases e'
  have hB := Lib.hid (btr hb1.out hb2)
  clear ho hb2 hb1 hw h64
  replace hIY := Lib.hid hIY
  go_wp2_with fail
  go_ret2
  exact ⟨D, dc, rfl, hIY.out, hB.out⟩
end Go.Proofs.YtahbepajeplcmaaGreatDoor

/- Contracts: the bits of a total assignment, in the program; numbers held, in the laws. -/
namespace Go.Proofs.YtahbepajeplcmaaGreatDoor
open Go.RowKit

theorem or_natS (a b : Nat) (ha : a < 2 ^ 62) (hb : b < 2 ^ 62) : bits .or .i64 (a : Int) (b : Int) = ((a ||| b : Nat) : Int) := by
  have h := bits_nat .i64 62 (by decide) (fun n h0 h1 => by rw [IntKind.wrap_i64]; have : (2 : Int) ^ 62 = 4611686018427387904 := by decide
                                                            omega) a b ha hb
  exact h.2
theorem modS_next (b k : Nat) : b % 2 ^ (k + 1) = if b.testBit k then (b % 2 ^ k) ||| 2 ^ k else b % 2 ^ k := by
  rw [Nat.mod_pow_succ, Nat.testBit_eq_decide_div_mod_eq]
  have h : b % 2 ^ k < 2 ^ k := Nat.mod_lt _ (Nat.two_pow_pos k)
  have h3 : b / 2 ^ k % 2 < 2 := Nat.mod_lt _ (by decide)
  by_cases h1 : b / 2 ^ k % 2 = 1
  · rw [h1, decide_eq_true rfl, if_pos rfl, Nat.mul_one]
    have h2 := Nat.two_pow_add_eq_or_of_lt h 1
    rw [Nat.mul_one] at h2
    rw [Nat.or_comm, ← h2, Nat.add_comm]
  · have h4 : b / 2 ^ k % 2 = 0 := by omega
    rw [h4]
    simp

/- left out: the seat has no impl.bitsOf -/

/- left out: the seat has no impl.BitsOfTotal -/

set_option maxHeartbeats 1000000 in
theorem vHas_any (xs : List Int) (A : Option Addr) (cap : Nat) (x : Int) (w : World) (hx : IntsAt w A xs) (hl : xs.length ≤ 1000000) :
    Calls Tryz.prog 26 #[.slice A xs.length cap, .int .i64 x] w fun e w' => e = .returned (.bool (hasI xs x)) ∧ w = w' := by
  have hX := Lib.hid hx
  clear hx
  go_enter Tryz.func26, Tryz.ntmps26
  go_wp2_with fail
  go_loopw [5] (fun i wr => ∃ k : Nat, k ≤ xs.length ∧ i = .int .i64 k ∧ Hid (hasI (xs.take k) x = false) ∧ w = wr) (fun i _ => xs.length - (intOf i).toNat)
  case atStart => exact ⟨0, Nat.zero_le _, rfl, by simp [Hid, hasI], rfl⟩
  case round =>
    obtain ⟨k, hk, rfl, HR, rfl⟩ := hrel
    by_cases hlt : k < xs.length
    · obtain ⟨b, off, rfl, k0⟩ := hX.out.at_ k hlt
      by_cases he : xs[k] = x
      · have HN : Hid (hasI xs x = true) := hasI_yes hlt he
        have he' : (xs[k] == x) = true := by simpa using he
        clear he HR
        go_wp2_with fail
        go_ret
        exact ⟨ret_bool HN.out.symm, rfl⟩
      · have HN : Hid (hasI (xs.take (k + 1)) x = false) := hasI_no hlt HR.out he
        have he' : (xs[k] == x) = false := by simpa using he
        clear he HR
        go_wp2_with fail
        go_roundw
        case rel => exact ⟨k + 1, by omega, by go_num, HN, by first | rfl | trivial⟩
        case measure => simp [intOf]; omega
    · obtain rfl : k = xs.length := by omega
      have HN := HR.out
      rw [List.take_length] at HN
      replace HN := Lib.hid HN
      clear HR
      go_wp2_with fail
      go_ret
      exact ⟨ret_bool HN.out.symm, rfl⟩
end Go.Proofs.YtahbepajeplcmaaGreatDoor

/- Contracts: drawn assignments, and drawn inputs of laws on assignments. -/
namespace Go.Proofs.YtahbepajeplcmaaGreatDoor
open Go.RowKit

def leastS (a b : Int) : Int := if a < b then a else b
def mostS (a b : Int) : Int := if b < a then a else b
theorem l1LeastS_any (a b : Int) (w : World) : Calls Tryz.prog 93 #[.int .i64 a, .int .i64 b] w fun e w' => e = .returned (.int .i64 (leastS a b)) ∧ w = w' := by
  unfold leastS
  by_cases h : a < b
  · rw [if_pos h]
    have d : decide (a < b) = true := decide_eq_true h
    clear h
    go_enter Tryz.func93, Tryz.ntmps93
    go_wp2_with fail
    go_ret
    exact ⟨rfl, rfl⟩
  · rw [if_neg h]
    have d : decide (a < b) = false := decide_eq_false h
    clear h
    go_enter Tryz.func93, Tryz.ntmps93
    go_wp2_with fail
    go_ret
    exact ⟨rfl, rfl⟩
theorem l1MostS_any (a b : Int) (w : World) : Calls Tryz.prog 92 #[.int .i64 a, .int .i64 b] w fun e w' => e = .returned (.int .i64 (mostS a b)) ∧ w = w' := by
  unfold mostS
  by_cases h : b < a
  · rw [if_pos h]
    have d : decide (b < a) = true := decide_eq_true h
    clear h
    go_enter Tryz.func92, Tryz.ntmps92
    go_wp2_with fail
    go_ret
    exact ⟨rfl, rfl⟩
  · rw [if_neg h]
    have d : decide (b < a) = false := decide_eq_false h
    clear h
    go_enter Tryz.func92, Tryz.ntmps92
    go_wp2_with fail
    go_ret
    exact ⟨rfl, rfl⟩
theorem among_three3 {w1 : World} {vars : Int} {g A cl cc : Nat} {ca : Option Addr} (h : CurIs A g ca cl cc w1) (hv : -1 ≤ vars ∧ vars ≤ 13) (hA : A ≤ 80000000) :
    Calls Tryz.prog 87 #[.pointer (some ⟨g, 0, none⟩), .slice (some ⟨w1.heap.size, 0, none⟩) 3 3] (w1.alloc (.cells #[.int .i64 0, .int .i64 (vars + 1), .int .i64 (-9223372036854775808)] 3)) (CurPost (IntIn (-9223372036854775808) 14) (A + 2) g ca cl cc (w1.alloc (.cells #[.int .i64 0, .int .i64 (vars + 1), .int .i64 (-9223372036854775808)] 3))) := by
  have hg := h.lt
  refine cur_among (-9223372036854775808) 14 w1.heap.size 0 3 3 A g ca cl cc _ (h.grow (bal (bb _) _)) (by omega) (by decide) (by decide) (ints_new rfl fun j hj => ?_) (by omega)
  match j, hj with
  | 0, _ => exact ⟨_, rfl, by decide, by decide⟩
  | 1, _ => exact ⟨_, rfl, by omega, by omega⟩
  | 2, _ => exact ⟨_, rfl, by decide, by decide⟩
theorem AllI.snoc {c : List Int} {x : Int} (h : AllI c) (hx : I64 x) : AllI (c ++ [x]) := fun y hy => by
  rcases List.mem_append.1 hy with hy | hy
  · exact h y hy
  · obtain rfl : y = x := by simpa using hy
    exact hx

/- left out: the seat has no (*loop.example/g01080/spec.l1Cur).assignment -/

/- left out: the seat has no (*loop.example/g01080/spec.l1Cur).anyAssignment -/
end Go.Proofs.YtahbepajeplcmaaGreatDoor

/- Contracts: drawn inputs of laws on assignments. -/
namespace Go.Proofs.YtahbepajeplcmaaGreatDoor
open Go.RowKit

def SetD (w : World) (e : Ending) (w' : World) : Prop := ∃ (vars l : Int) (D : Option Addr) (dc : Nat) (d : List Int), e = .returned (.tuple #[.int .i64 vars, .slice D d.length dc, .int .i64 l]) ∧ -1 ≤ vars ∧ vars ≤ 13 ∧ -14 ≤ l ∧ l ≤ 14 ∧ d.length ≤ 13 ∧ AllI d ∧ Sp w w' [Own 3 1 (.slice D d.length dc) d.length (d.map (.int .i64))]
def MergeD (w : World) (e : Ending) (w' : World) : Prop := ∃ (vars : Int) (D E : Option Addr) (dc ec : Nat) (d f : List Int), e = .returned (.tuple #[.int .i64 vars, .slice D d.length dc, .slice E f.length ec]) ∧ -1 ≤ vars ∧ vars ≤ 13 ∧ d.length ≤ 13 ∧ f.length ≤ 13 ∧ AllI d ∧ AllI f ∧
  Sp w w' [Own 3 1 (.slice D d.length dc) d.length (d.map (.int .i64)), Own 3 1 (.slice E f.length ec) f.length (f.map (.int .i64))]
def TotD (w : World) (e : Ending) (w' : World) : Prop := ∃ (vars x : Int), e = .returned (.tuple #[.int .i64 vars, .int .i64 x]) ∧ -1 ≤ vars ∧ vars ≤ 13 ∧ -1 ≤ x ∧ x ≤ 4096 ∧ Below w.heap.size w w'

/- left out: the seat has no spec.DrawSetLiteral -/

/- left out: the seat has no spec.DrawMergeAssignments -/

/- left out: the seat has no spec.DrawTotalOf -/
end Go.Proofs.YtahbepajeplcmaaGreatDoor

/- Contracts: drawn inputs of laws on literals and texts of clauses. -/
namespace Go.Proofs.YtahbepajeplcmaaGreatDoor
open Go.RowKit

def AddD (w : World) (e : Ending) (w' : World) : Prop := ∃ (vars l : Int) (D : Option Addr) (dc : Nat) (d : List Int), e = .returned (.tuple #[.int .i64 vars, .slice D d.length dc, .int .i64 l]) ∧ -1 ≤ vars ∧ vars ≤ 13 ∧ -14 ≤ l ∧ l ≤ 14 ∧ d.length ≤ 5 ∧ AllI d ∧ Sp w w' [Own 3 1 (.slice D d.length dc) d.length (d.map (.int .i64))]
def ClaD (w : World) (e : Ending) (w' : World) : Prop := ∃ (vars : Int) (D : Option Addr) (dc : Nat) (d : List Int), e = .returned (.tuple #[.int .i64 vars, .slice D d.length dc]) ∧ -1 ≤ vars ∧ vars ≤ 13 ∧ d.length ≤ 5 ∧ AllI d ∧ Sp w w' [Own 3 1 (.slice D d.length dc) d.length (d.map (.int .i64))]
def TxtD (w : World) (e : Ending) (w' : World) : Prop := ∃ (vars : Int) (s : ByteArray), e = .returned (.tuple #[.int .i64 vars, .string s]) ∧ -1 ≤ vars ∧ vars ≤ 13 ∧ s.size ≤ 10000 ∧ Below w.heap.size w w'

set_option maxRecDepth 100000 in
set_option maxHeartbeats 8000000 in
theorem drawAddLiteral_any (ca : Option Addr) (cl cc : Nat) (w : World) (hc : CodeOk w ca cl) (hs : cl ≤ 65536) : Calls Tryz.prog 20 #[.slice ca cl cc] w (AddD w) := by
  have S0 := (Sp.start w).cur_laid ca cl cc
  have hi := Lib.hid (S0.cur (A' := 0) (i := 0) rfl hc hs).1
  obtain ⟨gc, hgc⟩ : ∃ gc, w.heap.size = gc := ⟨_, rfl⟩
  rw [hgc] at S0 hi
  replace S0 := Lib.hid S0
  have hcH := Lib.hid hc
  clear hc
  go_enter Tryz.func20, Tryz.ntmps20
  go_wp2_with fail
  refine (cur_vars2 0 gc ca cl cc _ hi.out (by omega)).mono ?_
  rintro e w1 ⟨_, ⟨vars, hv0, hv1, rfl⟩, rfl, hi1, hc1⟩
  have S1 := Lib.hid ((S0.out.cur (A' := 10) (i := 0) rfl hcH.out hs).2 w1 (hi1.mono (by omega)) hc1)
  clear S0 hi hi1 hc1
  replace S1 : Hid (Sp w w1 [CurA 10 gc ca cl cc]) := S1
  have hcu := Lib.hid (S1.out.cur (A' := 10) (i := 0) rfl hcH.out hs).1
  go_wp2_with fail
  refine (cur_anyClause vars ⟨hv0, hv1⟩ _ gc ca cl cc _ hcu.out (by omega)).mono ?_
  rintro e w2 ⟨v, d, rfl, ho, hdl, hD, hi2, hc2⟩
  have S2 := S1.out.cs_call (row_cs hcu.out hi2 hc2 ho) hcH.out hs
  obtain ⟨D, dc, rfl⟩ := own_slice ho
  have hDH := Lib.hid hD
  replace S2 : Hid (Sp w w2 [Own 3 1 (.slice D d.length dc) d.length (d.map (.int .i64)), CurA (10 + 80) gc ca cl cc]) := S2
  clear S1 hcu hi2 hc2 ho hD
  have hcu := Lib.hid (S2.out.cur (A' := 90) (i := 1) rfl hcH.out hs).1
  go_wp2_with fail
  refine (cur_lit13 vars ⟨hv0, hv1⟩ _ gc ca cl cc _ hcu.out (by omega)).mono ?_
  rintro e w3 ⟨_, ⟨l, hl0, hl1, rfl⟩, rfl, hi3, hc3⟩
  have S3 := Lib.hid (((S2.out.cur (A' := 100) (i := 1) rfl hcH.out hs).2 w3 (hi3.mono (by omega)) hc3).pick (qs := [Own 3 1 (.slice D d.length dc) d.length (d.map (.int .i64))]) [0] rfl)
  clear S2 hcu hi3 hc3
  go_wp2_with fail
  exact bodyPost_ret (v := .tuple #[.int .i64 vars, .slice D d.length dc, .int .i64 l]) (by simp [results, Tryz.results20, go_sem]) rfl ⟨vars, l, D, dc, d, rfl, hv0, hv1, hl0, hl1, hdl, hDH.out, S3.out⟩

set_option maxRecDepth 100000 in
set_option maxHeartbeats 8000000 in
theorem drawRemoveVar_any (ca : Option Addr) (cl cc : Nat) (w : World) (hc : CodeOk w ca cl) (hs : cl ≤ 65536) : Calls Tryz.prog 28 #[.slice ca cl cc] w (AddD w) := by
  have S0 := (Sp.start w).cur_laid ca cl cc
  have hi := Lib.hid (S0.cur (A' := 0) (i := 0) rfl hc hs).1
  obtain ⟨gc, hgc⟩ : ∃ gc, w.heap.size = gc := ⟨_, rfl⟩
  rw [hgc] at S0 hi
  replace S0 := Lib.hid S0
  have hcH := Lib.hid hc
  clear hc
  go_enter Tryz.func28, Tryz.ntmps28
  go_wp2_with fail
  refine (cur_vars2 0 gc ca cl cc _ hi.out (by omega)).mono ?_
  rintro e w1 ⟨_, ⟨vars, hv0, hv1, rfl⟩, rfl, hi1, hc1⟩
  have S1 := Lib.hid ((S0.out.cur (A' := 10) (i := 0) rfl hcH.out hs).2 w1 (hi1.mono (by omega)) hc1)
  clear S0 hi hi1 hc1
  replace S1 : Hid (Sp w w1 [CurA 10 gc ca cl cc]) := S1
  have hcu := Lib.hid (S1.out.cur (A' := 10) (i := 0) rfl hcH.out hs).1
  go_wp2_with fail
  refine (cur_anyClause vars ⟨hv0, hv1⟩ _ gc ca cl cc _ hcu.out (by omega)).mono ?_
  rintro e w2 ⟨v, d, rfl, ho, hdl, hD, hi2, hc2⟩
  have S2 := S1.out.cs_call (row_cs hcu.out hi2 hc2 ho) hcH.out hs
  obtain ⟨D, dc, rfl⟩ := own_slice ho
  have hDH := Lib.hid hD
  replace S2 : Hid (Sp w w2 [Own 3 1 (.slice D d.length dc) d.length (d.map (.int .i64)), CurA (10 + 80) gc ca cl cc]) := S2
  have S5 := Lib.hid (S2.out.alloc (.cells #[.int .i64 1, .int .i64 2, .int .i64 3, .int .i64 1, .int .i64 2, .int .i64 0, .int .i64 (-1), .int .i64 13] 3))
  clear S1 hcu hi2 hc2 ho hD
  have hcu := Lib.hid (S5.out.cur (A' := 90) (i := 1) rfl hcH.out hs).1
  have hg : gc < w2.heap.size := (S2.out.cur (A' := 90) (i := 1) rfl hcH.out hs).1.lt
  have hcall := Lib.hid (cur_among (-14) 14 w2.heap.size 0 8 8 _ gc ca cl cc _ hcu.out (by omega) (by decide) (by decide) (ints_new (by simp) fun j hj => by
    match j, hj with
    | 0, _ => exact ⟨_, rfl, by omega, by omega⟩
    | 1, _ => exact ⟨_, rfl, by omega, by omega⟩
    | 2, _ => exact ⟨_, rfl, by omega, by omega⟩
    | 3, _ => exact ⟨_, rfl, by omega, by omega⟩
    | 4, _ => exact ⟨_, rfl, by omega, by omega⟩
    | 5, _ => exact ⟨_, rfl, by omega, by omega⟩
    | 6, _ => exact ⟨_, rfl, by omega, by omega⟩
    | 7, _ => exact ⟨_, rfl, by omega, by omega⟩) (by omega))
  clear S2 hcu hg
  go_wp2_with fail
  refine hcall.out.mono ?_
  rintro e w3 ⟨_, ⟨l, hl0, hl1, rfl⟩, rfl, hi3, hc3⟩
  have S3 := Lib.hid (((S5.out.cur (A' := 100) (i := 1) rfl hcH.out hs).2 w3 (hi3.mono (by omega)) hc3).pick (qs := [Own 3 1 (.slice D d.length dc) d.length (d.map (.int .i64))]) [0] rfl)
  clear S5 hcall hi3 hc3
  go_wp2_with fail
  exact bodyPost_ret (v := .tuple #[.int .i64 vars, .slice D d.length dc, .int .i64 l]) (by simp [results, Tryz.results28, go_sem]) rfl ⟨vars, l, D, dc, d, rfl, hv0, hv1, hl0, hl1, hdl, hDH.out, S3.out⟩

set_option maxRecDepth 100000 in
set_option maxHeartbeats 8000000 in
theorem drawIsClause_any (ca : Option Addr) (cl cc : Nat) (w : World) (hc : CodeOk w ca cl) (hs : cl ≤ 65536) : Calls Tryz.prog 98 #[.slice ca cl cc] w (ClaD w) := by
  have S0 := (Sp.start w).cur_laid ca cl cc
  have hi := Lib.hid (S0.cur (A' := 0) (i := 0) rfl hc hs).1
  obtain ⟨gc, hgc⟩ : ∃ gc, w.heap.size = gc := ⟨_, rfl⟩
  rw [hgc] at S0 hi
  replace S0 := Lib.hid S0
  have hcH := Lib.hid hc
  clear hc
  go_enter Tryz.func98, Tryz.ntmps98
  go_wp2_with fail
  refine (cur_vars2 0 gc ca cl cc _ hi.out (by omega)).mono ?_
  rintro e w1 ⟨_, ⟨vars, hv0, hv1, rfl⟩, rfl, hi1, hc1⟩
  have S1 := Lib.hid ((S0.out.cur (A' := 10) (i := 0) rfl hcH.out hs).2 w1 (hi1.mono (by omega)) hc1)
  clear S0 hi hi1 hc1
  replace S1 : Hid (Sp w w1 [CurA 10 gc ca cl cc]) := S1
  have hcu := Lib.hid (S1.out.cur (A' := 10) (i := 0) rfl hcH.out hs).1
  go_wp2_with fail
  refine (cur_anyClause vars ⟨hv0, hv1⟩ _ gc ca cl cc _ hcu.out (by omega)).mono ?_
  rintro e w2 ⟨v, d, rfl, ho, hdl, hD, hi2, hc2⟩
  have S2 := S1.out.cs_call (row_cs hcu.out hi2 hc2 ho) hcH.out hs
  obtain ⟨D, dc, rfl⟩ := own_slice ho
  have hDH := Lib.hid hD
  have S3 := Lib.hid (S2.pick (qs := [Own 3 1 (.slice D d.length dc) d.length (d.map (.int .i64))]) [0] rfl)
  clear S1 S2 hcu hi2 hc2 ho hD
  go_wp2_with fail
  exact bodyPost_ret (v := .tuple #[.int .i64 vars, .slice D d.length dc]) (by simp [results, Tryz.results98, go_sem]) rfl ⟨vars, D, dc, d, rfl, hv0, hv1, hdl, hDH.out, S3.out⟩

set_option maxHeartbeats 4000000 in
theorem drawClauseText_any (ca : Option Addr) (cl cc : Nat) (w : World) (hc : CodeOk w ca cl) (hs : cl ≤ 65536) : Calls Tryz.prog 34 #[.slice ca cl cc] w (ClaD w) := by
  have hcall := Lib.hid (drawIsClause_any ca cl cc w hc hs)
  clear hc
  go_enter Tryz.func34, Tryz.ntmps34
  go_wp2_with fail
  refine hcall.out.mono ?_
  rintro e w1 ⟨vars, D, dc, d, rfl, h0, h1, h2, h3, h4⟩
  have hR := Lib.hid (show ClaD w (.returned (.tuple #[.int .i64 vars, .slice D d.length dc])) w1 from ⟨vars, D, dc, d, rfl, h0, h1, h2, h3, h4⟩)
  clear hcall h0 h1 h2 h3 h4
  go_wp2_with fail
  exact bodyPost_ret (v := .tuple #[.int .i64 vars, .slice D d.length dc]) (by simp [results, Tryz.results34, go_sem]) rfl hR.out

theorem txt_size {c : List Int} (hc : ∀ l ∈ c, -1000000 ≤ l ∧ l ≤ 1000000) : (ms (txtC c)).size ≤ 15 * c.length + 4 := by
  rw [ms_size]
  by_cases h : c = []
  · rw [h]; decide
  · rw [txtC_ne h]; have := join_short h hc; omega

set_option maxRecDepth 100000 in
set_option maxHeartbeats 8000000 in
theorem drawParseClause_any (ca : Option Addr) (cl cc : Nat) (w : World) (hc : CodeOk w ca cl) (hs : cl ≤ 65536) : Calls Tryz.prog 30 #[.slice ca cl cc] w (TxtD w) := by
  have S0 := (Sp.start w).cur_laid ca cl cc
  have hi := Lib.hid (S0.cur (A' := 0) (i := 0) rfl hc hs).1
  obtain ⟨gc, hgc⟩ : ∃ gc, w.heap.size = gc := ⟨_, rfl⟩
  rw [hgc] at S0 hi
  replace S0 := Lib.hid S0
  have hcH := Lib.hid hc
  clear hc
  go_enter Tryz.func30, Tryz.ntmps30
  go_wp2_with fail
  refine (cur_vars2 0 gc ca cl cc _ hi.out (by omega)).mono ?_
  rintro e w1 ⟨_, ⟨vars, hv0, hv1, rfl⟩, rfl, hi1, hc1⟩
  have S1 := Lib.hid ((S0.out.cur (A' := 10) (i := 0) rfl hcH.out hs).2 w1 (hi1.mono (by omega)) hc1)
  clear S0 hi hi1 hc1
  replace S1 : Hid (Sp w w1 [CurA 10 gc ca cl cc]) := S1
  have hcu := Lib.hid (S1.out.cur (A' := 10) (i := 0) rfl hcH.out hs).1
  have hle := Lib.hid (fun W => l1LeastS_any vars 12 W)
  have hmo := Lib.hid (fun W => l1MostS_any 1 (leastS vars 12) W)
  have hn : -1 ≤ mostS 1 (leastS vars 12) ∧ mostS 1 (leastS vars 12) ≤ 13 := by unfold mostS leastS; split <;> split <;> omega
  generalize mostS 1 (leastS vars 12) = n at *
  generalize leastS vars 12 = m at *
  go_wp2_with fail
  refine (hle.out _).mono ?_
  rintro e w2 ⟨rfl, rfl⟩
  go_wp2_with fail
  refine (hmo.out _).mono ?_
  rintro e w2 ⟨rfl, rfl⟩
  clear hle hmo
  go_wp2_with fail
  refine (cur_clause n hn _ gc ca cl cc _ hcu.out (by omega)).mono ?_
  rintro e w2 ⟨v, d, rfl, ho, hdl, hD, hi2, hc2⟩
  have S2 := S1.out.cs_call (row_cs hcu.out hi2 hc2 ho) hcH.out hs
  obtain ⟨D, dc, rfl⟩ := own_slice ho
  obtain ⟨A', c', e', hIY⟩ := ints_own ho (fun x hx => by have := hD x hx; unfold I64; omega)
  cases e'
  have htx := Lib.hid (l2Text_any d (fun x hx => by have := hD x hx; omega) (by omega) D dc w2 hIY)
  have hsz : (ms (txtC d)).size ≤ 1000 := by
    have := txt_size (c := d) (fun x hx => by have := hD x hx; omega); omega
  generalize ms (txtC d) = s at *
  replace S2 : Hid (Sp w w2 [Own 3 1 (.slice D d.length dc) d.length (d.map (.int .i64)), CurA (10 + 60) gc ca cl cc]) := S2
  clear S1 hcu hi2 hc2 ho hD hIY
  go_wp2_with fail
  refine htx.out.mono ?_
  rintro e w3 ⟨rfl, hb3⟩
  have S3 := Lib.hid ((S2.out.grow hb3).pick (qs := [CurA 70 gc ca cl cc]) [1] rfl)
  clear S2 htx hb3
  have hcu := Lib.hid (S3.out.cur (A' := 70) (i := 0) rfl hcH.out hs).1
  go_wp2_with fail
  refine (cur_one 4 _ _ ca cl cc _ hcu.out (by omega) (by decide)).mono ?_
  rintro e w4 ⟨_, ⟨q, rfl⟩, rfl, hi4, hc4⟩
  have S4 : Hid (Sp w w4 [CurA 80 gc ca cl cc]) := Lib.hid ((S3.out.cur (A' := 80) (i := 0) rfl hcH.out hs).2 w4 (hi4.mono (by omega)) hc4)
  clear S3 hcu hi4 hc4
  have hcu := Lib.hid (S4.out.cur (A' := 80) (i := 0) rfl hcH.out hs).1
  cases q
  · have hB := Lib.hid S4.out.below
    clear S4 hcu
    go_wp2_with fail
    go_ret2
    exact ⟨vars, s, rfl, hv0, hv1, by omega, hB.out⟩
  · go_wp2_with fail
    refine (cur_spoilt s ⟨#[32, 45, 48, 49, 50, 57, 110, 111, 110, 101]⟩ _ _ ca cl cc _ hcu.out (by omega) (by omega) (by decide) (by decide)).mono ?_
    rintro e w5 ⟨_, ⟨t, ht, rfl⟩, rfl, hi5, hc5⟩
    have hB := Lib.hid ((S4.out.cur (A' := 90) (i := 0) rfl hcH.out hs).2 w5 (hi5.mono (by omega)) hc5).below
    have ht2 : t.size ≤ 10000 := by unfold SizeLe at ht; omega
    clear S4 hcu hi5 hc5 ht
    go_wp2_with fail
    go_ret2
    exact ⟨vars, t, rfl, hv0, hv1, ht2, hB.out⟩
end Go.Proofs.YtahbepajeplcmaaGreatDoor

/- Plain facts: what the law of assignments asks. -/
namespace Go.Proofs.YtahbepajeplcmaaGreatDoor
open Go.RowKit

theorem lit_ok {vars l : Int} (hv : 0 ≤ vars ∧ vars ≤ 12) (h0 : l ≠ 0) (h1 : -vars ≤ l) (h2 : l ≤ vars) : litB vars l = true := by
  unfold litB inB
  rw [negV_small (by unfold I64; omega) (by omega)]
  simp only [Bool.and_eq_true, decide_eq_true_eq, bne_iff_ne]
  omega
theorem good_clause {vars : Int} {c : List Int} (hv : 0 ≤ vars ∧ vars ≤ 12) (g : GoodS c) (h : ∀ l ∈ c, -vars ≤ l ∧ l ≤ vars) : clauseB vars c = true := by
  unfold clauseB
  rw [Bool.and_eq_true, inB_true]
  refine ⟨hv, ?_⟩
  unfold cOkTo
  rw [List.all_eq_true]
  intro i hi
  have hi := List.mem_range.1 hi
  unfold cOk
  have e1 : c.getD i 0 = c[i] := by rw [List.getD_eq_getElem?_getD, List.getElem?_eq_getElem hi]; rfl
  rw [Bool.and_eq_true, e1]
  have hm := List.getElem_mem hi
  refine ⟨lit_ok hv (g.mem _ hm).1 (h _ hm).1 (h _ hm).2, ?_⟩
  cases i with
  | zero => rfl
  | succ i =>
    have e2 : c.getD (i + 1 - 1) 0 = c[i] := by rw [Nat.add_sub_cancel, List.getD_eq_getElem?_getD, List.getElem?_eq_getElem (by omega)]; rfl
    rw [e2]
    have := List.pairwise_iff_getElem.1 g.asc i (i + 1) (by omega) hi (by omega)
    unfold AscS at this
    rw [decide_eq_true this]
    simp
theorem tot_good {n b : Nat} (hn : n ≤ 12) : GoodS (totB n b) := by
  refine ⟨tot_lit hn, ?_⟩
  rw [List.pairwise_iff_getElem]
  intro i j hi hj hij
  have l1 := tot_lit hn _ (List.getElem_mem hi)
  have l2 := tot_lit hn _ (List.getElem_mem hj)
  unfold AscS
  rw [absV_lit l1, absV_lit l2]
  have key : ∀ k (h : k < (totB n b).length), (totB n b)[k].natAbs = k + 1 := fun k h => by
    simp only [totB, List.getElem_map, List.getElem_range]
    unfold totI
    split <;> omega
  rw [key, key]
  omega
theorem tot_clause {n b : Nat} (hn : n ≤ 12) : clauseB n (totB n b) = true := by
  refine good_clause (by omega) (tot_good hn) fun l hl => ?_
  obtain ⟨i, hi, rfl⟩ := List.mem_map.1 hl
  have := List.mem_range.1 hi
  unfold totI
  split <;> omega
theorem joinS_mem {a b c : List Int} (ga : GoodS a) (gb : GoodS b) (h : joinS a b = some c) : GoodS c ∧ ∀ x, x ∈ c ↔ x ∈ a ∨ x ∈ b := by
  rcases joinS_spec ga gb with ⟨h1, -⟩ | ⟨c', h1, h2, h3, -⟩
  · rw [h1] at h; cases h
  · rw [h1] at h
    cases h
    exact ⟨h2, h3⟩
theorem merge_facts {vars : Int} {a b c : List Int} (h : mergeR vars a b = some c) : clauseB vars a = true ∧ clauseB vars b = true ∧ clauseB vars c = true ∧ a.all (hasI c) = true ∧ b.all (hasI c) = true := by
  unfold mergeR at h
  split at h
  · rename_i hq
    rw [Bool.and_eq_true] at hq
    obtain ⟨gc, hm⟩ := joinS_mem (good_s hq.1) (good_s hq.2) h
    have pa := clause_parts hq.1
    have pb := clause_parts hq.2
    refine ⟨hq.1, hq.2, good_clause pa.1 gc fun l hl => ?_, ?_, ?_⟩
    · rcases (hm l).1 hl with h | h
      · exact (pa.2.1 l h).2
      · exact (pb.2.1 l h).2
    · rw [List.all_eq_true]
      exact fun x hx => hasS_iff.2 ((hm x).2 (.inl hx))
    · rw [List.all_eq_true]
      exact fun x hx => hasS_iff.2 ((hm x).2 (.inr hx))
  · cases h
theorem set_facts {vars : Int} {a c : List Int} {l : Int} (h : setR vars a l = some c) : clauseB vars c = true ∧ inB (absV l) 1 vars = true ∧ hasI (withoutB c (absV l)) l = false ∧ hasI c l = true ∧ absV l = if l < 0 then -l else l := by
  unfold setR at h
  split at h
  · rename_i hq
    rw [Bool.and_eq_true] at hq
    cases h
    have pa := clause_parts hq.1
    have hl := lit_small pa.1 hq.2
    have hls : LitS l := by unfold LitS; omega
    refine ⟨good_clause pa.1 (set_good (good_s hq.1) hls) fun x hx => ?_, ?_, ?_, ?_, hls.abs⟩
    · unfold setS at hx
      rcases memS_putB.1 hx with rfl | hx
      · exact hl.2
      · exact (pa.2.1 x (memS_without.1 hx).1).2
    · rw [inB_true, hls.abs]
      split <;> omega
    · rw [hasS_not]
      intro hx
      exact (memS_without.1 hx).2 rfl
    · rw [hasS_iff]
      unfold setS
      exact memS_putB.2 (.inl rfl)
  · cases h
theorem mergeR_len {vars : Int} {a b : List Int} (la : a.length ≤ 13) (lb : b.length ≤ 13) : ((mergeR vars a b).getD []).length ≤ 1000 := by
  cases h : mergeR vars a b with
  | none => simp
  | some c =>
    have := (merge_facts h).2.2.1
    exact (clause_s this).2
theorem setR_len {vars : Int} {a : List Int} {l : Int} : ((setR vars a l).getD []).length ≤ 1000 := by
  cases h : setR vars a l with
  | none => simp
  | some c => exact (clause_s (set_facts h).1).2
end Go.Proofs.YtahbepajeplcmaaGreatDoor

/- Plain facts: what the law of literals asks. -/
namespace Go.Proofs.YtahbepajeplcmaaGreatDoor
open Go.RowKit

theorem pc_out {L : List Int} {ok : Bool} {w w' : World} {e : Ending} (h : PCPost (L, ok) w e w') : ∃ B c, e = .returned (.tuple #[.slice B L.length c, .bool ok]) ∧ Sp w w' [Own 3 1 (.slice B L.length c) L.length (L.map (.int .i64))] := h
theorem ia_out {L : List Int} {ok : Bool} {w w' : World} {e : Ending} (h : IAns w (L, ok).2 (L, ok).1 e w') : IAns w ok L e w' := h
theorem add_facts {vars : Int} {c L : List Int} {l : Int} (h : addOk vars c l = true) (hj : joinS c [l] = some L) :
    clauseB vars c = true ∧ clauseB vars L = true ∧ hasI L l = true ∧ c.all (hasI L) = true ∧ inB (absV l) 1 vars = true ∧ withoutB L (absV l) = withoutB c (absV l) ∧ hasI (withoutB c (absV l)) l = false ∧ absV l = if l < 0 then -l else l := by
  unfold addOk at h
  rw [Bool.and_eq_true] at h
  have pa := clause_parts h.1
  have hl := lit_small pa.1 h.2
  have hls : LitS l := (lit_vals pa.1 h.2).1
  obtain ⟨gL, hm⟩ := joinS_mem (good_s h.1) (lit_one hls) hj
  refine ⟨h.1, good_clause pa.1 gL fun x hx => ?_, ?_, ?_, ?_, ?_, ?_, hls.abs⟩
  · rcases (hm x).1 hx with hx | hx
    · exact (pa.2.1 x hx).2
    · obtain rfl : x = l := by simpa using hx
      exact hl.2
  · exact hasS_iff.2 ((hm l).2 (.inr (by simp)))
  · rw [List.all_eq_true]
    exact fun x hx => hasS_iff.2 ((hm x).2 (.inl hx))
  · rw [inB_true, hls.abs]
    split <;> omega
  · refine (without_good gL _).ext (without_good (good_s h.1) _) fun x => ?_
    rw [memS_without, memS_without]
    constructor
    · rintro ⟨h1, h2⟩
      refine ⟨?_, h2⟩
      rcases (hm x).1 h1 with hx | hx
      · exact hx
      · obtain rfl : x = l := by simpa using hx
        exact absurd rfl h2
    · rintro ⟨h1, h2⟩
      exact ⟨(hm x).2 (.inl h1), h2⟩
  · rw [hasS_not]
    intro hx
    exact (memS_without.1 hx).2 rfl
theorem add_gen (vars : Int) (c : List Int) (l : Int) : ∃ (ok : Bool) (L : List Int), addR vars c l = (L, ok) ∧ (∀ y ∈ L, I64 y) ∧ L.length ≤ 1000 ∧ (ok = true →
    clauseB vars c = true ∧ clauseB vars L = true ∧ hasI L l = true ∧ c.all (hasI L) = true ∧ inB (absV l) 1 vars = true ∧ withoutB L (absV l) = withoutB c (absV l) ∧ hasI (withoutB c (absV l)) l = false ∧ absV l = if l < 0 then -l else l) := by
  cases h : addOk vars c l
  · exact ⟨false, [], addR_no h, by simp, by simp, by simp⟩
  · cases hj : joinS c [l] with
    | none => exact ⟨false, [], (addR_yes h).trans (by rw [hj]; rfl), by simp, by simp, by simp⟩
    | some L =>
      have hf := add_facts h hj
      exact ⟨true, L, (addR_yes h).trans (by rw [hj]; rfl), fun y hy => ((good_s hf.2.1).mem y hy).i64, (clause_s hf.2.1).2, fun _ => hf⟩
theorem rem_ok {vars : Int} {c : List Int} {v : Int} (h1 : clauseB vars c = true) (h2 : inB v 1 vars = true) : remR vars c v = (withoutB c v, true) := remR_yes (by unfold remOk; rw [h1, h2]; rfl)
theorem rem_gen (vars : Int) (c : List Int) (v : Int) : ∃ (ok : Bool) (L : List Int), remR vars c v = (L, ok) ∧ (∀ y ∈ L, I64 y) ∧ L.length ≤ 1000 ∧ (ok = true → ∀ x ∈ c, (x == v) = true ∨ (x == v) = false ∧ (x == -v) = true ∨ (x == v) = false ∧ (x == -v) = false ∧ hasI L x = true) := by
  cases h : remOk vars c v
  · exact ⟨false, [], remR_no h, by simp, by simp, by simp⟩
  · refine ⟨true, withoutB c v, remR_yes h, ?_⟩
    unfold remOk at h
    rw [Bool.and_eq_true] at h
    have gc := good_s h.1
    have hl := (clause_s h.1).2
    have hw : (withoutB c v).length ≤ c.length := List.length_filter_le _ _
    refine ⟨fun y hy => ((without_good gc _).mem y hy).i64, by omega, fun _ x hx => ?_⟩
    have hX := gc.mem x hx
    by_cases h1 : x = v
    · exact .inl (by rw [h1]; simp)
    · have h1' : (x == v) = false := by simpa using h1
      by_cases h2 : x = -v
      · exact .inr (.inl ⟨h1', by rw [h2]; simp⟩)
      · refine .inr (.inr ⟨h1', by simpa using h2, hasS_iff.2 (memS_without.2 ⟨hx, ?_⟩)⟩)
        rw [hX.abs]
        have := inB_true.1 h.2
        split <;> omega
theorem par_gen (vars : Int) (s : List UInt8) : ∃ (ok : Bool) (L : List Int), parC vars s = (L, ok) ∧ (∀ y ∈ L, I64 y) ∧ L.length ≤ 1000 ∧ (ok = true → clauseB vars L = true ∧ ctA vars L = s) := by
  obtain ⟨⟨L, ok⟩, h⟩ : ∃ r, parC vars s = r := ⟨_, rfl⟩
  cases ok
  · have := par_no h
    subst this
    exact ⟨false, [], h, by simp, by simp, by simp⟩
  · obtain ⟨h1, h2⟩ := text_par h
    exact ⟨true, L, h, fun y hy => ((good_s h2).mem y hy).i64, (clause_s h2).2, fun _ => ⟨h2, (if_pos h2).trans h1⟩⟩
theorem ct_size {vars : Int} {c : List Int} (h : clauseB vars c = true) : (ms (ctA vars c)).size ≤ 900000 := by
  unfold ctA
  rw [if_pos h]
  have h1 := txt_size (c := c) (fun x hx => by have := clause_small h x hx; omega)
  have h2 := (clause_s h).2
  omega
theorem ct_par {vars : Int} {c : List Int} (h : clauseB vars c = true) : parC vars (bl (ms (ctA vars c))) = (c, true) := by
  unfold ctA
  rw [if_pos h, bl_ms]
  exact par_text h
end Go.Proofs.YtahbepajeplcmaaGreatDoor
