/- Lemmas and contracts for a law, put together out of several texts: WalkParseBook. -/
import Derived.Test.YtahbepajeplcmaaDoorMg8
import Derived.Test.YtahbepajeplcmaaDoorMg9
/- The walk of FnExactParseBook. -/
namespace Go.Proofs.YtahbepajeplcmaaDoor
open Go.RowKit

theorem rec_rcOk {r : Rec} (h : recB r = true) : rcOk r := by
  obtain ⟨⟨_, h1⟩, _, ⟨h2, h3⟩, ⟨h4, h5⟩, h6, h7⟩ := rec_parts h
  refine ⟨?_, ⟨?_, ?_⟩, ⟨?_, ?_⟩, ⟨?_, ?_⟩⟩ <;> omega
theorem parB_some (s : List UInt8) : (∀ z ∈ (parB s).1, rcOk z) ∧ (parB s).1.length ≤ 24 := by
  unfold parB
  simp only
  split
  · rename_i h
    rw [Bool.and_eq_true] at h
    exact ⟨fun z hz => rec_rcOk (book_all h.1 z hz), book_le h.1⟩
  · exact ⟨by simp, by simp⟩
/-- A row of its own, and whether there is one. -/
def MrAt (ok : Bool) (L : List Rec) (w : World) (e : Ending) (w' : World) : Prop :=
  ∃ v Fb, e = .returned (.tuple #[v, .bool ok]) ∧ rcTy.row true w' v L Fb ∧ Fb.Nodup ∧ (∀ b ∈ Fb, w.heap.size ≤ b) ∧ Below w.heap.size w w'
theorem pb_at {r : List Rec × Bool} {ok : Bool} {L : List Rec} {w w' : World} {e : Ending} (h1 : r.2 = ok) (h2 : r.1 = L) (hg : ∀ z ∈ L, rcOk z) (h : PBPost r w e w') : MrAt ok L w e w' := by
  subst h1; subst h2
  obtain ⟨A, c, he, hS⟩ := h
  obtain ⟨F, h3, h4, h5⟩ := hS.recs_row (i := 0) rfl hg
  exact ⟨_, F, he, h3, h4, h5, hS.below⟩
theorem markRV_at {v : Value} {xs : List Rec} {F : List Nat} {w : World} {M : Nat} (hx : rcTy.row true w v xs F) (hM : 1 + 4 * xs.length = M) (h1 : M ≤ 1000000000) :
    Calls Tryd.prog 10 #[v, .int .i64 1] w (MarkPost rcTy w v (M : Int) (markRc 1 xs.length) F) := by
  have := markRecordS_val v 1 xs F w hx (by decide) (by omega)
  rw [hM] at this
  exact this
theorem heldR_at {v : Value} {n : Nat} {F : List Nat} {w : World} {M : Nat} (hx : rcTy.row false w v (markRc 1 n) F) (hM : 1 + 4 * n = M) (h1 : M ≤ 1000000000) :
    Calls Tryd.prog 11 #[v, .int .i64 1] w fun e w' => e = .returned (.int .i64 (M : Int)) ∧ Below w.heap.size w w' := by
  have := heldRecordS_same v 1 n F w hx (by decide) (by omega)
  rw [hM] at this
  exact this

set_option maxRecDepth 100000 in
set_option maxHeartbeats 8000000 in
theorem FnExactParseBook_walk (s : ByteArray) (w : World) (hE : PEnv w) :
    Calls Tryd.prog 4 #[.string s] w fun e w' => e = .returned (.bool true) ∧ Below w.heap.size w w' := by
  by_cases hbig : (1048576 : Int) < (s.size : Int)
  · go_enter Tryd.func4, Tryd.ntmps4
    go_wp2_with fail
    go_ret
    exact ⟨rfl, bb _⟩
  obtain ⟨hgl, hll⟩ := parB_some (bl s)
  obtain ⟨ok, hok⟩ : ∃ ok, (parB (bl s)).2 = ok := ⟨_, rfl⟩
  obtain ⟨L, hL⟩ : ∃ L, (parB (bl s)).1 = L := ⟨_, rfl⟩
  rw [hL] at hll hgl
  have hspec := Lib.hid (fun w => (specParseBook_any s w (by omega)).mono (fun e w' hp => pb_at hok hL hgl hp))
  have himpl := Lib.hid (fun w (hE : PEnv w) => (implParseBook_any s w hE (by omega)).mono (fun e w' hp => pb_at hok hL hgl hp))
  obtain ⟨M, hM⟩ : ∃ M, 1 + 4 * L.length = M := ⟨_, rfl⟩
  have hM1 : M ≤ 1000000000 := by omega
  have hM0 : ¬ (M : Int) < 0 := by omega
  replace hM := Lib.hid hM
  replace hE := Lib.hid hE
  clear hok hL
  go_enter Tryd.func4, Tryd.ntmps4
  go_wp2_with fail
  refine (hspec.out _).mono ?_
  rintro e w13 ⟨v13, F13, rfl, hr13, hn13, hF13, hb13⟩
  obtain ⟨a_r, c_r, rfl, _, _⟩ := Ty.row_len hr13
  have S13 := Lib.hid ((Sp.start w).row_new hb13 hr13 hn13 hF13)
  clear hr13 hb13 hn13 hF13
  go_wp2_with fail
  refine (himpl.out _ (hE.out.grow S13.out.below)).mono ?_
  rintro e w16 ⟨v16, F16, rfl, hr16, hn16, hF16, hb16⟩
  obtain ⟨a_g, c_g, rfl, _, _⟩ := Ty.row_len hr16
  have S16 := Lib.hid (S13.out.row_new hb16 hr16 hn16 hF16)
  clear S13 hr16 hb16 hn16 hF16
  go_wp2_with fail
  obtain ⟨G17, g17⟩ := S16.out.row_at (i := 0) rfl
  obtain ⟨H17, k17⟩ := S16.out.row_at (i := 1) rfl
  refine (eqRecordS_same _ _ L G17 H17 _ g17 k17).mono ?_
  clear g17 k17
  rintro e w17 ⟨rfl, hb17⟩
  have S17 := Lib.hid (S16.out.grow hb17)
  clear S16 hb17
  go_wp2_with fail
  obtain ⟨F25, hr25, hn25, hall25⟩ := S17.out.mark (i := 0) rfl
  refine (markRV_at hr25 hM.out hM1).mono ?_
  rintro e w25 ⟨rfl, hq25, hc25⟩
  have S25 := Lib.hid (hall25 _ _ hq25 hc25)
  clear S17 hr25 hn25 hall25 hq25 hc25
  go_wp2_with fail
  obtain ⟨G26, g26⟩ := S25.out.row_at (i := 0) rfl
  refine (heldR_at g26 hM.out hM1).mono ?_
  clear g26
  rintro e w26 ⟨rfl, hb26⟩
  have S26 := Lib.hid (S25.out.grow hb26)
  clear S25 hb26
  go_wp2_with fail
  refine (himpl.out _ (hE.out.grow S26.out.below)).mono ?_
  rintro e w29 ⟨v29, F29, rfl, hr29, hn29, hF29, hb29⟩
  obtain ⟨a_h, c_h, rfl, _, _⟩ := Ty.row_len hr29
  have S29 := Lib.hid (S26.out.row_new hb29 hr29 hn29 hF29)
  clear S26 hr29 hb29 hn29 hF29
  go_wp2_with fail
  obtain ⟨G30, g30⟩ := S29.out.row_at (i := 0) rfl
  obtain ⟨H30, k30⟩ := S29.out.row_at (i := 2) rfl
  refine (eqRecordS_same _ _ L G30 H30 _ g30 k30).mono ?_
  clear g30 k30
  rintro e w30 ⟨rfl, hb30⟩
  have S30 := Lib.hid (S29.out.grow hb30)
  clear S29 hb30
  go_wp2_with fail
  obtain ⟨G31, g31⟩ := S30.out.row_at (i := 1) rfl
  refine (heldR_at g31 hM.out hM1).mono ?_
  clear g31
  rintro e w31 ⟨rfl, hb31⟩
  have S31 := Lib.hid (S30.out.grow hb31)
  clear S30 hb31
  have hB := S31.out.below
  go_wp2_with fail
  go_ret
  exact ⟨rfl, hB⟩
end Go.Proofs.YtahbepajeplcmaaDoor
