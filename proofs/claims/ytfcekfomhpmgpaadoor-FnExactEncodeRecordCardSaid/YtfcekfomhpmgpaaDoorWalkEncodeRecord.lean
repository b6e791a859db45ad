/- The walk of FnExactEncodeRecord, and its contract: it returns true for every input; its listed variables start as the program's text lays them. -/
import Derived.Test.YtfcekfomhpmgpaaDoorDoorA
import Derived.Stop.LaidErr
namespace Go.Proofs.YtfcekfomhpmgpaaDoor
open Go.ChangeShapes Go.WideShapes Go.ChangeAt Go.RowKit

set_option maxHeartbeats 2000000 in
theorem FnExactEncodeRecord_walk (k : Int) (c r : ByteArray) (w : World) (hE : Env w) (hc : c.size ≤ 9223372036854775807) (hr : r.size ≤ 9223372036854775807) :
    Calls Tryd.prog 3 #[.int .i64 k, .agg #[.string c, .string r]] w fun e w' => e = .returned (.bool true) ∧ Below w.heap.size w w' := by
  by_cases hbig : (1048576 : Int) < c.size + r.size
  · go_enter Tryd.func3, Tryd.ntmps3
    go_wp2_with fail
    refine (szLogRecord_any _ _ _ _ (by omega) (by omega) hc hr).mono ?_
    rintro e w1 ⟨rfl, hb1⟩
    rw [if_pos hbig]
    go_wp2_with fail
    go_ret
    exact ⟨rfl, btr (bal (bb _) _) hb1⟩
  · go_enter Tryd.func3, Tryd.ntmps3
    go_wp2_with fail
    refine (szLogRecord_any _ _ _ _ (by omega) (by omega) hc hr).mono ?_
    rintro e w1 ⟨rfl, hb1⟩
    rw [if_neg (by omega)]
    obtain ⟨hc1, hf1⟩ := bcell hb1
    have hs1 : w.heap.size < w1.heap.size := by have := hb1.size; simp at this; omega
    have hE1 := (hE.alloc _).grow hb1
    go_wp2_with fail
    refine (toLogRecord_any _ _ _).mono ?_
    rintro e w2 ⟨rfl, hb2⟩
    obtain ⟨hc2, hf2⟩ := bcell hb2
    have hs2 : w.heap.size < w2.heap.size := Nat.lt_of_lt_of_le hs1 hb2.size
    have hE2 := hE1.grow hb2
    go_wp2_with fail
    refine (specEncodeRecord_any _ _ _ _ (by omega) (by omega)).mono ?_
    rintro e w3 ⟨rfl, hb3⟩
    obtain ⟨hc3, hf3⟩ := bcell hb3
    have hs3 : w.heap.size < w3.heap.size := Nat.lt_of_lt_of_le hs2 hb3.size
    have hE3 := hE2.grow hb3
    go_wp2_with fail
    refine (toLogRecord_any _ _ _).mono ?_
    rintro e w4 ⟨rfl, hb4⟩
    obtain ⟨hc4, hf4⟩ := bcell hb4
    have hE4 := hE3.grow hb4
    go_wp2_with fail
    refine (implEncodeRecord_any _ _ _ _ hE4 (by omega) (by omega)).mono ?_
    rintro e w5 ⟨rfl, hb5⟩
    go_wp2_with fail
    go_ret
    exact ⟨rfl, btr (btr (btr (btr (btr (bal (bb _) _) hb1) hb2) hb3) hb4) hb5⟩

/-- The type of a record in the laws: two strings. -/
theorem opens_LogRecord : Opens Tryd.prog 23 (Ty.str.pair (Ty.str.pair Ty.unit)) :=
  Opens.struct Tryd.underlying23 (by kernel_rfl) (OpensF.cons rfl (by kernel_rfl) (Opens.str Tryd.underlying9) (OpensF.cons rfl (by kernel_rfl) (Opens.str Tryd.underlying9) OpensF.nil))

/-- What the rows' lists and the world's shape give. -/
theorem env_of {W : World} (hL : laidMet Tryd.prog [("internal/strconv.uint64pow10", Rows.laid_internal_strconv_uint64pow10)] W) (hs : W.ShapedOpen Tryd.prog) : Env W := by
  obtain ⟨m, hm⟩ := Tryd.laysM144.s1_3 W hs
  have hp : Lib.TabIs Tryd.prog W "internal/strconv.uint64pow10" .u64 Lib.pow10Tab :=
    Lib.tabIs_of_head (rest := []) globalPow (by kernel_rfl) Tryd.underlying173 Tryd.underlying88 (by kernel_rfl) (by kernel_rfl) hL
  have hl1 : 3 < W.heap.size := World.block_lt_of_cell? W _ hm
  refine ⟨⟨m, hm⟩, hp, hl1, ?_⟩
  exact World.block_lt_of_cell? W _ (hp.cell globalPow 0 (by decide))

set_option maxRecDepth 100000 in
theorem laid3 {W : World} (h : laidMetH Tryd.prog Rows.fnExactEncodeRecordRow.laid W) : laidMet Tryd.prog [("internal/strconv.uint64pow10", Rows.laid_internal_strconv_uint64pow10)] W := by
  have h' : laidMet Tryd.prog Rows.fnExactEncodeRecordRow.laid W := h
  exact laidMet.tail (laidMet.tail h')

set_option maxRecDepth 100000 in
theorem fnExactEncodeRecord_contract (H : Type) (enc : TypeId × Value → H) (W : World) (base : Nat) (args : Array Value) (ds gs : List (DataW H)) (before : List MemPlace)
    (hval : ∀ (j : Nat) t v, Tryd.f3.params[j]? = some t → args[j]? = some v → Value.okWide Tryd.prog W .any base t v)
    (hW : DataW.Whole enc Tryd.prog Tryd.f3.params.toList Rows.fnExactEncodeRecordSpec.vars false W args.toList ds gs before) (hL : laidMetH Tryd.prog Rows.fnExactEncodeRecordRow.laid W) (hs : W.ShapedOpen Tryd.prog) :
    Calls Tryd.prog 3 args W fun e W' => ∃ v, e = .returned v ∧ Rows.fnExactEncodeRecordSpec.post enc Tryd.prog Tryd.f3 false true false false W args v W' := by
  have hW' := hW
  obtain ⟨p, q, hA0, hV, rfl, hfz, hnd⟩ := hW
  have hA : DataW.TrodAll enc Tryd.prog W 0 (fun _ => true) true Tryd.f3.params.toList args.toList ds p := hA0
  rw [Tryd.params3] at hA hval
  obtain ⟨v0, vs0, d0, ds0, p0, q0, hargs, rfl, rfl, h0, r0⟩ := trodAll_cons hA
  obtain ⟨v1, vs1, d1, ds1, p1, q1, rfl, rfl, rfl, h1, r1⟩ := trodAll_cons r0
  obtain ⟨rfl, rfl, rfl⟩ := trodAll_nil r1
  obtain rfl : args = #[v0, v1] := by cases args; simp_all
  obtain ⟨rfl, rfl⟩ := trodVars_none hV
  have k1 := h1
  have lt1 : ∀ x ∈ p1, x.block < W.heap.size := by obtain ⟨m, hm⟩ := k1; exact DataW.trod_lt m _ _ _ hm
  obtain ⟨k, rfl, rfl, rfl, wk⟩ := open_int Tryd.underlying3 (hval 0 3 v0 rfl rfl) h0
  obtain ⟨cs1, rfl, _⟩ := okWide_struct Tryd.underlying23 (hval 1 23 v1 rfl rfl)
  obtain ⟨fuel, hf⟩ := h1
  obtain ⟨⟨c, r, u⟩, F, _, _, _, _, e1, e2, ⟨rfl, hc, rfl⟩, _, _, _, _, e3, e4, ⟨rfl, hr, rfl⟩, rfl, rfl⟩ := opens_LogRecord H enc W _ _ fuel _ _ hf
  subst e3
  have ec : cs1 = #[.string c, .string r] := by
    have : cs1.toList = [.string c, .string r] := by simpa [Value.cells] using e1
    cases cs1; simp_all
  subst ec
  clear hA0
  refine (FnExactEncodeRecord_walk k c r W (env_of (laid3 hL) hs) (by simpa using hc) (by simpa using hr)).mono fun e W' ⟨he, bel⟩ => ?_
  subst he
  exact ⟨_, rfl, _, _, _, [], _, [], hW', trodAll_mk1 (shut_bool Tryd.underlying4 _), (trodAll_cons_mk (shut_int Tryd.underlying3 wk) (trodAll_cons_mk (Below.trod laidOut (by kernel_rfl) (of_decide_eq_true (by kernel_rfl)) k1 bel lt1) trodAll_mk0)), rfl, bel.frame _, fun h => by cases h⟩

end Go.Proofs.YtfcekfomhpmgpaaDoor
