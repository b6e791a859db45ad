/- Contracts: the text of a book, in the program. -/
import Derived.Test.YtcapiijpfoapkaaDoorBtA
import Derived.Test.YtcapiijpfoapkaaDoorBtC
import Derived.Test.YtcapiijpfoapkaaDoorQTail
import Derived.Lib.SmallJoins
namespace Go.Proofs.YtcapiijpfoapkaaDoor
open Go.RowKit

/-- What the library's calls need of the world: the table of powers of ten. -/
structure EnvI (w : World) : Prop where
  pow : Lib.TabIs Tryd.prog w "internal/strconv.uint64pow10" .u64 Lib.pow10Tab
  low : 2 < w.heap.size
theorem globalPowI : Tryd.prog.globalNamed "internal/strconv.uint64pow10" = some 2 := by kernel_rfl
theorem EnvI.grow {w w' : World} (h : EnvI w) (hb : Below w.heap.size w w') : EnvI w' :=
  ⟨Joins.tab_stays globalPowI h.pow hb (Nat.le_refl _), Nat.lt_of_lt_of_le h.low hb.size⟩
theorem EnvI.below {B : Nat} {w w' : World} (h : EnvI w) (hb : Below B w w') (hB : w.heap.size ≤ B) : EnvI w' :=
  ⟨Joins.tab_stays globalPowI h.pow hb hB, Nat.lt_of_lt_of_le h.low hb.size⟩
theorem itoa_at (n : Int) (h : 0 ≤ n ∧ n ≤ 9999) (w : World) (hE : EnvI w) :
    Calls Tryd.prog 25 #[.int .i64 n] w fun e w' => e = .returned (.string (ms (Lib.itoa n))) ∧ Below w.heap.size w w' := by
  refine (Tryd.strconv_Itoa n (by omega) (by omega) w hE.pow).mono ?_
  rintro e w' ⟨rfl, k, os, rfl⟩
  exact ⟨rfl, below_regrown w (w.drewN k).drawn os⟩
/-- A builder stays where only new blocks come in. -/
theorem bld_grow {B b : Nat} {bs : List Value} {w w' : World} (h : Lib.IsBuilder 52 5 B b bs w) (hb : Below w.heap.size w w') : Lib.IsBuilder 52 5 B b bs w' := by
  have key : ∀ p, Lib.BuilderAt 52 5 B b p bs w → Lib.BuilderAt 52 5 B b p bs w' := by
    intro p h
    have hlt := h.lt
    obtain ⟨hB, v, hbk, hown, hne⟩ := h
    exact ⟨hB, v, (hb.block b hlt).trans hbk, owns_keep hown (fun g hg => hb.block g (hown.lt g hg).2), hne⟩
  rcases h with h | h
  · exact .inl (key _ h)
  · exact .inr (key _ h)
theorem bytes_append (a : List UInt8) (s : ByteArray) : Lib.byteCells a ++ Lib.strCells s = Lib.byteCells (a ++ bl s) := by
  simp [Lib.byteCells, Lib.strCells, bl]

set_option maxRecDepth 100000 in
set_option maxHeartbeats 8000000 in
theorem implBookText_any (v : Value) (xs : List Rec) (F : List Nat) (w : World) (hE : EnvI w) (hx : rcTy.row false w v xs F) :
    Calls Tryd.prog 13 #[v] w fun e w' => e = .returned (.tuple #[.string (ms (if bookB xs then textB xs else [])), .bool (bookB xs)]) ∧ Below w.heap.size w w' := by
  have hxlt := Ty.row_lt hx
  obtain ⟨a, c, hv, hx1, hx2, hg, hx3⟩ := row_rc hx
  cases hb : bookB xs
  · subst hv
    go_enter Tryd.func13, Tryd.ntmps13
    go_wp2_with (go_at_call 18; refine (bookIs_at hx hb).mono ?_; rintro e w1 ⟨rfl, hb1⟩)
    go_ret2
    exact ⟨rfl, hb1⟩
  subst hv
  go_enter Tryd.func13, Tryd.ntmps13
  go_wp2_with (go_at_call 18; refine (bookIs_at hx hb).mono ?_; rintro e w1 ⟨rfl, hb1⟩)
  clear hx
  have hst := Lib.hid (show Lib.IsBuilder 52 5 w1.heap.size w1.heap.size (Lib.byteCells (textB (xs.take 0))) (w1.alloc (.cells #[.pointer none, .slice none 0 0] 52)) from Lib.fresh_isBuilder _ _ w1)
  have hB1 := Lib.hid (show Below w1.heap.size w1 (w1.alloc (.cells #[.pointer none, .slice none 0 0] 52)) from bal (bb _) _)
  have hEH := Lib.hid (hE.grow hb1)
  go_loopw [12] (fun i wr => ∃ k : Nat, k ≤ xs.length ∧ i = .int .i64 k ∧ Hid (Below w1.heap.size w1 wr) ∧ Hid (Lib.IsBuilder 52 5 w1.heap.size w1.heap.size (Lib.byteCells (textB (xs.take k))) wr)) (fun i _ => xs.length - (intOf i).toNat)
  case atStart => exact ⟨0, Nat.zero_le _, rfl, hB1, hst⟩
  case round =>
    obtain ⟨k, hk, rfl, HB, HI⟩ := hrel
    clear hst hB1
    by_cases hlt : k < xs.length
    · rcases hx3 with ⟨rfl, rfl⟩ | ⟨hxn, b, off, rfl, rfl, hxc⟩
      · exact absurd hlt (by simp)
      obtain ⟨p0, p1, p2, p3⟩ := hxc k hlt
      have hblt : b < w.heap.size := p0.lt
      have hp : wr.heap[b]? = w.heap[b]? := (HB.out.block b (Nat.lt_of_lt_of_le hblt hb1.size)).trans (hb1.block b hblt)
      have k0 := (p0.keep hp).1
      have k1 := (p1.keep hp).1
      have k2 := (p2.keep hp).1
      have k3 := (p3.keep hp).1
      have hrk := book_all hb xs[k] (List.getElem_mem hlt)
      have hrl := recT_len hrk
      obtain ⟨⟨n0, n1⟩, _, ⟨s0, s1⟩, hz, he⟩ := rec_parts hrk
      have hl := take_len hb (Nat.le_of_lt hlt)
      have ht := Lib.hid (textB_succ hlt)
      have hlet := Lib.hid (letter s0 s1)
      have l1 := itoa_four (n := xs[k].size) (by omega) (by omega)
      have l2 := itoa_four he.1 he.2
      have S1 := (Sp.start wr).alloc_box #[.string (ms xs[k].name), .int .i64 xs[k].sys, .int .i64 xs[k].size, .int .i64 xs[k].extra] 39
      have b0 := cell_regrown (S1.cell (i := 0) rfl (o := 0) rfl)
      have b1 := cell_regrown (S1.cell (i := 0) rfl (o := 1) rfl)
      have b2 := cell_regrown (S1.cell (i := 0) rfl (o := 2) rfl)
      have b3 := cell_regrown (S1.cell (i := 0) rfl (o := 3) rfl)
      have hS := Lib.hid S1.below
      have hE2 := Lib.hid ((hEH.out.below HB.out (Nat.le_refl _)).grow S1.below)
      have hI2 := Lib.hid (bld_grow HI.out S1.below)
      clear S1 p0 p1 p2 p3 hp hrk hb hxc hg hE HI
      obtain ⟨T, hT⟩ : ∃ T, textB (xs.take k) = T := ⟨_, rfl⟩
      obtain ⟨T2, hT2⟩ : ∃ T, textB (xs.take (k + 1)) = T := ⟨_, rfl⟩
      rw [hT] at hl hI2
      rw [hT, hT2] at ht
      clear hT
      generalize xs[k] = r at *
      obtain ⟨nm, sy, sz, ex⟩ := r
      dsimp only at *
      go_wp2_with fail
      refine wp_region_quiet_below_tail 21 (by kernel_rfl) (by kernel_rfl) ?_
      simp only [List.take_succ_cons, List.take_zero, List.drop_succ_cons, List.drop_zero]
      repeat (any_goals (first | go_big_quiet_step ((go_at_call 25; first | (with_reducible exact Calls.regrown_of (itoa_at sz (And.intro (by omega) (by omega)) _ (hE2.out.grow (below_regrown _ _ _)))) | (with_reducible exact Calls.regrown_of (itoa_at ex he _ (hE2.out.grow (below_regrown _ _ _))))))))
      refine wpQuiet_nil ?_
      rintro w4 ⟨pp, hw4⟩
      have hb4 := Lib.hid (hw4 ▸ below_regrown _ _ _ : Below (wr.alloc (.cells #[.string (ms nm), .int .i64 sy, .int .i64 sz, .int .i64 ex] 39)).heap.size (wr.alloc (.cells #[.string (ms nm), .int .i64 sy, .int .i64 sz, .int .i64 ex] 39)) w4)
      clear hw4 b0 b1 b2 b3
      go_wp2_with fail
      have hsz : Hid (ms nm ++ { data := #[32] } ++ ByteArray.extract { data := #[114, 116, 108, 112] } (sy.toNat - 1) sy.toNat ++ { data := #[32] } ++ ms (Lib.itoa sz) ++ { data := #[32] } ++ ms (Lib.itoa ex) ++ { data := #[10] } = ms (recT ⟨nm, sy, sz, ex⟩)) := by
        unfold Hid
        apply bl_inj
        have e1 := hlet.out
        rw [show sy.toNat - 1 = (sy - 1).toNat by omega, e1]
        simp [bl_append, bl_ms, bl_lit, recT]
      rw [hsz.out]
      clear hsz hlet
      obtain ⟨L, hL⟩ : ∃ L, recT ⟨nm, sy, sz, ex⟩ = L := ⟨_, rfl⟩
      rw [hL] at hrl ht ⊢
      clear hL
      have hI4 := bld_grow hI2.out hb4.out
      refine (writeString_any w1.heap.size w1.heap.size _ (ms L) w4 hI4 (by rw [Lib.byteCells_length, ms_size]; omega) (by have h1 := HB.out.size; have h2 := hb4.out.size; simp at h2; omega)).mono ?_
      rintro e w5 ⟨rfl, hI5, hb5⟩
      rw [bytes_append, bl_ms, ← ht.out, ← hT2] at hI5
      have hB5 : Hid (Below w1.heap.size w1 w5) := (HB.out.trans (hS.out.mono HB.out.size)).trans ((Below.mono hb4.out (by have h1 := HB.out.size; simp; omega)).trans hb5)
      have hI6 := Lib.hid (Or.inr hI5 : Lib.IsBuilder 52 5 w1.heap.size w1.heap.size (Lib.byteCells (textB (xs.take (k + 1)))) w5)
      clear hI5 hI4 hI2 hb4 hb5 hS HB ht hT2
      go_wp2_with fail
      go_roundw
      case rel => exact ⟨k + 1, by omega, by go_num, hB5, hI6⟩
      case measure => simp [intOf]; omega
    · obtain rfl : k = xs.length := by omega
      rw [List.take_length] at HI
      clear hxlt hx3 hg hE hEH
      go_wp2_with fail
      refine (Tryd.Builder_String_any w1.heap.size w1.heap.size (textB xs) wr HI.out HB.out.size).mono ?_
      rintro e w2 ⟨rfl, hb2⟩
      go_wp2_with fail
      go_ret2
      exact ⟨rfl, (hb1.trans (HB.out.mono hb1.size)).trans (hb2.mono hb1.size)⟩
end Go.Proofs.YtcapiijpfoapkaaDoor
