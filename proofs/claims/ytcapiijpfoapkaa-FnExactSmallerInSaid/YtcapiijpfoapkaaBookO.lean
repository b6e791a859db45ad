/- Contracts: the names of a book, in the program: the walk. -/
import Derived.Test.YtcapiijpfoapkaaBookN
import Derived.Test.YtcapiijpfoapkaaSepB
namespace Go.Proofs.Ytcapiijpfoapkaa
open Go.RowKit

set_option maxRecDepth 100000 in
set_option maxHeartbeats 4000000 in
theorem namesOf_any (v : Value) (xs : List Rec) (F : List Nat) (w : World) (hx : rcTy.row false w v xs F) (hb : bookB xs = true) :
    Calls Try.prog 17 #[v] w (NamesPost xs w) := by
  obtain ⟨i0, hi, hz0, hz1, hz2⟩ := info_parts infoStr
  obtain ⟨a, c, rfl, hx1, hx2, hg, hx3⟩ := row_rc hx
  have h24 : xs.length ≤ 24 := by unfold bookB at hb; rw [Bool.and_eq_true, decide_eq_true_eq] at hb; exact hb.2
  have hxr := Lib.hid hx
  have hbk := Lib.hid hb
  clear hx hb
  go_enter Try.func17, Try.ntmps17
  go_wp2_with fail
  refine (isBook_at (Ty.row_below hxr.out (bb _) (Ty.row_lt hxr.out)) hbk.out).mono ?_
  rintro e w1 ⟨rfl, hb1⟩
  have S1 := Lib.hid ((Sp.of_below hb1).own_nil 9 1)
  clear hb1
  go_wp2_with fail
  go_loopw [4, 12] (fun vo vi wr => ∃ (k : Nat) (A : Option Addr) (cc : Nat) (ys : List (List UInt8)), k ≤ xs.length ∧ vi = .int .i64 k ∧ vo = .slice A ys.length cc ∧ Hid (ys = (xs.take k).map Rec.name) ∧ Hid (ys.length = k) ∧ Hid (Sp w wr [Strs (.slice A ys.length cc) ys])) (fun _ vi _ => xs.length - (intOf vi).toNat)
  case atStart => exact ⟨0, none, 0, [], Nat.zero_le _, rfl, rfl, rfl, rfl, S1⟩
  case round =>
    obtain ⟨k, A, cc, ys, hk, rfl, rfl, HY, hyl, HS⟩ := hrel
    clear S1
    by_cases hlt : k < xs.length
    · rcases hx3 with ⟨rfl, rfl⟩ | ⟨hxn, b, off, rfl, rfl, hxc⟩
      · exact absurd hlt (by simp)
      obtain ⟨p0, p1, p2, p3⟩ := hxc k hlt
      have hp := HS.out.below.block b p0.lt
      have k0 := (p0.keep hp).1
      have k1 := (p1.keep hp).1
      have k2 := (p2.keep hp).1
      have k3 := (p3.keep hp).1
      have hy24 : ys.length ≤ 24 := by have := hyl.out; omega
      have HY2 : Hid (ys ++ [xs[k].name] = (xs.take (k + 1)).map Rec.name) := by unfold Hid; rw [HY.out, List.take_succ_eq_append_getElem hlt, List.map_append]; rfl
      clear p0 p1 p2 p3 hp hxc HY
      generalize xs[k] = r at *
      have S2 := (HS.out.alloc_box #[.string (ms r.name), .int .i64 r.sys, .int .i64 r.size, .int .i64 r.extra] 39)
      have S3 := S2.alloc_box #[.string (ms r.name)] 9
      simp only [World.size_alloc] at S3
      have kB := S3.cell (i := 0) rfl (o := 0) rfl
      replace S3 := Lib.hid S3
      clear S2 HS
      go_wp2_with (at_builtin; refine wpList_append_src rfl _ _ rfl Try.underlying24 hi hz0 hz1 hz2 rfl (by decide) _ _ _ rfl (S3.out.own (i := 2) rfl) _ 1 1 [.string (ms r.name)] rfl (Src.one kB) (by simp [Value.oneCell']) ?c3 ?c4 ?_)
      case c3 => unfold maxLen; omega
      case c4 => omega
      intro vY wY hownY hgY hatY
      have S4 := (S3.out.own_push (i := 2) rfl (bb _) hownY hgY (by simpa using hatY)).tail.tail
      obtain ⟨aY, cY, rfl⟩ := owns_form hownY
      have HS2 : Hid (Sp w wY [Strs (.slice aY (ys ++ [r.name]).length cY) (ys ++ [r.name])]) := by
        have := S4
        rw [show ys.length + 1 = (ys ++ [r.name]).length by simp, show ys.map stV ++ [.string (ms r.name)] = (ys ++ [r.name]).map stV by simp] at this
        exact this
      have hlen : ys.length + 1 = (ys ++ [r.name]).length := by simp
      obtain ⟨zs, hzs⟩ : ∃ z, ys ++ [r.name] = z := ⟨_, rfl⟩
      rw [hzs] at HS2 HY2 hlen
      rw [hlen]
      have hzl : zs.length = k + 1 := by have := hyl.out; omega
      replace hlen := Lib.hid hlen
      clear S3 S4 kB hownY hgY hatY hzs k0 k1 k2 k3 hyl
      replace hzl := Lib.hid hzl
      go_wp2_with fail
      go_roundw
      case rel => exact ⟨k + 1, aY, cY, zs, by omega, by go_num, rfl, HY2, hzl, HS2⟩
      case measure => simp [intOf]; omega
    · obtain rfl : k = xs.length := by omega
      have hys : ys = xs.map Rec.name := by have := HY.out; rwa [List.take_length] at this
      have hweak := names_weak hbk.out
      rw [← hys] at hweak
      have hA := Lib.hid (compact_asc hweak)
      have hM : Hid (∀ n, n ∈ Lib.compact ys ↔ n ∈ xs.map Rec.name) := fun n => by rw [compact_mem, hys]
      have hL := compact_len ys
      clear HY hweak hys
      have hy24 : ys.length ≤ 24 := by have := hyl.out; omega
      clear hyl hk hlt hx3
      obtain ⟨hcl, hcm⟩ : ys.length ≤ cc ∧ cc ≤ 9223372036854775807 := by
        obtain ⟨_, ⟨e, h1, _⟩ | ⟨g', c', e, h1, h2, _⟩⟩ := own_view (HS.out.own (i := 0) rfl)
        · simp only [Value.slice.injEq] at e
          omega
        · simp only [Value.slice.injEq] at e
          omega
      by_cases h0 : ys = []
      · subst h0
        have hB := HS.out.below
        have hcall := Lib.hid (Try.slices_Compact_string_empty A cc wr)
        have hNP : Hid (NamesPost xs w (.returned (.tuple #[.slice A 0 cc, .bool true])) wr) := ⟨A, cc, [], rfl, by simp, hM.out, by simp, by simp, hcm, .inl ⟨rfl, hB⟩⟩
        clear hM hA HS hL
        go_wp2_with fail
        refine hcall.out.mono ?_
        rintro e w2 ⟨rfl, rfl⟩
        go_wp2_with fail
        go_ret2
        exact hNP.out
      · have hpos : 0 < ys.length := List.length_pos_iff.2 h0
        obtain ⟨g, rfl⟩ := own_ptr (HS.out.own (i := 0) rfl) hpos
        obtain ⟨cur, S2, hcs, hct, hnc, hcm⟩ := HS.out.own_box (i := 0) rfl
        have hNI : NamesIn cur ys := fun j hj => by
          have : cur.toList[j]? = (ys.map stV)[j]? := by rw [← hct, List.getElem?_take, if_pos hj]
          rw [List.getElem?_map, List.getElem?_eq_getElem hj, Array.getElem?_toList] at this
          exact this
        have hH : Sort.Holds encStr wr g 0 ys.toArray := fun j hj => by
          have hj' : j < ys.length := by simpa using hj
          rw [Nat.zero_add, bang hj']
          exact ⟨S2.cell (i := 0) rfl (hNI j hj'), S2.frozen (i := 0) rfl j⟩
        have hcall := Lib.hid (Try.slices_Compact_string g 0 cc ys wr hH (by omega) hnc)
        have hbx := Lib.hid (fun w' q e => compact_box (w' := w') (q := q) S2 (by rw [hcs]; exact hnc) hNI e)
        clear HS hH hct S2 hNI
        go_wp2_with fail
        refine hcall.out.mono ?_
        rintro e w2 ⟨rfl, q, hw⟩
        obtain ⟨cur', S3, hs3, hN3⟩ := hbx.out w2 q hw
        have hNP : Hid (NamesPost xs w (.returned (.tuple #[.slice (some ⟨g, 0, none⟩) (Lib.compact ys).length cc, .bool true])) w2) := ⟨_, cc, _, rfl, hA.out, hM.out, by omega, by omega, hcm, .inr ⟨g, cur', rfl, S3, by rw [hs3, hcs], hN3⟩⟩
        clear hM hA hbx hcall S3 hN3 hw
        go_wp2_with fail
        go_ret2
        exact hNP.out
end Go.Proofs.Ytcapiijpfoapkaa
