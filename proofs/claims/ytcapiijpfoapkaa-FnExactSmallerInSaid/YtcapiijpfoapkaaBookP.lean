/- Contracts: names left out, in the program. -/
import Derived.Test.YtcapiijpfoapkaaBookO
import Derived.Lib.SliceRun
namespace Go.Proofs.Ytcapiijpfoapkaa
open Go.RowKit

/-- The memory while names are left out: the row's block, and what the closure has captured. -/
abbrev DParts (g b1 b2 b3 : Nat) (cur : Array Value) (v : Value) (one two : Int) : List Asn := [Box g 9 cur, Box b3 3 #[.int .i64 two], Box b2 3 #[.int .i64 one], Box b1 27 #[v]]
theorem caps_of {w0 w : World} {g b1 b2 b3 : Nat} {cur : Array Value} {v : Value} {xs : List Rec} {one two : Int} {F : List Nat} (S : Sp w0 w (DParts g b1 b2 b3 cur v one two)) (hr : rcTy.row false w0 v xs F) (hb : bookB xs = true) : Caps w b1 b2 b3 v xs one two :=
  ⟨S.cell (i := 3) rfl (o := 0) rfl, S.cell (i := 2) rfl (o := 0) rfl, S.cell (i := 1) rfl (o := 0) rfl, ⟨F, Ty.row_below hr S.below (Ty.row_lt hr)⟩, hb⟩
theorem Sp.setCells {w0 : World} {b : Nat} {t : TypeId} : ∀ (vs : List Value) (o : Nat) {w : World} {ps : List Asn} {i : Nat} {cs : Array Value}, Sp w0 w ps → ps[i]? = some (Box b t cs) →
    ∃ cs', Sp w0 (w.setCells b o vs) (ps.set i (Box b t cs')) ∧ cs'.size = cs.size ∧ ∀ q, q < o → cs'[q]? = cs[q]?
  | [], o, w, ps, i, cs, h, hi => ⟨cs, by
    have e : ps.set i (Box b t cs) = ps := by
      apply List.ext_getElem?
      intro j
      rw [List.getElem?_set]
      by_cases e : i = j
      · subst e
        rw [if_pos rfl, if_pos (List.getElem?_eq_some_iff.1 hi).1, hi]
      · rw [if_neg e]
    rw [e]; exact h, rfl, fun _ _ => rfl⟩
  | v :: r, o, w, ps, i, cs, h, hi => by
    have h1 := h.store hi o v
    have hil : i < ps.length := (List.getElem?_eq_some_iff.1 hi).1
    obtain ⟨cs', S, hs, hq⟩ := Sp.setCells r (o + 1) h1 (by rw [List.getElem?_set, if_pos rfl, if_pos hil])
    refine ⟨cs', by rw [List.set_set] at S; exact S, by rw [hs]; simp, fun q hlt => ?_⟩
    rw [hq q (by omega), Array.getElem?_setIfInBounds, if_neg (by omega)]
theorem run_slice_to {P : Program} {T e : TypeId} {i : TypeInfo} (hT : P.underlying T = some (.slice e)) (hi : P.info? e = some i) (A : Option Addr) (len cap k : Nat) (w : World) (hk : k ≤ cap) :
    (Instr.sliceAt T (.slice A len cap) none (some (.int .i64 k)) none).run P w = .ok (.slice A k cap) w := by
  have hb : (Instr.sliceBounds true len cap none (some (.int .i64 k)) none).run P w = .ok (0, k, cap) w := by
    simp [Instr.sliceBounds, run_sliceBound (P := P) w .i64 (k : Int) cap .sliceAcap (by omega) (by omega)]
  have hA : (if cap = 0 then A else A.map (·.add 0)) = A := by
    split
    · rfl
    · cases A <;> simp [Addr.add]
  simp [Instr.sliceAt, run_underlying hT, Instr.slice, hb, sizeOf, typeInfo, hi, hA]
theorem run_slice_from {P : Program} {T e : TypeId} {i : TypeInfo} (hT : P.underlying T = some (.slice e)) (hi : P.info? e = some i) (hs : i.size = 1) (g len cap k : Nat) (w : World) (hk : k ≤ len) (hc : k < cap) :
    (Instr.sliceAt T (.slice (some ⟨g, 0, none⟩) len cap) (some (.int .i64 k)) none none).run P w = .ok (.slice (some ⟨g, k, none⟩) (len - k) (cap - k)) w := by
  have hb : (Instr.sliceBounds true len cap (some (.int .i64 k)) none none).run P w = .ok (k, len, cap) w := by
    simp [Instr.sliceBounds, run_sliceBound (P := P) w .i64 (k : Int) len .sliceB (by omega) (by omega)]
  have hA : (if cap = k then (some ⟨g, 0, none⟩ : Option Addr) else (some ⟨g, 0, none⟩ : Option Addr).map (·.add (k * i.size))) = some ⟨g, k, none⟩ := by
    rw [if_neg (by omega), hs, Nat.mul_one]
    simp [Addr.add]
    exact fun h => h.symm
  simp [Instr.sliceAt, run_underlying hT, Instr.slice, hb, sizeOf, typeInfo, hi]
  first | exact hA | simpa using hA

/-- What stays of the first names. -/
def keptN (ns : List (List UInt8)) (p : List UInt8 → Bool) (j : Nat) : List (List UInt8) := (ns.take j).filter fun n => !p n
theorem kept_succ {ns : List (List UInt8)} {p : List UInt8 → Bool} {j : Nat} (h : j < ns.length) : keptN ns p (j + 1) = keptN ns p j ++ (if p ns[j] then [] else [ns[j]]) := by
  unfold keptN
  rw [List.take_succ_eq_append_getElem h, List.filter_append]
  cases hp : p ns[j] <;> simp [hp]
theorem kept_none {ns : List (List UInt8)} {p : List UInt8 → Bool} {k : Nat} (h : ∀ x ∈ ns.take k, p x = false) : keptN ns p k = ns.take k := by
  unfold keptN
  rw [List.filter_eq_self]
  intro x hx
  rw [h x hx]; rfl
theorem kept_all (ns : List (List UInt8)) (p : List UInt8 → Bool) : keptN ns p ns.length = ns.filter fun n => !p n := by unfold keptN; rw [List.take_length]
theorem kept_le (ns : List (List UInt8)) (p : List UInt8 → Bool) (j : Nat) : (keptN ns p j).length ≤ j := by
  unfold keptN
  refine Nat.le_trans (List.length_filter_le _ _) ?_
  rw [List.length_take]; omega
/-- While names are left out. -/
def DI (w0 : World) (g b1 b2 b3 : Nat) (v : Value) (one two : Int) (ns : List (List UInt8)) (p : List UInt8 → Bool) (cap i j : Nat) (wr : World) : Prop :=
  ∃ cur, cur.size = cap ∧ NamesIn cur (keptN ns p j) ∧ (keptN ns p j).length = i ∧ (∀ q (h : q < ns.length), j ≤ q → cur[q]? = some (stV ns[q])) ∧ Sp w0 wr (DParts g b1 b2 b3 cur v one two)

set_option maxRecDepth 100000 in
set_option maxHeartbeats 8000000 in
theorem deleteStr_any {w0 w : World} {g b1 b2 b3 : Nat} {cur : Array Value} {v : Value} {xs : List Rec} {one two : Int} {F : List Nat} {ns : List (List UInt8)} {cap : Nat} (S : Sp w0 w (DParts g b1 b2 b3 cur v one two)) (hr : rcTy.row false w0 v xs F) (hb : bookB xs = true)
    (hN : NamesIn cur ns) (hs : cur.size = cap) (hn : ns.length ≤ 24) (hcap : ns.length ≤ cap) (hcm : cap ≤ 9223372036854775807) :
    Calls Try.prog 19 #[.slice (some ⟨g, 0, none⟩) ns.length cap, .func (.func 20) #[] #[.pointer (some ⟨b1, 0, none⟩), .pointer (some ⟨b2, 0, none⟩), .pointer (some ⟨b3, 0, none⟩)]] w fun e w' =>
      ∃ cur' ns', e = .returned (.slice (some ⟨g, 0, none⟩) ns'.length cap) ∧ Sp w0 w' (DParts g b1 b2 b3 cur' v one two) ∧ NamesIn cur' ns' ∧ cur'.size = cap ∧ ns' = ns.filter (fun n => !goesB xs one two n) := by
  obtain ⟨i0, hi, hz0, hz1, hz2⟩ := info_parts infoStr
  have eg : ∀ args w, (callFunc 20 args).run Try.prog w = .ok (.enter 20 args) w := enters_of Try.func20 (by kernel_rfl) rfl
  have hsl1 := @run_slice_to Try.prog _ _ _ Try.underlying24 hi
  have hsl2 := @run_slice_from Try.prog _ _ _ Try.underlying24 hi hz1
  have hix := Lib.hid (indexStr_any (some ⟨g, 0, none⟩) cap ns b1 b2 b3 v xs one two w (caps_of S hr hb) (fun j hj => ⟨g, 0, rfl, by rw [Nat.zero_add]; exact S.cell (i := 0) rfl (hN j hj)⟩) (by omega))
  have hcaps := Lib.hid (fun w' cur' (S' : Sp w0 w' (DParts g b1 b2 b3 cur' v one two)) => caps_of S' hr hb)
  replace S := Lib.hid S
  replace hN := Lib.hid hN
  replace hs := Lib.hid hs
  clear hr hb
  go_enter Try.func19, Try.ntmps19
  go_wp2_with fail
  refine hix.out.mono ?_
  rintro e w1 ⟨z, rfl, hz, hb1⟩
  have S1 := Lib.hid (S.out.grow hb1)
  clear S hix hb1
  rcases hz with ⟨rfl, hall⟩ | ⟨k, hk, rfl, hpk, hall⟩
  · have hR : Hid (ns = ns.filter (fun n => !goesB xs one two n)) := by
      unfold Hid
      symm
      rw [List.filter_eq_self]
      intro x hx
      rw [hall x hx]; rfl
    clear hall
    go_wp2_with fail
    go_ret
    exact ⟨cur, ns, rfl, S1.out, hN.out, hs.out, hR.out⟩
  · have HI : Hid (DI w0 g b1 b2 b3 v one two ns (goesB xs one two) cap k (k + 1) w1) := by
      have hkk : keptN ns (goesB xs one two) (k + 1) = ns.take k := by rw [kept_succ hk, hpk, kept_none hall]; simp
      refine ⟨cur, hs.out, ?_, by rw [hkk, List.length_take]; omega, fun q h _ => hN.out q h, S1.out⟩
      rw [hkk]
      intro j hj
      rw [List.length_take] at hj
      rw [List.getElem_take]
      exact hN.out j (by omega)
    have hne1 : ((k : Int) == -1) = false := by rw [beq_eq_false_iff_ne]; omega
    clear hall hpk S1 hN hs
    go_wp2_with fail
    go_loopw [5, 6] (fun vi vj wr => ∃ i j : Nat, i < j ∧ j ≤ ns.length ∧ vi = .int .i64 i ∧ vj = .int .i64 j ∧ Hid (DI w0 g b1 b2 b3 v one two ns (goesB xs one two) cap i j wr)) (fun _ vj _ => ns.length - (intOf vj).toNat)
    case atStart => exact ⟨k, k + 1, by omega, by omega, rfl, by go_num, HI⟩
    case round =>
      obtain ⟨i, j, hij, hj, rfl, rfl, HD⟩ := hrel
      clear HI
      by_cases hlt : j < ns.length
      · obtain ⟨cur, hs, hN, hl, hrest, S⟩ := HD.out
        have k0 := S.cell (i := 0) rfl (hrest j hlt (Nat.le_refl _))
        have hcall := Lib.hid (goes_any ns[j] b1 b2 b3 v xs one two wr (hcaps.out _ _ S))
        have hks := Lib.hid (kept_succ (p := goesB xs one two) hlt)
        replace hN := Lib.hid hN
        replace hl := Lib.hid hl
        replace hrest := Lib.hid hrest
        replace hs := Lib.hid hs
        replace S := Lib.hid S
        cases hq : goesB xs one two ns[j]
        · rw [hq] at hcall hks
          clear HD hcaps
          go_wp2_with fail
          refine hcall.out.mono ?_
          rintro e w2 ⟨rfl, hb2⟩
          have S2 := S.out.grow hb2
          obtain ⟨u0, hu0⟩ : ∃ u, cur[i]? = some u := ⟨_, Array.getElem?_eq_getElem (by rw [hs.out]; omega)⟩
          have c0 := S2.cell (i := 0) rfl hu0
          have f0 := S2.frozen (i := 0) rfl i
          have HD2 : Hid (DI w0 g b1 b2 b3 v one two ns (goesB xs one two) cap (i + 1) (j + 1) (w2.setCell ⟨g, i, none⟩ (stV ns[j]))) := by
            refine ⟨cur.setIfInBounds i (stV ns[j]), by simpa using hs.out, ?_, ?_, fun q h hjq => ?_, S2.store (i := 0) rfl i (stV ns[j])⟩
            · rw [hks.out]
              simp only [Bool.false_eq_true, if_false]
              intro q hq
              rw [List.length_append, List.length_singleton, hl.out] at hq
              rw [Array.getElem?_setIfInBounds]
              by_cases e : i = q
              · subst e
                rw [if_pos rfl, if_pos (by rw [hs.out]; omega), List.getElem_append_right (by rw [hl.out]; omega)]
                simp
              · rw [if_neg e, List.getElem_append_left (by rw [hl.out]; omega)]
                exact hN.out q (by rw [hl.out]; omega)
            · rw [hks.out]
              simp [hl.out]
            · rw [Array.getElem?_setIfInBounds, if_neg (by omega)]
              exact hrest.out q h (by omega)
          clear S S2 hb2 hcall hks hN hl hrest hs hu0 k0
          go_wp2_with fail
          go_roundw
          case rel => exact ⟨i + 1, j + 1, by omega, by omega, by go_num, by go_num, HD2⟩
          case measure => simp [intOf]; omega
        · rw [hq] at hcall hks
          clear HD hcaps
          go_wp2_with fail
          refine hcall.out.mono ?_
          rintro e w2 ⟨rfl, hb2⟩
          have HD2 : Hid (DI w0 g b1 b2 b3 v one two ns (goesB xs one two) cap i (j + 1) w2) := by
            have e : keptN ns (goesB xs one two) (j + 1) = keptN ns (goesB xs one two) j := by rw [hks.out]; simp
            exact ⟨cur, hs.out, by rw [e]; exact hN.out, by rw [e]; exact hl.out, fun q h hjq => hrest.out q h (by omega), S.out.grow hb2⟩
          clear S hb2 hcall hks hN hl hrest hs k0
          go_wp2_with fail
          go_roundw
          case rel => exact ⟨i, j + 1, by omega, by omega, rfl, by go_num, HD2⟩
          case measure => simp [intOf]; omega
      · obtain rfl : j = ns.length := by omega
        obtain ⟨cur, hs, hN, hl, hrest, S⟩ := HD.out
        have hic : i < cap := by omega
        have hs2 := hsl2 g ns.length cap i wr (by omega) hic
        have hcl : ∀ ty, (Builtin.clear_ #[24] ty #[.slice (some ⟨g, i, none⟩) (ns.length - i) (cap - i)]).run Try.prog wr = .ok (.tuple #[]) (wr.setCells g i (List.replicate (ns.length - i) (.string ByteArray.empty))) :=
          fun ty => Lib.run_clear_slice wr _ _ ty _ Try.underlying24 Try.zeroValue9 rfl rfl g i _ _ (by omega) (fun q hq => by
            rw [S.cell (i := 0) rfl (Array.getElem?_eq_getElem (show i + q < cur.size by omega))]; rfl) (fun q hq => S.frozen (i := 0) rfl (i + q))
        have hs1 := hsl1 (some ⟨g, 0, none⟩) ns.length cap i
        obtain ⟨cur', S2, hs', hq'⟩ := S.setCells (i := 0) (List.replicate (ns.length - i) (.string ByteArray.empty)) i rfl
        have hR : Hid (∃ cur' ns', Ending.returned (.slice (some ⟨g, 0, none⟩) i cap) = .returned (.slice (some ⟨g, 0, none⟩) ns'.length cap) ∧ Sp w0 (wr.setCells g i (List.replicate (ns.length - i) (.string ByteArray.empty))) (DParts g b1 b2 b3 cur' v one two) ∧ NamesIn cur' ns' ∧ cur'.size = cap ∧ ns' = ns.filter (fun n => !goesB xs one two n)) := by
          refine ⟨cur', keptN ns (goesB xs one two) ns.length, by rw [hl], S2, fun q hq => ?_, hs'.trans hs, kept_all _ _⟩
          rw [hq' q (by omega)]
          exact hN q hq
        clear HD S S2 hN hl hrest hs hs' hq' hsl1 hsl2 hcaps
        generalize wr.setCells g i (List.replicate (ns.length - i) (.string ByteArray.empty)) = W at *
        have hs1 := hs1 W (by omega)
        go_wp2_with fail
        go_ret
        exact hR.out
end Go.Proofs.Ytcapiijpfoapkaa
