/- Lemmas and contracts for a law, put together out of several texts: PgE AsJ PgG PgH PgI PgF PgD. -/
import Derived.Test.YtnfjgebfmnpkbaaGreatMg8
import Derived.Lib.RabinKarpLaws
import Derived.Test.YtnfjgebfmnpkbaaGreatMg6
import Derived.Test.YtnfjgebfmnpkbaaGreatShelf
import Derived.Test.YtnfjgebfmnpkbaaGreatMg4
/- Contracts: the longest path of a graph, on both sides. -/
namespace Go.Proofs.YtnfjgebfmnpkbaaGreat
open Go.RowKit

/-- Numbers that fill a block. -/
def numsA (n : Nat) (f : Nat → Nat) : Array Value := ((List.range n).map fun j => Value.int .i64 (f j : Nat)).toArray
theorem numsA_get {n m : Nat} {f : Nat → Nat} (h : m < n) : (numsA n f)[m]? = some (.int .i64 (f m : Nat)) := by simp [numsA, h]
theorem numsA_congr {n : Nat} {f g : Nat → Nat} (h : ∀ j, j < n → f j = g j) : numsA n f = numsA n g := by
  unfold numsA
  congr 1
  exact List.map_congr_left fun j hj => by rw [h j (List.mem_range.1 hj)]
theorem numsA_set (n m : Nat) (f : Nat → Nat) (x : Nat) : (numsA n f).setIfInBounds m (.int .i64 x) = numsA n (fun j => if j = m then x else f j) := by
  unfold numsA
  rw [List.setIfInBounds_toArray]
  congr 1
  apply List.ext_getElem?
  intro j
  rw [List.getElem?_set]
  by_cases hj : j < n
  · by_cases e : m = j
    · subst e; simp [hj]
    · simp [hj, e, Ne.symm e]
  · simp [hj]
    intro e
    omega
theorem numsA_made (n : Nat) : madeCells #[.int .i64 0] n = numsA n (fun _ => 0) := by
  apply Array.ext'
  rw [toList_madeCells_one]
  unfold numsA
  apply List.ext_getElem?
  intro j
  by_cases h : j < n
  · simp [h]
  · simp [h]

set_option maxRecDepth 100000 in
theorem mk_nums (k : Nat) (hk : k ≤ 1000000) (x : Int) (hx : x = k) (w : World) :
    (Instr.makeSlice 33 (.int .i64 x) (.int .i64 x)).run Tryz.prog w = .ok (.slice (some ⟨w.heap.size, 0, none⟩) k k) (w.alloc (.cells (numsA k fun _ => 0) 3)) := by
  obtain ⟨i, hi, h1, h2, h3⟩ : ∃ i, Tryz.prog.info? 3 = some i ∧ i.zero = some (.int .i64 0) ∧ i.size = 1 ∧ i.bytes = 8 := ⟨_, rfl, by kernel_rfl, by kernel_rfl, by kernel_rfl⟩
  subst hx
  have := run_make w 33 3 i (.int .i64 0) Tryz.underlying33 hi h1 .i64 .i64 (k : Int) (k : Int) (by omega) (by omega) (by rw [h3]; omega) (by omega)
  rw [h2] at this
  rw [← numsA_made]
  simpa [Value.cells] using this
/-- Truth values that fill a block. -/
def boolsA (n : Nat) (f : Nat → Bool) : Array Value := ((List.range n).map fun j => Value.bool (f j)).toArray
theorem boolsA_get {n m : Nat} {f : Nat → Bool} (h : m < n) : (boolsA n f)[m]? = some (.bool (f m)) := by simp [boolsA, h]
theorem boolsA_congr {n : Nat} {f g : Nat → Bool} (h : ∀ j, j < n → f j = g j) : boolsA n f = boolsA n g := by
  unfold boolsA
  congr 1
  exact List.map_congr_left fun j hj => by rw [h j (List.mem_range.1 hj)]
theorem boolsA_set (n m : Nat) (f : Nat → Bool) (x : Bool) : (boolsA n f).setIfInBounds m (.bool x) = boolsA n (fun j => if j = m then x else f j) := by
  unfold boolsA
  rw [List.setIfInBounds_toArray]
  congr 1
  apply List.ext_getElem?
  intro j
  rw [List.getElem?_set]
  by_cases hj : j < n
  · by_cases e : m = j
    · subst e; simp [hj]
    · rw [if_neg e]; simp only [List.getElem?_map, List.getElem?_range hj, Option.map_some]; rw [if_neg (fun h => e h.symm)]
  · by_cases e : m = j
    · subst e; simp [hj]
    · rw [if_neg e]; simp [hj]
theorem boolsA_made (n : Nat) : madeCells #[.bool false] n = boolsA n (fun _ => false) := by
  apply Array.ext'
  rw [toList_madeCells_one]
  unfold boolsA
  apply List.ext_getElem?
  intro j
  by_cases h : j < n
  · simp [h]
  · simp [h]
set_option maxRecDepth 100000 in
theorem mk_bools (k : Nat) (hk : k ≤ 1000000) (x : Int) (hx : x = k) (w : World) :
    (Instr.makeSlice 70 (.int .i64 x) (.int .i64 x)).run Tryz.prog w = .ok (.slice (some ⟨w.heap.size, 0, none⟩) k k) (w.alloc (.cells (boolsA k fun _ => false) 4)) := by
  obtain ⟨i, hi, h1, h2, h3⟩ : ∃ i, Tryz.prog.info? 4 = some i ∧ i.zero = some (.bool false) ∧ i.size = 1 ∧ i.bytes = 1 := ⟨_, rfl, by kernel_rfl, by kernel_rfl, by kernel_rfl⟩
  subst hx
  have := run_make w 70 4 i (.bool false) Tryz.underlying70 hi h1 .i64 .i64 (k : Int) (k : Int) (by omega) (by omega) (by rw [h3]; omega) (by omega)
  rw [h2] at this
  rw [← boolsA_made]
  simpa [Value.cells] using this

/-- The longest path to a predecessor; the longest paths to the first m nodes. -/
def mxL (ls : List Nat) (l : List Int) : Nat := l.foldl (fun n p => max n (ls.getD p.toNat 0)) 0
def lonL (D : List (List Int)) : Nat → List Nat
  | 0 => []
  | m + 1 => lonL D m ++ [mxL (lonL D m) (D.getD m []) + 1]
def lonR (D : List (List Int)) : Nat := (lonL D D.length).foldl max 0
theorem mxL_take {ls : List Nat} {l : List Int} {k : Nat} (hk : k < l.length) : mxL ls (l.take (k + 1)) = max (mxL ls (l.take k)) (ls.getD l[k].toNat 0) := by
  unfold mxL; rw [List.take_succ_eq_append_getElem hk, List.foldl_append]; rfl
theorem lonL_len (D : List (List Int)) : ∀ m, (lonL D m).length = m
  | 0 => rfl
  | m + 1 => by rw [lonL, List.length_append, lonL_len D m]; rfl
theorem lonL_succ {D : List (List Int)} {m : Nat} (h : m < D.length) : lonL D (m + 1) = lonL D m ++ [mxL (lonL D m) D[m] + 1] := by rw [lonL, getD_row h]
theorem fold_le {f : Nat → Int → Nat} {b : Nat} (hf : ∀ n p, n ≤ b → f n p ≤ b) : ∀ (l : List Int) (n : Nat), n ≤ b → l.foldl f n ≤ b
  | [], n, h => h
  | p :: l, n, h => fold_le hf l _ (hf n p h)
theorem mxL_le {ls : List Nat} {b : Nat} (h : ∀ x ∈ ls, x ≤ b) (l : List Int) : mxL ls l ≤ b := by
  refine fold_le (fun n p hn => ?_) l 0 (Nat.zero_le _)
  refine Nat.max_le.2 ⟨hn, ?_⟩
  rw [List.getD_eq_getElem?_getD]
  cases hg : ls[p.toNat]? with
  | none => exact Nat.zero_le _
  | some x => exact h x (List.mem_of_getElem? hg)
theorem lonL_le (D : List (List Int)) : ∀ m, ∀ x ∈ lonL D m, x ≤ m
  | 0, x, hx => by simp [lonL] at hx
  | m + 1, x, hx => by
    rw [lonL] at hx
    rcases List.mem_append.1 hx with hx | hx
    · have := lonL_le D m x hx; omega
    · obtain rfl := List.mem_singleton.1 hx
      have := mxL_le (lonL_le D m) (D.getD m [])
      omega
theorem maxOf_nat : ∀ (xs : List Nat) (a : Nat), (xs.map fun (x : Nat) => (x : Int)).foldl max (a : Int) = ((xs.foldl max a : Nat) : Int)
  | [], a => rfl
  | x :: xs, a => by
    rw [List.map_cons, List.foldl_cons, List.foldl_cons, ← maxOf_nat xs (max a x)]
    congr 1; omega
theorem maxOf_lon (xs : List Nat) (h : 0 < xs.length) : Lib.maxOf (xs.map fun (x : Nat) => (x : Int)) = ((xs.foldl max 0 : Nat) : Int) := by
  match xs, h with
  | x :: xs, _ =>
    unfold Lib.maxOf
    rw [List.map_cons, List.headD_cons, List.foldl_cons, Int.max_self, maxOf_nat, List.foldl_cons, Nat.zero_max]
/-- A number that is told or not. -/
def NOut (x : Int) (ok : Bool) (w : World) (e : Ending) (w' : World) : Prop := e = .returned (.tuple #[.int .i64 x, .bool ok]) ∧ Below w.heap.size w w'
theorem l1MostN_any (a b : Nat) (w : World) : Calls Tryz.prog 34 #[.int .i64 a, .int .i64 b] w fun e w' => e = .returned (.int .i64 ((max a b : Nat) : Int)) ∧ w = w' := by
  by_cases h : b < a
  · rw [show max a b = a by omega]
    go_enter Tryz.func34, Tryz.ntmps34
    go_wp2_with fail
    go_ret
    exact ⟨rfl, rfl⟩
  · rw [show max a b = b by omega]
    go_enter Tryz.func34, Tryz.ntmps34
    go_wp2_with fail
    go_ret
    exact ⟨rfl, rfl⟩

set_option maxRecDepth 100000 in
set_option maxHeartbeats 4000000 in
theorem specLongest_any (A : Option Addr) (cap : Nat) (D : List (List Int)) (w : World) (hx : ClsAt w A D) (hl : D.length ≤ 1000) (hs : ∀ l ∈ D, l.length ≤ 1000) :
    Calls Tryz.prog 15 #[.agg #[.slice A D.length cap]] w (NOut (if dagB D then (lonR D : Int) else 0) (dagB D) w) := by
  obtain ⟨i0, hi0, hy0, hy1, hy2⟩ := info_parts infoInt
  have S0 := (Sp.start w).alloc_box #[.slice A D.length cap] 26
  have c0 := S0.cell (i := 0) rfl (o := 0) rfl
  have hX := Lib.hid hx
  have hic := l14Good_any A cap D _ (hx.grow S0.below) hl hs
  cases h : dagB D with
  | false =>
    rw [h] at hic
    rw [if_neg (by simp)]
    replace hic := Lib.hid hic
    have hB := Lib.hid S0.below
    clear h hx S0
    go_enter Tryz.func15, Tryz.ntmps15
    go_wp2_with fail
    refine hic.out.mono ?_
    rintro e w1 ⟨rfl, hb1⟩
    have hB1 := Lib.hid (btr hB.out hb1)
    clear hic hB hb1 c0
    go_wp2_with fail
    go_ret2
    exact ⟨rfl, hB1.out⟩
  | true =>
    rw [h] at hic
    rw [if_pos rfl]
    replace hic := Lib.hid hic
    obtain ⟨h10, hpre⟩ := dag_parts h
    replace hpre := Lib.hid hpre
    clear h hx
    replace S0 := Lib.hid S0
    have hR : Hid (lonR D = (lonL D D.length).foldl max 0) := rfl
    go_enter Tryz.func15, Tryz.ntmps15
    go_wp2_with fail
    refine hic.out.mono ?_
    rintro e w1 ⟨rfl, hb1⟩
    have S1 := Lib.hid ((S0.out.grow hb1).own_made 3 1)
    have c1 := S1.out.cell (i := 1) rfl (o := 0) rfl
    clear S0 hic hb1 c0
    go_wp2_with fail
    clear c1
    go_loopw [4, 5, 6] (fun v4 v5 v6 wr => ∃ (x most : Nat) (B : Option Addr) (c : Nat) (ys : List Int), x ≤ D.length ∧ v6 = .int .i64 x ∧ v5 = .int .i64 most ∧ v4 = .slice B ys.length c ∧ Hid (ys = (lonL D x).map fun (n : Nat) => (n : Int)) ∧ Hid (most = (lonL D x).foldl max 0) ∧ Hid (Sp w wr [Own 3 1 (.slice B ys.length c) ys.length (ys.map (.int .i64)), Box w.heap.size 26 #[.slice A D.length cap]])) (fun _ _ v6 _ => D.length - (intOf v6).toNat)
    case atStart => exact ⟨0, 0, _, 0, [], Nat.zero_le _, rfl, rfl, rfl, rfl, rfl, S1⟩
    case round =>
      clear S1
      obtain ⟨x, most, B, c, ys, hxl, rfl, rfl, rfl, hys, hmo, HS⟩ := hrel
      have c0 := HS.out.cell (i := 1) rfl (o := 0) rfl
      by_cases hlt : x < D.length
      · obtain ⟨b, off, E, dc, hA, m00, hI00⟩ := hX.out.at_ x hlt
        subst hA
        have m0' := Lib.hid m00
        have hI0 := Lib.hid hI00
        have hsl := hs _ (List.getElem_mem hlt)
        have hpx := Lib.hid (rsg_mem (hpre.out x hlt))
        have hst := Lib.hid (lonL_succ hlt)
        have hle := Lib.hid (lonL_le D x)
        have hln := Lib.hid (lonL_len D x)
        generalize D[x] = l at *
        generalize lonL D x = ls at *
        have hyl : ys.length = x := by rw [hys.out, List.length_map, hln.out]
        have hyx := Lib.hid hyl
        clear m00 hI00 hyl
        have hmx := Lib.hid (mxL_le hle.out)
        have hz : Hid (mxL ls (l.take 0) + 1 = 1) := rfl
        rename World => wo
        go_wp2_with fail
        clear c0
        go_loopw [7, 8] (fun v7 v8 wr => ∃ k q : Nat, k ≤ l.length ∧ v8 = .int .i64 k ∧ v7 = .int .i64 q ∧ Hid (q = mxL ls (l.take k) + 1) ∧ Hid (Sp w wr [Own 3 1 (.slice B ys.length c) ys.length (ys.map (.int .i64)), Box w.heap.size 26 #[.slice (some ⟨b, off, none⟩) D.length cap]])) (fun _ v8 _ => l.length - (intOf v8).toNat)
        case atStart => exact ⟨0, 1, Nat.zero_le _, rfl, rfl, hz.out.symm, HS⟩
        case round =>
          clear HS hz
          obtain ⟨k, q, hk, rfl, rfl, hq, HS⟩ := hrel
          have c0 := HS.out.cell (i := 1) rfl (o := 0) rfl
          have m0 := (HS.out.below.cell (World.block_lt_of_cell? _ _ m0'.out)).trans m0'.out
          by_cases hlt2 : k < l.length
          · obtain ⟨b2, o2, hE, m22⟩ := hI0.out.at_ k hlt2
            subst hE
            have m2 := (HS.out.below.cell (World.block_lt_of_cell? _ _ m22)).trans m22
            have hb := hpx.out _ (List.getElem_mem hlt2)
            have hmt := mxL_take (ls := ls) hlt2
            generalize l[k] = p at *
            obtain ⟨t, rfl⟩ := Int.eq_ofNat_of_zero_le hb.1
            have htx : t < x := by omega
            have htl : t < ys.length := by rw [hyx.out]; exact htx
            obtain ⟨b3, o3, hB3, m3⟩ := (HS.out.ints (i := 0) rfl (by rw [hys.out]; intro y hy; obtain ⟨n, hn, rfl⟩ := List.mem_map.1 hy; have := hle.out n hn; unfold I64; omega)).at_ t htl
            subst hB3
            have hval : ys[t] = ((ls.getD t 0 : Nat) : Int) := by
              have htn : t < ls.length := by rw [hln.out]; exact htx
              simp only [hys.out, List.getElem_map, List.getD_eq_getElem?_getD, List.getElem?_eq_getElem htn, Option.getD_some]
            rw [hval] at m3
            have hv10 : ls.getD t 0 ≤ x := by
              have htn : t < ls.length := by rw [hln.out]; exact htx
              rw [List.getD_eq_getElem?_getD, List.getElem?_eq_getElem htn]
              exact hle.out _ (List.getElem_mem htn)
            rw [Int.toNat_natCast] at hmt
            generalize ls.getD t 0 = v at *
            have hq2 : Hid (max q (v + 1) = mxL ls (l.take (k + 1)) + 1) := by unfold Hid; rw [hmt, hq.out]; omega
            have hcall := Lib.hid (fun W => l1MostN_any q (v + 1) W)
            rw [show ((v + 1 : Nat) : Int) = (v : Int) + 1 from rfl] at hcall
            clear m22 hval hmt hb
            generalize max q (v + 1) = q2 at *
            go_wp2_with fail
            refine (hcall.out _).mono ?_
            rintro e w3 ⟨rfl, rfl⟩
            clear hcall c0 m0 m2 m3
            go_wp2_with fail
            go_roundw
            case rel => exact ⟨k + 1, q2, by omega, by go_num, rfl, hq2, HS⟩
            case measure => simp [intOf]; omega
          · obtain rfl : k = l.length := by omega
            have hqv : q = mxL ls l + 1 := by have := hq.out; rwa [List.take_length] at this
            have hq10 : q ≤ x + 1 := by rw [hqv]; have := hmx.out l; omega
            have hys2 : Hid (ys ++ [(q : Int)] = (lonL D (x + 1)).map fun (n : Nat) => (n : Int)) := by unfold Hid; rw [hst.out, ← hqv, List.map_append, ← hys.out]; rfl
            have hmo2 : Hid (max most q = (lonL D (x + 1)).foldl max 0) := by unfold Hid; rw [hst.out, ← hqv, List.foldl_append, ← hmo.out]; rfl
            have hcall := Lib.hid (fun W => l1MostN_any most q W)
            have hyl : ys.length ≤ 1000 := by rw [hyx.out]; omega
            clear hq hqv hys hmo hst
            generalize max most q = m2 at *
            have S3 := HS.out.alloc_box #[.int .i64 (q : Int)] 3
            (try simp only [World.size_setCell] at S3)
            have kB := S3.cell (i := 0) rfl (o := 0) rfl
            replace S3 := Lib.hid S3
            clear HS
            go_wp2_with (at_builtin; refine wpList_append_src rfl _ _ rfl Tryz.underlying33 hi0 hy0 hy1 hy2 rfl (by decide) _ _ _ rfl (S3.out.own (i := 1) rfl) _ 1 1 [.int .i64 (q : Int)] rfl (Src.one kB) (by simp [Value.oneCell']) ?c3 ?c4 ?_)
            case c3 => unfold maxLen; omega
            case c4 => omega
            intro vY wY hownY hgY hatY
            have S4 := (S3.out.own_push (i := 1) rfl (bb _) hownY hgY (by simpa using hatY)).tail
            obtain ⟨aY, cY, rfl⟩ := own_slice hownY
            have S5 := Lib.hid (ownI_snoc (d := ys) (x := (q : Int)) S4)
            clear S3 S4 kB hownY hgY hatY
            have hlen : ys.length + 1 = (ys ++ [(q : Int)]).length := by simp
            rw [hlen]
            replace hlen := Lib.hid hlen
            clear hlen
            go_wp2_with fail
            refine (hcall.out _).mono ?_
            rintro e w3 ⟨rfl, rfl⟩
            go_wp2_with fail
            go_roundw
            case rel => exact ⟨x + 1, m2, aY, cY, ys ++ [(q : Int)], by omega, by go_num, rfl, by simp, hys2, hmo2, S5⟩
            case measure => simp [intOf]; omega
      · obtain rfl : x = D.length := by omega
        have hB := Lib.hid HS.out.below
        have hm := hmo.out
        rw [← hR.out] at hm
        subst hm
        clear HS hmo hys
        go_wp2_with fail
        go_ret2
        exact ⟨rfl, hB.out⟩
end Go.Proofs.YtnfjgebfmnpkbaaGreat

/- Contracts: the bits of a total assignment, in the program; numbers held, in the laws. -/
namespace Go.Proofs.YtnfjgebfmnpkbaaGreat
open Go.RowKit

theorem or_natS (a b : Nat) (ha : a < 2 ^ 62) (hb : b < 2 ^ 62) : bits .or .i64 (a : Int) (b : Int) = ((a ||| b : Nat) : Int) := by
  have h := bits_nat .i64 62 (by decide) (fun n h0 h1 => by rw [IntKind.wrap_i64]; have : (2 : Int) ^ 62 = 4611686018427387904 := by decide
                                                            omega) a b ha hb
  exact h.2
theorem modS_next (b k : Nat) : b % 2 ^ (k + 1) = if b.testBit k then (b % 2 ^ k) ||| 2 ^ k else b % 2 ^ k := by
  rw [Nat.mod_pow_succ, Nat.testBit_eq_decide_div_mod_eq]
  have h : b % 2 ^ k < 2 ^ k := Nat.mod_lt _ (Nat.two_pow_pos k)
  have h3 : b / 2 ^ k % 2 < 2 := Nat.mod_lt _ (by decide)
  by_cases h1 : b / 2 ^ k % 2 = 1
  · rw [h1, decide_eq_true rfl, if_pos rfl, Nat.mul_one]
    have h2 := Nat.two_pow_add_eq_or_of_lt h 1
    rw [Nat.mul_one] at h2
    rw [Nat.or_comm, ← h2, Nat.add_comm]
  · have h4 : b / 2 ^ k % 2 = 0 := by omega
    rw [h4]
    simp

/- left out: the seat has no impl.bitsOf -/

/- left out: the seat has no impl.BitsOfTotal -/

set_option maxHeartbeats 1000000 in
theorem vHas_any (xs : List Int) (A : Option Addr) (cap : Nat) (x : Int) (w : World) (hx : IntsAt w A xs) (hl : xs.length ≤ 1000000) :
    Calls Tryz.prog 20 #[.slice A xs.length cap, .int .i64 x] w fun e w' => e = .returned (.bool (hasI xs x)) ∧ w = w' := by
  have hX := Lib.hid hx
  clear hx
  go_enter Tryz.func20, Tryz.ntmps20
  go_wp2_with fail
  go_loopw [5] (fun i wr => ∃ k : Nat, k ≤ xs.length ∧ i = .int .i64 k ∧ Hid (hasI (xs.take k) x = false) ∧ w = wr) (fun i _ => xs.length - (intOf i).toNat)
  case atStart => exact ⟨0, Nat.zero_le _, rfl, by simp [Hid, hasI], rfl⟩
  case round =>
    obtain ⟨k, hk, rfl, HR, rfl⟩ := hrel
    by_cases hlt : k < xs.length
    · obtain ⟨b, off, rfl, k0⟩ := hX.out.at_ k hlt
      by_cases he : xs[k] = x
      · have HN : Hid (hasI xs x = true) := hasI_yes hlt he
        have he' : (xs[k] == x) = true := by simpa using he
        clear he HR
        go_wp2_with fail
        go_ret
        exact ⟨ret_bool HN.out.symm, rfl⟩
      · have HN : Hid (hasI (xs.take (k + 1)) x = false) := hasI_no hlt HR.out he
        have he' : (xs[k] == x) = false := by simpa using he
        clear he HR
        go_wp2_with fail
        go_roundw
        case rel => exact ⟨k + 1, by omega, by go_num, HN, by first | rfl | trivial⟩
        case measure => simp [intOf]; omega
    · obtain rfl : k = xs.length := by omega
      have HN := HR.out
      rw [List.take_length] at HN
      replace HN := Lib.hid HN
      clear HR
      go_wp2_with fail
      go_ret
      exact ⟨ret_bool HN.out.symm, rfl⟩
end Go.Proofs.YtnfjgebfmnpkbaaGreat

/- Contracts: the nodes under a node, in the program. -/
namespace Go.Proofs.YtnfjgebfmnpkbaaGreat
open Go.RowKit

/-- A way down. -/
inductive Rch (D : List (List Int)) : Nat → Nat → Prop
  | refl (x : Nat) : Rch D x x
  | step {x p y : Nat} : (p : Int) ∈ D.getD x [] → Rch D p y → Rch D x y
def undN (D : List (List Int)) : Nat → Nat → Nat
  | 0, _ => 0
  | f + 1, x => (D.getD x []).foldl (fun s p => s ||| undN D f p.toNat) (2 ^ x)
theorem or_fold (g : Int → Nat) (y : Nat) : ∀ (l : List Int) (s : Nat), (l.foldl (fun s p => s ||| g p) s).testBit y = (s.testBit y || l.any fun p => (g p).testBit y)
  | [], s => by simp
  | p :: l, s => by rw [List.foldl_cons, or_fold g y l, Nat.testBit_or, List.any_cons, Bool.or_assoc]
theorem or_fold_lt {g : Int → Nat} {k : Nat} : ∀ {l : List Int} {s : Nat}, s < 2 ^ k → (∀ p ∈ l, g p < 2 ^ k) → l.foldl (fun s p => s ||| g p) s < 2 ^ k
  | [], s, h, _ => h
  | p :: l, s, h, hl => by rw [List.foldl_cons]; exact or_fold_lt (g := g) (Nat.or_lt_two_pow h (hl p (by simp))) fun q hq => hl q (by simp [hq])
theorem dag_pred {D : List (List Int)} (h : dagB D = true) {x : Nat} {p : Int} (hp : p ∈ D.getD x []) : x < D.length ∧ 0 ≤ p ∧ p < x := by
  by_cases hx : x < D.length
  · rw [getD_row hx] at hp
    have := rsg_mem ((dag_parts h).2 x hx) p hp
    exact ⟨hx, by omega, by omega⟩
  · rw [List.getD_eq_getElem?_getD, List.getElem?_eq_none (by omega)] at hp
    simp at hp
theorem rch_le {D : List (List Int)} (h : dagB D = true) {x y : Nat} (hr : Rch D x y) : y ≤ x := by
  induction hr with
  | refl => exact Nat.le_refl _
  | step hp _ ih => have := dag_pred h hp; omega
theorem undN_lt {D : List (List Int)} (h : dagB D = true) : ∀ (f x : Nat), x < 10 → undN D f x < 2 ^ 10
  | 0, x, hx => by simp [undN]
  | f + 1, x, hx => by
    unfold undN
    refine or_fold_lt (Nat.pow_lt_pow_right (by decide) hx) fun p hp => ?_
    have := dag_pred h hp
    exact undN_lt h f p.toNat (by omega)
theorem undN_bit {D : List (List Int)} (h : dagB D = true) (y : Nat) : ∀ (f x : Nat), x < f → ((undN D f x).testBit y = true ↔ Rch D x y)
  | 0, x, hx => by omega
  | f + 1, x, hx => by
    unfold undN
    rw [or_fold, Bool.or_eq_true, Nat.testBit_two_pow, decide_eq_true_eq, List.any_eq_true]
    constructor
    · rintro (rfl | ⟨p, hp, hb⟩)
      · exact .refl _
      · have := dag_pred h hp
        exact .step (by rw [show ((p.toNat : Nat) : Int) = p by omega]; exact hp) ((undN_bit h y f p.toNat (by omega)).1 hb)
    · intro hr
      cases hr with
      | refl => exact .inl rfl
      | step hp hr =>
        have := dag_pred h hp
        exact .inr ⟨_, hp, by rw [Int.toNat_natCast]; exact (undN_bit h y f _ (by omega)).2 hr⟩
theorem undN_take {D : List (List Int)} {f x k : Nat} (hx : x < D.length) (hk : k < D[x].length) : (D[x].take (k + 1)).foldl (fun s p => s ||| undN D f p.toNat) (2 ^ x) = (D[x].take k).foldl (fun s p => s ||| undN D f p.toNat) (2 ^ x) ||| undN D f D[x][k].toNat := by
  rw [List.take_succ_eq_append_getElem hk, List.foldl_append]; rfl
theorem or_u64 (a b : Nat) (ha : a < 2 ^ 62) (hb : b < 2 ^ 62) : bits .or .u64 (a : Int) (b : Int) = ((a ||| b : Nat) : Int) ∧ bits .and .u64 (a : Int) (b : Int) = ((a &&& b : Nat) : Int) := by
  have h := bits_nat .u64 62 (by decide) (fun n h0 h1 => by rw [IntKind.wrap_u64]; have : (2 : Int) ^ 62 = 4611686018427387904 := by decide
                                                            omega) a b ha hb
  exact ⟨h.2, h.1⟩
theorem nodL_more {p : Nat → Bool} {k : Nat} (h : ∀ y, k ≤ y → p y = false) : ∀ m, k ≤ m → nodL p m = nodL p k
  | 0, hm => by rw [show k = 0 by omega]
  | m + 1, hm => by
    rcases Nat.eq_or_lt_of_le hm with rfl | h'
    · rfl
    · rw [nodL_succ, h m (by omega), nodL_more h m (by omega)]; simp
theorem nodL_congr {p q : Nat → Bool} {m : Nat} (h : ∀ y, y < m → p y = q y) : nodL p m = nodL q m := by
  unfold nodL
  rw [List.filter_congr fun y hy => h y (List.mem_range.1 hy)]

set_option maxRecDepth 100000 in
set_option maxHeartbeats 4000000 in
theorem nodesOf1_any (x : Nat) (hx : x < 10) (A : Option Addr) (c : Nat) (w : World) (hI : IntsAt w A [(x : Int)]) :
    Calls Tryz.prog 56 #[.slice A 1 c] w fun e w' => e = .returned (.int .u64 ((2 ^ x : Nat) : Int)) ∧ Below w.heap.size w w' := by
  obtain ⟨b, off, rfl, m0⟩ := hI.at_ 0 (by simp)
  rw [Nat.add_zero] at m0
  simp only [List.getElem_cons_zero] at m0
  have hP : 2 ^ x < 2 ^ 10 := Nat.pow_lt_pow_right (by decide) hx
  have hsh : IntKind.u64.wrap ((2 : Int) ^ x) = ((2 ^ x : Nat) : Int) := by
    have e : (2 : Int) ^ x = ((2 ^ x : Nat) : Int) := by rw [Int.natCast_pow]; rfl
    rw [IntKind.wrap_u64, e]
    generalize 2 ^ x = P at *
    omega
  have hor := (or_u64 0 (2 ^ x) (by decide) (Nat.lt_trans hP (by decide))).1
  rw [Nat.zero_or] at hor
  clear hI
  generalize 2 ^ x = P at *
  go_enter Tryz.func56, Tryz.ntmps56
  go_wp2_with fail
  go_loopw [3, 8] (fun v3 v8 wr => ∃ k m : Nat, k ≤ 1 ∧ v8 = .int .i64 k ∧ v3 = .int .u64 m ∧ Hid ((k = 0 → m = 0) ∧ (k = 1 → m = P)) ∧ Hid (w = wr)) (fun _ v8 _ => 1 - (intOf v8).toNat)
  case atStart => exact ⟨0, 0, by omega, rfl, rfl, ⟨(fun _ => rfl), (fun h => by cases h)⟩, rfl⟩
  case round =>
    obtain ⟨k, m, hk, rfl, rfl, hm, hW⟩ := hrel
    have hW' := hW.out
    subst hW'
    by_cases h0 : k = 0
    · subst h0
      have hm0 := hm.out.1 rfl
      subst hm0
      have hn : Hid ((1 = 0 → P = 0) ∧ (1 = 1 → P = P)) := ⟨(fun h => by cases h), fun _ => rfl⟩
      clear hm
      go_wp2_with fail
      go_roundw
      case rel => exact ⟨1, P, by omega, rfl, by go_num, hn, by first | exact rfl | exact Lib.hid trivial⟩
      case measure => simp [intOf]
    · obtain rfl : k = 1 := by omega
      have hm1 := hm.out.2 rfl
      subst hm1
      clear hm
      go_wp2_with fail
      go_ret
      exact ⟨rfl, bb _⟩

set_option maxRecDepth 100000 in
set_option maxHeartbeats 4000000 in
theorem under_any (A : Option Addr) (cap : Nat) (D : List (List Int)) (hD : dagB D = true) : ∀ (f x : Nat) (w : World), x < f → x < D.length → ClsAt w A D →
    Calls Tryz.prog 38 #[.agg #[.slice A D.length cap], .int .i64 x] w fun e w' => e = .returned (.int .u64 (undN D f x : Nat)) ∧ Below w.heap.size w w'
  | 0, x, w, hx, _, _ => by omega
  | f + 1, x, w, hxf, hx, hX0 => by
    have ih : Hid (∀ (p : Nat) (W : World), p < f → p < D.length → ClsAt W A D → Calls Tryz.prog 38 #[.agg #[.slice A D.length cap], .int .i64 p] W fun e w' => e = .returned (.int .u64 (undN D f p : Nat)) ∧ Below W.heap.size W w') := fun p W h1 h2 h3 => under_any A cap D hD f p W h1 h2 h3
    have hX := Lib.hid hX0
    obtain ⟨h10, hpre⟩ := dag_parts hD
    have hpx := Lib.hid (rsg_mem (hpre x hx))
    have hpl := pre_len (hpre x hx)
    have hlt := Lib.hid (fun f x h => undN_lt hD f x h)
    have S0 := ((Sp.start w).alloc_box #[.slice A D.length cap] 26).alloc_box #[.int .i64 x] 3
    simp only [World.size_alloc] at S0
    have hno := Lib.hid (nodesOf1_any x (by omega) _ 1 _ (show IntsAt _ (some ⟨w.heap.size + 1, 0, none⟩) [(x : Int)] from ⟨fun j hj => by
      obtain rfl : j = 0 := by simpa using hj
      exact ⟨_, _, rfl, S0.cell (i := 0) rfl (o := 0) rfl⟩, fun y hy => by obtain rfl := List.mem_singleton.1 hy; unfold I64; omega⟩))
    have c0 := S0.cell (i := 1) rfl (o := 0) rfl
    have hF : Hid (undN D (f + 1) x = (D[x].take D[x].length).foldl (fun s p => s ||| undN D f p.toNat) (2 ^ x)) := by unfold Hid; rw [List.take_length]; show (D.getD x []).foldl (fun s p => s ||| undN D f p.toNat) (2 ^ x) = _; rw [getD_row hx]
    have hT := Lib.hid (fun k hk => undN_take (D := D) (f := f) (x := x) (k := k) hx hk)
    have hFl : Hid (∀ k, (D[x].take k).foldl (fun s p => s ||| undN D f p.toNat) (2 ^ x) < 2 ^ 10) := fun k => or_fold_lt (Nat.pow_lt_pow_right (by decide) (by omega)) fun p hp => by
      have := rsg_mem (hpre x hx) p (List.mem_of_mem_take hp)
      exact undN_lt hD f p.toNat (by omega)
    have hF0 : Hid ((D[x].take 0).foldl (fun s p => s ||| undN D f p.toNat) (2 ^ x) = 2 ^ x) := rfl
    obtain ⟨b, off, E, dc, hA, m00, hI00⟩ := hX.out.at_ x hx
    subst hA
    have m0' := Lib.hid m00
    have hI0 := Lib.hid hI00
    generalize undN D (f + 1) x = R at *
    generalize D[x] = l at *
    replace S0 := Lib.hid S0
    clear hX0 hpre m00 hI00
    go_enter Tryz.func38, Tryz.ntmps38
    go_wp2_with fail
    refine hno.out.mono ?_
    rintro e w1 ⟨rfl, hb1⟩
    have S1 := Lib.hid ((S0.out.grow hb1).tail)
    have c1 := S1.out.cell (i := 0) rfl (o := 0) rfl
    have m0 := (S1.out.below.cell (World.block_lt_of_cell? _ _ m0'.out)).trans m0'.out
    clear hno S0 hb1 c0
    generalize hP : 2 ^ x = P at *
    replace hP := Lib.hid hP
    go_wp2_with fail
    clear c1 m0
    go_loopw [5, 17] (fun v5 v17 wr => ∃ k m : Nat, k ≤ l.length ∧ v17 = .int .i64 k ∧ v5 = .int .u64 m ∧ Hid (m = (l.take k).foldl (fun s p => s ||| undN D f p.toNat) P) ∧ Hid (Sp w wr [Box w.heap.size 26 #[.slice (some ⟨b, off, none⟩) D.length cap]])) (fun _ v17 _ => l.length - (intOf v17).toNat)
    case atStart => exact ⟨0, P, Nat.zero_le _, rfl, rfl, hF0.out.symm, S1⟩
    case round =>
      clear S1
      obtain ⟨k, m, hk, rfl, rfl, hm, HS⟩ := hrel
      by_cases hlt2 : k < l.length
      · obtain ⟨b2, o2, hE, m22⟩ := hI0.out.at_ k hlt2
        subst hE
        have mc := (HS.out.below.cell (World.block_lt_of_cell? _ _ m22)).trans m22
        have c0 := HS.out.cell (i := 0) rfl (o := 0) rfl
        have hb := hpx.out _ (List.getElem_mem hlt2)
        have hst := hT.out k hlt2
        have hml : m < 2 ^ 10 := by rw [hm.out]; exact hFl.out k
        rw [← hm.out] at hst
        generalize l[k] = p at *
        obtain ⟨t, rfl⟩ := Int.eq_ofNat_of_zero_le hb.1
        rw [Int.toNat_natCast] at hst
        have hcall := Lib.hid (ih.out t wr (by omega) (by omega) (hX.out.grow HS.out.below))
        have htl := hlt.out f t (by omega)
        generalize undN D f t = u at *
        have hor := (or_u64 m u (Nat.lt_trans hml (by decide)) (Nat.lt_trans htl (by decide))).1
        have hst' := Lib.hid hst.symm
        generalize m ||| u = m2 at *
        clear m22 hst hb hml htl
        go_wp2_with fail
        refine hcall.out.mono ?_
        rintro e w3 ⟨rfl, hb3⟩
        have S3 := Lib.hid (HS.out.grow hb3)
        clear hcall HS hb3 mc c0
        go_wp2_with fail
        go_roundw
        case rel => exact ⟨k + 1, m2, by omega, by go_num, rfl, hst', S3⟩
        case measure => simp [intOf]; omega
      · obtain rfl : k = l.length := by omega
        have hR : m = R := by rw [hm.out, hF.out]
        subst hR
        have hB := Lib.hid HS.out.below
        clear HS hm
        go_wp2_with fail
        go_ret
        exact ⟨rfl, hB.out⟩
end Go.Proofs.YtnfjgebfmnpkbaaGreat

/- Contracts: the nodes under a node, told as a list. -/
namespace Go.Proofs.YtnfjgebfmnpkbaaGreat
open Go.RowKit

theorem bit_u64 (m x : Nat) (hm : m < 2 ^ 62) : bits .and .u64 ((m : Int) / 2 ^ x) 1 = if m.testBit x then 1 else 0 := by
  have e0 : (m : Int) / 2 ^ x = ((m / 2 ^ x : Nat) : Int) := by rw [Int.natCast_ediv, Int.natCast_pow]; rfl
  rw [e0, show (1 : Int) = ((1 : Nat) : Int) from rfl, (or_u64 _ _ (Nat.lt_of_le_of_lt (Nat.div_le_self _ _) hm) (by decide)).2, Nat.and_one_is_mod, Nat.testBit_eq_decide_div_mod_eq]
  rcases Nat.mod_two_eq_zero_or_one (m / 2 ^ x) with h | h
  · rw [h]; simp
  · rw [h]; simp
/-- The nodes under a node. -/
def undV (D : List (List Int)) (x : Nat) : List Int := nodL (fun y => (undN D D.length x).testBit y) 10
def udB (D : List (List Int)) (x : Int) : Bool := dagB D && inB x 0 ((D.length : Int) - 1)

set_option maxRecDepth 100000 in
set_option maxHeartbeats 4000000 in
theorem list_any (m : Nat) (hm : m < 2 ^ 10) (w : World) :
    Calls Tryz.prog 39 #[.int .u64 m] w fun e w' => ∃ A c, e = .returned (.slice A (nodL (fun y => m.testBit y) 10).length c) ∧ IntsAt w' A (nodL (fun y => m.testBit y) 10) ∧ Below w.heap.size w w' := by
  obtain ⟨i0, hi0, hy0, hy1, hy2⟩ := info_parts infoInt
  have S0 := Lib.hid ((Sp.start w).own_nil 3 1)
  have hm62 : m < 2 ^ 62 := Nat.lt_trans hm (by decide)
  have hbit := Lib.hid (fun x => bit_u64 m x hm62)
  have hst := Lib.hid (fun x => nodL_succ (fun y => m.testBit y) x)
  have hln := Lib.hid (fun x => nodL_len (fun y => m.testBit y) x)
  have hmem := Lib.hid (fun x => nodL_mem (p := fun y => m.testBit y) (m := x))
  have hz : Hid (nodL (fun y => m.testBit y) 0 = []) := rfl
  generalize (fun y => m.testBit y) = p at *
  clear hm hm62
  go_enter Tryz.func39, Tryz.ntmps39
  go_wp2_with fail
  go_loopw [3, 5] (fun v3 v5 wr => ∃ (x : Nat) (B : Option Addr) (c : Nat) (ys : List Int), x ≤ 10 ∧ v5 = .int .i64 x ∧ v3 = .slice B ys.length c ∧ Hid (ys = nodL p x) ∧ Hid (Sp w wr [Own 3 1 (.slice B ys.length c) ys.length (ys.map (.int .i64))])) (fun _ v5 _ => 10 - (intOf v5).toNat)
  case atStart => exact ⟨0, none, 0, [], by omega, rfl, rfl, hz.out.symm, S0⟩
  case round =>
    clear S0 hz
    obtain ⟨x, B, c, ys, hxl, rfl, rfl, hys, HS⟩ := hrel
    by_cases hlt : x < 10
    · have hyl : ys.length ≤ 1000 := by rw [hys.out]; exact Nat.le_trans (hln.out x) (by omega)
      have hb := hbit.out x
      have hs := hst.out x
      cases hq : m.testBit x
      · rw [hq] at hb hs
        have hn2 : Hid (ys = nodL p (x + 1)) := by unfold Hid; rw [hs, hys.out]; simp
        clear hs hq
        simp only [Bool.false_eq_true, if_false] at hb
        go_wp2_with fail
        go_roundw
        case rel => exact ⟨x + 1, B, c, ys, by omega, by go_num, rfl, hn2, HS⟩
        case measure => simp [intOf]; omega
      · rw [hq] at hb hs
        have hn2 : Hid (ys ++ [(x : Int)] = nodL p (x + 1)) := by unfold Hid; rw [hs, hys.out]; simp
        clear hs hq hys
        simp only [if_true] at hb
        have S3 := HS.out.alloc_box #[.int .i64 (x : Int)] 3
        (try simp only [World.size_setCell] at S3)
        have kB := S3.cell (i := 0) rfl (o := 0) rfl
        replace S3 := Lib.hid S3
        clear HS
        go_wp2_with (at_builtin; refine wpList_append_src rfl _ _ rfl Tryz.underlying33 hi0 hy0 hy1 hy2 rfl (by decide) _ _ _ rfl (S3.out.own (i := 1) rfl) _ 1 1 [.int .i64 (x : Int)] rfl (Src.one kB) (by simp [Value.oneCell']) ?c3 ?c4 ?_)
        case c3 => unfold maxLen; omega
        case c4 => omega
        intro vY wY hownY hgY hatY
        have S4 := (S3.out.own_push (i := 1) rfl (bb _) hownY hgY (by simpa using hatY)).tail
        obtain ⟨aY, cY, rfl⟩ := own_slice hownY
        have S5 := Lib.hid (ownI_snoc (d := ys) (x := (x : Int)) S4)
        clear S3 S4 kB hownY hgY hatY
        have hlen : ys.length + 1 = (ys ++ [(x : Int)]).length := by simp
        rw [hlen]
        replace hlen := Lib.hid hlen
        clear hlen
        go_wp2_with fail
        go_roundw
        case rel => exact ⟨x + 1, aY, cY, ys ++ [(x : Int)], by omega, by go_num, by simp, hn2, S5⟩
        case measure => simp [intOf]; omega
    · obtain rfl : x = 10 := by omega
      have hI := Lib.hid (HS.out.ints (i := 0) rfl (by rw [hys.out]; exact fun y hy => by have := hmem.out 10 y hy; unfold I64; omega))
      have hB := Lib.hid HS.out.below
      have hy := hys.out
      subst hy
      clear HS hys
      go_wp2_with fail
      go_ret
      exact ⟨B, c, rfl, hI.out, hB.out⟩

set_option maxRecDepth 100000 in
set_option maxHeartbeats 4000000 in
theorem implUnder_any (A : Option Addr) (cap : Nat) (D : List (List Int)) (x : Int) (w : World) (hx : ClsAt w A D) (hl : D.length ≤ 1000) (hs : ∀ l ∈ D, l.length ≤ 1000) :
    Calls Tryz.prog 17 #[.agg #[.slice A D.length cap], .int .i64 x] w (ROut (if udB D x then undV D x.toNat else []) (udB D x) w) := by
  have S0 := (Sp.start w).alloc_box #[.slice A D.length cap] 26
  have c0 := S0.cell (i := 0) rfl (o := 0) rfl
  have hX := Lib.hid hx
  have hic := implIsDag_any A cap D _ (hx.grow S0.below) hl hs
  obtain ⟨z, hz⟩ : ∃ z, (D.length : Int) - 1 = z := ⟨_, rfl⟩
  have hwz : IntKind.i64.wrap ((D.length : Int) - 1) = z := by rw [IntWalk.i64_in _ (by omega)]; exact hz
  cases h : dagB D with
  | false =>
    have hq : udB D x = false := by unfold udB; rw [h]; rfl
    rw [hq, if_neg (by simp)]
    rw [h] at hic
    replace hic := Lib.hid hic
    have hB := Lib.hid S0.below
    clear h hx S0 hq hz hwz
    go_enter Tryz.func17, Tryz.ntmps17
    go_wp2_with fail
    refine hic.out.mono ?_
    rintro e w1 ⟨rfl, hb1⟩
    have hB1 := Lib.hid (btr hB.out hb1)
    clear hic hB hb1 c0
    go_wp2_with fail
    go_ret2
    exact ⟨none, 0, rfl, ints_no _ _, hB1.out⟩
  | true =>
    have hq : udB D x = inB x 0 z := by unfold udB; rw [h, hz]; rfl
    rw [hq]
    rw [h] at hic
    replace hic := Lib.hid hic
    have h10 := (dag_parts h).1
    have hwi := fun W => within_any x 0 z W
    have hun := Lib.hid (fun W (h1 : x.toNat < D.length) (hb : Below w.heap.size w W) => under_any A cap D h D.length x.toNat W h1 h1 (hX.out.grow hb))
    have hul := Lib.hid (fun (h1 : x.toNat < D.length) => undN_lt h D.length x.toNat (by omega))
    replace S0 := Lib.hid S0
    replace hz := Lib.hid hz
    clear h hx hq
    cases hin : inB x 0 z
    · simp only [hin] at hwi
      replace hwi := Lib.hid hwi
      rw [if_neg (by simp)]
      clear hin
      go_enter Tryz.func17, Tryz.ntmps17
      go_wp2_with fail
      refine hic.out.mono ?_
      rintro e w1 ⟨rfl, hb1⟩
      have S1 := Lib.hid (S0.out.grow hb1)
      have c1 := S1.out.cell (i := 0) rfl (o := 0) rfl
      clear hic S0 hb1 c0
      go_wp2_with fail
      refine (hwi.out _).mono ?_
      rintro e w2 ⟨rfl, rfl⟩
      have hB1 := Lib.hid S1.out.below
      clear S1 c1 hwi
      go_wp2_with fail
      go_ret2
      exact ⟨none, 0, rfl, ints_no _ _, hB1.out⟩
    · simp only [hin] at hwi
      replace hwi := Lib.hid hwi
      rw [if_pos rfl]
      have hxb := inB_true.1 hin
      obtain ⟨t, rfl⟩ := Int.eq_ofNat_of_zero_le hxb.1
      have ht : t < D.length := by have := hz.out; omega
      simp only [Int.toNat_natCast] at hun hul ⊢
      have hV : Hid (undV D t = nodL (fun y => (undN D D.length t).testBit y) 10) := rfl
      generalize undN D D.length t = m at *
      have hli := Lib.hid (fun W => list_any m (hul.out ht) W)
      rw [hV.out]
      generalize nodL (fun y => m.testBit y) 10 = ys at *
      clear hin hxb hul
      go_enter Tryz.func17, Tryz.ntmps17
      go_wp2_with fail
      refine hic.out.mono ?_
      rintro e w1 ⟨rfl, hb1⟩
      have S1 := Lib.hid (S0.out.grow hb1)
      have c1 := S1.out.cell (i := 0) rfl (o := 0) rfl
      clear hic S0 hb1 c0
      go_wp2_with fail
      refine (hwi.out _).mono ?_
      rintro e w2 ⟨rfl, rfl⟩
      go_wp2_with fail
      refine (hun.out _ ht S1.out.below).mono ?_
      rintro e w3 ⟨rfl, hb3⟩
      have hB3 := Lib.hid (btr S1.out.below hb3)
      clear S1 c1 hwi hun hb3
      go_wp2_with fail
      refine (hli.out _).mono ?_
      rintro e w4 ⟨B, c, rfl, hI, hb4⟩
      have hfin := Lib.hid (And.intro hI (btr hB3.out hb4))
      clear hli hI hb4 hB3
      go_wp2_with fail
      go_ret2
      exact ⟨B, c, rfl, hfin.out⟩
end Go.Proofs.YtnfjgebfmnpkbaaGreat

/- Contract: the nodes under a node, in the reference. -/
namespace Go.Proofs.YtnfjgebfmnpkbaaGreat
open Go.RowKit

/-- What is marked, where all nodes from c on are done. -/
def InvU (D : List (List Int)) (x c : Nat) (f : Nat → Bool) : Prop := f x = true ∧ (∀ j, f j = true → Rch D x j) ∧ ∀ j, c ≤ j → f j = true → ∀ p ∈ D.getD j [], f p.toNat = true
def addU (f : Nat → Bool) (l : List Int) (j : Nat) : Bool := f j || l.contains (j : Int)
theorem rch_snoc {D : List (List Int)} {x y p : Nat} (h : Rch D x y) (hp : (p : Int) ∈ D.getD y []) : Rch D x p := by
  induction h with
  | refl => exact .step hp (.refl _)
  | step h1 _ ih => exact .step h1 (ih hp)
theorem invU_start {D : List (List Int)} (h : dagB D = true) (x : Nat) : InvU D x (x + 1) (fun j => if j = x then true else false) := by
  refine ⟨by simp, fun j hj => ?_, fun j hj hq => ?_⟩
  · have : j = x := by simpa using hj
    subst this; exact .refl _
  · have : j = x := by simpa using hq
    omega
theorem invU_no {D : List (List Int)} {x y : Nat} {f : Nat → Bool} (h : InvU D x (y + 1) f) (hy : f y = false) : InvU D x y f := by
  refine ⟨h.1, h.2.1, fun j hj hq => ?_⟩
  rcases Nat.eq_or_lt_of_le hj with rfl | hj
  · rw [hy] at hq; cases hq
  · exact h.2.2 j hj hq
theorem invU_yes {D : List (List Int)} (hD : dagB D = true) {x y : Nat} {f : Nat → Bool} (hl : y < D.length) (h : InvU D x (y + 1) f) (hy : f y = true) : InvU D x y (addU f D[y]) := by
  have hmem : ∀ j : Nat, (D[y]).contains (j : Int) = true → (j : Int) ∈ D.getD y [] ∧ j < y := fun j hj => by
    have h1 : (j : Int) ∈ D.getD y [] := by rw [getD_row hl]; simpa using hj
    have := dag_pred hD h1
    exact ⟨h1, by omega⟩
  unfold addU
  refine ⟨by show (f x || _) = true; rw [h.1]; rfl, fun j hj => ?_, fun j hj hq p hp => ?_⟩
  · rw [Bool.or_eq_true] at hj
    rcases hj with hj | hj
    · exact h.2.1 j hj
    · exact rch_snoc (h.2.1 y hy) (hmem j hj).1
  · rw [Bool.or_eq_true] at hq
    rw [Bool.or_eq_true]
    have hpb := dag_pred hD hp
    rcases Nat.eq_or_lt_of_le hj with rfl | hj
    · right
      rw [getD_row hl] at hp
      rw [List.contains_iff_mem, show ((p.toNat : Nat) : Int) = p by omega]; exact hp
    · rcases hq with hq | hq
      · exact .inl (h.2.2 j hj hq p hp)
      · have := (hmem j hq).2; omega
theorem invU_end {D : List (List Int)} (hD : dagB D = true) {x : Nat} {f : Nat → Bool} (h : InvU D x 0 f) (j : Nat) : f j = true ↔ Rch D x j := by
  refine ⟨h.2.1 j, fun hr => ?_⟩
  have key : ∀ a b, Rch D a b → f a = true → f b = true := fun a b hr => by
    induction hr with
    | refl => exact id
    | step hp _ ih =>
      intro ha
      have := h.2.2 _ (Nat.zero_le _) ha _ hp
      rw [Int.toNat_natCast] at this
      exact ih this
  exact key x j hr h.1
theorem undV_inv {D : List (List Int)} (hD : dagB D = true) {x : Nat} (hx : x < D.length) {f : Nat → Bool} (h : InvU D x 0 f) : nodL f (x + 1) = undV D x := by
  have hb := fun y => undN_bit hD y D.length x hx
  have h10 := (dag_parts hD).1
  unfold undV
  rw [nodL_more (k := x + 1) (fun y hy => ?_) 10 (by omega)]
  · refine nodL_congr fun y _ => ?_
    rw [Bool.eq_iff_iff, invU_end hD h, hb y]
  · cases hq : (undN D D.length x).testBit y with
    | false => rfl
    | true => have := rch_le hD ((hb y).1 hq); omega
theorem addU_zero (f : Nat → Bool) (l : List Int) (j : Nat) : addU f (l.take 0) j = f j := by simp [addU]
theorem addU_succ {f : Nat → Bool} {l : List Int} {k p : Nat} (hk : k < l.length) (hp : l[k] = (p : Int)) (j : Nat) : addU f (l.take (k + 1)) j = if j = p then true else addU f (l.take k) j := by
  unfold addU
  rw [List.take_succ_eq_append_getElem hk, hp, List.contains_append]
  by_cases h : j = p
  · subst h; simp
  · rw [if_neg h]
    have : ([(p : Int)]).contains (j : Int) = false := by
      simp; omega
    rw [this, Bool.or_false]

set_option maxRecDepth 100000 in
set_option maxHeartbeats 4000000 in
theorem specUnder_any (A : Option Addr) (cap : Nat) (D : List (List Int)) (x : Int) (w : World) (hx : ClsAt w A D) (hl : D.length ≤ 1000) (hs : ∀ l ∈ D, l.length ≤ 1000) :
    Calls Tryz.prog 18 #[.agg #[.slice A D.length cap], .int .i64 x] w (ROut (if udB D x then undV D x.toNat else []) (udB D x) w) := by
  obtain ⟨i0, hi0, hy0, hy1, hy2⟩ := info_parts infoInt
  have S0 := ((Sp.start w).alloc_box #[.slice A D.length cap] 26).own_made 3 1
  simp only [World.size_alloc] at S0
  have c0 := S0.cell (i := 1) rfl (o := 0) rfl
  have hX := Lib.hid hx
  have hic := l14Good_any A cap D _ (hx.grow S0.below) hl hs
  obtain ⟨z, hz⟩ : ∃ z, (D.length : Int) - 1 = z := ⟨_, rfl⟩
  have hwz : IntKind.i64.wrap ((D.length : Int) - 1) = z := by rw [IntWalk.i64_in _ (by omega)]; exact hz
  cases h : dagB D with
  | false =>
    have hq : udB D x = false := by unfold udB; rw [h]; rfl
    rw [hq, if_neg (by simp)]
    rw [h] at hic
    replace hic := Lib.hid hic
    have hB := Lib.hid S0.below
    clear h hx S0 hq hz hwz
    go_enter Tryz.func18, Tryz.ntmps18
    go_wp2_with fail
    refine hic.out.mono ?_
    rintro e w1 ⟨rfl, hb1⟩
    have hB1 := Lib.hid (btr hB.out hb1)
    clear hic hB hb1 c0
    go_wp2_with fail
    go_ret2
    exact ⟨_, 0, rfl, ints_no _ _, hB1.out⟩
  | true =>
    have hq : udB D x = inB x 0 z := by unfold udB; rw [h, hz]; rfl
    rw [hq]
    rw [h] at hic
    replace hic := Lib.hid hic
    have hD := Lib.hid h
    obtain ⟨h10, hpre⟩ := dag_parts h
    replace hpre := Lib.hid hpre
    have hwi := fun W => l1In_any x 0 z W
    replace S0 := Lib.hid S0
    replace hz := Lib.hid hz
    clear h hx hq
    cases hin : inB x 0 z
    · simp only [hin] at hwi
      replace hwi := Lib.hid hwi
      rw [if_neg (by simp)]
      clear hin
      go_enter Tryz.func18, Tryz.ntmps18
      go_wp2_with fail
      refine hic.out.mono ?_
      rintro e w1 ⟨rfl, hb1⟩
      have S1 := Lib.hid (S0.out.grow hb1)
      have c1 := S1.out.cell (i := 1) rfl (o := 0) rfl
      clear hic S0 hb1 c0
      go_wp2_with fail
      refine (hwi.out _).mono ?_
      rintro e w2 ⟨rfl, rfl⟩
      have hB1 := Lib.hid S1.out.below
      clear S1 c1 hwi
      go_wp2_with fail
      go_ret2
      exact ⟨_, 0, rfl, ints_no _ _, hB1.out⟩
    · simp only [hin] at hwi
      replace hwi := Lib.hid hwi
      rw [if_pos rfl]
      have hxb := inB_true.1 hin
      obtain ⟨t, rfl⟩ := Int.eq_ofNat_of_zero_le hxb.1
      have ht : t < D.length := by have := hz.out; omega
      simp only [Int.toNat_natCast]
      have hV := Lib.hid (fun f (h : InvU D t 0 f) => undV_inv hD.out ht h)
      have hstart := Lib.hid (invU_start hD.out t)
      have hmk := fun W => mk_bools D.length (by omega) (D.length : Int) rfl W
      clear hin hxb
      generalize undV D t = out at *
      go_enter Tryz.func18, Tryz.ntmps18
      go_wp2_with fail
      refine hic.out.mono ?_
      rintro e w1 ⟨rfl, hb1⟩
      have S1 := S0.out.grow hb1
      have c1 := S1.cell (i := 1) rfl (o := 0) rfl
      have S2 := S1.alloc_box (boolsA D.length fun _ => false) 4
      have c2 := S2.cell (i := 2) rfl (o := 0) rfl
      have b0 := S2.cell (i := 0) rfl (o := t) (boolsA_get ht)
      have f0 := S2.frozen (i := 0) rfl t
      have S3 := S1.alloc_box ((boolsA D.length fun _ => false).setIfInBounds t (.bool true)) 4
      rw [boolsA_set] at S3
      replace S3 := Lib.hid S3
      replace S1 := Lib.hid S1
      clear hic S0 hb1 c0 S2
      go_wp2_with fail
      refine (hwi.out _).mono ?_
      rintro e w2 ⟨rfl, rfl⟩
      go_wp2_with fail
      rw [boolsA_set]
      obtain ⟨ab, hab⟩ : ∃ ab, w1.heap.size = ab := ⟨_, rfl⟩
      rw [hab] at S3 ⊢
      replace hab := Lib.hid hab
      clear c1 c2 b0 f0 S1 hmk hwi
      generalize w1.alloc (.cells (boolsA D.length fun j => if j = t then true else false) 4) = w3 at *
      go_loopw [8] (fun v8 wr => ∃ (c : Nat) (u : Int) (f : Nat → Bool), c ≤ t + 1 ∧ v8 = .int .i64 u ∧ Hid (u + 1 = (c : Int)) ∧ Hid (InvU D t c f) ∧ Hid (Sp w wr [Box ab 4 (boolsA D.length f), Own 3 1 (.slice (some ⟨w.heap.size + 1, 0, none⟩) 0 0) 0 [], Box w.heap.size 26 #[.slice A D.length cap]])) (fun v8 _ => (intOf v8 + 1).toNat)
      case atStart => exact ⟨t + 1, t, _, Nat.le_refl _, rfl, by unfold Hid; omega, hstart, S3⟩
      case round =>
        clear S3 hstart
        obtain ⟨c, u, f, hct, rfl, hu, hI, HS⟩ := hrel
        rcases Nat.eq_zero_or_pos c with rfl | hpos
        · have hu0 : u = -1 := by have := hu.out; omega
          subst hu0
          have hnd := Lib.hid (hV.out f hI.out)
          have S5 := Lib.hid (Sp.pick [1, 0, 0] HS.out rfl)
          have hz0 : Hid (nodL f 0 = []) := rfl
          have hns := Lib.hid (nodL_succ f)
          have hnl := Lib.hid (nodL_len f)
          have hnm := Lib.hid (fun x => nodL_mem (p := f) (m := x))
          clear HS hu hV hI
          rename World => wo
          go_wp2_with fail
          go_loopw [6, 10] (fun v6 v10 wr => ∃ (y : Nat) (B : Option Addr) (c : Nat) (ys : List Int), y ≤ t + 1 ∧ v10 = .int .i64 y ∧ v6 = .slice B ys.length c ∧ Hid (ys = nodL f y) ∧ Hid (Sp w wr [Own 3 1 (.slice B ys.length c) ys.length (ys.map (.int .i64)), Box ab 4 (boolsA D.length f), Box w.heap.size 26 #[.slice A D.length cap]])) (fun _ v10 _ => t + 1 - (intOf v10).toNat)
          case atStart => exact ⟨0, _, 0, [], by omega, rfl, rfl, hz0.out.symm, S5⟩
          case round =>
            clear S5 hz0
            obtain ⟨y, B, c, ys, hyt, rfl, rfl, hys, HS⟩ := hrel
            by_cases hlt : y ≤ t
            · have hyn : y < D.length := by omega
              have b0 := HS.out.cell (i := 1) rfl (o := y) (boolsA_get hyn)
              have hyl : ys.length ≤ 1000 := by rw [hys.out]; exact Nat.le_trans (hnl.out y) (by omega)
              have hst := hns.out y
              cases hq : f y
              · rw [hq] at hst b0
                have hn2 : Hid (ys = nodL f (y + 1)) := by unfold Hid; rw [hst, hys.out]; simp
                clear hst hq
                go_wp2_with fail
                go_roundw
                case rel => exact ⟨y + 1, B, c, ys, by omega, by go_num, rfl, hn2, HS⟩
                case measure => simp [intOf]; omega
              · rw [hq] at hst b0
                have hn2 : Hid (ys ++ [(y : Int)] = nodL f (y + 1)) := by unfold Hid; rw [hst, hys.out]; simp
                clear hst hq hys
                have S3 := HS.out.alloc_box #[.int .i64 (y : Int)] 3
                (try simp only [World.size_setCell] at S3)
                have kB := S3.cell (i := 0) rfl (o := 0) rfl
                replace S3 := Lib.hid S3
                clear HS
                go_wp2_with (at_builtin; refine wpList_append_src rfl _ _ rfl Tryz.underlying33 hi0 hy0 hy1 hy2 rfl (by decide) _ _ _ rfl (S3.out.own (i := 1) rfl) _ 1 1 [.int .i64 (y : Int)] rfl (Src.one kB) (by simp [Value.oneCell']) ?c3 ?c4 ?_)
                case c3 => unfold maxLen; omega
                case c4 => omega
                intro vY wY hownY hgY hatY
                have S4 := (S3.out.own_push (i := 1) rfl (bb _) hownY hgY (by simpa using hatY)).tail
                obtain ⟨aY, cY, rfl⟩ := own_slice hownY
                have S5 := Lib.hid (ownI_snoc (d := ys) (x := (y : Int)) S4)
                clear S3 S4 kB hownY hgY hatY
                have hlen : ys.length + 1 = (ys ++ [(y : Int)]).length := by simp
                rw [hlen]
                replace hlen := Lib.hid hlen
                clear hlen
                go_wp2_with fail
                go_roundw
                case rel => exact ⟨y + 1, aY, cY, ys ++ [(y : Int)], by omega, by go_num, by simp, hn2, S5⟩
                case measure => simp [intOf]; omega
            · obtain rfl : y = t + 1 := by omega
              have hI := HS.out.ints (i := 0) rfl (by rw [hys.out]; exact fun y hy => by have := hnm.out _ y hy; unfold I64; omega)
              have hB := HS.out.below
              have hy := hys.out
              rw [hnd.out] at hy
              subst hy
              have hfin := Lib.hid (And.intro hI hB)
              clear HS hys hI hB
              go_wp2_with fail
              go_ret2
              exact ⟨B, c, rfl, hfin.out⟩
        · obtain ⟨y, rfl⟩ : ∃ y, c = y + 1 := ⟨c - 1, by omega⟩
          obtain rfl : u = (y : Int) := by have := hu.out; omega
          have hyl : y < D.length := by omega
          obtain ⟨b, off, E, dc, hA, m00, hI00⟩ := hX.out.at_ y hyl
          subst hA
          have m0' := Lib.hid m00
          have hI0 := Lib.hid hI00
          have hsl := hs _ (List.getElem_mem hyl)
          have hpx := Lib.hid (rsg_mem (hpre.out y hyl))
          have hno := Lib.hid (fun h : f y = false => invU_no hI.out h)
          have hye := Lib.hid (fun h : f y = true => invU_yes hD.out hyl hI.out h)
          have hS4 : Hid (Sp w wr [Box ab 4 (boolsA D.length (addU f (D[y].take 0))), Own 3 1 (.slice (some ⟨w.heap.size + 1, 0, none⟩) 0 0) 0 [], Box w.heap.size 26 #[.slice (some ⟨b, off, none⟩) D.length cap]]) := by
            rw [boolsA_congr (g := f) fun j _ => addU_zero f _ j]; exact HS.out
          have hqy : Hid (∀ k, addU f (D[y].take k) y = f y) := fun k => by
            unfold addU
            have : (D[y].take k).contains (y : Int) = false := by
              rw [Bool.eq_false_iff]
              intro hc
              have := rsg_mem (hpre.out y hyl) _ (List.mem_of_mem_take (List.contains_iff_mem.1 hc))
              omega
            rw [this, Bool.or_false]
          have hst := Lib.hid (fun k (p : Nat) (hk : k < D[y].length) (hp : D[y][k] = (p : Int)) j => addU_succ (f := f) hk hp j)
          have hfull : Hid (addU f (D[y].take D[y].length) = addU f D[y]) := by unfold Hid; rw [List.take_length]
          generalize D[y] = l at *
          clear m00 hI00 HS hu hI
          rename World => wo
          go_wp2_with fail
          go_loopw [9] (fun v9 wr => ∃ k : Nat, k ≤ l.length ∧ v9 = .int .i64 k ∧ Hid (f y = false → k = 0) ∧ Hid (Sp w wr [Box ab 4 (boolsA D.length (addU f (l.take k))), Own 3 1 (.slice (some ⟨w.heap.size + 1, 0, none⟩) 0 0) 0 [], Box w.heap.size 26 #[.slice (some ⟨b, off, none⟩) D.length cap]])) (fun v9 _ => l.length - (intOf v9).toNat)
          case atStart => exact ⟨0, Nat.zero_le _, rfl, (fun _ => rfl), hS4⟩
          case round =>
            clear hS4
            obtain ⟨k, hk, rfl, hk0, HS⟩ := hrel
            have c0 := HS.out.cell (i := 2) rfl (o := 0) rfl
            have m0 := (HS.out.below.cell (World.block_lt_of_cell? _ _ m0'.out)).trans m0'.out
            have b0 := HS.out.cell (i := 0) rfl (o := y) (boolsA_get hyl)
            rw [hqy.out k] at b0
            by_cases hlt2 : k < l.length
            · cases hq : f y
              · rw [hq] at b0
                have h0 := hk0.out hq
                subst h0
                have hn := Lib.hid (hno.out hq)
                have S6 : Hid (Sp w wr [Box ab 4 (boolsA D.length f), Own 3 1 (.slice (some ⟨w.heap.size + 1, 0, none⟩) 0 0) 0 [], Box w.heap.size 26 #[.slice (some ⟨b, off, none⟩) D.length cap]]) := by
                  have := HS.out
                  rw [boolsA_congr (g := f) fun j _ => addU_zero f _ j] at this; exact this
                clear hno hye hk0 hq
                go_wp2_with fail
                clear c0 m0 b0 HS
                go_wp2_with fail
                go_roundw
                case rel => exact ⟨y, (y : Int) - 1, f, by omega, by go_num, by unfold Hid; omega, hn, S6⟩
                case measure => (simp [intOf] <;> omega)
              · rw [hq] at b0
                obtain ⟨b2, o2, hE, m22⟩ := hI0.out.at_ k hlt2
                subst hE
                have mc := (HS.out.below.cell (World.block_lt_of_cell? _ _ m22)).trans m22
                have hb := hpx.out _ (List.getElem_mem hlt2)
                have hsk := fun p hp => hst.out k p hlt2 hp
                have hq' := Lib.hid hq
                generalize l[k] = p at *
                obtain ⟨v, rfl⟩ := Int.eq_ofNat_of_zero_le hb.1
                have hvl : v < D.length := by omega
                have f0 := HS.out.frozen (i := 0) rfl v
                have e0 := HS.out.cell (i := 0) rfl (o := v) (boolsA_get hvl)
                have S6 := HS.out.store (i := 0) rfl v (.bool true)
                rw [boolsA_set] at S6
                simp only [List.set_cons_zero] at S6
                rw [boolsA_congr (g := addU f (l.take (k + 1))) fun j _ => (hsk v rfl j).symm] at S6
                replace S6 := Lib.hid S6
                clear m22 hb hsk hq HS
                go_wp2_with fail
                clear c0 m0 b0 mc f0 e0
                go_wp2_with fail
                go_roundw
                case rel => exact ⟨k + 1, by omega, by go_num, (fun h => by cases h), S6⟩
                case measure => simp [intOf]; omega
            · obtain rfl : k = l.length := by omega
              obtain ⟨f2, hn, S6⟩ : ∃ f2, Hid (InvU D t y f2) ∧ Hid (Sp w wr [Box ab 4 (boolsA D.length f2), Own 3 1 (.slice (some ⟨w.heap.size + 1, 0, none⟩) 0 0) 0 [], Box w.heap.size 26 #[.slice (some ⟨b, off, none⟩) D.length cap]]) := by
                cases hq : f y with
                | false =>
                  have h0 := hk0.out hq
                  refine ⟨f, hno.out hq, ?_⟩
                  have := HS.out
                  rw [h0] at this
                  rw [boolsA_congr (g := f) fun j _ => addU_zero f _ j] at this; exact this
                | true => exact ⟨_, hye.out hq, by rw [← hfull.out]; exact HS⟩
              clear hno hye hk0 HS
              clear b0
              have b0 := S6.out.cell (i := 0) rfl (o := y) (boolsA_get hyl)
              go_wp2_with fail
              clear c0 m0 b0
              go_wp2_with fail
              go_roundw
              case rel => exact ⟨y, (y : Int) - 1, f2, by omega, by go_num, by unfold Hid; omega, hn, S6⟩
              case measure => (simp [intOf] <;> omega)
end Go.Proofs.YtnfjgebfmnpkbaaGreat

/- Contract: the longest path of a graph, in the program. -/
namespace Go.Proofs.YtnfjgebfmnpkbaaGreat
open Go.RowKit

theorem lon_get {D : List (List Int)} {x j : Nat} (h : x ≤ j) : (lonL D x).getD j 0 = 0 := by
  rw [List.getD_eq_getElem?_getD, List.getElem?_eq_none (by rw [lonL_len]; exact h)]; rfl
set_option maxRecDepth 100000 in
set_option maxHeartbeats 4000000 in
theorem implLongest_any (A : Option Addr) (cap : Nat) (D : List (List Int)) (w : World) (hx : ClsAt w A D) (hl : D.length ≤ 1000) (hs : ∀ l ∈ D, l.length ≤ 1000) :
    Calls Tryz.prog 14 #[.agg #[.slice A D.length cap]] w (NOut (if dagB D then (lonR D : Int) else 0) (dagB D) w) := by
  have S0 := (Sp.start w).alloc_box #[.slice A D.length cap] 26
  have c0 := S0.cell (i := 0) rfl (o := 0) rfl
  have hX := Lib.hid hx
  have hic := implIsDag_any A cap D _ (hx.grow S0.below) hl hs
  cases h : dagB D with
  | false =>
    rw [h] at hic
    rw [if_neg (by simp)]
    replace hic := Lib.hid hic
    have hB := Lib.hid S0.below
    clear h hx S0
    go_enter Tryz.func14, Tryz.ntmps14
    go_wp2_with fail
    refine hic.out.mono ?_
    rintro e w1 ⟨rfl, hb1⟩
    have hB1 := Lib.hid (btr hB.out hb1)
    clear hic hB hb1 c0
    go_wp2_with fail
    go_ret2
    exact ⟨rfl, hB1.out⟩
  | true =>
    rw [h] at hic
    rw [if_pos rfl]
    replace hic := Lib.hid hic
    obtain ⟨h10, hpre⟩ := dag_parts h
    replace hpre := Lib.hid hpre
    clear h hx
    replace S0 := Lib.hid S0
    have hmk := fun W => mk_nums D.length (by omega) (D.length : Int) rfl W
    go_enter Tryz.func14, Tryz.ntmps14
    go_wp2_with fail
    refine hic.out.mono ?_
    rintro e w1 ⟨rfl, hb1⟩
    have S1 := (S0.out.grow hb1).alloc_box (numsA D.length fun _ => 0) 3
    have c1 := (S0.out.grow hb1).cell (i := 0) rfl (o := 0) rfl
    have c2 := S1.cell (i := 1) rfl (o := 0) rfl
    obtain ⟨lb, hlb⟩ : ∃ lb, w1.heap.size = lb := ⟨_, rfl⟩
    rw [hlb] at S1
    have S2 : Hid (Sp w (w1.alloc (.cells (numsA D.length fun _ => 0) 3)) [Box lb 3 (numsA D.length fun j => (lonL D 0).getD j 0), Box w.heap.size 26 #[.slice A D.length cap]]) := S1
    replace hlb := Lib.hid hlb
    clear S0 S1 hic hb1 c0
    go_wp2_with fail
    rw [hlb.out]
    clear c1 c2 hmk
    generalize w1.alloc (.cells (numsA D.length fun _ => 0) 3) = w2 at *
    go_loopw [19] (fun v19 wr => ∃ x : Nat, x ≤ D.length ∧ v19 = .int .i64 x ∧ Hid (Sp w wr [Box lb 3 (numsA D.length fun j => (lonL D x).getD j 0), Box w.heap.size 26 #[.slice A D.length cap]])) (fun v19 _ => D.length - (intOf v19).toNat)
    case atStart => exact ⟨0, Nat.zero_le _, rfl, S2⟩
    case round =>
      clear S2
      obtain ⟨x, hxl, rfl, HS⟩ := hrel
      by_cases hlt : x < D.length
      · obtain ⟨b, off, E, dc, hA, m00, hI00⟩ := hX.out.at_ x hlt
        subst hA
        have m0 := (HS.out.below.cell (World.block_lt_of_cell? _ _ m00)).trans m00
        have hI0 := Lib.hid hI00
        have hsl := hs _ (List.getElem_mem hlt)
        have hpx := Lib.hid (rsg_mem (hpre.out x hlt))
        have hst := Lib.hid (lonL_succ hlt)
        have hle := Lib.hid (lonL_le D x)
        have hln := Lib.hid (lonL_len D x)
        have hzx : Hid (∀ j, x ≤ j → (lonL D x).getD j 0 = 0) := fun j hj => lon_get hj
        generalize D[x] = l at *
        generalize lonL D x = ls at *
        have S3 : Hid (Sp w wr [Box lb 3 (numsA D.length fun j => if j = x then mxL ls (l.take 0) else ls.getD j 0), Box w.heap.size 26 #[.slice (some ⟨b, off, none⟩) D.length cap]]) := by
          rw [numsA_congr (g := fun j => ls.getD j 0) fun j _ => by
            by_cases e : j = x
            · rw [if_pos e, hzx.out j (by omega)]; rfl
            · rw [if_neg e]]
          exact HS.out
        clear m00 hI00 HS
        have hmx := Lib.hid (mxL_le hle.out)
        rename World => wo
        go_wp2_with fail
        clear m0
        go_loopw [26] (fun v26 wr => ∃ k : Nat, k ≤ l.length ∧ v26 = .int .i64 k ∧ Hid (Sp w wr [Box lb 3 (numsA D.length fun j => if j = x then mxL ls (l.take k) else ls.getD j 0), Box w.heap.size 26 #[.slice (some ⟨b, off, none⟩) D.length cap]])) (fun v26 _ => l.length - (intOf v26).toNat)
        case atStart => exact ⟨0, Nat.zero_le _, rfl, S3⟩
        case round =>
          clear S3
          obtain ⟨k, hk, rfl, HS⟩ := hrel
          by_cases hlt2 : k < l.length
          · obtain ⟨b2, o2, hE, m22⟩ := hI0.out.at_ k hlt2
            subst hE
            have m2 := (HS.out.below.cell (World.block_lt_of_cell? _ _ m22)).trans m22
            have hb := hpx.out _ (List.getElem_mem hlt2)
            have hmt := Lib.hid (mxL_take (ls := ls) hlt2)
            generalize l[k] = p at *
            obtain ⟨t, rfl⟩ := Int.eq_ofNat_of_zero_le hb.1
            have htx : t < x := by omega
            have htn : t < D.length := by omega
            have a0 := HS.out.cell (i := 0) rfl (o := x) (numsA_get hlt)
            have a1 := HS.out.cell (i := 0) rfl (o := t) (numsA_get (by omega))
            have f0 := HS.out.frozen (i := 0) rfl x
            simp only [if_true] at a0
            simp only [show ¬ t = x by omega, if_false] at a1
            have hv10 : ls.getD t 0 ≤ x := by
              rw [List.getD_eq_getElem?_getD]
              cases hg : ls[t]? with
              | none => exact Nat.zero_le _
              | some y => exact hle.out _ (List.mem_of_getElem? hg)
            have hu10 := hmx.out (l.take k)
            have S4 := HS.out.store (i := 0) rfl x (.int .i64 ((max (mxL ls (l.take k)) (ls.getD t 0) : Nat) : Int))
            rw [numsA_set] at S4
            simp only [List.set_cons_zero] at S4
            rw [numsA_congr (g := fun j => if j = x then mxL ls (l.take (k + 1)) else ls.getD j 0) fun j _ => by
              by_cases e : j = x
              · simp only [if_pos e, hmt.out, Int.toNat_natCast]
              · simp only [if_neg e]] at S4
            replace S4 := Lib.hid S4
            generalize mxL ls (l.take k) = u at *
            generalize ls.getD t 0 = v at *
            have hmax : max (u : Int) (v : Int) = ((max u v : Nat) : Int) := by omega
            generalize max u v = q2 at *
            clear m22 hmt hb
            go_wp2_with fail
            refine wp_region_tail_lit (S := (fun w' => w'.cell? ⟨lb, x, none⟩ = some (.int .i64 u) ∧ w'.cell? ⟨lb, t, none⟩ = some (.int .i64 v))) 11 [false, false, false, false, false, false, false, false, false, false, false, false, false] (by kernel_rfl) (by kernel_rfl) (by kernel_rfl) ?_ ?_
            · exact ⟨a0, a1⟩
            intro hSc
            (refine walkT_take (i := 0) (v := ?_) rfl (by kernel_rfl) (by decide) (by kernel_rfl) (by kernel_rfl) (fun _ _ _ h => h) (Or.inl ⟨by rfl, ?_⟩) (by assumption) ?_; rotate_left; (focus (intro w hSw; (try dsimp only at hSw); go_simp; (try with_reducible rfl); done)); (try simp only [put_rules]))
            (refine walkT_take (i := 1) (v := ?_) rfl (by kernel_rfl) (by decide) (by kernel_rfl) (by kernel_rfl) (fun _ _ _ h => h) (Or.inl ⟨by rfl, ?_⟩) (by assumption) ?_; rotate_left; (focus (intro w hSw; (try dsimp only at hSw); go_simp; (try with_reducible rfl); done)); (try simp only [put_rules]))
            (refine walkT_take (i := 2) (v := ?_) rfl (by kernel_rfl) (by decide) (by kernel_rfl) (by kernel_rfl) (fun _ _ _ h => h) (Or.inl ⟨by rfl, ?_⟩) (by assumption) ?_; rotate_left; (focus (intro w hSw; (try dsimp only at hSw); go_simp; (try with_reducible rfl); done)); (try simp only [put_rules]))
            (refine walkT_take (i := 3) (v := ?_) rfl (by kernel_rfl) (by decide) (by kernel_rfl) (by kernel_rfl) (fun _ _ _ h => h) (Or.inl ⟨by rfl, ?_⟩) (by assumption) ?_; rotate_left; (focus (intro w hSw; (try dsimp only at hSw); go_simp; (try with_reducible rfl); done)); (try simp only [put_rules]))
            (refine walkT_take (i := 4) (v := ?_) rfl (by kernel_rfl) (by decide) (by kernel_rfl) (by kernel_rfl) (fun _ _ _ h => h) (Or.inl ⟨by rfl, ?_⟩) (by assumption) ?_; rotate_left; (focus (intro w hSw; (try dsimp only at hSw); go_simp; (try with_reducible rfl); done)); (try simp only [put_rules]))
            (refine walkT_take (i := 5) (v := ?_) rfl (by kernel_rfl) (by decide) (by kernel_rfl) (by kernel_rfl) (fun _ _ _ h => h) (Or.inl ⟨by rfl, ?_⟩) (by assumption) ?_; rotate_left; (focus (intro w hSw; (try dsimp only at hSw); go_simp; (try with_reducible rfl); done)); (try simp only [put_rules]))
            (refine walkT_take (i := 6) (v := ?_) rfl (by kernel_rfl) (by decide) (by kernel_rfl) (by kernel_rfl) (fun _ _ _ h => h) (Or.inl ⟨by rfl, ?_⟩) (by assumption) ?_; rotate_left; (focus (intro w hSw; (try dsimp only at hSw); go_simp; (try with_reducible rfl); done)); (try simp only [put_rules]))
            (refine walkT_take (i := 7) (v := ?_) rfl (by kernel_rfl) (by decide) (by kernel_rfl) (by kernel_rfl) (fun _ _ _ h => h) (Or.inl ⟨by rfl, ?_⟩) (by assumption) ?_; rotate_left; (focus (intro w hSw; (try dsimp only at hSw); go_simp; (try with_reducible rfl); done)); (try simp only [put_rules]))
            (refine walkT_take (i := 8) (v := ?_) rfl (by kernel_rfl) (by decide) (by kernel_rfl) (by kernel_rfl) (fun _ _ _ h => h) (Or.inl ⟨by rfl, ?_⟩) (by assumption) ?_; rotate_left; (focus (intro w hSw; (try dsimp only at hSw); go_simp; (try with_reducible rfl); done)); (try simp only [put_rules]))
            (refine walkT_take (i := 9) (v := ?_) rfl (by kernel_rfl) (by decide) (by kernel_rfl) (by kernel_rfl) (fun _ _ _ h => h) (Or.inl ⟨by rfl, ?_⟩) (by assumption) ?_; rotate_left; (focus (intro w hSw; (try dsimp only at hSw); go_simp; (try with_reducible rfl); done)); (try simp only [put_rules]))
            (refine walkT_take (i := 10) (v := ?_) rfl (by kernel_rfl) (by decide) (by kernel_rfl) (by kernel_rfl) (fun _ _ _ h => h) (Or.inl ⟨by rfl, ?_⟩) (by assumption) ?_; rotate_left; (focus (intro w hSw; (try dsimp only at hSw); go_simp; (try with_reducible rfl); done)); (try simp only [put_rules]))
            (refine walkT_done (by kernel_rfl) ?_)
            simp only [List.drop_succ_cons, List.drop_zero]
            go_wp2_with fail
            clear a0 a1 f0 m2 hmax HS
            go_wp2_with fail
            go_roundw
            case rel => exact ⟨k + 1, by omega, by go_num, S4.out.drew⟩
            case measure => simp [intOf]; omega
          · obtain rfl : k = l.length := by omega
            have a0 := HS.out.cell (i := 0) rfl (o := x) (numsA_get hlt)
            have f0 := HS.out.frozen (i := 0) rfl x
            simp only [if_true] at a0
            rw [List.take_length] at a0
            have hu10 := hmx.out l
            have S4 := HS.out.store (i := 0) rfl x (.int .i64 ((mxL ls l + 1 : Nat) : Int))
            rw [numsA_set] at S4
            simp only [List.set_cons_zero] at S4
            rw [numsA_congr (g := fun j => (lonL D (x + 1)).getD j 0) fun j _ => by
              rw [hst.out]
              by_cases e : j = x
              · rw [if_pos e, List.getD_eq_getElem?_getD, e, List.getElem?_append_right (by rw [hln.out]; exact Nat.le_refl _), hln.out]; simp
              · rw [if_neg e, if_neg e, List.getD_eq_getElem?_getD, List.getD_eq_getElem?_getD]
                by_cases e2 : j < x
                · rw [List.getElem?_append_left (by rw [hln.out]; exact e2)]
                · rw [List.getElem?_eq_none (by rw [hln.out]; omega), List.getElem?_eq_none (by rw [List.length_append, hln.out, List.length_singleton]; omega)]] at S4
            replace S4 := Lib.hid S4
            rw [show ((mxL ls l + 1 : Nat) : Int) = (mxL ls l : Int) + 1 from rfl] at S4
            generalize mxL ls l = u at *
            clear HS
            go_wp2_with fail
            go_roundw
            case rel => exact ⟨x + 1, by omega, by go_num, S4⟩
            case measure => simp [intOf]; omega
      · obtain rfl : x = D.length := by omega
        have hln := lonL_len D D.length
        have hml := Lib.hid (maxOf_lon (lonL D D.length) (by omega))
        have hcall := Lib.hid (Tryz.slices_Max_int lb 0 D.length D.length ((lonL D D.length).map fun (x : Nat) => (x : Int)) wr (by omega) (by rw [List.length_map, hln]; exact Nat.le_refl _) (by omega) (fun j hj => by
          rw [List.length_map, hln] at hj
          rw [Nat.zero_add, HS.out.cell (i := 0) rfl (o := j) (numsA_get hj), List.getD_eq_getElem?_getD, List.getD_eq_getElem?_getD, List.getElem?_map, List.getElem?_eq_getElem (by omega)]
          rfl))
        have hB := Lib.hid HS.out.below
        have hR : Hid (Lib.maxOf (((lonL D D.length).map fun (x : Nat) => (x : Int)).take D.length) = (lonR D : Int)) := by
          unfold Hid
          rw [List.take_of_length_le (by rw [List.length_map, hln]; exact Nat.le_refl _)]
          exact hml.out
        clear HS hml hln
        go_wp2_with fail
        refine hcall.out.mono ?_
        rintro e w3 ⟨rfl, rfl⟩
        rw [hR.out]
        clear hcall hR
        go_wp2_with fail
        go_ret2
        exact ⟨rfl, hB.out⟩
end Go.Proofs.YtnfjgebfmnpkbaaGreat

/- Contracts: the sinks of a graph, on both sides. -/
namespace Go.Proofs.YtnfjgebfmnpkbaaGreat
open Go.RowKit

def snkP (D : List (List Int)) (x : Nat) : Bool := !(D.any fun l => hasI l x)
def snkT (D : List (List Int)) (x m : Nat) : Bool := !((List.range m).any fun y => decide (x < y) && hasI (D.getD y []) x)
theorem snkT_start (D : List (List Int)) (x : Nat) : snkT D x (x + 1) = true := by
  unfold snkT
  rw [Bool.not_eq_true', List.any_eq_false]
  intro y hy
  have := List.mem_range.1 hy
  rw [decide_eq_false (by omega)]; simp
theorem snkT_succ {D : List (List Int)} {x y : Nat} (hy : y < D.length) (hx : x < y) : snkT D x (y + 1) = (snkT D x y && !hasI D[y] x) := by
  unfold snkT
  rw [List.range_succ, List.any_append, List.any_cons, List.any_nil, Bool.or_false, decide_eq_true hx, Bool.true_and, getD_row hy, Bool.not_or]
theorem snk_same {D : List (List Int)} (h : dagB D = true) {x : Nat} : snkT D x D.length = snkP D x := by
  obtain ⟨-, h2⟩ := dag_parts h
  unfold snkT snkP
  congr 1
  rw [Bool.eq_iff_iff, List.any_eq_true, List.any_eq_true]
  constructor
  · rintro ⟨y, hy, hq⟩
    have hy := List.mem_range.1 hy
    rw [Bool.and_eq_true, getD_row hy] at hq
    exact ⟨_, List.getElem_mem hy, hq.2⟩
  · rintro ⟨l, hl, hq⟩
    obtain ⟨y, hy, rfl⟩ := List.getElem_of_mem hl
    refine ⟨y, List.mem_range.2 hy, ?_⟩
    have hm := rsg_mem (h2 y hy) x (by unfold hasI at hq; simpa using hq)
    rw [getD_row hy, hq, decide_eq_true (by omega)]; rfl
/-- The sinks. -/
def snkV (D : List (List Int)) : List Int := if dagB D then nodL (snkP D) D.length else []

set_option maxRecDepth 100000 in
theorem sinks1_any (x : Int) (xs : List Int) (A : Option Addr) (c g : Nat) (w : World) (hx : IntsAt w A xs) (hl : xs.length ≤ 1000) (k0 : w.cell? ⟨g, 0, none⟩ = some (.int .i64 x)) :
    Calls Tryz.prog 30 #[.slice A xs.length c, .pointer (some ⟨g, 0, none⟩)] w fun e w' => e = .returned (.bool (hasI xs x)) ∧ Below w.heap.size w w' := by
  have hc := Lib.hid (containsIA_any xs A c x w hx (by omega))
  clear hx
  go_enter Tryz.func30, Tryz.ntmps30
  go_wp2_with fail
  refine hc.out.mono ?_
  rintro e w1 ⟨rfl, rfl⟩
  go_wp2_with fail
  go_ret
  exact ⟨rfl, bb _⟩

set_option maxRecDepth 100000 in
set_option maxHeartbeats 4000000 in
theorem implSinks_any (A : Option Addr) (cap : Nat) (D : List (List Int)) (w : World) (hx : ClsAt w A D) (hl : D.length ≤ 1000) (hs : ∀ l ∈ D, l.length ≤ 1000) :
    Calls Tryz.prog 12 #[.agg #[.slice A D.length cap]] w (ROut (snkV D) (dagB D) w) := by
  obtain ⟨i0, hi0, hy0, hy1, hy2⟩ := info_parts infoInt
  have S0 := (Sp.start w).alloc_box #[.slice A D.length cap] 26
  have c0 := S0.cell (i := 0) rfl (o := 0) rfl
  have hX := Lib.hid hx
  have hic := implIsDag_any A cap D _ (hx.grow S0.below) hl hs
  unfold snkV
  cases h : dagB D with
  | false =>
    rw [h] at hic
    rw [if_neg (by simp)]
    replace hic := Lib.hid hic
    have hB := Lib.hid S0.below
    clear h hx S0
    go_enter Tryz.func12, Tryz.ntmps12
    go_wp2_with fail
    refine hic.out.mono ?_
    rintro e w1 ⟨rfl, hb1⟩
    have hB1 := Lib.hid (btr hB.out hb1)
    clear hic hB hb1 c0
    go_wp2_with fail
    go_ret2
    exact ⟨none, 0, rfl, ints_no _ _, hB1.out⟩
  | true =>
    rw [h] at hic
    rw [if_pos rfl]
    replace hic := Lib.hid hic
    have h10 := (dag_parts h).1
    clear h hx
    replace S0 := Lib.hid S0
    go_enter Tryz.func12, Tryz.ntmps12
    go_wp2_with fail
    refine hic.out.mono ?_
    rintro e w1 ⟨rfl, hb1⟩
    have S1 := Lib.hid (((S0.out.grow hb1).own_nil 3 1))
    have c1 := S1.out.cell (i := 1) rfl (o := 0) rfl
    clear S0 hic hb1 c0
    go_wp2_with fail
    clear c1
    go_loopw [4, 12] (fun v4 v12 wr => ∃ (x : Nat) (B : Option Addr) (c : Nat) (ys : List Int), x ≤ D.length ∧ v12 = .int .i64 x ∧ v4 = .slice B ys.length c ∧ Hid (ys = nodL (snkP D) x) ∧ Hid (Sp w wr [Own 3 1 (.slice B ys.length c) ys.length (ys.map (.int .i64)), Box w.heap.size 26 #[.slice A D.length cap]])) (fun _ v12 _ => D.length - (intOf v12).toNat)
    case atStart => exact ⟨0, none, 0, [], Nat.zero_le _, rfl, rfl, rfl, S1⟩
    case round =>
      clear S1
      obtain ⟨x, B, c, ys, hxl, rfl, rfl, hys, HS⟩ := hrel
      by_cases hlt : x < D.length
      · have hst := nodL_succ (snkP D) x
        have hyl : ys.length ≤ 1000 := by rw [hys.out]; exact Nat.le_trans (nodL_len _ _) (by omega)
        have S2 := Lib.hid (HS.out.alloc_box #[.int .i64 x] 3)
        have eg : Enter1 30 := enters_of Tryz.func30 (by kernel_rfl) rfl
        have hcall := Lib.hid (containsS_any (p := fun l => hasI l x) (R := fun l => l.length ≤ 1000) (cb := #[.pointer (some ⟨wr.heap.size, 0, none⟩)]) eg D A cap _ (hX.out.grow S2.out.below) (by omega) hs (fun xs A' c' W hxs hR hb => sinks1_any x xs A' c' wr.heap.size W hxs hR ((hb.cell (World.block_lt_of_cell? _ _ (S2.out.cell (i := 0) rfl (o := 0) rfl))).trans (S2.out.cell (i := 0) rfl (o := 0) rfl))))
        have c1 := S2.out.cell (i := 2) rfl (o := 0) rfl
        have hq : snkP D x = !(D.any fun l => hasI l x) := rfl
        rw [hq] at hst
        clear hq HS eg
        generalize (D.any fun l => hasI l (x : Int)) = q at *
        replace hst := Lib.hid hst
        go_wp2_with fail
        refine hcall.out.mono ?_
        rintro e w3 ⟨rfl, hb3⟩
        have S3 := S2.out.grow hb3
        have k3 := S3.cell (i := 0) rfl (o := 0) rfl
        have S4 := Lib.hid S3.tail
        clear hcall S2 c1 hb3 S3
        cases q
        · have hn2 : Hid (ys ++ [(x : Int)] = nodL (snkP D) (x + 1)) := by unfold Hid; rw [hst.out, hys.out]; rfl
          clear hys hst
          have S3 := S4.out.alloc_box #[.int .i64 (x : Int)] 3
          (try simp only [World.size_setCell] at S3)
          have kB := S3.cell (i := 0) rfl (o := 0) rfl
          replace S3 := Lib.hid S3
          clear S4
          go_wp2_with (at_builtin; refine wpList_append_src rfl _ _ rfl Tryz.underlying33 hi0 hy0 hy1 hy2 rfl (by decide) _ _ _ rfl (S3.out.own (i := 1) rfl) _ 1 1 [.int .i64 (x : Int)] rfl (Src.one kB) (by simp [Value.oneCell']) ?c3 ?c4 ?_)
          case c3 => unfold maxLen; omega
          case c4 => omega
          intro vY wY hownY hgY hatY
          have S4 := (S3.out.own_push (i := 1) rfl (bb _) hownY hgY (by simpa using hatY)).tail
          obtain ⟨aY, cY, rfl⟩ := own_slice hownY
          have S5 := Lib.hid (ownI_snoc (d := ys) (x := (x : Int)) S4)
          clear S3 S4 kB hownY hgY hatY
          have hlen : ys.length + 1 = (ys ++ [(x : Int)]).length := by simp
          rw [hlen]
          replace hlen := Lib.hid hlen
          clear hlen
          go_wp2_with fail
          go_roundw
          case rel => exact ⟨x + 1, aY, cY, ys ++ [(x : Int)], by omega, by go_num, by simp, hn2, S5⟩
          case measure => simp [intOf]; omega
        · have hn2 : Hid (ys = nodL (snkP D) (x + 1)) := by unfold Hid; rw [hst.out, hys.out]; simp
          clear hst
          go_wp2_with fail
          go_roundw
          case rel => exact ⟨x + 1, B, c, ys, by omega, by go_num, rfl, hn2, S4⟩
          case measure => simp [intOf]; omega
      · obtain rfl : x = D.length := by omega
        have hI := Lib.hid (HS.out.ints (i := 0) rfl (by rw [hys.out]; exact fun y hy => by have := nodL_mem y hy; unfold I64; omega))
        have hB := Lib.hid HS.out.below
        have hy := hys.out
        subst hy
        clear HS hys
        go_wp2_with fail
        go_ret2
        exact ⟨B, c, rfl, hI.out, hB.out⟩

set_option maxRecDepth 100000 in
set_option maxHeartbeats 4000000 in
theorem specSinks_any (A : Option Addr) (cap : Nat) (D : List (List Int)) (w : World) (hx : ClsAt w A D) (hl : D.length ≤ 1000) (hs : ∀ l ∈ D, l.length ≤ 1000) :
    Calls Tryz.prog 13 #[.agg #[.slice A D.length cap]] w (ROut (snkV D) (dagB D) w) := by
  obtain ⟨i0, hi0, hy0, hy1, hy2⟩ := info_parts infoInt
  have S0 := ((Sp.start w).alloc_box #[.slice A D.length cap] 26).own_made 3 1
  simp only [World.size_alloc] at S0
  have c0 := S0.cell (i := 1) rfl (o := 0) rfl
  have hX := Lib.hid hx
  have hic := l14Good_any A cap D _ (hx.grow S0.below) hl hs
  unfold snkV
  cases h : dagB D with
  | false =>
    rw [h] at hic
    rw [if_neg (by simp)]
    replace hic := Lib.hid hic
    have hB := Lib.hid S0.below
    clear h hx S0
    go_enter Tryz.func13, Tryz.ntmps13
    go_wp2_with fail
    refine hic.out.mono ?_
    rintro e w1 ⟨rfl, hb1⟩
    have hB1 := Lib.hid (btr hB.out hb1)
    clear hic hB hb1 c0
    go_wp2_with fail
    go_ret2
    exact ⟨_, 0, rfl, ints_no _ _, hB1.out⟩
  | true =>
    rw [h] at hic
    rw [if_pos rfl]
    replace hic := Lib.hid hic
    have h10 := (dag_parts h).1
    have hsm := Lib.hid (fun x => snk_same h (x := x))
    clear h hx
    replace S0 := Lib.hid S0
    go_enter Tryz.func13, Tryz.ntmps13
    go_wp2_with fail
    refine hic.out.mono ?_
    rintro e w1 ⟨rfl, hb1⟩
    have S1 := Lib.hid (S0.out.grow hb1)
    clear S0 hic hb1 c0
    go_wp2_with fail
    go_loopw [4, 5] (fun v4 v13 wr => ∃ (x : Nat) (B : Option Addr) (c : Nat) (ys : List Int), x ≤ D.length ∧ v13 = .int .i64 x ∧ v4 = .slice B ys.length c ∧ Hid (ys = nodL (snkP D) x) ∧ Hid (Sp w wr [Own 3 1 (.slice B ys.length c) ys.length (ys.map (.int .i64)), Box w.heap.size 26 #[.slice A D.length cap]])) (fun _ v13 _ => D.length - (intOf v13).toNat)
    case atStart => exact ⟨0, _, 0, [], Nat.zero_le _, rfl, rfl, rfl, S1⟩
    case round =>
      clear S1
      obtain ⟨x, B, c, ys, hxl, rfl, rfl, hys, HS⟩ := hrel
      have c0 := HS.out.cell (i := 1) rfl (o := 0) rfl
      by_cases hlt : x < D.length
      · have hst := nodL_succ (snkP D) x
        rw [← hsm.out x] at hst
        replace hst := Lib.hid hst
        have hyl : ys.length ≤ 1000 := by rw [hys.out]; exact Nat.le_trans (nodL_len _ _) (by omega)
        have hT0 := Lib.hid (snkT_start D x)
        rename World => wo
        go_wp2_with fail
        clear c0
        go_loopw [6, 7] (fun v6 v7 wr => ∃ y : Nat, (x + 1 ≤ y ∧ y ≤ D.length) ∧ v7 = .int .i64 y ∧ v6 = .bool (snkT D x y) ∧ Hid (Sp w wr [Own 3 1 (.slice B ys.length c) ys.length (ys.map (.int .i64)), Box w.heap.size 26 #[.slice A D.length cap]])) (fun _ v7 _ => D.length - (intOf v7).toNat)
        case atStart => exact ⟨x + 1, ⟨Nat.le_refl _, by omega⟩, by go_num, by rw [hT0.out], HS⟩
        case round =>
          clear HS hT0
          obtain ⟨y, ⟨hya, hyb⟩, rfl, rfl, HS⟩ := hrel
          have c0 := HS.out.cell (i := 1) rfl (o := 0) rfl
          by_cases hlt2 : y < D.length
          · obtain ⟨b, off, E, dc, hA, m0, hI⟩ := (hX.out.grow HS.out.below).at_ y hlt2
            subst hA
            have hsl := hs _ (List.getElem_mem hlt2)
            have hsc := snkT_succ (D := D) (x := x) hlt2 (by omega)
            have hca := Lib.hid (l1HasI_any D[y] E dc x wr hI (by omega))
            generalize D[y] = l at *
            cases hq : snkT D x y
            · rw [hq, Bool.false_and] at hsc
              have hsc' : Hid (false = snkT D x (y + 1)) := hsc.symm
              clear hca hsc hI
              go_wp2_with fail
              go_roundw
              case rel => exact ⟨y + 1, ⟨by omega, by omega⟩, by go_num, by rw [← hsc'.out], HS⟩
              case measure => simp [intOf]; omega
            · rw [hq, Bool.true_and] at hsc
              generalize hasI l (x : Int) = p at *
              have hsc' : Hid ((!p) = snkT D x (y + 1)) := hsc.symm
              clear hsc hI
              replace hq := Lib.hid hq
              go_wp2_with fail
              refine hca.out.mono ?_
              rintro e w3 ⟨rfl, rfl⟩
              go_wp2_with fail
              go_roundw
              case rel => exact ⟨y + 1, ⟨by omega, by omega⟩, by go_num, by rw [← hsc'.out], HS⟩
              case measure => simp [intOf]; omega
          · obtain rfl : y = D.length := by omega
            generalize snkT D x D.length = q at *
            cases q
            · have hn2 : Hid (ys = nodL (snkP D) (x + 1)) := by unfold Hid; rw [hst.out, hys.out]; simp
              clear hst
              go_wp2_with fail
              go_roundw
              case rel => exact ⟨x + 1, B, c, ys, by omega, by go_num, rfl, hn2, HS⟩
              case measure => simp [intOf]; omega
            · have hn2 : Hid (ys ++ [(x : Int)] = nodL (snkP D) (x + 1)) := by unfold Hid; rw [hst.out, hys.out]; rfl
              clear hys hst
              have S3 := HS.out.alloc_box #[.int .i64 (x : Int)] 3
              (try simp only [World.size_setCell] at S3)
              have kB := S3.cell (i := 0) rfl (o := 0) rfl
              replace S3 := Lib.hid S3
              clear HS
              go_wp2_with (at_builtin; refine wpList_append_src rfl _ _ rfl Tryz.underlying33 hi0 hy0 hy1 hy2 rfl (by decide) _ _ _ rfl (S3.out.own (i := 1) rfl) _ 1 1 [.int .i64 (x : Int)] rfl (Src.one kB) (by simp [Value.oneCell']) ?c3 ?c4 ?_)
              case c3 => unfold maxLen; omega
              case c4 => omega
              intro vY wY hownY hgY hatY
              have S4 := (S3.out.own_push (i := 1) rfl (bb _) hownY hgY (by simpa using hatY)).tail
              obtain ⟨aY, cY, rfl⟩ := own_slice hownY
              have S5 := Lib.hid (ownI_snoc (d := ys) (x := (x : Int)) S4)
              clear S3 S4 kB hownY hgY hatY
              have hlen : ys.length + 1 = (ys ++ [(x : Int)]).length := by simp
              rw [hlen]
              replace hlen := Lib.hid hlen
              clear hlen
              go_wp2_with fail
              go_roundw
              case rel => exact ⟨x + 1, aY, cY, ys ++ [(x : Int)], by omega, by go_num, by simp, hn2, S5⟩
              case measure => simp [intOf]; omega
      · obtain rfl : x = D.length := by omega
        have hI := Lib.hid (HS.out.ints (i := 0) rfl (by rw [hys.out]; exact fun y hy => by have := nodL_mem y hy; unfold I64; omega))
        have hB := Lib.hid HS.out.below
        have hy := hys.out
        subst hy
        clear HS hys
        go_wp2_with fail
        go_ret2
        exact ⟨B, c, rfl, hI.out, hB.out⟩
end Go.Proofs.YtnfjgebfmnpkbaaGreat
