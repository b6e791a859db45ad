/- Lemmas and contracts for a law, put together out of several texts: PoolB PlB NumT TxA TxB TxC TxD TxE TxF CyA CyB CyC CyD CuB CuE CuF PgA PgB PgC. -/
import Derived.Test.YtnfjgebfmnpkbaaGreatMg1
import Derived.Test.YtnfjgebfmnpkbaaGreatMg3
import Derived.Test.YtnfjgebfmnpkbaaGreatMg2
import Derived.Lib.QuietBelow
import Derived.BigQuiet
import Derived.Test.YtnfjgebfmnpkbaaGreatMg5
import Derived.Test.YtnfjgebfmnpkbaaGreatMg7
import Derived.Test.YtnfjgebfmnpkbaaGreatMg6
import Derived.Test.YtnfjgebfmnpkbaaGreatMg4
/- Memory facts: rows of numbers that are only read, and own rows that point to them. (The front of NxD, for seats without its functions: never with NxD.) -/
namespace Go.Proofs.YtnfjgebfmnpkbaaGreat
open Go.RowKit

/-- Rows of numbers that are only read, with all that they reach. -/
def Pool (K : List (Value × List Int)) : Asn where
  p w F := (∀ b ∈ F, b < w.heap.size) ∧ ∀ q ∈ K, ∃ G, Ty.int.row false w q.1 q.2 G ∧ ∀ b ∈ G, b ∈ F
  lt h := h.1
  keep := by
    rintro w w' F ⟨h1, h2⟩ hk
    refine ⟨fun b hb => ?_, fun q hq => ?_⟩
    · have := hk b hb
      rw [Array.getElem?_eq_getElem (h1 b hb)] at this
      exact (Array.getElem?_eq_some_iff.1 this).1
    · obtain ⟨G, h3, h4⟩ := h2 q hq
      exact ⟨G, Ty.row_keep h3 fun b hb => hk b (h4 b hb), h4⟩
/-- An own row of numbers. -/
abbrev Ints (v : Value) (ys : List Int) : Asn := Own 3 1 v ys.length (ys.map (.int .i64))
/-- An own row of clauses, told with the values of its elements. -/
abbrev Cls (v : Value) (ks : List (Value × List Int)) : Asn := Own 33 1 v ks.length (ks.map Prod.fst)

theorem sep_frontN : ∀ {qs ps : List Asn} {w : World} {F : List Nat}, sep (qs ++ ps) w F → ∃ F1, sep qs w F1 ∧ ∀ b ∈ F1, b ∈ F
  | [], ps, w, F, _ => ⟨[], rfl, by simp⟩
  | q :: qs, ps, w, F, h => by
    obtain ⟨F1, F2, rfl, h1, h2, h3⟩ := h
    obtain ⟨F3, h4, h5⟩ := sep_frontN h3
    refine ⟨F1 ++ F3, ⟨F1, F3, rfl, fun b hb hb2 => h1 b hb (h5 b hb2), h2, h4⟩, fun b hb => ?_⟩
    rcases List.mem_append.1 hb with h | h
    · exact List.mem_append.2 (.inl h)
    · exact List.mem_append.2 (.inr (h5 b h))
/-- The parts behind are let go. -/
theorem Sp.frontN {w0 w : World} {ps qs : List Asn} (h : Sp w0 w (qs ++ ps)) : Sp w0 w qs := by
  obtain ⟨h1, G, h2, h3⟩ := h
  obtain ⟨F, h4, h5⟩ := sep_frontN h2
  exact ⟨h1, F, h4, fun b hb => h3 b (h5 b hb)⟩

section
variable {w0 w w' : World} {ps : List Asn} {i j : Nat} {q : Asn} {K ks : List (Value × List Int)} {v : Value}
theorem Sp.pool_nil (h : Sp w0 w ps) : Sp w0 w (Pool [] :: ps) := h.new (F := []) (bb _) ⟨by simp, by simp⟩ (by simp)
theorem Sp.pool_at (h : Sp w0 w ps) (hi : ps[i]? = some (Pool K)) {r : Value × List Int} (hr : r ∈ K) : ∃ G, Ty.int.row false w r.1 r.2 G := by
  obtain ⟨F, hp, _⟩ := h.get hi
  obtain ⟨G, h1, _⟩ := hp.2 r hr
  exact ⟨G, h1⟩
theorem Sp.pool_add {xs : List Int} (h : Sp w0 w ps) (hi : ps[i]? = some (Pool K)) (hb : Below w.heap.size w w') (ho : w'.ownsRow w.heap.size 3 1 v xs.length (xs.map (.int .i64))) (hI : ∀ x ∈ xs, I64 x) : Sp w0 w' (ps.set i (Pool ((v, xs) :: K))) := by
  obtain ⟨Fi, ⟨hp1, hp2⟩, hF, hall⟩ := h.upd hi
  obtain ⟨G, hr, hG, _⟩ := Ty.row_of_owns ho rfl (by decide) (Ty.all_int hI)
  have hG2 : ∀ b ∈ G, w.heap.size ≤ b := by
    rcases hG with rfl | ⟨g, h1, _, _, rfl⟩
    · simp
    · intro b hb
      obtain rfl : b = g := by simpa using hb
      exact h1
  refine hall w' _ (G ++ Fi) (.of_below hb) ⟨fun b hm => ?_, fun r hr2 => ?_⟩ fun b hm => ?_
  · rcases List.mem_append.1 hm with hm | hm
    · exact Ty.row_lt hr b hm
    · exact Nat.lt_of_lt_of_le (hp1 b hm) hb.size
  · rcases List.mem_cons.1 hr2 with rfl | hr2
    · exact ⟨G, Ty.row_down hr, fun b hb => List.mem_append.2 (.inl hb)⟩
    · obtain ⟨H, h1, h2⟩ := hp2 r hr2
      exact ⟨H, Ty.row_keep h1 fun b hm => hb.block b (hp1 b (h2 b hm)), fun b hm => List.mem_append.2 (.inr (h2 b hm))⟩
  · rcases List.mem_append.1 hm with hm | hm
    · exact .inr (hG2 b hm)
    · exact .inl hm
theorem all_pool (hp : ∀ q ∈ K, ∃ G, Ty.int.row false w q.1 q.2 G) : ∀ {ks : List (Value × List Int)}, (∀ q ∈ ks, q ∈ K) → ∃ G, (Ty.slice Ty.int).all false w (ks.map Prod.fst) (ks.map Prod.snd) G
  | [], _ => ⟨[], rfl, rfl⟩
  | r :: ks, h => by
    obtain ⟨G, hG⟩ := hp r (h r List.mem_cons_self)
    obtain ⟨H, hH⟩ := all_pool hp fun q hq => h q (List.mem_cons_of_mem _ hq)
    exact ⟨G ++ H, [r.1], ks.map Prod.fst, G, H, rfl, rfl, ⟨r.1, rfl, hG⟩, hH⟩
/-- The cells of an own row of one-cell elements. -/
theorem own_view {B : Nat} {e : TypeId} {n : Nat} {cs : List Value} (h : w.ownsRow B e 1 v n cs) : cs.length = n ∧ ((v = .slice none 0 0 ∧ n = 0 ∧ cs = []) ∨ ∃ g c, v = .slice (some ⟨g, 0, none⟩) n c ∧ n ≤ c ∧ c ≤ 9223372036854775807 ∧ ∀ j u, cs[j]? = some u → w.cell? ⟨g, j, none⟩ = some u) := by
  obtain ⟨hl, ⟨rfl, rfl⟩ | ⟨g, cap, cur, rfl, hg, hh, hn, hm, hcs, ht⟩⟩ := h
  · rw [Nat.zero_mul] at hl
    exact ⟨hl, .inl ⟨rfl, rfl, List.length_eq_zero_iff.1 hl⟩⟩
  · rw [Nat.mul_one] at hl
    refine ⟨hl, .inr ⟨g, cap, rfl, hn, by unfold maxLen at hm; omega, fun j u hj => ?_⟩⟩
    have hlt := (List.getElem?_eq_some_iff.1 hj).1
    rw [hown_cell hh ht (by omega)]; exact hj
theorem own_row_f {α : Type} {T : Ty α} {B : Nat} {e : TypeId} {xs : List α} {cs : List Value} {G : List Nat} (h : w.ownsRow B e 1 v xs.length cs) (hT : T.size = 1) (hall : T.all false w cs xs G) : ∃ F, T.row false w v xs F := by
  obtain ⟨hl, h1 | ⟨g, c, rfl, h1, h2, h3⟩⟩ := own_view h
  · obtain ⟨rfl, h0, _⟩ := h1
    obtain rfl : xs = [] := List.length_eq_zero_iff.1 h0
    exact ⟨[], Ty.row_nil _ _ _ _ _ (by decide)⟩
  · by_cases hx : xs = []
    · subst hx
      exact ⟨[], Ty.row_nil _ _ _ _ _ h2⟩
    · exact ⟨g :: G, _, c, cs, G, rfl, h1, h2, hall, .inr ⟨by omega, hx, g, 0, rfl, rfl, fun j hj => ⟨by rw [Nat.zero_add]; exact h3 j _ (List.getElem?_eq_getElem hj), fun e => by cases e⟩⟩⟩
theorem Sp.cls_row (h : Sp w0 w ps) (hi : ps[i]? = some (Cls v ks)) (hj : ps[j]? = some (Pool K)) (hk : ∀ q ∈ ks, q ∈ K) : ∃ F, (Ty.slice Ty.int).row false w v (ks.map Prod.snd) F := by
  obtain ⟨G, hG⟩ := all_pool (fun q hq => h.pool_at hj hq) hk
  have := h.own hi
  have e : (ks.map Prod.snd).length = ks.length := List.length_map _
  refine own_row_f (T := Ty.slice Ty.int) (B := 0) (e := 33) ?_ rfl hG
  rw [e]; exact this
theorem Sp.ints_row {ys : List Int} (h : Sp w0 w ps) (hi : ps[i]? = some (Ints v ys)) (hI : ∀ y ∈ ys, I64 y) : ∃ F, Ty.int.row false w v ys F := own_row_f (h.own hi) rfl (Ty.all_int hI)
end
end Go.Proofs.YtnfjgebfmnpkbaaGreat

/- Plain facts: decimals, checksums, sealed strings, splitting. No program in sight. -/
namespace Go.Proofs.YtnfjgebfmnpkbaaGreat

theorem decDigits_big {u : Nat} (h : ¬ u < 10) : Lib.decDigits u = Lib.decDigits (u / 10) ++ [UInt8.ofNat (48 + u % 10)] := by rw [Lib.decDigits, dif_neg h]
theorem itoa_nat (u : Nat) : Lib.itoa u = Lib.decDigits u := by simp [Lib.itoa, Int.not_lt.2 (Int.natCast_nonneg u)]
theorem itoa_neg (u : Nat) (h : 0 < u) : Lib.itoa (-(u : Int)) = 45 :: Lib.decDigits u := by
  rw [Lib.itoa, if_pos (by omega)]; congr 2; omega
theorem digit_at : ∀ k : Nat, k < 10 → (ByteArray.mk #[48, 49, 50, 51, 52, 53, 54, 55, 56, 57]).extract k (k + 1) = ms [UInt8.ofNat (48 + k)] := by
  intro k hk
  apply bl_inj
  rw [bl_extract, bl_ms]
  match k, hk with
  | 0, _ => rfl
  | 1, _ => rfl
  | 2, _ => rfl
  | 3, _ => rfl
  | 4, _ => rfl
  | 5, _ => rfl
  | 6, _ => rfl
  | 7, _ => rfl
  | 8, _ => rfl
  | 9, _ => rfl
theorem decDigits_ne (u : Nat) : Lib.decDigits u ≠ [] := by
  by_cases h : u < 10
  · rw [Lib.decDigits, dif_pos h]; simp
  · rw [decDigits_big h]; simp
theorem decDigits_len : ∀ (k u : Nat), u < 10 ^ (k + 1) → (Lib.decDigits u).length ≤ k + 1
  | 0, u, h => by rw [Lib.decDigits, dif_pos (by simpa using h)]; simp
  | k + 1, u, h => by
    by_cases h1 : u < 10
    · rw [Lib.decDigits, dif_pos h1]; simp
    · rw [decDigits_big h1, List.length_append]
      have := decDigits_len k (u / 10) (by rw [Nat.pow_succ] at h; omega)
      simp; omega
theorem decDigits_digit : ∀ (n u : Nat), u ≤ n → ∀ c ∈ Lib.decDigits u, 48 ≤ c.toNat ∧ c.toNat ≤ 57
  | n, u, hn => by
    intro c hc
    by_cases h1 : u < 10
    · rw [Lib.decDigits, dif_pos h1] at hc
      simp at hc; subst hc
      simp; omega
    · rw [decDigits_big h1] at hc
      rcases List.mem_append.1 hc with hc | hc
      · cases n with
        | zero => omega
        | succ n => exact decDigits_digit n (u / 10) (by omega) c hc
      · simp at hc; subst hc
        simp; omega
termination_by n => n

/-- The checksum. -/
def sumB (l : List UInt8) : Int := l.foldl (fun h c => (41 * h + c.toNat + 1) % 999979) 7
theorem sumB_snoc (l : List UInt8) (c : UInt8) : sumB (l ++ [c]) = (41 * sumB l + c.toNat + 1) % 999979 := by simp [sumB]
theorem sumB_nil : sumB [] = 7 := rfl
theorem sumB_range (l : List UInt8) : 0 ≤ sumB l ∧ sumB l < 999979 := by
  rcases List.eq_nil_or_concat l with rfl | ⟨l', c, rfl⟩
  · exact ⟨by decide, by decide⟩
  · rw [List.concat_eq_append, sumB_snoc]; omega
/-- The sealed string. -/
def sealB (l : List UInt8) : List UInt8 := l ++ 35 :: Lib.itoa (sumB l)
theorem itoa_len {n : Int} (h0 : 0 ≤ n) (h : n < 1000000) : (Lib.itoa n).length ≤ 6 := by
  obtain ⟨u, rfl⟩ := Int.eq_ofNat_of_zero_le h0
  rw [itoa_nat]
  exact decDigits_len 5 u (by omega)
theorem sealB_length (l : List UInt8) : (sealB l).length ≤ l.length + 7 := by
  have := sumB_range l
  have := itoa_len this.1 (by omega)
  simp [sealB]; omega
end Go.Proofs.YtnfjgebfmnpkbaaGreat

/- Contract: the decimal of a number, in the reference. -/
namespace Go.Proofs.YtnfjgebfmnpkbaaGreat
open Go.RowKit

theorem ret_str {s t : ByteArray} (h : s = t) : Ending.returned (.string s) = .returned (.string t) := by rw [h]

/-- One decimal digit. -/
def dgB (n : Int) : List UInt8 := [UInt8.ofNat (48 + n.toNat)]
theorem dgB_length (n : Int) : (dgB n).length = 1 := rfl

theorem digit_int (n : Int) (h0 : 0 ≤ n) (h : n < 10) : (ByteArray.mk #[48, 49, 50, 51, 52, 53, 54, 55, 56, 57]).extract n.toNat (n + 1).toNat = ms (dgB n) := by
  unfold dgB
  rw [show (n + 1).toNat = n.toNat + 1 by omega]
  exact digit_at _ (by omega)

/- left out: the seat has no spec.l1Num -/

/- left out: the seat has no spec.l1Num -/

/- left out: the seat has no spec.l1Num -/
end Go.Proofs.YtnfjgebfmnpkbaaGreat

/- Contracts, weak ones: splitting and reading texts in the reference, as the draws need it. -/
namespace Go.Proofs.YtnfjgebfmnpkbaaGreat
open Go.RowKit

theorem infoStrT : (Tryz.prog.info? 9).map (fun i => (i.zero, i.size, i.bytes)) = some (some (.string ByteArray.empty), 1, 16) := by kernel_rfl
theorem ext_le (s : ByteArray) (a b : Nat) : (s.extract a b).size ≤ s.size := by
  rw [← bl_length, bl_extract, List.length_take, List.length_drop, bl_length]; omega
theorem itoa_short {z : Int} (h0 : -1000000 ≤ z) (h1 : z ≤ 1000000) : (Lib.itoa z).length ≤ 14 := by
  rw [Lib.itoa]
  split
  · have := decDigits_len 12 z.natAbs (by omega)
    simp only [List.length_cons]; omega
  · have := decDigits_len 12 z.toNat (by omega)
    omega
/-- Some strings, none longer than a bound. -/
def StrsLe (n : Nat) (ps : List ByteArray) : Prop := ∀ p ∈ ps, p.size ≤ n

/- left out: the seat has no spec.l1Split -/
end Go.Proofs.YtnfjgebfmnpkbaaGreat

/- Contracts, weak ones: the number of a text, the text of a clause, in the reference. -/
namespace Go.Proofs.YtnfjgebfmnpkbaaGreat
open Go.RowKit

/-- A number and whether it was one. -/
def ReadW (e : Ending) : Prop := ∃ (z : Int) (q : Bool), -1000000 ≤ z ∧ z ≤ 1000000 ∧ e = .returned (.tuple #[.int .i64 z, .bool q])
/- left out: the seat has no spec.l1Read -/

/- left out: the seat has no spec.l2Text -/
end Go.Proofs.YtnfjgebfmnpkbaaGreat

/- Contract, a weak one: a clause read from a text, in the reference. -/
namespace Go.Proofs.YtnfjgebfmnpkbaaGreat
open Go.RowKit

theorem strs_own {w : World} {B : Nat} {e : TypeId} {A : Option Addr} {c : Nat} {ps : List ByteArray} (h : w.ownsRow B e 1 (.slice A ps.length c) ps.length (ps.map .string)) {j : Nat} (hj : j < ps.length) : ∃ b off, A = some ⟨b, off, none⟩ ∧ w.cell? ⟨b, off + j, none⟩ = some (.string ps[j]) := by
  obtain ⟨g, cap, cur, e1, _, hh, _, _, _, ht⟩ := own_block h (by omega)
  simp only [Value.slice.injEq] at e1
  obtain ⟨rfl, -, rfl⟩ := e1
  refine ⟨g, 0, rfl, ?_⟩
  rw [Nat.mul_one] at ht
  rw [Nat.zero_add, hown_cell hh ht hj]
  simp [hj]
theorem Within.snoc {m : Int} {c : List Int} {x : Int} (h : Within m c) (h0 : -m ≤ x) (h1 : x ≤ m) : Within m (c ++ [x]) := fun y hy => by
  rcases List.mem_append.1 hy with hy | hy
  · exact h y hy
  · obtain rfl : y = x := by simpa using hy
    exact ⟨h0, h1⟩
/-- A clause and whether it is one. -/
def ParseW (vars : Int) (w : World) (e : Ending) (w' : World) : Prop := ∃ (c : List Int) (B : Option Addr) (k : Nat) (q : Bool), e = .returned (.tuple #[.slice B c.length k, .bool q]) ∧ Within 1000000 c ∧ c.length ≤ 13 ∧ (q = true → clauseB vars c = true) ∧ Sp w w' [Own 3 1 (.slice B c.length k) c.length (c.map (.int .i64))]

/- left out: the seat has no spec.l2Parse -/
end Go.Proofs.YtnfjgebfmnpkbaaGreat

/- Contract, a weak one: the text of a Cnf, in the reference. -/
namespace Go.Proofs.YtnfjgebfmnpkbaaGreat
open Go.RowKit

/-- Clauses that are short and small. -/
def SmallC (xss : List (List Int)) : Prop := ∀ c ∈ xss, Within 1000000 c ∧ c.length ≤ 13

/- left out: the seat has no spec.l2TextOf -/
end Go.Proofs.YtnfjgebfmnpkbaaGreat

/- Contracts, weak ones: a Cnf read from a text, in the reference. -/
namespace Go.Proofs.YtnfjgebfmnpkbaaGreat
open Go.RowKit

theorem sep_front : ∀ {qs ps : List Asn} {w : World} {F : List Nat}, sep (qs ++ ps) w F → ∃ F1, sep qs w F1 ∧ ∀ b ∈ F1, b ∈ F
  | [], ps, w, F, _ => ⟨[], rfl, by simp⟩
  | q :: qs, ps, w, F, h => by
    obtain ⟨F1, F2, rfl, h1, h2, h3⟩ := h
    obtain ⟨F3, h4, h5⟩ := sep_front h3
    refine ⟨F1 ++ F3, ⟨F1, F3, rfl, fun b hb hb2 => h1 b hb (h5 b hb2), h2, h4⟩, fun b hb => ?_⟩
    rcases List.mem_append.1 hb with h | h
    · exact List.mem_append.2 (.inl h)
    · exact List.mem_append.2 (.inr (h5 b h))
/-- The parts behind are let go. -/
theorem Sp.front {w0 w : World} {ps qs : List Asn} (h : Sp w0 w (qs ++ ps)) : Sp w0 w qs := by
  obtain ⟨h1, G, h2, h3⟩ := h
  obtain ⟨F, h4, h5⟩ := sep_front h2
  exact ⟨h1, F, h4, fun b hb => h3 b (h5 b hb)⟩
/-- A small Cnf of its own, and whether there is one. -/
def CnfW (w : World) (e : Ending) (w' : World) : Prop := ∃ (vars : Int) (B : Option Addr) (cap : Nat) (cs : List Value) (xss : List (List Int)) (q : Bool), e = .returned (.tuple #[.agg #[.int .i64 vars, .slice B xss.length cap], .bool q]) ∧ 0 ≤ vars ∧ vars ≤ 12 ∧ xss.length ≤ 60 ∧ SmallC xss ∧
  Sp w w' [Rows Ty.int 33 (.slice B xss.length cap) cs xss]
theorem cnfW_no {w w' : World} (hb : Below w.heap.size w w') : CnfW w (.returned (.tuple #[.agg #[.int .i64 0, .slice none 0 0], .bool false])) w' :=
  ⟨0, none, 0, [], [], false, rfl, by decide, by decide, by simp, (fun c hc => by simp at hc), (Sp.of_below hb).rows_nil _ _⟩

/- left out: the seat has no spec.ParseCnf -/
end Go.Proofs.YtnfjgebfmnpkbaaGreat

/- Contract, a weak one: a Cnf with its variables renamed, in the reference. -/
namespace Go.Proofs.YtnfjgebfmnpkbaaGreat
open Go.RowKit

theorem clause_len {vars : Int} {c : List Int} (h : clauseB vars c = true) : c.length ≤ 12 := by
  have hp := clause_parts h
  exact rising_len (m := 12) (k := 1) (clause_rising h) (fun l hl => by have := hp.2.1 l hl; omega)

theorem absV_of (l : Int) (h : -13 ≤ l ∧ l ≤ 13) : absV l = (l.natAbs : Int) := by
  unfold absV negV
  split
  · rw [IntWalk.wrap64_in _ (by omega)]; omega
  · omega

/- left out: the seat has no spec.RenameCnf -/
end Go.Proofs.YtnfjgebfmnpkbaaGreat

/- Contracts: numbers of variables that are drawn, mostly up to five. -/
namespace Go.Proofs.YtnfjgebfmnpkbaaGreat
open Go.RowKit

/- left out: the seat has no (*loop.example/g01080/spec.l1Cur).vars2 -/
end Go.Proofs.YtnfjgebfmnpkbaaGreat

/- Joined parts beside a cursor; a known Cnf, weakly, and the texts without models. -/
namespace Go.Proofs.YtnfjgebfmnpkbaaGreat
open Go.RowKit

section
variable {w0 w w' : World} {g cl cc A A' : Nat} {ca : Option Addr} {ps qs : List Asn}
theorem CS.comp (h : CS w0 g ca cl cc A w ps) (k : CS w g ca cl cc A' w' qs) : CS w0 g ca cl cc A' w' (qs ++ ps) := by
  have hg := h.glt
  have hsz := h.chg.size
  obtain ⟨h0, h1, h2, F, h3, h4⟩ := h
  obtain ⟨k0, k1, k2, G, k3, k4⟩ := k
  have hk := sep_keep h3 fun b hm => k2.block b (sep_lt h3 b hm) fun hb => by
    obtain rfl : b = g := by simpa using hb
    have := h4 b hm; omega
  refine ⟨h0, k1, h2.trans k2, G ++ F, sep_append k3 hk (fun b hb hb2 => ?_), fun b hb => ?_⟩
  · have := k4 b hb; have := sep_lt h3 b hb2; omega
  · rcases List.mem_append.1 hb with hb | hb
    · have := k4 b hb; omega
    · exact h4 b hb
theorem CS.front (h : CS w0 g ca cl cc A w (qs ++ ps)) : CS w0 g ca cl cc A w qs := by
  obtain ⟨h0, h1, h2, F, h3, h4⟩ := h
  obtain ⟨G, h5, h6⟩ := sep_front h3
  exact ⟨h0, h1, h2, G, h5, fun b hb => h4 b (h6 b hb)⟩
theorem row_cs {v : Value} {c : List Int} (h : CurIs A g ca cl cc w) (hi : CurIs A' g ca cl cc w') (hc : Chg [g] w w') (ho : w'.ownsRow w.heap.size 3 1 v c.length (c.map (.int .i64))) :
    CS w g ca cl cc A' w' [Own 3 1 v c.length (c.map (.int .i64))] :=
  ⟨⟨A, h⟩, hi, hc, _, ⟨v.ownBlock.toList, [], by rw [List.append_nil], by simp, ⟨rfl, owns_zero ho⟩, rfl⟩, fun b hb => owns_ge ho b (by simpa using hb)⟩
end
def TextLe (n : Nat) (s : ByteArray) : Prop := s.size ≤ n
theorem text_le {n : Nat} {s : ByteArray} (h : decide (s.size ≤ n) = true) : TextLe n s := show s.size ≤ n from of_decide_eq_true h
theorem strsR_new {R : ByteArray → Prop} {W : World} {cs : Array Value} {t : TypeId} {b n : Nat} (hb : b = W.heap.size) (h : ∀ j, j < n → ∃ s, cs[j]? = some (.string s) ∧ R s) : StrsR R (W.alloc (.cells cs t)) b 0 n := fun j hj => by
  obtain ⟨s, h1, h2⟩ := h j hj
  subst hb
  refine ⟨s, h2, ?_⟩
  rw [Nat.zero_add]
  exact (cell_of_row _ _ _ _ _ _ (heap_alloc_new W _)).trans h1

/-- A small Cnf of its own. -/
def CnfV (w : World) (e : Ending) (w' : World) : Prop := ∃ (vars : Int) (B : Option Addr) (cap : Nat) (cs : List Value) (xss : List (List Int)), e = .returned (.agg #[.int .i64 vars, .slice B xss.length cap]) ∧ 0 ≤ vars ∧ vars ≤ 12 ∧ xss.length ≤ 60 ∧ SmallC xss ∧
  Sp w w' [Rows Ty.int 33 (.slice B xss.length cap) cs xss]

/- left out: the seat has no spec.l2Known -/

/- left out: the seat has no spec.l2Hard -/
end Go.Proofs.YtnfjgebfmnpkbaaGreat

/- Contract: a drawn Cnf without models. -/
namespace Go.Proofs.YtnfjgebfmnpkbaaGreat
open Go.RowKit

/-- Rows of small clauses. -/
def SmallR (n : Nat) (xss : List (List Int)) : Prop := ∀ c ∈ xss, (∀ x ∈ c, I64 x) ∧ c.length ≤ n
theorem SmallC.r {xss : List (List Int)} (h : SmallC xss) : SmallR 13 xss := fun c hc => ⟨(h c hc).1.i64 (by decide), (h c hc).2⟩
/-- A drawn Cnf. -/
def CnfPost (A g : Nat) (ca : Option Addr) (cl cc : Nat) (w : World) (e : Ending) (w' : World) : Prop := ∃ (vars : Int) (B : Option Addr) (cap : Nat) (cs : List Value) (xss : List (List Int)), e = .returned (.agg #[.int .i64 vars, .slice B xss.length cap]) ∧ -1 ≤ vars ∧ vars ≤ 13 ∧ xss.length ≤ 62 ∧ SmallR 13 xss ∧
  CS w g ca cl cc A w' [Rows Ty.int 33 (.slice B xss.length cap) cs xss]

/- left out: the seat has no (*loop.example/g01080/spec.l1Cur).hard -/
end Go.Proofs.YtnfjgebfmnpkbaaGreat

/- Rows of rows that grow by several rows; rows of one number. -/
namespace Go.Proofs.YtnfjgebfmnpkbaaGreat
open Go.RowKit

/-- Rows that wait to be appended. -/
def Pend {α : Type} (T : Ty α) (us : List Value) (yss : List (List α)) : Asn where
  p w F := F.Nodup ∧ (Ty.slice T).all true w us yss F
  lt h := Ty.all_lt h.2
  keep h hk := ⟨h.1, Ty.all_keep h.2 hk⟩
section
variable {w0 w w' w1 : World} {g cl cc A : Nat} {ca : Option Addr} {ps : List Asn} {e : TypeId} {α : Type} {T : Ty α} {v v' u1 u2 : Value} {cs us : List Value} {xss yss : List (List α)} {ys1 ys2 : List α}
theorem CS.pend (h : CS w0 g ca cl cc A w (Row T u1 ys1 :: Row T u2 ys2 :: ps)) : CS w0 g ca cl cc A w (Pend T [u1, u2] [ys1, ys2] :: ps) := by
  obtain ⟨h0, h1, h2, F, ⟨F1, F2, rfl, hd, ⟨hr, hn⟩, ⟨F3, F4, rfl, hd', ⟨hr', hn'⟩, h5⟩⟩, h3⟩ := h
  refine ⟨h0, h1, h2, (F1 ++ F3) ++ F4, ⟨F1 ++ F3, F4, rfl, ?_, ⟨?_, Ty.all_append (cs := [u1]) (xs := [ys1]) (Ty.all_one ⟨u1, rfl, hr⟩) (Ty.all_one ⟨u2, rfl, hr'⟩)⟩, h5⟩, ?_⟩
  · intro b hm hm4
    rcases List.mem_append.1 hm with hm | hm
    · exact hd b hm (List.mem_append.2 (.inr hm4))
    · exact hd' b hm hm4
  · exact List.nodup_append.2 ⟨hn, hn', fun x hx y hy e => hd x hx (List.mem_append.2 (.inl (e ▸ hy)))⟩
  · intro b hm
    exact h3 b (by simpa [List.append_assoc] using hm)
theorem CS.rows_append (h : CS w0 g ca cl cc A w (Pend T us yss :: Rows T e v cs xss :: ps)) (hb : Below w.heap.size w w1) (ho : w'.ownsRow 0 e 1 v' (xss.length + yss.length) (cs ++ us)) (hg : w1.grownBy w' v.ownBlock)
    (hat : v'.ownBlock = v.ownBlock ∨ v'.ownBlock = some w1.heap.size) : CS w0 g ca cl cc A w' (Rows T e v' (cs ++ us) (xss ++ yss) :: ps) := by
  have hsz := h.chg.size
  obtain ⟨⟨A0, h0'⟩, hcur, h1, F, ⟨F1, F2, rfl, hd, ⟨hn, hr⟩, ⟨F3, F4, rfl, hd', ⟨G, rfl, hn', hall, hown⟩, h5⟩⟩, h3⟩ := h
  have hr1 := Ty.all_keep hr fun b hm => hb.block b (Ty.all_lt hr b hm)
  have hall1 := Ty.all_keep hall fun b hm => hb.block b (Ty.all_lt hall b hm)
  have h51 := sep_keep h5 fun b hm => hb.block b (sep_lt h5 b hm)
  have hkeep : ∀ b, b < w.heap.size → (∀ g, v.ownBlock = some g → b ≠ g) → w'.heap[b]? = w1.heap[b]? := fun b hlt hne => hg.block b (Nat.lt_of_lt_of_le hlt hb.size) (fun e => hne b e.symm rfl)
  have hr2 := Ty.all_keep hr1 fun b hm => hkeep b (Ty.all_lt hr b hm) fun g hg' e => hd b hm (by simp [hg', e])
  have hnG : ∀ b ∈ G, ∀ g, v.ownBlock = some g → b ≠ g := fun b hm g hg' e => by
    rw [List.nodup_append] at hn'
    exact hn'.2.2 g (by simp [hg']) b hm e.symm
  have hall2 := Ty.all_keep hall1 fun b hm => hkeep b (Ty.all_lt hall b hm) (hnG b hm)
  have h52 := sep_keep h51 fun b hm => hkeep b (sep_lt h5 b hm) fun g hg' e => hd' b (by simp [hg', e]) hm
  have hlv : ∀ b ∈ v'.ownBlock.toList, b ∈ v.ownBlock.toList ∨ b = w1.heap.size := fun b hm => by
    rcases hat with h | h
    · left; rwa [h] at hm
    · right; rw [h] at hm; simpa using hm
  have hs := hb.size
  have hold : ∀ k, k < w0.heap.size → w'.heap[k]? = w.heap[k]? := fun k hk => (hkeep k (by omega) fun g hg' e => by have := h3 g (by simp [hg']); omega).trans (hb.block k (by omega))
  have hchg : Chg [g] w0 w' := ⟨hg.os.trans (hb.os.trans h1.os), hg.tape.trans (hb.tape.trans h1.tape), hg.output.trans (hb.output.trans h1.output), by have := hg.size; omega, fun k hk hn => (hold k hk).trans (h1.block k hk hn)⟩
  refine ⟨⟨A0, h0'⟩, h0'.stay hcur hold, hchg, (v'.ownBlock.toList ++ (G ++ F1)) ++ F4, ⟨_, F4, rfl, ?_, ⟨G ++ F1, rfl, ?_, ?_, by simpa using ho⟩, h52⟩, ?_⟩
  · intro b hm hm4
    rcases List.mem_append.1 hm with hm | hm
    · rcases hlv b hm with h | h
      · exact hd' b (List.mem_append.2 (.inl h)) hm4
      · have := sep_lt h5 b hm4; omega
    · rcases List.mem_append.1 hm with hm | hm
      · exact hd' b (List.mem_append.2 (.inr hm)) hm4
      · exact hd b hm (List.mem_append.2 (.inr hm4))
  · refine List.nodup_append.2 ⟨by cases v'.ownBlock <;> simp, List.nodup_append.2 ⟨(List.nodup_append.1 hn').2.1, hn, fun x hx y hy e => hd y hy (by simp [← e, hx])⟩, fun x hx y hy e => ?_⟩
    subst e
    rcases hlv x hx with h | h
    · rcases List.mem_append.1 hy with hy | hy
      · exact (List.nodup_append.1 hn').2.2 x h x hy rfl
      · exact hd x hy (List.mem_append.2 (.inl (List.mem_append.2 (.inl h))))
    · rcases List.mem_append.1 hy with hy | hy
      · have := Ty.all_lt hall x hy; omega
      · have := Ty.all_lt hr x hy; omega
  · exact Ty.all_append hall2 hr2
  · intro b hm
    rcases List.mem_append.1 hm with hm | hm
    · rcases List.mem_append.1 hm with hm | hm
      · rcases hlv b hm with h | h
        · exact h3 b (by simp at h ⊢; simp [h])
        · omega
      · rcases List.mem_append.1 hm with hm | hm
        · exact h3 b (by simp [hm])
        · exact h3 b (by simp [hm])
    · exact h3 b (by simp [hm])
theorem CS.own_one (h : CS w0 g ca cl cc A w ps) (x : Value) (e : TypeId) : CS w0 g ca cl cc A (w.alloc (.cells #[x] e)) (Own e 1 (.slice (some ⟨w.heap.size, 0, none⟩) 1 1) 1 [x] :: ps) :=
  h.own_new (bal (bb _) _) ⟨by simp, .inr ⟨w.heap.size, 1, #[x], rfl, Nat.zero_le _, heap_alloc_new w _, Nat.le_refl _, by decide, by simp, by simp⟩⟩ (fun g hg => by
    have : w.heap.size = g := by simpa [Value.ownBlock] using hg
    omega)
end
theorem Src.two {w : World} {b : Nat} {x y : Value} (h : w.cell? ⟨b, 0, none⟩ = some x) (h2 : w.cell? ⟨b, 1, none⟩ = some y) : Src w (some ⟨b, 0, none⟩) 2 1 [x, y] := .inr ⟨_, rfl, rfl, fun j u hj => by
    match j, hj with
    | 0, hj => simp at hj; subst hj; rw [add_none]; exact h
    | 1, hj => simp at hj; subst hj; rw [add_none]; exact h2⟩
set_option maxHeartbeats 400000 in
theorem bs_five (a : Act) (w : World) (K : Act → World → Prop) (Q : Exit → Act → World → Prop) (p : String) (h : K (a.put (some 34) (.slice (some ⟨w.heap.size, 0, none⟩) 5 5)) (w.alloc (.cells #[.int .i64 (-1), .int .i64 13, .int .i64 12, .int .i64 0, .int .i64 1] 3))) :
    Oper.wp Tryz.prog {dst := some 34, op := Op.buildSlice 33 5 #[(0, .const (.int .i64 (-1))), (1, .const (.int .i64 13)), (2, .const (.int .i64 12)), (3, .const (.int .i64 0)), (4, .const (.int .i64 1))], type := 33, pos := p, after := #[], guard := none} a w K Q := by
  go_simp
  exact h
/-- The length of the row that lies in a block's second cell. -/
def lenAt1 (w : World) (b : Nat) : Nat := match w.cell? ⟨b, 1, none⟩ with | some (.slice _ n _) => n | _ => 0
theorem lenAt1_of {w : World} {b n c : Nat} {B : Option Addr} (h : w.cell? ⟨b, 1, none⟩ = some (.slice B n c)) : lenAt1 w b = n := by simp [lenAt1, h]
end Go.Proofs.YtnfjgebfmnpkbaaGreat

/- Contract: all clauses over some variables, in the program. Printed by gen_cub.py. -/
namespace Go.Proofs.YtnfjgebfmnpkbaaGreat
open Go.RowKit

theorem Sp.poolX_in {w0 w : World} {ps : List Asn} {K : List (Value × List Int)} {v : Value} {xs : List Int} (h : Sp w0 w (Own 3 1 v xs.length (xs.map (.int .i64)) :: Pool K :: ps)) (hI : ∀ x ∈ xs, I64 x) : Sp w0 w (Pool ((v, xs) :: K) :: ps) :=
  h.merge fun F1 F2 h1 h2 => by
    obtain ⟨rfl, ho⟩ := h1
    obtain ⟨G, hr, hG, -⟩ := Ty.row_of_owns ho rfl (by decide) (Ty.all_int hI)
    have hG2 : ∀ b ∈ G, b ∈ v.ownBlock.toList := by
      rcases hG with rfl | ⟨g, _, _, e, rfl⟩
      · simp
      · intro b hb
        rw [List.mem_singleton.1 hb, e]; simp
    refine ⟨fun b hb => ?_, fun q hq => ?_⟩
    · rcases List.mem_append.1 hb with hb | hb
      · exact owns_lt ho (by simpa using hb)
      · exact h2.1 b hb
    · rcases List.mem_cons.1 hq with rfl | hq
      · exact ⟨G, Ty.row_down hr, fun b hb => List.mem_append.2 (.inl (hG2 b hb))⟩
      · obtain ⟨H, h3, h4⟩ := h2.2 q hq
        exact ⟨H, h3, fun b hb => List.mem_append.2 (.inr (h4 b hb))⟩
theorem Sp.poolX_nil {w0 w : World} {ps : List Asn} (h : Sp w0 w ps) : Sp w0 w (Pool [] :: ps) := h.pool_nil
theorem Sp.poolX_empty {w0 w : World} {ps : List Asn} {K : List (Value × List Int)} (h : Sp w0 w (Pool K :: ps)) : Sp w0 w (Pool ((.slice none 0 0, []) :: K) :: ps) := by
  obtain ⟨h1, G, ⟨F1, G1, rfl, d1, p1, h5⟩, h3⟩ := h
  refine ⟨h1, F1 ++ G1, ⟨F1, G1, rfl, d1, ⟨p1.1, fun q hq => ?_⟩, h5⟩, h3⟩
  rcases List.mem_cons.1 hq with rfl | hq
  · exact ⟨[], Ty.row_nil _ _ _ _ _ (by decide), by simp⟩
  · exact p1.2 q hq
theorem Sp.poolX_at {w0 w : World} {ps : List Asn} {i : Nat} {K : List (Value × List Int)} (h : Sp w0 w ps) (hi : ps[i]? = some (Pool K)) : ∀ q ∈ K, IOf w q := fun q hq => by
  obtain ⟨G, hr⟩ := h.pool_at hi hq
  obtain ⟨A, c, e, h1⟩ := Go.Proofs.YtnfjgebfmnpkbaaGreat.ints_row hr
  exact ⟨A, c, e, h1⟩

/-- What signings holds: the clauses of now, and the next ones. -/
def SgPostG (L : List Int) (n : Nat) (w : World) (e : Ending) (w' : World) : Prop := ∃ (B : Option Addr) (c : Nat) (ks K : List (Value × List Int)), e = .returned (.slice B ks.length c) ∧ ks.map Prod.snd = sgnG L n ∧ (∀ q ∈ ks, q ∈ K) ∧ Sp w w' [SRow (.slice B ks.length c) ks, Pool K]

/- left out: the seat has no impl.signings -/
end Go.Proofs.YtnfjgebfmnpkbaaGreat

/- Contract: the clauses of a parity, in the program. Printed by gen_cue.py. -/
namespace Go.Proofs.YtnfjgebfmnpkbaaGreat
open Go.RowKit

/- left out: the seat has no impl.xorClauses -/
end Go.Proofs.YtnfjgebfmnpkbaaGreat

/- Contract: numbers in ascending order between two bounds, in the reference. Printed by gen_cuf.py. -/
namespace Go.Proofs.YtnfjgebfmnpkbaaGreat
open Go.RowKit

/-- An index that fits, above the one ahead of it. -/
def rOkG (lo hi : Int) (l : List Int) (i : Nat) : Bool := inB (l.getD i 0) lo hi && (i == 0 || decide (l.getD (i - 1) 0 < l.getD i 0))
def rOkGTo (lo hi : Int) (l : List Int) (k : Nat) : Bool := (List.range k).all (rOkG lo hi l)
theorem rOkGTo_succ (lo hi : Int) (l : List Int) (k : Nat) : rOkGTo lo hi l (k + 1) = (rOkGTo lo hi l k && rOkG lo hi l k) := by simp [rOkGTo, List.range_succ]
def risG (lo hi : Int) (l : List Int) : Bool := rOkGTo lo hi l l.length
theorem risG_no {lo hi : Int} {l : List Int} {k : Nat} (hk : k < l.length) (h : rOkG lo hi l k = false) : risG lo hi l = false := by
  unfold risG rOkGTo
  rw [List.all_eq_false]
  exact ⟨k, List.mem_range.2 hk, by rw [h]; decide⟩
theorem risG_step {lo hi : Int} {l : List Int} {k : Nat} (h0 : rOkGTo lo hi l k = true) (h : rOkG lo hi l k = true) : rOkGTo lo hi l (k + 1) = true := by rw [rOkGTo_succ, h0, h]; rfl
theorem rOkG_zero (lo hi : Int) (l : List Int) (h : 0 < l.length) : rOkG lo hi l 0 = inB l[0] lo hi := by simp [rOkG, List.getD_eq_getElem?_getD, List.getElem?_eq_getElem h]
theorem rOkG_succ (lo hi : Int) (l : List Int) (k : Nat) (h : k + 1 < l.length) : rOkG lo hi l (k + 1) = (inB l[k + 1] lo hi && decide ((l[k]'(by omega)) < l[k + 1])) := by
  simp [rOkG, List.getD_eq_getElem?_getD, List.getElem?_eq_getElem h, List.getElem?_eq_getElem (show k < l.length by omega)]

set_option maxRecDepth 100000 in
set_option maxHeartbeats 4000000 in
theorem l1RisingG_any (A : Option Addr) (cap : Nat) (l : List Int) (lo hi : Int) (w : World) (hx : IntsAt w A l) (hl : l.length ≤ 1000000) :
    Calls Tryz.prog 46 #[.slice A l.length cap, .int .i64 lo, .int .i64 hi] w fun e w' => e = .returned (.bool (risG lo hi l)) ∧ Below w.heap.size w w' := by
  have hX := Lib.hid hx
  have hd : Hid (risG lo hi l = rOkGTo lo hi l l.length) := rfl
  clear hx
  go_enter Tryz.func46, Tryz.ntmps46
  go_wp2_with fail
  go_loopw [7] (fun i wr => ∃ k : Nat, k ≤ l.length ∧ i = .int .i64 k ∧ Hid (rOkGTo lo hi l k = true) ∧ Hid (Below w.heap.size w wr)) (fun i _ => l.length - (intOf i).toNat)
  case atStart => exact ⟨0, Nat.zero_le _, rfl, by simp [Hid, rOkGTo], bb _⟩
  case round =>
    obtain ⟨k, hk, rfl, HR, hB⟩ := hrel
    by_cases hlt : k < l.length
    · obtain ⟨b, off, rfl, m0⟩ := (hX.out.grow hB.out).at_ k hlt
      have k0 := cell_regrown m0
      cases hq : inB l[k] lo hi
      · have HN : Hid (risG lo hi l = false) := risG_no hlt (by unfold rOkG; rw [List.getD_eq_getElem?_getD, List.getElem?_eq_getElem hlt]; simp [hq])
        generalize l[k] = x at *
        clear m0
        go_wp2_with fail
        refine wp_region_quiet_below (by kernel_rfl) (by kernel_rfl) ?_
        repeat (any_goals (first | go_big_quiet_step ((go_at_call 40; exact Calls.regrown_of (l1InB hq _)))))
        refine wpQuiet_nil ?_
        rintro w1 ⟨p, rfl⟩
        have hB2 := Lib.hid (btr hB.out (below_regrown _ p.d p.os))
        clear hB k0
        go_wp2_with fail
        go_ret
        exact ⟨ret_bool HN.out.symm, hB2.out⟩
      rcases Nat.eq_zero_or_pos k with rfl | hpos
      · have HN : Hid (rOkGTo lo hi l (0 + 1) = true) := risG_step rfl (by rw [rOkG_zero _ _ _ hlt]; exact hq)
        rw [Nat.add_zero] at k0
        generalize l[0] = x at *
        clear HR m0
        go_wp2_with fail
        refine wp_region_quiet_below (by kernel_rfl) (by kernel_rfl) ?_
        repeat (any_goals (first | go_big_quiet_step ((go_at_call 40; exact Calls.regrown_of (l1InB hq _)))))
        refine wpQuiet_nil ?_
        rintro w1 ⟨p, rfl⟩
        have hB2 := Lib.hid (btr hB.out (below_regrown _ p.d p.os))
        clear hB k0
        go_wp2_with fail
        go_roundw
        case rel => exact ⟨0 + 1, by omega, by go_num, HN, hB2⟩
        case measure => simp [intOf]; omega
      have hj : k - 1 < l.length := by omega
      obtain ⟨b', off', e', m1⟩ := (hX.out.grow hB.out).at_ (k - 1) hj
      cases e'
      have k1 := cell_regrown m1
      have HS : rOkG lo hi l k = decide (l[k - 1] < l[k]) := by
        obtain ⟨j, rfl⟩ : ∃ j, k = j + 1 := ⟨k - 1, by omega⟩
        rw [rOkG_succ lo hi l j hlt, hq, Bool.true_and]
        rfl
      generalize l[k - 1] = y at *
      generalize l[k] = x at *
      have hg : (0 : Int) < (k : Int) := by omega
      clear m0 m1
      by_cases hc : y < x
      · have HN : Hid (rOkGTo lo hi l (k + 1) = true) := risG_step HR.out (by rw [HS]; simpa using hc)
        clear HS HR
        go_wp2_with fail
        refine wp_region_quiet_below (by kernel_rfl) (by kernel_rfl) ?_
        repeat (any_goals (first | go_big_quiet_step ((go_at_call 40; exact Calls.regrown_of (l1InB hq _)))))
        refine wpQuiet_nil ?_
        rintro w1 ⟨p, rfl⟩
        have hB2 := Lib.hid (btr hB.out (below_regrown _ p.d p.os))
        clear hB k0 k1
        go_wp2_with fail
        go_roundw
        case rel => exact ⟨k + 1, by omega, by go_num, HN, hB2⟩
        case measure => simp [intOf]; omega
      · have HN : Hid (risG lo hi l = false) := risG_no hlt (by rw [HS]; simpa using hc)
        clear HS HR
        go_wp2_with fail
        refine wp_region_quiet_below (by kernel_rfl) (by kernel_rfl) ?_
        repeat (any_goals (first | go_big_quiet_step ((go_at_call 40; exact Calls.regrown_of (l1InB hq _)))))
        refine wpQuiet_nil ?_
        rintro w1 ⟨p, rfl⟩
        have hB2 := Lib.hid (btr hB.out (below_regrown _ p.d p.os))
        clear hB k0 k1
        go_wp2_with fail
        go_ret
        exact ⟨ret_bool HN.out.symm, hB2.out⟩
    · obtain rfl : k = l.length := by omega
      have HN : Hid (risG lo hi l = true) := hd.out.trans HR.out
      go_wp2_with fail
      go_ret
      exact ⟨ret_bool HN.out.symm, hB.out⟩

end Go.Proofs.YtnfjgebfmnpkbaaGreat

/- Plain facts: graphs told by their predecessors; their formula. -/
namespace Go.Proofs.YtnfjgebfmnpkbaaGreat
open Go.RowKit

def preB (x : Nat) (l : List Int) : Bool := risG 0 ((x : Int) - 1) l
def preTo (D : List (List Int)) (m : Nat) : Bool := (List.range m).all fun x => preB x (D.getD x [])
def dagB (D : List (List Int)) : Bool := inB D.length 1 10 && preTo D D.length
theorem getD_row {L : List (List Int)} {m : Nat} (h : m < L.length) : L.getD m [] = L[m] := by rw [List.getD_eq_getElem?_getD, List.getElem?_eq_getElem h]; rfl
theorem preTo_succ {D : List (List Int)} {m : Nat} (h : m < D.length) : preTo D (m + 1) = (preTo D m && preB m D[m]) := by
  unfold preTo; rw [List.range_succ, List.all_append, List.all_cons, List.all_nil, Bool.and_true, getD_row h]
theorem preTo_no {D : List (List Int)} {x m : Nat} (hx : x < m) (hm : m ≤ D.length) (h : preB x (D[x]'(by omega)) = false) : preTo D m = false := by
  unfold preTo
  rw [List.all_eq_false]
  exact ⟨x, List.mem_range.2 hx, by rw [getD_row (by omega), h]; simp⟩
theorem dag_no {D : List (List Int)} {x : Nat} (hx : x < D.length) (h : preB x D[x] = false) : dagB D = false := by
  unfold dagB; rw [preTo_no hx (Nat.le_refl _) h, Bool.and_false]
theorem rsg_at {lo hi : Int} {l : List Int} (h : risG lo hi l = true) (k : Nat) (hk : k < l.length) : (lo ≤ l[k] ∧ l[k] ≤ hi) ∧ (k = 0 ∨ ∃ h' : k - 1 < l.length, l[k - 1] < l[k]) := by
  unfold risG rOkGTo at h
  have h1 := List.all_eq_true.1 h k (List.mem_range.2 hk)
  rcases k with _ | k
  · rw [rOkG_zero _ _ _ hk] at h1; exact ⟨inB_true.1 h1, .inl rfl⟩
  · rw [rOkG_succ _ _ _ _ hk, Bool.and_eq_true, decide_eq_true_eq] at h1
    exact ⟨inB_true.1 h1.1, .inr ⟨by simp; omega, h1.2⟩⟩
theorem rsg_lt {lo hi : Int} {l : List Int} (h : risG lo hi l = true) {i : Nat} : ∀ (d : Nat) (hj : i + d + 1 < l.length), l[i]'(by omega) < l[i + d + 1]
  | 0, hj => by
    rcases (rsg_at h (i + 1) hj).2 with h0 | ⟨h', hlt⟩
    · omega
    · simpa using hlt
  | d + 1, hj => by
    have h1 := rsg_lt h (i := i) d (by omega)
    rcases (rsg_at h (i + (d + 1) + 1) hj).2 with h0 | ⟨h', hlt⟩
    · omega
    · have e : i + (d + 1) + 1 - 1 = i + d + 1 := by omega
      simp only [e] at hlt
      omega
theorem rsg_asc {lo hi : Int} {l : List Int} (h : risG lo hi l = true) : l.Pairwise (· < ·) := by
  rw [List.pairwise_iff_getElem]
  intro i j hi hj hij
  obtain ⟨d, rfl⟩ : ∃ d, j = i + d + 1 := ⟨j - i - 1, by omega⟩
  exact rsg_lt h d hj
theorem rsg_mem {lo hi : Int} {l : List Int} (h : risG lo hi l = true) : ∀ y ∈ l, lo ≤ y ∧ y ≤ hi := fun y hy => by
  obtain ⟨k, hk, rfl⟩ := List.getElem_of_mem hy
  exact (rsg_at h k hk).1
theorem rsg_low {hi : Int} {l : List Int} (h : risG 0 hi l = true) : ∀ k (hk : k < l.length), (k : Int) ≤ l[k]
  | 0, hk => (rsg_at h 0 hk).1.1
  | k + 1, hk => by
    have h1 := rsg_low h k (by omega)
    have h2 := rsg_lt h (i := k) 0 (by omega)
    simp only [Nat.add_zero] at h2
    omega
theorem pre_len {x : Nat} {l : List Int} (h : preB x l = true) : l.length ≤ x := by
  refine Nat.le_of_not_lt fun hl => ?_
  have h1 := rsg_low h x hl
  have h2 := (rsg_at h x hl).1.2
  omega
theorem dag_parts {D : List (List Int)} (h : dagB D = true) : (1 ≤ D.length ∧ D.length ≤ 10) ∧ ∀ x (hx : x < D.length), preB x D[x] = true := by
  unfold dagB preTo at h
  rw [Bool.and_eq_true, List.all_eq_true] at h
  have h1 := inB_true.1 h.1
  exact ⟨by omega, fun x hx => by have := h.2 x (List.mem_range.2 hx); rwa [getD_row hx] at this⟩

/-- A node's clause, as it is made and as it is kept; the formula. -/
def pebC (v : Nat) (l : List Int) : List Int := ((v : Int) + 1) :: l.map fun p => -p - 1
def pebG (v : Nat) (l : List Int) : List Int := (l.map fun p => -p - 1) ++ [(v : Int) + 1]
def pebT (D : List (List Int)) (m : Nat) : List (List Int) := (List.range m).map fun v => pebG v (D.getD v [])
def pebX (D : List (List Int)) : List (List Int) := pebT D D.length ++ [[-(D.length : Int)]]
theorem pebT_succ {D : List (List Int)} {m : Nat} (h : m < D.length) : pebT D (m + 1) = pebT D m ++ [pebG m D[m]] := by unfold pebT; rw [List.range_succ, List.map_append, List.map_singleton, getD_row h]
theorem pebT_len (D : List (List Int)) (m : Nat) : (pebT D m).length = m := by simp [pebT]
theorem pebX_len (D : List (List Int)) : (pebX D).length = D.length + 1 := by simp [pebX, pebT_len]
theorem peb_good {v : Nat} {l : List Int} (h : preB v l = true) (hv : v ≤ 12) : GoodS (pebG v l) ∧ ∀ x ∈ pebG v l, -((v : Int) + 1) ≤ x ∧ x ≤ (v : Int) + 1 := by
  have hm := rsg_mem h
  have ha := rsg_asc h
  unfold pebG
  refine ⟨⟨fun x hx => ?_, ?_⟩, fun x hx => ?_⟩
  · rcases List.mem_append.1 hx with hx | hx
    · obtain ⟨p, hp, rfl⟩ := List.mem_map.1 hx
      have := hm p hp
      unfold LitS; omega
    · obtain rfl := List.mem_singleton.1 hx
      unfold LitS; omega
  · rw [List.pairwise_append]
    refine ⟨?_, by simp, fun a ha b hb => ?_⟩
    · rw [List.pairwise_map]
      refine ha.imp_of_mem fun {a b} ha hb hab => ?_
      have h1 := hm a ha
      have h2 := hm b hb
      unfold AscS
      rw [LitS.abs (show LitS (-a - 1) by unfold LitS; omega), LitS.abs (show LitS (-b - 1) by unfold LitS; omega)]
      split <;> split <;> omega
    · obtain ⟨p, hp, rfl⟩ := List.mem_map.1 ha
      obtain rfl := List.mem_singleton.1 hb
      have h1 := hm p hp
      unfold AscS
      rw [LitS.abs (show LitS (-p - 1) by unfold LitS; omega), LitS.abs (show LitS ((v : Int) + 1) by unfold LitS; omega)]
      split <;> split <;> omega
  · rcases List.mem_append.1 hx with hx | hx
    · obtain ⟨p, hp, rfl⟩ := List.mem_map.1 hx
      have := hm p hp
      omega
    · obtain rfl := List.mem_singleton.1 hx
      omega
theorem pebC_mem {v : Nat} {l : List Int} {x : Int} : x ∈ pebC v l ↔ x ∈ pebG v l := by
  unfold pebC pebG
  rw [List.mem_cons, List.mem_append, List.mem_singleton]
  exact or_comm
theorem peb_clause {v : Nat} {l : List Int} (h : preB v l = true) (hv : v ≤ 12) : clauseR (pebC v l) = some (pebG v l) := by
  obtain ⟨hg, -⟩ := peb_good h hv
  obtain ⟨h1, h2⟩ := clauseR_some (zs := pebC v l) (fun x hx => hg.mem x (pebC_mem.1 hx)) (fun x hx hx2 => hg.clash (pebC_mem.1 hx) (pebC_mem.1 hx2))
  rw [h1]
  exact congrArg some (h2.ext hg fun x => by rw [cptL_mem, pebC_mem])
theorem good_clauseP {vars : Int} {c : List Int} (hv : 0 ≤ vars ∧ vars ≤ 12) (g : GoodS c) (h : ∀ l ∈ c, -vars ≤ l ∧ l ≤ vars) : clauseB vars c = true := by
  unfold clauseB
  rw [Bool.and_eq_true, inB_true]
  refine ⟨hv, ?_⟩
  unfold cOkTo
  rw [List.all_eq_true]
  intro i hi
  have hi := List.mem_range.1 hi
  have hlit : litB vars c[i] = true := by
    have h1 := h _ (List.getElem_mem hi)
    have h2 := g.mem _ (List.getElem_mem hi)
    unfold litB inB
    rw [negV_small (by unfold I64; omega) (by omega)]
    unfold LitS at h2
    simp only [Bool.and_eq_true, decide_eq_true_eq, bne_iff_ne]
    omega
  rcases i with _ | i
  · rw [cOk_zero _ _ hi]; exact hlit
  · rw [cOk_succ _ _ _ hi, hlit, Bool.true_and, decide_eq_true_eq]
    exact List.pairwise_iff_getElem.1 g.asc i (i + 1) (by omega) hi (by omega)
theorem peb_goodB {D : List (List Int)} (h : dagB D = true) : goodB D.length (pebX D) = true := by
  obtain ⟨h1, h2⟩ := dag_parts h
  unfold goodB
  rw [Bool.and_eq_true, Bool.and_eq_true, inB_true, decide_eq_true_eq, pebX_len, List.all_eq_true]
  refine ⟨⟨by omega, by omega⟩, fun c hc => ?_⟩
  rcases List.mem_append.1 hc with hc | hc
  · unfold pebT at hc
    obtain ⟨v, hv, rfl⟩ := List.mem_map.1 hc
    have hv := List.mem_range.1 hv
    rw [getD_row hv]
    obtain ⟨g1, g2⟩ := peb_good (h2 v hv) (by omega)
    exact good_clauseP (by omega) g1 fun l hl => by have := g2 l hl; omega
  · obtain rfl := List.mem_singleton.1 hc
    refine good_clauseP (by omega) ⟨fun l hl => ?_, by simp⟩ fun l hl => ?_
    · obtain rfl := List.mem_singleton.1 hl; unfold LitS; omega
    · obtain rfl := List.mem_singleton.1 hl; omega
theorem peb_mem {D : List (List Int)} {v : Nat} (hv : v < D.length) : pebG v D[v] ∈ pebX D := by
  unfold pebX pebT
  exact List.mem_append.2 (.inl (List.mem_map.2 ⟨v, List.mem_range.2 hv, by rw [getD_row hv]⟩))
theorem peb_last (D : List (List Int)) : [-(D.length : Int)] ∈ pebX D := List.mem_append.2 (.inr (by simp))
/-- What makes all clauses but the last true makes all nodes true. -/
theorem peb_up {D : List (List Int)} (h : dagB D = true) (T : Int → Prop) (hT : ∀ v (hv : v < D.length), (∀ p ∈ D[v], T (p + 1)) → T ((v : Int) + 1)) : ∀ v, v < D.length → T ((v : Int) + 1) := by
  obtain ⟨h1, h2⟩ := dag_parts h
  intro v
  induction v using Nat.strongRecOn with
  | ind v ih =>
    intro hv
    refine hT v hv fun p hp => ?_
    have hb := rsg_mem (h2 v hv) p hp
    have := ih p.toNat (by omega) (by omega)
    rwa [show ((p.toNat : Nat) : Int) = p by omega] at this
theorem peb_no {D : List (List Int)} (h : dagB D = true) (b : Nat) : modT (pebX D) b = false := by
  cases hm : modT (pebX D) b with
  | false => rfl
  | true =>
    exfalso
    obtain ⟨h1, h2⟩ := dag_parts h
    unfold modT at hm
    rw [List.all_eq_true] at hm
    have hall := peb_up h (fun x => litT b x = true) fun v hv hp => by
      have hc := hm _ (peb_mem hv)
      unfold clT pebG at hc
      rw [List.any_append, List.any_map, Bool.or_eq_true, List.any_eq_true] at hc
      rcases hc with ⟨p, hpm, hpt⟩ | hc
      · exfalso
        have h3 := hp p hpm
        have hb := rsg_mem (h2 v hv) p hpm
        simp only [Function.comp] at hpt
        unfold litT at hpt h3
        rw [show (-p - 1).natAbs = (p + 1).natAbs by omega, decide_eq_false (by omega)] at hpt
        rw [decide_eq_true (by omega)] at h3
        cases hb2 : b.testBit ((p + 1).natAbs - 1) <;> rw [hb2] at hpt h3
        · cases h3
        · cases hpt
      · simpa using hc
    have h3 := hall (D.length - 1) (by omega)
    have h4 := hm _ (peb_last D)
    rw [show ((D.length - 1 : Nat) : Int) + 1 = (D.length : Int) by omega] at h3
    unfold clT at h4
    simp only [List.any_cons, List.any_nil, Bool.or_false] at h4
    unfold litT at h3 h4
    rw [show (-(D.length : Int)).natAbs = ((D.length : Int)).natAbs by omega, decide_eq_false (by omega)] at h4
    rw [decide_eq_true (by omega)] at h3
    cases hb2 : b.testBit ((D.length : Int).natAbs - 1) <;> rw [hb2] at h3 h4
    · cases h3
    · cases h4
end Go.Proofs.YtnfjgebfmnpkbaaGreat

/- Contracts: whether lists are a graph, on both sides. -/
namespace Go.Proofs.YtnfjgebfmnpkbaaGreat
open Go.RowKit

set_option maxRecDepth 100000 in
set_option maxHeartbeats 4000000 in
theorem implIsDag_any (A : Option Addr) (cap : Nat) (L : List (List Int)) (w : World) (hx : ClsAt w A L) (hl : L.length ≤ 1000) (hs : ∀ l ∈ L, l.length ≤ 1000) :
    Calls Tryz.prog 23 #[.agg #[.slice A L.length cap]] w fun e w' => e = .returned (.bool (dagB L)) ∧ Below w.heap.size w w' := by
  have S0 := (Sp.start w).alloc_box #[.slice A L.length cap] 26
  have c0 := S0.cell (i := 0) rfl (o := 0) rfl
  have hBx := Lib.hid S0.below
  have hX := Lib.hid (hx.grow S0.below)
  clear hx S0
  have hwl := Lib.hid (fun W => within_any L.length 1 10 W)
  go_enter Tryz.func23, Tryz.ntmps23
  go_wp2_with fail
  generalize w.alloc (.cells #[.slice A L.length cap] 26) = wb at *
  go_loopw [10] (fun v10 wr => ∃ i : Nat, i ≤ L.length ∧ v10 = .int .i64 i ∧ Hid (preTo L i = true) ∧ Hid (wb = wr)) (fun v10 _ => L.length - (intOf v10).toNat)
  case atStart => exact ⟨0, Nat.zero_le _, rfl, rfl, rfl⟩
  case round =>
    obtain ⟨i, hi, rfl, HR, hW⟩ := hrel
    by_cases hlt : i < L.length
    · obtain ⟨b, off, D, dc, hA, m0, hI⟩ := hX.out.at_ i hlt
      have hW' := hW.out
      subst hW'
      subst hA
      have hsl := hs _ (List.getElem_mem hlt)
      have hno := Lib.hid (fun h : preB i L[i] = false => dag_no hlt h)
      have hyes : Hid (preB i L[i] = true → preTo L (i + 1) = true) := fun h => by rw [preTo_succ hlt, HR.out, h]; rfl
      obtain ⟨z, hz⟩ : ∃ z, (i : Int) - 1 = z := ⟨_, rfl⟩
      have hwz : IntKind.i64.wrap ((i : Int) - 1) = z := by rw [IntWalk.i64_in _ (by omega)]; exact hz
      have hdef0 : Hid (preB i L[i] = risG 0 z L[i]) := by unfold Hid preB; rw [hz]
      have hdef : Hid (preB i L[i] = rOkGTo 0 z L[i] L[i].length) := by unfold Hid preB; rw [hz]; rfl
      generalize L[i] = l at *
      replace hz := Lib.hid hz
      replace hI := Lib.hid hI
      clear HR hW
      go_wp2_with fail
      clear m0
      go_loopw [17] (fun v15 wr => ∃ k : Nat, k ≤ l.length ∧ v15 = .int .i64 k ∧ Hid (rOkGTo 0 z l k = true) ∧ Hid (wb = wr)) (fun v15 _ => l.length - (intOf v15).toNat)
      case atStart => exact ⟨0, Nat.zero_le _, rfl, by simp [Hid, rOkGTo], rfl⟩
      case round =>
        obtain ⟨k, hk, rfl, HK, hW2⟩ := hrel
        have hW' := hW2.out
        subst hW'
        by_cases hlt2 : k < l.length
        · obtain ⟨b1, off1, hD, m1⟩ := hI.out.at_ k hlt2
          subst hD
          cases hq : inB l[k] 0 z
          · have HN : Hid (dagB L = false) := hno.out (hdef0.out.trans (risG_no hlt2 (by unfold rOkG; rw [List.getD_eq_getElem?_getD, List.getElem?_eq_getElem hlt2]; simp [hq])))
            have hw1 := Lib.hid (hq ▸ within_any l[k] 0 z wb)
            generalize l[k] = x at *
            clear hno hyes hdef hdef0 HK
            go_wp2_with fail
            refine hw1.out.mono ?_
            rintro e w2 ⟨rfl, rfl⟩
            go_wp2_with fail
            go_ret
            exact ⟨ret_bool HN.out.symm, hBx.out⟩
          have hw1 := Lib.hid (within_any l[k] 0 z wb)
          rw [hq] at hw1
          rcases Nat.eq_zero_or_pos k with rfl | hpos
          · have HN : Hid (rOkGTo 0 z l (0 + 1) = true) := risG_step rfl (by rw [rOkG_zero _ _ _ hlt2]; exact hq)
            rw [Nat.add_zero] at m1
            generalize l[0] = x at *
            clear HK
            go_wp2_with fail
            refine hw1.out.mono ?_
            rintro e w2 ⟨rfl, rfl⟩
            go_wp2_with fail
            go_roundw
            case rel => exact ⟨1, by omega, rfl, HN, by first | exact rfl | exact Lib.hid trivial⟩
            case measure => simp [intOf]; omega
          · obtain ⟨k, rfl⟩ : ∃ t, k = t + 1 := ⟨k - 1, by omega⟩
            obtain ⟨b2, off2, hD2, m2⟩ := hI.out.at_ k (by omega)
            cases hD2
            have hsub : IntKind.i64.wrap (((k + 1 : Nat) : Int) - 1) = (k : Int) := by rw [IntWalk.i64_in _ (by omega)]; omega
            have hrk := rOkG_succ 0 z l k hlt2
            rw [hq, Bool.true_and] at hrk
            cases hd : decide (l[k] < l[k + 1])
            · rw [hd] at hrk
              have HN : Hid (dagB L = false) := hno.out (hdef0.out.trans (risG_no hlt2 hrk))
              have hle : l[k + 1] ≤ l[k] := by simpa using hd
              generalize l[k + 1] = x at *
              generalize l[k] = y at *
              have hle2 : decide (x ≤ y) = true := decide_eq_true hle
              clear hno hyes hdef hdef0 HK hrk hd
              go_wp2_with fail
              refine hw1.out.mono ?_
              rintro e w2 ⟨rfl, rfl⟩
              go_wp2_with fail
              go_ret
              exact ⟨ret_bool HN.out.symm, hBx.out⟩
            · rw [hd] at hrk
              have HN := Lib.hid (risG_step HK.out hrk)
              have hle : ¬ l[k + 1] ≤ l[k] := by have := of_decide_eq_true hd; omega
              generalize l[k + 1] = x at *
              generalize l[k] = y at *
              have hle2 : decide (x ≤ y) = false := decide_eq_false hle
              clear HK hrk hd
              go_wp2_with fail
              refine hw1.out.mono ?_
              rintro e w2 ⟨rfl, rfl⟩
              go_wp2_with fail
              go_roundw
              case rel => exact ⟨k + 1 + 1, by omega, by go_num, HN, by first | exact rfl | exact Lib.hid trivial⟩
              case measure => simp [intOf]; omega
        · obtain rfl : k = l.length := by omega
          have hy2 := Lib.hid (hyes.out (hdef.out.trans HK.out))
          go_wp2_with fail
          go_roundw
          case rel => exact ⟨i + 1, by omega, by go_num, hy2, by first | exact rfl | exact Lib.hid trivial⟩
          case measure => simp [intOf]; omega
    · obtain rfl : i = L.length := by omega
      have hW' := hW.out
      subst hW'
      have hch : dagB L = inB L.length 1 10 := by unfold dagB; rw [HR.out, Bool.and_true]
      replace hch := Lib.hid hch
      go_wp2_with fail
      refine (hwl.out _).mono ?_
      rintro e w2 ⟨rfl, rfl⟩
      go_wp2_with fail
      go_ret
      exact ⟨ret_bool hch.out.symm, hBx.out⟩

set_option maxRecDepth 100000 in
set_option maxHeartbeats 4000000 in
theorem l14Good_any (A : Option Addr) (cap : Nat) (L : List (List Int)) (w : World) (hx : ClsAt w A L) (hl : L.length ≤ 1000) (hs : ∀ l ∈ L, l.length ≤ 1000) :
    Calls Tryz.prog 26 #[.agg #[.slice A L.length cap]] w fun e w' => e = .returned (.bool (dagB L)) ∧ Below w.heap.size w w' := by
  have S0 := (Sp.start w).alloc_box #[.slice A L.length cap] 26
  have c0 := S0.cell (i := 0) rfl (o := 0) rfl
  have hX := Lib.hid hx
  replace S0 := Lib.hid S0
  clear hx
  have hwl := Lib.hid (fun W => l1In_any L.length 1 10 W)
  cases hin : inB L.length 1 10
  · rw [hin] at hwl
    have hno : Hid (dagB L = false) := by unfold Hid dagB; rw [hin]; rfl
    have hB := Lib.hid S0.out.below
    clear hin S0
    go_enter Tryz.func26, Tryz.ntmps26
    go_wp2_with fail
    refine (hwl.out _).mono ?_
    rintro e w2 ⟨rfl, rfl⟩
    go_wp2_with fail
    go_ret
    exact ⟨ret_bool hno.out.symm, hB.out⟩
  rw [hin] at hwl
  replace hin := Lib.hid hin
  go_enter Tryz.func26, Tryz.ntmps26
  go_wp2_with fail
  refine (hwl.out _).mono ?_
  rintro e w2 ⟨rfl, rfl⟩
  go_wp2_with fail
  clear c0
  go_loopw [3] (fun v3 wr => ∃ i : Nat, i ≤ L.length ∧ v3 = .int .i64 i ∧ Hid (preTo L i = true) ∧ Hid (Sp w wr [Box w.heap.size 26 #[.slice A L.length cap]])) (fun v3 _ => L.length - (intOf v3).toNat)
  case atStart => exact ⟨0, Nat.zero_le _, rfl, rfl, S0⟩
  case round =>
    clear S0
    obtain ⟨i, hi, rfl, HR, HS⟩ := hrel
    have c0 := HS.out.cell (i := 0) rfl (o := 0) rfl
    by_cases hlt : i < L.length
    · obtain ⟨b, off, D, dc, hA, m0, hI⟩ := (hX.out.grow HS.out.below).at_ i hlt
      subst hA
      have hsl := hs _ (List.getElem_mem hlt)
      have hno := Lib.hid (fun h : preB i L[i] = false => dag_no hlt h)
      have hyes : Hid (preB i L[i] = true → preTo L (i + 1) = true) := fun h => by rw [preTo_succ hlt, HR.out, h]; rfl
      obtain ⟨z, hz⟩ : ∃ z, (i : Int) - 1 = z := ⟨_, rfl⟩
      have hwz : IntKind.i64.wrap ((i : Int) - 1) = z := by rw [IntWalk.i64_in _ (by omega)]; exact hz
      have hri := l1RisingG_any D dc L[i] 0 z wr hI (by omega)
      rw [show risG 0 z L[i] = preB i L[i] by unfold preB; rw [hz]] at hri
      replace hri := Lib.hid hri
      generalize L[i] = l at *
      replace hz := Lib.hid hz
      clear HR hI
      cases hq : preB i l
      · rw [hq] at hri
        have HN := Lib.hid (hno.out hq)
        have hB := Lib.hid HS.out.below
        replace hq := Lib.hid hq
        clear hno hyes HS
        go_wp2_with fail
        refine hri.out.mono ?_
        rintro e w3 ⟨rfl, hb3⟩
        have hB3 := Lib.hid (btr hB.out hb3)
        clear hri hB hb3 m0 c0
        go_wp2_with fail
        go_ret
        exact ⟨ret_bool HN.out.symm, hB3.out⟩
      · rw [hq] at hri
        have HN := Lib.hid (hyes.out hq)
        replace hq := Lib.hid hq
        clear hno hyes
        go_wp2_with fail
        refine hri.out.mono ?_
        rintro e w3 ⟨rfl, hb3⟩
        have S3 := Lib.hid (HS.out.grow hb3)
        clear hri HS hb3 m0 c0
        go_wp2_with fail
        go_roundw
        case rel => exact ⟨i + 1, by omega, by go_num, HN, S3⟩
        case measure => simp [intOf]; omega
    · obtain rfl : i = L.length := by omega
      have hch : Hid (dagB L = true) := by unfold Hid dagB; rw [HR.out, hin.out]; rfl
      have hB := Lib.hid HS.out.below
      clear HS HR
      go_wp2_with fail
      go_ret
      exact ⟨ret_bool hch.out.symm, hB.out⟩
end Go.Proofs.YtnfjgebfmnpkbaaGreat

/- Contracts: the sources of a graph, on both sides. -/
namespace Go.Proofs.YtnfjgebfmnpkbaaGreat
open Go.RowKit

/-- The first m nodes of which p holds. -/
def nodL (p : Nat → Bool) (m : Nat) : List Int := ((List.range m).filter p).map fun (x : Nat) => (x : Int)
theorem nodL_succ (p : Nat → Bool) (m : Nat) : nodL p (m + 1) = nodL p m ++ (if p m then [(m : Int)] else []) := by
  unfold nodL
  rw [List.range_succ, List.filter_append, List.map_append]
  cases h : p m <;> simp [h]
theorem nodL_len (p : Nat → Bool) (m : Nat) : (nodL p m).length ≤ m := by
  unfold nodL; rw [List.length_map]; exact Nat.le_trans (List.length_filter_le _ _) (by simp)
theorem nodL_mem {p : Nat → Bool} {m : Nat} : ∀ x ∈ nodL p m, 0 ≤ x ∧ x < m := fun x hx => by
  unfold nodL at hx
  obtain ⟨k, hk, rfl⟩ := List.mem_map.1 hx
  have := List.mem_range.1 (List.mem_filter.1 hk).1
  omega
theorem nodL_in {p : Nat → Bool} {m v : Nat} (hv : v < m) (h : p v = true) : (v : Int) ∈ nodL p m := by
  unfold nodL
  exact List.mem_map.2 ⟨v, List.mem_filter.2 ⟨List.mem_range.2 hv, h⟩, rfl⟩
def srcP (D : List (List Int)) (x : Nat) : Bool := (D.getD x []).length == 0
theorem srcP_at {D : List (List Int)} {x : Nat} (h : x < D.length) : srcP D x = (D[x].length == 0) := by unfold srcP; rw [getD_row h]
/-- The sources. -/
def srcV (D : List (List Int)) : List Int := if dagB D then nodL (srcP D) D.length else []
/-- A list that is told or not. -/
def ROut (xs : List Int) (ok : Bool) (w : World) (e : Ending) (w' : World) : Prop := ∃ A c, e = .returned (.tuple #[.slice A xs.length c, .bool ok]) ∧ IntsAt w' A xs ∧ Below w.heap.size w w'
theorem ints_no (w : World) (A : Option Addr) : IntsAt w A [] := ⟨fun j hj => absurd hj (by simp), fun x hx => by cases hx⟩

set_option maxRecDepth 100000 in
set_option maxHeartbeats 4000000 in
theorem implSources_any (A : Option Addr) (cap : Nat) (D : List (List Int)) (w : World) (hx : ClsAt w A D) (hl : D.length ≤ 1000) (hs : ∀ l ∈ D, l.length ≤ 1000) :
    Calls Tryz.prog 9 #[.agg #[.slice A D.length cap]] w (ROut (srcV D) (dagB D) w) := by
  obtain ⟨i0, hi0, hy0, hy1, hy2⟩ := info_parts infoInt
  have S0 := (Sp.start w).alloc_box #[.slice A D.length cap] 26
  have c0 := S0.cell (i := 0) rfl (o := 0) rfl
  have hX := Lib.hid hx
  have hic := implIsDag_any A cap D _ (hx.grow S0.below) hl hs
  unfold srcV
  cases h : dagB D with
  | false =>
    rw [h] at hic
    rw [if_neg (by simp)]
    replace hic := Lib.hid hic
    have hB := Lib.hid S0.below
    clear h hx S0
    go_enter Tryz.func9, Tryz.ntmps9
    go_wp2_with fail
    refine hic.out.mono ?_
    rintro e w1 ⟨rfl, hb1⟩
    have hB1 := Lib.hid (btr hB.out hb1)
    clear hic hB hb1 c0
    go_wp2_with fail
    go_ret2
    exact ⟨none, 0, rfl, ints_no _ _, hB1.out⟩
  | true =>
    rw [h] at hic
    rw [if_pos rfl]
    replace hic := Lib.hid hic
    have h10 := (dag_parts h).1
    clear h hx
    replace S0 := Lib.hid S0
    go_enter Tryz.func9, Tryz.ntmps9
    go_wp2_with fail
    refine hic.out.mono ?_
    rintro e w1 ⟨rfl, hb1⟩
    have S1 := Lib.hid (((S0.out.grow hb1).own_nil 3 1))
    have c1 := S1.out.cell (i := 1) rfl (o := 0) rfl
    clear S0 hic hb1 c0
    go_wp2_with fail
    clear c1
    go_loopw [4, 13] (fun v4 v13 wr => ∃ (x : Nat) (B : Option Addr) (c : Nat) (ys : List Int), x ≤ D.length ∧ v13 = .int .i64 x ∧ v4 = .slice B ys.length c ∧ Hid (ys = nodL (srcP D) x) ∧ Hid (Sp w wr [Own 3 1 (.slice B ys.length c) ys.length (ys.map (.int .i64)), Box w.heap.size 26 #[.slice A D.length cap]])) (fun _ v13 _ => D.length - (intOf v13).toNat)
    case atStart => exact ⟨0, none, 0, [], Nat.zero_le _, rfl, rfl, rfl, S1⟩
    case round =>
      clear S1
      obtain ⟨x, B, c, ys, hxl, rfl, rfl, hys, HS⟩ := hrel
      by_cases hlt : x < D.length
      · obtain ⟨b, off, E, dc, hA, m0, hI⟩ := (hX.out.grow HS.out.below).at_ x hlt
        subst hA
        have hsl := hs _ (List.getElem_mem hlt)
        have hst := nodL_succ (srcP D) x
        rw [srcP_at hlt] at hst
        have hyl : ys.length ≤ 1000 := by rw [hys.out]; exact Nat.le_trans (nodL_len _ _) (by omega)
        generalize D[x] = l at *
        clear hI
        obtain ⟨n, hn⟩ : ∃ n, l.length = n := ⟨_, rfl⟩
        rw [hn] at hst m0 hsl
        by_cases h0 : n = 0
        · subst h0
          replace hn := Lib.hid hn
          have hn2 : Hid (ys ++ [(x : Int)] = nodL (srcP D) (x + 1)) := by unfold Hid; rw [hst, hys.out]; rfl
          replace hst := Lib.hid hst
          clear hys
          have S3 := HS.out.alloc_box #[.int .i64 (x : Int)] 3
          (try simp only [World.size_setCell] at S3)
          have kB := S3.cell (i := 0) rfl (o := 0) rfl
          replace S3 := Lib.hid S3
          clear HS
          go_wp2_with (at_builtin; refine wpList_append_src rfl _ _ rfl Tryz.underlying33 hi0 hy0 hy1 hy2 rfl (by decide) _ _ _ rfl (S3.out.own (i := 1) rfl) _ 1 1 [.int .i64 (x : Int)] rfl (Src.one kB) (by simp [Value.oneCell']) ?c3 ?c4 ?_)
          case c3 => unfold maxLen; omega
          case c4 => omega
          intro vY wY hownY hgY hatY
          have S4 := (S3.out.own_push (i := 1) rfl (bb _) hownY hgY (by simpa using hatY)).tail
          obtain ⟨aY, cY, rfl⟩ := own_slice hownY
          have S5 := Lib.hid (ownI_snoc (d := ys) (x := (x : Int)) S4)
          clear S3 S4 kB hownY hgY hatY
          have hlen : ys.length + 1 = (ys ++ [(x : Int)]).length := by simp
          rw [hlen]
          replace hlen := Lib.hid hlen
          clear hlen
          go_wp2_with fail
          go_roundw
          case rel => exact ⟨x + 1, aY, cY, ys ++ [(x : Int)], by omega, by go_num, by simp, hn2, S5⟩
          case measure => simp [intOf]; omega
        · have hz : (n == 0) = false := by simp [h0]
          have hn2 : Hid (ys = nodL (srcP D) (x + 1)) := by unfold Hid; rw [hst, hz, hys.out]; simp
          replace hst := Lib.hid hst
          replace hn := Lib.hid hn
          go_wp2_with fail
          go_roundw
          case rel => exact ⟨x + 1, B, c, ys, by omega, by go_num, rfl, hn2, HS⟩
          case measure => simp [intOf]; omega
      · obtain rfl : x = D.length := by omega
        have hI := Lib.hid (HS.out.ints (i := 0) rfl (by rw [hys.out]; exact fun y hy => by have := nodL_mem y hy; unfold I64; omega))
        have hB := Lib.hid HS.out.below
        have hy := hys.out
        subst hy
        clear HS hys
        go_wp2_with fail
        go_ret2
        exact ⟨B, c, rfl, hI.out, hB.out⟩

set_option maxRecDepth 100000 in
set_option maxHeartbeats 4000000 in
theorem specSources_any (A : Option Addr) (cap : Nat) (D : List (List Int)) (w : World) (hx : ClsAt w A D) (hl : D.length ≤ 1000) (hs : ∀ l ∈ D, l.length ≤ 1000) :
    Calls Tryz.prog 10 #[.agg #[.slice A D.length cap]] w (ROut (srcV D) (dagB D) w) := by
  obtain ⟨i0, hi0, hy0, hy1, hy2⟩ := info_parts infoInt
  have S0 := ((Sp.start w).alloc_box #[.slice A D.length cap] 26).own_made 3 1
  simp only [World.size_alloc] at S0
  have c0 := S0.cell (i := 1) rfl (o := 0) rfl
  have hX := Lib.hid hx
  have hic := l14Good_any A cap D _ (hx.grow S0.below) hl hs
  unfold srcV
  cases h : dagB D with
  | false =>
    rw [h] at hic
    rw [if_neg (by simp)]
    replace hic := Lib.hid hic
    have hB := Lib.hid S0.below
    clear h hx S0
    go_enter Tryz.func10, Tryz.ntmps10
    go_wp2_with fail
    refine hic.out.mono ?_
    rintro e w1 ⟨rfl, hb1⟩
    have hB1 := Lib.hid (btr hB.out hb1)
    clear hic hB hb1 c0
    go_wp2_with fail
    go_ret2
    exact ⟨_, 0, rfl, ints_no _ _, hB1.out⟩
  | true =>
    rw [h] at hic
    rw [if_pos rfl]
    replace hic := Lib.hid hic
    have h10 := (dag_parts h).1
    clear h hx
    replace S0 := Lib.hid S0
    go_enter Tryz.func10, Tryz.ntmps10
    go_wp2_with fail
    refine hic.out.mono ?_
    rintro e w1 ⟨rfl, hb1⟩
    have S1 := Lib.hid (S0.out.grow hb1)
    clear S0 hic hb1 c0
    go_wp2_with fail
    go_loopw [4, 5] (fun v4 v13 wr => ∃ (x : Nat) (B : Option Addr) (c : Nat) (ys : List Int), x ≤ D.length ∧ v13 = .int .i64 x ∧ v4 = .slice B ys.length c ∧ Hid (ys = nodL (srcP D) x) ∧ Hid (Sp w wr [Own 3 1 (.slice B ys.length c) ys.length (ys.map (.int .i64)), Box w.heap.size 26 #[.slice A D.length cap]])) (fun _ v13 _ => D.length - (intOf v13).toNat)
    case atStart => exact ⟨0, _, 0, [], Nat.zero_le _, rfl, rfl, rfl, S1⟩
    case round =>
      clear S1
      obtain ⟨x, B, c, ys, hxl, rfl, rfl, hys, HS⟩ := hrel
      have c0 := HS.out.cell (i := 1) rfl (o := 0) rfl
      by_cases hlt : x < D.length
      · obtain ⟨b, off, E, dc, hA, m0, hI⟩ := (hX.out.grow HS.out.below).at_ x hlt
        subst hA
        have hsl := hs _ (List.getElem_mem hlt)
        have hst := nodL_succ (srcP D) x
        rw [srcP_at hlt] at hst
        have hyl : ys.length ≤ 1000 := by rw [hys.out]; exact Nat.le_trans (nodL_len _ _) (by omega)
        generalize D[x] = l at *
        clear hI
        obtain ⟨n, hn⟩ : ∃ n, l.length = n := ⟨_, rfl⟩
        rw [hn] at hst m0 hsl
        by_cases h0 : n = 0
        · subst h0
          replace hn := Lib.hid hn
          have hn2 : Hid (ys ++ [(x : Int)] = nodL (srcP D) (x + 1)) := by unfold Hid; rw [hst, hys.out]; rfl
          replace hst := Lib.hid hst
          clear hys
          have S3 := HS.out.alloc_box #[.int .i64 (x : Int)] 3
          (try simp only [World.size_setCell] at S3)
          have kB := S3.cell (i := 0) rfl (o := 0) rfl
          replace S3 := Lib.hid S3
          clear HS
          go_wp2_with (at_builtin; refine wpList_append_src rfl _ _ rfl Tryz.underlying33 hi0 hy0 hy1 hy2 rfl (by decide) _ _ _ rfl (S3.out.own (i := 1) rfl) _ 1 1 [.int .i64 (x : Int)] rfl (Src.one kB) (by simp [Value.oneCell']) ?c3 ?c4 ?_)
          case c3 => unfold maxLen; omega
          case c4 => omega
          intro vY wY hownY hgY hatY
          have S4 := (S3.out.own_push (i := 1) rfl (bb _) hownY hgY (by simpa using hatY)).tail
          obtain ⟨aY, cY, rfl⟩ := own_slice hownY
          have S5 := Lib.hid (ownI_snoc (d := ys) (x := (x : Int)) S4)
          clear S3 S4 kB hownY hgY hatY
          have hlen : ys.length + 1 = (ys ++ [(x : Int)]).length := by simp
          rw [hlen]
          replace hlen := Lib.hid hlen
          clear hlen
          go_wp2_with fail
          go_roundw
          case rel => exact ⟨x + 1, aY, cY, ys ++ [(x : Int)], by omega, by go_num, by simp, hn2, S5⟩
          case measure => simp [intOf]; omega
        · have hz : (n == 0) = false := by simp [h0]
          have hn2 : Hid (ys = nodL (srcP D) (x + 1)) := by unfold Hid; rw [hst, hz, hys.out]; simp
          replace hst := Lib.hid hst
          replace hn := Lib.hid hn
          go_wp2_with fail
          go_roundw
          case rel => exact ⟨x + 1, B, c, ys, by omega, by go_num, rfl, hn2, HS⟩
          case measure => simp [intOf]; omega
      · obtain rfl : x = D.length := by omega
        have hI := Lib.hid (HS.out.ints (i := 0) rfl (by rw [hys.out]; exact fun y hy => by have := nodL_mem y hy; unfold I64; omega))
        have hB := Lib.hid HS.out.below
        have hy := hys.out
        subst hy
        clear HS hys
        go_wp2_with fail
        go_ret2
        exact ⟨B, c, rfl, hI.out, hB.out⟩
end Go.Proofs.YtnfjgebfmnpkbaaGreat
