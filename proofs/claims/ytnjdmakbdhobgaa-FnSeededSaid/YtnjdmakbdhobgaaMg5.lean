/- Lemmas and contracts for a law, put together out of several texts: CoN CoO CoI CoH CoJ CoL CtA CtB RsA SdA OwnS SdC SdD SdE SdF SdG SdH SdI CurR SdJ SdK SdL MdQ AsC AsD TcA MdK MdS PnC AsE CtC. -/
import Derived.Test.YtnjdmakbdhobgaaMg4
import Derived.Laws.Append
import Derived.Deep.DeepCutAuto
import Derived.Laws.EntriesVeiled
import Derived.Test.YtnjdmakbdhobgaaMg1
import Derived.Lib.Hide
import Derived.Deep.QuietTactic
import Derived.BigQuiet
import Derived.Lib.QuietBelow
import Derived.Test.YtnjdmakbdhobgaaShelf
import Derived.Sort.OwnSortedInts
import Derived.Test.YtnjdmakbdhobgaaMg3
import Derived.Test.YtnjdmakbdhobgaaMg2
import Derived.Shelf.Spec.SlicesGrow
import Derived.Laws.BitsLemmas
/- Contracts: all ascending lists of a length, in the program. -/
namespace Go.Proofs.Ytnjdmakbdhobgaa
open Go.RowKit

theorem run_append_keep2 {P : Program} {w : World} {t ty e : TypeId} {i : TypeInfo} {z : Value} {size bytes : Nat} (ht : P.underlying t = some (.slice e)) (hi : P.info? e = some i) (hz : i.zero = some z)
    (hsize : i.size = size) (hby : i.bytes = bytes) (hzs : z.cells.size = size) (hsz : 0 < size)
    (v : Value) (n : Nat) (xs : List Value) (hown : w.ownsRow 0 e size v n xs)
    (a : Addr) (m c : Nat) (news : List Value) (hl : news.length = m * size) (hnews : ∀ j u, news[j]? = some u → w.cell? (a.add j) = some u) (h1 : ∀ u ∈ news, u.oneCell' = true)
    (h63 : n + m ≤ maxLen) (hbytes : (n + m) * bytes ≤ 140737488355328) (hm : 0 < m) :
    ∃ v' w', (Builtin.append_ #[t, t] ty #[v, .slice (some a) m c]).run P w = .ok v' w' ∧ w'.ownsRow 0 e size v' (n + m) (xs ++ news) ∧ w.grownBy w' v.ownBlock ∧
      ((∃ A cap, v = .slice A n cap ∧ v' = .slice A (n + m) cap) ∨ (v'.ownBlock = some w.heap.size ∧ Below w.heap.size w w')) := by
  obtain ⟨v', w', hr, h2, h3, _, h5⟩ := run_append_own_at (P := P) w 0 t ty e i z size bytes ht hi hz hsize hby hzs hsz v n xs hown a m c news hl hnews h1 h63 hbytes (Nat.zero_le _)
  refine ⟨v', w', hr, h2, h3, ?_⟩
  subst hsize
  subst hby
  have hsmall : n + m ≤ 9223372036854775807 := by unfold maxLen at h63; omega
  rcases id hown with ⟨hlen, ⟨rfl, rfl⟩ | ⟨g, cap, cur, rfl, hbg, hg, hnc, hcm, hcs, htake⟩⟩
  · refine .inr ⟨?_, ⟨h3.os, h3.tape, h3.output, h3.size, fun k hk => h3.block k hk (by simp [Value.ownBlock])⟩⟩
    rcases h5 with h5 | h5
    · obtain ⟨_, ⟨rfl, h0⟩ | ⟨g, cap, cur, rfl, _⟩⟩ := h2
      · omega
      · simp [Value.ownBlock] at h5
    · exact h5
  · by_cases hroom : n + m ≤ cap
    · have hfit : n * i.size + news.length ≤ cur.size := by rw [hl, hcs, ← Nat.add_mul]; exact Nat.mul_le_mul_right _ hroom
      have hr2 := run_append_room (P := P) w t ty e i ht hi g n cap cur hg a m c news hl hnews h1 hroom hfit
      rw [hr] at hr2
      injection hr2 with e1 e2
      subst e1
      exact .inl ⟨_, cap, rfl, rfl⟩
    · have holds : ∀ j u, xs[j]? = some u → w.cell? ((⟨g, 0, none⟩ : Addr).add j) = some u := hown.cells (g := g) rfl
      have hr2 := run_append_grow (P := P) w t ty e i z ht hi hz ⟨g, 0, none⟩ n cap xs hlen holds a m c news hl hnews (by omega) (by omega) (growslice_fits (by omega) hbytes)
      rw [hr] at hr2
      injection hr2 with e1 e2
      subst e2
      refine .inr ⟨?_, bal (bdr (bb w)) _⟩
      rcases h5 with h5 | h5
      · subst e1
        exact absurd h5 (by
          simp only [Value.ownBlock]
          intro h
          have hlt := owns_lt hown (g := g) rfl
          simp at h
          omega)
      · exact h5
theorem step_append_keep {P : Program} {w : World} {t e : TypeId} {i : TypeInfo} {z : Value} {size bytes : Nat} {ops : Array Oper} {o : Oper} {a : Act} {K : Act → World → Prop} {Q : Exit → Act → World → Prop} {E : Prop} (hgd : o.guard = none) (s x : Operand)
    (ho : o.op = .call { callee := .builtin .append, args := #[s, x], argTypes := #[t, t] })
    (ht : P.underlying t = some (.slice e)) (hi : P.info? e = some i) (hz : i.zero = some z) (hsize : i.size = size) (hby : i.bytes = bytes) (hzs : z.cells.size = size) (hsz : 0 < size)
    (v : Value) (n : Nat) (xs : List Value) (hs : a.eval s = v) (hown : w.ownsRow 0 e size v n xs) (ad : Addr) (m c : Nat) (news : List Value) (hx : a.eval x = .slice (some ad) m c) (hl : news.length = m * size) (hnews : ∀ j u, news[j]? = some u → w.cell? (ad.add j) = some u) (h1 : ∀ u ∈ news, u.oneCell' = true)
    (h63 : n + m ≤ maxLen) (hbytes : (n + m) * bytes ≤ 140737488355328) (hm : 0 < m)
    (h : ∀ v' w', w'.ownsRow 0 e size v' (n + m) (xs ++ news) → w.grownBy w' v.ownBlock → ((∃ A cap, v = .slice A n cap ∧ v' = .slice A (n + m) cap) ∨ (v'.ownBlock = some w.heap.size ∧ Below w.heap.size w w')) → K (a.put o.dst v') w') :
    if Region.wanted o (yielded ops a.tmps) = true then Oper.wp P o a w K Q else E := by
  have hw : Region.wanted o (yielded ops a.tmps) = true := by simp [Region.wanted, hgd]
  rw [if_pos hw]
  obtain ⟨v', w', hr, h2, h3, h4⟩ := run_append_keep2 (P := P) (w := w) (ty := o.type) ht hi hz hsize hby hzs hsz v n xs hown ad m c news hl hnews h1 h63 hbytes hm
  unfold Oper.wp execOp
  simp only [ho, resolve, invoke, builtin, Sem.run_bind, Sem.run_pure, Result.andThen_ok, List.map_toArray, List.map_cons, List.map_nil, hs, hx, hr]
  exact h v' w' h2 h3 h4

/-- The lists that go on from one. -/
def goL (M : Nat) (xs : List Nat) (d a : Nat) : List (List Int) := (combs M d a).map fun t => ofN (xs ++ t)
def soL (M : Nat) (xs : List Nat) (d a v : Nat) : List (List Int) := (List.range' a (v - a)).flatMap fun u => goL M (xs ++ [u]) d (u + 1)
theorem goL_zero (M : Nat) (xs : List Nat) (a : Nat) : goL M xs 0 a = [ofN xs] := by simp [goL, combs]
theorem soL_start (M : Nat) (xs : List Nat) (d a : Nat) : soL M xs d a a = [] := by simp [soL]
theorem soL_next {M : Nat} {xs : List Nat} {d a v : Nat} (h : a ≤ v) : soL M xs d a (v + 1) = soL M xs d a v ++ goL M (xs ++ [v]) d (v + 1) := by
  unfold soL
  rw [show v + 1 - a = (v - a) + 1 by omega, List.range'_concat, List.flatMap_append]
  simp only [Nat.one_mul, List.flatMap_cons, List.flatMap_nil, List.append_nil]
  rw [show a + (v - a) = v by omega]
theorem soL_all (M : Nat) (xs : List Nat) (d a : Nat) : goL M xs (d + 1) a = soL M xs d a M := by
  unfold goL soL combs
  rw [List.map_flatMap]
  congr 1
  funext u
  rw [List.map_map]
  unfold goL
  apply List.map_congr_left
  intro t _
  simp
theorem soL_mono {M : Nat} {xs : List Nat} {d a : Nat} : ∀ {v : Nat} (j : Nat), a ≤ v → (soL M xs d a v).length ≤ (soL M xs d a (v + j)).length
  | v, 0, _ => Nat.le_refl _
  | v, j + 1, h => by
    have := soL_mono (M := M) (xs := xs) (d := d) (v := v) j h
    rw [show v + (j + 1) = (v + j) + 1 from rfl, soL_next (by omega), List.length_append]
    omega
theorem soL_over {M : Nat} {xs : List Nat} {d a : Nat} (h : M ≤ a) : goL M xs (d + 1) a = [] := by
  rw [soL_all]
  unfold soL
  rw [show M - a = 0 by omega]; rfl
theorem combs_len (M : Nat) : ∀ (d a : Nat), (combs M d a).length ≤ 2 ^ (M - a)
  | 0, a => by simp [combs]; exact Nat.one_le_two_pow
  | d + 1, a => by
    have key : ∀ j b, j = M - b → ((List.range' b j).flatMap fun v => (combs M d (v + 1)).map (v :: ·)).length ≤ 2 ^ j := by
      intro j
      induction j with
      | zero => intro b _; simp
      | succ j ih =>
        intro b hb
        rw [List.range'_succ, List.flatMap_cons, List.length_append, List.length_map]
        have h1 := combs_len M d (b + 1)
        have h2 := ih (b + 1) (by omega)
        rw [show M - (b + 1) = j by omega] at h1
        rw [Nat.pow_succ]; omega
    exact key (M - a) a rfl
end Go.Proofs.Ytnjdmakbdhobgaa

/- Contract: the recursive closure that lists ascending lists, in the program. -/
namespace Go.Proofs.Ytnjdmakbdhobgaa
open Go.RowKit

theorem Sp.move_in {w0 w : World} {q r a b c d e f : Asn} {ps : List Asn} (h : Sp w0 w (q :: r :: a :: b :: c :: d :: e :: f :: ps)) : Sp w0 w (q :: a :: b :: c :: d :: e :: f :: r :: ps) := by
  have h1 : Sp w0 w (f :: q :: r :: a :: b :: c :: d :: e :: ps) := h.bring (i := 7) rfl
  have h2 : Sp w0 w (e :: f :: q :: r :: a :: b :: c :: d :: ps) := h1.bring (i := 7) rfl
  have h3 : Sp w0 w (d :: e :: f :: q :: r :: a :: b :: c :: ps) := h2.bring (i := 7) rfl
  have h4 : Sp w0 w (c :: d :: e :: f :: q :: r :: a :: b :: ps) := h3.bring (i := 7) rfl
  have h5 : Sp w0 w (b :: c :: d :: e :: f :: q :: r :: a :: ps) := h4.bring (i := 7) rfl
  have h6 : Sp w0 w (a :: b :: c :: d :: e :: f :: q :: r :: ps) := h5.bring (i := 7) rfl
  exact h6.bring (i := 6) rfl
theorem Sp.move_out {w0 w : World} {q r a b c d e f : Asn} {ps : List Asn} (h : Sp w0 w (q :: a :: b :: c :: d :: e :: f :: r :: ps)) : Sp w0 w (r :: a :: b :: c :: d :: e :: f :: ps) := by
  have h1 : Sp w0 w (r :: q :: a :: b :: c :: d :: e :: f :: ps) := h.bring (i := 7) rfl
  exact h1.swap.tail
theorem cloneAny (xs : List Nat) (D : Option Addr) (dc : Nat) (w : World) (hx : IntsAt w D (ofN xs)) (hl : xs.length ≤ 1000000) (hD : xs = [] → D = none) :
    Calls Try.prog 67 #[.slice D xs.length dc] w fun e w' => ∃ B c, e = .returned (.slice B xs.length c) ∧ Sp w w' [Row Ty.int (.slice B xs.length c) (ofN xs)] := by
  rcases Nat.eq_zero_or_pos xs.length with h0 | h0
  · obtain rfl : xs = [] := List.length_eq_zero_iff.1 h0
    obtain rfl := hD rfl
    have hnil := fun w : World => Lib.run_eql_slice_nil (P := Try.prog) w 33 3 none 0 dc 0 0 Try.underlying33
    clear hx hD hl h0
    go_enter Try.func67, Try.ntmps67
    go_wp2_with fail
    go_ret
    exact ⟨none, 0, rfl, (Sp.start w).row_new (F := []) (bb w) (Ty.row_nil _ _ _ _ _ (by decide)) (by simp) (by simp)⟩
  · refine (cloneI_any D xs.length dc (ofN xs) w hx (ofN_len xs) hl h0).mono ?_
    rintro e w' ⟨g, c, rfl, T⟩
    have ho := T.owns_end (i := 0) rfl
    have e2 : xs.length = (ofN xs).length := (ofN_len xs).symm
    rw [e2] at ho ⊢
    obtain ⟨F, hr, hn, hF⟩ := own_row ho hx.2
    exact ⟨_, c, rfl, (Sp.start w).row_new T.below hr hn hF⟩

/- left out: the seat has no func([]int, int) -/

/- left out: the seat has no impl.choices$1 -/
end Go.Proofs.Ytnjdmakbdhobgaa

/- Contracts: lists of indices in ascending order, on both sides. -/
namespace Go.Proofs.Ytnjdmakbdhobgaa
open Go.RowKit

/-- An index that fits, above the one ahead of it. -/
def rOk (m : Int) (l : List Int) (i : Nat) : Bool := inB (l.getD i 0) 0 (m - 1) && (i == 0 || decide (l.getD (i - 1) 0 < l.getD i 0))
def rOkTo (m : Int) (l : List Int) (k : Nat) : Bool := (List.range k).all (rOk m l)
theorem rOkTo_succ (m : Int) (l : List Int) (k : Nat) : rOkTo m l (k + 1) = (rOkTo m l k && rOk m l k) := by simp [rOkTo, List.range_succ]
def risB (m : Int) (l : List Int) : Bool := rOkTo m l l.length
theorem ris_no {m : Int} {l : List Int} {k : Nat} (hk : k < l.length) (h : rOk m l k = false) : risB m l = false := by
  unfold risB rOkTo
  rw [List.all_eq_false]
  exact ⟨k, List.mem_range.2 hk, by rw [h]; decide⟩
theorem ris_step {m : Int} {l : List Int} {k : Nat} (h0 : rOkTo m l k = true) (h : rOk m l k = true) : rOkTo m l (k + 1) = true := by rw [rOkTo_succ, h0, h]; rfl
theorem rOk_zero (m : Int) (l : List Int) (h : 0 < l.length) : rOk m l 0 = inB l[0] 0 (m - 1) := by simp [rOk, List.getD_eq_getElem?_getD, List.getElem?_eq_getElem h]
theorem rOk_succ (m : Int) (l : List Int) (k : Nat) (h : k + 1 < l.length) : rOk m l (k + 1) = (inB l[k + 1] 0 (m - 1) && decide ((l[k]'(by omega)) < l[k + 1])) := by
  simp [rOk, List.getD_eq_getElem?_getD, List.getElem?_eq_getElem h, List.getElem?_eq_getElem (show k < l.length by omega)]
theorem l1InB {x lo hi : Int} {q : Bool} (h : inB x lo hi = q) (w : World) : Calls Try.prog 22 #[.int .i64 x, .int .i64 lo, .int .i64 hi] w fun e w' => e = .returned (.bool q) ∧ Below w.heap.size w w' := h ▸ same_below (l1In_any x lo hi w)
theorem withinB {x lo hi : Int} {q : Bool} (h : inB x lo hi = q) (w : World) : Calls Try.prog 16 #[.int .i64 x, .int .i64 lo, .int .i64 hi] w fun e w' => e = .returned (.bool q) ∧ Below w.heap.size w w' := h ▸ same_below (within_any x lo hi w)

/- left out: the seat has no spec.l1Rising -/

/- left out: the seat has no impl.indicesOk -/

theorem ris_bound {m : Int} {l : List Int} (h : risB m l = true) {i : Nat} (hi : i < l.length) : 0 ≤ l[i] ∧ l[i] ≤ m - 1 := by
  have h2 := List.all_eq_true.1 h i (List.mem_range.2 hi)
  unfold rOk at h2
  rw [Bool.and_eq_true, List.getD_eq_getElem?_getD, List.getElem?_eq_getElem hi] at h2
  exact inB_true.1 h2.1
theorem ris_lt {m : Int} {l : List Int} (h : risB m l = true) {i : Nat} (hi : i + 1 < l.length) : l[i]'(by omega) < l[i + 1] := by
  have h2 := List.all_eq_true.1 h (i + 1) (List.mem_range.2 hi)
  rw [rOk_succ _ _ _ hi, Bool.and_eq_true] at h2
  exact of_decide_eq_true h2.2
/-- A list of indices that is valid, as natural numbers. -/
theorem ris_nat {m : Nat} {l : List Int} (h : risB m l = true) : ∃ is : List Nat, l = ofN is ∧ AscN m is := by
  refine ⟨l.map Int.toNat, ?_, ?_, ?_⟩
  · unfold ofN
    rw [List.map_map]
    apply List.ext_getElem
    · simp
    · intro i h1 h2
      have := ris_bound h h1
      simp only [List.getElem_map, Function.comp]
      omega
  · have hp : l.Pairwise (fun a b => a.toNat < b.toNat) := by
      have hmono : ∀ d i, i + d + 1 < l.length → ∀ (h1 : i < l.length) (h2 : i + d + 1 < l.length), l[i] < l[i + d + 1] := by
        intro d
        induction d with
        | zero => intro i _ h1 h2; exact ris_lt h h2
        | succ d ih =>
          intro i hh h1 h2
          have a := ih i (by omega) h1 (by omega)
          have b := ris_lt h (i := i + d + 1) (by omega)
          exact Int.lt_trans a b
      rw [List.pairwise_iff_getElem]
      intro i j hi hj hij
      have a := hmono (j - i - 1) i (by omega) hi (by omega)
      have e : i + (j - i - 1) + 1 = j := by omega
      simp only [e] at a
      have b1 := ris_bound h hi
      have b2 := ris_bound h hj
      omega
    exact List.pairwise_map.2 hp
  · intro i hi
    obtain ⟨x, hx, rfl⟩ := List.mem_map.1 hi
    obtain ⟨j, hj, rfl⟩ := List.getElem_of_mem hx
    have := ris_bound h hj
    omega
end Go.Proofs.Ytnjdmakbdhobgaa

/- Contract: the core of a Cnf, in the reference. -/
namespace Go.Proofs.Ytnjdmakbdhobgaa
open Go.RowKit

def lenV (v : Value) : Nat := match v with
  | .slice _ n _ => n
  | _ => 0
theorem own_cap {w : World} {B : Nat} {e : TypeId} {size n c : Nat} {A : Option Addr} {xs : List Value} (h : w.ownsRow B e size (.slice A n c) n xs) : n ≤ c := by
  obtain ⟨_, ⟨h1, _⟩ | ⟨g, cap, cur, h1, _, _, hn, _⟩⟩ := h
  · cases h1; exact Nat.le_refl _
  · cases h1; exact hn

/-- The answer's own row, where there is one. -/
def IOwn (w : World) (ok : Bool) (zs : List Int) (e : Ending) (w' : World) : Prop :=
  ∃ B cap, e = .returned (.tuple #[.slice B zs.length cap, .bool ok]) ∧ IntsAt w' B zs ∧ Below w.heap.size w w' ∧ (ok = true → Sp w w' [Own 3 1 (.slice B zs.length cap) zs.length (zs.map (.int .i64))])

/- left out: the seat has no spec.CoreOf -/

/- left out: the seat has no spec.CoreOf -/
end Go.Proofs.Ytnjdmakbdhobgaa

/- Contracts: cores and minimal cores, on both sides. Printed by gen_coj.py. -/
namespace Go.Proofs.Ytnjdmakbdhobgaa
open Go.RowKit

def natL (l : List Int) : List Nat := l.map Int.toNat
theorem natL_ofN (is : List Nat) : natL (ofN is) = is := by
  unfold natL ofN
  rw [List.map_map]
  have : (Int.toNat ∘ fun (i : Nat) => (i : Int)) = id := by funext i; simp
  rw [this, List.map_id]
theorem ris_natL {m : Nat} {l : List Int} (h : risB m l = true) : l = ofN (natL l) ∧ AscN m (natL l) := by
  obtain ⟨is, rfl, h2⟩ := ris_nat h
  rw [natL_ofN]
  exact ⟨rfl, h2⟩
/-- No index is superfluous. -/
def minB (n : Nat) (xss : List (List Int)) (is : List Nat) : Bool := (List.range is.length).all fun k => !coreB n xss (is.eraseIdx k)
theorem min_no {n : Nat} {xss : List (List Int)} {is : List Nat} {k : Nat} (hk : k < is.length) (h : coreB n xss (is.eraseIdx k) = true) : minB n xss is = false := by
  unfold minB
  rw [List.all_eq_false]
  exact ⟨k, List.mem_range.2 hk, by rw [h]; decide⟩
theorem min_next {n : Nat} {xss : List (List Int)} {is : List Nat} {k : Nat} (h0 : ((List.range k).all fun k => !coreB n xss (is.eraseIdx k)) = true) (h : coreB n xss (is.eraseIdx k) = false) : ((List.range (k + 1)).all fun k => !coreB n xss (is.eraseIdx k)) = true := by
  rw [List.range_succ, List.all_append, h0]
  simp [h]
theorem ofN_eraseIdx (is : List Nat) (k : Nat) : (ofN is).eraseIdx k = ofN (is.eraseIdx k) := by
  unfold ofN
  rw [List.eraseIdx_eq_take_drop_succ, List.eraseIdx_eq_take_drop_succ, List.map_append, List.map_take, List.map_drop]
theorem AscN.erase {m : Nat} {is : List Nat} (h : AscN m is) (k : Nat) : AscN m (is.eraseIdx k) := h.sub (List.eraseIdx_sublist _ _)

/- left out: the seat has no spec.l5Takes -/

/- left out: the seat has no impl.IsCore -/

/- left out: the seat has no impl.IsMinimalCore -/

/- left out: the seat has no spec.IsCore -/

/- left out: the seat has no spec.IsMinimalCore -/

end Go.Proofs.Ytnjdmakbdhobgaa

/- Contract: the first core of a size, in the reference. Printed by gen_col.py. -/
namespace Go.Proofs.Ytnjdmakbdhobgaa
open Go.RowKit

/-- What is told of a search. -/
def ChP (w : World) (r : Option (List Nat)) (e : Ending) (w' : World) : Prop := ∃ (B : Option Addr) (c : Nat) (out : List Int), e = .returned (.tuple #[.slice B out.length c, .bool r.isSome]) ∧ (∀ is, r = some is → out = ofN is) ∧ (∀ x ∈ out, I64 x) ∧
  Sp w w' [Own 3 1 (.slice B out.length c) out.length (out.map (.int .i64))]
/-- Where a list goes on. -/
def nextA (l : List Nat) : Nat := match l.getLast? with
  | none => 0
  | some x => x + 1
theorem nextA_snoc (l : List Nat) (i : Nat) : nextA (l ++ [i]) = i + 1 := by simp [nextA]
theorem nextA_nil : nextA [] = 0 := rfl
theorem drew_size2 (w : World) : w.drew.heap.size = w.heap.size := rfl
theorem nextA_at {l : List Nat} (h : 0 < l.length) : nextA l = l[l.length - 1] + 1 := by
  unfold nextA
  rw [List.getLast?_eq_getElem?, List.getElem?_eq_getElem (by omega)]
theorem asc_snoc {m i : Nat} {l : List Nat} (h : AscN m l) (hi : nextA l ≤ i) (him : i < m) : AscN m (l ++ [i]) := by
  refine ⟨List.pairwise_append.2 ⟨h.1, by simp, fun x hx y hy => ?_⟩, fun x hx => ?_⟩
  · obtain rfl : y = i := by simpa using hy
    have hlen : 0 < l.length := List.length_pos_of_mem hx
    have hn := nextA_at hlen
    obtain ⟨j, hj, rfl⟩ := List.getElem_of_mem hx
    have hle : l[j] ≤ l[l.length - 1] := by
      rcases Nat.lt_or_ge j (l.length - 1) with hlt | hge
      · exact Nat.le_of_lt (List.pairwise_iff_getElem.1 h.1 j (l.length - 1) hj (by omega) hlt)
      · have : j = l.length - 1 := by omega
        simp only [this]; exact Nat.le_refl _
    omega
  · rcases List.mem_append.1 hx with hx | hx
    · exact h.2 x hx
    · obtain rfl : x = i := by simpa using hx
      exact him
theorem own_snoc_ints {w0 W : World} {ps : List Asn} {j : Nat} {A : Option Addr} {c i m : Nat} {l : List Nat} {bl : Nat} (hbl : l.length = bl) (hm : m ≤ 1000000) (h : Sp w0 W ps) (hi : ps[j]? = some (Own 3 1 (.slice A (bl + 1) c) (bl + 1) ((ofN l).map (.int .i64) ++ [.int .i64 (i : Int)]))) (ha : AscN m (l ++ [i])) : IntsAt W A (ofN (l ++ [i])) := by
  subst hbl
  have ho := h.own hi
  have e1 : (ofN l).map (Value.int .i64) ++ [.int .i64 (i : Int)] = (ofN (l ++ [i])).map (.int .i64) := by unfold ofN; simp
  have e2 : l.length + 1 = (ofN (l ++ [i])).length := by rw [ofN_len]; simp
  rw [e1, e2] at ho
  obtain ⟨A', c', e3, hT⟩ := ints_own ho (ofN_ok hm ha)
  simp only [Value.slice.injEq] at e3
  obtain ⟨rfl, -, rfl⟩ := e3
  exact hT

/- left out: the seat has no spec.l5Choose -/
end Go.Proofs.Ytnjdmakbdhobgaa

/- Contract: the recursive closure that lists ascending lists, at every depth, where it stops at the limit. -/
namespace Go.Proofs.Ytnjdmakbdhobgaa
open Go.RowKit

/-- What comes until the limit is passed. -/
def capL {α : Type} (lim : Nat) (X : List α) : List α := X.take (lim + 1)
theorem capL_len {α : Type} {lim : Nat} (X : List α) : (capL lim X).length ≤ lim + 1 := by unfold capL; rw [List.length_take]; omega
theorem capL_all {α : Type} {lim : Nat} {X : List α} (h : X.length ≤ lim + 1) : capL lim X = X := List.take_of_length_le h
theorem capL_over {α : Type} {lim : Nat} {X : List α} (h : lim < (capL lim X).length) (Y : List α) : capL lim (X ++ Y) = capL lim X := by
  unfold capL at *; rw [List.length_take] at h; exact List.take_append_of_le_length (by omega)
theorem capL_step {α : Type} {lim : Nat} (X Y : List α) : capL lim (capL lim X ++ Y) = capL lim (X ++ Y) := by
  unfold capL
  rw [List.take_append, List.take_append, List.take_take, Nat.min_self, List.length_take]
  by_cases h : X.length ≤ lim + 1
  · rw [show min (lim + 1) X.length = X.length by omega]
  · rw [show lim + 1 - min (lim + 1) X.length = 0 by omega, show lim + 1 - X.length = 0 by omega]
theorem capL_mem {α : Type} {lim : Nat} {X : List α} {x : α} (h : x ∈ capL lim X) : x ∈ X := List.mem_of_mem_take h

/- left out: the seat has no impl.choices$1 -/

/- left out: the seat has no impl.choices$1 -/
end Go.Proofs.Ytnjdmakbdhobgaa

/- Contract: the ascending lists of a length, at most one more than the limit, in the program. -/
namespace Go.Proofs.Ytnjdmakbdhobgaa
open Go.RowKit

/- left out: the seat has no impl.choices -/
end Go.Proofs.Ytnjdmakbdhobgaa

/- Contracts: the laws' own comparisons of numbers. -/
namespace Go.Proofs.Ytnjdmakbdhobgaa
open Go.RowKit

/- left out: the seat has no laws.rBig -/

/- left out: the seat has no laws.rInts -/

set_option maxRecDepth 100000 in
set_option maxHeartbeats 4000000 in
theorem vInts_same (A A' : Option Addr) (c c' : Nat) (ns : List Int) (w : World) (hx : IntsAt w A ns) (hy : IntsAt w A' ns) (hl : ns.length ≤ 1000000) :
    Calls Try.prog 44 #[.slice A ns.length c, .slice A' ns.length c'] w fun e w' => e = .returned (.bool true) ∧ Below w.heap.size w w' := by
  have hN := Lib.hid hx
  have hM := Lib.hid hy
  clear hx hy
  go_enter Try.func44, Try.ntmps44
  go_wp2_with fail
  go_loopw [5] (fun i wr => ∃ k : Nat, k ≤ ns.length ∧ i = .int .i64 k ∧ Hid (Below w.heap.size w wr)) (fun i _ => ns.length - (intOf i).toNat)
  case atStart => exact ⟨0, Nat.zero_le _, rfl, bb _⟩
  case round =>
    obtain ⟨k, hk, rfl, HS⟩ := hrel
    by_cases hlt : k < ns.length
    · obtain ⟨b, off, rfl, m0⟩ := (hN.out.grow HS.out).at_ k hlt
      obtain ⟨b', off', rfl, p0⟩ := (hM.out.grow HS.out).at_ k hlt
      have k0 := cell_regrown m0
      have q0 := cell_regrown p0
      generalize ns[k] = v at *
      clear m0 p0
      go_wp2_with fail
      refine wp_region_quiet_below (by kernel_rfl) (by kernel_rfl) ?_
      repeat (any_goals (go_big_quiet_step (fail)))
      refine wpQuiet_nil ?_
      rintro w3 ⟨p, rfl⟩
      have HS4 := Lib.hid (btr HS.out (below_regrown _ p.d p.os))
      clear HS k0 q0
      go_wp2_with fail
      go_roundw
      case rel => exact ⟨k + 1, by omega, by go_num, HS4⟩
      case measure => simp [intOf]; omega
    · obtain rfl : k = ns.length := by omega
      have hB := HS.out
      go_wp2_with fail
      go_ret
      exact ⟨rfl, hB⟩
end Go.Proofs.Ytnjdmakbdhobgaa

/- Contracts: numbers sorted and without repetitions, in the library. -/
namespace Go.Proofs.Ytnjdmakbdhobgaa
open Go.RowKit Go.Sort

theorem sortI_any (xs : List Int) (B : Option Addr) (cc : Nat) (w0 w : World) (ps : List Asn) (S : Sp w0 w (Own 3 1 (.slice B xs.length cc) xs.length (xs.map (.int .i64)) :: ps)) (hl : xs.length ≤ 1000000) :
    Calls Try.prog 37 #[.slice B xs.length cc] w fun e w' => e = .returned (.tuple #[]) ∧ Sp w0 w' (Own 3 1 (.slice B xs.length cc) xs.length ((xs.mergeSort fun x y => decide (x ≤ y)).map (.int .i64)) :: ps) := by
  rcases Nat.eq_zero_or_pos xs.length with h0 | h0
  · obtain rfl : xs = [] := List.length_eq_zero_iff.1 h0
    refine (Try.slices_Sort_int_none B cc w).mono ?_
    rintro e w' ⟨rfl, rfl⟩
    refine ⟨rfl, ?_⟩
    rw [List.mergeSort_nil]
    exact S
  · obtain ⟨g, cap, cur, e1, h0', hg, hnc, hmx, hc, ht⟩ := own_block (S.own (i := 0) rfl) h0
    simp only [Value.slice.injEq] at e1
    obtain ⟨rfl, -, rfl⟩ := e1
    rw [Nat.mul_one] at ht
    have hH := holds_of_blockI hg ht
    refine (Try.slices_Sort_int g 0 cc xs w hH (S.own (i := 0) rfl |> fun h => owns_lt h rfl) (by omega)).mono ?_
    rintro e w' ⟨rfl, n, os, rfl⟩
    exact ⟨rfl, S.own_push (i := 0) rfl (bb _) (ownsRow_sortedI (List.length_mergeSort _) (Nat.zero_le _) hg hnc hmx hc) (grownBy_sortedI _) (.inl rfl)⟩

theorem compactI_any (xs : List Int) (B : Option Addr) (cc : Nat) (w0 w : World) (ps : List Asn) (S : Sp w0 w (Own 3 1 (.slice B xs.length cc) xs.length (xs.map (.int .i64)) :: ps)) (hl : xs.length ≤ 1000000) :
    Calls Try.prog 38 #[.slice B xs.length cc] w fun e w' => e = .returned (.slice B (Lib.compact xs).length cc) ∧ Sp w0 w' (Own 3 1 (.slice B (Lib.compact xs).length cc) (Lib.compact xs).length ((Lib.compact xs).map (.int .i64)) :: ps) := by
  rcases Nat.eq_zero_or_pos xs.length with h0 | h0
  · obtain rfl : xs = [] := List.length_eq_zero_iff.1 h0
    refine (Try.slices_Compact_int_empty B cc w).mono ?_
    rintro e w' ⟨rfl, rfl⟩
    exact ⟨rfl, S⟩
  · obtain ⟨g, cap, cur, e1, h0', hg, hnc, hmx, hc, ht⟩ := own_block (S.own (i := 0) rfl) h0
    simp only [Value.slice.injEq] at e1
    obtain ⟨rfl, -, rfl⟩ := e1
    rw [Nat.mul_one] at ht
    have hH := holds_of_blockI hg ht
    have hcl : (Lib.compact xs).length ≤ xs.length := Lib.compact_length_le xs
    refine (Try.slices_Compact_int g 0 cc xs w hH (by omega) hnc).mono ?_
    rintro e w' ⟨rfl, q, rfl⟩
    have h := S.own_putRow (i := 0) (q := q) (m := (Lib.compact xs).length) (Value.int .i64) (Lib.compact xs ++ List.replicate (xs.length - (Lib.compact xs).length) 0).toArray rfl (by simp; omega) (by simp) h0
    refine ⟨rfl, ?_⟩
    have e2 : (((Lib.compact xs ++ List.replicate (xs.length - (Lib.compact xs).length) 0).toArray.toList.map (Value.int .i64)).take (Lib.compact xs).length) = (Lib.compact xs).map (.int .i64) := by
      rw [List.toList_toArray, List.map_append, List.take_append_of_le_length (by simp), List.take_of_length_le (by simp)]
    rw [e2] at h
    exact h
end Go.Proofs.Ytnjdmakbdhobgaa

/- An own row of numbers with one more. No program in sight. -/
namespace Go.Proofs.Ytnjdmakbdhobgaa
open Go.RowKit

theorem ownI_snoc {w0 w : World} {ps : List Asn} {e : TypeId} {d : List Int} {x : Int} {A : Option Addr} {c : Nat} (S : Sp w0 w (Own e 1 (.slice A (d.length + 1) c) (d.length + 1) (d.map (.int .i64) ++ [.int .i64 x]) :: ps)) :
    Sp w0 w (Own e 1 (.slice A (d ++ [x]).length c) (d ++ [x]).length ((d ++ [x]).map (.int .i64)) :: ps) := by
  rw [List.map_append, List.length_append]; exact S
theorem ownI_snocC {w0 w : World} {g cl cc A0 : Nat} {ca : Option Addr} {ps : List Asn} {e : TypeId} {d : List Int} {x : Int} {A : Option Addr} {c : Nat} (S : CS w0 g ca cl cc A0 w (Own e 1 (.slice A (d.length + 1) c) (d.length + 1) (d.map (.int .i64) ++ [.int .i64 x]) :: ps)) :
    CS w0 g ca cl cc A0 w (Own e 1 (.slice A (d ++ [x]).length c) (d ++ [x]).length ((d ++ [x]).map (.int .i64)) :: ps) := by
  rw [List.map_append, List.length_append]; exact S
end Go.Proofs.Ytnjdmakbdhobgaa

/- Contract: the variables of clauses, in the program. -/
namespace Go.Proofs.Ytnjdmakbdhobgaa
open Go.RowKit

theorem flatA_small {cls : List (List Int)} (hc : ∀ c ∈ cls, ClS c) : ∀ x ∈ flatA cls, 0 ≤ x ∧ x ≤ 1000 := fun x hx => by
  unfold flatA at hx
  obtain ⟨c, hcm, hx⟩ := List.mem_flatMap.1 hx
  obtain ⟨l, hl, rfl⟩ := List.mem_map.1 hx
  have := (hc c hcm).1 l hl
  unfold LitS at this
  omega
theorem flatA_in {cls : List (List Int)} {k j : Nat} (hk : k < cls.length) (hj : j < cls[k].length) : flatA (cls.take k) ++ (cls[k].take (j + 1)).map (fun l => (l.natAbs : Int)) = flatA (cls.take k) ++ (cls[k].take j).map (fun l => (l.natAbs : Int)) ++ [(cls[k][j].natAbs : Int)] := by
  rw [List.take_succ_eq_append_getElem hj, List.map_append, List.append_assoc]
  rfl

set_option maxRecDepth 100000 in
set_option maxHeartbeats 8000000 in
theorem varsOf_any (cls : List (List Int)) (hc : ∀ c ∈ cls, ClS c) (n : Nat) (hn : ∀ c ∈ cls, ∀ l ∈ c, l ≠ 0 ∧ l.natAbs ≤ n) (hl : cls.length ≤ 100) (A : Option Addr) (cap : Nat) (w : World) (hx : ClsAt w A cls) :
    Calls Try.prog 19 #[.slice A cls.length cap] w fun e w' => ∃ B cc, e = .returned (.slice B (varF n (usedB cls)).length cc) ∧ Sp w w' [Own 3 1 (.slice B (varF n (usedB cls)).length cc) (varF n (usedB cls)).length ((varF n (usedB cls)).map (.int .i64))] := by
  obtain ⟨i0, hi0, hy0, hy1, hy2⟩ := info_parts infoInt
  have S0 := Lib.hid ((Sp.start w).own_nil 3 1)
  have hX := Lib.hid hx
  have hfin := Lib.hid (used_asc hn)
  have hcH := Lib.hid hc
  have hfl : Hid ((flatA cls).length ≤ 1000 * cls.length) := Lib.hid (flatA_len fun c h => (hc c h).2)
  clear hx hn hc
  generalize varF n (usedB cls) = zs at *
  go_enter Try.func19, Try.ntmps19
  go_wp2_with fail
  go_loopw [3, 5, 7, 10] (fun v3 _ _ v10 wr => ∃ (k : Nat) (ys : List Int) (B : Option Addr) (cc : Nat), k ≤ cls.length ∧ v10 = .int .i64 k ∧ v3 = .slice B ys.length cc ∧ Hid (ys = flatA (cls.take k)) ∧ Hid (Sp w wr [Own 3 1 (.slice B ys.length cc) ys.length (ys.map (.int .i64))])) (fun _ _ _ v10 _ => cls.length - (intOf v10).toNat)
  case atStart => exact ⟨0, [], none, 0, Nat.zero_le _, rfl, rfl, rfl, S0⟩
  case round =>
    clear S0
    obtain ⟨k, ys, B, cc, hk, rfl, rfl, hys, HS⟩ := hrel
    by_cases hlt : k < cls.length
    · obtain ⟨ab, aoff, Bk, ck, rfl, n0, hIk⟩ := hX.out.at_ k hlt
      have n1 := (HS.out.below.cell (World.block_lt_of_cell? _ _ n0)).trans n0
      have hckS := hcH.out _ (List.getElem_mem hlt)
      have hlk := hckS.2
      have hyl : ys.length ≤ 100000 := by
        rw [hys.out]
        have := flatA_len (cls := cls.take k) (m := 1000) fun c h => (hcH.out c (List.mem_of_mem_take h)).2
        rw [List.length_take] at this
        omega
      have hin := Lib.hid (fun j (hj : j < cls[k].length) => flatA_in hlt hj)
      have hend := Lib.hid (flatA_take hlt)
      have hst : Hid (ys = flatA (cls.take k) ++ (cls[k].take 0).map (fun l => (l.natAbs : Int))) := by unfold Hid; rw [hys.out]; simp
      have hlast : Hid ((cls[k].take cls[k].length).map (fun l => (l.natAbs : Int)) = cls[k].map fun l => (l.natAbs : Int)) := by unfold Hid; rw [List.take_length]
      replace hckS := Lib.hid hckS
      replace hIk := Lib.hid hIk
      obtain ⟨fk1, hfk⟩ : ∃ f, flatA (cls.take (k + 1)) = f := ⟨_, rfl⟩
      rw [hfk] at hend
      replace hfk := Lib.hid hfk
      generalize flatA (cls.take k) = fk at *
      generalize cls[k] = c at *
      clear n0 hys
      go_wp2_with fail
      go_loopw [3, 7, 16] (fun v3 _ v16 wr => ∃ (j : Nat) (zs : List Int) (B : Option Addr) (cc : Nat), j ≤ c.length ∧ v16 = .int .i64 j ∧ v3 = .slice B zs.length cc ∧ zs.length ≤ ys.length + j ∧ Hid (zs = fk ++ (c.take j).map (fun l => (l.natAbs : Int))) ∧ Hid (Sp w wr [Own 3 1 (.slice B zs.length cc) zs.length (zs.map (.int .i64))])) (fun _ _ v16 _ => c.length - (intOf v16).toNat)
      case atStart => exact ⟨0, ys, B, cc, Nat.zero_le _, rfl, rfl, by omega, hst, HS⟩
      case round =>
        clear HS
        obtain ⟨j, us, D, dc, hj, rfl, rfl, hul, hus, HS⟩ := hrel
        by_cases hlt2 : j < c.length
        · obtain ⟨db, doff, rfl, m0⟩ := hIk.out.at_ j hlt2
          have m1 := (HS.out.below.cell (World.block_lt_of_cell? _ _ m0)).trans m0
          have hlit := hckS.out.1 _ (List.getElem_mem hlt2)
          have habs := Lib.hid (fun W => abs_at hlit.i64 (absV_lit hlit) W)
          have hin2 := Lib.hid (hin.out j hlt2)
          obtain ⟨x, hxx⟩ : ∃ x : Int, ((c[j].natAbs : Nat) : Int) = x := ⟨_, rfl⟩
          rw [hxx] at habs hin2
          clear m0 hlit
          generalize c[j] = l at *
          clear hxx
          go_wp2_with fail
          refine (habs.out _).mono ?_
          rintro e w2 ⟨rfl, hb2⟩
          have HS2 := Lib.hid (HS.out.grow hb2)
          clear HS hb2 m1 habs
          have S3 := HS2.out.alloc_box #[.int .i64 x] 3
          have kB := S3.cell (i := 0) rfl (o := 0) rfl
          replace S3 := Lib.hid S3
          clear HS2
          go_wp2_with (at_builtin; refine wpList_append_src rfl _ _ rfl Try.underlying33 hi0 hy0 hy1 hy2 rfl (by decide) _ _ _ rfl (S3.out.own (i := 1) rfl) _ 1 1 [.int .i64 x] rfl (Src.one kB) (by simp [Value.oneCell']) ?c3 ?c4 ?_)
          case c3 => unfold maxLen; omega
          case c4 => omega
          intro vY wY hownY hgY hatY
          have S4 := (S3.out.own_push (i := 1) rfl (bb _) hownY hgY (by simpa using hatY)).tail
          obtain ⟨aY, cY, rfl⟩ := own_slice hownY
          have S5 := Lib.hid (ownI_snoc (d := us) (x := x) S4)
          clear S3 S4 kB hownY hgY hatY
          have hlen : us.length + 1 = (us ++ [x]).length := by simp
          rw [hlen]
          replace hlen := Lib.hid hlen
          have hus2 : Hid (us ++ [x] = fk ++ (c.take (j + 1)).map (fun l => (l.natAbs : Int))) := by unfold Hid; rw [hin2.out, hus.out]
          have hul2 : (us ++ [x]).length ≤ ys.length + (j + 1) := by rw [← hlen.out]; omega
          clear hus hin2 hlen hul
          generalize us ++ [x] = us2 at *
          go_wp2_with fail
          go_roundw
          case rel => exact ⟨j + 1, us2, aY, cY, by omega, by go_num, rfl, hul2, hus2, S5⟩
          case measure => simp [intOf]; omega
        · obtain rfl : j = c.length := by omega
          have hus2 : Hid (us = flatA (cls.take (k + 1))) := by unfold Hid; rw [hus.out, hlast.out, hfk.out, hend.out]
          go_wp2_with fail
          go_roundw
          case rel => exact ⟨k + 1, us, D, dc, by omega, by go_num, rfl, hus2, HS⟩
          case measure => simp [intOf]; omega
    · obtain rfl : k = cls.length := by omega
      have hyl : ys.length ≤ 1000000 := by
        have := hfl.out
        rw [hys.out, List.take_length]; omega
      have hys2 : Hid (Lib.compact (ys.mergeSort fun x y => decide (x ≤ y)) = zs) := by
        have := hys.out
        rw [List.take_length] at this
        unfold Hid; rw [this]; exact hfin.out
      have hso := Lib.hid (sortI_any ys B cc w _ [] HS.out hyl)
      clear HS hys hfl hfin
      go_wp2_with fail
      refine hso.out.mono ?_
      rintro e w2 ⟨rfl, S2⟩
      have hel : ys.length = (ys.mergeSort fun x y => decide (x ≤ y)).length := (List.length_mergeSort _).symm
      rw [hel] at S2 hyl ⊢
      have hco := Lib.hid (compactI_any _ B cc w _ [] S2 hyl)
      rw [hys2.out] at hco
      clear S2 hys2 hso
      replace hel := Lib.hid hel
      generalize (ys.mergeSort fun x y => decide (x ≤ y)) = ys2 at *
      go_wp2_with fail
      refine hco.out.mono ?_
      rintro e w3 ⟨rfl, S3⟩
      replace S3 := Lib.hid S3
      go_wp2_with fail
      go_ret
      exact ⟨B, cc, rfl, S3.out⟩
end Go.Proofs.Ytnjdmakbdhobgaa

/- Contracts: the sides of a Cnf, in the reference. -/
namespace Go.Proofs.Ytnjdmakbdhobgaa
open Go.RowKit

set_option maxHeartbeats 1000000 in
theorem l1HasI_any (xs : List Int) (A : Option Addr) (cap : Nat) (x : Int) (w : World) (hx : IntsAt w A xs) (hl : xs.length ≤ 1000000) :
    Calls Try.prog 40 #[.slice A xs.length cap, .int .i64 x] w fun e w' => e = .returned (.bool (hasI xs x)) ∧ w = w' := by
  have hX := Lib.hid hx
  clear hx
  go_enter Try.func40, Try.ntmps40
  go_wp2_with fail
  go_loopw [5] (fun i wr => ∃ k : Nat, k ≤ xs.length ∧ i = .int .i64 k ∧ Hid (hasI (xs.take k) x = false) ∧ w = wr) (fun i _ => xs.length - (intOf i).toNat)
  case atStart => exact ⟨0, Nat.zero_le _, rfl, by simp [Hid, hasI], rfl⟩
  case round =>
    obtain ⟨k, hk, rfl, HR, rfl⟩ := hrel
    by_cases hlt : k < xs.length
    · obtain ⟨b, off, rfl, k0⟩ := hX.out.at_ k hlt
      by_cases he : xs[k] = x
      · have HN : Hid (hasI xs x = true) := hasI_yes hlt he
        have he' : (xs[k] == x) = true := by simpa using he
        clear he HR
        go_wp2_with fail
        go_ret
        exact ⟨ret_bool HN.out.symm, rfl⟩
      · have HN : Hid (hasI (xs.take (k + 1)) x = false) := hasI_no hlt HR.out he
        have he' : (xs[k] == x) = false := by simpa using he
        clear he HR
        go_wp2_with fail
        go_roundw
        case rel => exact ⟨k + 1, by omega, by go_num, HN, by first | rfl | trivial⟩
        case measure => simp [intOf]; omega
    · obtain rfl : k = xs.length := by omega
      have HN := HR.out
      rw [List.take_length] at HN
      replace HN := Lib.hid HN
      clear HR
      go_wp2_with fail
      go_ret
      exact ⟨ret_bool HN.out.symm, rfl⟩

set_option maxHeartbeats 1000000 in
theorem l2HasI_any (xs : List Int) (A : Option Addr) (cap : Nat) (x : Int) (w : World) (hx : IntsAt w A xs) (hl : xs.length ≤ 1000000) :
    Calls Try.prog 24 #[.slice A xs.length cap, .int .i64 x] w fun e w' => e = .returned (.bool (hasI xs x)) ∧ w = w' := by
  have hc := Lib.hid (l1HasI_any xs A cap x w hx hl)
  clear hx
  go_enter Try.func24, Try.ntmps24
  go_wp2_with fail
  refine hc.out.mono ?_
  rintro e w1 ⟨rfl, rfl⟩
  go_wp2_with fail
  go_ret
  exact ⟨rfl, rfl⟩

/-- A literal is in some clause. -/
def occB (cls : List (List Int)) (l : Int) : Bool := cls.any fun c => hasI c l
theorem occ_used {cls : List (List Int)} {v : Nat} : (occB cls v || occB cls (-v)) = usedB cls v := by
  unfold occB usedB hasI
  rw [Bool.eq_iff_iff]
  simp only [Bool.or_eq_true, List.any_eq_true, List.contains_iff_mem, beq_iff_eq]
  constructor
  · rintro (⟨c, hc, h⟩ | ⟨c, hc, h⟩)
    · exact ⟨c, hc, _, h, by simp⟩
    · exact ⟨c, hc, _, h, by simp⟩
  · rintro ⟨c, hc, l, hl, rfl⟩
    rcases Int.natAbs_eq l with e | e
    · exact .inl ⟨c, hc, by rw [← e]; exact hl⟩
    · exact .inr ⟨c, hc, by rw [← e]; exact hl⟩
theorem occ_yes {cls : List (List Int)} {l : Int} {k : Nat} (hk : k < cls.length) (h : hasI cls[k] l = true) : occB cls l = true := List.any_eq_true.2 ⟨_, List.getElem_mem hk, h⟩
theorem occ_no {cls : List (List Int)} {l : Int} {k : Nat} (hk : k < cls.length) (h0 : occB (cls.take k) l = false) (h : hasI cls[k] l = false) : occB (cls.take (k + 1)) l = false := by
  unfold occB at *
  rw [List.take_succ_eq_append_getElem hk, List.any_append, h0]
  simp [h]

/- left out: the seat has no spec.l2Occurs -/

theorem ClsAt.to {w : World} {A : Option Addr} {cls : List (List Int)} (h : ClsAt w A cls) (k : Nat) : ClsAt w A (cls.take k) := ⟨fun j hj => by
  have hj2 : j < cls.length := by rw [List.length_take] at hj; omega
  obtain ⟨b, off, B, c, e, h1, h2⟩ := h.at_ j hj2
  exact ⟨b, off, B, c, e, by rw [List.getElem_take]; exact h1, by rw [List.getElem_take]; exact h2⟩⟩
theorem ClsAt.from {w : World} {A : Option Addr} {cls : List (List Int)} {cap : Nat} (h : ClsAt w A cls) (k : Nat) (hc : cls.length ≤ cap) : ClsAt w (cutA A cap k 1) (cls.drop k) := ⟨fun j hj => by
  rw [List.length_drop] at hj
  obtain ⟨b, off, B, c, e, h1, h2⟩ := h.at_ (k + j) (by omega)
  subst e
  refine ⟨b, off + k, B, c, ?_, ?_, ?_⟩
  · unfold cutA
    rw [if_neg (by omega), Option.map_some, add_none, Nat.mul_one]
  · rw [List.getElem_drop, Nat.add_assoc]; exact h1
  · rw [List.getElem_drop]; exact h2⟩

/-- A side is asked for. -/
def askB (vars : Int) (xss : List (List Int)) (k : Int) : Bool := goodB vars xss && inB k 0 xss.length

/- left out: the seat has no spec.l29Asked -/

/- left out: the seat has no spec.l29Left -/
end Go.Proofs.Ytnjdmakbdhobgaa

/- Contracts: the variables of both sides, in the reference. -/
namespace Go.Proofs.Ytnjdmakbdhobgaa
open Go.RowKit

/-- The parts of what the reference tells of the sides. -/
def onlyL (L R : List (List Int)) (v : Nat) : Bool := usedB L v && !usedB R v
def bothL (L R : List (List Int)) (v : Nat) : Bool := usedB L v && usedB R v
theorem varF_yes {n : Nat} {p : Nat → Bool} {z : Int} (hz : (n : Int) + 1 = z) (h : p (n + 1) = true) : varF n p ++ [z] = varF (n + 1) p := by
  rw [varF_snoc, if_pos h, ← hz]; rfl
theorem varF_no {n : Nat} {p : Nat → Bool} (h : p (n + 1) = false) : varF n p = varF (n + 1) p := by
  rw [varF_snoc, h]; simp
/-- Three rows of numbers. -/
def Ints3 (w : World) (a b c : List Int) (e : Ending) (w' : World) : Prop :=
  ∃ D dc E ec G gc, e = .returned (.tuple #[.slice D a.length dc, .slice E b.length ec, .slice G c.length gc]) ∧ Sp w w' [Own 3 1 (.slice D a.length dc) a.length (a.map (.int .i64)), Own 3 1 (.slice E b.length ec) b.length (b.map (.int .i64)), Own 3 1 (.slice G c.length gc) c.length (c.map (.int .i64))]

/- left out: the seat has no spec.l29Sides -/

end Go.Proofs.Ytnjdmakbdhobgaa

/- Contract: the sides of a Cnf, in the reference. -/
namespace Go.Proofs.Ytnjdmakbdhobgaa
open Go.RowKit

/-- Three rows of numbers, and whether they are told. -/
def Ints4 (w : World) (ok : Bool) (a b c : List Int) (e : Ending) (w' : World) : Prop :=
  ∃ D dc E ec G gc, e = .returned (.tuple #[.slice D a.length dc, .slice E b.length ec, .slice G c.length gc, .bool ok]) ∧ IntsAt w' D a ∧ IntsAt w' E b ∧ IntsAt w' G c ∧ Below w.heap.size w w'
/-- What is told of the sides. -/
def sideL (vars : Int) (xss : List (List Int)) (k : Int) (L R : List (List Int)) : List Int := if askB vars xss k then varF vars.toNat (onlyL L R) else []
def sideB (vars : Int) (xss : List (List Int)) (k : Int) (L R : List (List Int)) : List Int := if askB vars xss k then varF vars.toNat (bothL L R) else []
theorem varF_ok {n : Nat} (hn : n ≤ 1000) {p : Nat → Bool} : ∀ x ∈ varF n p, I64 x := fun x hx => by
  have := varF_mem.1 hx
  unfold I64; omega
theorem Sp.ints {w0 w : World} {ps : List Asn} {i : Nat} {A : Option Addr} {cs : List Int} {c : Nat} {e : TypeId} (h : Sp w0 w ps) (hi : ps[i]? = some (Own e 1 (.slice A cs.length c) cs.length (cs.map (.int .i64)))) (hok : ∀ x ∈ cs, I64 x) : IntsAt w A cs := by
  obtain ⟨A', c', e1, hI⟩ := ints_own (h.own hi) hok
  cases e1
  exact hI
theorem ask_parts {vars : Int} {xss : List (List Int)} {k : Int} (h : askB vars xss k = true) : goodB vars xss = true ∧ 0 ≤ k ∧ k ≤ xss.length := by
  unfold askB at h
  rw [Bool.and_eq_true, inB_true] at h
  exact ⟨h.1, h.2.1, h.2.2⟩

/- left out: the seat has no spec.SidesOf -/
end Go.Proofs.Ytnjdmakbdhobgaa

/- Contracts: a Cnf with its left clauses, in the program. -/
namespace Go.Proofs.Ytnjdmakbdhobgaa
open Go.RowKit

theorem containsIA_any (xs : List Int) (A : Option Addr) (cap : Nat) (x : Int) (w : World) (hx : IntsAt w A xs) (hl : xs.length ≤ 1000000) :
    Calls Try.prog 18 #[.slice A xs.length cap, .int .i64 x] w fun e w' => e = .returned (.bool (hasI xs x)) ∧ w' = w := by
  rcases Nat.eq_zero_or_pos xs.length with h0 | h0
  · obtain rfl : xs = [] := List.length_eq_zero_iff.1 h0
    exact Try.slices_Contains_int_empty A cap x w
  · obtain ⟨b, off, rfl, -⟩ := hx.at_ 0 h0
    have h := Try.slices_Contains_int b off xs.length cap xs x w (Nat.le_refl _) (by omega) fun j hj => by
      obtain ⟨b', off', e, h1⟩ := hx.at_ j hj
      cases e
      rw [h1, List.getD_eq_getElem?_getD, List.getElem?_eq_getElem hj]; rfl
    rw [List.take_length] at h
    exact h

theorem has_varF {n : Nat} {q : Nat → Bool} {x : Int} (h1 : 1 ≤ x) (h2 : x ≤ n) : hasI (varF n q) x = q x.toNat := by
  unfold hasI
  rw [Bool.eq_iff_iff, List.contains_iff_mem, varF_mem]
  exact ⟨fun h => h.2.2, fun h => ⟨h1, h2, h⟩⟩
theorem filt_both (n : Nat) (p q : Nat → Bool) : ((varF n p).filter fun x => !(!hasI (varF n q) x)) = varF n fun v => p v && q v := by
  rw [← varF_sub]
  apply List.filter_congr
  intro x hx
  obtain ⟨h1, h2, -⟩ := varF_mem.1 hx
  rw [Bool.not_not, has_varF h1 h2]
theorem filt_only (n : Nat) (p q : Nat → Bool) : ((varF n p).filter fun x => !hasI (varF n fun v => p v && q v) x) = varF n fun v => p v && !q v := by
  rw [← varF_sub n p (fun v => !q v)]
  apply List.filter_congr
  intro x hx
  obtain ⟨h1, h2, h3⟩ := varF_mem.1 hx
  rw [has_varF h1 h2, h3, Bool.true_and]

/- left out: the seat has no (*loop.example/g01080/impl.split).left -/

/- left out: the seat has no (*loop.example/g01080/impl.split).right -/

/- left out: the seat has no impl.splitOf$1 -/
end Go.Proofs.Ytnjdmakbdhobgaa

/- Contracts: a Cnf with its left clauses, in the program: made. -/
namespace Go.Proofs.Ytnjdmakbdhobgaa
open Go.RowKit

/- left out: the seat has no impl.splitOf -/

/- left out: the seat has no impl.split -/

/- left out: the seat has no impl.splitOf -/
end Go.Proofs.Ytnjdmakbdhobgaa

/- Contract: the sides of a Cnf, in the program. -/
namespace Go.Proofs.Ytnjdmakbdhobgaa
open Go.RowKit

/- left out: the seat has no impl.SidesOf$1$1 -/

/-- A row of numbers of the call's own. -/
def OneI (w : World) (zs : List Int) (e : Ending) (w' : World) : Prop := ∃ D dc, e = .returned (.slice D zs.length dc) ∧ Sp w w' [Own 3 1 (.slice D zs.length dc) zs.length (zs.map (.int .i64))]
theorem cell_below {w w' : World} {a : Addr} {u : Value} (h : w.cell? a = some u) (hb : Below w.heap.size w w') : w'.cell? a = some u := (hb.cell (World.block_lt_of_cell? _ _ h)).trans h

/- left out: the seat has no impl.SidesOf$1 -/

/- left out: the seat has no impl.SidesOf -/
end Go.Proofs.Ytnjdmakbdhobgaa

/- Memory in parts beside a cursor that turns: rows of rows. -/
namespace Go.Proofs.Ytnjdmakbdhobgaa
open Go.RowKit

/-- An own row of numbers is a row with all that it reaches. -/
theorem Sp.own_to_row {w0 w : World} {ps : List Asn} {e : TypeId} {v : Value} {c : List Int} (h : Sp w0 w (Own e 1 v c.length (c.map (.int .i64)) :: ps)) (hok : ∀ x ∈ c, I64 x) : Sp w0 w (Row Ty.int v c :: ps) := by
  obtain ⟨F, ⟨rfl, ho⟩, _, hall⟩ := h.upd (i := 0) rfl
  obtain ⟨F, hr, hF, _⟩ := Ty.row_of_owns (T := Ty.int) ho rfl (by decide) (Ty.all_int hok)
  refine hall w (Row Ty.int v c) F (Chg.refl _ _) ⟨hr, ?_⟩ fun b hb => .inl ?_
  · rcases hF with rfl | ⟨g, _, _, _, rfl⟩ <;> simp
  · rcases hF with rfl | ⟨g, _, _, hg, rfl⟩
    · simp at hb
    · simp [hg] at hb ⊢; exact hb
section
variable {w0 w w' w1 : World} {g cl cc A i : Nat} {ca : Option Addr} {ps : List Asn} {e : TypeId}
theorem CS.own_to_row {v : Value} {c : List Int} (h : CS w0 g ca cl cc A w (Own e 1 v c.length (c.map (.int .i64)) :: ps)) (hok : ∀ x ∈ c, I64 x) : CS w0 g ca cl cc A w (Row Ty.int v c :: ps) := by
  obtain ⟨F, ⟨rfl, ho⟩, _, hall⟩ := h.upd (i := 0) rfl
  obtain ⟨F, hr, hF, _⟩ := Ty.row_of_owns (T := Ty.int) ho rfl (by decide) (Ty.all_int hok)
  refine hall w (Row Ty.int v c) F (Chg.refl _ _) ⟨hr, ?_⟩ fun b hb => .inl ?_
  · rcases hF with rfl | ⟨g, _, _, _, rfl⟩ <;> simp
  · rcases hF with rfl | ⟨g, _, _, hg, rfl⟩
    · simp at hb
    · simp [hg] at hb ⊢; exact hb
variable {α : Type} {T : Ty α} {v v' u : Value} {cs : List Value} {xss : List (List α)} {ys : List α}
theorem CS.rows (h : CS w0 g ca cl cc A w ps) (hi : ps[i]? = some (Rows T e v cs xss)) : w.ownsRow 0 e 1 v xss.length cs := by
  obtain ⟨F, ⟨G, _, _, _, h⟩, _⟩ := h.get hi
  exact h
theorem CS.rows_made (h : CS w0 g ca cl cc A w ps) (T : Ty α) (e : TypeId) : CS w0 g ca cl cc A (w.alloc (.cells #[] e)) (Rows T e (.slice (some ⟨w.heap.size, 0, none⟩) 0 0) [] [] :: ps) :=
  h.new (F := [w.heap.size]) (bal (bb _) _) ⟨[], rfl, by simp, ⟨rfl, rfl⟩, ⟨by simp, .inr ⟨w.heap.size, 0, #[], rfl, Nat.zero_le _, heap_alloc_new w _, Nat.le_refl _, by decide, by simp, by simp⟩⟩⟩ (by simp)
/-- A row goes into a row of rows. -/
theorem CS.rows_push (h : CS w0 g ca cl cc A w (Row T u ys :: Rows T e v cs xss :: ps)) (hb : Below w.heap.size w w1) (ho : w'.ownsRow 0 e 1 v' (xss.length + 1) (cs ++ [u])) (hg : w1.grownBy w' v.ownBlock)
    (hat : v'.ownBlock = v.ownBlock ∨ v'.ownBlock = some w1.heap.size) : CS w0 g ca cl cc A w' (Rows T e v' (cs ++ [u]) (xss ++ [ys]) :: ps) := by
  have hsz := h.chg.size
  obtain ⟨⟨A0, h0'⟩, hcur, h1, F, ⟨F1, F2, rfl, hd, ⟨hr, hn⟩, ⟨F3, F4, rfl, hd', ⟨G, rfl, hn', hall, hown⟩, h5⟩⟩, h3⟩ := h
  have hr1 := Ty.row_keep hr fun b hm => hb.block b (Ty.row_lt hr b hm)
  have hall1 := Ty.all_keep hall fun b hm => hb.block b (Ty.all_lt hall b hm)
  have h51 := sep_keep h5 fun b hm => hb.block b (sep_lt h5 b hm)
  have hkeep : ∀ b, b < w.heap.size → (∀ g, v.ownBlock = some g → b ≠ g) → w'.heap[b]? = w1.heap[b]? := fun b hlt hne => hg.block b (Nat.lt_of_lt_of_le hlt hb.size) (fun e => hne b e.symm rfl)
  have hr2 := Ty.row_keep hr1 fun b hm => hkeep b (Ty.row_lt hr b hm) fun g hg' e => hd b hm (by simp [hg', e])
  have hnG : ∀ b ∈ G, ∀ g, v.ownBlock = some g → b ≠ g := fun b hm g hg' e => by
    rw [List.nodup_append] at hn'
    exact hn'.2.2 g (by simp [hg']) b hm e.symm
  have hall2 := Ty.all_keep hall1 fun b hm => hkeep b (Ty.all_lt hall b hm) (hnG b hm)
  have h52 := sep_keep h51 fun b hm => hkeep b (sep_lt h5 b hm) fun g hg' e => hd' b (by simp [hg', e]) hm
  have hlv : ∀ b ∈ v'.ownBlock.toList, b ∈ v.ownBlock.toList ∨ b = w1.heap.size := fun b hm => by
    rcases hat with h | h
    · left; rwa [h] at hm
    · right; rw [h] at hm; simpa using hm
  have hs := hb.size
  have hold : ∀ k, k < w0.heap.size → w'.heap[k]? = w.heap[k]? := fun k hk => (hkeep k (by omega) fun g hg' e => by have := h3 g (by simp [hg']); omega).trans (hb.block k (by omega))
  have hchg : Chg [g] w0 w' := ⟨hg.os.trans (hb.os.trans h1.os), hg.tape.trans (hb.tape.trans h1.tape), hg.output.trans (hb.output.trans h1.output), by have := hg.size; omega, fun k hk hn => (hold k hk).trans (h1.block k hk hn)⟩
  refine ⟨⟨A0, h0'⟩, h0'.stay hcur hold, hchg, (v'.ownBlock.toList ++ (G ++ F1)) ++ F4, ⟨_, F4, rfl, ?_, ⟨G ++ F1, rfl, ?_, ?_, by simpa using ho⟩, h52⟩, ?_⟩
  · intro b hm hm4
    rcases List.mem_append.1 hm with hm | hm
    · rcases hlv b hm with h | h
      · exact hd' b (List.mem_append.2 (.inl h)) hm4
      · have := sep_lt h5 b hm4; omega
    · rcases List.mem_append.1 hm with hm | hm
      · exact hd' b (List.mem_append.2 (.inr hm)) hm4
      · exact hd b hm (List.mem_append.2 (.inr hm4))
  · refine List.nodup_append.2 ⟨by cases v'.ownBlock <;> simp, List.nodup_append.2 ⟨(List.nodup_append.1 hn').2.1, hn, fun x hx y hy e => hd y hy (by simp [← e, hx])⟩, fun x hx y hy e => ?_⟩
    subst e
    rcases hlv x hx with h | h
    · rcases List.mem_append.1 hy with hy | hy
      · exact (List.nodup_append.1 hn').2.2 x h x hy rfl
      · exact hd x hy (List.mem_append.2 (.inl (List.mem_append.2 (.inl h))))
    · rcases List.mem_append.1 hy with hy | hy
      · have := Ty.all_lt hall x hy; omega
      · have := Ty.row_lt hr x hy; omega
  · exact Ty.all_snoc hall2 ⟨u, rfl, hr2⟩
  · intro b hm
    rcases List.mem_append.1 hm with hm | hm
    · rcases List.mem_append.1 hm with hm | hm
      · rcases hlv b hm with h | h
        · exact h3 b (by simp at h ⊢; simp [h])
        · omega
      · rcases List.mem_append.1 hm with hm | hm
        · exact h3 b (by simp [hm])
        · exact h3 b (by simp [hm])
    · exact h3 b (by simp [hm])
/-- The finished row of rows. -/
theorem CS.rows_done (h : CS w0 g ca cl cc A w ps) (hi : ps[i]? = some (Rows T e v cs xss)) : ∃ F, (Ty.slice T).row true w v xss F ∧ F.Nodup ∧ (∀ b ∈ F, w0.heap.size ≤ b) := by
  obtain ⟨F, ⟨G, rfl, hn, hall, hown⟩, hF⟩ := h.get hi
  obtain ⟨F', hr, hF', _⟩ := Ty.row_of_owns hown rfl (by decide) hall
  rcases hF' with rfl | ⟨g, _, _, ho, rfl⟩
  · exact ⟨[], hr, by simp, by simp⟩
  · refine ⟨g :: G, hr, ?_, ?_⟩
    · rw [ho] at hn; simpa using hn
    · rw [ho] at hF; simpa using hF
end
end Go.Proofs.Ytnjdmakbdhobgaa

/- Contracts: Cnfs compared in the laws; rows and lists of rows copied, on both sides. -/
namespace Go.Proofs.Ytnjdmakbdhobgaa
open Go.RowKit

set_option maxRecDepth 100000 in
set_option maxHeartbeats 4000000 in
theorem vTable_same (A A' : Option Addr) (c c' : Nat) (xss : List (List Int)) (w : World) (hx : ClsAt w A xss) (hy : ClsAt w A' xss) (hl : xss.length ≤ 1000000) (hs : ∀ c ∈ xss, c.length ≤ 1000000) :
    Calls Try.prog 27 #[.slice A xss.length c, .slice A' xss.length c'] w fun e w' => e = .returned (.bool true) ∧ Below w.heap.size w w' := by
  have hN := Lib.hid hx
  have hM := Lib.hid hy
  have hS := Lib.hid hs
  clear hx hy hs
  go_enter Try.func27, Try.ntmps27
  go_wp2_with fail
  go_loopw [5] (fun i wr => ∃ k : Nat, k ≤ xss.length ∧ i = .int .i64 k ∧ Hid (Below w.heap.size w wr)) (fun i _ => xss.length - (intOf i).toNat)
  case atStart => exact ⟨0, Nat.zero_le _, rfl, bb _⟩
  case round =>
    obtain ⟨k, hk, rfl, HS⟩ := hrel
    by_cases hlt : k < xss.length
    · obtain ⟨b, off, D, dc, rfl, m0, hI⟩ := (hN.out.grow HS.out).at_ k hlt
      obtain ⟨b', off', E, ec, rfl, p0, hJ⟩ := (hM.out.grow HS.out).at_ k hlt
      have hcall := Lib.hid (fun W (h : Below wr.heap.size wr W) => vInts_same D E dc ec xss[k] W (hI.grow h) (hJ.grow h) (hS.out _ (List.getElem_mem hlt)))
      have k0 := cell_regrown m0
      have q0 := cell_regrown p0
      generalize xss[k] = v at *
      clear m0 p0 hI hJ
      go_wp2_with fail
      refine wp_region_quiet_below (by kernel_rfl) (by kernel_rfl) ?_
      repeat (any_goals (first | go_big_quiet_step ((go_at_call 44; exact Calls.regrown_of (hcall.out _ (below_regrown _ _ _))))))
      refine wpQuiet_nil ?_
      rintro w3 ⟨p, rfl⟩
      have HS4 := Lib.hid (btr HS.out (below_regrown _ p.d p.os))
      clear HS k0 q0 hcall
      go_wp2_with fail
      go_roundw
      case rel => exact ⟨k + 1, by omega, by go_num, HS4⟩
      case measure => simp [intOf]; omega
    · obtain rfl : k = xss.length := by omega
      have hB := HS.out
      go_wp2_with fail
      go_ret
      exact ⟨rfl, hB⟩

set_option maxHeartbeats 2000000 in
theorem vCnf_same (vars : Int) (A A' : Option Addr) (c c' : Nat) (xss : List (List Int)) (w : World) (hx : ClsAt w A xss) (hy : ClsAt w A' xss) (hl : xss.length ≤ 1000000) (hs : ∀ c ∈ xss, c.length ≤ 1000000) :
    Calls Try.prog 8 #[.agg #[.int .i64 vars, .slice A xss.length c], .agg #[.int .i64 vars, .slice A' xss.length c']] w fun e w' => e = .returned (.bool true) ∧ Below w.heap.size w w' := by
  have S0 := ((Sp.start w).alloc_box #[.int .i64 vars, .slice A xss.length c] 28).alloc_box #[.int .i64 vars, .slice A' xss.length c'] 28
  simp only [World.size_alloc] at S0
  have hcall := Lib.hid (vTable_same A A' c c' xss _ (hx.grow S0.below) (hy.grow S0.below) hl hs)
  have a0 := S0.cell (i := 1) rfl (o := 0) rfl
  have a1 := S0.cell (i := 1) rfl (o := 1) rfl
  have b0 := S0.cell (i := 0) rfl (o := 0) rfl
  have b1 := S0.cell (i := 0) rfl (o := 1) rfl
  replace S0 := Lib.hid S0
  generalize xss.length = m at *
  have hv : (vars == vars) = true := by simp
  clear hx hy hs
  go_enter Try.func8, Try.ntmps8
  go_wp2_with fail
  refine hcall.out.mono ?_
  rintro e w1 ⟨rfl, hb1⟩
  have hB := Lib.hid (S0.out.grow hb1).below
  clear S0 hcall hb1 a0 a1 b0 b1
  go_wp2_with fail
  go_ret
  exact ⟨rfl, hB.out⟩

/-- A copy of a row of numbers. -/
theorem cloneA_any (A : Option Addr) (cap : Nat) (xs : List Int) (w : World) (hx : IntsAt w A xs) (hl : xs.length ≤ 1000000) :
    Calls Try.prog 67 #[.slice A xs.length cap] w (OneI w xs) := by
  rcases Nat.eq_zero_or_pos xs.length with h0 | h0
  · obtain rfl : xs = [] := List.length_eq_zero_iff.1 h0
    cases A with
    | none =>
      refine (Try.slices_Clone_int_nil 0 cap w).mono ?_
      rintro e w' ⟨rfl, rfl⟩
      exact ⟨none, 0, rfl, (Sp.start _).own_nil _ _⟩
    | some a =>
      refine (Try.slices_Clone_int_zero a cap w).mono ?_
      rintro e w' ⟨v, rfl, ho, -, hb⟩
      have S := (Sp.start w).own_new hb (owns_zero ho) (owns_ge ho)
      obtain ⟨B, c, rfl⟩ := own_slice ho
      exact ⟨B, c, rfl, S⟩
  · obtain ⟨b, off, rfl, -⟩ := hx.at_ 0 h0
    have h := Try.slices_Clone_int b off xs.length cap xs w (Nat.le_refl _) (by omega) fun j hj => by
      obtain ⟨b', off', e, h1⟩ := hx.at_ j hj
      cases e
      rw [h1, List.getD_eq_getElem?_getD, List.getElem?_eq_getElem hj]; rfl
    refine h.mono ?_
    rintro e w' ⟨v, rfl, ho, -, hb⟩
    rw [List.take_length] at ho
    have S := (Sp.start w).own_new hb (owns_zero ho) (owns_ge ho)
    obtain ⟨B, c, rfl⟩ := own_slice ho
    exact ⟨B, c, rfl, S⟩

set_option maxHeartbeats 1000000 in
theorem l1OwnI_any (A : Option Addr) (cap : Nat) (xs : List Int) (w : World) (hx : IntsAt w A xs) (hl : xs.length ≤ 1000000) :
    Calls Try.prog 42 #[.slice A xs.length cap] w (OneI w xs) := by
  obtain ⟨i0, hi, hz0, hz1, hz2⟩ := info_parts infoInt
  have S0 := (Sp.start w).own_made 3 1
  have hsrc := ints_src (hx.grow S0.below) rfl
  replace S0 := Lib.hid S0
  replace hsrc := Lib.hid hsrc
  clear hx
  go_enter Try.func42, Try.ntmps42
  go_wp2_with (at_builtin; refine wpList_append_src rfl _ _ rfl Try.underlying33 hi hz0 hz1 hz2 rfl (by decide) _ _ _ rfl (S0.out.own (i := 0) rfl) A xs.length cap _ rfl hsrc.out (ints_one xs) ?c3 ?c4 ?_)
  case c3 => unfold maxLen; omega
  case c4 => omega
  intro v' w1 hown hg hat
  have S1 := S0.out.own_push (i := 0) rfl (bb _) hown hg (by simpa using hat)
  obtain ⟨a, c', rfl⟩ := own_slice hown
  replace S1 := Lib.hid S1
  clear hown hg hat S0
  go_wp2_with fail
  go_ret
  exact ⟨a, c', rfl, S1.out⟩
end Go.Proofs.Ytnjdmakbdhobgaa

/- Contracts: lists of rows copied, on both sides. -/
namespace Go.Proofs.Ytnjdmakbdhobgaa
open Go.RowKit Go.Shelf

/-- Rows of the call's own. -/
def RowsP (w : World) (xss : List (List Int)) (e : Ending) (w' : World) : Prop := ∃ B cap cs, e = .returned (.slice B xss.length cap) ∧ Sp w w' [Rows Ty.int 33 (.slice B xss.length cap) cs xss]
theorem take_snoc {α : Type} {l : List α} {k : Nat} (h : k < l.length) : l.take k ++ [l[k]] = l.take (k + 1) := (List.take_succ_eq_append_getElem h).symm

/- left out: the seat has no impl.cloneLists -/
end Go.Proofs.Ytnjdmakbdhobgaa

/- Contracts: two lists of rows put together, in the library. -/
namespace Go.Proofs.Ytnjdmakbdhobgaa
open Go.RowKit Go.Shelf

/- left out: the seat has no slices.Grow[[][]int,[]int] -/

/- left out: the seat has no slices.Grow[[][]int,[]int] -/

def szK (n1 n2 : Nat) : Nat → Nat
  | 0 => 0
  | 1 => n1
  | _ => n1 + n2
def catK (us1 us2 : List Value) : Nat → List Value
  | 0 => []
  | 1 => us1
  | _ => us1 ++ us2

/- left out: the seat has no slices.Concat[[][]int,[]int] -/
end Go.Proofs.Ytnjdmakbdhobgaa

/- Contracts: clauses joined and resolved in the reference, told weakly. -/
namespace Go.Proofs.Ytnjdmakbdhobgaa
open Go.RowKit

/-- A row of its own within bounds, and a flag. -/
def JoinW (n : Nat) (w : World) (e : Ending) (w' : World) : Prop :=
  ∃ v c q, e = .returned (.tuple #[v, .bool q]) ∧ w'.ownsRow w.heap.size 3 1 v c.length (c.map (.int .i64)) ∧ c.length ≤ n ∧ Within 1000 c ∧ Below w.heap.size w w'
theorem Sp.drop2w {w0 w : World} {p q : Asn} {ps : List Asn} (h : Sp w0 w (p :: q :: ps)) : Sp w0 w (p :: ps) := h.swap.tail

set_option maxRecDepth 100000 in
set_option maxHeartbeats 4000000 in
theorem l2JoinW_any (v u : Value) (a b : List Int) (F G : List Nat) (w : World) (hx : Ty.int.row false w v a F) (hy : Ty.int.row false w u b G) (wa : Within 1000 a) (wb : Within 1000 b) (la : a.length ≤ 1000) (lb : b.length ≤ 1000) :
    Calls Try.prog 54 #[v, u] w (JoinW (a.length + b.length) w) := by
  obtain ⟨aa, ac, rfl, _, _⟩ := Ty.row_len hx
  obtain ⟨ba, bc, rfl, hy1, hy2, _, hy3⟩ := row_int hy
  go_enter Try.func54, Try.ntmps54
  go_wp2_with fail
  refine (l1Own_any _ a F w hx (by omega)).mono ?_
  rintro e w1 ⟨v1, rfl, ho1, hb1⟩
  have S0 := (Sp.start w).own_call hb1 ho1
  obtain ⟨a1, c1, rfl⟩ := owns_form ho1
  replace S0 := Lib.hid S0
  have hW0 := Lib.hid wa
  clear ho1 hb1
  go_wp2_with fail
  go_loopw [6, 7] (fun s i wr => ∃ (k : Nat) (out : List Int), k ≤ b.length ∧ i = .int .i64 k ∧ out.length ≤ a.length + k ∧ Hid (Within 1000 out) ∧ Hid (Sp w wr [Own 3 1 s out.length (out.map (.int .i64))])) (fun _ i _ => b.length - (intOf i).toNat)
  case atStart => exact ⟨0, a, Nat.zero_le _, rfl, by omega, hW0, S0⟩
  case round =>
    obtain ⟨k, out, hk, rfl, hol, HW, HS⟩ := hrel
    clear S0
    obtain ⟨sa, sc, rfl⟩ := owns_form (HS.out.own (i := 0) rfl)
    by_cases hlt : k < b.length
    · rcases hy3 with ⟨rfl, rfl⟩ | ⟨hyn, bk, off, rfl, rfl, hyc⟩
      · exact absurd hlt (by simp)
      have hB := HS.out.below
      have k0 := ((hyc k hlt).keep (hB.block bk (hyc k hlt).lt)).1
      have hl6 := wb _ (List.getElem_mem hlt)
      obtain ⟨H, hrow', -, -⟩ := own_row (HS.out.own (i := 0) rfl) (HW.out.i64 (by decide))
      have hrow := Ty.row_down hrow'
      obtain ⟨l, hl⟩ : ∃ l, l = b[k] := ⟨_, rfl⟩
      rw [← hl] at k0 hl6
      have hneg : wrap64 (-l) = -l := by unfold wrap64; omega
      have hl0 : -1000 ≤ l := hl6.1
      have hl1 : l ≤ 1000 := hl6.2
      replace hl := Lib.hid hl
      clear hyc hB hl hl6 hrow'
      cases hq : hasI out (-l)
      · cases hq2 : hasI out l
        · have HN := Lib.hid (within_put HW.out ⟨hl0, hl1⟩)
          have hpl := Lib.hid (put_len out l)
          have hol9 : out.length ≤ 1000000000 := by omega
          go_wp2_with (first
            | (go_at_call 24; (first | (with_reducible refine (l2Has_at hrow hq).mono ?_) | (with_reducible refine (l2Has_at hrow hq2).mono ?_)); rintro e w2 ⟨rfl, rfl⟩)
            | (go_at_call 25; (with_reducible refine (l2Put_any _ out l H _ hrow hol9).mono ?_); rintro e w2 ⟨v2, rfl, ho2, hb2⟩))
          have S1 := (HS.out.own_call hb2 ho2).drop2w
          obtain ⟨a2, c2, rfl⟩ := owns_form ho2
          replace S1 := Lib.hid S1
          clear ho2 hb2 HS hrow
          generalize putB out l = out2 at *
          go_wp2_with fail
          go_roundw
          case rel => exact ⟨k + 1, out2, by omega, by go_num, by rw [hpl.out]; omega, HN, S1⟩
          case measure => simp [intOf]; omega
        · go_wp2_with (first
            | (go_at_call 24; (first | (with_reducible refine (l2Has_at hrow hq).mono ?_) | (with_reducible refine (l2Has_at hrow hq2).mono ?_)); rintro e w2 ⟨rfl, rfl⟩))
          go_roundw
          case rel => exact ⟨k + 1, out, by omega, by go_num, by omega, HW, HS⟩
          case measure => simp [intOf]; omega
      · go_wp2_with (first
          | (go_at_call 24; (first | (with_reducible refine (l2Has_at hrow hq).mono ?_)); rintro e w2 ⟨rfl, rfl⟩))
        have S1 := Lib.hid (HS.out.own_made 3 1)
        go_ret2
        exact ⟨_, [], false, rfl, S1.out.owns_end (i := 0) rfl, by simp, fun x hx => by simp at hx, S1.out.below⟩
    · obtain rfl : k = b.length := by omega
      go_wp2_with fail
      go_ret2
      exact ⟨_, out, true, rfl, HS.out.owns_end (i := 0) rfl, by omega, HW.out, HS.out.below⟩

/- left out: the seat has no spec.l2Resolve -/
end Go.Proofs.Ytnjdmakbdhobgaa

/- Contract: clauses joined, in the reference, to the word. -/
namespace Go.Proofs.Ytnjdmakbdhobgaa
open Go.RowKit

theorem joinS_no {out b : List Int} {l : Int} (h : hasI out (-l) = true) : joinS out (l :: b) = none := by unfold joinS; rw [if_pos h]
theorem joinS_has {out b : List Int} {l : Int} (h : hasI out (-l) = false) (h2 : hasI out l = true) : joinS out (l :: b) = joinS out b := by rw [joinS, if_neg (by rw [h]; simp), if_pos h2]
theorem joinS_put {out b : List Int} {l : Int} (h : hasI out (-l) = false) (h2 : hasI out l = false) : joinS out (l :: b) = joinS (putB out l) b := by rw [joinS, if_neg (by rw [h]; simp), if_neg (by rw [h2]; simp)]

set_option maxRecDepth 100000 in
set_option maxHeartbeats 4000000 in
theorem l2JoinS_any (v u : Value) (a b : List Int) (F G : List Nat) (w : World) (hx : Ty.int.row false w v a F) (hy : Ty.int.row false w u b G) (wa : Within 1000 a) (wb : Within 1000 b) (la : a.length ≤ 1000) (lb : b.length ≤ 1000) :
    Calls Try.prog 54 #[v, u] w (IAns w (joinS a b).isSome ((joinS a b).getD [])) := by
  obtain ⟨aa, ac, rfl, _, _⟩ := Ty.row_len hx
  obtain ⟨ba, bc, rfl, hy1, hy2, _, hy3⟩ := row_int hy
  go_enter Try.func54, Try.ntmps54
  go_wp2_with fail
  refine (l1Own_any _ a F w hx (by omega)).mono ?_
  rintro e w1 ⟨v1, rfl, ho1, hb1⟩
  have S0 := (Sp.start w).own_call hb1 ho1
  obtain ⟨a1, c1, rfl⟩ := owns_form ho1
  replace S0 := Lib.hid S0
  have hW0 := Lib.hid wa
  have hj0 : Hid (joinS a (b.drop 0) = joinS a b) := by unfold Hid; rw [List.drop_zero]
  clear ho1 hb1
  go_wp2_with fail
  go_loopw [6, 7] (fun s i wr => ∃ (k : Nat) (out : List Int), k ≤ b.length ∧ i = .int .i64 k ∧ out.length ≤ a.length + k ∧ Hid (Within 1000 out) ∧ Hid (joinS out (b.drop k) = joinS a b) ∧ Hid (Sp w wr [Own 3 1 s out.length (out.map (.int .i64))])) (fun _ i _ => b.length - (intOf i).toNat)
  case atStart => exact ⟨0, a, Nat.zero_le _, rfl, by omega, hW0, hj0, S0⟩
  case round =>
    obtain ⟨k, out, hk, rfl, hol, HW, HJ, HS⟩ := hrel
    clear hj0
    clear S0
    obtain ⟨sa, sc, rfl⟩ := owns_form (HS.out.own (i := 0) rfl)
    by_cases hlt : k < b.length
    · rcases hy3 with ⟨rfl, rfl⟩ | ⟨hyn, bk, off, rfl, rfl, hyc⟩
      · exact absurd hlt (by simp)
      have hB := HS.out.below
      have k0 := ((hyc k hlt).keep (hB.block bk (hyc k hlt).lt)).1
      have hl6 := wb _ (List.getElem_mem hlt)
      obtain ⟨H, hrow', -, -⟩ := own_row (HS.out.own (i := 0) rfl) (HW.out.i64 (by decide))
      have hrow := Ty.row_down hrow'
      have hd := List.drop_eq_getElem_cons hlt
      obtain ⟨l, hl⟩ : ∃ l, l = b[k] := ⟨_, rfl⟩
      rw [← hl] at k0 hl6 hd
      have HJ2 := HJ.out
      rw [hd] at HJ2
      replace hd := Lib.hid hd
      have hneg : wrap64 (-l) = -l := by unfold wrap64; omega
      have hl0 : -1000 ≤ l := hl6.1
      have hl1 : l ≤ 1000 := hl6.2
      replace hl := Lib.hid hl
      clear hyc hB hl hl6 hrow'
      cases hq : hasI out (-l)
      · cases hq2 : hasI out l
        · rw [joinS_put hq hq2] at HJ2
          replace HJ2 := Lib.hid HJ2
          have HN := Lib.hid (within_put HW.out ⟨hl0, hl1⟩)
          have hpl := Lib.hid (put_len out l)
          have hol9 : out.length ≤ 1000000000 := by omega
          go_wp2_with (first
            | (go_at_call 24; (first | (with_reducible refine (l2Has_at hrow hq).mono ?_) | (with_reducible refine (l2Has_at hrow hq2).mono ?_)); rintro e w2 ⟨rfl, rfl⟩)
            | (go_at_call 25; (with_reducible refine (l2Put_any _ out l H _ hrow hol9).mono ?_); rintro e w2 ⟨v2, rfl, ho2, hb2⟩))
          have S1 := (HS.out.own_call hb2 ho2).drop2w
          obtain ⟨a2, c2, rfl⟩ := owns_form ho2
          replace S1 := Lib.hid S1
          clear ho2 hb2 HS hrow HJ hd
          generalize putB out l = out2 at *
          go_wp2_with fail
          go_roundw
          case rel => exact ⟨k + 1, out2, by omega, by go_num, by rw [hpl.out]; omega, HN, HJ2, S1⟩
          case measure => simp [intOf]; omega
        · rw [joinS_has hq hq2] at HJ2
          replace HJ2 := Lib.hid HJ2
          clear HJ hd
          go_wp2_with (first
            | (go_at_call 24; (first | (with_reducible refine (l2Has_at hrow hq).mono ?_) | (with_reducible refine (l2Has_at hrow hq2).mono ?_)); rintro e w2 ⟨rfl, rfl⟩))
          go_roundw
          case rel => exact ⟨k + 1, out, by omega, by go_num, by omega, HW, HJ2, HS⟩
          case measure => simp [intOf]; omega
      · rw [joinS_no hq] at HJ2
        replace HJ2 := Lib.hid HJ2
        clear HJ hd
        go_wp2_with (first
          | (go_at_call 24; (first | (with_reducible refine (l2Has_at hrow hq).mono ?_)); rintro e w2 ⟨rfl, rfl⟩))
        have S1 := Lib.hid (HS.out.own_made 3 1)
        go_ret2
        rw [← HJ2.out]
        exact ⟨_, _, rfl, IntsAt.nil _ _, S1.out.below⟩
    · obtain rfl : k = b.length := by omega
      have HJ2 := HJ.out
      rw [List.drop_length] at HJ2
      replace HJ2 := Lib.hid HJ2
      clear HJ
      go_wp2_with fail
      go_ret2
      rw [← HJ2.out]
      exact ⟨_, _, rfl, HS.out.ints (i := 0) rfl (HW.out.i64 (by decide)), HS.out.below⟩

end Go.Proofs.Ytnjdmakbdhobgaa

/- Contracts: two rows of numbers put together, in the library; a variable left out of a clause, in the program. -/
namespace Go.Proofs.Ytnjdmakbdhobgaa
open Go.RowKit Go.Shelf

/- left out: the seat has no slices.Grow[[]int,int] -/

/- left out: the seat has no slices.Grow[[]int,int] -/

/- left out: the seat has no slices.Concat[[]int,int] -/

/- left out: the seat has no impl.withoutVar$1 -/

/- left out: the seat has no impl.withoutVar -/
end Go.Proofs.Ytnjdmakbdhobgaa

/- Contracts: total assignments and the value of a clause, in the reference. -/
namespace Go.Proofs.Ytnjdmakbdhobgaa
open Go.RowKit

/-- The total assignment of bits. -/
def totI (b i : Nat) : Int := if b.testBit i then (i : Int) + 1 else -((i : Int) + 1)
def totB (n b : Nat) : List Int := (List.range n).map (totI b)
theorem tot_len (n b : Nat) : (totB n b).length = n := by simp [totB]
theorem tot_snoc (n b : Nat) : totB (n + 1) b = totB n b ++ [totI b n] := by simp [totB, List.range_succ]
theorem tot_ok (n b : Nat) (hn : n ≤ 1000) : ∀ x ∈ totB n b, I64 x := by
  intro x hx
  obtain ⟨i, hi, rfl⟩ := List.mem_map.1 hx
  have := List.mem_range.1 hi
  unfold totI I64
  split <;> omega
theorem has_tot {n b : Nat} {l : Int} (h0 : l ≠ 0) (h1 : -(n : Int) ≤ l) (h2 : l ≤ n) : hasI (totB n b) l = litT b l := by
  unfold hasI litT
  rw [Bool.eq_iff_iff, List.contains_iff_mem]
  constructor
  · intro hm
    obtain ⟨i, hi, he⟩ := List.mem_map.1 hm
    unfold totI at he
    by_cases ht : b.testBit i = true
    · rw [if_pos ht] at he
      rw [show l.natAbs - 1 = i by omega, ht, decide_eq_true (by omega)]; rfl
    · rw [if_neg ht] at he
      rw [show l.natAbs - 1 = i by omega, Bool.eq_false_iff.2 ht, decide_eq_false (by omega)]; rfl
  · intro hb
    refine List.mem_map.2 ⟨l.natAbs - 1, List.mem_range.2 (by omega), ?_⟩
    unfold totI
    by_cases hp : 0 < l
    · rw [decide_eq_true hp] at hb
      have : b.testBit (l.natAbs - 1) = true := by simpa using hb
      rw [if_pos this]; omega
    · rw [decide_eq_false hp] at hb
      have : b.testBit (l.natAbs - 1) = false := by simpa using hb
      rw [this, if_neg (by simp)]; omega

/- left out: the seat has no spec.l3Total -/

/-- What l3Value tells. -/
def valP (c a : List Int) (e : Ending) : Prop := ∃ z : Int, e = .returned (.int .i64 z) ∧ (z == 1) = c.any (hasI a)
/- left out: the seat has no spec.l3Value -/
end Go.Proofs.Ytnjdmakbdhobgaa

/- Contract: total assignments in the program. -/
namespace Go.Proofs.Ytnjdmakbdhobgaa
open Go.RowKit

/- left out: the seat has no impl.total -/
end Go.Proofs.Ytnjdmakbdhobgaa

/- Contract: the backbone of a Cnf, in the program. -/
namespace Go.Proofs.Ytnjdmakbdhobgaa
open Go.RowKit

/-- The literals of a model that are true for all models up to k. -/
def keepK (n : Nat) (xss : List (List Int)) (f k : Nat) : List Int := (totB n f).filter fun l => (mods (modT xss) k).all fun b => litT b l
theorem mods_no {p : Nat → Bool} {k : Nat} (h : p k = false) : mods p (k + 1) = mods p k := by simp [mods, List.range_succ, List.filter_append, h]
theorem mods_yes {p : Nat → Bool} {k : Nat} (h : p k = true) : mods p (k + 1) = mods p k ++ [k] := by simp [mods, List.range_succ, List.filter_append, h]
theorem keep_no {n f k : Nat} {xss : List (List Int)} (h : modT xss k = false) : keepK n xss f (k + 1) = keepK n xss f k := by unfold keepK; rw [mods_no h]
theorem keep_yes {n f k : Nat} {xss : List (List Int)} (h : modT xss k = true) : keepK n xss f (k + 1) = (keepK n xss f k).filter fun l => !(!litT k l) := by
  unfold keepK
  rw [mods_yes h, List.filter_filter]
  congr 1
  funext l
  rw [List.all_append, Bool.and_comm]
  simp
theorem keep_zero (n f : Nat) (xss : List (List Int)) : keepK n xss f 0 = totB n f := by
  unfold keepK
  rw [List.filter_eq_self]
  intro l _
  rfl
theorem keep_len (n : Nat) (xss : List (List Int)) (f k : Nat) : (keepK n xss f k).length ≤ n := Nat.le_trans (List.length_filter_le _ _) (by rw [tot_len]; exact Nat.le_refl _)
theorem tot_lit {n f : Nat} (hn : n ≤ 12) : ∀ l ∈ totB n f, LitS l := by
  intro l hl
  obtain ⟨i, hi, rfl⟩ := List.mem_map.1 hl
  have := List.mem_range.1 hi
  unfold totI LitS
  split <;> omega
theorem keep_lit {n f k : Nat} (hn : n ≤ 12) {xss : List (List Int)} : ∀ l ∈ keepK n xss f k, LitS l := fun l hl => tot_lit hn l (List.mem_filter.1 hl).1
theorem keep_bone_k (n : Nat) (xss : List (List Int)) (f : Nat) (hf : f ∈ mods (modT xss) (2 ^ n)) : ∀ k, (totB k f).filter (fun l => (mods (modT xss) (2 ^ n)).all fun b => litT b l) = boneTo n xss k
  | 0 => rfl
  | k + 1 => by
    rw [tot_snoc, List.filter_append, keep_bone_k n xss f hf k, bone_next]
    congr 1
    have himp : ∀ x, impB n xss [x] = (mods (modT xss) (2 ^ n)).all fun b => litT b x := fun x => by
      rw [imp_mods]
      congr 1
      funext b
      exact cl_one x b
    rw [himp, himp]
    unfold totI
    have hp : ∀ (q : Bool), f.testBit k = q → ((mods (modT xss) (2 ^ n)).all fun b => litT b ((k : Int) + 1)) = true → q = true := fun q hq h => by
      have := List.all_eq_true.1 h f hf
      rw [lit_pos, hq] at this
      exact this
    have hm : ∀ (q : Bool), f.testBit k = q → ((mods (modT xss) (2 ^ n)).all fun b => litT b (-((k : Int) + 1))) = true → q = false := fun q hq h => by
      have := List.all_eq_true.1 h f hf
      rw [lit_neg, hq] at this
      simpa using this
    cases hq : f.testBit k
    · have h1 : ((mods (modT xss) (2 ^ n)).all fun b => litT b ((k : Int) + 1)) = false := by
        cases h : ((mods (modT xss) (2 ^ n)).all fun b => litT b ((k : Int) + 1))
        · rfl
        · exact absurd (hp _ hq h) (by simp)
      rw [h1]
      cases h2 : ((mods (modT xss) (2 ^ n)).all fun b => litT b (-((k : Int) + 1)))
      · simp [List.filter, h2]
      · simp [List.filter, h2]
    · have h1 : ((mods (modT xss) (2 ^ n)).all fun b => litT b (-((k : Int) + 1))) = false := by
        cases h : ((mods (modT xss) (2 ^ n)).all fun b => litT b (-((k : Int) + 1)))
        · rfl
        · exact absurd (hm _ hq h) (by simp)
      rw [h1]
      cases h2 : ((mods (modT xss) (2 ^ n)).all fun b => litT b ((k : Int) + 1))
      · simp [List.filter, h2]
      · simp [List.filter, h2]
theorem keep_bone {n : Nat} {xss : List (List Int)} {f : Nat} (h1 : f < 2 ^ n) (h2 : modT xss f = true) : keepK n xss f (2 ^ n) = boneTo n xss n :=
  keep_bone_k n xss f (List.mem_filter.2 ⟨List.mem_range.2 h1, h2⟩) n
theorem idx_model {p : Nat → Bool} {N : Nat} (h : (List.range N).any p = true) : ∃ f : Nat, idxP p (List.range N) = (f : Int) ∧ f < N ∧ p f = true := by
  have hlt : (List.range N).findIdx p < (List.range N).length := List.findIdx_lt_length_of_exists (by simpa using List.any_eq_true.1 h)
  refine ⟨(List.range N).findIdx p, by unfold idxP; rw [if_pos h], by simpa using hlt, ?_⟩
  have := List.findIdx_getElem (w := hlt)
  simpa using this

/- left out: the seat has no impl.BackboneOf$1$1 -/

/- left out: the seat has no impl.BackboneOf$1 -/

/-- What is left of the first model's literals before k. -/
def BoneP (w : World) (n : Nat) (xss : List (List Int)) (f o m fb : Nat) (fcs : Array Value) (k : Nat) (V : World) : Prop :=
  ∃ (ts : List Int) (B : Option Addr) (cc : Nat), ts = keepK n xss f k ∧ (∀ g, (Value.slice B ts.length cc).ownBlock = some g → g ≠ m) ∧
    Sp w V [Own 3 1 (.slice B ts.length cc) ts.length (ts.map (.int .i64)), Box o 33 #[.slice B ts.length cc], Box fb 28 fcs]

/- left out: the seat has no impl.BackboneOf -/
end Go.Proofs.Ytnjdmakbdhobgaa

/- Contracts: inequalities over bits, in the program. -/
namespace Go.Proofs.Ytnjdmakbdhobgaa
open Go.RowKit

theorem within_at {x a b : Int} {q : Bool} (h : inB x a b = q) (w : World) : Calls Try.prog 16 #[.int .i64 x, .int .i64 a, .int .i64 b] w fun e w' => e = .returned (.bool q) ∧ w = w' := h ▸ within_any x a b w
theorem varsOk_at {x : Int} {q : Bool} (h : inB x 0 12 = q) (w : World) : Calls Try.prog 29 #[.int .i64 x] w fun e w' => e = .returned (.bool q) ∧ w = w' := h ▸ varsOk_any x w
/- left out: the seat has no impl.IsInequality$1 -/

/- left out: the seat has no impl.IsInequality -/

/- left out: the seat has no impl.planeHolds -/
end Go.Proofs.Ytnjdmakbdhobgaa

/- Contracts: total assignments and their bits, on both sides. -/
namespace Go.Proofs.Ytnjdmakbdhobgaa
open Go.RowKit

/-- A row of the call's own, and whether it is told. -/
def OwnAns (w : World) (ok : Bool) (zs : List Int) (e : Ending) (w' : World) : Prop := ∃ D dc, e = .returned (.tuple #[.slice D zs.length dc, .bool ok]) ∧ Sp w w' [Own 3 1 (.slice D zs.length dc) zs.length (zs.map (.int .i64))]
def totOk (vars bits : Int) : Bool := inB vars 0 12 && inB bits 0 (((2 ^ vars.toNat : Nat) : Int) - 1)
def totL (vars bits : Int) : List Int := if totOk vars bits then totB vars.toNat bits.toNat else []
theorem totOk_parts {vars bits : Int} (h : totOk vars bits = true) : 0 ≤ vars ∧ vars ≤ 12 ∧ 0 ≤ bits ∧ bits.toNat < 2 ^ vars.toNat := by
  unfold totOk at h
  rw [Bool.and_eq_true, inB_true, inB_true] at h
  have h1 : 1 ≤ 2 ^ vars.toNat := Nat.one_le_two_pow
  omega

/- left out: the seat has no impl.TotalOf -/

/- left out: the seat has no spec.TotalOf -/
end Go.Proofs.Ytnjdmakbdhobgaa

/- Contracts: the collector of clauses, in the program. -/
namespace Go.Proofs.Ytnjdmakbdhobgaa
open Go.RowKit

/-- The collector: its clauses and its box. -/
abbrev FamP (fb : Nat) (vars : Int) (B : Option Addr) (c : Nat) (cs : List Value) (xss : List (List Int)) (ps : List Asn) : List Asn :=
  Rows Ty.int 33 (.slice B xss.length c) cs xss :: Box fb 52 #[.int .i64 vars, .slice B xss.length c] :: ps

set_option maxRecDepth 100000 in
set_option maxHeartbeats 4000000 in
theorem famAdd_any (fb : Nat) (vars : Int) (B : Option Addr) (c : Nat) (cs : List Value) (xss : List (List Int)) (ps : List Asn) (w0 W : World) (R : List Int) (A : Option Addr) (k cap : Nat) (hcl : ∀ W', Below W.heap.size W W' → Calls Try.prog 39 #[.slice A k cap] W' (OneI W' R)) (hI : ∀ x ∈ R, I64 x) (hm : xss.length ≤ 1000)
    (S : Sp w0 W (FamP fb vars B c cs xss ps)) :
    Calls Try.prog 20 #[.pointer (some ⟨fb, 0, none⟩), .slice A k cap] W fun e w' => e = .returned (.tuple #[]) ∧ ∃ B' c' cs', Sp w0 w' (FamP fb vars B' c' cs' (xss ++ [R]) ps) := by
  obtain ⟨i0, hi, hz0, hz1, hz2⟩ := info_parts infoRow
  replace hcl := Lib.hid hcl
  have c1 := S.cell (i := 1) rfl (o := 1) rfl
  have S1 := Lib.hid S.drew
  clear S
  replace hI := Lib.hid hI
  go_enter Try.func20, Try.ntmps20
  go_wp2_with fail
  refine wp_region_tail_lit (S := (fun w' => w'.cell? ⟨fb, 1, none⟩ = some (.slice B xss.length c))) 9 [false, false, false, false, false, false, false, false, false, false, false, false] (by kernel_rfl) (by kernel_rfl) (by kernel_rfl) ?_ ?_
  · exact c1
  intro hSc
  (refine walkT_take (i := 0) (v := ?_) rfl (by kernel_rfl) (by decide) (by kernel_rfl) (by kernel_rfl) (fun _ _ _ h => h) (Or.inl ⟨by rfl, ?_⟩) (by assumption) ?_; rotate_left; (focus (intro w hSw; (try dsimp only at hSw); go_simp; (try with_reducible rfl); done)); (try simp only [put_rules]))
  (refine walkT_take (i := 1) (v := ?_) rfl (by kernel_rfl) (by decide) (by kernel_rfl) (by kernel_rfl) (fun _ _ _ h => h) (Or.inl ⟨by rfl, ?_⟩) (by assumption) ?_; rotate_left; (focus (intro w hSw; (try dsimp only at hSw); go_simp; (try with_reducible rfl); done)); (try simp only [put_rules]))
  (refine walkT_take (i := 2) (v := ?_) rfl (by kernel_rfl) (by decide) (by kernel_rfl) (by kernel_rfl) (fun _ _ _ h => h) (Or.inl ⟨by rfl, ?_⟩) (by assumption) ?_; rotate_left; (focus (intro w hSw; (try dsimp only at hSw); go_simp; (try with_reducible rfl); done)); (try simp only [put_rules]))
  (refine walkT_take (i := 3) (v := ?_) rfl (by kernel_rfl) (by decide) (by kernel_rfl) (by kernel_rfl) (fun _ _ _ h => h) (Or.inl ⟨by rfl, ?_⟩) (by assumption) ?_; rotate_left; (focus (intro w hSw; (try dsimp only at hSw); go_simp; (try with_reducible rfl); done)); (try simp only [put_rules]))
  (refine walkT_take (i := 4) (v := ?_) rfl (by kernel_rfl) (by decide) (by kernel_rfl) (by kernel_rfl) (fun _ _ _ h => h) (Or.inl ⟨by rfl, ?_⟩) (by assumption) ?_; rotate_left; (focus (intro w hSw; (try dsimp only at hSw); go_simp; (try with_reducible rfl); done)); (try simp only [put_rules]))
  (refine walkT_take (i := 5) (v := ?_) rfl (by kernel_rfl) (by decide) (by kernel_rfl) (by kernel_rfl) (fun _ _ _ h => h) (Or.inl ⟨by rfl, ?_⟩) (by assumption) ?_; rotate_left; (focus (intro w hSw; (try dsimp only at hSw); go_simp; (try with_reducible rfl); done)); (try simp only [put_rules]))
  (refine walkT_ready (rs := [6]) (by kernel_rfl) (by simp) (by decide) ?_; refine AllT.cons rfl (fun K hK => ?_) AllT.nil)
  go_simp
  go_at_call 39
  refine (hcl.out _ (bdr (bb W))).mono ?_
  rintro e w2 ⟨D, dc, rfl, T⟩
  have S2 := Lib.hid (Sp.own_to_row (S1.out.seq T) hI.out)
  clear hcl S1 T c1
  go_wp2_with fail
  refine hK.out _ _ (S2.out.cell (i := 2) rfl (o := 1) rfl) (fun hS2 => ?_)
  clear hK hSc
  (try simp only [put_rules])
  (refine walkT_ready (rs := [7]) (by kernel_rfl) (by simp) (by decide) ?_; refine AllT.cons rfl (fun K hK => ?_) AllT.nil)
  go_simp
  have S3 := Lib.hid (S2.out.alloc_box #[.slice D R.length dc] 33)
  refine hK.out _ _ (S3.out.cell (i := 3) rfl (o := 1) rfl) (fun hS3 => ?_)
  clear hK hS2
  (try simp only [put_rules])
  (refine walkT_ready (rs := [8]) (by kernel_rfl) (by simp) (by decide) ?_; refine AllT.cons rfl (fun K hK => ?_) AllT.nil)
  (refine step_append_src rfl _ _ rfl Try.underlying26 hi hz0 hz1 hz2 rfl (by decide) _ xss.length _ rfl (S3.out.rows (i := 2) rfl) _ 1 1 [.slice D R.length dc] rfl (Src.one (S3.out.cell (i := 0) rfl (o := 0) rfl)) (by simp [Value.oneCell']) (by unfold maxLen; omega) (by omega) ?_; intro vE wE hownE hgE hatE)
  have S4 := S2.out.rows_push (bal (bb _) _) hownE hgE hatE
  obtain ⟨aE, cE, rfl⟩ := own_slice hownE
  refine hK.out _ _ (S4.cell (i := 1) rfl (o := 1) rfl) (fun _ => ?_)
  clear hK S2 S3 hownE hgE hatE
  have hfz := S4.frozen (i := 1) rfl 1
  have hc4 := S4.cell (i := 1) rfl (o := 1) rfl
  have S5 := Lib.hid (S4.store (i := 1) rfl 1 (.slice aE (xss.length + 1) cE))
  clear S4
  (try simp only [put_rules])
  (refine walkT_done (by kernel_rfl) ?_)
  simp only [List.drop_succ_cons, List.drop_zero]
  have hlen : xss.length + 1 = (xss ++ [R]).length := by simp
  have S6 : Hid (Sp w0 (wE.setCell ⟨fb, 1, none⟩ (.slice aE (xss.length + 1) cE)) (FamP fb vars aE cE (cs ++ [.slice D R.length dc]) (xss ++ [R]) ps)) := by
    unfold Hid FamP
    rw [← hlen]
    exact S5.out
  clear S5 hlen
  go_wp2_with fail
  exact bodyPost_end (v := .tuple #[]) (by simp [results, Try.results20, go_sem]) rfl ⟨rfl, aE, cE, _, S6.out⟩
end Go.Proofs.Ytnjdmakbdhobgaa
