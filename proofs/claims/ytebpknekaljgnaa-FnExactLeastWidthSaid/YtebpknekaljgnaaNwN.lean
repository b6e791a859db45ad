/- Contracts: the map of the rounds, in the program. -/
import Derived.Test.YtebpknekaljgnaaNwK
import Derived.Test.YtebpknekaljgnaaNwI
import Derived.Test.YtebpknekaljgnaaNwP
import Derived.Maps.Own
import Derived.Maps.OwnOps
import Derived.Maps.OwnSet
namespace Go.Proofs.Ytebpknekaljgnaa
open Go.RowKit Go.Maps

/-- A mask as a key. -/
abbrev mkey (m : Nat) : Lit := .int .u16 (m : Int)
theorem mkey_is (m : Nat) : WideAt.IsKeyLit (mkey m) := by first | trivial | (unfold WideAt.IsKeyLit; trivial) | exact .inl ⟨_, _, rfl⟩
theorem mkey_ne {a b : Nat} (h : a ≠ b) : mkey a ≠ mkey b := by
  intro e
  have : (a : Int) = (b : Int) := by injection e
  exact h (by omega)
/-- What the map says: which masks there are, and their rounds. -/
structure RMap (D : DataW Unit) (ms : List Nat) (R : List Int) : Prop where
  map : IsMap D
  has_ : ∀ m, has D (mkey m) = true ↔ m ∈ ms
  at_ : ∀ (i : Nat) (h : i < ms.length), D.atKey (mkey ms[i]) (.lit (.int .i64 0)) = .lit (.int .i64 (R.getD i 0))
theorem RMap.nil : RMap (.map []) [] [] := ⟨⟨[], rfl⟩, fun m => by simp [has], fun i h => by simp at h⟩
theorem RMap.put {D : DataW Unit} {ms : List Nat} {R : List Int} (h : RMap D ms R) (hl : R.length = ms.length) {m : Nat} (hm : m ∉ ms) (z : Int) : RMap (D.put (mkey m) (.lit (.int .i64 z))) (ms ++ [m]) (R ++ [z]) := by
  refine ⟨?_, fun k => ?_, fun i hi => ?_⟩
  · obtain ⟨es, rfl⟩ := h.map
    exact ⟨_, rfl⟩
  · by_cases e : k = m
    · subst e
      rw [has_put_same h.map (mkey_is _)]; simp
    · rw [has_put_other (mkey_ne e), h.has_]; simp [e]
  · rw [List.length_append] at hi
    by_cases hlt : i < ms.length
    · rw [List.getElem_append_left hlt, atKey_put_other (mkey_ne (fun e => hm (by rw [← e]; exact List.getElem_mem hlt))), h.at_ i hlt]
      rw [List.getD_eq_getElem?_getD, List.getD_eq_getElem?_getD, List.getElem?_append_left (by omega)]
    · obtain rfl : i = ms.length := by simp at hi; omega
      rw [List.getElem_append_right (Nat.le_refl _)]
      simp only [Nat.sub_self, List.getElem_cons_zero]
      rw [atKey_put_same h.map (mkey_is _), List.getD_eq_getElem?_getD, ← hl, List.getElem?_append_right (Nat.le_refl _)]
      simp

/-- The map as a part of the memory. -/
def MapP (b n : Nat) (ms : List Nat) (R : List Int) : Asn where
  p w F := F = [b] ∧ ∃ D : DataW Unit, w.ownsMap Try.prog 66 (plainElem Try.prog 3) b n D ∧ RMap D ms R
  lt := by
    rintro w F ⟨rfl, D, h, _⟩ x hx
    obtain rfl : x = b := by simpa using hx
    exact h.lt
  keep := by
    rintro w w' F ⟨rfl, D, ⟨es, clock, h1, h2⟩, h3⟩ hk
    exact ⟨rfl, D, ⟨es, clock, (hk b (by simp)).trans h1, h2⟩, h3⟩

section
variable {w0 w w' : World} {ps : List Asn} {i b n : Nat} {ms ms' : List Nat} {R R' : List Int}
theorem Sp.map_at (h : Sp w0 w ps) (hi : ps[i]? = some (MapP b n ms R)) : ∃ D : DataW Unit, w.ownsMap Try.prog 66 (plainElem Try.prog 3) b n D ∧ RMap D ms R := by
  obtain ⟨F, ⟨_, D, h1, h2⟩, _⟩ := h.get hi
  exact ⟨D, h1, h2⟩
theorem Sp.map_put {D : DataW Unit} {n' : Nat} (h : Sp w0 w ps) (hi : ps[i]? = some (MapP b n ms R)) (ho : w'.ownsMap Try.prog 66 (plainElem Try.prog 3) b n' D) (hR : RMap D ms' R') (hg : w.grownBy w' (some b)) : Sp w0 w' (ps.set i (MapP b n' ms' R')) := by
  obtain ⟨F, ⟨rfl, _⟩, hF, hall⟩ := h.upd hi
  refine hall w' _ [b] ⟨hg.os, hg.tape, hg.output, hg.size, fun k hk hn => hg.block k hk (fun e => hn (by simp at e; simp [e]))⟩ ⟨rfl, D, ho, hR⟩ fun x hx => .inl hx
end
theorem u16_wf {m : Nat} (h : m < 65536) : (Lit.int .u16 (m : Int)).wf = true := by
  have h1 : (0 : Int) ≤ (m : Int) ∧ (m : Int) ≤ 65535 := by omega
  simp [Lit.wf]
  exact h1
theorem mkeyed : Keyed Try.prog 66 := int_keyed Try.underlying66
theorem infoMask : (Try.prog.info? 66).map (fun i => (i.zero, i.size, i.bytes)) = some (some (.int .u16 0), 1, 2) := by kernel_rfl
theorem zeroInt (w : World) : (zeroValue 3).run Try.prog w = .ok (.int .i64 0) w := by kernel_rfl
/-- A mask as a value. -/
abbrev mval (m : Nat) : Value := .int .u16 (m : Int)
/-- The parts of a closure of the program. -/
abbrev XParts (bx mb : Nat) (mv : Value) (last : Int) (ms : List Nat) (R : List Int) : List Asn := [Box bx 64 #[mv, .map (some mb), .int .i64 last], Own 66 1 mv ms.length (ms.map mval), MapP mb ms.length ms R]

set_option maxRecDepth 100000 in
set_option maxHeartbeats 1000000 in
theorem add_old {w0 w : World} {ps : List Asn} {bx mb : Nat} {mv : Value} {last : Int} {ms : List Nat} {R : List Int} (m : Nat) (rd : Int) (h : Sp w0 w (XParts bx mb mv last ms R ++ ps)) (hm : m < 65536) (hin : m ∈ ms) :
    Calls Try.prog 60 #[.pointer (some ⟨bx, 0, none⟩), .int .u16 m, .int .i64 rd] w fun e w' => e = .returned (.tuple #[]) ∧ w = w' := by
  have c1 := h.cell (i := 0) rfl (o := 1) rfl
  obtain ⟨D, hown, hD⟩ := h.map_at (i := 2) rfl
  have hhas := (hD.has_ m).2 hin
  have hkey := keyOf_int_mk Try.underlying66 (u16_wf hm)
  replace hown := Lib.hid hown
  replace hkey := Lib.hid hkey
  clear hD h
  go_enter Try.func60, Try.ntmps60
  go_wp2_with (at_lookup; refine wpList_lookup_own_ok_int _ rfl _ _ 62 rfl 66 3 .i64 mkeyed Try.underlying62 Try.underlying3 (zeroInt _) mb ms.length D rfl hown.out _ _ rfl hkey.out ?_; intro c hat hwc)
  exact bodyPost_end (v := .tuple #[]) (by simp [results, Try.results60, go_sem]) rfl ⟨rfl, rfl⟩

/-- What 'add' leaves: the row of masks in its place, or a new one, and the old one is still there. -/
def AddPost (w0 : World) (bx mb : Nat) (mv : Value) (rd : Int) (ms0 ms : List Nat) (R : List Int) (ps : List Asn) (e : Ending) (w' : World) : Prop :=
  e = .returned (.tuple #[]) ∧ ∃ mv', (mv'.ownBlock = mv.ownBlock ∧ Sp w0 w' (XParts bx mb mv' rd ms R ++ ps)) ∨ Sp w0 w' (XParts bx mb mv' rd ms R ++ (Own 66 1 mv ms0.length (ms0.map mval) :: ps))

set_option maxRecDepth 100000 in
set_option maxHeartbeats 2000000 in
theorem add_new {w0 w : World} {ps : List Asn} {bx mb : Nat} {mv : Value} {last : Int} {ms : List Nat} {R : List Int} (m : Nat) (rd : Int) (h : Sp w0 w (XParts bx mb mv last ms R ++ ps)) (hm : m < 65536) (hin : m ∉ ms) (hl : R.length = ms.length) (hms : ms.length ≤ 100000) (hrd : I64 rd) :
    Calls Try.prog 60 #[.pointer (some ⟨bx, 0, none⟩), .int .u16 m, .int .i64 rd] w (AddPost w0 bx mb mv rd ms (ms ++ [m]) (R ++ [rd]) ps) := by
  obtain ⟨i0, hi, hz0, hz1, hz2⟩ := info_parts infoMask
  obtain ⟨ma, mc, rfl, hmc, -⟩ := own_src (h.own (i := 1) rfl)
  have c0 := h.cell (i := 0) rfl (o := 0) rfl
  have c1 := h.cell (i := 0) rfl (o := 1) rfl
  have c2 := h.cell (i := 0) rfl (o := 2) rfl
  have f0 := h.frozen (i := 0) rfl 0
  have f2 := h.frozen (i := 0) rfl 2
  obtain ⟨D, hown, hD⟩ := h.map_at (i := 2) rfl
  have hhas : has D (mkey m) = false := by
    cases hh : has D (mkey m)
    · rfl
    · exact absurd ((hD.has_ m).1 hh) hin
  have hkey := keyOf_int_mk Try.underlying66 (u16_wf hm)
  have hput := hD.put hl hin rd
  have hwf := Lib.hid (show (Lit.int .i64 rd).wf = true from WalkArith.wf_i64 (by unfold I64 at hrd; omega))
  have hlen : ms.length + 1 = (ms ++ [m]).length := by simp
  have hmap : ms.map mval ++ [.int .u16 m] = (ms ++ [m]).map mval := by simp
  obtain ⟨ms2, hms2⟩ : ∃ z, ms ++ [m] = z := ⟨_, rfl⟩
  rw [hms2] at hlen hmap hput ⊢
  replace hput := Lib.hid hput
  replace hlen := Lib.hid hlen
  replace hmap := Lib.hid hmap
  clear hms2
  replace hown := Lib.hid hown
  replace hkey := Lib.hid hkey
  replace h := Lib.hid h
  clear hD
  go_enter Try.func60, Try.ntmps60
  go_wp2_with (first
    | (at_lookup; refine wpList_lookup_own_ok_int _ rfl _ _ 62 rfl 66 3 .i64 mkeyed Try.underlying62 Try.underlying3 (zeroInt _) mb ms.length D rfl hown.out _ _ rfl hkey.out ?_; intro c hat hwc)
    | (at_mapUpdate; refine wpList_mapUpdate_own _ rfl _ _ _ 62 rfl 66 3 mkeyed Try.underlying62 _ mb ms.length D rfl hown.out (by unfold maxLen; omega) _ _ _ rfl rfl hkey.out _ [] (plainElem_int Try.underlying3 hwf.out) ?_; intro w1 hown1 hgrow1; have S1 := h.out.map_put (i := 2) rfl hown1 hput.out hgrow1; rw [hlen.out] at S1; have d0 := S1.cell (i := 0) rfl (o := 0) rfl; have S2 := S1.alloc_box #[.int .u16 m] 66; have kB := S2.cell (i := 0) rfl (o := 0) rfl; replace S2 := Lib.hid S2; clear S1 hown1 hgrow1 c0 c1 c2 f0 f2 hat hwc h hown hput)
    | (at_builtin; refine wpList_append_keep rfl _ _ rfl Try.underlying61 hi hz0 hz1 hz2 rfl (by decide) _ _ _ rfl (S2.out.own (i := 2) rfl) ⟨w1.heap.size, 0, none⟩ 1 1 [.int .u16 m] rfl rfl (one_new rfl) (by simp [Value.oneCell']) ?c3 ?c4 ?_))
  case c3 => unfold maxLen; omega
  case c4 => omega
  intro vY wY hownY hgY hatY
  rcases hatY with hatY | ⟨hatY, hbY⟩
  · have S3 := S2.out.own_push (i := 2) rfl (bb _) hownY hgY (.inl hatY)
    obtain ⟨aY, cY, rfl⟩ := owns_form hownY
    rw [hlen.out, hmap.out] at S3
    rw [hlen.out] at hatY ⊢
    replace hatY := Lib.hid hatY
    have e0 := S3.cell (i := 1) rfl (o := 0) rfl
    have g0 := S3.frozen (i := 1) rfl 0
    have e2 := S3.cell (i := 1) rfl (o := 2) rfl
    have g2 := S3.frozen (i := 1) rfl 2
    have S5 := Lib.hid (((S3.store (i := 1) rfl 0 (.slice aY ms2.length cY)).store (i := 1) rfl 2 (.int .i64 rd)).tail)
    clear S2 S3 hownY hgY kB d0
    go_wp2_with fail
    exact bodyPost_end (v := .tuple #[]) (by simp [results, Try.results60, go_sem]) rfl ⟨rfl, _, .inl ⟨hatY.out, S5.out⟩⟩
  · have S3 := S2.out.own_new (by rw [World.size_alloc]; exact hbY) hownY (fun g hg => by rw [hatY] at hg; have := Option.some.inj hg; rw [World.size_alloc]; omega)
    obtain ⟨aY, cY, rfl⟩ := owns_form hownY
    rw [hlen.out, hmap.out] at S3
    rw [hlen.out]
    have e0 := S3.cell (i := 2) rfl (o := 0) rfl
    have g0 := S3.frozen (i := 2) rfl 0
    have e2 := S3.cell (i := 2) rfl (o := 2) rfl
    have g2 := S3.frozen (i := 2) rfl 2
    have S4 := (S3.store (i := 2) rfl 0 (.slice aY ms2.length cY)).store (i := 2) rfl 2 (.int .i64 rd)
    have S5 := Lib.hid ((((((S4.bring (i := 3) rfl).bring (i := 4) rfl).bring (i := 2) rfl).bring (i := 4) rfl).bring (i := 4) rfl).tail)
    clear S2 S3 S4 hownY hgY kB d0 hatY hbY
    go_wp2_with fail
    exact bodyPost_end (v := .tuple #[]) (by simp [results, Try.results60, go_sem]) rfl ⟨rfl, _, .inr S5.out⟩
end Go.Proofs.Ytebpknekaljgnaa
