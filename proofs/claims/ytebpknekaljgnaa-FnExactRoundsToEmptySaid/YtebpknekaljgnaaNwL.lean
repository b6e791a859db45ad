/- Contracts: the closure, in the reference. Printed by gen_clo.py. -/
import Derived.Test.YtebpknekaljgnaaNwJ
import Derived.Test.YtebpknekaljgnaaClC
namespace Go.Proofs.Ytebpknekaljgnaa
open Go.RowKit

/-- A closure of its own. -/
def CloPost (F0 : List (List Int)) (width : Int) (w : World) (e : Ending) (w' : World) : Prop :=
  ∃ lv rv av bv pv sv kl ks Kp R A B C, e = .returned (.agg #[lv, rv, av, bv, pv, sv]) ∧ Sp w w' [Cls lv kl, Ints rv R, Ints av A, Ints bv B, Ints pv C, Cls sv ks, Pool Kp] ∧ Clo F0 width (kl.map Prod.snd) R ∧
    Asc (ks.map Prod.snd) ∧ (∀ c, c ∈ ks.map Prod.snd ↔ c ∈ kl.map Prod.snd) ∧ (∀ q ∈ kl, q ∈ Kp) ∧ ∀ q ∈ ks, q ∈ Kp
/-- The first clauses, as far as they have been taken. -/
structure FirstTo (F0 : List (List Int)) (width : Int) (k : Nat) (fk Kp : List (Value × List Int)) : Prop where
  asc : Asc (fk.map Prod.snd)
  mem : ∀ c, c ∈ fk.map Prod.snd ↔ c ∈ F0.take k ∧ (c.length : Int) ≤ width
  sub : ∀ q ∈ fk, q ∈ Kp
theorem FirstTo.skip {F0 : List (List Int)} {width : Int} {k : Nat} {fk Kp : List (Value × List Int)} (h : FirstTo F0 width k fk Kp) (hk : k < F0.length) (hl : ¬ (F0[k].length : Int) ≤ width) : FirstTo F0 width (k + 1) fk Kp :=
  ⟨h.asc, fun c => by
    rw [h.mem, List.take_succ_eq_append_getElem hk, List.mem_append, List.mem_singleton]
    constructor
    · rintro ⟨a, b⟩; exact ⟨.inl a, b⟩
    · rintro ⟨a | rfl, b⟩
      · exact ⟨a, b⟩
      · exact absurd b hl, h.sub⟩
theorem FirstTo.old {F0 : List (List Int)} {width : Int} {k : Nat} {fk Kp : List (Value × List Int)} {q : Value × List Int} (h : FirstTo F0 width k fk Kp) (hk : k < F0.length) (hin : F0[k] ∈ fk.map Prod.snd) : FirstTo F0 width (k + 1) fk (q :: Kp) :=
  ⟨h.asc, fun c => by
    rw [List.take_succ_eq_append_getElem hk, List.mem_append, List.mem_singleton]
    constructor
    · intro hc
      have := (h.mem c).1 hc
      exact ⟨.inl this.1, this.2⟩
    · rintro ⟨a | rfl, b⟩
      · exact (h.mem c).2 ⟨a, b⟩
      · exact hin, fun q hq => List.mem_cons_of_mem _ (h.sub q hq)⟩
theorem FirstTo.new {F0 : List (List Int)} {width : Int} {k : Nat} {fk Kp : List (Value × List Int)} {v : Value} (h : FirstTo F0 width k fk Kp) (hk : k < F0.length) (hl : (F0[k].length : Int) ≤ width) (hin : F0[k] ∉ fk.map Prod.snd) : FirstTo F0 width (k + 1) (insP fk (v, F0[k])) ((v, F0[k]) :: Kp) :=
  ⟨by rw [insP_snd]; exact h.asc.ins hin, fun c => by
    rw [insP_snd, mem_insB, h.mem, List.take_succ_eq_append_getElem hk, List.mem_append, List.mem_singleton]
    constructor
    · rintro (rfl | ⟨a, b⟩)
      · exact ⟨.inr rfl, hl⟩
      · exact ⟨.inl a, b⟩
    · rintro ⟨a | rfl, b⟩
      · exact .inr ⟨a, b⟩
      · exact .inl rfl, fun q hq => by
    rcases mem_insP.1 hq with rfl | hq
    · exact List.mem_cons_self
    · exact List.mem_cons_of_mem _ (h.sub q hq)⟩
theorem FirstTo.ws {F0 : List (List Int)} {width : Int} {fk Kp : List (Value × List Int)} (h : FirstTo F0 width F0.length fk Kp) : WS F0 width 0 fk fk Kp (List.replicate fk.length 0) (List.replicate fk.length (-1)) (List.replicate fk.length (-1)) (List.replicate fk.length 0) := by
  refine ⟨?_, h.asc, fun _ => Iff.rfl, h.sub, h.sub, by simp, by simp, by simp⟩
  have := At.first (F := F0) (w := width) (L := fk.map Prod.snd) (fun c => by have := h.mem c; rwa [List.take_length] at this) h.asc.nodup
  rwa [List.length_map] at this

/-- The parts of the memory. -/
abbrev CloParts (b2 b4 b5 : Nat) (n : Int) (x fv lv rv av bv pv sv : Value) (fk kl : List (Value × List Int)) (R A B C : List Int) (Kp : List (Value × List Int)) : List Asn :=
  [Box b5 50 #[lv, rv, av, bv, pv, sv], Cls fv fk, Cls lv kl, Ints rv R, Ints av A, Ints bv B, Ints pv C, Box b4 50 #[.slice none 0 0, .slice none 0 0, .slice none 0 0, .slice none 0 0, .slice none 0 0, .slice none 0 0], Box b2 29 #[.int .i64 n, x], Pool Kp]

/-- While the first clauses are taken over. -/
def CS (w : World) (b2 b4 b5 : Nat) (n : Int) (x fv : Value) (fk Kp : List (Value × List Int)) (t : Nat) (wr : World) : Prop :=
  ∃ lv rv av bv pv kt R A B C, Sp w wr (CloParts b2 b4 b5 n x fv lv rv av bv pv (.slice none 0 0) fk kt R A B C Kp) ∧ kt = fk.take t ∧ R = List.replicate t 0 ∧ A = List.replicate t (-1) ∧ B = List.replicate t (-1) ∧ C = List.replicate t 0
theorem take_len {fk : List (Value × List Int)} {t : Nat} (h : t < fk.length) : (fk.take t).length + 1 = (fk.take (t + 1)).length ∧ (fk.take t).map Prod.fst ++ [fk[t].1] = (fk.take (t + 1)).map Prod.fst := by
  rw [take_more h]
  constructor
  · simp only [List.length_append, List.length_cons, List.length_nil]
  · simp only [List.map_append, List.map_cons, List.map_nil]
theorem rep_more {t : Nat} {z : Int} : (List.replicate t z).length + 1 = (List.replicate (t + 1) z).length ∧ (List.replicate t z).map (Value.int .i64) ++ [.int .i64 z] = (List.replicate (t + 1) z).map (Value.int .i64) := by
  rw [List.replicate_succ']
  constructor
  · simp
  · simp only [List.map_append, List.map_cons, List.map_nil]

/-- At the head of the rounds. -/
def LoopOk (F0 : List (List Int)) (width : Int) (r len : Nat) (q : Bool) : Prop := (q = true → r ≤ len) ∧ (q = false → ∀ s c, inR F0 width s c → inR F0 width r c)

set_option maxRecDepth 100000 in
set_option maxHeartbeats 16000000 in
theorem l10Closure_any (n width : Int) (v : Value) (F0 : List (List Int)) (F : List Nat) (w : World) (hx : (Ty.slice Ty.int).row false w v F0 F) (hF : GoodF n F0) (hw0 : 0 ≤ width) (hw6 : width ≤ 6) (hl : F0.length ≤ 100000) :
    Calls Try.prog 31 #[.agg #[.int .i64 n, v], .int .i64 width] w (CloPost F0 width w) := by
  obtain ⟨iI, hi, hz0, hz1, hz2⟩ := info_parts infoInt
  obtain ⟨iR, hiR, hzR0, hzR1, hzR2⟩ := info_parts infoRow
  obtain ⟨a0, c0, rfl, hx1, hx2, hx3⟩ := row_slices hx
  have hn0 := hF.1
  have hn6 := hF.2.1
  have hgF := Lib.hid (fun c (hc : c ∈ F0) => (hF.2.2 c hc).1)
  have S0 := ((((((((Sp.start w).pool_nil).alloc_box #[.int .i64 n, .slice a0 F0.length c0] 29).alloc_box #[.slice none 0 0, .slice none 0 0, .slice none 0 0, .slice none 0 0, .slice none 0 0, .slice none 0 0] 50).own_nil 3 1).own_nil 3 1).own_nil 3 1).own_nil 3 1).own_nil 25 1
  have S1 := (S0.own_made 25 1).alloc_box #[.slice none 0 0, .slice none 0 0, .slice none 0 0, .slice none 0 0, .slice none 0 0, .slice none 0 0] 50
  simp only [World.size_alloc] at S1
  replace S1 := Lib.hid S1
  replace hF := Lib.hid hF
  clear S0 hx
  go_enter Try.func31, Try.ntmps31
  go_wp2_with fail
  go_loopw [6, 7] (fun s i wr => ∃ (k : Nat) (fk Kp : List (Value × List Int)), k ≤ F0.length ∧ i = .int .i64 k ∧ Hid (FirstTo F0 width k fk Kp) ∧ Hid (Sp w wr (CloParts w.heap.size (w.heap.size + 1) (w.heap.size + 1 + 1 + 1) n (.slice a0 F0.length c0) s (.slice none 0 0) (.slice none 0 0) (.slice none 0 0) (.slice none 0 0) (.slice none 0 0) (.slice none 0 0) fk [] [] [] [] [] Kp))) (fun _ i _ => F0.length - (intOf i).toNat)
  case atStart => exact ⟨0, [], [], Nat.zero_le _, rfl, ⟨by simp, by simp, by simp⟩, S1⟩
  case round =>
    obtain ⟨k, fk, Kp, hk, rfl, HF, HS⟩ := hrel
    clear S1
    obtain ⟨fa, fc, rfl, hfc, -⟩ := own_src (HS.out.own (i := 1) rfl)
    have e1 := HS.out.cell (i := 8) rfl (o := 1) rfl
    by_cases hlt : k < F0.length
    · rcases hx3 with ⟨rfl, rfl⟩ | ⟨hxn, b, off, rfl, _, hxc⟩
      · exact absurd hlt (by simp)
      obtain ⟨u, Fk, hc, hr, _⟩ := hxc k hlt
      obtain ⟨ua, uc, rfl, _, _⟩ := Ty.row_len hr
      have hB := HS.out.below
      have e2 := (hc.keep (hB.block b hc.lt)).1
      have hr2 := Ty.row_below hr hB (Ty.row_lt hr)
      have hgk := hgF.out _ (List.getElem_mem hlt)
      have hgl6 := hgk.len
      clear hxc hc hr hB
      by_cases hle : (F0[k].length : Int) ≤ width
      · have hgf : Hid (∀ x ∈ fk.map Prod.snd, Good x) := fun x hx => hgF.out x (List.mem_of_mem_take ((HF.out.mem x).1 hx).1)
        have hfl : fk.length ≤ 4096 := by have := good_few HF.out.asc.nodup hgf.out; rwa [List.length_map] at this
        go_wp2_with fail
        refine (l1Own_any _ F0[k] Fk _ hr2 (by omega)).mono ?_
        rintro e w1 ⟨v1, rfl, ho1, hb1⟩
        have S2 := HS.out.pool_add (i := 9) rfl hb1 ho1 hgk.i64
        obtain ⟨oa, oc, rfl⟩ := owns_form ho1
        obtain ⟨Fc, rc⟩ := S2.pool_at (i := 9) rfl List.mem_cons_self
        obtain ⟨Ff, rf⟩ := S2.cls_row (i := 1) (j := 9) rfl rfl (fun q hq => List.mem_cons_of_mem _ (HF.out.sub q hq))
        have hsl := Lib.hid (S2.pool_slices (j := 9) rfl (fun q hq => List.mem_cons_of_mem _ (HF.out.sub q hq)))
        have hmf : Hid (∀ x ∈ fk.map Prod.snd, Mild x) := fun x hx => (hgf.out x hx).mild
        by_cases hin : F0[k] ∈ fk.map Prod.snd
        · have hcall := Lib.hid (l2Insert_old _ oa oc (fk.map Prod.snd) F0[k] Ff Fc w1 rf rc hmf.out hgk.mild (by rw [List.length_map]; omega) ((placeB_mem HF.out.asc).2 hin))
          have HN := Lib.hid (HF.out.old (q := (.slice oa F0[k].length oc, F0[k])) hlt hin)
          replace S2 := Lib.hid S2
          clear HS ho1 hb1 e1 e2 hr2 rc rf HF hin hsl
          go_wp2_with fail
          refine hcall.out.mono ?_
          rintro e w2 ⟨rfl, hb2⟩
          have S3 := Lib.hid (S2.out.grow hb2)
          clear S2 hcall
          go_wp2_with fail
          go_roundw
          case rel => exact ⟨k + 1, fk, _, by omega, by go_num, HN, S3⟩
          case measure => simp [intOf]; omega
        · have hcall := Lib.hid (l2Insert_new _ oa oc fk F0[k] Ff Fc w1 (S2.own (i := 1) rfl) hsl.out rf rc hmf.out hgk.mild (by omega) (fun h => hin ((placeB_mem HF.out.asc).1 h)))
          have HN := Lib.hid (HF.out.new (v := .slice oa F0[k].length oc) hlt hle hin)
          replace S2 := Lib.hid S2
          clear HS ho1 hb1 e1 e2 hr2 rc rf HF hin hsl
          go_wp2_with fail
          refine hcall.out.mono ?_
          rintro e w2 ⟨v2, rfl, ho2, hb2⟩
          have S3 := (S2.out.own_call hb2 ho2).swap_in (i := 1) rfl
          obtain ⟨na, nc, rfl, _, -⟩ := own_src ho2
          replace S3 := Lib.hid S3
          clear S2 hcall ho2 hb2
          go_wp2_with fail
          go_roundw
          case rel => exact ⟨k + 1, _, _, by omega, by go_num, HN, S3⟩
          case measure => simp [intOf]; omega
      · have HN := Lib.hid (HF.out.skip hlt hle)
        clear HF
        go_wp2_with fail
        go_roundw
        case rel => exact ⟨k + 1, _, _, by omega, by go_num, HN, HS⟩
        case measure => simp [intOf]; omega
    · obtain rfl : k = F0.length := by omega
      have hWS := Lib.hid HF.out.ws
      have hfl : fk.length ≤ 4096 := hWS.out.few hF.out
      clear HF
      go_wp2_with fail
      go_loopw [8] (fun i wr => ∃ t : Nat, t ≤ fk.length ∧ i = .int .i64 t ∧ Hid (CS w w.heap.size (w.heap.size + 1) (w.heap.size + 1 + 1 + 1) n (.slice a0 F0.length c0) (.slice fa fk.length fc) fk Kp t wr)) (fun i _ => fk.length - (intOf i).toNat)
      case atStart => exact ⟨0, Nat.zero_le _, rfl, ⟨_, _, _, _, _, [], [], [], [], [], HS.out, rfl, rfl, rfl, rfl, rfl⟩⟩
      case round =>
        obtain ⟨t, ht, rfl, HT⟩ := hrel
        clear HS
        obtain ⟨lv, rv, av, bv, pv, kt, R, A, B, C, HS, hkt, hR, hA, hB, hC⟩ := HT.out
        obtain ⟨la, lc, rfl, -, -⟩ := own_src (HS.own (i := 2) rfl)
        obtain ⟨ra, rc, rfl, -, -⟩ := own_src (HS.own (i := 3) rfl)
        obtain ⟨aa, ac, rfl, -, -⟩ := own_src (HS.own (i := 4) rfl)
        obtain ⟨ba, bc, rfl, -, -⟩ := own_src (HS.own (i := 5) rfl)
        obtain ⟨pa, pc, rfl, -, -⟩ := own_src (HS.own (i := 6) rfl)
        by_cases hltt : t < fk.length
        · obtain ⟨fg, rfl⟩ := own_ptr (HS.own (i := 1) rfl) (by omega)
          have hsubK := hWS.out.ml
          obtain ⟨Ge, re⟩ := HS.pool_at (i := 9) rfl (hsubK _ (List.getElem_mem hltt))
          obtain ⟨ea, ec, ee, _, _⟩ := Ty.row_len re
          have le : (fk.map Prod.fst)[t]? = some (.slice ea fk[t].2.length ec) := by rw [List.getElem?_map, List.getElem?_eq_getElem hltt, ← ee]; rfl
          obtain ⟨m1, m2⟩ := take_len hltt
          rw [ee] at m2
          obtain ⟨r1, r2⟩ := @rep_more t 0
          obtain ⟨q1, q2⟩ := @rep_more t (-1)
          have hktl : kt.length ≤ 10000 := by rw [hkt, List.length_take]; omega
          have hRl : R.length ≤ 10000 := by rw [hR, List.length_replicate]; omega
          have hAl : A.length ≤ 10000 := by rw [hA, List.length_replicate]; omega
          have hBl : B.length ≤ 10000 := by rw [hB, List.length_replicate]; omega
          have hCl : C.length ≤ 10000 := by rw [hC, List.length_replicate]; omega
          obtain ⟨kt2, hkt2⟩ : ∃ z, z = fk.take (t + 1) := ⟨_, rfl⟩
          obtain ⟨R2, hR2⟩ : ∃ z, z = List.replicate (t + 1) (0 : Int) := ⟨_, rfl⟩
          obtain ⟨A2, hA2⟩ : ∃ z, z = List.replicate (t + 1) (-1 : Int) := ⟨_, rfl⟩
          rw [← hkt, ← hkt2] at m1 m2
          have rR := r1; have rR' := r2; have rC := r1; have rC' := r2
          have rA := q1; have rA' := q2; have rB := q1; have rB' := q2
          rw [← hR, ← hR2] at rR rR'
          rw [← hC, ← hR2] at rC rC'
          rw [← hA, ← hA2] at rA rA'
          rw [← hB, ← hA2] at rB rB'
          generalize fk[t].2 = ce at *
          replace le := Lib.hid le
          replace m1 := Lib.hid m1
          replace m2 := Lib.hid m2
          replace rR := Lib.hid rR
          replace rR' := Lib.hid rR'
          replace rA := Lib.hid rA
          replace rA' := Lib.hid rA'
          replace rB := Lib.hid rB
          replace rB' := Lib.hid rB'
          replace rC := Lib.hid rC
          replace rC' := Lib.hid rC'
          replace hkt2 := Lib.hid hkt2
          replace hR2 := Lib.hid hR2
          replace hA2 := Lib.hid hA2
          have c0 := HS.cell (i := 0) rfl (o := 0) rfl
          have c1 := own_cell (HS.own (i := 1) rfl) le.out
          replace HS := Lib.hid HS
          clear hkt hR hA hB hC r1 r2 q1 q2 re ee HT hsubK
          go_wp2_with fail
          refine wp_region_tail_lit (S := (fun w' => w'.cell? ⟨w.heap.size + 1 + 1 + 1, 0, none⟩ = some (.slice la kt.length lc) ∧ w'.cell? ⟨fg, t, none⟩ = some (.slice ea ce.length ec))) 7 [false, false, false, false, false, false, false, false, false, false] (by kernel_rfl) (by kernel_rfl) (by kernel_rfl) ?_ ?_
          · exact ⟨c0, c1⟩
          intro hSc
          (refine walkT_take (i := 0) (v := ?_) rfl (by kernel_rfl) (by decide) (by kernel_rfl) (by kernel_rfl) (fun _ _ _ h => h) (Or.inl ⟨by rfl, ?_⟩) (by assumption) ?_; rotate_left; (focus (intro w hSw; (try dsimp only at hSw); go_simp; (try with_reducible rfl); done)); (try simp only [put_rules]))
          (refine walkT_take (i := 1) (v := ?_) rfl (by kernel_rfl) (by decide) (by kernel_rfl) (by kernel_rfl) (fun _ _ _ h => h) (Or.inl ⟨by rfl, ?_⟩) (by assumption) ?_; rotate_left; (focus (intro w hSw; (try dsimp only at hSw); go_simp; (try with_reducible rfl); done)); (try simp only [put_rules]))
          (refine walkT_take (i := 2) (v := ?_) rfl (by kernel_rfl) (by decide) (by kernel_rfl) (by kernel_rfl) (fun _ _ _ h => h) (Or.inl ⟨by rfl, ?_⟩) (by assumption) ?_; rotate_left; (focus (intro w hSw; (try dsimp only at hSw); go_simp; (try with_reducible rfl); done)); (try simp only [put_rules]))
          (refine walkT_take (i := 3) (v := ?_) rfl (by kernel_rfl) (by decide) (by kernel_rfl) (by kernel_rfl) (fun _ _ _ h => h) (Or.inl ⟨by rfl, ?_⟩) (by assumption) ?_; rotate_left; (focus (intro w hSw; (try dsimp only at hSw); go_simp; (try with_reducible rfl); done)); (try simp only [put_rules]))
          (refine walkT_take (i := 4) (v := ?_) rfl (by kernel_rfl) (by decide) (by kernel_rfl) (by kernel_rfl) (fun _ _ _ h => h) (Or.inl ⟨by rfl, ?_⟩) (by assumption) ?_; rotate_left; (focus (intro w hSw; (try dsimp only at hSw); go_simp; (try with_reducible rfl); done)); (try simp only [put_rules]))
          (refine walkT_take (i := 5) (v := ?_) rfl (by kernel_rfl) (by decide) (by kernel_rfl) (by kernel_rfl) (fun _ _ _ h => h) (Or.inl ⟨by rfl, ?_⟩) (by assumption) ?_; rotate_left; (focus (intro w hSw; (try dsimp only at hSw); go_simp; (try with_reducible rfl); done)); (try simp only [put_rules]))
          (refine walkT_ready (rs := [6]) (by kernel_rfl) (by simp) (by decide) ?_; refine AllT.cons rfl (fun K hK => ?_) AllT.nil)
          go_simp
          have S1 := HS.out.drew.alloc_box #[.slice ea ce.length ec] 25
          (repeat (first | simp only [drew_size] at S1 | simp only [World.size_setCell] at S1 | simp only [World.size_alloc] at S1))
          have kB := S1.cell (i := 0) rfl (o := 0) rfl
          have e0 := S1.cell (i := 1) rfl (o := 0) rfl
          have e2 := own_cell (S1.own (i := 2) rfl) le.out
          replace S1 := Lib.hid S1
          clear HS hSc c0 c1
          refine hK.out _ _ ⟨e0, e2⟩ (fun _ => ?_)
          clear hK e0 e2
          (try simp only [put_rules])
          (refine walkT_done (by kernel_rfl) ?_)
          simp only [List.drop_succ_cons, List.drop_zero]
          (refine wpList_append_src rfl _ _ rfl Try.underlying22 hiR hzR0 hzR1 hzR2 rfl (by decide) _ kt.length _ rfl (S1.out.own (i := 3) rfl) _ 1 1 [.slice ea ce.length ec] rfl (Src.one kB) (by simp [Value.oneCell']) (by unfold maxLen; omega) (by omega) ?_; intro vZ wZ hownZ hgZ hatZ)
          have S2 := S1.out.own_push (i := 3) rfl (bb _) hownZ hgZ hatZ
          obtain ⟨aZ, cZ, rfl⟩ := owns_form hownZ
          rw [m1.out, m2.out] at S2
          rw [m1.out]
          have j0 := S2.cell (i := 1) rfl (o := 0) rfl
          have p0 := S2.frozen (i := 1) rfl 0
          have S3 := Lib.hid ((S2.store (i := 1) rfl 0 (.slice aZ kt2.length cZ)).tail)
          clear S1 S2 kB hownZ hgZ hatZ
          have c1 := S3.out.cell (i := 0) rfl (o := 1) rfl
          have U1 := S3.out.alloc_box #[.int .i64 0] 3
          (repeat (first | simp only [World.size_setCell] at U1 | simp only [World.size_alloc] at U1))
          have kB1 := U1.cell (i := 0) rfl (o := 0) rfl
          replace U1 := Lib.hid U1
          clear S3
          go_wp2_with (at_builtin; refine wpList_append_src rfl _ _ rfl Try.underlying25 hi hz0 hz1 hz2 rfl (by decide) _ _ _ rfl (U1.out.own (i := 4) rfl) _ 1 1 [.int .i64 0] rfl (Src.one kB1) (by simp [Value.oneCell']) ?c3 ?c4 ?_)
          case c3 => unfold maxLen; omega
          case c4 => omega
          intro vY1 wY1 hownY hgY hatY
          have V1 := U1.out.own_push (i := 4) rfl (bb _) hownY hgY (by simpa using hatY)
          obtain ⟨aY1, cY1, rfl⟩ := owns_form hownY
          rw [rR.out, rR'.out] at V1
          rw [rR.out]
          have j1 := V1.cell (i := 1) rfl (o := 1) rfl
          have p1 := V1.frozen (i := 1) rfl 1
          have T1 := Lib.hid ((V1.store (i := 1) rfl 1 (.slice aY1 R2.length cY1)).tail)
          clear U1 V1 hownY hgY hatY kB1 c1 j0 p0
          have c2 := T1.out.cell (i := 0) rfl (o := 2) rfl
          have U2 := T1.out.alloc_box #[.int .i64 (-1)] 3
          (repeat (first | simp only [World.size_setCell] at U2 | simp only [World.size_alloc] at U2))
          have kB2 := U2.cell (i := 0) rfl (o := 0) rfl
          replace U2 := Lib.hid U2
          clear T1
          go_wp2_with (at_builtin; refine wpList_append_src rfl _ _ rfl Try.underlying25 hi hz0 hz1 hz2 rfl (by decide) _ _ _ rfl (U2.out.own (i := 5) rfl) _ 1 1 [.int .i64 (-1)] rfl (Src.one kB2) (by simp [Value.oneCell']) ?c3 ?c4 ?_)
          case c3 => unfold maxLen; omega
          case c4 => omega
          intro vY2 wY2 hownY hgY hatY
          have V2 := U2.out.own_push (i := 5) rfl (bb _) hownY hgY (by simpa using hatY)
          obtain ⟨aY2, cY2, rfl⟩ := owns_form hownY
          rw [rA.out, rA'.out] at V2
          rw [rA.out]
          have j2 := V2.cell (i := 1) rfl (o := 2) rfl
          have p2 := V2.frozen (i := 1) rfl 2
          have T2 := Lib.hid ((V2.store (i := 1) rfl 2 (.slice aY2 A2.length cY2)).tail)
          clear U2 V2 hownY hgY hatY kB2 c2 j1 p1
          have c3 := T2.out.cell (i := 0) rfl (o := 3) rfl
          have U3 := T2.out.alloc_box #[.int .i64 (-1)] 3
          (repeat (first | simp only [World.size_setCell] at U3 | simp only [World.size_alloc] at U3))
          have kB3 := U3.cell (i := 0) rfl (o := 0) rfl
          replace U3 := Lib.hid U3
          clear T2
          go_wp2_with (at_builtin; refine wpList_append_src rfl _ _ rfl Try.underlying25 hi hz0 hz1 hz2 rfl (by decide) _ _ _ rfl (U3.out.own (i := 6) rfl) _ 1 1 [.int .i64 (-1)] rfl (Src.one kB3) (by simp [Value.oneCell']) ?c3 ?c4 ?_)
          case c3 => unfold maxLen; omega
          case c4 => omega
          intro vY3 wY3 hownY hgY hatY
          have V3 := U3.out.own_push (i := 6) rfl (bb _) hownY hgY (by simpa using hatY)
          obtain ⟨aY3, cY3, rfl⟩ := owns_form hownY
          rw [rB.out, rB'.out] at V3
          rw [rB.out]
          have j3 := V3.cell (i := 1) rfl (o := 3) rfl
          have p3 := V3.frozen (i := 1) rfl 3
          have T3 := Lib.hid ((V3.store (i := 1) rfl 3 (.slice aY3 A2.length cY3)).tail)
          clear U3 V3 hownY hgY hatY kB3 c3 j2 p2
          have c4 := T3.out.cell (i := 0) rfl (o := 4) rfl
          have U4 := T3.out.alloc_box #[.int .i64 0] 3
          (repeat (first | simp only [World.size_setCell] at U4 | simp only [World.size_alloc] at U4))
          have kB4 := U4.cell (i := 0) rfl (o := 0) rfl
          replace U4 := Lib.hid U4
          clear T3
          go_wp2_with (at_builtin; refine wpList_append_src rfl _ _ rfl Try.underlying25 hi hz0 hz1 hz2 rfl (by decide) _ _ _ rfl (U4.out.own (i := 7) rfl) _ 1 1 [.int .i64 0] rfl (Src.one kB4) (by simp [Value.oneCell']) ?c3 ?c4 ?_)
          case c3 => unfold maxLen; omega
          case c4 => omega
          intro vY4 wY4 hownY hgY hatY
          have V4 := U4.out.own_push (i := 7) rfl (bb _) hownY hgY (by simpa using hatY)
          obtain ⟨aY4, cY4, rfl⟩ := owns_form hownY
          rw [rC.out, rC'.out] at V4
          rw [rC.out]
          have j4 := V4.cell (i := 1) rfl (o := 4) rfl
          have p4 := V4.frozen (i := 1) rfl 4
          have T4 := Lib.hid ((V4.store (i := 1) rfl 4 (.slice aY4 R2.length cY4)).tail)
          clear U4 V4 hownY hgY hatY kB4 c4 j3 p3
          have HN := Lib.hid (show CS w w.heap.size (w.heap.size + 1) (w.heap.size + 1 + 1 + 1) n (.slice a0 F0.length c0) (.slice (some ⟨fg, 0, none⟩) fk.length fc) fk Kp (t + 1) _ from ⟨_, _, _, _, _, _, _, _, _, _, T4.out, hkt2.out, hR2.out, hA2.out, hA2.out, hR2.out⟩)
          clear T4
          go_wp2_with fail
          go_roundw
          case rel => exact ⟨t + 1, by omega, by go_num, HN⟩
          case measure => simp [intOf]; omega
        · obtain rfl : t = fk.length := by omega
          rw [List.take_length] at hkt
          have hkt' := hkt.symm
          subst hkt'
          have j5 := HS.cell (i := 0) rfl (o := 5) rfl
          have p5 := HS.frozen (i := 0) rfl 5
          have S5 := HS.store (i := 0) rfl 5 (.slice fa fk.length fc)
          have hWS2 : Hid (WS F0 width 0 fk fk Kp R A B C) := by unfold Hid; rw [hR, hA, hB, hC]; exact hWS.out
          have S6 := (((((((((S5.bring (i := 8) rfl).bring (i := 8) rfl).bring (i := 2) rfl).bring (i := 9) rfl).bring (i := 4) rfl).bring (i := 9) rfl).bring (i := 9) rfl).bring (i := 9) rfl).bring (i := 9) rfl).bring (i := 9) rfl
          replace S6 := Lib.hid S6
          replace hF := Lib.hid hF.out
          clear S5 HS HT hR hA hB hC hWS
          go_wp2_with fail
          clear j5 p5
          go_loopw [9, 10] (fun rd fr wr => ∃ (r : Nat) (q : Bool) (lv rv av bv pv sv : Value) (kl ks Kp : List (Value × List Int)) (R A B C : List Int), rd = .int .i64 ((r : Int) + 1) ∧ fr = .bool q ∧ r ≤ 5000 ∧ Hid (LoopOk F0 width r kl.length q) ∧ Hid (WS F0 width r kl ks Kp R A B C) ∧ Hid (Sp w wr (Cls lv kl :: Ints rv R :: Ints av A :: Ints bv B :: Ints pv C :: Cls sv ks :: Pool Kp :: [Box (w.heap.size + 1 + 1 + 1) 50 #[lv, rv, av, bv, pv, sv], Box (w.heap.size + 1) 50 #[.slice none 0 0, .slice none 0 0, .slice none 0 0, .slice none 0 0, .slice none 0 0, .slice none 0 0], Box w.heap.size 29 #[.int .i64 n, .slice a0 F0.length c0]]))) (fun rd _ _ => 10000 - (intOf rd).toNat)
          case atStart => exact ⟨0, true, _, _, _, _, _, _, _, _, _, _, _, _, _, rfl, rfl, by omega, ⟨fun _ => Nat.zero_le _, fun h => (by cases h)⟩, hWS2, S6⟩
          case round =>
            obtain ⟨r, q, lv, rv, av, bv, pv, sv, kl, ks, Kp, R, A, B, C, rfl, rfl, hr5, hL, hWS, HS⟩ := hrel
            clear S6 hWS2
            obtain ⟨la2, lc2, rfl, -, -⟩ := own_src (HS.out.own (i := 0) rfl)
            obtain ⟨ra2, rc2, rfl, -, -⟩ := own_src (HS.out.own (i := 1) rfl)
            obtain ⟨aa2, ac2, rfl, -, -⟩ := own_src (HS.out.own (i := 2) rfl)
            obtain ⟨ba2, bc2, rfl, -, -⟩ := own_src (HS.out.own (i := 3) rfl)
            obtain ⟨pa2, pc2, rfl, -, -⟩ := own_src (HS.out.own (i := 4) rfl)
            obtain ⟨sa2, sc2, rfl, -, -⟩ := own_src (HS.out.own (i := 5) rfl)
            have n0 := HS.out.cell (i := 9) rfl (o := 0) rfl
            have k0 := HS.out.cell (i := 7) rfl (o := 0) rfl
            have k1 := HS.out.cell (i := 7) rfl (o := 1) rfl
            have k2 := HS.out.cell (i := 7) rfl (o := 2) rfl
            have k3 := HS.out.cell (i := 7) rfl (o := 3) rfl
            have k4 := HS.out.cell (i := 7) rfl (o := 4) rfl
            have k5 := HS.out.cell (i := 7) rfl (o := 5) rfl
            cases q
            · have hClo : Hid (Clo F0 width (kl.map Prod.snd) R) := ⟨r, hWS.out.at_, hL.out.2 rfl⟩
              have z0 := HS.out.cell (i := 8) rfl (o := 0) rfl
              have z1 := HS.out.cell (i := 8) rfl (o := 1) rfl
              have z2 := HS.out.cell (i := 8) rfl (o := 2) rfl
              have z3 := HS.out.cell (i := 8) rfl (o := 3) rfl
              have z4 := HS.out.cell (i := 8) rfl (o := 4) rfl
              have z5 := HS.out.cell (i := 8) rfl (o := 5) rfl
              have y0 := HS.out.frozen (i := 8) rfl 0
              have y1 := HS.out.frozen (i := 8) rfl 1
              have y2 := HS.out.frozen (i := 8) rfl 2
              have y3 := HS.out.frozen (i := 8) rfl 3
              have y4 := HS.out.frozen (i := 8) rfl 4
              have y5 := HS.out.frozen (i := 8) rfl 5
              have V1 := Lib.hid ((((((HS.out.store (i := 8) rfl 0 (.slice la2 kl.length lc2)).store (i := 8) rfl 1 (.slice ra2 R.length rc2)).store (i := 8) rfl 2 (.slice aa2 A.length ac2)).store (i := 8) rfl 3 (.slice ba2 B.length bc2)).store (i := 8) rfl 4 (.slice pa2 C.length pc2)).store (i := 8) rfl 5 (.slice sa2 ks.length sc2))
              clear HS hL
              go_wp2_with fail
              exact bodyPost_ret (v := .agg #[.slice la2 kl.length lc2, .slice ra2 R.length rc2, .slice aa2 A.length ac2, .slice ba2 B.length bc2, .slice pa2 C.length pc2, .slice sa2 ks.length sc2]) (by simp [results, Try.results31, go_sem, z0, z1, z2, z3, z4, z5]) rfl ⟨_, _, _, _, _, _, kl, ks, Kp, R, A, B, C, rfl, V1.out.front (qs := [_, _, _, _, _, _, _]), hClo.out, hWS.out.asc, hWS.out.same, hWS.out.ml, hWS.out.ms⟩
            · have hr4 : r ≤ 4096 := Nat.le_trans (hL.out.1 rfl) (hWS.out.few hF.out)
              have hLr := Lib.hid (hL.out.1 rfl)
              clear hL
              go_wp2_with fail
              refine (l10Round_any w _ n width ((r : Int) + 1) r F0 _ _ _ _ _ _ kl ks Kp R A B C _ HS.out hF.out hw0 hw6 hWS.out rfl (by omega)).mono ?_
              rintro e w2 ⟨lv3, rv3, av3, bv3, pv3, sv3, kl3, ks3, K3, R3, A3, B3, C3, q3, rfl, S3, hW3, hq3⟩
              obtain ⟨la3, lc3, rfl, -, -⟩ := own_src (S3.own (i := 0) rfl)
              obtain ⟨ra3, rc3, rfl, -, -⟩ := own_src (S3.own (i := 1) rfl)
              obtain ⟨aa3, ac3, rfl, -, -⟩ := own_src (S3.own (i := 2) rfl)
              obtain ⟨ba3, bc3, rfl, -, -⟩ := own_src (S3.own (i := 3) rfl)
              obtain ⟨pa3, pc3, rfl, -, -⟩ := own_src (S3.own (i := 4) rfl)
              obtain ⟨sa3, sc3, rfl, -, -⟩ := own_src (S3.own (i := 5) rfl)
              have z0 := S3.cell (i := 7) rfl (o := 0) rfl
              have z1 := S3.cell (i := 7) rfl (o := 1) rfl
              have z2 := S3.cell (i := 7) rfl (o := 2) rfl
              have z3 := S3.cell (i := 7) rfl (o := 3) rfl
              have z4 := S3.cell (i := 7) rfl (o := 4) rfl
              have z5 := S3.cell (i := 7) rfl (o := 5) rfl
              have y0 := S3.frozen (i := 7) rfl 0
              have y1 := S3.frozen (i := 7) rfl 1
              have y2 := S3.frozen (i := 7) rfl 2
              have y3 := S3.frozen (i := 7) rfl 3
              have y4 := S3.frozen (i := 7) rfl 4
              have y5 := S3.frozen (i := 7) rfl 5
              have V1 := Lib.hid ((((((S3.store (i := 7) rfl 0 (.slice la3 kl3.length lc3)).store (i := 7) rfl 1 (.slice ra3 R3.length rc3)).store (i := 7) rfl 2 (.slice aa3 A3.length ac3)).store (i := 7) rfl 3 (.slice ba3 B3.length bc3)).store (i := 7) rfl 4 (.slice pa3 C3.length pc3)).store (i := 7) rfl 5 (.slice sa3 ks3.length sc3))
              have hL3 : Hid (LoopOk F0 width (r + 1) kl3.length q3) := ⟨fun h => (by have := hq3.1 h; have := hr4; have h9 := hLr.out; omega), hq3.2⟩
              replace hW3 := Lib.hid hW3
              clear S3 HS k0 k1 k2 k3 k4 k5 hWS hq3
              go_wp2_with fail
              go_roundw
              case rel => exact ⟨r + 1, q3, _, _, _, _, _, _, kl3, ks3, K3, R3, A3, B3, C3, by go_num, rfl, by omega, hL3, hW3, V1⟩
              case measure => simp [intOf]; omega
end Go.Proofs.Ytebpknekaljgnaa
