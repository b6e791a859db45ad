/- Lemmas and contracts for a law, put together out of several texts: PbS. -/
import Derived.Test.YtahbepajeplcmaaDoorMg6
import Derived.Test.YtahbepajeplcmaaDoorMg7
import Derived.Test.YtahbepajeplcmaaDoorMg3
/- Contract: the book of a text, in the reference. -/
namespace Go.Proofs.YtahbepajeplcmaaDoor
open Go.RowKit

/-- The system that has been found among the first j letters. -/
def letK (j : Nat) : UInt8 := if j = 0 then 114 else if j = 1 then 116 else if j = 2 then 108 else 112
def sysK (c : UInt8) : Nat → Int
  | 0 => 0
  | j + 1 => if letK j = c then ((j : Int) + 1) else sysK c j
theorem sysK_all (c : UInt8) : sysK c 4 = sysB c := by
  unfold sysB
  by_cases h1 : c = 114
  · subst h1; decide
  by_cases h2 : c = 116
  · subst h2; decide
  by_cases h3 : c = 108
  · subst h3; decide
  by_cases h4 : c = 112
  · subst h4; decide
  have e : Lib.indexByte [114, 116, 108, 112] c = -1 := by
    refine index_none ?_
    unfold hasB
    simp only [List.any_cons, List.any_nil, Bool.or_false, Bool.or_eq_false_iff, beq_eq_false_iff_ne, ne_eq]
    refine ⟨fun e => h1 (UInt8.toNat_inj.1 (by omega)), fun e => h2 (UInt8.toNat_inj.1 (by omega)), fun e => h3 (UInt8.toNat_inj.1 (by omega)), fun e => h4 (UInt8.toNat_inj.1 (by omega))⟩
  rw [e]
  simp only [sysK, letK]
  rw [if_neg (fun e => h4 e.symm), if_neg (fun e => h3 e.symm), if_neg (fun e => h2 e.symm), if_neg (fun e => h1 e.symm)]; rfl
theorem letK_get {j : Nat} (h : j < 4) : ((⟨#[114, 116, 108, 112]⟩ : ByteArray).data[j]'h) = letK j := by
  match j, h with
  | 0, _ => rfl
  | 1, _ => rfl
  | 2, _ => rfl
  | 3, _ => rfl
theorem letK_eq (j : Nat) (c : UInt8) : (((letK j).toNat : Int) == (c.toNat : Int)) = decide (letK j = c) := by
  rw [Bool.eq_iff_iff, beq_iff_eq, decide_eq_true_eq]
  exact ⟨fun e => UInt8.toNat_inj.1 (by omega), fun e => by rw [e]⟩
theorem rdW_sys {a u v : List UInt8} {c : UInt8} (h : sysB c = 0) : ∀ r, rdW [a, [c], u, v] = some r → r.sys = 0 := by
  intro r hr
  simp only [rdW] at hr
  split at hr
  · cases hr; exact h
  · cases hr
theorem none_sys {o : Option Rec} (h : o = none) : ∀ r, o = some r → r.sys = 0 := by subst h; intro r hr; cases hr
theorem some_ok : ∀ {l : List (List UInt8)} {xs : List Rec}, l.map rdR = xs.map some → (∀ p ∈ l, p.length ≤ 2000000) → ∀ r ∈ xs, rcOk r
  | [], [], _, _ => by simp
  | [], _ :: _, h, _ => by cases h
  | _ :: _, [], h, _ => by cases h
  | p :: l, x :: xs, h, hp => by
    simp only [List.map_cons, List.cons.injEq] at h
    intro r hr
    rcases List.mem_cons.1 hr with rfl | hr
    · exact rdR_ok h.1 (hp p (by simp))
    · exact some_ok h.2 (fun q hq => hp q (by simp [hq])) r hr
theorem part_oks {ps : List ByteArray} {L : List (List UInt8)} {k : Nat} {xs : List Rec} (h : (L.take k).map rdR = xs.map some) (hp : ∀ x ∈ ps, x.size ≤ 1100000) (hm : ps.map bl = L) : ∀ r ∈ xs, rcOk r :=
  some_ok h fun p hp' => by
    have := List.mem_of_mem_take hp'
    rw [← hm] at this
    obtain ⟨x, hx, rfl⟩ := List.mem_map.1 this
    have := hp x hx
    rw [bl_length]; omega
/-- What lies in memory while the lines are read. -/
abbrev SbPs (g : Nat) (o : Obj) (xs : List Rec) (A : Option Addr) (c : Nat) : List Asn := [Blk g o, Recs (.slice A xs.length c) xs]
theorem sp_blk_new {w0 W W' : World} {ps : List Asn} {g : Nat} (h : Sp w0 W ps) (hb : Below W.heap.size W W') (hg : W.heap.size ≤ g) (hl : g < W'.heap.size) : Sp w0 W' (Blk g W'.heap[g] :: ps) :=
  h.new hb (F := [g]) ⟨rfl, Array.getElem?_eq_getElem hl⟩ (by simpa using hg)
theorem blk_at {w0 W : World} {ps : List Asn} {g : Nat} {o : Obj} {i : Nat} (h : Sp w0 W ps) (hi : ps[i]? = some (Blk g o)) : W.heap[g]? = some o := by
  obtain ⟨F, ⟨-, h2⟩, -⟩ := h.get hi
  exact h2
theorem blk_cell {W W' : World} {g j : Nat} {o : Obj} {v : Value} (h : W.heap[g]? = some o) (h' : W'.heap[g]? = some o) (hc : W.cell? ⟨g, j, none⟩ = some v) : W'.cell? ⟨g, j, none⟩ = some v :=
  (World.cell?_of_block (a := ⟨g, j, none⟩) (h'.trans h.symm)).trans hc
theorem sb_no {s : List UInt8} {w W : World} {A : Option Addr} {c : Nat} (hR : parB s = ([], false)) (hS : Sp w W [Own 38 4 (.slice A 0 c) 0 []]) : PBPost (parB s) w (.returned (.tuple #[.slice A 0 c, .bool false])) W := by
  rw [hR]
  exact ⟨A, c, rfl, hS⟩

set_option maxRecDepth 100000 in
set_option maxHeartbeats 16000000 in
theorem specParseBook_any (s : ByteArray) (w : World) (hs : s.size ≤ 1100000) :
    Calls Tryd.prog 12 #[.string s] w (PBPost (parB (bl s)) w) := by
  obtain ⟨i0, hi0, hz0, hz1, hz2⟩ := info_parts infoRc
  go_enter Tryd.func12, Tryd.ntmps12
  have S0 := (Sp.start w).own_made 38 4
  have hspl := l1Split_any s 10 (w.alloc (.cells #[] 38)) (by omega)
  replace S0 := Lib.hid S0
  go_wp2_with (go_at_call 23; refine hspl.mono ?_; rintro e w1 ⟨g, cap, ps, rfl, hp0, hpl, hpc, hg0, hg1, hcs, hmap, hb1⟩)
  have hpl2 : ps.length ≤ 1100001 := by rw [bl_length] at hpl; omega
  have S1 := Lib.hid (sp_blk_new S0.out hb1 hg0 hg1)
  have ho := Lib.hid (Array.getElem?_eq_getElem hg1)
  have hpsz : ∀ x ∈ ps, x.size ≤ 1100000 := fun x hx => by
    have h1 := split_part_lenB 10 (bl s) (bl x) (by rw [← hmap]; exact List.mem_map.2 ⟨x, hx, rfl⟩)
    rw [bl_length, bl_length] at h1
    omega
  have hlen : (splitP 10 (bl s)).length = ps.length := by rw [← hmap, List.length_map]
  generalize w1.heap[g] = o1 at S1 ho
  replace hmap := Lib.hid hmap
  replace hcs := Lib.hid hcs
  replace hpsz := Lib.hid hpsz
  replace hlen := Lib.hid hlen
  clear S0 hspl hb1 hg0 hpl
  go_loopw [4, 6, 7, 8, 9, 10, 11, 12, 13] (fun vo vi _ _ _ _ _ _ _ wr => ∃ (k : Nat) (A : Option Addr) (c : Nat) (xs : List Rec), vi = .int .i64 k ∧ vo = .slice A xs.length c ∧ k + 1 ≤ ps.length ∧ Hid (xs.length = k) ∧ Hid (((splitP 10 (bl s)).take k).map rdR = xs.map some) ∧ Hid (Sp w wr (SbPs g o1 xs A c))) (fun _ vi _ _ _ _ _ _ _ _ => ps.length - (intOf vi).toNat)
  case atStart => exact ⟨0, _, _, [], rfl, rfl, by omega, rfl, rfl, S1⟩
  case round =>
    obtain ⟨k, A, c, xs, rfl, rfl, hk, hxk, hR, HS⟩ := hrel
    clear S1
    have hkw : IntKind.i64.wrap ((k : Int) + 1) = ((k : Int) + 1) := IntWalk.i64_in _ (by omega)
    have hRok := Lib.hid (part_oks hR.out hpsz.out hmap.out)
    by_cases hgo : k + 1 < ps.length ∧ xs.length ≤ 24
    case neg =>
      have hend := Lib.hid (part_end (s := bl s) (i := k) (by rw [hlen.out]; exact hk) hR.out (by rw [hlen.out]; omega))
      obtain ⟨Fr, hr, -, -⟩ := HS.out.recs_row (i := 1) rfl hRok.out
      have hx := row_read hr
      have hxg := fun W (h : Below wr.heap.size wr W) => Ty.row_below hx h (Ty.row_lt hx)
      have hB := Lib.hid HS.out.below
      have hS3 := Lib.hid (HS.out.pick [1] rfl)
      clear hr hR hRok HS hmap hcs hpsz hlen ho hxk
      rcases Nat.lt_or_ge (k + 1) ps.length with hlt | hge
      case inl =>
        have hle : ¬ (xs.length : Int) ≤ 24 := by omega
        clear hgo
        cases hb : bookB xs
        · have hR : parB (bl s) = ([], false) := by rw [hend.out, hb]; rfl
          clear hend
          go_wp2_with (go_at_call 15; refine (bookGood_at hx hb).mono ?_; rintro e w2 ⟨rfl, hb2⟩; replace hb2 := Lib.hid hb2)
          go_ret2
          exact sb_no hR ((Sp.of_below (btr hB.out hb2.out)).own_made _ _)
        · cases hq : textB xs == bl s
          · have hR : parB (bl s) = ([], false) := by rw [hend.out, hb, hq]; rfl
            have hne : (textB xs != bl s) = true := by simp [bne, hq]
            clear hend
            go_wp2_with first | (go_at_call 15; refine (bookGood_at hx hb).mono ?_; rintro e w2 ⟨rfl, hb2⟩; have hx2 := hxg _ hb2; replace hb2 := Lib.hid hb2) | (go_at_call 25; refine (l31Text_any _ xs Fr _ hx2 hb).mono ?_; rintro e w3 ⟨rfl, hb3⟩; replace hb3 := Lib.hid hb3)
            go_ret2
            exact sb_no hR ((Sp.of_below (btr (btr hB.out hb2.out) hb3.out)).own_made _ _)
          · have hR : parB (bl s) = (xs, true) := by rw [hend.out, hb, hq]; rfl
            have hne : (textB xs != bl s) = false := by simp [bne, hq]
            clear hend
            go_wp2_with first | (go_at_call 15; refine (bookGood_at hx hb).mono ?_; rintro e w2 ⟨rfl, hb2⟩; have hx2 := hxg _ hb2; replace hb2 := Lib.hid hb2) | (go_at_call 25; refine (l31Text_any _ xs Fr _ hx2 hb).mono ?_; rintro e w3 ⟨rfl, hb3⟩; replace hb3 := Lib.hid hb3)
            go_ret2
            rw [hR]
            exact ⟨_, _, rfl, (hS3.out.grow hb2.out).grow hb3.out⟩
      case inr =>
        have hlt : ¬ ((k : Int) + 1 < (ps.length : Int)) := by omega
        clear hgo
        cases hb : bookB xs
        · have hR : parB (bl s) = ([], false) := by rw [hend.out, hb]; rfl
          clear hend
          go_wp2_with (go_at_call 15; refine (bookGood_at hx hb).mono ?_; rintro e w2 ⟨rfl, hb2⟩; replace hb2 := Lib.hid hb2)
          go_ret2
          exact sb_no hR ((Sp.of_below (btr hB.out hb2.out)).own_made _ _)
        · cases hq : textB xs == bl s
          · have hR : parB (bl s) = ([], false) := by rw [hend.out, hb, hq]; rfl
            have hne : (textB xs != bl s) = true := by simp [bne, hq]
            clear hend
            go_wp2_with first | (go_at_call 15; refine (bookGood_at hx hb).mono ?_; rintro e w2 ⟨rfl, hb2⟩; have hx2 := hxg _ hb2; replace hb2 := Lib.hid hb2) | (go_at_call 25; refine (l31Text_any _ xs Fr _ hx2 hb).mono ?_; rintro e w3 ⟨rfl, hb3⟩; replace hb3 := Lib.hid hb3)
            go_ret2
            exact sb_no hR ((Sp.of_below (btr (btr hB.out hb2.out) hb3.out)).own_made _ _)
          · have hR : parB (bl s) = (xs, true) := by rw [hend.out, hb, hq]; rfl
            have hne : (textB xs != bl s) = false := by simp [bne, hq]
            clear hend
            go_wp2_with first | (go_at_call 15; refine (bookGood_at hx hb).mono ?_; rintro e w2 ⟨rfl, hb2⟩; have hx2 := hxg _ hb2; replace hb2 := Lib.hid hb2) | (go_at_call 25; refine (l31Text_any _ xs Fr _ hx2 hb).mono ?_; rintro e w3 ⟨rfl, hb3⟩; replace hb3 := Lib.hid hb3)
            go_ret2
            rw [hR]
            exact ⟨_, _, rfl, (hS3.out.grow hb2.out).grow hb3.out⟩
    obtain ⟨hlt, hle⟩ := hgo
    have hkl : k < ps.length := by omega
    have kL := blk_cell ho.out (blk_at HS.out (i := 0) rfl) (hcs.out k hkl)
    have hli := Lib.hid (part_no (s := bl s) (i := k) (by rw [hlen.out]; exact hlt))
    have hpk : (splitP 10 (bl s))[k]'(by rw [hlen.out]; exact hkl) = bl ps[k] := by simp only [← hmap.out, List.getElem_map]
    have hTs : ps[k].size ≤ 1100000 := hpsz.out _ (List.getElem_mem hkl)
    have hsp2 := l1Split_any ps[k] 32 wr (by omega)
    have htk : (splitP 10 (bl s)).take (k + 1) = (splitP 10 (bl s)).take k ++ [bl ps[k]] := by rw [List.take_succ_eq_append_getElem (by rw [hlen.out]; exact hkl), hpk]
    replace hli : Hid ((∀ r, rdR (bl ps[k]) = some r → r.sys = 0) → parB (bl s) = ([], false)) := Lib.hid (by rw [← hpk]; exact hli.out)
    generalize ps[k] = T at kL hli hTs hsp2 htk
    have hlt2 : (k : Int) + 1 < (ps.length : Int) := by omega
    have hle2 : (xs.length : Int) ≤ 24 := by omega
    replace htk := Lib.hid htk
    replace hxk := Lib.hid hxk
    clear hcs hmap hpsz hpk hRok
    go_upto_region 7 with (go_at_call 23; refine hsp2.mono ?_; rintro e w2 ⟨g2, cap2, ws, rfl, hw0, hwl, hwc, hg20, hg21, hws, hmap2, hb2⟩)
    have S2 := Lib.hid (HS.out.grow hb2)
    have hB2 := Lib.hid S2.out.below
    have hrd : rdR (bl T) = rdW (ws.map bl) := by unfold rdR; rw [hmap2]
    rw [hrd] at hli
    clear HS hsp2 kL hb2 hg20 hwl
    by_cases h4 : ws.length = 4
    case neg =>
      have hno := hli.out (none_sys (rdW_four (by rw [List.length_map]; exact h4)))
      have h4' : ¬ (ws.length : Int) = 4 := by omega
      replace hno := Lib.hid hno
      clear hli hmap2 hws h4 S2 hR
      go_wp2_with fail
      go_ret2
      exact sb_no hno.out ((Sp.of_below hB2.out).own_made _ _)
    obtain ⟨a, b, u, v, rfl⟩ := words_four h4
    have k0 : w2.cell? ⟨g2, 0, none⟩ = some (.string a) := hws 0 (by simp)
    have k1 : w2.cell? ⟨g2, 1, none⟩ = some (.string b) := hws 1 (by simp)
    have k2 : w2.cell? ⟨g2, 2, none⟩ = some (.string u) := hws 2 (by simp)
    have k3 : w2.cell? ⟨g2, 3, none⟩ = some (.string v) := hws 3 (by simp)
    have hwl : ([a, b, u, v] : List ByteArray).length = 4 := rfl
    rw [hwl]
    by_cases hb1 : b.size = 1
    case neg =>
      have hno := Lib.hid (hli.out (none_sys (rdW_one (by rw [bl_length]; exact hb1))))
      have hb1' : ((b.size : Int) == 1) = false := by rw [beq_eq_false_iff_ne]; omega
      clear hli hmap2 hws h4 S2 hR hb1
      go_wp2_with fail
      go_ret2
      exact sb_no hno.out ((Sp.of_below hB2.out).own_made _ _)
    have hus : u.size ≤ 2000000 ∧ v.size ≤ 2000000 := by
      have h1 := split_part_lenB 32 (bl T) (bl u) (by
        have : bl u ∈ List.map bl [a, b, u, v] := by simp
        rw [hmap2] at this; exact this)
      have h2 := split_part_lenB 32 (bl T) (bl v) (by
        have : bl v ∈ List.map bl [a, b, u, v] := by simp
        rw [hmap2] at this; exact this)
      rw [bl_length, bl_length] at h1 h2
      omega
    obtain ⟨cb, rfl⟩ := byte_one hb1
    have hb1' : (((⟨#[cb]⟩ : ByteArray).size : Int) == 1) = true := rfl
    clear hmap2 hws h4 hb1
    replace hli : Hid ((∀ r, rdW [bl a, [cb], bl u, bl v] = some r → r.sys = 0) → parB (bl s) = ([], false)) := hli
    replace hrd : Hid (rdR (bl T) = rdW [bl a, [cb], bl u, bl v]) := Lib.hid hrd
    go_wp2_with fail
    go_loopw [8, 9] (fun vs vk wq => ∃ j : Nat, j ≤ 4 ∧ vk = .int .i64 j ∧ vs = .int .i64 (sysK cb j) ∧ Hid (Below w2.heap.size w2 wq)) (fun _ vk _ => 4 - (intOf vk).toNat)
    case atStart => exact ⟨0, by omega, rfl, rfl, bb _⟩
    case round =>
      obtain ⟨j, hj, rfl, rfl, HQ⟩ := hrel
      have q1 := cell_regrown ((HQ.out.cell (World.block_lt_of_cell? _ _ k1)).trans k1)
      by_cases hj4 : j < 4
      · have hstep : sysK cb (j + 1) = if letK j = cb then ((j : Int) + 1) else sysK cb j := rfl
        have hle := letK_eq j cb
        clear k0 k1 k2 k3 hli hrd hR hxk S2 htk
        obtain rfl | rfl | rfl | rfl : j = 0 ∨ j = 1 ∨ j = 2 ∨ j = 3 := by omega
        · by_cases hc : letK 0 = cb
          · rw [if_pos hc] at hstep
            rw [decide_eq_true hc] at hle
            have hle2 : ((((⟨#[114, 116, 108, 112]⟩ : ByteArray)[0]'(by decide)).toNat : Int) == (((⟨#[cb]⟩ : ByteArray)[0]'(Nat.zero_lt_one)).toNat : Int)) = true := hle
            replace hstep := Lib.hid hstep
            clear hle hc
            go_wp2_with fail
            refine wp_region_quiet_below (by kernel_rfl) (by kernel_rfl) ?_
            repeat (any_goals (first | go_big_quiet_step (fail)))
            refine wpQuiet_nil ?_
            rintro w5 ⟨p, rfl⟩
            have HQ2 := Lib.hid (btr HQ.out (below_regrown _ p.d p.os))
            clear HQ q1
            go_wp2_with fail
            go_roundw
            case rel => exact ⟨1, by omega, by go_num, by rw [hstep.out]; go_num, HQ2.out⟩
            case measure => simp [intOf]
          · rw [if_neg hc] at hstep
            rw [decide_eq_false hc] at hle
            have hle2 : ((((⟨#[114, 116, 108, 112]⟩ : ByteArray)[0]'(by decide)).toNat : Int) == (((⟨#[cb]⟩ : ByteArray)[0]'(Nat.zero_lt_one)).toNat : Int)) = false := hle
            replace hstep := Lib.hid hstep
            clear hle hc
            go_wp2_with fail
            refine wp_region_quiet_below (by kernel_rfl) (by kernel_rfl) ?_
            repeat (any_goals (first | go_big_quiet_step (fail)))
            refine wpQuiet_nil ?_
            rintro w5 ⟨p, rfl⟩
            have HQ2 := Lib.hid (btr HQ.out (below_regrown _ p.d p.os))
            clear HQ q1
            go_wp2_with fail
            go_roundw
            case rel => exact ⟨1, by omega, by go_num, by rw [hstep.out], HQ2.out⟩
            case measure => simp [intOf]
        · by_cases hc : letK 1 = cb
          · rw [if_pos hc] at hstep
            rw [decide_eq_true hc] at hle
            have hle2 : ((((⟨#[114, 116, 108, 112]⟩ : ByteArray)[1]'(by decide)).toNat : Int) == (((⟨#[cb]⟩ : ByteArray)[0]'(Nat.zero_lt_one)).toNat : Int)) = true := hle
            replace hstep := Lib.hid hstep
            clear hle hc
            go_wp2_with fail
            refine wp_region_quiet_below (by kernel_rfl) (by kernel_rfl) ?_
            repeat (any_goals (first | go_big_quiet_step (fail)))
            refine wpQuiet_nil ?_
            rintro w5 ⟨p, rfl⟩
            have HQ2 := Lib.hid (btr HQ.out (below_regrown _ p.d p.os))
            clear HQ q1
            go_wp2_with fail
            go_roundw
            case rel => exact ⟨2, by omega, by go_num, by rw [hstep.out]; go_num, HQ2.out⟩
            case measure => simp [intOf]
          · rw [if_neg hc] at hstep
            rw [decide_eq_false hc] at hle
            have hle2 : ((((⟨#[114, 116, 108, 112]⟩ : ByteArray)[1]'(by decide)).toNat : Int) == (((⟨#[cb]⟩ : ByteArray)[0]'(Nat.zero_lt_one)).toNat : Int)) = false := hle
            replace hstep := Lib.hid hstep
            clear hle hc
            go_wp2_with fail
            refine wp_region_quiet_below (by kernel_rfl) (by kernel_rfl) ?_
            repeat (any_goals (first | go_big_quiet_step (fail)))
            refine wpQuiet_nil ?_
            rintro w5 ⟨p, rfl⟩
            have HQ2 := Lib.hid (btr HQ.out (below_regrown _ p.d p.os))
            clear HQ q1
            go_wp2_with fail
            go_roundw
            case rel => exact ⟨2, by omega, by go_num, by rw [hstep.out], HQ2.out⟩
            case measure => simp [intOf]
        · by_cases hc : letK 2 = cb
          · rw [if_pos hc] at hstep
            rw [decide_eq_true hc] at hle
            have hle2 : ((((⟨#[114, 116, 108, 112]⟩ : ByteArray)[2]'(by decide)).toNat : Int) == (((⟨#[cb]⟩ : ByteArray)[0]'(Nat.zero_lt_one)).toNat : Int)) = true := hle
            replace hstep := Lib.hid hstep
            clear hle hc
            go_wp2_with fail
            refine wp_region_quiet_below (by kernel_rfl) (by kernel_rfl) ?_
            repeat (any_goals (first | go_big_quiet_step (fail)))
            refine wpQuiet_nil ?_
            rintro w5 ⟨p, rfl⟩
            have HQ2 := Lib.hid (btr HQ.out (below_regrown _ p.d p.os))
            clear HQ q1
            go_wp2_with fail
            go_roundw
            case rel => exact ⟨3, by omega, by go_num, by rw [hstep.out]; go_num, HQ2.out⟩
            case measure => simp [intOf]
          · rw [if_neg hc] at hstep
            rw [decide_eq_false hc] at hle
            have hle2 : ((((⟨#[114, 116, 108, 112]⟩ : ByteArray)[2]'(by decide)).toNat : Int) == (((⟨#[cb]⟩ : ByteArray)[0]'(Nat.zero_lt_one)).toNat : Int)) = false := hle
            replace hstep := Lib.hid hstep
            clear hle hc
            go_wp2_with fail
            refine wp_region_quiet_below (by kernel_rfl) (by kernel_rfl) ?_
            repeat (any_goals (first | go_big_quiet_step (fail)))
            refine wpQuiet_nil ?_
            rintro w5 ⟨p, rfl⟩
            have HQ2 := Lib.hid (btr HQ.out (below_regrown _ p.d p.os))
            clear HQ q1
            go_wp2_with fail
            go_roundw
            case rel => exact ⟨3, by omega, by go_num, by rw [hstep.out], HQ2.out⟩
            case measure => simp [intOf]
        · by_cases hc : letK 3 = cb
          · rw [if_pos hc] at hstep
            rw [decide_eq_true hc] at hle
            have hle2 : ((((⟨#[114, 116, 108, 112]⟩ : ByteArray)[3]'(by decide)).toNat : Int) == (((⟨#[cb]⟩ : ByteArray)[0]'(Nat.zero_lt_one)).toNat : Int)) = true := hle
            replace hstep := Lib.hid hstep
            clear hle hc
            go_wp2_with fail
            refine wp_region_quiet_below (by kernel_rfl) (by kernel_rfl) ?_
            repeat (any_goals (first | go_big_quiet_step (fail)))
            refine wpQuiet_nil ?_
            rintro w5 ⟨p, rfl⟩
            have HQ2 := Lib.hid (btr HQ.out (below_regrown _ p.d p.os))
            clear HQ q1
            go_wp2_with fail
            go_roundw
            case rel => exact ⟨4, by omega, by go_num, by rw [hstep.out]; go_num, HQ2.out⟩
            case measure => simp [intOf]
          · rw [if_neg hc] at hstep
            rw [decide_eq_false hc] at hle
            have hle2 : ((((⟨#[114, 116, 108, 112]⟩ : ByteArray)[3]'(by decide)).toNat : Int) == (((⟨#[cb]⟩ : ByteArray)[0]'(Nat.zero_lt_one)).toNat : Int)) = false := hle
            replace hstep := Lib.hid hstep
            clear hle hc
            go_wp2_with fail
            refine wp_region_quiet_below (by kernel_rfl) (by kernel_rfl) ?_
            repeat (any_goals (first | go_big_quiet_step (fail)))
            refine wpQuiet_nil ?_
            rintro w5 ⟨p, rfl⟩
            have HQ2 := Lib.hid (btr HQ.out (below_regrown _ p.d p.os))
            clear HQ q1
            go_wp2_with fail
            go_roundw
            case rel => exact ⟨4, by omega, by go_num, by rw [hstep.out], HQ2.out⟩
            case measure => simp [intOf]
      · obtain rfl : j = 4 := by omega
        have hsy := sysK_all cb
        rw [hsy]
        have hB3 := Lib.hid (btr hB2.out HQ.out)
        have S3 := Lib.hid (S2.out.grow HQ.out)
        have k0 := (HQ.out.cell (World.block_lt_of_cell? _ _ k0)).trans k0
        have k2 := (HQ.out.cell (World.block_lt_of_cell? _ _ k2)).trans k2
        have k3 := (HQ.out.cell (World.block_lt_of_cell? _ _ k3)).trans k3
        have hr1 := Lib.hid fun W => l1Read_anyP u W hus.1
        have hr2 := Lib.hid fun W => l1Read_anyP v W hus.2
        have hzi1 := @numB_in (bl u)
        have hzi2 := @numB_in (bl v)
        have hsi := sysB_in cb
        have hokq : numsOk [bl u, bl v] = ((numB (bl u)).2 && (numB (bl v)).2) := by unfold numsOk; simp
        have hyes := rdW_yes (a := bl a) (u := bl u) (v := bl v) (c := cb)
        have hno := rdW_no (a := bl a) (u := bl u) (v := bl v) (c := cb)
        have hsz := rdW_sys (a := bl a) (u := bl u) (v := bl v) (c := cb)
        rw [hokq] at hyes hno
        generalize (numB (bl u)).1 = z1 at *
        generalize (numB (bl v)).1 = z2 at *
        generalize (numB (bl u)).2 = q1 at *
        generalize (numB (bl v)).2 = q2 at *
        generalize sysB cb = sy at *
        replace hyes := Lib.hid hyes
        replace hno := Lib.hid hno
        replace hsz := Lib.hid hsz
        clear S2 HQ k1 hsy hokq hus
        go_upto_region 17 with first | (go_at_call 24; refine (hr1.out _).mono ?_; rintro e w4 ⟨rfl, hb4⟩; have S4 := Lib.hid (S3.out.grow hb4); have k0 := (hb4.cell (World.block_lt_of_cell? _ _ k0)).trans k0; have k3 := (hb4.cell (World.block_lt_of_cell? _ _ k3)).trans k3; clear hb4 S3 hr1) | (go_at_call 24; refine (hr2.out _).mono ?_; rintro e w5 ⟨rfl, hb5⟩; have S5 := Lib.hid (S4.out.grow hb5); have k0 := (hb5.cell (World.block_lt_of_cell? _ _ k0)).trans k0; clear hb5 S4 hr2)
        cases q1
        · have hF := Lib.hid (hli.out (none_sys (hno.out (by simp))))
          clear hli hyes hno hsz hR k0
          go_wp2_with fail
          go_ret2
          exact sb_no hF.out ((Sp.of_below S5.out.below).own_made _ _)
        cases q2
        · have hF := Lib.hid (hli.out (none_sys (hno.out (by simp))))
          clear hli hyes hno hsz hR k0
          go_wp2_with fail
          go_ret2
          exact sb_no hF.out ((Sp.of_below S5.out.below).own_made _ _)
        by_cases hs0 : sy = 0
        · have hF := Lib.hid (hli.out (hsz.out hs0))
          subst hs0
          clear hli hyes hno hsz hR k0
          go_wp2_with fail
          go_ret2
          exact sb_no hF.out ((Sp.of_below S5.out.below).own_made _ _)
        have hs1 : (sy == 0) = false := by rw [beq_eq_false_iff_ne]; exact hs0
        have hy := Lib.hid (hrd.out.trans (hyes.out rfl))
        have hR2 : Hid (((splitP 10 (bl s)).take (k + 1)).map rdR = (xs ++ [(⟨bl a, sy, z1, z2⟩ : Rec)]).map some) := by
          unfold Hid
          rw [htk.out, List.map_append, List.map_append, hR.out, List.map_singleton, List.map_singleton, hy.out]
        have S6 := S5.out.alloc_box #[.string a, .int .i64 sy, .int .i64 z1, .int .i64 z2] 38
        have b0 : (w5.alloc (.cells #[.string a, .int .i64 sy, .int .i64 z1, .int .i64 z2] 38)).cell? ⟨w5.heap.size, 0, none⟩ = some (.string (ms (bl a))) := by rw [ms_bl]; exact S6.cell (i := 0) rfl (o := 0) rfl
        have hsrc := src_rec (r := ⟨bl a, sy, z1, z2⟩) b0 (S6.cell (i := 0) rfl (o := 1) rfl) (S6.cell (i := 0) rfl (o := 2) rfl) (S6.cell (i := 0) rfl (o := 3) rfl)
        have hxn : xs.length ≤ 2000000 := by have := hxk.out; omega
        replace S6 := Lib.hid S6
        replace hsrc := Lib.hid hsrc
        replace hs0 := Lib.hid hs0
        clear hli hyes hno hsz hR hrd htk S5 hy b0
        go_wp2_with (at_builtin; refine wpList_append_src rfl _ _ rfl Tryd.underlying24 hi0 hz0 hz1 hz2 rfl (by decide) _ xs.length _ rfl (S6.out.own (i := 2) rfl) _ 1 1 (rcEnc ⟨bl a, sy, z1, z2⟩) rfl hsrc.out (rec_one _) ?c3 ?c4 ?_)
        case c3 => unfold maxLen; omega
        case c4 => omega
        intro vY wY hownY hgY hatY
        have S7 := (S6.out.own_push (i := 2) rfl (bb _) hownY hgY (by simpa using hatY)).tail
        obtain ⟨aY, cY, rfl⟩ := own_slice hownY
        have S8 : Hid (Sp w wY (SbPs g o1 (xs ++ [⟨bl a, sy, z1, z2⟩]) aY cY)) := by
          unfold Hid SbPs Recs
          rw [List.length_append, List.length_singleton, List.flatMap_append, List.flatMap_singleton]
          exact S7
        have hl8 : xs.length + 1 = (xs ++ [(⟨bl a, sy, z1, z2⟩ : Rec)]).length := by simp
        have hk8 : Hid ((xs ++ [(⟨bl a, sy, z1, z2⟩ : Rec)]).length = k + 1) := by unfold Hid; rw [← hl8, hxk.out]
        rw [hl8]
        replace hl8 := Lib.hid hl8
        clear S6 S7 hownY hgY hatY hsrc
        go_wp2_with fail
        go_roundw
        case rel => exact ⟨k + 1, aY, cY, _, by go_num, rfl, by omega, hk8.out, hR2.out, S8.out⟩
        case measure => simp [intOf]; omega
end Go.Proofs.YtahbepajeplcmaaDoor
