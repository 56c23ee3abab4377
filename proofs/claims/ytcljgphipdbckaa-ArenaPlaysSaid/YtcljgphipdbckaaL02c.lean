/- The walk of ArenaPlays. -/
import Derived.Test.YtcljgphipdbckaaL02
import Derived.Test.YtcljgphipdbckaaM03
namespace Go.Proofs.Ytcljgphipdbckaa
open Go.RowKit

/-- a deed with an arena -/
structure Deed where
  kind : Int
  at_ : Int
  from_ : Int
  n : Int
  w : Int
def Deed.cells (d : Deed) : List Value := [.int .i64 d.kind, .int .i64 d.at_, .int .i64 d.from_, .int .i64 d.n, .int .u64 d.w]

set_option maxRecDepth 100000 in
set_option maxHeartbeats 1600000 in
theorem arenaPlays_long (A : Option Addr) (m c : Nat) (D : Option Addr) (nd cd : Nat) (W : World) (h : 200 < m ∨ 60 < nd) (hm : m ≤ 9223372036854775807) (hnd : nd ≤ 9223372036854775807) :
    Calls Try.prog 6 #[.slice A m c, .slice D nd cd] W fun e w' => e = .returned (.bool true) ∧ Below W.heap.size W w' := by
  by_cases h1 : 200 < m
  · clear h
    go_enter Try.func6, Try.ntmps6
    go_wp2_with (refine (awake02 _).mono ?_; rintro e w' ⟨rfl, hb2⟩)
    go_ret
    exact ⟨rfl, hb2⟩
  · have h2 : 60 < nd := by omega
    clear h
    go_enter Try.func6, Try.ntmps6
    go_wp2_with (refine (awake02 _).mono ?_; rintro e w' ⟨rfl, hb2⟩)
    go_ret
    exact ⟨rfl, hb2⟩

set_option maxRecDepth 100000 in
set_option maxHeartbeats 20000000 in
theorem arenaPlays_short (v dv : Value) (ws0 : List Int) (nd : Nat) (ds : Nat → Deed) (W : World) (hv : Rw W v ws0) (hd : Recs W dv 5 nd (fun k => (ds k).cells)) (hw : ∀ k, k < nd → U64 (ds k).w) (hm : ws0.length ≤ 200) (hnd : nd ≤ 60) :
    Calls Try.prog 6 #[v, dv] W fun e w' => e = .returned (.bool true) ∧ Below W.heap.size W w' := by
  obtain ⟨A, c, rfl, h1, h2, _⟩ := hv.reads
  obtain ⟨D, cd, rfl, d1, d2, _⟩ := id hd
  unfold maxLen at h2 d2
  have hm2 : (ws0.length : Int) ≤ 200 := by omega
  have hnd2 : (nd : Int) ≤ 60 := by omega
  have HF : Hid (Few ws0.length) := by show _ ≤ _; omega
  have HV := Lib.hid hv
  have HD := Lib.hid hd
  have HW := Lib.hid hw
  clear hv hd hw
  go_enter Try.func6, Try.ntmps6
  go_wp2_with fail
  refine (of_any HV.out (by omega)).mono ?_
  intro e w1 hmk
  obtain ⟨p, va, rfl, HA, HB, _⟩ := hmk.open_ (Below.refl _ _) (Nat.le_refl _)
  have HV1 := Lib.hid (HV.out.below HB.out)
  clear hmk
  go_wp2_with (at_builtin; refine wpList_clone_words rfl (.tmp 35) (.tmp 36) rfl w1 rfl A ws0.length c rfl ws0 HV1.out HF.out ?_; intro A0 c0 w2 hown hb)
  have HO : Hid (w2.ownsRow W.heap.size 22 1 (.slice A0 ws0.length c0) ws0.length (wds ws0)) := ⟨hown.1, by
    rcases hown.2 with hn | ⟨g, cap, cur, hv, hb2, rest⟩
    · exact .inl hn
    · exact .inr ⟨g, cap, cur, hv, Nat.le_trans HB.out.size hb2, rest⟩⟩
  have HA2 := Lib.hid (HA.out.below hb)
  have HB2 := Lib.hid (HB.out.trans (hb.mono HB.out.size))
  have HS : Hid ((Value.slice A0 ws0.length c0).ownBlock = none ∨ (Value.slice A0 ws0.length c0).ownBlock ≠ va.ownBlock) := by
    cases hq : (Value.slice A0 ws0.length c0).ownBlock with
    | none => exact .inl rfl
    | some g =>
      right; intro e
      have := (hown.lt g hq).1
      have := (HA.out.own.lt g e.symm).2
      omega
  clear hown hb HA
  go_wp2
  go_loopw [7, 8] (fun x i wr => ∃ (k : Nat) (ws : List Int) (A' : Option Addr) (c' : Nat), k ≤ nd ∧ i = .int .i64 (k : Nat) ∧ x = .slice A' ws0.length c' ∧ Hid (ws.length = ws0.length) ∧ Hid (Ar wr W.heap.size p va ws) ∧ Hid (wr.ownsRow W.heap.size 22 1 (.slice A' ws0.length c') ws0.length (wds ws)) ∧
    Hid ((Value.slice A' ws0.length c').ownBlock = none ∨ (Value.slice A' ws0.length c').ownBlock ≠ va.ownBlock) ∧ Hid (Below W.heap.size W wr)) (fun _ i _ => nd - (intOf i).toNat)
  case atStart => exact ⟨0, ws0, A0, c0, by omega, rfl, rfl, rfl, HA2, HO, HS, HB2⟩
  case round =>
    clear HV1 HB HA2 HO HS HB2
    obtain ⟨k, ws, A', c', hk, rfl, rfl, hl, ha, ho, hs, hb⟩ := hrel
    by_cases hlt : k < nd
    · have hd2 := HD.out.below hb.out
      obtain ⟨bd, od, rfl, hc⟩ := hd2.at_ (by omega)
      obtain ⟨hlen, hcc⟩ := hc k hlt
      have q0 := hcc 0 _ rfl
      rw [Nat.add_zero] at q0
      have q1 := hcc 1 _ rfl
      have q2 := hcc 2 _ rfl
      have q3 := hcc 3 _ rfl
      have q4 := hcc 4 _ rfl
      have hx := Lib.hid (HW.out k hlt)
      generalize (ds k).kind = kd at *
      generalize (ds k).at_ = at_ at *
      generalize (ds k).from_ = fr at *
      generalize (ds k).n = n at *
      generalize (ds k).w = x at *
      clear hd2 hc hcc hlen
      have HAd := Lib.hid (ha.out.below ((Below.refl _ _).alloc (Nat.le_refl _) (.cells #[.int .i64 kd, .int .i64 at_, .int .i64 fr, .int .i64 n, .int .u64 x] 41)))
      have HOd := Lib.hid (ho.out.alloc (.cells #[.int .i64 kd, .int .i64 at_, .int .i64 fr, .int .i64 n, .int .u64 x] 41))
      have HBd := Lib.hid (hb.out.alloc hb.out.size (.cells #[.int .i64 kd, .int .i64 at_, .int .i64 fr, .int .i64 n, .int .u64 x] 41))
      have HXd := Lib.hid (Blk.new wr 41 #[.int .i64 kd, .int .i64 at_, .int .i64 fr, .int .i64 n, .int .u64 x])
      have HP : Hid (p < wr.heap.size ∧ (∀ g, va.ownBlock = some g → g < wr.heap.size) ∧ (∀ g, (Value.slice A' ws0.length c').ownBlock = some g → g < wr.heap.size ∧ W.heap.size ≤ g)) :=
        ⟨ha.out.lt, fun g hg => (ha.out.own.lt g hg).2, fun g hg => ⟨(ho.out.lt g hg).2, (ho.out.lt g hg).1⟩⟩
      clear ha ho hb
      by_cases k0 : kd = 0
      · subst k0
        have R := read_ar at_ HAd.out
        cases hi : inB ws.length at_ with
        | true =>
          rw [rdV_yes hi, atE_yes hi] at R
          obtain ⟨i0, i1⟩ := inB_yes hi
          obtain ⟨K, rfl⟩ := Int.eq_ofNat_of_zero_le i0
          rw [Int.toNat_natCast] at R
          have i2 : K < ws0.length := by have := hl.out; omega
          obtain ⟨g, cap, e, hg1, hg2⟩ := HOd.out.form (by omega)
          injection e with e1 e2 e3
          subst e1 e3
          have hcw := HOd.out.cellAt K (by omega)
          rw [wds_get _ _ (by rw [hl.out]; exact i2)] at hcw
          obtain ⟨y, hy⟩ : ∃ y, y = ws.getD K 0 := ⟨_, rfl⟩
          rw [← hy] at hcw R
          have HR := Lib.hid R
          have HA5 := HAd
          have HO5 := HOd
          have HB5 := HBd
          have HL5 := hl
          have HS5 := hs
          clear hi R hg1 hg2 hy i1 HAd HOd HBd HXd HP
          go_wp2_with fail
          refine HR.out.mono ?_
          rintro e w' ⟨rfl, rfl⟩
          clear HR
          have hlb : (((ws).length : Int) != (ws0.length : Int)) = false := by rw [HL5.out]; simp
          have HFW : Hid (Few (ws).length) := by show Few _; rw [HL5.out]; exact HF.out
          go_wp2_with fail
          refine (words_ar HA5.out HFW.out).mono ?_
          rintro e w6 ⟨A6, c6, rfl, hown, hb⟩
          have HR6 := Lib.hid (Rw.of_own hown HA5.out.fit)
          have HW6 : Hid (Rw w6 (.slice (some ⟨g, 0, none⟩) ws0.length c') (ws)) := (Rw.of_own (by rw [HL5.out]; exact HO5.out) HA5.out.fit).below hb
          have HA6 := Lib.hid (HA5.out.below hb)
          have HO6 : Hid (w6.ownsRow W.heap.size 22 1 (.slice (some ⟨g, 0, none⟩) ws0.length c') ws0.length (wds (ws))) := HO5.out.kept ⟨hb.os, hb.tape, hb.output, hb.size, fun k hk _ => hb.block k hk⟩ (row := none) (by cases (Value.slice (some ⟨g, 0, none⟩) ws0.length c').ownBlock <;> simp)
          have HB6 := Lib.hid (HB5.out.trans (hb.mono HB5.out.size))
          clear hown hb HA5 HO5 HB5
          go_wp2_with fail
          refine (same_any HR6.out HW6.out).mono ?_
          rw [sameB_refl]
          rintro e w7 ⟨rfl, k7, rfl⟩
          go_wp2_with fail
          refine (len_ar (HA6.out.drewN k7)).mono ?_
          rintro e w' ⟨rfl, rfl⟩
          go_wp2
          go_roundw
          case rel => exact ⟨k + 1, ws, (some ⟨g, 0, none⟩), c', by omega, by go_num, rfl, HL5.out, HA6.out.drewN k7, HO6.out, HS5.out, ⟨HB6.out.os, HB6.out.tape, HB6.out.output, HB6.out.size, HB6.out.block⟩⟩
          case measure => simp [intOf] <;> omega
        | false =>
          rw [rdV_no hi, atE_no hi] at R
          have hi2 := inB_no hi
          rw [hl.out] at hi2
          have HR := Lib.hid R
          have HA5 := HAd
          have HO5 := HOd
          have HB5 := HBd
          have HL5 := hl
          have HS5 := hs
          clear hi R HAd HOd HBd HXd HP
          by_cases i1 : at_ < 0
          · clear hi2
            go_wp2_with fail
            refine HR.out.mono ?_
            rintro e w' ⟨rfl, rfl⟩
            clear HR
            have hlb : (((ws).length : Int) != (ws0.length : Int)) = false := by rw [HL5.out]; simp
            have HFW : Hid (Few (ws).length) := by show Few _; rw [HL5.out]; exact HF.out
            go_wp2_with fail
            refine (words_ar HA5.out HFW.out).mono ?_
            rintro e w6 ⟨A6, c6, rfl, hown, hb⟩
            have HR6 := Lib.hid (Rw.of_own hown HA5.out.fit)
            have HW6 : Hid (Rw w6 (.slice A' ws0.length c') (ws)) := (Rw.of_own (by rw [HL5.out]; exact HO5.out) HA5.out.fit).below hb
            have HA6 := Lib.hid (HA5.out.below hb)
            have HO6 : Hid (w6.ownsRow W.heap.size 22 1 (.slice A' ws0.length c') ws0.length (wds (ws))) := HO5.out.kept ⟨hb.os, hb.tape, hb.output, hb.size, fun k hk _ => hb.block k hk⟩ (row := none) (by cases (Value.slice A' ws0.length c').ownBlock <;> simp)
            have HB6 := Lib.hid (HB5.out.trans (hb.mono HB5.out.size))
            clear hown hb HA5 HO5 HB5
            go_wp2_with fail
            refine (same_any HR6.out HW6.out).mono ?_
            rw [sameB_refl]
            rintro e w7 ⟨rfl, k7, rfl⟩
            go_wp2_with fail
            refine (len_ar (HA6.out.drewN k7)).mono ?_
            rintro e w' ⟨rfl, rfl⟩
            go_wp2
            go_roundw
            case rel => exact ⟨k + 1, ws, A', c', by omega, by go_num, rfl, HL5.out, HA6.out.drewN k7, HO6.out, HS5.out, ⟨HB6.out.os, HB6.out.tape, HB6.out.output, HB6.out.size, HB6.out.block⟩⟩
            case measure => simp [intOf] <;> omega
          · have i2 : (ws0.length : Int) ≤ at_ := by omega
            clear hi2
            go_wp2_with fail
            refine HR.out.mono ?_
            rintro e w' ⟨rfl, rfl⟩
            clear HR
            have hlb : (((ws).length : Int) != (ws0.length : Int)) = false := by rw [HL5.out]; simp
            have HFW : Hid (Few (ws).length) := by show Few _; rw [HL5.out]; exact HF.out
            go_wp2_with fail
            refine (words_ar HA5.out HFW.out).mono ?_
            rintro e w6 ⟨A6, c6, rfl, hown, hb⟩
            have HR6 := Lib.hid (Rw.of_own hown HA5.out.fit)
            have HW6 : Hid (Rw w6 (.slice A' ws0.length c') (ws)) := (Rw.of_own (by rw [HL5.out]; exact HO5.out) HA5.out.fit).below hb
            have HA6 := Lib.hid (HA5.out.below hb)
            have HO6 : Hid (w6.ownsRow W.heap.size 22 1 (.slice A' ws0.length c') ws0.length (wds (ws))) := HO5.out.kept ⟨hb.os, hb.tape, hb.output, hb.size, fun k hk _ => hb.block k hk⟩ (row := none) (by cases (Value.slice A' ws0.length c').ownBlock <;> simp)
            have HB6 := Lib.hid (HB5.out.trans (hb.mono HB5.out.size))
            clear hown hb HA5 HO5 HB5
            go_wp2_with fail
            refine (same_any HR6.out HW6.out).mono ?_
            rw [sameB_refl]
            rintro e w7 ⟨rfl, k7, rfl⟩
            go_wp2_with fail
            refine (len_ar (HA6.out.drewN k7)).mono ?_
            rintro e w' ⟨rfl, rfl⟩
            go_wp2
            go_roundw
            case rel => exact ⟨k + 1, ws, A', c', by omega, by go_num, rfl, HL5.out, HA6.out.drewN k7, HO6.out, HS5.out, ⟨HB6.out.os, HB6.out.tape, HB6.out.output, HB6.out.size, HB6.out.block⟩⟩
            case measure => simp [intOf] <;> omega
      by_cases k1 : kd = 1
      · subst k1
        have R := write_ar at_ x HAd.out hx.out
        cases hi : inB ws.length at_ with
        | true =>
          rw [atE_yes hi] at R
          obtain ⟨i0, i1⟩ := inB_yes hi
          obtain ⟨K, rfl⟩ := Int.eq_ofNat_of_zero_le i0
          rw [wrL_yes x hi, Int.toNat_natCast] at R
          have i2 : K < ws0.length := by have := hl.out; omega
          obtain ⟨g, cap, e, hg1, hg2⟩ := HOd.out.form (by omega)
          injection e with e1 e2 e3
          subst e1 e3
          have HR := Lib.hid R
          clear hi R i1
          go_wp2_with fail
          refine HR.out.mono ?_
          rintro e w5 ⟨rfl, ht⟩
          have hX5 := HXd.out.grown ht.2 (fun e => absurd (HP.out.2.1 _ e.symm) (by omega))
          have x1 := hX5.cell 1
          have x4 := hX5.cell 4
          have ho5 := HOd.out.kept ht.2 hs.out
          have hcw := ho5.cellAt K (by omega)
          rw [wds_get _ _ (by rw [hl.out]; exact i2)] at hcw
          have hfw := ho5.frozenAt K
          have hst := ho5.stored K (.int .u64 x)
          rw [wds_set] at hst
          have HG := Lib.hid hst
          obtain ⟨y, hy⟩ : ∃ y, y = ws.getD K 0 := ⟨_, rfl⟩
          rw [← hy] at hcw
          have HA5 := Lib.hid (ht.1.kept hst.2 (fun e => by
            injection e with e
            have hh : (Value.slice (some ⟨g, 0, none⟩) ws0.length c').ownBlock ≠ some p := own_blk_ne HOd.out HAd.out.blk (by decide)
            exact hh (by simp [Value.ownBlock, e])) (by
            rcases hs.out with h | h
            · simp [Value.ownBlock] at h
            · cases hq : va.ownBlock with
              | none => exact .inl rfl
              | some g2 => right; intro e; exact h (by rw [hq, e]; rfl)))
          have HB5 := Lib.hid ((ht.below HAd.out HBd.out HBd.out.size).setCell (show W.heap.size ≤ (⟨g, K, none⟩ : Addr).block from (HP.out.2.2 g rfl).2) (.int .u64 x))
          have HO5 := Lib.hid hst.1
          have HL5 : Hid ((ws.set K x).length = ws0.length) := by show _ = _; rw [List.length_set]; exact hl.out
          have HS5 := hs
          obtain ⟨us, hus⟩ : ∃ us, us = ws.set K x := ⟨_, rfl⟩
          rw [← hus] at HA5 HO5 HL5
          clear hus
          clear hX5 ho5 hst hy ht hg1 hg2 HAd HOd HBd HXd HG HR
          have hlb : (((us).length : Int) != (ws0.length : Int)) = false := by rw [HL5.out]; simp
          have HFW : Hid (Few (us).length) := by show Few _; rw [HL5.out]; exact HF.out
          go_wp2_with fail
          refine (words_ar HA5.out HFW.out).mono ?_
          rintro e w6 ⟨A6, c6, rfl, hown, hb⟩
          have HR6 := Lib.hid (Rw.of_own hown HA5.out.fit)
          have HW6 : Hid (Rw w6 (.slice (some ⟨g, 0, none⟩) ws0.length c') (us)) := (Rw.of_own (by rw [HL5.out]; exact HO5.out) HA5.out.fit).below hb
          have HA6 := Lib.hid (HA5.out.below hb)
          have HO6 : Hid (w6.ownsRow W.heap.size 22 1 (.slice (some ⟨g, 0, none⟩) ws0.length c') ws0.length (wds (us))) := HO5.out.kept ⟨hb.os, hb.tape, hb.output, hb.size, fun k hk _ => hb.block k hk⟩ (row := none) (by cases (Value.slice (some ⟨g, 0, none⟩) ws0.length c').ownBlock <;> simp)
          have HB6 := Lib.hid (HB5.out.trans (hb.mono HB5.out.size))
          clear hown hb HA5 HO5 HB5
          go_wp2_with fail
          refine (same_any HR6.out HW6.out).mono ?_
          rw [sameB_refl]
          rintro e w7 ⟨rfl, k7, rfl⟩
          go_wp2_with fail
          refine (len_ar (HA6.out.drewN k7)).mono ?_
          rintro e w' ⟨rfl, rfl⟩
          go_wp2
          go_roundw
          case rel => exact ⟨k + 1, us, (some ⟨g, 0, none⟩), c', by omega, by go_num, rfl, HL5.out, HA6.out.drewN k7, HO6.out, HS5.out, ⟨HB6.out.os, HB6.out.tape, HB6.out.output, HB6.out.size, HB6.out.block⟩⟩
          case measure => simp [intOf] <;> omega
        | false =>
          rw [atE_no hi, wrL_no x hi] at R
          have hi2 := inB_no hi
          rw [hl.out] at hi2
          have HR := Lib.hid R
          clear hi R
          by_cases i1 : at_ < 0
          all_goals
            first
              | (have i2 : (ws0.length : Int) ≤ at_ := by omega)
              | skip
            clear hi2
            go_wp2_with fail
            refine HR.out.mono ?_
            rintro e w5 ⟨rfl, ht⟩
            have hX5 := HXd.out.grown ht.2 (fun e => absurd (HP.out.2.1 _ e.symm) (by omega))
            have x1 := hX5.cell 1
            have HA5 := Lib.hid ht.1
            have HO5 := Lib.hid (HOd.out.kept ht.2 hs.out)
            have HB5 := Lib.hid (ht.below HAd.out HBd.out HBd.out.size)
            have HL5 := hl
            have HS5 := hs
            clear hX5 ht HAd HOd HBd HXd HR
            have hlb : (((ws).length : Int) != (ws0.length : Int)) = false := by rw [HL5.out]; simp
            have HFW : Hid (Few (ws).length) := by show Few _; rw [HL5.out]; exact HF.out
            go_wp2_with fail
            refine (words_ar HA5.out HFW.out).mono ?_
            rintro e w6 ⟨A6, c6, rfl, hown, hb⟩
            have HR6 := Lib.hid (Rw.of_own hown HA5.out.fit)
            have HW6 : Hid (Rw w6 (.slice A' ws0.length c') (ws)) := (Rw.of_own (by rw [HL5.out]; exact HO5.out) HA5.out.fit).below hb
            have HA6 := Lib.hid (HA5.out.below hb)
            have HO6 : Hid (w6.ownsRow W.heap.size 22 1 (.slice A' ws0.length c') ws0.length (wds (ws))) := HO5.out.kept ⟨hb.os, hb.tape, hb.output, hb.size, fun k hk _ => hb.block k hk⟩ (row := none) (by cases (Value.slice A' ws0.length c').ownBlock <;> simp)
            have HB6 := Lib.hid (HB5.out.trans (hb.mono HB5.out.size))
            clear hown hb HA5 HO5 HB5
            go_wp2_with fail
            refine (same_any HR6.out HW6.out).mono ?_
            rw [sameB_refl]
            rintro e w7 ⟨rfl, k7, rfl⟩
            go_wp2_with fail
            refine (len_ar (HA6.out.drewN k7)).mono ?_
            rintro e w' ⟨rfl, rfl⟩
            go_wp2
            go_roundw
            case rel => exact ⟨k + 1, ws, A', c', by omega, by go_num, rfl, HL5.out, HA6.out.drewN k7, HO6.out, HS5.out, ⟨HB6.out.os, HB6.out.tape, HB6.out.output, HB6.out.size, HB6.out.block⟩⟩
            case measure => simp [intOf] <;> omega
      by_cases k2 : kd = 2
      · subst k2
        go_wp2_with fail
        refine (move_ar at_ fr n HAd.out).mono ?_
        rintro e w5 ⟨rfl, ht⟩
        have hX5 := HXd.out.grown ht.2 (fun e => absurd (HP.out.2.1 _ e.symm) (by omega))
        have x0 := hX5.cell 0
        have x1 := hX5.cell 1
        have x2 := hX5.cell 2
        have x3 := hX5.cell 3
        have x4 := hX5.cell 4
        have HA4 := Lib.hid ht.1
        have HO4 := Lib.hid (HOd.out.kept ht.2 hs.out)
        have HB4 := Lib.hid (ht.below HAd.out HBd.out HBd.out.size)
        have HR4 : Hid (Rw w5 (.slice A' ws0.length c') ws) := Rw.of_own (by rw [hl.out]; exact HO4.out) HAd.out.fit
        have HF4 : Hid (Few ws.length) := by show Few _; rw [hl.out]; exact HF.out
        clear hX5 ht HOd HBd HXd
        go_wp2_with fail
        refine (rmove_any at_ fr n HR4.out HF4.out).mono ?_
        rintro e w8 ⟨A8, n8, c8, rfl, hr8, hn8, hb8, hd8⟩
        obtain rfl : n8 = ws0.length := by rw [hn8, moveL_length]; exact hl.out
        have HA5 := Lib.hid (HA4.out.below hb8)
        have HB5 := Lib.hid (HB4.out.trans (hb8.mono HB4.out.size))
        have HL5 : Hid ((moveL ws at_ fr n).length = ws0.length) := by show _ = _; rw [moveL_length]; exact hl.out
        have HOS : Hid (w8.ownsRow W.heap.size 22 1 (.slice A8 ws0.length c8) ws0.length (wds (moveL ws at_ fr n)) ∧ ((Value.slice A8 ws0.length c8).ownBlock = none ∨ (Value.slice A8 ws0.length c8).ownBlock ≠ va.ownBlock)) := by
          rcases hd8 with ⟨e1, e2⟩ | ho8
          · rw [e2]
            injection e1 with e1 _ e3
            subst e1 e3
            exact ⟨HO4.out.kept ⟨hb8.os, hb8.tape, hb8.output, hb8.size, fun k hk _ => hb8.block k hk⟩ (row := none) (by cases (Value.slice A8 ws0.length c8).ownBlock <;> simp), hs.out⟩
          · refine ⟨⟨ho8.1, ?_⟩, ?_⟩
            · rcases ho8.2 with hn | ⟨g, cap, cur, hv, hb2, rest⟩
              · exact .inl hn
              · exact .inr ⟨g, cap, cur, hv, Nat.le_trans HB4.out.size hb2, rest⟩
            · cases hq : (Value.slice A8 ws0.length c8).ownBlock with
              | none => exact .inl rfl
              | some g =>
                right; intro e
                have h1 := (ho8.lt g hq).1
                have h2 := (HA4.out.own.lt g e.symm).2
                omega
        have HO5 := Lib.hid HOS.out.1
        have HS5 := Lib.hid HOS.out.2
        clear hr8 hn8 hb8 hd8 HA4 HO4 HB4 HR4 HOS HAd
        have hlb : (((moveL ws at_ fr n).length : Int) != (ws0.length : Int)) = false := by rw [HL5.out]; simp
        have HFW : Hid (Few (moveL ws at_ fr n).length) := by show Few _; rw [HL5.out]; exact HF.out
        go_wp2_with fail
        refine (words_ar HA5.out HFW.out).mono ?_
        rintro e w6 ⟨A6, c6, rfl, hown, hb⟩
        have HR6 := Lib.hid (Rw.of_own hown HA5.out.fit)
        have HW6 : Hid (Rw w6 (.slice A8 ws0.length c8) (moveL ws at_ fr n)) := (Rw.of_own (by rw [HL5.out]; exact HO5.out) HA5.out.fit).below hb
        have HA6 := Lib.hid (HA5.out.below hb)
        have HO6 : Hid (w6.ownsRow W.heap.size 22 1 (.slice A8 ws0.length c8) ws0.length (wds (moveL ws at_ fr n))) := HO5.out.kept ⟨hb.os, hb.tape, hb.output, hb.size, fun k hk _ => hb.block k hk⟩ (row := none) (by cases (Value.slice A8 ws0.length c8).ownBlock <;> simp)
        have HB6 := Lib.hid (HB5.out.trans (hb.mono HB5.out.size))
        clear hown hb HA5 HO5 HB5
        go_wp2_with fail
        refine (same_any HR6.out HW6.out).mono ?_
        rw [sameB_refl]
        rintro e w7 ⟨rfl, k7, rfl⟩
        go_wp2_with fail
        refine (len_ar (HA6.out.drewN k7)).mono ?_
        rintro e w' ⟨rfl, rfl⟩
        go_wp2
        go_roundw
        case rel => exact ⟨k + 1, moveL ws at_ fr n, A8, c8, by omega, by go_num, rfl, HL5.out, HA6.out.drewN k7, HO6.out, HS5.out, ⟨HB6.out.os, HB6.out.tape, HB6.out.output, HB6.out.size, HB6.out.block⟩⟩
        case measure => simp [intOf] <;> omega
      · have b0 : (kd == 0) = false := by rw [beq_eq_false_iff_ne]; exact k0
        have b1 : (kd == 1) = false := by rw [beq_eq_false_iff_ne]; exact k1
        have b2 : (kd == 2) = false := by rw [beq_eq_false_iff_ne]; exact k2
        clear k0 k1 k2
        go_wp2_with fail
        refine (fill_ar at_ n x HAd.out hx.out).mono ?_
        rintro e w5 ⟨rfl, ht⟩
        have hX5 := HXd.out.grown ht.2 (fun e => absurd (HP.out.2.1 _ e.symm) (by omega))
        have x0 := hX5.cell 0
        have x1 := hX5.cell 1
        have x2 := hX5.cell 2
        have x3 := hX5.cell 3
        have x4 := hX5.cell 4
        have HA4 := Lib.hid ht.1
        have HO4 := Lib.hid (HOd.out.kept ht.2 hs.out)
        have HB4 := Lib.hid (ht.below HAd.out HBd.out HBd.out.size)
        have HR4 : Hid (Rw w5 (.slice A' ws0.length c') ws) := Rw.of_own (by rw [hl.out]; exact HO4.out) HAd.out.fit
        have HF4 : Hid (Few ws.length) := by show Few _; rw [hl.out]; exact HF.out
        clear hX5 ht HOd HBd HXd
        go_wp2_with fail
        refine (rfill_any at_ n x HR4.out HF4.out hx.out).mono ?_
        rintro e w8 ⟨A8, n8, c8, rfl, hr8, hn8, hb8, hd8⟩
        obtain rfl : n8 = ws0.length := by rw [hn8, fillL_length]; exact hl.out
        have HA5 := Lib.hid (HA4.out.below hb8)
        have HB5 := Lib.hid (HB4.out.trans (hb8.mono HB4.out.size))
        have HL5 : Hid ((fillL ws at_ n x).length = ws0.length) := by show _ = _; rw [fillL_length]; exact hl.out
        have HOS : Hid (w8.ownsRow W.heap.size 22 1 (.slice A8 ws0.length c8) ws0.length (wds (fillL ws at_ n x)) ∧ ((Value.slice A8 ws0.length c8).ownBlock = none ∨ (Value.slice A8 ws0.length c8).ownBlock ≠ va.ownBlock)) := by
          rcases hd8 with ⟨e1, e2⟩ | ho8
          · rw [e2]
            injection e1 with e1 _ e3
            subst e1 e3
            exact ⟨HO4.out.kept ⟨hb8.os, hb8.tape, hb8.output, hb8.size, fun k hk _ => hb8.block k hk⟩ (row := none) (by cases (Value.slice A8 ws0.length c8).ownBlock <;> simp), hs.out⟩
          · refine ⟨⟨ho8.1, ?_⟩, ?_⟩
            · rcases ho8.2 with hn | ⟨g, cap, cur, hv, hb2, rest⟩
              · exact .inl hn
              · exact .inr ⟨g, cap, cur, hv, Nat.le_trans HB4.out.size hb2, rest⟩
            · cases hq : (Value.slice A8 ws0.length c8).ownBlock with
              | none => exact .inl rfl
              | some g =>
                right; intro e
                have h1 := (ho8.lt g hq).1
                have h2 := (HA4.out.own.lt g e.symm).2
                omega
        have HO5 := Lib.hid HOS.out.1
        have HS5 := Lib.hid HOS.out.2
        clear hr8 hn8 hb8 hd8 HA4 HO4 HB4 HR4 HOS HAd
        have hlb : (((fillL ws at_ n x).length : Int) != (ws0.length : Int)) = false := by rw [HL5.out]; simp
        have HFW : Hid (Few (fillL ws at_ n x).length) := by show Few _; rw [HL5.out]; exact HF.out
        go_wp2_with fail
        refine (words_ar HA5.out HFW.out).mono ?_
        rintro e w6 ⟨A6, c6, rfl, hown, hb⟩
        have HR6 := Lib.hid (Rw.of_own hown HA5.out.fit)
        have HW6 : Hid (Rw w6 (.slice A8 ws0.length c8) (fillL ws at_ n x)) := (Rw.of_own (by rw [HL5.out]; exact HO5.out) HA5.out.fit).below hb
        have HA6 := Lib.hid (HA5.out.below hb)
        have HO6 : Hid (w6.ownsRow W.heap.size 22 1 (.slice A8 ws0.length c8) ws0.length (wds (fillL ws at_ n x))) := HO5.out.kept ⟨hb.os, hb.tape, hb.output, hb.size, fun k hk _ => hb.block k hk⟩ (row := none) (by cases (Value.slice A8 ws0.length c8).ownBlock <;> simp)
        have HB6 := Lib.hid (HB5.out.trans (hb.mono HB5.out.size))
        clear hown hb HA5 HO5 HB5
        go_wp2_with fail
        refine (same_any HR6.out HW6.out).mono ?_
        rw [sameB_refl]
        rintro e w7 ⟨rfl, k7, rfl⟩
        go_wp2_with fail
        refine (len_ar (HA6.out.drewN k7)).mono ?_
        rintro e w' ⟨rfl, rfl⟩
        go_wp2
        go_roundw
        case rel => exact ⟨k + 1, fillL ws at_ n x, A8, c8, by omega, by go_num, rfl, HL5.out, HA6.out.drewN k7, HO6.out, HS5.out, ⟨HB6.out.os, HB6.out.tape, HB6.out.output, HB6.out.size, HB6.out.block⟩⟩
        case measure => simp [intOf] <;> omega
    · obtain rfl : k = nd := by omega
      go_wp2_with fail
      refine (awake02 _).mono ?_
      rintro e w' ⟨rfl, hb2⟩
      go_wp2
      go_ret
      exact ⟨rfl, hb.out.trans (hb2.mono hb.out.size)⟩
end Go.Proofs.Ytcljgphipdbckaa
