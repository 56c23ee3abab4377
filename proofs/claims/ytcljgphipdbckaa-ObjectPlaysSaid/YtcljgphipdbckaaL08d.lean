/- The law ObjectPlays. -/
import Derived.Test.YtcljgphipdbckaaL08c
namespace Go.Proofs.Ytcljgphipdbckaa
set_option linter.unusedVariables false
set_option linter.unusedSimpArgs false
open Go.RowKit

structure Deed8 where
  kind : Int
  at_ : Int
  i : Int
  h : Hd
  w : Int
def Deed8.cells (d : Deed8) : List Value := [.int .i64 d.kind, .int .i64 d.at_, .int .i64 d.i, .int .i64 d.h.kind, .int .i64 d.h.fields, .int .i64 d.h.raws, .bool d.h.mark, .int .i64 d.h.cursor, .int .u64 d.w]
theorem Recs.at9 {w : World} {A : Option Addr} {n c : Nat} {ds : Nat → Deed8} (h : Recs w (.slice A n c) 9 n (fun k => (ds k).cells)) (hn : 0 < n) : ∃ b o, A = some ⟨b, o, none⟩ ∧ ∀ k, k < n →
    w.cell? ⟨b, o + k * 9, none⟩ = some (.int .i64 (ds k).kind) ∧ w.cell? ⟨b, o + k * 9 + 1, none⟩ = some (.int .i64 (ds k).at_) ∧ w.cell? ⟨b, o + k * 9 + 2, none⟩ = some (.int .i64 (ds k).i) ∧
    w.cell? ⟨b, o + k * 9 + 3, none⟩ = some (.int .i64 (ds k).h.kind) ∧ w.cell? ⟨b, o + k * 9 + 4, none⟩ = some (.int .i64 (ds k).h.fields) ∧ w.cell? ⟨b, o + k * 9 + 5, none⟩ = some (.int .i64 (ds k).h.raws) ∧
    w.cell? ⟨b, o + k * 9 + 6, none⟩ = some (.bool (ds k).h.mark) ∧ w.cell? ⟨b, o + k * 9 + 7, none⟩ = some (.int .i64 (ds k).h.cursor) ∧ w.cell? ⟨b, o + k * 9 + 8, none⟩ = some (.int .u64 (ds k).w) := by
  obtain ⟨A', c', e, _, _, _, h5⟩ := h
  injection e with e1 e2 e3
  subst e1
  obtain ⟨b, o, rfl, hc⟩ := h5 hn
  exact ⟨b, o, rfl, fun k hk => ⟨(hc k hk).2 0 _ rfl, (hc k hk).2 1 _ rfl, (hc k hk).2 2 _ rfl, (hc k hk).2 3 _ rfl, (hc k hk).2 4 _ rfl, (hc k hk).2 5 _ rfl, (hc k hk).2 6 _ rfl, (hc k hk).2 7 _ rfl, (hc k hk).2 8 _ rfl⟩⟩
theorem sep_do {w w1 : World} {B p n n1 c c1 : Nat} {va : Value} {A A1 : Option Addr} {us ws wa : List Int} (hor : (.slice A1 n1 c1 = (Value.slice A n c) ∧ ws = us) ∨ w1.ownsRow w.heap.size 22 1 (.slice A1 n1 c1) n1 (wds ws)) (hs : (Value.slice A n c).ownBlock = none ∨ (Value.slice A n c).ownBlock ≠ va.ownBlock) (ha : Ar w1 B p va wa) (hlt : ∀ g, va.ownBlock = some g → g < w.heap.size) :
    (Value.slice A1 n1 c1).ownBlock = none ∨ (Value.slice A1 n1 c1).ownBlock ≠ va.ownBlock := by
  rcases hor with ⟨e, _⟩ | ho
  · rw [e]; exact hs
  · cases hv : (Value.slice A1 n1 c1).ownBlock with
    | none => exact .inl rfl
    | some g =>
      refine .inr fun e => ?_
      have h1 := (ho.lt g hv).1
      have h2 := hlt g e.symm
      omega

set_option maxRecDepth 100000 in
set_option maxHeartbeats 16000000 in
theorem objectPlays_short {W : World} {A0 D : Option Addr} {ws0 : List Int} {c0 nd cd : Nat} {ds : Nat → Deed8} (hv : Rw W (.slice A0 ws0.length c0) ws0) (hd : Recs W (.slice D nd cd) 9 nd (fun k => (ds k).cells)) (hw : ∀ k, k < nd → U64 (ds k).w ∧ -9223372036854775808 ≤ (ds k).at_) (hn : ws0.length ≤ 200) (hnd : nd ≤ 40) :
    Calls Try.prog 17 #[.slice A0 ws0.length c0, .slice D nd cd] W (Out W (.bool true)) := by
  have HOf := Lib.hid (of_any hv (by omega))
  have V0 := Lib.hid hv
  have HD := Lib.hid hd
  have HW := Lib.hid hw
  have HF0 := Lib.hid hv.fit
  have HN0 : Hid (Few ws0.length) := by show ws0.length ≤ 1000000; omega
  have hcp := hv.cap_
  unfold maxLen at hcp
  have hq1 : (ws0.length : Int) ≤ 200 := by omega
  have hq2 : (nd : Int) ≤ 40 := by omega
  clear hv hd hw
  go_enter Try.func17, Try.ntmps17
  go_wp2_with fail
  refine HOf.out.mono ?_
  intro e w0 hm
  obtain ⟨p, va, rfl, HA, HB, hb⟩ := hm.open_ (Below.refl _ _) (Nat.le_refl _)
  have V1 := Lib.hid (V0.out.below hb.out)
  clear hm hb HOf
  go_wp2_with (at_builtin; refine wpList_clone_words rfl (.tmp 44) (.tmp 45) rfl w0 rfl A0 ws0.length c0 rfl ws0 V1.out HN0.out ?_; intro A1 c1 w1 hown hb1)
  have hg1 : ∀ g, va.ownBlock = some g → g < w0.heap.size := fun g hg => (HA.out.own.lt g hg).2
  have HSEP : Hid ((Value.slice A1 ws0.length c1).ownBlock = none ∨ (Value.slice A1 ws0.length c1).ownBlock ≠ va.ownBlock) := sep_do (us := []) (n := 0) (c := 0) (A := none) (.inr hown) (.inl rfl) (HA.out.below hb1) hg1
  have HR := Lib.hid (Rw.of_own hown HF0.out)
  have HA := Lib.hid (HA.out.below hb1)
  have HB := Lib.hid (below_tr HB.out hb1)
  clear hown hb1 hg1 V1
  go_loopw [7, 8] (fun y i wr => ∃ (k : Nat) (ws : List Int) (A' : Option Addr) (c' : Nat), k ≤ nd ∧ i = .int .i64 (k : Nat) ∧ y = .slice A' ws0.length c' ∧ Hid (ws.length = ws0.length) ∧ Hid (Ar wr W.heap.size p va ws) ∧ Hid (Rw wr (.slice A' ws0.length c') ws) ∧ Hid ((Value.slice A' ws0.length c').ownBlock = none ∨ (Value.slice A' ws0.length c').ownBlock ≠ va.ownBlock) ∧ Hid (Below W.heap.size W wr)) (fun _ i _ => nd - (intOf i).toNat)
  case atStart => exact ⟨0, ws0, A1, c1, by omega, rfl, rfl, rfl, HA, HR, HSEP, HB⟩
  case round =>
    clear HA HB HR HSEP
    generalize hn0 : ws0.length = n0 at *
    have HN00 := Lib.hid hn0
    clear hn0
    obtain ⟨k, ws, A', c', hk, rfl, rfl, hl, ha, hr, hsep, hb⟩ := hrel
    by_cases hlt : k < nd
    · obtain ⟨hx1, hx2⟩ := HW.out k hlt
      have HU := Lib.hid hx1
      have HA0 := Lib.hid hx2
      have hk0 : (0 : Int) ≤ (k : Int) := by omega
      have hk1 : (k : Int) < (nd : Int) := by omega
      obtain ⟨bD, oD, eD, hcc⟩ := (HD.out.below hb.out).at9 (by omega)
      subst eD
      have hcd := hcc k hlt
      generalize ds k = dd at *
      obtain ⟨kd, a, i, h, x⟩ := dd
      obtain ⟨s0, s1, s2, s3, s4, s5, s6, s7, s8⟩ := hcd
      simp only at s0 s1 s2 s3 s4 s5 s6 s7 s8 HU HA0
      clear hcc
      have HL : Hid (ws.length ≤ 1000000) := by show ws.length ≤ 1000000; rw [hl.out]; omega
      have hal : Below wr.heap.size wr (wr.alloc (.cells #[.int .i64 kd, .int .i64 a, .int .i64 i, .int .i64 h.kind, .int .i64 h.fields, .int .i64 h.raws, .bool h.mark, .int .i64 h.cursor, .int .u64 x] 106)) := (Below.refl _ _).alloc (Nat.le_refl _) _
      have HX := Lib.hid (Blk.new wr 106 #[.int .i64 kd, .int .i64 a, .int .i64 i, .int .i64 h.kind, .int .i64 h.fields, .int .i64 h.raws, .bool h.mark, .int .i64 h.cursor, .int .u64 x])
      have HA := Lib.hid (ha.out.below hal)
      have HR := Lib.hid (hr.out.below hal)
      have HB := Lib.hid (below_tr hb.out hal)
      have HLV := hl
      clear hal ha hr hb
      have kc := rdo_any (c := c') (A := A') kd a i x h HL.out HU.out (by rw [HLV.out]; exact HR.out)
      rw [HLV.out] at kc
      have kc := Lib.hid kc
      have q0 := HX.out.cell 0
      have q1 := HX.out.cell 1
      have q2 := HX.out.cell 2
      have q3 := HX.out.cell 3
      have q4 := HX.out.cell 4
      have q5 := HX.out.cell 5
      have q6 := HX.out.cell 6
      have q7 := HX.out.cell 7
      have q8 := HX.out.cell 8
      go_wp2_with fail
      refine kc.out.mono ?_
      rintro e w1 ⟨A1, n1, c1, rfl, hr1, hn1, hb1, hor⟩
      have HSP : Hid ((Value.slice A1 n1 c1).ownBlock = none ∨ (Value.slice A1 n1 c1).ownBlock ≠ va.ownBlock) := sep_do hor hsep.out (HA.out.below hb1) (fun g hg => (HA.out.own.lt g hg).2)
      have e1 : n1 = n0 := by rw [hn1, doL_length, HLV.out]
      subst e1
      have HX := Lib.hid (HX.out.below hb1 HX.out.lt)
      have HA := Lib.hid (HA.out.below hb1)
      have HB := Lib.hid (below_tr HB.out hb1)
      have HR := Lib.hid hr1
      have HLV2 : Hid ((doL ws kd a i x h).length = n1) := by show _ = _; rw [doL_length, HLV.out]
      clear hb1 kc hr1 hn1 hor hsep
      clear q0 q1 q2 q3 q4 q5 q6 q7 q8
      have kc := do_ar kd a i x h HA0.out HL.out HU.out HA.out
      generalize hws : doL ws kd a i x h = us at *
      generalize doE ws kd a i x h = F at *
      have kc := Lib.hid kc
      clear hws
      have q0 := HX.out.cell 0
      have q1 := HX.out.cell 1
      have q2 := HX.out.cell 2
      have q3 := HX.out.cell 3
      have q4 := HX.out.cell 4
      have q5 := HX.out.cell 5
      have q6 := HX.out.cell 6
      have q7 := HX.out.cell 7
      have q8 := HX.out.cell 8
      go_wp2_with fail
      refine kc.out.mono ?_
      rintro e w2 ⟨rfl, ht⟩
      have hAo := HA.out
      have HX := Lib.hid (HX.out.grown ht.2 (fun e => HA.out.ne_blk HX.out (by decide) e))
      have HR := Lib.hid (HR.out.kept ht.2 HSP.out)
      obtain ⟨HA, HB⟩ := ht.open_ hAo HB.out
      clear ht kc hAo hl HLV HL
      clear q0 q1 q2 q3 q4 q5 q6 q7 q8
      have HL : Hid (us.length ≤ 1000000) := by show us.length ≤ 1000000; rw [HLV2.out]; omega
      have kc := Lib.hid (words_ar HA.out HL.out)
      go_wp2_with fail
      refine kc.out.mono ?_
      rintro e w3 ⟨A3, c3, rfl, hown, hb⟩
      have HR3 := Lib.hid (Rw.of_own hown HA.out.fit)
      have HX := Lib.hid (HX.out.below hb HX.out.lt)
      have HA := Lib.hid (HA.out.below hb)
      have HR := Lib.hid (HR.out.below hb)
      have HB := Lib.hid (below_tr HB.out hb)
      clear hb kc hown
      have kc := same_any HR3.out HR.out
      rw [sameB_refl] at kc
      have kc := Lib.hid kc
      go_wp2_with fail
      refine kc.out.mono ?_
      rintro e w4 ⟨rfl, m4, rfl⟩
      have HX := Lib.hid (HX.out.drewN m4)
      have HA := Lib.hid (HA.out.drewN m4)
      have HR := Lib.hid (HR.out.drewN m4)
      have HB := Lib.hid (below_dr HB.out m4)
      clear kc HR3
      have kc := head_ar a HA0.out HL.out HA.out
      generalize hzz : oH us a = z at *
      generalize hEE : oE us a = E at *
      have kc := Lib.hid kc
      have q0 := HX.out.cell 0
      have q1 := HX.out.cell 1
      have q2 := HX.out.cell 2
      have q3 := HX.out.cell 3
      have q4 := HX.out.cell 4
      have q5 := HX.out.cell 5
      have q6 := HX.out.cell 6
      have q7 := HX.out.cell 7
      have q8 := HX.out.cell 8
      go_wp2_with fail
      refine kc.out.mono ?_
      rintro e w5 ⟨rfl, hb⟩
      have HX := Lib.hid (HX.out.below hb HX.out.lt)
      have HA := Lib.hid (HA.out.below hb)
      have HR := Lib.hid (HR.out.below hb)
      have HB := Lib.hid (below_tr HB.out hb)
      have hal : Below w5.heap.size w5 (w5.alloc (.cells #[.int .i64 z.kind, .int .i64 z.fields, .int .i64 z.raws, .bool z.mark, .int .i64 z.cursor] 59)) := (Below.refl _ _).alloc (Nat.le_refl _) _
      have HX := Lib.hid (HX.out.below hal HX.out.lt)
      have HA := Lib.hid (HA.out.below hal)
      have HR := Lib.hid (HR.out.below hal)
      have HB := Lib.hid (below_tr HB.out hal)
      have HZ1 := Lib.hid (Blk.new w5 59 #[.int .i64 z.kind, .int .i64 z.fields, .int .i64 z.raws, .bool z.mark, .int .i64 z.cursor])
      clear hal
      clear hb kc
      clear q0 q1 q2 q3 q4 q5 q6 q7 q8
      have kc := rhead_any a HL.out HR.out
      rw [hzz, hEE] at kc
      have kc := Lib.hid kc
      have q0 := HX.out.cell 0
      have q1 := HX.out.cell 1
      have q2 := HX.out.cell 2
      have q3 := HX.out.cell 3
      have q4 := HX.out.cell 4
      have q5 := HX.out.cell 5
      have q6 := HX.out.cell 6
      have q7 := HX.out.cell 7
      have q8 := HX.out.cell 8
      go_wp2_with fail
      refine kc.out.mono ?_
      rintro e w6 ⟨rfl, hb⟩
      have HX := Lib.hid (HX.out.below hb HX.out.lt)
      have HA := Lib.hid (HA.out.below hb)
      have HR := Lib.hid (HR.out.below hb)
      have HB := Lib.hid (below_tr HB.out hb)
      have HZ1 := Lib.hid (HZ1.out.below hb HZ1.out.lt)
      have hal : Below w6.heap.size w6 (w6.alloc (.cells #[.int .i64 z.kind, .int .i64 z.fields, .int .i64 z.raws, .bool z.mark, .int .i64 z.cursor] 59)) := (Below.refl _ _).alloc (Nat.le_refl _) _
      have HX := Lib.hid (HX.out.below hal HX.out.lt)
      have HA := Lib.hid (HA.out.below hal)
      have HR := Lib.hid (HR.out.below hal)
      have HB := Lib.hid (below_tr HB.out hal)
      have HZ1 := Lib.hid (HZ1.out.below hal HZ1.out.lt)
      have HZ2 := Lib.hid (Blk.new w6 59 #[.int .i64 z.kind, .int .i64 z.fields, .int .i64 z.raws, .bool z.mark, .int .i64 z.cursor])
      clear hal
      clear hb kc
      clear q0 q1 q2 q3 q4 q5 q6 q7 q8
      clear hzz hEE
      have kc := field_ar a i HA0.out HL.out HA.out
      generalize hv1 : oV us a i false = V1 at *
      generalize hp1 : oPE us a i false = P1 at *
      have kc := Lib.hid kc
      have q0 := HX.out.cell 0
      have q1 := HX.out.cell 1
      have q2 := HX.out.cell 2
      have q3 := HX.out.cell 3
      have q4 := HX.out.cell 4
      have q5 := HX.out.cell 5
      have q6 := HX.out.cell 6
      have q7 := HX.out.cell 7
      have q8 := HX.out.cell 8
      go_wp2_with fail
      refine kc.out.mono ?_
      rintro e w7 ⟨rfl, hb⟩
      have HX := Lib.hid (HX.out.below hb HX.out.lt)
      have HA := Lib.hid (HA.out.below hb)
      have HR := Lib.hid (HR.out.below hb)
      have HB := Lib.hid (below_tr HB.out hb)
      have HZ1 := Lib.hid (HZ1.out.below hb HZ1.out.lt)
      have HZ2 := Lib.hid (HZ2.out.below hb HZ2.out.lt)
      clear hb kc
      clear q0 q1 q2 q3 q4 q5 q6 q7 q8
      have kc := rread8_any a i false HL.out HR.out
      rw [hv1, hp1] at kc
      clear hv1 hp1
      have kc := Lib.hid kc
      have q0 := HX.out.cell 0
      have q1 := HX.out.cell 1
      have q2 := HX.out.cell 2
      have q3 := HX.out.cell 3
      have q4 := HX.out.cell 4
      have q5 := HX.out.cell 5
      have q6 := HX.out.cell 6
      have q7 := HX.out.cell 7
      have q8 := HX.out.cell 8
      go_wp2_with fail
      refine kc.out.mono ?_
      rintro e w8 ⟨rfl, hb⟩
      have HX := Lib.hid (HX.out.below hb HX.out.lt)
      have HA := Lib.hid (HA.out.below hb)
      have HR := Lib.hid (HR.out.below hb)
      have HB := Lib.hid (below_tr HB.out hb)
      have HZ1 := Lib.hid (HZ1.out.below hb HZ1.out.lt)
      have HZ2 := Lib.hid (HZ2.out.below hb HZ2.out.lt)
      clear hb kc
      clear q0 q1 q2 q3 q4 q5 q6 q7 q8
      have kc := raw8_ar a i HA0.out HL.out HA.out
      generalize hv2 : oV us a i true = V2 at *
      generalize hp2 : oPE us a i true = P2 at *
      have kc := Lib.hid kc
      have q0 := HX.out.cell 0
      have q1 := HX.out.cell 1
      have q2 := HX.out.cell 2
      have q3 := HX.out.cell 3
      have q4 := HX.out.cell 4
      have q5 := HX.out.cell 5
      have q6 := HX.out.cell 6
      have q7 := HX.out.cell 7
      have q8 := HX.out.cell 8
      go_wp2_with fail
      refine kc.out.mono ?_
      rintro e w9 ⟨rfl, hb⟩
      have HX := Lib.hid (HX.out.below hb HX.out.lt)
      have HA := Lib.hid (HA.out.below hb)
      have HR := Lib.hid (HR.out.below hb)
      have HB := Lib.hid (below_tr HB.out hb)
      have HZ1 := Lib.hid (HZ1.out.below hb HZ1.out.lt)
      have HZ2 := Lib.hid (HZ2.out.below hb HZ2.out.lt)
      clear hb kc
      clear q0 q1 q2 q3 q4 q5 q6 q7 q8
      have kc := rread8_any a i true HL.out HR.out
      rw [hv2, hp2] at kc
      clear hv2 hp2
      have kc := Lib.hid kc
      have q0 := HX.out.cell 0
      have q1 := HX.out.cell 1
      have q2 := HX.out.cell 2
      have q3 := HX.out.cell 3
      have q4 := HX.out.cell 4
      have q5 := HX.out.cell 5
      have q6 := HX.out.cell 6
      have q7 := HX.out.cell 7
      have q8 := HX.out.cell 8
      go_wp2_with fail
      refine kc.out.mono ?_
      rintro e w10 ⟨rfl, hb⟩
      have HX := Lib.hid (HX.out.below hb HX.out.lt)
      have HA := Lib.hid (HA.out.below hb)
      have HR := Lib.hid (HR.out.below hb)
      have HB := Lib.hid (below_tr HB.out hb)
      have HZ1 := Lib.hid (HZ1.out.below hb HZ1.out.lt)
      have HZ2 := Lib.hid (HZ2.out.below hb HZ2.out.lt)
      clear hb kc
      clear q0 q1 q2 q3 q4 q5 q6 q7 q8
      have z0 := HZ1.out.cell 0
      have z1 := HZ1.out.cell 1
      have z2 := HZ1.out.cell 2
      have z3 := HZ1.out.cell 3
      have z4 := HZ1.out.cell 4
      have y0 := HZ2.out.cell 0
      have y1 := HZ2.out.cell 1
      have y2 := HZ2.out.cell 2
      have y3 := HZ2.out.cell 3
      have y4 := HZ2.out.cell 4
      have hnq := fun w => run_neq_hd w z.kind z.fields z.raws z.cursor z.mark
      have hng := fun (w : World) (a b : Operand) (xs ys : Array Value) => run_neqG_hd w a b xs ys
      go_wp2
      go_roundw
      case rel => exact ⟨k + 1, us, A1, c1, by omega, by go_num, rfl, HLV2, HA, HR, HSP, HB⟩
      case measure => simp [intOf] <;> omega
    · obtain rfl : k = nd := by omega
      go_wp2_with fail
      refine (awake08 _).mono ?_
      rintro e w9 ⟨rfl, hb9⟩
      have HB := Lib.hid (below_tr hb.out hb9)
      clear hb9
      go_wp2
      go_ret
      exact ⟨rfl, HB.out⟩
end Go.Proofs.Ytcljgphipdbckaa
