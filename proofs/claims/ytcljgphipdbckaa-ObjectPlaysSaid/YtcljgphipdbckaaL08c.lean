/- What the law ObjectPlays does. -/
import Derived.Test.YtcljgphipdbckaaL08
import Derived.Test.YtcljgphipdbckaaM03
import Derived.Laws.StructEq
namespace Go.Proofs.Ytcljgphipdbckaa
set_option linter.unusedVariables false
set_option linter.unusedSimpArgs false
open Go.RowKit

theorem RefL.from {w w1 : World} {v : Value} {us ws : List Int} {E : Int} {e : Ending} {w' : World} (h : RefL w1 v us ws E e w') (hb : Below w.heap.size w w1) : RefL w v us ws E e w' := by
  obtain ⟨A, n, c, rfl, h1, h2, h3, h4⟩ := h
  refine ⟨A, n, c, rfl, h1, h2, below_tr hb h3, ?_⟩
  rcases h4 with h4 | ⟨h5, h6 | ⟨g, cap, cur, e, h7, h8⟩⟩
  · exact .inl h4
  · exact .inr ⟨h5, .inl h6⟩
  · exact .inr ⟨h5, .inr ⟨g, cap, cur, e, Nat.le_trans hb.size h7, h8⟩⟩
def doL (ws : List Int) (kd a i x : Int) (h : Hd) : List Int := if kd = 0 then oUL ws a h else if kd = 1 then oTL ws a h else if kd = 2 then oSL ws a i x false else if kd = 3 then oSL ws a i x true else ws
def doE (ws : List Int) (kd a i x : Int) (h : Hd) : Int := if kd = 0 then oUE ws a h else if kd = 1 then oTE ws a h else if kd = 2 then oSE ws a i x false else if kd = 3 then oSE ws a i x true else 0
theorem do_other (ws : List Int) (a i x : Int) (h : Hd) {kd : Int} (k0 : ¬ kd = 0) (k1 : ¬ kd = 1) (k2 : ¬ kd = 2) (k3 : ¬ kd = 3) : doL ws kd a i x h = ws ∧ doE ws kd a i x h = 0 := by
  unfold doL doE
  rw [if_neg k0, if_neg k1, if_neg k2, if_neg k3, if_neg k0, if_neg k1, if_neg k2, if_neg k3]
  exact ⟨rfl, rfl⟩
theorem doL_length (ws : List Int) (kd a i x : Int) (h : Hd) : (doL ws kd a i x h).length = ws.length := by
  unfold doL
  repeat' split
  · exact oUL_length _ _ _
  · exact oTL_length _ _ _
  · exact oSL_length _ _ _ _ _
  · exact oSL_length _ _ _ _ _
  · rfl

set_option maxHeartbeats 3200000 in
theorem rdo_any {w : World} {A : Option Addr} {c : Nat} {ws : List Int} (kd a i x : Int) (h : Hd) (hal : ws.length ≤ 1000000) (hx : U64 x) (hA : Rw w (.slice A ws.length c) ws) : Calls Try.prog 87 #[.slice A ws.length c, .agg #[.int .i64 kd, .int .i64 a, .int .i64 i, .int .i64 h.kind, .int .i64 h.fields, .int .i64 h.raws, .bool h.mark, .int .i64 h.cursor, .int .u64 x]] w (RefL w (.slice A ws.length c) ws (doL ws kd a i x h) (doE ws kd a i x h)) := by
  have HB0 := Lib.hid ((Below.refl w.heap.size w).alloc (Nat.le_refl _) (.cells #[.int .i64 kd, .int .i64 a, .int .i64 i, .int .i64 h.kind, .int .i64 h.fields, .int .i64 h.raws, .bool h.mark, .int .i64 h.cursor, .int .u64 x] 106))
  have HX := Lib.hid (Blk.new w 106 #[.int .i64 kd, .int .i64 a, .int .i64 i, .int .i64 h.kind, .int .i64 h.fields, .int .i64 h.raws, .bool h.mark, .int .i64 h.cursor, .int .u64 x])
  have HR := Lib.hid hA
  have HL := Lib.hid hal
  have HU := Lib.hid hx
  have q0 := HX.out.cell 0
  have q1 := HX.out.cell 1
  have q2 := HX.out.cell 2
  have q3 := HX.out.cell 3
  have q4 := HX.out.cell 4
  have q5 := HX.out.cell 5
  have q6 := HX.out.cell 6
  have q7 := HX.out.cell 7
  have q8 := HX.out.cell 8
  clear hA hal hx 
  by_cases k0 : kd = 0
  · subst k0
    rw [show doL ws 0 a i x h = oUL ws a h from rfl, show doE ws 0 a i x h = oUE ws a h from rfl]
    have k := Lib.hid (roput_any a h HL.out (HR.out.below HB0.out))
    go_enter Try.func87, Try.ntmps87
    go_wp2_with fail
    refine k.out.mono ?_
    intro e w1 t
    obtain ⟨A1, n1, c1, rfl, t1, t2, t3, t4⟩ := t.from HB0.out
    have T1 := Lib.hid t1
    have T2 := Lib.hid t2
    have T3 := Lib.hid t3
    have T4 := Lib.hid t4
    clear t t1 t2 t3 t4
    go_wp2
    go_ret2
    exact ⟨A1, n1, c1, rfl, T1.out, T2.out, T3.out, T4.out⟩
  · skip
    by_cases k1 : kd = 1
    · subst k1
      rw [show doL ws 1 a i x h = oTL ws a h from rfl, show doE ws 1 a i x h = oTE ws a h from rfl]
      have k := Lib.hid (rsethead_any a h HL.out (HR.out.below HB0.out))
      go_enter Try.func87, Try.ntmps87
      go_wp2_with fail
      refine k.out.mono ?_
      intro e w1 t
      obtain ⟨A1, n1, c1, rfl, t1, t2, t3, t4⟩ := t.from HB0.out
      have T1 := Lib.hid t1
      have T2 := Lib.hid t2
      have T3 := Lib.hid t3
      have T4 := Lib.hid t4
      clear t t1 t2 t3 t4
      go_wp2
      go_ret2
      exact ⟨A1, n1, c1, rfl, T1.out, T2.out, T3.out, T4.out⟩
    · skip
      by_cases k2 : kd = 2
      · subst k2
        rw [show doL ws 2 a i x h = oSL ws a i x false from rfl, show doE ws 2 a i x h = oSE ws a i x false from rfl]
        have k := Lib.hid (roset_any a i x false HL.out HU.out (HR.out.below HB0.out))
        go_enter Try.func87, Try.ntmps87
        go_wp2_with fail
        refine k.out.mono ?_
        intro e w1 t
        obtain ⟨A1, n1, c1, rfl, t1, t2, t3, t4⟩ := t.from HB0.out
        have T1 := Lib.hid t1
        have T2 := Lib.hid t2
        have T3 := Lib.hid t3
        have T4 := Lib.hid t4
        clear t t1 t2 t3 t4
        go_wp2
        go_ret2
        exact ⟨A1, n1, c1, rfl, T1.out, T2.out, T3.out, T4.out⟩
      · skip
        by_cases k3 : kd = 3
        · subst k3
          rw [show doL ws 3 a i x h = oSL ws a i x true from rfl, show doE ws 3 a i x h = oSE ws a i x true from rfl]
          have k := Lib.hid (roset_any a i x true HL.out HU.out (HR.out.below HB0.out))
          go_enter Try.func87, Try.ntmps87
          go_wp2_with fail
          refine k.out.mono ?_
          intro e w1 t
          obtain ⟨A1, n1, c1, rfl, t1, t2, t3, t4⟩ := t.from HB0.out
          have T1 := Lib.hid t1
          have T2 := Lib.hid t2
          have T3 := Lib.hid t3
          have T4 := Lib.hid t4
          clear t t1 t2 t3 t4
          go_wp2
          go_ret2
          exact ⟨A1, n1, c1, rfl, T1.out, T2.out, T3.out, T4.out⟩
        · skip
          rw [(do_other ws a i x h k0 k1 k2 k3).1, (do_other ws a i x h k0 k1 k2 k3).2]
          have m0 : (kd == 0) = false := by simpa using k0
          have m1 : (kd == 1) = false := by simpa using k1
          have m2 : (kd == 2) = false := by simpa using k2
          have m3 : (kd == 3) = false := by simpa using k3
          clear k0 k1 k2 k3
          go_enter Try.func87, Try.ntmps87
          go_wp2
          go_ret2
          exact RefL.same HR.out HB0.out

set_option maxHeartbeats 3200000 in
theorem do_ar {w : World} {B p : Nat} {v : Value} {ws : List Int} (kd a i x : Int) (h : Hd) (ha0 : -9223372036854775808 ≤ a) (hal : ws.length ≤ 1000000) (hx : U64 x) (hA : Ar w B p v ws) : Calls Try.prog 88 #[.pointer (some ⟨p, 0, none⟩), .agg #[.int .i64 kd, .int .i64 a, .int .i64 i, .int .i64 h.kind, .int .i64 h.fields, .int .i64 h.raws, .bool h.mark, .int .i64 h.cursor, .int .u64 x]] w (fun e w' => e = .returned (.int .i64 (doE ws kd a i x h)) ∧ Turned w B p v (doL ws kd a i x h) w') := by
  have HB0 := Lib.hid ((Below.refl w.heap.size w).alloc (Nat.le_refl _) (.cells #[.int .i64 kd, .int .i64 a, .int .i64 i, .int .i64 h.kind, .int .i64 h.fields, .int .i64 h.raws, .bool h.mark, .int .i64 h.cursor, .int .u64 x] 106))
  have HX := Lib.hid (Blk.new w 106 #[.int .i64 kd, .int .i64 a, .int .i64 i, .int .i64 h.kind, .int .i64 h.fields, .int .i64 h.raws, .bool h.mark, .int .i64 h.cursor, .int .u64 x])
  have HR := Lib.hid hA
  have HL := Lib.hid hal
  have HU := Lib.hid hx
  have HA0 := Lib.hid ha0
  have q0 := HX.out.cell 0
  have q1 := HX.out.cell 1
  have q2 := HX.out.cell 2
  have q3 := HX.out.cell 3
  have q4 := HX.out.cell 4
  have q5 := HX.out.cell 5
  have q6 := HX.out.cell 6
  have q7 := HX.out.cell 7
  have q8 := HX.out.cell 8
  clear hA hal hx ha0
  by_cases k0 : kd = 0
  · subst k0
    rw [show doL ws 0 a i x h = oUL ws a h from rfl, show doE ws 0 a i x h = oUE ws a h from rfl]
    have k := Lib.hid (oput_ar a h (HR.out.below HB0.out))
    go_enter Try.func88, Try.ntmps88
    go_wp2_with fail
    refine k.out.mono ?_
    rintro e w1 ⟨rfl, t⟩
    have T := Lib.hid (turned_of HB0.out t)
    clear t
    go_wp2
    go_ret
    exact ⟨rfl, T.out⟩
  · skip
    by_cases k1 : kd = 1
    · subst k1
      rw [show doL ws 1 a i x h = oTL ws a h from rfl, show doE ws 1 a i x h = oTE ws a h from rfl]
      have k := Lib.hid (sethead_ar a h HA0.out HL.out (HR.out.below HB0.out))
      go_enter Try.func88, Try.ntmps88
      go_wp2_with fail
      refine k.out.mono ?_
      rintro e w1 ⟨rfl, t⟩
      have T := Lib.hid (turned_of HB0.out t)
      clear t
      go_wp2
      go_ret
      exact ⟨rfl, T.out⟩
    · skip
      by_cases k2 : kd = 2
      · subst k2
        rw [show doL ws 2 a i x h = oSL ws a i x false from rfl, show doE ws 2 a i x h = oSE ws a i x false from rfl]
        have k := Lib.hid (setfield_ar a i x HA0.out HL.out HU.out (HR.out.below HB0.out))
        go_enter Try.func88, Try.ntmps88
        go_wp2_with fail
        refine k.out.mono ?_
        rintro e w1 ⟨rfl, t⟩
        have T := Lib.hid (turned_of HB0.out t)
        clear t
        go_wp2
        go_ret
        exact ⟨rfl, T.out⟩
      · skip
        by_cases k3 : kd = 3
        · subst k3
          rw [show doL ws 3 a i x h = oSL ws a i x true from rfl, show doE ws 3 a i x h = oSE ws a i x true from rfl]
          have k := Lib.hid (setraw_ar a i x HA0.out HL.out HU.out (HR.out.below HB0.out))
          go_enter Try.func88, Try.ntmps88
          go_wp2_with fail
          refine k.out.mono ?_
          rintro e w1 ⟨rfl, t⟩
          have T := Lib.hid (turned_of HB0.out t)
          clear t
          go_wp2
          go_ret
          exact ⟨rfl, T.out⟩
        · skip
          rw [(do_other ws a i x h k0 k1 k2 k3).1, (do_other ws a i x h k0 k1 k2 k3).2]
          have m0 : (kd == 0) = false := by simpa using k0
          have m1 : (kd == 1) = false := by simpa using k1
          have m2 : (kd == 2) = false := by simpa using k2
          have m3 : (kd == 3) = false := by simpa using k3
          clear k0 k1 k2 k3
          go_enter Try.func88, Try.ntmps88
          go_wp2
          go_ret
          exact ⟨rfl, turned_of HB0.out (Turned.same (HR.out.below HB0.out))⟩

theorem run_neq_hd (w : World) (k f r c : Int) (m : Bool) : (binOp .neq 59 (.agg #[.int .i64 k, .int .i64 f, .int .i64 r, .bool m, .int .i64 c]) (.agg #[.int .i64 k, .int .i64 f, .int .i64 r, .bool m, .int .i64 c])).run Try.prog w = .ok (.bool false) w := by
  have hS : Try.prog.underlying 59 = some (.struct (Try.prog.fieldsOf 59)) := by kernel_rfl
  have hp : Try.prog.stoodInHeld 59 = false := by kernel_rfl
  rw [run_neq_struct, show (10000 : Nat) = 9999 + 1 from rfl, run_equalIn_agg w 9999 59 _ _ hS hp]
  simp only [Program.fieldsOf, Try.underlying59]
  go_simp
theorem run_neqG_hd (w : World) (a b : Operand) (xs ys : Array Value) : (eqGuard .neq 59 a b (.agg xs) (.agg ys)).run Try.prog w = .ok () w := run_eqGuard_agg w _ _ _ _ _ _ (by kernel_rfl)
end Go.Proofs.Ytcljgphipdbckaa
