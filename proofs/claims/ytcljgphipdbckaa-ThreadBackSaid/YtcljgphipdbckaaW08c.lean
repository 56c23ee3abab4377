/- The walks of layer 8 (objects), third part: what is set and put. -/
import Derived.Test.YtcljgphipdbckaaW08b
namespace Go.Proofs.Ytcljgphipdbckaa
set_option linter.unusedVariables false
set_option linter.unusedSimpArgs false
open Go.RowKit

theorem grown_of_below {w w' : World} (hb : Below w.heap.size w w') (row : Option Nat) : w.grownBy w' row := ⟨hb.os, hb.tape, hb.output, hb.size, fun k hk _ => hb.block k hk⟩
theorem turned_of {w w1 w2 : World} {B p : Nat} {v : Value} {ws : List Int} (hb : Below w.heap.size w w1) (ht : Turned w1 B p v ws w2) : Turned w B p v ws w2 := ⟨ht.1, grown_trans (grown_of_below hb _) ht.2⟩

set_option maxHeartbeats 1600000 in
theorem setfield_ar {w : World} {B p : Nat} {v : Value} {ws : List Int} (a i x : Int) (ha0 : -9223372036854775808 ≤ a) (hal : ws.length ≤ 1000000) (hx : U64 x) (h : Ar w B p v ws) : Calls Try.prog 80 #[.pointer (some ⟨p, 0, none⟩), .int .i64 a, .int .i64 i, .int .u64 x] w (fun e w' => e = .returned (.int .i64 (oSE ws a i x false)) ∧ Turned w B p v (oSL ws a i x false) w') := by
  have hp := place_ar a i false ha0 hal h
  have HA := Lib.hid h
  have HX := Lib.hid hx
  have hd := fun w => vdec_any x w hx
  rcases os_cases h.fit a i x false with ⟨h0, e1, e2⟩ | ⟨h0, hr, hdb, e1, e2⟩ | ⟨h0, hr, e1, hin, e2⟩
  · rw [e1, e2]
    have HP := Lib.hid hp
    have hne : (oPE ws a i false != 0) = true := by simpa using h0
    clear h hp h0 e1 e2 hd hx
    generalize oPE ws a i false = E at *
    generalize oPI ws a i false = k at *
    go_enter Try.func80, Try.ntmps80
    go_wp2_with fail
    refine HP.out.mono ?_
    rintro e w1 ⟨rfl, hb⟩
    have HB := Lib.hid hb
    clear hb
    go_wp2
    go_ret
    exact ⟨rfl, turned_of HB.out (Turned.same (HA.out.below HB.out))⟩
  · rw [e1, e2]
    rw [h0] at hp
    have HP := Lib.hid hp
    rw [show decE x = 3 by unfold decE; rw [hdb]; rfl] at hd
    have HD := fun w => Lib.hid (hd w)
    clear h hp h0 e1 e2 hd hdb hr hx
    generalize oPI ws a i false = k at *
    go_enter Try.func80, Try.ntmps80
    go_wp2_with fail
    refine HP.out.mono ?_
    rintro e w1 ⟨rfl, hb⟩
    have HB := Lib.hid hb
    clear hb
    go_wp2_with fail
    refine (HD _).out.mono ?_
    rintro e wd ⟨rfl, hb⟩
    have HB := Lib.hid ((below_tr HB.out hb).alloc (below_tr HB.out hb).size (.cells #[.int .i64 (decK x), .int .i64 (decX x)] 69))
    clear hb
    go_wp2
    go_ret
    exact ⟨rfl, turned_of HB.out (Turned.same (HA.out.below HB.out))⟩
  · rw [e1, e2]
    rw [h0] at hp
    have HP := Lib.hid hp
    rw [show decE x = 0 by unfold decE; rw [show decB x = true by simpa using hr]; rfl] at hd
    have HD := fun w => Lib.hid (hd w)
    have HE := Lib.hid (atE_yes hin)
    have HL := Lib.hid (wrL_yes x hin)
    clear h hp h0 e1 e2 hd hr hx hin
    generalize oPI ws a i false = k at *
    go_enter Try.func80, Try.ntmps80
    go_wp2_with fail
    refine HP.out.mono ?_
    rintro e w1 ⟨rfl, hb⟩
    have HB := Lib.hid hb
    clear hb
    go_wp2_with fail
    refine (HD _).out.mono ?_
    rintro e wd ⟨rfl, hb⟩
    have HB := Lib.hid ((below_tr HB.out hb).alloc (below_tr HB.out hb).size (.cells #[.int .i64 (decK x), .int .i64 (decX x)] 69))
    clear hb
    have hk := write_ar k x (HA.out.below HB.out) HX.out
    rw [HE.out, HL.out] at hk
    have HK := Lib.hid hk
    clear hk
    go_wp2_with fail
    refine HK.out.mono ?_
    rintro e w2 ⟨rfl, ht⟩
    have HT := Lib.hid (turned_of HB.out ht)
    clear ht
    go_wp2
    go_ret
    exact ⟨rfl, HT.out⟩
set_option maxHeartbeats 800000 in
theorem setfield_no (v : Value) (w : World) (a i x : Int) (h : NoAr w v) : Calls Try.prog 80 #[v, .int .i64 a, .int .i64 i, .int .u64 x] w (Out w (.int .i64 10)) := by
  have HP := Lib.hid (place_no v w a i false h)
  clear h
  go_enter Try.func80, Try.ntmps80
  go_wp2_with fail
  refine HP.out.mono ?_
  rintro e w1 ⟨rfl, hb⟩
  have HB := Lib.hid hb
  clear hb
  go_wp2
  go_ret
  exact ⟨rfl, HB.out⟩

set_option maxHeartbeats 1600000 in
theorem setraw_ar {w : World} {B p : Nat} {v : Value} {ws : List Int} (a i x : Int) (ha0 : -9223372036854775808 ≤ a) (hal : ws.length ≤ 1000000) (hx : U64 x) (h : Ar w B p v ws) : Calls Try.prog 81 #[.pointer (some ⟨p, 0, none⟩), .int .i64 a, .int .i64 i, .int .u64 x] w (fun e w' => e = .returned (.int .i64 (oSE ws a i x true)) ∧ Turned w B p v (oSL ws a i x true) w') := by
  have hp := place_ar a i true ha0 hal h
  have HA := Lib.hid h
  have HX := Lib.hid hx
  rcases os_cases h.fit a i x true with ⟨h0, e1, e2⟩ | ⟨h0, hr, hdb, e1, e2⟩ | ⟨h0, hr, e1, hin, e2⟩
  · rw [e1, e2]
    have HP := Lib.hid hp
    have hne : (oPE ws a i true != 0) = true := by simpa using h0
    clear h hp h0 e1 e2  hx
    generalize oPE ws a i true = E at *
    generalize oPI ws a i true = k at *
    go_enter Try.func81, Try.ntmps81
    go_wp2_with fail
    refine HP.out.mono ?_
    rintro e w1 ⟨rfl, hb⟩
    have HB := Lib.hid hb
    clear hb
    go_wp2
    go_ret
    exact ⟨rfl, turned_of HB.out (Turned.same (HA.out.below HB.out))⟩
  · cases hr
  · rw [e1, e2]
    rw [h0] at hp
    have HP := Lib.hid hp
    
    have HE := Lib.hid (atE_yes hin)
    have HL := Lib.hid (wrL_yes x hin)
    clear h hp h0 e1 e2  hr hx hin
    generalize oPI ws a i true = k at *
    go_enter Try.func81, Try.ntmps81
    go_wp2_with fail
    refine HP.out.mono ?_
    rintro e w1 ⟨rfl, hb⟩
    have HB := Lib.hid hb
    clear hb
    have hk := write_ar k x (HA.out.below HB.out) HX.out
    rw [HE.out, HL.out] at hk
    have HK := Lib.hid hk
    clear hk
    go_wp2_with fail
    refine HK.out.mono ?_
    rintro e w2 ⟨rfl, ht⟩
    have HT := Lib.hid (turned_of HB.out ht)
    clear ht
    go_wp2
    go_ret
    exact ⟨rfl, HT.out⟩
set_option maxHeartbeats 800000 in
theorem setraw_no (v : Value) (w : World) (a i x : Int) (h : NoAr w v) : Calls Try.prog 81 #[v, .int .i64 a, .int .i64 i, .int .u64 x] w (Out w (.int .i64 10)) := by
  have HP := Lib.hid (place_no v w a i true h)
  clear h
  go_enter Try.func81, Try.ntmps81
  go_wp2_with fail
  refine HP.out.mono ?_
  rintro e w1 ⟨rfl, hb⟩
  have HB := Lib.hid hb
  clear hb
  go_wp2
  go_ret
  exact ⟨rfl, HB.out⟩

set_option maxHeartbeats 1600000 in
theorem oput_ar {w : World} {B p : Nat} {v : Value} {ws : List Int} (a : Int) (h : Hd) (hA : Ar w B p v ws) : Calls Try.prog 79 #[.pointer (some ⟨p, 0, none⟩), .int .i64 a, .agg #[.int .i64 h.kind, .int .i64 h.fields, .int .i64 h.raws, .bool h.mark, .int .i64 h.cursor]] w (fun e w' => e = .returned (.int .i64 (oUE ws a h)) ∧ Turned w B p v (oUL ws a h) w') := by
  have hb0 := (Below.refl w.heap.size w).alloc (Nat.le_refl _) (.cells #[.int .i64 h.kind, .int .i64 h.fields, .int .i64 h.raws, .bool h.mark, .int .i64 h.cursor] 59)
  have HB0 := Lib.hid hb0
  have HR0 := Lib.hid (Blk.new w 59 #[.int .i64 h.kind, .int .i64 h.fields, .int .i64 h.raws, .bool h.mark, .int .i64 h.cursor])
  have HA := Lib.hid hA
  have hE := fun w => enc_core h w
  have hS := fun w => size_any h w
  unfold Hd.cells at hE hS
  clear hb0
  rcases ou_cases ws a h with ⟨hm, e1, e2⟩ | ⟨hm, hr, _, e1, e2⟩ | ⟨hm, hr, h0, h1, e1, e2⟩
  · rw [e1, e2]
    rw [← (enc_not hm).2] at hE
    have HE := fun w => Lib.hid (hE w)
    clear hA hE hS hm e1 e2
    generalize encW h = W9 at *
    go_enter Try.func79, Try.ntmps79
    go_wp2_with fail
    refine (HE _).out.mono ?_
    rintro e w1 ⟨rfl, hb⟩
    have HB := Lib.hid (below_tr HB0.out hb)
    clear hb
    go_wp2
    go_ret
    exact ⟨rfl, turned_of HB.out (Turned.same (HA.out.below HB.out))⟩
  · rw [e1, e2]
    rw [← (enc_yes hm).2] at hE
    have HE := fun w => Lib.hid (hE w)
    have HS := fun w => Lib.hid (hS w)
    have HFL := Lib.hid (fillL_not (ws := ws) 0 (show ¬ rowE ws.length a (sizeI h) = 0 by omega))
    have HRE := Lib.hid hr
    clear hA hE hS hm e1 e2 hr
    generalize encW h = W9 at *
    generalize sizeI h = sz at *
    go_enter Try.func79, Try.ntmps79
    go_wp2_with fail
    refine (HE _).out.mono ?_
    rintro e w1 ⟨rfl, hb⟩
    have HB := Lib.hid (below_tr HB0.out hb)
    have HR := Lib.hid (HR0.out.below hb HR0.out.lt)
    have q0 := HR.out.cell 0
    have q1 := HR.out.cell 1
    have q2 := HR.out.cell 2
    have q3 := HR.out.cell 3
    have q4 := HR.out.cell 4
    clear hb
    go_wp2_with fail
    refine (HS _).out.mono ?_
    rintro e w2 ⟨rfl, hb⟩
    have HB2 := Lib.hid (below_tr HB.out hb)
    clear hb
    have hk := fill_ar a sz 0 (HA.out.below HB2.out) ⟨by decide, by decide⟩
    rw [HRE.out, HFL.out] at hk
    have HK := Lib.hid hk
    clear hk
    go_wp2_with fail
    refine HK.out.mono ?_
    rintro e w3 ⟨rfl, ht⟩
    have HT := Lib.hid (turned_of HB2.out ht)
    clear ht
    go_wp2
    go_ret
    exact ⟨rfl, HT.out⟩
  · rw [e1, e2]
    rw [← (enc_yes hm).2, ← (enc_yes hm).1] at hE
    have HE := fun w => Lib.hid (hE w)
    have HS := fun w => Lib.hid (hS w)
    have HFL := Lib.hid (fillL_ok (ws := ws) 0 hr)
    have HRE := Lib.hid hr
    have hsz := size_may hm
    have HU : Hid (U64 (encI h)) := encI_bd hm
    generalize hff : fillTo ws a.toNat 0 (sizeI h).toNat = ff at *
    have hfl : ff.length = ws.length := by rw [← hff, fillTo_length]
    have hin : inB ff.length a = true := inB_mk h0 (by omega)
    have HIN := Lib.hid (atE_yes hin)
    have HWL := Lib.hid (wrL_yes (encI h) hin)
    clear hA hE hS hm e1 e2 hr hsz hin hfl
    clear hff
    generalize encI h = W9 at *
    generalize sizeI h = sz at *
    go_enter Try.func79, Try.ntmps79
    go_wp2_with fail
    refine (HE _).out.mono ?_
    rintro e w1 ⟨rfl, hb⟩
    have HB := Lib.hid (below_tr HB0.out hb)
    have HR := Lib.hid (HR0.out.below hb HR0.out.lt)
    have q0 := HR.out.cell 0
    have q1 := HR.out.cell 1
    have q2 := HR.out.cell 2
    have q3 := HR.out.cell 3
    have q4 := HR.out.cell 4
    clear hb
    go_wp2_with fail
    refine (HS _).out.mono ?_
    rintro e w2 ⟨rfl, hb⟩
    have HB2 := Lib.hid (below_tr HB.out hb)
    clear hb
    have hk := fill_ar a sz 0 (HA.out.below HB2.out) ⟨by decide, by decide⟩
    rw [HRE.out, HFL.out] at hk
    have HK := Lib.hid hk
    clear hk
    go_wp2_with fail
    refine HK.out.mono ?_
    rintro e w3 ⟨rfl, ht⟩
    have HT := Lib.hid (turned_of HB2.out ht)
    have hk := write_ar a W9 ht.1 HU.out
    rw [HIN.out, HWL.out] at hk
    have HK2 := Lib.hid hk
    clear ht hk
    go_wp2_with fail
    refine HK2.out.mono ?_
    rintro e w4 ⟨rfl, ht⟩
    have HT2 := Lib.hid (show Turned w B p v _ w4 from ⟨ht.1, grown_trans HT.out.2 ht.2⟩)
    clear ht
    go_wp2
    go_ret
    exact ⟨rfl, HT2.out⟩
set_option maxHeartbeats 1600000 in
theorem oput_no (v : Value) (w : World) (a : Int) (h : Hd) (hA : NoAr w v) : Calls Try.prog 79 #[v, .int .i64 a, .agg #[.int .i64 h.kind, .int .i64 h.fields, .int .i64 h.raws, .bool h.mark, .int .i64 h.cursor]] w (Out w (.int .i64 (if mayB h then 10 else 1))) := by
  have hb0 := (Below.refl w.heap.size w).alloc (Nat.le_refl _) (.cells #[.int .i64 h.kind, .int .i64 h.fields, .int .i64 h.raws, .bool h.mark, .int .i64 h.cursor] 59)
  have HB0 := Lib.hid hb0
  have HR0 := Lib.hid (Blk.new w 59 #[.int .i64 h.kind, .int .i64 h.fields, .int .i64 h.raws, .bool h.mark, .int .i64 h.cursor])
  have HA := Lib.hid hA
  have hE := fun w => enc_core h w
  have hS := fun w => size_any h w
  unfold Hd.cells at hE hS
  clear hb0
  cases hm : mayB h with
  | false =>
    rw [← (enc_not hm).2] at hE
    have HE := fun w => Lib.hid (hE w)
    clear hA hE hS hm
    generalize encW h = W9 at *
    go_enter Try.func79, Try.ntmps79
    go_wp2_with fail
    refine (HE _).out.mono ?_
    rintro e w1 ⟨rfl, hb⟩
    have HB := Lib.hid (below_tr HB0.out hb)
    clear hb
    go_wp2
    go_ret
    exact ⟨rfl, HB.out⟩
  | true =>
    rw [← (enc_yes hm).2] at hE
    have HE := fun w => Lib.hid (hE w)
    have HS := fun w => Lib.hid (hS w)
    clear hA hE hS hm
    generalize encW h = W9 at *
    generalize sizeI h = sz at *
    go_enter Try.func79, Try.ntmps79
    go_wp2_with fail
    refine (HE _).out.mono ?_
    rintro e w1 ⟨rfl, hb⟩
    have HB := Lib.hid (below_tr HB0.out hb)
    have HR := Lib.hid (HR0.out.below hb HR0.out.lt)
    have q0 := HR.out.cell 0
    have q1 := HR.out.cell 1
    have q2 := HR.out.cell 2
    have q3 := HR.out.cell 3
    have q4 := HR.out.cell 4
    clear hb
    go_wp2_with fail
    refine (HS _).out.mono ?_
    rintro e w2 ⟨rfl, hb⟩
    have HB2 := Lib.hid (below_tr HB.out hb)
    have HK := Lib.hid (fill_none v a sz 0 w2 (HA.out.below HB2.out))
    clear hb
    go_wp2_with fail
    refine HK.out.mono ?_
    rintro e w3 ⟨rfl, rfl⟩
    go_wp2
    go_ret
    exact ⟨rfl, HB2.out⟩

end Go.Proofs.Ytcljgphipdbckaa
