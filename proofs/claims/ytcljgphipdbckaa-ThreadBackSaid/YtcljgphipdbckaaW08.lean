/- The walks of layer 8 (objects): Head. -/
import Derived.Test.YtcljgphipdbckaaP08
import Derived.Test.YtcljgphipdbckaaW07d
import Derived.Test.YtcljgphipdbckaaW02d
import Derived.IntWalk
namespace Go.Proofs.Ytcljgphipdbckaa
set_option linter.unusedVariables false
set_option linter.unusedSimpArgs false
open Go.RowKit

theorem NoAr.below {w w' : World} {v : Value} (h : NoAr w v) (hb : Below w.heap.size w w') : NoAr w' v := by
  rcases h with rfl | ⟨p, rfl, hc⟩
  · exact .inl rfl
  · exact .inr ⟨p, rfl, (hb.cell (World.block_lt_of_cell? _ _ hc)).trans hc⟩

set_option maxRecDepth 100000 in
set_option maxHeartbeats 3200000 in
/-- Head in an arena -/
theorem head_ar {w : World} {B p : Nat} {v : Value} {ws : List Int} (a : Int) (ha0 : -9223372036854775808 ≤ a) (hal : ws.length ≤ 1000000) (h : Ar w B p v ws) : Calls Try.prog 76 #[.pointer (some ⟨p, 0, none⟩), .int .i64 a] w (Out w (.tuple #[.agg #[.int .i64 (oH ws a).kind, .int .i64 (oH ws a).fields, .int .i64 (oH ws a).raws, .bool (oH ws a).mark, .int .i64 (oH ws a).cursor], .int .i64 (oE ws a)])) := by
  have hb0 := (Below.refl w.heap.size w).alloc (Nat.le_refl _) (.cells #[.int .i64 0, .int .i64 0, .int .i64 0, .bool false, .int .i64 0] 59)
  have HB0 := Lib.hid hb0
  have HR0 := Lib.hid (Blk.new w 59 #[.int .i64 0, .int .i64 0, .int .i64 0, .bool false, .int .i64 0])
  have HA0 := Lib.hid (h.below hb0)
  have HU := Lib.hid (rdV_u h.fit a)
  have hrd := read_ar a HA0.out
  clear hb0 h
  rcases o_cases ws a with ⟨h1, e1, e2⟩ | ⟨h1, h2, e1, e2⟩ | ⟨h1, h2, h3, e1, e2⟩ | ⟨h1, h2, h3, e1, e2⟩
  · rw [e1, e2]
    rw [atE_no h1, rdV_no h1] at hrd
    have HK := Lib.hid hrd
    unfold Hd.none_
    have q0 := HR0.out.cell 0
    have q1 := HR0.out.cell 1
    have q2 := HR0.out.cell 2
    have q3 := HR0.out.cell 3
    have q4 := HR0.out.cell 4
    have u0 := HR0.out.frozen 0
    have u1 := HR0.out.frozen 1
    have u2 := HR0.out.frozen 2
    have u3 := HR0.out.frozen 3
    have u4 := HR0.out.frozen 4
    clear h1 e1 e2 hrd HU ha0 hal
    go_enter Try.func76, Try.ntmps76
    go_wp2_with fail
    refine HK.out.mono ?_
    rintro e w1 ⟨rfl, rfl⟩
    go_wp2
    exact bodyPost_ret (v := .tuple #[.agg #[.int .i64 0, .int .i64 0, .int .i64 0, .bool false, .int .i64 0], .int .i64 2]) (by simp [results, Try.results76, go_sem, q0, q1, q2, q3, q4]) rfl
      (Out.mk' rfl (by first | exact (((((HB0.out.setCell (Nat.le_refl _) _).setCell (Nat.le_refl _) _).setCell (Nat.le_refl _) _).setCell (Nat.le_refl _) _).setCell (Nat.le_refl _) _) | exact HB0.out))
  · rw [e1, e2]
    rw [atE_yes h1] at hrd
    generalize hW : rdV ws a = W at *
    have hd := fun w => hdec_any W w HU.out
    rw [(hdH_no h2).1, (hdH_no h2).2] at hd
    unfold Hd.none_ Hd.cells at hd
    have HD := fun w => Lib.hid (hd w)
    have HK := Lib.hid hrd
    unfold Hd.none_
    clear h1 h2 e1 e2 hrd HU hd ha0 hal hW
    go_enter Try.func76, Try.ntmps76
    go_wp2_with fail
    refine HK.out.mono ?_
    rintro e w1 ⟨rfl, rfl⟩
    go_wp2_with fail
    refine (HD _).out.mono ?_
    rintro e w2 ⟨rfl, hb⟩
    have HR1 := Lib.hid ((HR0.out.below hb HR0.out.lt).alloc (.cells #[.int .i64 0, .int .i64 0, .int .i64 0, .bool false, .int .i64 0] 59))
    have HB1 := Lib.hid ((below_tr HB0.out hb).alloc (below_tr HB0.out hb).size (.cells #[.int .i64 0, .int .i64 0, .int .i64 0, .bool false, .int .i64 0] 59))
    have q0 := HR1.out.cell 0
    have q1 := HR1.out.cell 1
    have q2 := HR1.out.cell 2
    have q3 := HR1.out.cell 3
    have q4 := HR1.out.cell 4
    have u0 := HR1.out.frozen 0
    have u1 := HR1.out.frozen 1
    have u2 := HR1.out.frozen 2
    have u3 := HR1.out.frozen 3
    have u4 := HR1.out.frozen 4
    clear hb
    go_wp2
    exact bodyPost_ret (v := .tuple #[.agg #[.int .i64 0, .int .i64 0, .int .i64 0, .bool false, .int .i64 0], .int .i64 3]) (by simp [results, Try.results76, go_sem, q0, q1, q2, q3, q4]) rfl
      (Out.mk' rfl (by first | exact (((((HB1.out.setCell (Nat.le_refl _) _).setCell (Nat.le_refl _) _).setCell (Nat.le_refl _) _).setCell (Nat.le_refl _) _).setCell (Nat.le_refl _) _) | exact HB1.out))
  · rw [e1, e2]
    rw [atE_yes h1] at hrd
    generalize hW : rdV ws a = W at *
    have hd := fun w => hdec_any W w HU.out
    rw [(hdH_yes h2).2] at hd
    have hbd := inB_yes h1
    have hsz := size_may (hdH_may HU.out.1 h2)
    have HS := fun w => Lib.hid (size_any (hdH W) w)
    have HD := fun w => Lib.hid (hd w)
    have HK := Lib.hid hrd
    unfold Hd.cells at HD HS
    generalize hdH W = z at *
    generalize sizeI z = sz at *
    have g1 : (ws.length : Int) - a < sz := by omega
    have g2 : IntKind.i64.wrap ((ws.length : Int) - a) = (ws.length : Int) - a := Go.IntWalk.i64_in _ (by omega)
    unfold Hd.none_
    clear h1 h2 e1 e2 hrd HU hd hW hsz hbd h3 hal
    go_enter Try.func76, Try.ntmps76
    go_wp2_with fail
    refine HK.out.mono ?_
    rintro e w1 ⟨rfl, rfl⟩
    go_wp2_with fail
    refine (HD _).out.mono ?_
    rintro e w2 ⟨rfl, hb⟩
    have HZ1 := Lib.hid (Blk.new w2 59 #[.int .i64 z.kind, .int .i64 z.fields, .int .i64 z.raws, .bool z.mark, .int .i64 z.cursor])
    have HR1 := Lib.hid ((HR0.out.below hb HR0.out.lt).alloc (.cells #[.int .i64 z.kind, .int .i64 z.fields, .int .i64 z.raws, .bool z.mark, .int .i64 z.cursor] 59))
    have HB1 := Lib.hid ((below_tr HB0.out hb).alloc (below_tr HB0.out hb).size (.cells #[.int .i64 z.kind, .int .i64 z.fields, .int .i64 z.raws, .bool z.mark, .int .i64 z.cursor] 59))
    have HA1 := Lib.hid ((HA0.out.below hb).below ((Below.refl _ _).alloc (Nat.le_refl _) (.cells #[.int .i64 z.kind, .int .i64 z.fields, .int .i64 z.raws, .bool z.mark, .int .i64 z.cursor] 59)))
    clear hb
    go_wp2_with fail
    refine (HS _).out.mono ?_
    rintro e w3 ⟨rfl, hb⟩
    have HR2 := Lib.hid (HR1.out.below hb HR1.out.lt)
    have HB2 := Lib.hid (below_tr HB1.out hb)
    have HL := Lib.hid (len_ar (HA1.out.below hb))
    have q0 := HR2.out.cell 0
    have q1 := HR2.out.cell 1
    have q2 := HR2.out.cell 2
    have q3 := HR2.out.cell 3
    have q4 := HR2.out.cell 4
    have u0 := HR2.out.frozen 0
    have u1 := HR2.out.frozen 1
    have u2 := HR2.out.frozen 2
    have u3 := HR2.out.frozen 3
    have u4 := HR2.out.frozen 4
    clear hb
    go_wp2_with fail
    refine HL.out.mono ?_
    rintro e w4 ⟨rfl, rfl⟩
    go_wp2
    exact bodyPost_ret (v := .tuple #[.agg #[.int .i64 0, .int .i64 0, .int .i64 0, .bool false, .int .i64 0], .int .i64 2]) (by simp [results, Try.results76, go_sem, q0, q1, q2, q3, q4]) rfl
      (Out.mk' rfl (by first | exact (((((HB2.out.setCell (Nat.le_refl _) _).setCell (Nat.le_refl _) _).setCell (Nat.le_refl _) _).setCell (Nat.le_refl _) _).setCell (Nat.le_refl _) _) | exact HB2.out))
  · rw [e1, e2]
    rw [atE_yes h1] at hrd
    generalize hW : rdV ws a = W at *
    have hd := fun w => hdec_any W w HU.out
    rw [(hdH_yes h2).2] at hd
    have hbd := inB_yes h1
    have hsz := size_may (hdH_may HU.out.1 h2)
    have HS := fun w => Lib.hid (size_any (hdH W) w)
    have HD := fun w => Lib.hid (hd w)
    have HK := Lib.hid hrd
    unfold Hd.cells at HD HS
    generalize hdH W = z at *
    generalize sizeI z = sz at *
    have g1 : ¬ ((ws.length : Int) - a < sz) := by omega
    have g2 : IntKind.i64.wrap ((ws.length : Int) - a) = (ws.length : Int) - a := Go.IntWalk.i64_in _ (by omega)
    clear h1 h2 e1 e2 hrd HU hd hW hsz hbd h3 hal
    go_enter Try.func76, Try.ntmps76
    go_wp2_with fail
    refine HK.out.mono ?_
    rintro e w1 ⟨rfl, rfl⟩
    go_wp2_with fail
    refine (HD _).out.mono ?_
    rintro e w2 ⟨rfl, hb⟩
    have HZ1 := Lib.hid (Blk.new w2 59 #[.int .i64 z.kind, .int .i64 z.fields, .int .i64 z.raws, .bool z.mark, .int .i64 z.cursor])
    have HR1 := Lib.hid ((HR0.out.below hb HR0.out.lt).alloc (.cells #[.int .i64 z.kind, .int .i64 z.fields, .int .i64 z.raws, .bool z.mark, .int .i64 z.cursor] 59))
    have HB1 := Lib.hid ((below_tr HB0.out hb).alloc (below_tr HB0.out hb).size (.cells #[.int .i64 z.kind, .int .i64 z.fields, .int .i64 z.raws, .bool z.mark, .int .i64 z.cursor] 59))
    have HA1 := Lib.hid ((HA0.out.below hb).below ((Below.refl _ _).alloc (Nat.le_refl _) (.cells #[.int .i64 z.kind, .int .i64 z.fields, .int .i64 z.raws, .bool z.mark, .int .i64 z.cursor] 59)))
    clear hb
    go_wp2_with fail
    refine (HS _).out.mono ?_
    rintro e w3 ⟨rfl, hb⟩
    have HR2 := Lib.hid (HR1.out.below hb HR1.out.lt)
    have HZ2 := Lib.hid (HZ1.out.below hb HZ1.out.lt)
    have HB2 := Lib.hid (below_tr HB1.out hb)
    have HL := Lib.hid (len_ar (HA1.out.below hb))
    have q0 := HR2.out.cell 0
    have q1 := HR2.out.cell 1
    have q2 := HR2.out.cell 2
    have q3 := HR2.out.cell 3
    have q4 := HR2.out.cell 4
    have u0 := HR2.out.frozen 0
    have u1 := HR2.out.frozen 1
    have u2 := HR2.out.frozen 2
    have u3 := HR2.out.frozen 3
    have u4 := HR2.out.frozen 4
    have z0 := HZ2.out.cell 0
    have z1 := HZ2.out.cell 1
    have z2 := HZ2.out.cell 2
    have z3 := HZ2.out.cell 3
    have z4 := HZ2.out.cell 4
    clear hb
    go_wp2_with fail
    refine HL.out.mono ?_
    rintro e w4 ⟨rfl, rfl⟩
    go_wp2
    exact bodyPost_ret (v := .tuple #[.agg #[.int .i64 z.kind, .int .i64 z.fields, .int .i64 z.raws, .bool z.mark, .int .i64 z.cursor], .int .i64 0]) (by simp [results, Try.results76, go_sem, q0, q1, q2, q3, q4]) rfl
      (Out.mk' rfl (((((HB2.out.setCell (Nat.le_refl _) _).setCell (Nat.le_refl _) _).setCell (Nat.le_refl _) _).setCell (Nat.le_refl _) _).setCell (Nat.le_refl _) _))

set_option maxRecDepth 100000 in
set_option maxHeartbeats 3200000 in
/-- Head in nobody's arena -/
theorem head_no (v : Value) (w : World) (a : Int) (h : NoAr w v) : Calls Try.prog 76 #[v, .int .i64 a] w (Out w (.tuple #[.agg #[.int .i64 0, .int .i64 0, .int .i64 0, .bool false, .int .i64 0], .int .i64 10])) := by
  have hb0 := (Below.refl w.heap.size w).alloc (Nat.le_refl _) (.cells #[.int .i64 0, .int .i64 0, .int .i64 0, .bool false, .int .i64 0] 59)
  have HB0 := Lib.hid hb0
  have HR0 := Lib.hid (Blk.new w 59 #[.int .i64 0, .int .i64 0, .int .i64 0, .bool false, .int .i64 0])
  have HK := Lib.hid (read_none v a _ (h.below hb0))
  have q0 := HR0.out.cell 0
  have q1 := HR0.out.cell 1
  have q2 := HR0.out.cell 2
  have q3 := HR0.out.cell 3
  have q4 := HR0.out.cell 4
  have u0 := HR0.out.frozen 0
  have u1 := HR0.out.frozen 1
  have u2 := HR0.out.frozen 2
  have u3 := HR0.out.frozen 3
  have u4 := HR0.out.frozen 4
  clear h hb0
  go_enter Try.func76, Try.ntmps76
  go_wp2_with fail
  refine HK.out.mono ?_
  rintro e w1 ⟨rfl, rfl⟩
  go_wp2
  exact bodyPost_ret (v := .tuple #[.agg #[.int .i64 0, .int .i64 0, .int .i64 0, .bool false, .int .i64 0], .int .i64 10]) (by simp [results, Try.results76, go_sem, q0, q1, q2, q3, q4]) rfl
    (Out.mk' rfl (by first | exact (((((HB0.out.setCell (Nat.le_refl _) _).setCell (Nat.le_refl _) _).setCell (Nat.le_refl _) _).setCell (Nat.le_refl _) _).setCell (Nat.le_refl _) _) | exact HB0.out))

set_option maxRecDepth 100000 in
set_option maxHeartbeats 3200000 in
/-- the reference's Head -/
theorem rhead_any {w : World} {A : Option Addr} {n c : Nat} {ws : List Int} (a : Int) (hal : ws.length ≤ 1000000) (h : Rw w (.slice A n c) ws) : Calls Try.prog 89 #[.slice A n c, .int .i64 a] w (Out w (.tuple #[.agg #[.int .i64 (oH ws a).kind, .int .i64 (oH ws a).fields, .int .i64 (oH ws a).raws, .bool (oH ws a).mark, .int .i64 (oH ws a).cursor], .int .i64 (oE ws a)])) := by
  have hb0 := (Below.refl w.heap.size w).alloc (Nat.le_refl _) (.cells #[.int .i64 0, .int .i64 0, .int .i64 0, .bool false, .int .i64 0] 59)
  have HB0 := Lib.hid hb0
  have HR0 := Lib.hid (Blk.new w 59 #[.int .i64 0, .int .i64 0, .int .i64 0, .bool false, .int .i64 0])
  have hln := h.len_
  have hcp := h.cap_
  unfold maxLen at hcp
  have HA0 := Lib.hid (h.below hb0)
  have HU := Lib.hid (rdV_u h.fit a)
  clear hb0 h
  rcases o_cases ws a with ⟨h1, e1, e2⟩ | ⟨h1, h2, e1, e2⟩ | ⟨h1, h2, h3, e1, e2⟩ | ⟨h1, h2, h3, e1, e2⟩
  · rw [e1, e2]
    unfold Hd.none_
    have q0 := HR0.out.cell 0
    have q1 := HR0.out.cell 1
    have q2 := HR0.out.cell 2
    have q3 := HR0.out.cell 3
    have q4 := HR0.out.cell 4
    have u0 := HR0.out.frozen 0
    have u1 := HR0.out.frozen 1
    have u2 := HR0.out.frozen 2
    have u3 := HR0.out.frozen 3
    have u4 := HR0.out.frozen 4
    rcases inB_no h1 with hq | hq
    · clear h1 e1 e2 HU hal
      go_enter Try.func89, Try.ntmps89
      go_wp2
      exact bodyPost_ret (v := .tuple #[.agg #[.int .i64 0, .int .i64 0, .int .i64 0, .bool false, .int .i64 0], .int .i64 2]) (by simp [results, Try.results89, go_sem, q0, q1, q2, q3, q4]) rfl
        (Out.mk' rfl (by first | exact (((((HB0.out.setCell (Nat.le_refl _) _).setCell (Nat.le_refl _) _).setCell (Nat.le_refl _) _).setCell (Nat.le_refl _) _).setCell (Nat.le_refl _) _) | exact HB0.out))
    · have hq0 : ¬ (a < 0) := by omega
      have hq1 : (n : Int) ≤ a := by omega
      clear h1 e1 e2 HU hal
      go_enter Try.func89, Try.ntmps89
      go_wp2
      exact bodyPost_ret (v := .tuple #[.agg #[.int .i64 0, .int .i64 0, .int .i64 0, .bool false, .int .i64 0], .int .i64 2]) (by simp [results, Try.results89, go_sem, q0, q1, q2, q3, q4]) rfl
        (Out.mk' rfl (by first | exact (((((HB0.out.setCell (Nat.le_refl _) _).setCell (Nat.le_refl _) _).setCell (Nat.le_refl _) _).setCell (Nat.le_refl _) _).setCell (Nat.le_refl _) _) | exact HB0.out))

  · rw [e1, e2]
    have hbd := inB_yes h1
    obtain ⟨K, rfl⟩ := Int.eq_ofNat_of_zero_le hbd.1
    obtain ⟨b, o, rfl, hc⟩ := HA0.out.at_ (by omega)
    have hck := hc K (by omega)
    have hrv : rdV ws (K : Int) = ws.getD K 0 := by rw [rdV_yes h1]; rfl
    rw [← hrv] at hck
    have hi1 : (K : Int) < (n : Int) := by omega
    generalize hW : rdV ws (K : Int) = W at *
    have hd := fun w => rhdec_any W w HU.out
    rw [(hdH_no h2).1, (hdH_no h2).2] at hd
    unfold Hd.none_ Hd.cells at hd
    have HD := fun w => Lib.hid (hd w)
    unfold Hd.none_
    
    
    
    clear h1 h2 e1 e2 HU hd hW hbd hal hc hrv 
    go_enter Try.func89, Try.ntmps89
    go_wp2_with fail
    refine (HD _).out.mono ?_
    rintro e w2 ⟨rfl, hb⟩
    have HZ1 := Lib.hid (Blk.new w2 59 #[.int .i64 0, .int .i64 0, .int .i64 0, .bool false, .int .i64 0])
    have HR1 := Lib.hid ((HR0.out.below hb HR0.out.lt).alloc (.cells #[.int .i64 0, .int .i64 0, .int .i64 0, .bool false, .int .i64 0] 59))
    have HB1 := Lib.hid ((below_tr HB0.out hb).alloc (below_tr HB0.out hb).size (.cells #[.int .i64 0, .int .i64 0, .int .i64 0, .bool false, .int .i64 0] 59))

    have q0 := HR1.out.cell 0
    have q1 := HR1.out.cell 1
    have q2 := HR1.out.cell 2
    have q3 := HR1.out.cell 3
    have q4 := HR1.out.cell 4
    have u0 := HR1.out.frozen 0
    have u1 := HR1.out.frozen 1
    have u2 := HR1.out.frozen 2
    have u3 := HR1.out.frozen 3
    have u4 := HR1.out.frozen 4
    clear hb
    go_wp2
    exact bodyPost_ret (v := .tuple #[.agg #[.int .i64 0, .int .i64 0, .int .i64 0, .bool false, .int .i64 0], .int .i64 3]) (by simp [results, Try.results89, go_sem, q0, q1, q2, q3, q4]) rfl
      (Out.mk' rfl (by first | exact (((((HB1.out.setCell (Nat.le_refl _) _).setCell (Nat.le_refl _) _).setCell (Nat.le_refl _) _).setCell (Nat.le_refl _) _).setCell (Nat.le_refl _) _) | exact HB1.out))

  · rw [e1, e2]
    have hbd := inB_yes h1
    obtain ⟨K, rfl⟩ := Int.eq_ofNat_of_zero_le hbd.1
    obtain ⟨b, o, rfl, hc⟩ := HA0.out.at_ (by omega)
    have hck := hc K (by omega)
    have hrv : rdV ws (K : Int) = ws.getD K 0 := by rw [rdV_yes h1]; rfl
    rw [← hrv] at hck
    have hi1 : (K : Int) < (n : Int) := by omega
    generalize hW : rdV ws (K : Int) = W at *
    have hd := fun w => rhdec_any W w HU.out
    rw [(hdH_yes h2).2] at hd
    have hsz := size_may (hdH_may HU.out.1 h2)
    have HD := fun w => Lib.hid (hd w)
    have HS := fun w => Lib.hid (rsize_any (hdH W) w)
    unfold Hd.cells at HD HS
    generalize hdH W = z at *
    generalize sizeI z = sz at *
    have g2 : IntKind.i64.wrap ((K : Int) + sz) = (K : Int) + sz := Go.IntWalk.i64_in _ (by omega)
    have g1 : (n : Int) < (K : Int) + sz := by omega
    unfold Hd.none_
    clear h1 h2 e1 e2 HU hd hW hbd hal hc hrv hsz h3
    go_enter Try.func89, Try.ntmps89
    go_wp2_with fail
    refine (HD _).out.mono ?_
    rintro e w2 ⟨rfl, hb⟩
    have HZ1 := Lib.hid (Blk.new w2 59 #[.int .i64 z.kind, .int .i64 z.fields, .int .i64 z.raws, .bool z.mark, .int .i64 z.cursor])
    have HR1 := Lib.hid ((HR0.out.below hb HR0.out.lt).alloc (.cells #[.int .i64 z.kind, .int .i64 z.fields, .int .i64 z.raws, .bool z.mark, .int .i64 z.cursor] 59))
    have HB1 := Lib.hid ((below_tr HB0.out hb).alloc (below_tr HB0.out hb).size (.cells #[.int .i64 z.kind, .int .i64 z.fields, .int .i64 z.raws, .bool z.mark, .int .i64 z.cursor] 59))

    clear hb
    go_wp2_with fail
    refine (HS _).out.mono ?_
    rintro e w3 ⟨rfl, hb⟩
    have HR2 := Lib.hid (HR1.out.below hb HR1.out.lt)
    have HZ2 := Lib.hid (HZ1.out.below hb HZ1.out.lt)
    have HB2 := Lib.hid (below_tr HB1.out hb)
    have q0 := HR2.out.cell 0
    have q1 := HR2.out.cell 1
    have q2 := HR2.out.cell 2
    have q3 := HR2.out.cell 3
    have q4 := HR2.out.cell 4
    have u0 := HR2.out.frozen 0
    have u1 := HR2.out.frozen 1
    have u2 := HR2.out.frozen 2
    have u3 := HR2.out.frozen 3
    have u4 := HR2.out.frozen 4
    have z0 := HZ2.out.cell 0
    have z1 := HZ2.out.cell 1
    have z2 := HZ2.out.cell 2
    have z3 := HZ2.out.cell 3
    have z4 := HZ2.out.cell 4
    clear hb
    go_wp2
    exact bodyPost_ret (v := .tuple #[.agg #[.int .i64 0, .int .i64 0, .int .i64 0, .bool false, .int .i64 0], .int .i64 2]) (by simp [results, Try.results89, go_sem, q0, q1, q2, q3, q4]) rfl
      (Out.mk' rfl (by first | exact (((((HB2.out.setCell (Nat.le_refl _) _).setCell (Nat.le_refl _) _).setCell (Nat.le_refl _) _).setCell (Nat.le_refl _) _).setCell (Nat.le_refl _) _) | exact HB2.out))

  · rw [e1, e2]
    have hbd := inB_yes h1
    obtain ⟨K, rfl⟩ := Int.eq_ofNat_of_zero_le hbd.1
    obtain ⟨b, o, rfl, hc⟩ := HA0.out.at_ (by omega)
    have hck := hc K (by omega)
    have hrv : rdV ws (K : Int) = ws.getD K 0 := by rw [rdV_yes h1]; rfl
    rw [← hrv] at hck
    have hi1 : (K : Int) < (n : Int) := by omega
    generalize hW : rdV ws (K : Int) = W at *
    have hd := fun w => rhdec_any W w HU.out
    rw [(hdH_yes h2).2] at hd
    have hsz := size_may (hdH_may HU.out.1 h2)
    have HD := fun w => Lib.hid (hd w)
    have HS := fun w => Lib.hid (rsize_any (hdH W) w)
    unfold Hd.cells at HD HS
    generalize hdH W = z at *
    generalize sizeI z = sz at *
    have g2 : IntKind.i64.wrap ((K : Int) + sz) = (K : Int) + sz := Go.IntWalk.i64_in _ (by omega)
    have g1 : ¬ ((n : Int) < (K : Int) + sz) := by omega
    clear h1 h2 e1 e2 HU hd hW hbd hal hc hrv hsz h3
    go_enter Try.func89, Try.ntmps89
    go_wp2_with fail
    refine (HD _).out.mono ?_
    rintro e w2 ⟨rfl, hb⟩
    have HZ1 := Lib.hid (Blk.new w2 59 #[.int .i64 z.kind, .int .i64 z.fields, .int .i64 z.raws, .bool z.mark, .int .i64 z.cursor])
    have HR1 := Lib.hid ((HR0.out.below hb HR0.out.lt).alloc (.cells #[.int .i64 z.kind, .int .i64 z.fields, .int .i64 z.raws, .bool z.mark, .int .i64 z.cursor] 59))
    have HB1 := Lib.hid ((below_tr HB0.out hb).alloc (below_tr HB0.out hb).size (.cells #[.int .i64 z.kind, .int .i64 z.fields, .int .i64 z.raws, .bool z.mark, .int .i64 z.cursor] 59))

    clear hb
    go_wp2_with fail
    refine (HS _).out.mono ?_
    rintro e w3 ⟨rfl, hb⟩
    have HR2 := Lib.hid (HR1.out.below hb HR1.out.lt)
    have HZ2 := Lib.hid (HZ1.out.below hb HZ1.out.lt)
    have HB2 := Lib.hid (below_tr HB1.out hb)
    have q0 := HR2.out.cell 0
    have q1 := HR2.out.cell 1
    have q2 := HR2.out.cell 2
    have q3 := HR2.out.cell 3
    have q4 := HR2.out.cell 4
    have u0 := HR2.out.frozen 0
    have u1 := HR2.out.frozen 1
    have u2 := HR2.out.frozen 2
    have u3 := HR2.out.frozen 3
    have u4 := HR2.out.frozen 4
    have z0 := HZ2.out.cell 0
    have z1 := HZ2.out.cell 1
    have z2 := HZ2.out.cell 2
    have z3 := HZ2.out.cell 3
    have z4 := HZ2.out.cell 4
    clear hb
    go_wp2
    exact bodyPost_ret (v := .tuple #[.agg #[.int .i64 z.kind, .int .i64 z.fields, .int .i64 z.raws, .bool z.mark, .int .i64 z.cursor], .int .i64 0]) (by simp [results, Try.results89, go_sem, q0, q1, q2, q3, q4]) rfl
      (Out.mk' rfl (((((HB2.out.setCell (Nat.le_refl _) _).setCell (Nat.le_refl _) _).setCell (Nat.le_refl _) _).setCell (Nat.le_refl _) _).setCell (Nat.le_refl _) _))


end Go.Proofs.Ytcljgphipdbckaa
