/- The walks of layer 8 (objects), fifth part: the reference's SetHead. -/
import Derived.Test.YtcljgphipdbckaaW08d
namespace Go.Proofs.Ytcljgphipdbckaa
set_option linter.unusedVariables false
set_option linter.unusedSimpArgs false
open Go.RowKit

set_option maxRecDepth 100000 in
set_option maxHeartbeats 6400000 in
theorem rsethead_any {w : World} {A : Option Addr} {c : Nat} {ws : List Int} (a : Int) (h : Hd) (hal : ws.length ≤ 1000000) (hA : Rw w (.slice A ws.length c) ws) : Calls Try.prog 127 #[.slice A ws.length c, .int .i64 a, .agg #[.int .i64 h.kind, .int .i64 h.fields, .int .i64 h.raws, .bool h.mark, .int .i64 h.cursor]] w (RefL w (.slice A ws.length c) ws (oTL ws a h) (oTE ws a h)) := by
  have hb0 := (Below.refl w.heap.size w).alloc (Nat.le_refl _) (.cells #[.int .i64 h.kind, .int .i64 h.fields, .int .i64 h.raws, .bool h.mark, .int .i64 h.cursor] 59)
  have HB0 := Lib.hid hb0
  have HR0 := Lib.hid (Blk.new w 59 #[.int .i64 h.kind, .int .i64 h.fields, .int .i64 h.raws, .bool h.mark, .int .i64 h.cursor])
  have HA := Lib.hid hA
  have HN : Hid (Few ws.length) := hal
  have hcp := hA.cap_
  unfold maxLen at hcp
  have hH := rhead_any a hal (hA.below hb0)
  have hE := fun w => renc_any h w
  unfold Hd.cells at hE
  clear hb0
  rcases ot_cases ws a h with ⟨h0, e1, e2⟩ | ⟨h0, hm, e1, e2⟩ | ⟨h0, hm, hs, e1, e2⟩ | ⟨h0, hm, hs, e1, e2⟩
  · rw [e1, e2]
    generalize oH ws a = z at *
    generalize oE ws a = E at *
    have HK := Lib.hid hH
    have hne : (E != 0) = true := by simpa using h0
    clear hA hH hE h0 e1 e2
    go_enter Try.func127, Try.ntmps127
    go_wp2_with fail
    refine HK.out.mono ?_
    rintro e w1 ⟨rfl, hb⟩
    have HB1 := Lib.hid ((below_tr HB0.out hb).alloc (below_tr HB0.out hb).size (.cells #[.int .i64 z.kind, .int .i64 z.fields, .int .i64 z.raws, .bool z.mark, .int .i64 z.cursor] 59))
    have HR1 := Lib.hid ((HR0.out.below hb HR0.out.lt).alloc (.cells #[.int .i64 z.kind, .int .i64 z.fields, .int .i64 z.raws, .bool z.mark, .int .i64 z.cursor] 59))
    have HZ1 := Lib.hid (Blk.new w1 59 #[.int .i64 z.kind, .int .i64 z.fields, .int .i64 z.raws, .bool z.mark, .int .i64 z.cursor])
    clear hb
    go_wp2
    go_ret2
    exact RefL.same HA.out HB1.out
  · rw [e1, e2]
    rw [h0] at hH
    generalize oH ws a = z at *
    have HK := Lib.hid hH
    rw [← (enc_not hm).2] at hE
    have HE := fun w => Lib.hid (hE w)
    generalize encW h = W9 at *
    clear hA hH hE h0 e1 e2 hm
    go_enter Try.func127, Try.ntmps127
    go_wp2_with fail
    refine HK.out.mono ?_
    rintro e w1 ⟨rfl, hb⟩
    have HB1 := Lib.hid ((below_tr HB0.out hb).alloc (below_tr HB0.out hb).size (.cells #[.int .i64 z.kind, .int .i64 z.fields, .int .i64 z.raws, .bool z.mark, .int .i64 z.cursor] 59))
    have HR1 := Lib.hid ((HR0.out.below hb HR0.out.lt).alloc (.cells #[.int .i64 z.kind, .int .i64 z.fields, .int .i64 z.raws, .bool z.mark, .int .i64 z.cursor] 59))
    have HZ1 := Lib.hid (Blk.new w1 59 #[.int .i64 z.kind, .int .i64 z.fields, .int .i64 z.raws, .bool z.mark, .int .i64 z.cursor])
    clear hb
    have q0 := HR1.out.cell 0
    have q1 := HR1.out.cell 1
    have q2 := HR1.out.cell 2
    have q3 := HR1.out.cell 3
    have q4 := HR1.out.cell 4
    go_wp2_with fail
    refine (HE _).out.mono ?_
    rintro e w2 ⟨rfl, hb⟩
    have HB2 := Lib.hid (below_tr HB1.out hb)
    have HR2 := Lib.hid (HR1.out.below hb HR1.out.lt)
    have HZ2 := Lib.hid (HZ1.out.below hb HZ1.out.lt)
    clear hb q0 q1 q2 q3 q4 HR1 HZ1 HB1
    go_wp2_with fail
    go_quiet (fail)
    go_wp2
    go_ret2
    exact RefL.same HA.out (below_dr HB2.out _)
  · rw [e1, e2]
    rw [h0] at hH
    generalize oH ws a = z at *
    have HK := Lib.hid hH
    rw [← (enc_yes hm).2] at hE
    have HE := fun w => Lib.hid (hE w)
    have HSa := fun k f r m c w => Lib.hid (rsizeF_any k f r m c w)
    generalize encW h = W9 at *
    have hne : (sizeF h.kind h.fields h.raws h.mark h.cursor != sizeF z.kind z.fields z.raws z.mark z.cursor) = true := by rw [sizeF_eq, sizeF_eq]; simp; omega
    clear hA hH hE h0 e1 e2 hm hs
    go_enter Try.func127, Try.ntmps127
    go_wp2_with fail
    refine HK.out.mono ?_
    rintro e w1 ⟨rfl, hb⟩
    have HB1 := Lib.hid ((below_tr HB0.out hb).alloc (below_tr HB0.out hb).size (.cells #[.int .i64 z.kind, .int .i64 z.fields, .int .i64 z.raws, .bool z.mark, .int .i64 z.cursor] 59))
    have HR1 := Lib.hid ((HR0.out.below hb HR0.out.lt).alloc (.cells #[.int .i64 z.kind, .int .i64 z.fields, .int .i64 z.raws, .bool z.mark, .int .i64 z.cursor] 59))
    have HZ1 := Lib.hid (Blk.new w1 59 #[.int .i64 z.kind, .int .i64 z.fields, .int .i64 z.raws, .bool z.mark, .int .i64 z.cursor])
    clear hb
    have q0 := HR1.out.cell 0
    have q1 := HR1.out.cell 1
    have q2 := HR1.out.cell 2
    have q3 := HR1.out.cell 3
    have q4 := HR1.out.cell 4
    go_wp2_with fail
    refine (HE _).out.mono ?_
    rintro e w2 ⟨rfl, hb⟩
    have HB2 := Lib.hid (below_tr HB1.out hb)
    have HR2 := Lib.hid (HR1.out.below hb HR1.out.lt)
    have HZ2 := Lib.hid (HZ1.out.below hb HZ1.out.lt)
    clear hb q0 q1 q2 q3 q4 HR1 HZ1 HB1
    go_wp2_with fail
    have hS := S8.mk_ HB2.out HR2.out HZ2.out
    clear HR2 HZ2
    go_region_held3 (fun w9 => Below w.heap.size w w9 ∧ w.heap.size < w9.heap.size ∧ w1.heap.size < w9.heap.size ∧ w9.cell? ⟨w.heap.size, 0, none⟩ = some (.int .i64 h.kind) ∧ w9.cell? ⟨w.heap.size, 1, none⟩ = some (.int .i64 h.fields) ∧ w9.cell? ⟨w.heap.size, 2, none⟩ = some (.int .i64 h.raws) ∧ w9.cell? ⟨w.heap.size, 3, none⟩ = some (.bool h.mark) ∧ w9.cell? ⟨w.heap.size, 4, none⟩ = some (.int .i64 h.cursor) ∧ w9.cell? ⟨w1.heap.size, 0, none⟩ = some (.int .i64 z.kind) ∧ w9.cell? ⟨w1.heap.size, 1, none⟩ = some (.int .i64 z.fields) ∧ w9.cell? ⟨w1.heap.size, 2, none⟩ = some (.int .i64 z.raws) ∧ w9.cell? ⟨w1.heap.size, 3, none⟩ = some (.bool z.mark) ∧ w9.cell? ⟨w1.heap.size, 4, none⟩ = some (.int .i64 z.cursor)) (first | exact hS | exact S8.step (A := w) (g1 := w.heap.size) (g2 := w1.heap.size) (h := h) (z := z) (by assumption) ‹Below _ _ _›) (first
      | (go_at_call 55; refine (HSa _ _ _ _ _ _).out.mono ?_; rintro e w' ⟨rfl, hb⟩))
    all_goals
      go_wp2
      go_ret2
      exact RefL.same HA.out (S8.below (A := w) (g1 := w.heap.size) (g2 := w1.heap.size) (h := h) (z := z) (by assumption))
  · rw [e1, e2]
    rw [h0] at hH
    have hbd := oE_zero hA.fit h0
    obtain ⟨K, rfl⟩ := Int.eq_ofNat_of_zero_le hbd.1
    have hKl : K < ws.length := by omega
    have hi1 : (K : Int) < (ws.length : Int) := by omega
    rw [Int.toNat_natCast]
    clear hbd
    rw [← (enc_yes hm).2, ← (enc_yes hm).1] at hE
    have HU : Hid (U64 (encI h)) := encI_bd hm
    generalize oH ws (K : Int) = z at *
    have HK := Lib.hid hH
    have HE := fun w => Lib.hid (hE w)
    have HSa := fun k f r m c w => Lib.hid (rsizeF_any k f r m c w)
    generalize encI h = W9 at *
    have hne : (sizeF h.kind h.fields h.raws h.mark h.cursor != sizeF z.kind z.fields z.raws z.mark z.cursor) = false := by rw [sizeF_eq, sizeF_eq]; simp; omega
    clear hA hH hE h0 e1 e2 hm hs
    go_enter Try.func127, Try.ntmps127
    go_wp2_with fail
    refine HK.out.mono ?_
    rintro e w1 ⟨rfl, hb⟩
    have HB1 := Lib.hid ((below_tr HB0.out hb).alloc (below_tr HB0.out hb).size (.cells #[.int .i64 z.kind, .int .i64 z.fields, .int .i64 z.raws, .bool z.mark, .int .i64 z.cursor] 59))
    have HR1 := Lib.hid ((HR0.out.below hb HR0.out.lt).alloc (.cells #[.int .i64 z.kind, .int .i64 z.fields, .int .i64 z.raws, .bool z.mark, .int .i64 z.cursor] 59))
    have HZ1 := Lib.hid (Blk.new w1 59 #[.int .i64 z.kind, .int .i64 z.fields, .int .i64 z.raws, .bool z.mark, .int .i64 z.cursor])
    clear hb
    have q0 := HR1.out.cell 0
    have q1 := HR1.out.cell 1
    have q2 := HR1.out.cell 2
    have q3 := HR1.out.cell 3
    have q4 := HR1.out.cell 4
    go_wp2_with fail
    refine (HE _).out.mono ?_
    rintro e w2 ⟨rfl, hb⟩
    have HB2 := Lib.hid (below_tr HB1.out hb)
    have HR2 := Lib.hid (HR1.out.below hb HR1.out.lt)
    have HZ2 := Lib.hid (HZ1.out.below hb HZ1.out.lt)
    clear hb q0 q1 q2 q3 q4 HR1 HZ1 HB1
    go_wp2_with fail
    have hS := S8.mk_ HB2.out HR2.out HZ2.out
    clear HR2 HZ2
    go_region_held3 (fun w9 => Below w.heap.size w w9 ∧ w.heap.size < w9.heap.size ∧ w1.heap.size < w9.heap.size ∧ w9.cell? ⟨w.heap.size, 0, none⟩ = some (.int .i64 h.kind) ∧ w9.cell? ⟨w.heap.size, 1, none⟩ = some (.int .i64 h.fields) ∧ w9.cell? ⟨w.heap.size, 2, none⟩ = some (.int .i64 h.raws) ∧ w9.cell? ⟨w.heap.size, 3, none⟩ = some (.bool h.mark) ∧ w9.cell? ⟨w.heap.size, 4, none⟩ = some (.int .i64 h.cursor) ∧ w9.cell? ⟨w1.heap.size, 0, none⟩ = some (.int .i64 z.kind) ∧ w9.cell? ⟨w1.heap.size, 1, none⟩ = some (.int .i64 z.fields) ∧ w9.cell? ⟨w1.heap.size, 2, none⟩ = some (.int .i64 z.raws) ∧ w9.cell? ⟨w1.heap.size, 3, none⟩ = some (.bool z.mark) ∧ w9.cell? ⟨w1.heap.size, 4, none⟩ = some (.int .i64 z.cursor)) (first | exact hS | exact S8.step (A := w) (g1 := w.heap.size) (g2 := w1.heap.size) (h := h) (z := z) (by assumption) ‹Below _ _ _›) (first
      | (go_at_call 55; refine (HSa _ _ _ _ _ _).out.mono ?_; rintro e w' ⟨rfl, hb⟩))
    all_goals
      go_wp2_with (at_builtin; refine wpList_clone_words rfl (.tmp 37) (.tmp 38) rfl _ rfl A ws.length c rfl ws (HA.out.below (S8.below (A := w) (g1 := w.heap.size) (g2 := w1.heap.size) (h := h) (z := z) (by assumption))) HN.out ?_; intro A' c' wx hown hbx; have HBX := Lib.hid (below_tr (S8.below (A := w) (g1 := w.heap.size) (g2 := w1.heap.size) (h := h) (z := z) (by assumption)) hbx); have HSZ := Lib.hid (tr_size (S8.below (A := w) (g1 := w.heap.size) (g2 := w1.heap.size) (h := h) (z := z) (by assumption)) hbx); clear hbx; obtain ⟨g, cap, e, hg1, hg2⟩ := hown.form (by omega); injection e with e1 e2 e3; subst e1 e3; have hcw := hown.cellAt K (by omega); rw [wds_get _ _ hKl] at hcw; have hfz := hown.frozenAt K; have HST := Lib.hid (hown.stored K (.int .u64 W9)); have HG := Lib.hid (Nat.le_trans HSZ.out hg1); clear hown hg1 hg2)
      go_ret2
      exact RefL.new_ (by simp) (by have := HST.out.1; rw [wds_set] at this; exact this) (HA.out.fit.set K HU.out) (HBX.out.setCell HG.out _) HSZ.out

end Go.Proofs.Ytcljgphipdbckaa
