/- The walks of layer 8 (objects), fourth part: SetHead. -/
import Derived.Test.YtcljgphipdbckaaW08c
import Derived.Deep.RegionHeld3
namespace Go.Proofs.Ytcljgphipdbckaa
set_option linter.unusedVariables false
set_option linter.unusedSimpArgs false
open Go.RowKit

/-- a list that a reference hands back behind other calls -/
def RefL (w : World) (v : Value) (us ws : List Int) (E : Int) (e : Ending) (w' : World) : Prop :=
  ∃ A n c, e = .returned (.tuple #[.slice A n c, .int .i64 E]) ∧ Rw w' (.slice A n c) ws ∧ n = ws.length ∧ Below w.heap.size w w' ∧ (.slice A n c = v ∧ ws = us ∨ w'.ownsRow w.heap.size 22 1 (.slice A n c) n (wds ws))
theorem RefL.same {w w' : World} {A : Option Addr} {c : Nat} {ws : List Int} {E : Int} (h : Rw w (.slice A ws.length c) ws) (hb : Below w.heap.size w w') : RefL w (.slice A ws.length c) ws ws E (.returned (.tuple #[.slice A ws.length c, .int .i64 E])) w' :=
  ⟨A, _, c, rfl, h.below hb, rfl, hb, .inl ⟨rfl, rfl⟩⟩
theorem RefL.new_ {w w' : World} {v : Value} {A : Option Addr} {n c B : Nat} {us ws : List Int} {E : Int} (hn : n = ws.length) (h : w'.ownsRow B 22 1 (.slice A n c) n (wds ws)) (hf : AllU ws) (hb : Below w.heap.size w w') (hB : w.heap.size ≤ B := by omega) :
    RefL w v us ws E (.returned (.tuple #[.slice A n c, .int .i64 E])) w' := by
  subst hn
  have h' : w'.ownsRow w.heap.size 22 1 (.slice A ws.length c) ws.length (wds ws) := by
    rcases h with ⟨h1, h2 | ⟨g, cap, cur, e, h3, h4⟩⟩
    · exact ⟨h1, .inl h2⟩
    · exact ⟨h1, .inr ⟨g, cap, cur, e, Nat.le_trans hB h3, h4⟩⟩
  exact ⟨A, _, c, rfl, Rw.of_own h' hf, rfl, hb, .inr h'⟩
theorem tr_size {A w w' : World} (h : Below A.heap.size A w) (h2 : Below w.heap.size w w') : A.heap.size ≤ w.heap.size := h.size
def sizeF (k f r : Int) (m : Bool) (c : Int) : Int := sizeI ⟨k, f, r, m, c⟩
theorem sizeF_eq (h : Hd) : sizeF h.kind h.fields h.raws h.mark h.cursor = sizeI h := rfl
theorem sizeF_any (k f r : Int) (m : Bool) (c : Int) (W : World) : Calls Try.prog 54 #[.agg #[.int .i64 k, .int .i64 f, .int .i64 r, .bool m, .int .i64 c]] W (Out W (.int .i64 (sizeF k f r m c))) := size_any ⟨k, f, r, m, c⟩ W
theorem rsizeF_any (k f r : Int) (m : Bool) (c : Int) (W : World) : Calls Try.prog 55 #[.agg #[.int .i64 k, .int .i64 f, .int .i64 r, .bool m, .int .i64 c]] W (Out W (.int .i64 (sizeF k f r m c))) := rsize_any ⟨k, f, r, m, c⟩ W
attribute [irreducible] sizeF

def S8 (A : World) (g1 g2 : Nat) (h z : Hd) (w : World) : Prop :=
  Below A.heap.size A w ∧ g1 < w.heap.size ∧ g2 < w.heap.size ∧ w.cell? ⟨g1, 0, none⟩ = some (.int .i64 h.kind) ∧ w.cell? ⟨g1, 1, none⟩ = some (.int .i64 h.fields) ∧ w.cell? ⟨g1, 2, none⟩ = some (.int .i64 h.raws) ∧ w.cell? ⟨g1, 3, none⟩ = some (.bool h.mark) ∧ w.cell? ⟨g1, 4, none⟩ = some (.int .i64 h.cursor) ∧ w.cell? ⟨g2, 0, none⟩ = some (.int .i64 z.kind) ∧ w.cell? ⟨g2, 1, none⟩ = some (.int .i64 z.fields) ∧ w.cell? ⟨g2, 2, none⟩ = some (.int .i64 z.raws) ∧ w.cell? ⟨g2, 3, none⟩ = some (.bool z.mark) ∧ w.cell? ⟨g2, 4, none⟩ = some (.int .i64 z.cursor)
theorem S8.below {A w : World} {g1 g2 : Nat} {h z : Hd} (s : S8 A g1 g2 h z w) : Below A.heap.size A w := s.1
theorem S8.step {A w w' : World} {g1 g2 : Nat} {h z : Hd} (s : S8 A g1 g2 h z w) (hb : Below w.heap.size w w') : S8 A g1 g2 h z w' := by
  have c : ∀ (g i : Nat) (v : Value), g < w.heap.size → w.cell? ⟨g, i, none⟩ = some v → w'.cell? ⟨g, i, none⟩ = some v := fun g i v hg hv => by rw [hb.cell (p := ⟨g, i, none⟩) hg]; exact hv
  obtain ⟨s0, s1, s2, a0, a1, a2, a3, a4, a5, a6, a7, a8, a9⟩ := s
  exact ⟨below_tr s0 hb, Nat.lt_of_lt_of_le s1 hb.size, Nat.lt_of_lt_of_le s2 hb.size, c _ _ _ s1 a0, c _ _ _ s1 a1, c _ _ _ s1 a2, c _ _ _ s1 a3, c _ _ _ s1 a4, c _ _ _ s2 a5, c _ _ _ s2 a6, c _ _ _ s2 a7, c _ _ _ s2 a8, c _ _ _ s2 a9⟩
theorem S8.mk_ {A w : World} {g1 g2 : Nat} {h z : Hd} (hb : Below A.heap.size A w) (b1 : Blk w g1 59 #[.int .i64 h.kind, .int .i64 h.fields, .int .i64 h.raws, .bool h.mark, .int .i64 h.cursor]) (b2 : Blk w g2 59 #[.int .i64 z.kind, .int .i64 z.fields, .int .i64 z.raws, .bool z.mark, .int .i64 z.cursor]) : S8 A g1 g2 h z w.drew :=
  ⟨below_dr hb 1, b1.lt, b2.lt, b1.drew.cell 0, b1.drew.cell 1, b1.drew.cell 2, b1.drew.cell 3, b1.drew.cell 4, b2.drew.cell 0, b2.drew.cell 1, b2.drew.cell 2, b2.drew.cell 3, b2.drew.cell 4⟩

set_option maxRecDepth 100000 in
set_option maxHeartbeats 6400000 in
theorem sethead_ar {w : World} {B p : Nat} {v : Value} {ws : List Int} (a : Int) (h : Hd) (ha0 : -9223372036854775808 ≤ a) (hal : ws.length ≤ 1000000) (hA : Ar w B p v ws) : Calls Try.prog 82 #[.pointer (some ⟨p, 0, none⟩), .int .i64 a, .agg #[.int .i64 h.kind, .int .i64 h.fields, .int .i64 h.raws, .bool h.mark, .int .i64 h.cursor]] w (fun e w' => e = .returned (.int .i64 (oTE ws a h)) ∧ Turned w B p v (oTL ws a h) w') := by
  have hb0 := (Below.refl w.heap.size w).alloc (Nat.le_refl _) (.cells #[.int .i64 h.kind, .int .i64 h.fields, .int .i64 h.raws, .bool h.mark, .int .i64 h.cursor] 59)
  have HB0 := Lib.hid hb0
  have HR0 := Lib.hid (Blk.new w 59 #[.int .i64 h.kind, .int .i64 h.fields, .int .i64 h.raws, .bool h.mark, .int .i64 h.cursor])
  have HA := Lib.hid hA
  
  have hH := head_ar a ha0 hal (hA.below hb0)
  have hE := fun w => enc_core h w
  unfold Hd.cells at hE
  clear hb0
  rcases ot_cases ws a h with ⟨h0, e1, e2⟩ | ⟨h0, hm, e1, e2⟩ | ⟨h0, hm, hs, e1, e2⟩ | ⟨h0, hm, hs, e1, e2⟩
  · rw [e1, e2]
    generalize oH ws a = z at *
    generalize oE ws a = E at *
    have HK := Lib.hid hH
    have hne : (E != 0) = true := by simpa using h0
    clear hA hH hE h0 e1 e2
    go_enter Try.func82, Try.ntmps82
    go_wp2_with fail
    refine HK.out.mono ?_
    rintro e w1 ⟨rfl, hb⟩
    have HB1 := Lib.hid ((below_tr HB0.out hb).alloc (below_tr HB0.out hb).size (.cells #[.int .i64 z.kind, .int .i64 z.fields, .int .i64 z.raws, .bool z.mark, .int .i64 z.cursor] 59))
    have HR1 := Lib.hid ((HR0.out.below hb HR0.out.lt).alloc (.cells #[.int .i64 z.kind, .int .i64 z.fields, .int .i64 z.raws, .bool z.mark, .int .i64 z.cursor] 59))
    have HZ1 := Lib.hid (Blk.new w1 59 #[.int .i64 z.kind, .int .i64 z.fields, .int .i64 z.raws, .bool z.mark, .int .i64 z.cursor])
    clear hb
    go_wp2
    go_ret
    exact ⟨rfl, turned_of HB1.out (Turned.same (HA.out.below HB1.out))⟩
  · rw [e1, e2]
    rw [h0] at hH
    generalize oH ws a = z at *
    have HK := Lib.hid hH
    rw [← (enc_not hm).2] at hE
    have HE := fun w => Lib.hid (hE w)
    generalize encW h = W9 at *
    clear hA hH hE h0 e1 e2 hm
    go_enter Try.func82, Try.ntmps82
    go_wp2_with fail
    refine HK.out.mono ?_
    rintro e w1 ⟨rfl, hb⟩
    have HB1 := Lib.hid ((below_tr HB0.out hb).alloc (below_tr HB0.out hb).size (.cells #[.int .i64 z.kind, .int .i64 z.fields, .int .i64 z.raws, .bool z.mark, .int .i64 z.cursor] 59))
    have HR1 := Lib.hid ((HR0.out.below hb HR0.out.lt).alloc (.cells #[.int .i64 z.kind, .int .i64 z.fields, .int .i64 z.raws, .bool z.mark, .int .i64 z.cursor] 59))
    have HZ1 := Lib.hid (Blk.new w1 59 #[.int .i64 z.kind, .int .i64 z.fields, .int .i64 z.raws, .bool z.mark, .int .i64 z.cursor])
    clear hb
    have q0 := HR1.out.cell 0
    have q1 := HR1.out.cell 1
    have q2 := HR1.out.cell 2
    have q3 := HR1.out.cell 3
    have q4 := HR1.out.cell 4
    go_wp2_with fail
    refine (HE _).out.mono ?_
    rintro e w2 ⟨rfl, hb⟩
    have HB2 := Lib.hid (below_tr HB1.out hb)
    have HR2 := Lib.hid (HR1.out.below hb HR1.out.lt)
    have HZ2 := Lib.hid (HZ1.out.below hb HZ1.out.lt)
    clear hb q0 q1 q2 q3 q4 HR1 HZ1 HB1
    go_wp2_with fail
    go_quiet (fail)
    go_wp2
    go_ret
    exact ⟨rfl, turned_of (below_dr HB2.out _) (Turned.same (HA.out.below (below_dr HB2.out _)))⟩
  · rw [e1, e2]
    rw [h0] at hH
    generalize oH ws a = z at *
    have HK := Lib.hid hH
    rw [← (enc_yes hm).2] at hE
    have HE := fun w => Lib.hid (hE w)
    have HSa := fun k f r m c w => Lib.hid (sizeF_any k f r m c w)
    generalize encW h = W9 at *
    have hne : (sizeF z.kind z.fields z.raws z.mark z.cursor != sizeF h.kind h.fields h.raws h.mark h.cursor) = true := by rw [sizeF_eq, sizeF_eq]; simp; omega
    clear hA hH hE h0 e1 e2 hm hs
    go_enter Try.func82, Try.ntmps82
    go_wp2_with fail
    refine HK.out.mono ?_
    rintro e w1 ⟨rfl, hb⟩
    have HB1 := Lib.hid ((below_tr HB0.out hb).alloc (below_tr HB0.out hb).size (.cells #[.int .i64 z.kind, .int .i64 z.fields, .int .i64 z.raws, .bool z.mark, .int .i64 z.cursor] 59))
    have HR1 := Lib.hid ((HR0.out.below hb HR0.out.lt).alloc (.cells #[.int .i64 z.kind, .int .i64 z.fields, .int .i64 z.raws, .bool z.mark, .int .i64 z.cursor] 59))
    have HZ1 := Lib.hid (Blk.new w1 59 #[.int .i64 z.kind, .int .i64 z.fields, .int .i64 z.raws, .bool z.mark, .int .i64 z.cursor])
    clear hb
    have q0 := HR1.out.cell 0
    have q1 := HR1.out.cell 1
    have q2 := HR1.out.cell 2
    have q3 := HR1.out.cell 3
    have q4 := HR1.out.cell 4
    go_wp2_with fail
    refine (HE _).out.mono ?_
    rintro e w2 ⟨rfl, hb⟩
    have HB2 := Lib.hid (below_tr HB1.out hb)
    have HR2 := Lib.hid (HR1.out.below hb HR1.out.lt)
    have HZ2 := Lib.hid (HZ1.out.below hb HZ1.out.lt)
    clear hb q0 q1 q2 q3 q4 HR1 HZ1 HB1
    go_wp2_with fail
    have hS := S8.mk_ HB2.out HR2.out HZ2.out
    clear HR2 HZ2
    go_region_held3 (fun w9 => Below w.heap.size w w9 ∧ w.heap.size < w9.heap.size ∧ w1.heap.size < w9.heap.size ∧ w9.cell? ⟨w.heap.size, 0, none⟩ = some (.int .i64 h.kind) ∧ w9.cell? ⟨w.heap.size, 1, none⟩ = some (.int .i64 h.fields) ∧ w9.cell? ⟨w.heap.size, 2, none⟩ = some (.int .i64 h.raws) ∧ w9.cell? ⟨w.heap.size, 3, none⟩ = some (.bool h.mark) ∧ w9.cell? ⟨w.heap.size, 4, none⟩ = some (.int .i64 h.cursor) ∧ w9.cell? ⟨w1.heap.size, 0, none⟩ = some (.int .i64 z.kind) ∧ w9.cell? ⟨w1.heap.size, 1, none⟩ = some (.int .i64 z.fields) ∧ w9.cell? ⟨w1.heap.size, 2, none⟩ = some (.int .i64 z.raws) ∧ w9.cell? ⟨w1.heap.size, 3, none⟩ = some (.bool z.mark) ∧ w9.cell? ⟨w1.heap.size, 4, none⟩ = some (.int .i64 z.cursor)) (first | exact hS | exact S8.step (A := w) (g1 := w.heap.size) (g2 := w1.heap.size) (h := h) (z := z) (by assumption) ‹Below _ _ _›) (first
      | (go_at_call 54; refine (HSa _ _ _ _ _ _).out.mono ?_; rintro e w' ⟨rfl, hb⟩))
    all_goals
      go_wp2
      go_ret
      exact ⟨rfl, turned_of (S8.below (A := w) (g1 := w.heap.size) (g2 := w1.heap.size) (h := h) (z := z) (by assumption)) (Turned.same (HA.out.below (S8.below (A := w) (g1 := w.heap.size) (g2 := w1.heap.size) (h := h) (z := z) (by assumption))))⟩
  · rw [e1, e2]
    rw [h0] at hH
    have hbd := oE_zero hA.fit h0
    have hin : inB ws.length a = true := inB_mk hbd.1 hbd.2.1
    have HW : ∀ w9, Below w.heap.size w w9 → Hid (Calls Try.prog 37 #[.pointer (some ⟨p, 0, none⟩), .int .i64 a, .int .u64 (encI h)] w9 fun e w' => e = .returned (.int .i64 0) ∧ Turned w B p v (ws.set a.toNat (encI h)) w') := fun w9 hb => by
      have hk := write_ar a (encI h) (HA.out.below hb) (encI_bd hm)
      rw [atE_yes hin, wrL_yes _ hin] at hk
      exact hk.mono fun e w' t => ⟨t.1, turned_of hb t.2⟩
    clear hbd hin
    rw [← (enc_yes hm).2, ← (enc_yes hm).1] at hE
    have HU : Hid (U64 (encI h)) := encI_bd hm
    generalize oH ws a = z at *
    have HK := Lib.hid hH
    have HE := fun w => Lib.hid (hE w)
    have HSa := fun k f r m c w => Lib.hid (sizeF_any k f r m c w)
    generalize encI h = W9 at *
    have hne : (sizeF z.kind z.fields z.raws z.mark z.cursor != sizeF h.kind h.fields h.raws h.mark h.cursor) = false := by rw [sizeF_eq, sizeF_eq]; simp; omega
    clear hA hH hE h0 e1 e2 hm hs
    go_enter Try.func82, Try.ntmps82
    go_wp2_with fail
    refine HK.out.mono ?_
    rintro e w1 ⟨rfl, hb⟩
    have HB1 := Lib.hid ((below_tr HB0.out hb).alloc (below_tr HB0.out hb).size (.cells #[.int .i64 z.kind, .int .i64 z.fields, .int .i64 z.raws, .bool z.mark, .int .i64 z.cursor] 59))
    have HR1 := Lib.hid ((HR0.out.below hb HR0.out.lt).alloc (.cells #[.int .i64 z.kind, .int .i64 z.fields, .int .i64 z.raws, .bool z.mark, .int .i64 z.cursor] 59))
    have HZ1 := Lib.hid (Blk.new w1 59 #[.int .i64 z.kind, .int .i64 z.fields, .int .i64 z.raws, .bool z.mark, .int .i64 z.cursor])
    clear hb
    have q0 := HR1.out.cell 0
    have q1 := HR1.out.cell 1
    have q2 := HR1.out.cell 2
    have q3 := HR1.out.cell 3
    have q4 := HR1.out.cell 4
    go_wp2_with fail
    refine (HE _).out.mono ?_
    rintro e w2 ⟨rfl, hb⟩
    have HB2 := Lib.hid (below_tr HB1.out hb)
    have HR2 := Lib.hid (HR1.out.below hb HR1.out.lt)
    have HZ2 := Lib.hid (HZ1.out.below hb HZ1.out.lt)
    clear hb q0 q1 q2 q3 q4 HR1 HZ1 HB1
    go_wp2_with fail
    have hS := S8.mk_ HB2.out HR2.out HZ2.out
    clear HR2 HZ2
    go_region_held3 (fun w9 => Below w.heap.size w w9 ∧ w.heap.size < w9.heap.size ∧ w1.heap.size < w9.heap.size ∧ w9.cell? ⟨w.heap.size, 0, none⟩ = some (.int .i64 h.kind) ∧ w9.cell? ⟨w.heap.size, 1, none⟩ = some (.int .i64 h.fields) ∧ w9.cell? ⟨w.heap.size, 2, none⟩ = some (.int .i64 h.raws) ∧ w9.cell? ⟨w.heap.size, 3, none⟩ = some (.bool h.mark) ∧ w9.cell? ⟨w.heap.size, 4, none⟩ = some (.int .i64 h.cursor) ∧ w9.cell? ⟨w1.heap.size, 0, none⟩ = some (.int .i64 z.kind) ∧ w9.cell? ⟨w1.heap.size, 1, none⟩ = some (.int .i64 z.fields) ∧ w9.cell? ⟨w1.heap.size, 2, none⟩ = some (.int .i64 z.raws) ∧ w9.cell? ⟨w1.heap.size, 3, none⟩ = some (.bool z.mark) ∧ w9.cell? ⟨w1.heap.size, 4, none⟩ = some (.int .i64 z.cursor)) (first | exact hS | exact S8.step (A := w) (g1 := w.heap.size) (g2 := w1.heap.size) (h := h) (z := z) (by assumption) ‹Below _ _ _›) (first
      | (go_at_call 54; refine (HSa _ _ _ _ _ _).out.mono ?_; rintro e w' ⟨rfl, hb⟩))
    all_goals
      go_wp2_with fail
      refine (HW _ (S8.below (A := w) (g1 := w.heap.size) (g2 := w1.heap.size) (h := h) (z := z) (by assumption))).out.mono ?_
      rintro e w9 ⟨rfl, ht⟩
      have HT := Lib.hid ht
      clear ht
      go_wp2
      go_ret
      exact ⟨rfl, HT.out⟩

set_option maxHeartbeats 1600000 in
theorem sethead_no (v : Value) (w : World) (a : Int) (h : Hd) (hA : NoAr w v) : Calls Try.prog 82 #[v, .int .i64 a, .agg #[.int .i64 h.kind, .int .i64 h.fields, .int .i64 h.raws, .bool h.mark, .int .i64 h.cursor]] w (Out w (.int .i64 10)) := by
  have hb0 := (Below.refl w.heap.size w).alloc (Nat.le_refl _) (.cells #[.int .i64 h.kind, .int .i64 h.fields, .int .i64 h.raws, .bool h.mark, .int .i64 h.cursor] 59)
  have HB0 := Lib.hid hb0
  have HK := Lib.hid (head_no v _ a (hA.below hb0))
  clear hA hb0
  go_enter Try.func82, Try.ntmps82
  go_wp2_with fail
  refine HK.out.mono ?_
  rintro e w1 ⟨rfl, hb⟩
  have HB1 := Lib.hid ((below_tr HB0.out hb).alloc (below_tr HB0.out hb).size (.cells #[.int .i64 0, .int .i64 0, .int .i64 0, .bool false, .int .i64 0] 59))
  clear hb
  go_wp2
  go_ret
  exact ⟨rfl, HB1.out⟩

end Go.Proofs.Ytcljgphipdbckaa
