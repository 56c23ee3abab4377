/- The walk of HeadWords. -/
import Derived.Test.YtcljgphipdbckaaL07
import Derived.Deep.RegionHeld3
namespace Go.Proofs.Ytcljgphipdbckaa
set_option linter.unusedVariables false
set_option linter.unusedSimpArgs false
open Go.RowKit

/-- what the last statement's reads want of a world -/
def S9 (A : World) (g1 g2 g3 : Nat) (h z : Hd) (w : World) : Prop :=
  Below A.heap.size A w ∧ g1 < w.heap.size ∧ g2 < w.heap.size ∧ g3 < w.heap.size ∧ w.cell? ⟨g1, 0, none⟩ = some (.int .i64 h.kind) ∧ w.cell? ⟨g1, 1, none⟩ = some (.int .i64 h.fields) ∧ w.cell? ⟨g1, 2, none⟩ = some (.int .i64 h.raws) ∧ w.cell? ⟨g1, 3, none⟩ = some (.bool h.mark) ∧ w.cell? ⟨g1, 4, none⟩ = some (.int .i64 h.cursor) ∧ w.cell? ⟨g2, 0, none⟩ = some (.int .i64 z.kind) ∧ w.cell? ⟨g2, 1, none⟩ = some (.int .i64 z.fields) ∧ w.cell? ⟨g2, 2, none⟩ = some (.int .i64 z.raws) ∧ w.cell? ⟨g2, 3, none⟩ = some (.bool z.mark) ∧ w.cell? ⟨g2, 4, none⟩ = some (.int .i64 z.cursor) ∧ w.cell? ⟨g3, 0, none⟩ = some (.int .i64 z.kind) ∧ w.cell? ⟨g3, 1, none⟩ = some (.int .i64 z.fields) ∧ w.cell? ⟨g3, 2, none⟩ = some (.int .i64 z.raws) ∧ w.cell? ⟨g3, 3, none⟩ = some (.bool z.mark) ∧ w.cell? ⟨g3, 4, none⟩ = some (.int .i64 z.cursor)

theorem S9.below {A w : World} {g1 g2 g3 : Nat} {h z : Hd} (s : S9 A g1 g2 g3 h z w) : Below A.heap.size A w := s.1
theorem S9.step {A w w' : World} {g1 g2 g3 : Nat} {h z : Hd} (s : S9 A g1 g2 g3 h z w) (hb : Below w.heap.size w w') : S9 A g1 g2 g3 h z w' := by
  have c : ∀ (g i : Nat) (v : Value), g < w.heap.size → w.cell? ⟨g, i, none⟩ = some v → w'.cell? ⟨g, i, none⟩ = some v := fun g i v hg hv => by rw [hb.cell (p := ⟨g, i, none⟩) hg]; exact hv
  obtain ⟨s0, s1, s2, s3, a0, a1, a2, a3, a4, a5, a6, a7, a8, a9, a10, a11, a12, a13, a14⟩ := s
  exact ⟨below_tr s0 hb, Nat.lt_of_lt_of_le s1 hb.size, Nat.lt_of_lt_of_le s2 hb.size, Nat.lt_of_lt_of_le s3 hb.size, c _ _ _ s1 a0, c _ _ _ s1 a1, c _ _ _ s1 a2, c _ _ _ s1 a3, c _ _ _ s1 a4, c _ _ _ s2 a5, c _ _ _ s2 a6, c _ _ _ s2 a7, c _ _ _ s2 a8, c _ _ _ s2 a9, c _ _ _ s3 a10, c _ _ _ s3 a11, c _ _ _ s3 a12, c _ _ _ s3 a13, c _ _ _ s3 a14⟩
theorem S9.mk_ {A w : World} {g1 g2 g3 : Nat} {h z : Hd} (hb : Below A.heap.size A w) (b1 : Blk w g1 59 #[.int .i64 h.kind, .int .i64 h.fields, .int .i64 h.raws, .bool h.mark, .int .i64 h.cursor]) (b2 : Blk w g2 59 #[.int .i64 z.kind, .int .i64 z.fields, .int .i64 z.raws, .bool z.mark, .int .i64 z.cursor]) (b3 : Blk w g3 59 #[.int .i64 z.kind, .int .i64 z.fields, .int .i64 z.raws, .bool z.mark, .int .i64 z.cursor]) : S9 A g1 g2 g3 h z w.drew :=
  ⟨below_dr hb 1, b1.lt, b2.lt, b3.lt, b1.drew.cell 0, b1.drew.cell 1, b1.drew.cell 2, b1.drew.cell 3, b1.drew.cell 4, b2.drew.cell 0, b2.drew.cell 1, b2.drew.cell 2, b2.drew.cell 3, b2.drew.cell 4, b3.drew.cell 0, b3.drew.cell 1, b3.drew.cell 2, b3.drew.cell 3, b3.drew.cell 4⟩

set_option maxRecDepth 100000 in
set_option maxHeartbeats 6400000 in
theorem headWords_core (h z : Hd) (w x xw xe ze fx fe rv sz : Int) (rb : Bool) (W : World)
    (cE : Hid (∀ W, Calls Try.prog 46 #[.agg #[.int .i64 h.kind, .int .i64 h.fields, .int .i64 h.raws, .bool h.mark, .int .i64 h.cursor]] W (Out W (.tuple #[.int .u64 xw, .int .i64 xe]))))
    (cR : Hid (∀ W, Calls Try.prog 47 #[.agg #[.int .i64 h.kind, .int .i64 h.fields, .int .i64 h.raws, .bool h.mark, .int .i64 h.cursor]] W (Out W (.tuple #[.int .u64 xw, .int .i64 xe]))))
    (cD : Hid (∀ W, Calls Try.prog 48 #[.int .u64 w] W (Out W (.tuple #[.agg #[.int .i64 z.kind, .int .i64 z.fields, .int .i64 z.raws, .bool z.mark, .int .i64 z.cursor], .int .i64 ze]))))
    (cG : Hid (∀ W, Calls Try.prog 49 #[.int .u64 w] W (Out W (.tuple #[.agg #[.int .i64 z.kind, .int .i64 z.fields, .int .i64 z.raws, .bool z.mark, .int .i64 z.cursor], .int .i64 ze]))))
    (cF : Hid (∀ W, Calls Try.prog 50 #[.int .i64 x] W (Out W (.tuple #[.int .u64 fx, .int .i64 fe]))))
    (cH : Hid (∀ W, Calls Try.prog 51 #[.int .i64 x] W (Out W (.tuple #[.int .u64 fx, .int .i64 fe]))))
    (cV : Hid (∀ W, Calls Try.prog 52 #[.int .u64 w] W (Out W (.tuple #[.int .i64 rv, .bool rb]))))
    (cU : Hid (∀ W, Calls Try.prog 53 #[.int .u64 w] W (Out W (.tuple #[.int .i64 rv, .bool rb]))))
    (cS : Hid (∀ W, Calls Try.prog 54 #[.agg #[.int .i64 h.kind, .int .i64 h.fields, .int .i64 h.raws, .bool h.mark, .int .i64 h.cursor]] W (Out W (.int .i64 sz))))
    (cT : Hid (∀ W, Calls Try.prog 55 #[.agg #[.int .i64 h.kind, .int .i64 h.fields, .int .i64 h.raws, .bool h.mark, .int .i64 h.cursor]] W (Out W (.int .i64 sz)))) :
    Calls Try.prog 9 #[.agg #[.int .i64 h.kind, .int .i64 h.fields, .int .i64 h.raws, .bool h.mark, .int .i64 h.cursor], .int .u64 w, .int .i64 x] W
      fun e w' => e = .returned (.bool true) ∧ Below W.heap.size W w' := by
  have HA0 := Lib.hid (Blk.new W 59 #[.int .i64 h.kind, .int .i64 h.fields, .int .i64 h.raws, .bool h.mark, .int .i64 h.cursor])
  have HW0 := Lib.hid ((Below.refl W.heap.size W).alloc (Nat.le_refl _) (.cells #[.int .i64 h.kind, .int .i64 h.fields, .int .i64 h.raws, .bool h.mark, .int .i64 h.cursor] 59))
  go_enter Try.func9, Try.ntmps9
  go_wp2_with fail
  refine (cE.out _).mono ?_
  rintro e w1 ⟨rfl, hb⟩
  have HA1 := Lib.hid (HA0.out.below hb HA0.out.lt)
  have HW1 := Lib.hid (below_tr HW0.out hb)
  have q0 := HA1.out.cell 0
  have q1 := HA1.out.cell 1
  have q2 := HA1.out.cell 2
  have q3 := HA1.out.cell 3
  have q4 := HA1.out.cell 4
  clear hb HA0 HW0
  go_wp2_with fail
  refine (cR.out _).mono ?_
  rintro e w2 ⟨rfl, hb⟩
  have HA2 := Lib.hid (HA1.out.below hb HA1.out.lt)
  have HW2 := Lib.hid (below_tr HW1.out hb)
  clear hb HA1 HW1 q0 q1 q2 q3 q4
  go_wp2_with fail
  refine (cD.out _).mono ?_
  rintro e w3 ⟨rfl, hb⟩
  have HA3 := Lib.hid ((HA2.out.below hb HA2.out.lt).alloc (.cells #[.int .i64 z.kind, .int .i64 z.fields, .int .i64 z.raws, .bool z.mark, .int .i64 z.cursor] 59))
  have HZ3 := Lib.hid (Blk.new w3 59 #[.int .i64 z.kind, .int .i64 z.fields, .int .i64 z.raws, .bool z.mark, .int .i64 z.cursor])
  have HW3 := Lib.hid ((below_tr HW2.out hb).alloc (below_tr HW2.out hb).size (.cells #[.int .i64 z.kind, .int .i64 z.fields, .int .i64 z.raws, .bool z.mark, .int .i64 z.cursor] 59))
  clear hb HA2 HW2
  go_wp2_with fail
  refine (cG.out _).mono ?_
  rintro e w4 ⟨rfl, hb⟩
  have HA4 := Lib.hid ((HA3.out.below hb HA3.out.lt).alloc (.cells #[.int .i64 z.kind, .int .i64 z.fields, .int .i64 z.raws, .bool z.mark, .int .i64 z.cursor] 59))
  have HZ4 := Lib.hid ((HZ3.out.below hb HZ3.out.lt).alloc (.cells #[.int .i64 z.kind, .int .i64 z.fields, .int .i64 z.raws, .bool z.mark, .int .i64 z.cursor] 59))
  have HY4 := Lib.hid (Blk.new w4 59 #[.int .i64 z.kind, .int .i64 z.fields, .int .i64 z.raws, .bool z.mark, .int .i64 z.cursor])
  have HW4 := Lib.hid ((below_tr HW3.out hb).alloc (below_tr HW3.out hb).size (.cells #[.int .i64 z.kind, .int .i64 z.fields, .int .i64 z.raws, .bool z.mark, .int .i64 z.cursor] 59))
  clear hb HA3 HZ3 HW3
  go_wp2_with fail
  refine (cF.out _).mono ?_
  rintro e w5 ⟨rfl, hb⟩
  have HA5 := Lib.hid (HA4.out.below hb HA4.out.lt)
  have HZ5 := Lib.hid (HZ4.out.below hb HZ4.out.lt)
  have HY5 := Lib.hid (HY4.out.below hb HY4.out.lt)
  have HW5 := Lib.hid (below_tr HW4.out hb)
  clear hb HA4 HZ4 HY4 HW4
  go_wp2_with fail
  refine (cH.out _).mono ?_
  rintro e w6 ⟨rfl, hb⟩
  have HA6 := Lib.hid (HA5.out.below hb HA5.out.lt)
  have HZ6 := Lib.hid (HZ5.out.below hb HZ5.out.lt)
  have HY6 := Lib.hid (HY5.out.below hb HY5.out.lt)
  have HW6 := Lib.hid (below_tr HW5.out hb)
  clear hb HA5 HZ5 HY5 HW5
  go_wp2_with fail
  refine (cV.out _).mono ?_
  rintro e w7 ⟨rfl, hb⟩
  have HA7 := Lib.hid (HA6.out.below hb HA6.out.lt)
  have HZ7 := Lib.hid (HZ6.out.below hb HZ6.out.lt)
  have HY7 := Lib.hid (HY6.out.below hb HY6.out.lt)
  have HW7 := Lib.hid (below_tr HW6.out hb)
  clear hb HA6 HZ6 HY6 HW6
  go_wp2_with fail
  refine (cU.out _).mono ?_
  rintro e w8 ⟨rfl, hb⟩
  have HA8 := Lib.hid (HA7.out.below hb HA7.out.lt)
  have HZ8 := Lib.hid (HZ7.out.below hb HZ7.out.lt)
  have HY8 := Lib.hid (HY7.out.below hb HY7.out.lt)
  have HW8 := Lib.hid (below_tr HW7.out hb)
  clear hb HA7 HZ7 HY7 HW7
  go_wp2_with fail
  have hS := S9.mk_ HW8.out HA8.out HZ8.out HY8.out
  clear HA8 HZ8 HY8 HW8
  go_region_held3 (fun w => Below W.heap.size W w ∧ W.heap.size < w.heap.size ∧ w3.heap.size < w.heap.size ∧ w4.heap.size < w.heap.size ∧ w.cell? ⟨W.heap.size, 0, none⟩ = some (.int .i64 h.kind) ∧ w.cell? ⟨W.heap.size, 1, none⟩ = some (.int .i64 h.fields) ∧ w.cell? ⟨W.heap.size, 2, none⟩ = some (.int .i64 h.raws) ∧ w.cell? ⟨W.heap.size, 3, none⟩ = some (.bool h.mark) ∧ w.cell? ⟨W.heap.size, 4, none⟩ = some (.int .i64 h.cursor) ∧ w.cell? ⟨w3.heap.size, 0, none⟩ = some (.int .i64 z.kind) ∧ w.cell? ⟨w3.heap.size, 1, none⟩ = some (.int .i64 z.fields) ∧ w.cell? ⟨w3.heap.size, 2, none⟩ = some (.int .i64 z.raws) ∧ w.cell? ⟨w3.heap.size, 3, none⟩ = some (.bool z.mark) ∧ w.cell? ⟨w3.heap.size, 4, none⟩ = some (.int .i64 z.cursor) ∧ w.cell? ⟨w4.heap.size, 0, none⟩ = some (.int .i64 z.kind) ∧ w.cell? ⟨w4.heap.size, 1, none⟩ = some (.int .i64 z.fields) ∧ w.cell? ⟨w4.heap.size, 2, none⟩ = some (.int .i64 z.raws) ∧ w.cell? ⟨w4.heap.size, 3, none⟩ = some (.bool z.mark) ∧ w.cell? ⟨w4.heap.size, 4, none⟩ = some (.int .i64 z.cursor)) (first | exact hS | exact S9.step (A := W) (g1 := W.heap.size) (g2 := w3.heap.size) (g3 := w4.heap.size) (h := h) (z := z) (by assumption) ‹Below _ _ _›) (first
    | (go_at_call 54; refine (cS.out _).mono ?_; rintro e w' ⟨rfl, hb⟩)
    | (go_at_call 55; refine (cT.out _).mono ?_; rintro e w' ⟨rfl, hb⟩)
    | (go_at_call 56; refine (awake07 _).mono ?_; rintro e w' ⟨rfl, hb⟩))
  all_goals
    go_wp2
    go_ret
    exact ⟨rfl, S9.below (g1 := W.heap.size) (g2 := w3.heap.size) (g3 := w4.heap.size) (h := h) (z := z) (by assumption)⟩

theorem headWords_walk (h : Hd) (w x : Int) (hw : U64 w) (W : World) : Calls Try.prog 9 #[.agg h.cells, .int .u64 w, .int .i64 x] W
      fun e w' => e = .returned (.bool true) ∧ Below W.heap.size W w' := by
  unfold Hd.cells
  exact headWords_core h (hdH w) w x (encW h) (encE h) (hdE w) (valW 2 x) (valE 2 x) (refV w) (sizeI h) (refB w) W (Lib.hid fun W => enc_core h W) (Lib.hid fun W => renc_any h W) (Lib.hid fun W => hdec_any w W hw) (Lib.hid fun W => rhdec_any w W hw)
    (Lib.hid fun W => forward_any x W) (Lib.hid fun W => rforward_any x W) (Lib.hid fun W => forwarded_any w W hw) (Lib.hid fun W => rref_any w W hw) (Lib.hid fun W => size_any h W) (Lib.hid fun W => rsize_any h W)
end Go.Proofs.Ytcljgphipdbckaa
