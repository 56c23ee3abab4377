/- The walk of HeadBack. -/
import Derived.Test.YtcljgphipdbckaaL07
namespace Go.Proofs.Ytcljgphipdbckaa
set_option linter.unusedVariables false
set_option linter.unusedSimpArgs false
open Go.RowKit

set_option maxRecDepth 100000 in
set_option maxHeartbeats 6400000 in
theorem headBack_core (a b z : Hd) (w xa ea xb eb ez : Int) (W : World)
    (cA : Hid (∀ W, Calls Try.prog 46 #[.agg #[.int .i64 a.kind, .int .i64 a.fields, .int .i64 a.raws, .bool a.mark, .int .i64 a.cursor]] W (Out W (.tuple #[.int .u64 xa, .int .i64 ea]))))
    (cB : Hid (∀ W, Calls Try.prog 46 #[.agg #[.int .i64 b.kind, .int .i64 b.fields, .int .i64 b.raws, .bool b.mark, .int .i64 b.cursor]] W (Out W (.tuple #[.int .u64 xb, .int .i64 eb]))))
    (cD : Hid (ea = 0 → ∀ W, Calls Try.prog 48 #[.int .u64 xa] W (Out W (.tuple #[.agg #[.int .i64 a.kind, .int .i64 a.fields, .int .i64 a.raws, .bool a.mark, .int .i64 a.cursor], .int .i64 0]))))
    (cW : Hid (∀ W, Calls Try.prog 48 #[.int .u64 w] W (Out W (.tuple #[.agg #[.int .i64 z.kind, .int .i64 z.fields, .int .i64 z.raws, .bool z.mark, .int .i64 z.cursor], .int .i64 ez]))))
    (cZ : Hid (ez = 0 → ∀ W, Calls Try.prog 46 #[.agg #[.int .i64 z.kind, .int .i64 z.fields, .int .i64 z.raws, .bool z.mark, .int .i64 z.cursor]] W (Out W (.tuple #[.int .u64 w, .int .i64 0]))))
    (hz : ez = 0 ∨ ez = 3 ∧ z = ⟨0, 0, 0, false, 0⟩)
    (hc : ea = 1 ∨ ea = 0 ∧ eb = 1 ∨ ea = 0 ∧ eb = 0 ∧ a = b ∧ xa = xb ∨ ea = 0 ∧ eb = 0 ∧ (xa == xb) = false ∧ ((a.kind == b.kind) = false ∨ (a.fields == b.fields) = false ∨ (a.raws == b.raws) = false ∨ (a.mark == b.mark) = false ∨ (a.cursor == b.cursor) = false)) :
    Calls Try.prog 10 #[.agg #[.int .i64 a.kind, .int .i64 a.fields, .int .i64 a.raws, .bool a.mark, .int .i64 a.cursor], .agg #[.int .i64 b.kind, .int .i64 b.fields, .int .i64 b.raws, .bool b.mark, .int .i64 b.cursor], .int .u64 w] W
      fun e w' => e = .returned (.bool true) ∧ Below W.heap.size W w' := by
  have HA0 := Lib.hid ((Blk.new W 59 #[.int .i64 a.kind, .int .i64 a.fields, .int .i64 a.raws, .bool a.mark, .int .i64 a.cursor]).alloc (.cells #[.int .i64 b.kind, .int .i64 b.fields, .int .i64 b.raws, .bool b.mark, .int .i64 b.cursor] 59))
  have hb0 := Blk.new (W.alloc (.cells #[.int .i64 a.kind, .int .i64 a.fields, .int .i64 a.raws, .bool a.mark, .int .i64 a.cursor] 59)) 59 #[.int .i64 b.kind, .int .i64 b.fields, .int .i64 b.raws, .bool b.mark, .int .i64 b.cursor]
  rw [show (W.alloc (.cells #[.int .i64 a.kind, .int .i64 a.fields, .int .i64 a.raws, .bool a.mark, .int .i64 a.cursor] 59)).heap.size = W.heap.size + 1 by simp] at hb0
  have HB0 := Lib.hid hb0
  have HW0 := Lib.hid (((Below.refl W.heap.size W).alloc (Nat.le_refl _) (.cells #[.int .i64 a.kind, .int .i64 a.fields, .int .i64 a.raws, .bool a.mark, .int .i64 a.cursor] 59)).alloc (by simp) (.cells #[.int .i64 b.kind, .int .i64 b.fields, .int .i64 b.raws, .bool b.mark, .int .i64 b.cursor] 59))
  clear hb0
  rcases hc with rfl | ⟨rfl, rfl⟩ | ⟨rfl, rfl, rfl, rfl⟩ | ⟨rfl, rfl, hx, hf⟩
  ·
    rcases hz with rfl | ⟨rfl, rfl⟩
    ·
      go_enter Try.func10, Try.ntmps10
      go_wp2_with fail
      refine (cA.out _).mono ?_
      rintro e w1 ⟨rfl, hb⟩
      have HA1 := Lib.hid (HA0.out.below hb HA0.out.lt)
      have HB1 := Lib.hid (HB0.out.below hb HB0.out.lt)
      have HW1 := Lib.hid (below_tr HW0.out hb)
      have q0 := HB1.out.cell 0
      have q1 := HB1.out.cell 1
      have q2 := HB1.out.cell 2
      have q3 := HB1.out.cell 3
      have q4 := HB1.out.cell 4
      clear hb HA0 HB0 HW0
      go_wp2_with fail
      refine (cB.out _).mono ?_
      rintro e w2 ⟨rfl, hb⟩
      have HA2 := Lib.hid (HA1.out.below hb HA1.out.lt)
      have HB2 := Lib.hid (HB1.out.below hb HB1.out.lt)
      have HW2 := Lib.hid (below_tr HW1.out hb)
      clear hb HA1 HB1 HW1 q0 q1 q2 q3 q4
      go_wp2_with fail
      refine (cW.out _).mono ?_
      rintro e w4 ⟨rfl, hb⟩
      have HZ4 := Lib.hid (Blk.new w4 59 #[.int .i64 z.kind, .int .i64 z.fields, .int .i64 z.raws, .bool z.mark, .int .i64 z.cursor])
      have HW4 := Lib.hid ((below_tr HW2.out hb).alloc (below_tr HW2.out hb).size (.cells #[.int .i64 z.kind, .int .i64 z.fields, .int .i64 z.raws, .bool z.mark, .int .i64 z.cursor] 59))
      clear hb
      go_wp2_with fail
      refine (cZ.out (by trivial) _).mono ?_
      rintro e w5 ⟨rfl, hb⟩
      have HW5 := Lib.hid (below_tr HW4.out hb)
      clear hb HZ4 HW4
      go_wp2_with fail
      refine (awake07 _).mono ?_
      rintro e w6 ⟨rfl, hb⟩
      go_wp2
      go_ret
      exact ⟨rfl, below_tr HW5.out hb⟩
    ·
      go_enter Try.func10, Try.ntmps10
      go_wp2_with fail
      refine (cA.out _).mono ?_
      rintro e w1 ⟨rfl, hb⟩
      have HA1 := Lib.hid (HA0.out.below hb HA0.out.lt)
      have HB1 := Lib.hid (HB0.out.below hb HB0.out.lt)
      have HW1 := Lib.hid (below_tr HW0.out hb)
      have q0 := HB1.out.cell 0
      have q1 := HB1.out.cell 1
      have q2 := HB1.out.cell 2
      have q3 := HB1.out.cell 3
      have q4 := HB1.out.cell 4
      clear hb HA0 HB0 HW0
      go_wp2_with fail
      refine (cB.out _).mono ?_
      rintro e w2 ⟨rfl, hb⟩
      have HA2 := Lib.hid (HA1.out.below hb HA1.out.lt)
      have HB2 := Lib.hid (HB1.out.below hb HB1.out.lt)
      have HW2 := Lib.hid (below_tr HW1.out hb)
      clear hb HA1 HB1 HW1 q0 q1 q2 q3 q4
      go_wp2_with fail
      refine (cW.out _).mono ?_
      rintro e w4 ⟨rfl, hb⟩
      have HZ4 := Lib.hid (Blk.new w4 59 #[.int .i64 0, .int .i64 0, .int .i64 0, .bool false, .int .i64 0])
      have HW4 := Lib.hid ((below_tr HW2.out hb).alloc (below_tr HW2.out hb).size (.cells #[.int .i64 0, .int .i64 0, .int .i64 0, .bool false, .int .i64 0] 59))
      clear hb
      go_wp2_with fail
      refine (awake07 _).mono ?_
      rintro e w5 ⟨rfl, hb⟩
      go_wp2
      go_ret
      exact ⟨rfl, below_tr HW4.out hb⟩
  ·
    rcases hz with rfl | ⟨rfl, rfl⟩
    ·
      go_enter Try.func10, Try.ntmps10
      go_wp2_with fail
      refine (cA.out _).mono ?_
      rintro e w1 ⟨rfl, hb⟩
      have HA1 := Lib.hid (HA0.out.below hb HA0.out.lt)
      have HB1 := Lib.hid (HB0.out.below hb HB0.out.lt)
      have HW1 := Lib.hid (below_tr HW0.out hb)
      have q0 := HB1.out.cell 0
      have q1 := HB1.out.cell 1
      have q2 := HB1.out.cell 2
      have q3 := HB1.out.cell 3
      have q4 := HB1.out.cell 4
      clear hb HA0 HB0 HW0
      go_wp2_with fail
      refine (cB.out _).mono ?_
      rintro e w2 ⟨rfl, hb⟩
      have HA2 := Lib.hid (HA1.out.below hb HA1.out.lt)
      have HB2 := Lib.hid (HB1.out.below hb HB1.out.lt)
      have HW2 := Lib.hid (below_tr HW1.out hb)
      clear hb HA1 HB1 HW1 q0 q1 q2 q3 q4
      go_wp2_with fail
      refine (cD.out (by trivial) _).mono ?_
      rintro e w3 ⟨rfl, hb⟩
      have HA3 := Lib.hid ((HA2.out.below hb HA2.out.lt).alloc (.cells #[.int .i64 a.kind, .int .i64 a.fields, .int .i64 a.raws, .bool a.mark, .int .i64 a.cursor] 59))
      have HB3 := Lib.hid ((HB2.out.below hb HB2.out.lt).alloc (.cells #[.int .i64 a.kind, .int .i64 a.fields, .int .i64 a.raws, .bool a.mark, .int .i64 a.cursor] 59))
      have HW3 := Lib.hid ((below_tr HW2.out hb).alloc (below_tr HW2.out hb).size (.cells #[.int .i64 a.kind, .int .i64 a.fields, .int .i64 a.raws, .bool a.mark, .int .i64 a.cursor] 59))
      have hA3 := HA2.out.below hb HA2.out.lt
      have hB3 := HB2.out.below hb HB2.out.lt
      have q0 := hA3.cell 0
      have q1 := hA3.cell 1
      have q2 := hA3.cell 2
      have q3 := hA3.cell 3
      have q4 := hA3.cell 4
      have p0 := hB3.cell 0
      have p1 := hB3.cell 1
      have p2 := hB3.cell 2
      have p3 := hB3.cell 3
      have p4 := hB3.cell 4
      have l1 := hA3.lt
      have l2 := hB3.lt
      clear hb HA2 HB2 HW2 hA3 hB3
      go_wp2_with fail
      refine (cW.out _).mono ?_
      rintro e w4 ⟨rfl, hb⟩
      have HZ4 := Lib.hid (Blk.new w4 59 #[.int .i64 z.kind, .int .i64 z.fields, .int .i64 z.raws, .bool z.mark, .int .i64 z.cursor])
      have HW4 := Lib.hid ((below_tr HW3.out hb).alloc (below_tr HW3.out hb).size (.cells #[.int .i64 z.kind, .int .i64 z.fields, .int .i64 z.raws, .bool z.mark, .int .i64 z.cursor] 59))
      clear hb
      go_wp2_with fail
      refine (cZ.out (by trivial) _).mono ?_
      rintro e w5 ⟨rfl, hb⟩
      have HW5 := Lib.hid (below_tr HW4.out hb)
      clear hb HZ4 HW4
      go_wp2_with fail
      refine (awake07 _).mono ?_
      rintro e w6 ⟨rfl, hb⟩
      go_wp2
      go_ret
      exact ⟨rfl, below_tr HW5.out hb⟩
    ·
      go_enter Try.func10, Try.ntmps10
      go_wp2_with fail
      refine (cA.out _).mono ?_
      rintro e w1 ⟨rfl, hb⟩
      have HA1 := Lib.hid (HA0.out.below hb HA0.out.lt)
      have HB1 := Lib.hid (HB0.out.below hb HB0.out.lt)
      have HW1 := Lib.hid (below_tr HW0.out hb)
      have q0 := HB1.out.cell 0
      have q1 := HB1.out.cell 1
      have q2 := HB1.out.cell 2
      have q3 := HB1.out.cell 3
      have q4 := HB1.out.cell 4
      clear hb HA0 HB0 HW0
      go_wp2_with fail
      refine (cB.out _).mono ?_
      rintro e w2 ⟨rfl, hb⟩
      have HA2 := Lib.hid (HA1.out.below hb HA1.out.lt)
      have HB2 := Lib.hid (HB1.out.below hb HB1.out.lt)
      have HW2 := Lib.hid (below_tr HW1.out hb)
      clear hb HA1 HB1 HW1 q0 q1 q2 q3 q4
      go_wp2_with fail
      refine (cD.out (by trivial) _).mono ?_
      rintro e w3 ⟨rfl, hb⟩
      have HA3 := Lib.hid ((HA2.out.below hb HA2.out.lt).alloc (.cells #[.int .i64 a.kind, .int .i64 a.fields, .int .i64 a.raws, .bool a.mark, .int .i64 a.cursor] 59))
      have HB3 := Lib.hid ((HB2.out.below hb HB2.out.lt).alloc (.cells #[.int .i64 a.kind, .int .i64 a.fields, .int .i64 a.raws, .bool a.mark, .int .i64 a.cursor] 59))
      have HW3 := Lib.hid ((below_tr HW2.out hb).alloc (below_tr HW2.out hb).size (.cells #[.int .i64 a.kind, .int .i64 a.fields, .int .i64 a.raws, .bool a.mark, .int .i64 a.cursor] 59))
      have hA3 := HA2.out.below hb HA2.out.lt
      have hB3 := HB2.out.below hb HB2.out.lt
      have q0 := hA3.cell 0
      have q1 := hA3.cell 1
      have q2 := hA3.cell 2
      have q3 := hA3.cell 3
      have q4 := hA3.cell 4
      have p0 := hB3.cell 0
      have p1 := hB3.cell 1
      have p2 := hB3.cell 2
      have p3 := hB3.cell 3
      have p4 := hB3.cell 4
      have l1 := hA3.lt
      have l2 := hB3.lt
      clear hb HA2 HB2 HW2 hA3 hB3
      go_wp2_with fail
      refine (cW.out _).mono ?_
      rintro e w4 ⟨rfl, hb⟩
      have HZ4 := Lib.hid (Blk.new w4 59 #[.int .i64 0, .int .i64 0, .int .i64 0, .bool false, .int .i64 0])
      have HW4 := Lib.hid ((below_tr HW3.out hb).alloc (below_tr HW3.out hb).size (.cells #[.int .i64 0, .int .i64 0, .int .i64 0, .bool false, .int .i64 0] 59))
      clear hb
      go_wp2_with fail
      refine (awake07 _).mono ?_
      rintro e w5 ⟨rfl, hb⟩
      go_wp2
      go_ret
      exact ⟨rfl, below_tr HW4.out hb⟩
  ·
    rcases hz with rfl | ⟨rfl, rfl⟩
    ·
      go_enter Try.func10, Try.ntmps10
      go_wp2_with fail
      refine (cA.out _).mono ?_
      rintro e w1 ⟨rfl, hb⟩
      have HA1 := Lib.hid (HA0.out.below hb HA0.out.lt)
      have HB1 := Lib.hid (HB0.out.below hb HB0.out.lt)
      have HW1 := Lib.hid (below_tr HW0.out hb)
      have q0 := HB1.out.cell 0
      have q1 := HB1.out.cell 1
      have q2 := HB1.out.cell 2
      have q3 := HB1.out.cell 3
      have q4 := HB1.out.cell 4
      clear hb HA0 HB0 HW0
      go_wp2_with fail
      refine (cB.out _).mono ?_
      rintro e w2 ⟨rfl, hb⟩
      have HA2 := Lib.hid (HA1.out.below hb HA1.out.lt)
      have HB2 := Lib.hid (HB1.out.below hb HB1.out.lt)
      have HW2 := Lib.hid (below_tr HW1.out hb)
      clear hb HA1 HB1 HW1 q0 q1 q2 q3 q4
      go_wp2_with fail
      refine (cD.out (by trivial) _).mono ?_
      rintro e w3 ⟨rfl, hb⟩
      have HA3 := Lib.hid ((HA2.out.below hb HA2.out.lt).alloc (.cells #[.int .i64 a.kind, .int .i64 a.fields, .int .i64 a.raws, .bool a.mark, .int .i64 a.cursor] 59))
      have HB3 := Lib.hid ((HB2.out.below hb HB2.out.lt).alloc (.cells #[.int .i64 a.kind, .int .i64 a.fields, .int .i64 a.raws, .bool a.mark, .int .i64 a.cursor] 59))
      have HW3 := Lib.hid ((below_tr HW2.out hb).alloc (below_tr HW2.out hb).size (.cells #[.int .i64 a.kind, .int .i64 a.fields, .int .i64 a.raws, .bool a.mark, .int .i64 a.cursor] 59))
      have hA3 := HA2.out.below hb HA2.out.lt
      have hB3 := HB2.out.below hb HB2.out.lt
      have q0 := hA3.cell 0
      have q1 := hA3.cell 1
      have q2 := hA3.cell 2
      have q3 := hA3.cell 3
      have q4 := hA3.cell 4
      have p0 := hB3.cell 0
      have p1 := hB3.cell 1
      have p2 := hB3.cell 2
      have p3 := hB3.cell 3
      have p4 := hB3.cell 4
      have l1 := hA3.lt
      have l2 := hB3.lt
      clear hb HA2 HB2 HW2 hA3 hB3
      go_wp2_with fail
      refine (cW.out _).mono ?_
      rintro e w4 ⟨rfl, hb⟩
      have HZ4 := Lib.hid (Blk.new w4 59 #[.int .i64 z.kind, .int .i64 z.fields, .int .i64 z.raws, .bool z.mark, .int .i64 z.cursor])
      have HW4 := Lib.hid ((below_tr HW3.out hb).alloc (below_tr HW3.out hb).size (.cells #[.int .i64 z.kind, .int .i64 z.fields, .int .i64 z.raws, .bool z.mark, .int .i64 z.cursor] 59))
      clear hb
      go_wp2_with fail
      refine (cZ.out (by trivial) _).mono ?_
      rintro e w5 ⟨rfl, hb⟩
      have HW5 := Lib.hid (below_tr HW4.out hb)
      clear hb HZ4 HW4
      go_wp2_with fail
      refine (awake07 _).mono ?_
      rintro e w6 ⟨rfl, hb⟩
      go_wp2
      go_ret
      exact ⟨rfl, below_tr HW5.out hb⟩
    ·
      go_enter Try.func10, Try.ntmps10
      go_wp2_with fail
      refine (cA.out _).mono ?_
      rintro e w1 ⟨rfl, hb⟩
      have HA1 := Lib.hid (HA0.out.below hb HA0.out.lt)
      have HB1 := Lib.hid (HB0.out.below hb HB0.out.lt)
      have HW1 := Lib.hid (below_tr HW0.out hb)
      have q0 := HB1.out.cell 0
      have q1 := HB1.out.cell 1
      have q2 := HB1.out.cell 2
      have q3 := HB1.out.cell 3
      have q4 := HB1.out.cell 4
      clear hb HA0 HB0 HW0
      go_wp2_with fail
      refine (cB.out _).mono ?_
      rintro e w2 ⟨rfl, hb⟩
      have HA2 := Lib.hid (HA1.out.below hb HA1.out.lt)
      have HB2 := Lib.hid (HB1.out.below hb HB1.out.lt)
      have HW2 := Lib.hid (below_tr HW1.out hb)
      clear hb HA1 HB1 HW1 q0 q1 q2 q3 q4
      go_wp2_with fail
      refine (cD.out (by trivial) _).mono ?_
      rintro e w3 ⟨rfl, hb⟩
      have HA3 := Lib.hid ((HA2.out.below hb HA2.out.lt).alloc (.cells #[.int .i64 a.kind, .int .i64 a.fields, .int .i64 a.raws, .bool a.mark, .int .i64 a.cursor] 59))
      have HB3 := Lib.hid ((HB2.out.below hb HB2.out.lt).alloc (.cells #[.int .i64 a.kind, .int .i64 a.fields, .int .i64 a.raws, .bool a.mark, .int .i64 a.cursor] 59))
      have HW3 := Lib.hid ((below_tr HW2.out hb).alloc (below_tr HW2.out hb).size (.cells #[.int .i64 a.kind, .int .i64 a.fields, .int .i64 a.raws, .bool a.mark, .int .i64 a.cursor] 59))
      have hA3 := HA2.out.below hb HA2.out.lt
      have hB3 := HB2.out.below hb HB2.out.lt
      have q0 := hA3.cell 0
      have q1 := hA3.cell 1
      have q2 := hA3.cell 2
      have q3 := hA3.cell 3
      have q4 := hA3.cell 4
      have p0 := hB3.cell 0
      have p1 := hB3.cell 1
      have p2 := hB3.cell 2
      have p3 := hB3.cell 3
      have p4 := hB3.cell 4
      have l1 := hA3.lt
      have l2 := hB3.lt
      clear hb HA2 HB2 HW2 hA3 hB3
      go_wp2_with fail
      refine (cW.out _).mono ?_
      rintro e w4 ⟨rfl, hb⟩
      have HZ4 := Lib.hid (Blk.new w4 59 #[.int .i64 0, .int .i64 0, .int .i64 0, .bool false, .int .i64 0])
      have HW4 := Lib.hid ((below_tr HW3.out hb).alloc (below_tr HW3.out hb).size (.cells #[.int .i64 0, .int .i64 0, .int .i64 0, .bool false, .int .i64 0] 59))
      clear hb
      go_wp2_with fail
      refine (awake07 _).mono ?_
      rintro e w5 ⟨rfl, hb⟩
      go_wp2
      go_ret
      exact ⟨rfl, below_tr HW4.out hb⟩
  · rcases hf with hf | hf | hf | hf | hf
    all_goals
      rcases hz with rfl | ⟨rfl, rfl⟩
      ·
        go_enter Try.func10, Try.ntmps10
        go_wp2_with fail
        refine (cA.out _).mono ?_
        rintro e w1 ⟨rfl, hb⟩
        have HA1 := Lib.hid (HA0.out.below hb HA0.out.lt)
        have HB1 := Lib.hid (HB0.out.below hb HB0.out.lt)
        have HW1 := Lib.hid (below_tr HW0.out hb)
        have q0 := HB1.out.cell 0
        have q1 := HB1.out.cell 1
        have q2 := HB1.out.cell 2
        have q3 := HB1.out.cell 3
        have q4 := HB1.out.cell 4
        clear hb HA0 HB0 HW0
        go_wp2_with fail
        refine (cB.out _).mono ?_
        rintro e w2 ⟨rfl, hb⟩
        have HA2 := Lib.hid (HA1.out.below hb HA1.out.lt)
        have HB2 := Lib.hid (HB1.out.below hb HB1.out.lt)
        have HW2 := Lib.hid (below_tr HW1.out hb)
        clear hb HA1 HB1 HW1 q0 q1 q2 q3 q4
        go_wp2_with fail
        refine (cD.out (by trivial) _).mono ?_
        rintro e w3 ⟨rfl, hb⟩
        have HA3 := Lib.hid ((HA2.out.below hb HA2.out.lt).alloc (.cells #[.int .i64 a.kind, .int .i64 a.fields, .int .i64 a.raws, .bool a.mark, .int .i64 a.cursor] 59))
        have HB3 := Lib.hid ((HB2.out.below hb HB2.out.lt).alloc (.cells #[.int .i64 a.kind, .int .i64 a.fields, .int .i64 a.raws, .bool a.mark, .int .i64 a.cursor] 59))
        have HW3 := Lib.hid ((below_tr HW2.out hb).alloc (below_tr HW2.out hb).size (.cells #[.int .i64 a.kind, .int .i64 a.fields, .int .i64 a.raws, .bool a.mark, .int .i64 a.cursor] 59))
        have hA3 := HA2.out.below hb HA2.out.lt
        have hB3 := HB2.out.below hb HB2.out.lt
        have q0 := hA3.cell 0
        have q1 := hA3.cell 1
        have q2 := hA3.cell 2
        have q3 := hA3.cell 3
        have q4 := hA3.cell 4
        have p0 := hB3.cell 0
        have p1 := hB3.cell 1
        have p2 := hB3.cell 2
        have p3 := hB3.cell 3
        have p4 := hB3.cell 4
        have l1 := hA3.lt
        have l2 := hB3.lt
        clear hb HA2 HB2 HW2 hA3 hB3
        go_wp2_with fail
        refine (cW.out _).mono ?_
        rintro e w4 ⟨rfl, hb⟩
        have HZ4 := Lib.hid (Blk.new w4 59 #[.int .i64 z.kind, .int .i64 z.fields, .int .i64 z.raws, .bool z.mark, .int .i64 z.cursor])
        have HW4 := Lib.hid ((below_tr HW3.out hb).alloc (below_tr HW3.out hb).size (.cells #[.int .i64 z.kind, .int .i64 z.fields, .int .i64 z.raws, .bool z.mark, .int .i64 z.cursor] 59))
        clear hb
        go_wp2_with fail
        refine (cZ.out (by trivial) _).mono ?_
        rintro e w5 ⟨rfl, hb⟩
        have HW5 := Lib.hid (below_tr HW4.out hb)
        clear hb HZ4 HW4
        go_wp2_with fail
        refine (awake07 _).mono ?_
        rintro e w6 ⟨rfl, hb⟩
        go_wp2
        go_ret
        exact ⟨rfl, below_tr HW5.out hb⟩
      ·
        go_enter Try.func10, Try.ntmps10
        go_wp2_with fail
        refine (cA.out _).mono ?_
        rintro e w1 ⟨rfl, hb⟩
        have HA1 := Lib.hid (HA0.out.below hb HA0.out.lt)
        have HB1 := Lib.hid (HB0.out.below hb HB0.out.lt)
        have HW1 := Lib.hid (below_tr HW0.out hb)
        have q0 := HB1.out.cell 0
        have q1 := HB1.out.cell 1
        have q2 := HB1.out.cell 2
        have q3 := HB1.out.cell 3
        have q4 := HB1.out.cell 4
        clear hb HA0 HB0 HW0
        go_wp2_with fail
        refine (cB.out _).mono ?_
        rintro e w2 ⟨rfl, hb⟩
        have HA2 := Lib.hid (HA1.out.below hb HA1.out.lt)
        have HB2 := Lib.hid (HB1.out.below hb HB1.out.lt)
        have HW2 := Lib.hid (below_tr HW1.out hb)
        clear hb HA1 HB1 HW1 q0 q1 q2 q3 q4
        go_wp2_with fail
        refine (cD.out (by trivial) _).mono ?_
        rintro e w3 ⟨rfl, hb⟩
        have HA3 := Lib.hid ((HA2.out.below hb HA2.out.lt).alloc (.cells #[.int .i64 a.kind, .int .i64 a.fields, .int .i64 a.raws, .bool a.mark, .int .i64 a.cursor] 59))
        have HB3 := Lib.hid ((HB2.out.below hb HB2.out.lt).alloc (.cells #[.int .i64 a.kind, .int .i64 a.fields, .int .i64 a.raws, .bool a.mark, .int .i64 a.cursor] 59))
        have HW3 := Lib.hid ((below_tr HW2.out hb).alloc (below_tr HW2.out hb).size (.cells #[.int .i64 a.kind, .int .i64 a.fields, .int .i64 a.raws, .bool a.mark, .int .i64 a.cursor] 59))
        have hA3 := HA2.out.below hb HA2.out.lt
        have hB3 := HB2.out.below hb HB2.out.lt
        have q0 := hA3.cell 0
        have q1 := hA3.cell 1
        have q2 := hA3.cell 2
        have q3 := hA3.cell 3
        have q4 := hA3.cell 4
        have p0 := hB3.cell 0
        have p1 := hB3.cell 1
        have p2 := hB3.cell 2
        have p3 := hB3.cell 3
        have p4 := hB3.cell 4
        have l1 := hA3.lt
        have l2 := hB3.lt
        clear hb HA2 HB2 HW2 hA3 hB3
        go_wp2_with fail
        refine (cW.out _).mono ?_
        rintro e w4 ⟨rfl, hb⟩
        have HZ4 := Lib.hid (Blk.new w4 59 #[.int .i64 0, .int .i64 0, .int .i64 0, .bool false, .int .i64 0])
        have HW4 := Lib.hid ((below_tr HW3.out hb).alloc (below_tr HW3.out hb).size (.cells #[.int .i64 0, .int .i64 0, .int .i64 0, .bool false, .int .i64 0] 59))
        clear hb
        go_wp2_with fail
        refine (awake07 _).mono ?_
        rintro e w5 ⟨rfl, hb⟩
        go_wp2
        go_ret
        exact ⟨rfl, below_tr HW4.out hb⟩

theorem hd_ne {a b : Hd} (h : a ≠ b) : (a.kind == b.kind) = false ∨ (a.fields == b.fields) = false ∨ (a.raws == b.raws) = false ∨ (a.mark == b.mark) = false ∨ (a.cursor == b.cursor) = false := by
  simp only [beq_eq_false_iff_ne, ne_eq]
  refine Classical.byContradiction fun hn => h ?_
  simp only [not_or, Classical.not_not] at hn
  cases a; cases b
  obtain ⟨h1, h2, h3, h4, h5⟩ := hn
  simp only at h1 h2 h3 h4 h5
  subst h1 h2 h3 h4 h5; rfl

theorem headBack_walk (a b : Hd) (w : Int) (hw : U64 w) (W : World) : Calls Try.prog 10 #[.agg a.cells, .agg b.cells, .int .u64 w] W
      fun e w' => e = .returned (.bool true) ∧ Below W.heap.size W w' := by
  unfold Hd.cells
  refine headBack_core a b (hdH w) w (encW a) (encE a) (encW b) (encE b) (hdE w) W (Lib.hid fun W => enc_core a W) (Lib.hid fun W => enc_core b W) (Lib.hid fun h0 W => ?_) (Lib.hid fun W => hdec_any w W hw) (Lib.hid fun h0 W => ?_) ?_ ?_
  · have ha : mayB a = true := by
      cases hm : mayB a with
      | true => rfl
      | false => exact absurd h0 (by rw [← (enc_not hm).2]; decide)
    have h1 := hdec_any (encW a) W (encW_u a)
    have h2 := (hd_enc ha)
    rw [← (enc_yes ha).1] at h1
    unfold hdE at h1
    rw [h2.2, h2.1] at h1
    rw [← (enc_yes ha).1]
    exact h1
  · have hb : hdB w = true := by
      cases hm : hdB w with
      | true => rfl
      | false => exact absurd h0 (by unfold hdE; rw [hm]; decide)
    have h1 := enc_core (hdH w) W
    have h2 := enc_hd hw.1 hb
    rw [← (enc_yes h2.2).1, ← (enc_yes h2.2).2, h2.1] at h1
    exact h1
  · cases hm : hdB w with
    | true => left; unfold hdE; rw [hm]; rfl
    | false => right; unfold hdE hdH; rw [hm]; exact ⟨rfl, rfl⟩
  · cases ha : mayB a with
    | false => left; exact (enc_not ha).2.symm
    | true =>
      right
      cases hb : mayB b with
      | false => left; exact ⟨(enc_yes ha).2.symm, (enc_not hb).2.symm⟩
      | true =>
        right
        by_cases hab : a = b
        · left; subst hab; exact ⟨(enc_yes ha).2.symm, (enc_yes ha).2.symm, rfl, rfl⟩
        · right
          refine ⟨(enc_yes ha).2.symm, (enc_yes hb).2.symm, ?_, hd_ne hab⟩
          rw [← (enc_yes ha).1, ← (enc_yes hb).1]
          exact beq_eq_false_iff_ne.2 fun h => hab ((enc_inj ha hb).1 h)
end Go.Proofs.Ytcljgphipdbckaa
