/- Layer 12: the iterator of a thread, and All at a thread of two. -/
import Derived.Test.YtcljgphipdbckaaX12
import Derived.Test.YtcljgphipdbckaaM12
import Derived.RangeFuncNested
import Derived.RangeFuncBound
import Derived.RangeFuncCalls
import Derived.RangeFuncLeaves
import Derived.Shelf.Abstract
import Derived.Shelf.RegionOpen
import Derived.OwnWalkIn
import Derived.TacticsInMore
import Derived.LoopNIn
import Derived.LoopIn
namespace Go.Proofs.Ytcljgphipdbckaa
set_option linter.unusedVariables false
set_option linter.unusedSimpArgs false
open Go.RowKit Go.Shelf
attribute [local go_sem] Oper.semAt_some

/-- what a round of the body keeps -/
def Kp12 (n0 : Nat) (A B : World) : Prop :=
  Below n0 A B ∧ (∀ k, n0 + 4 ≤ k → k < n0 + 7 → B.heap[k]? = A.heap[k]?) ∧ (∀ (k : Nat) (c : Array Value), A.heap[k]? = some (.cells c 59) → B.heap[k]? = some (.cells c 59))
theorem Kp12.tr {n0 : Nat} {A B C : World} (h : Kp12 n0 A B) (k : Kp12 n0 B C) : Kp12 n0 A C :=
  ⟨h.1.trans k.1, fun i h1 h2 => (k.2.1 i h1 h2).trans (h.2.1 i h1 h2), fun i c hc => k.2.2 i c (h.2.2 i c hc)⟩
/-- the thread's top when j of two have come -/
def top12 : Nat → Int
  | 0 => 1
  | 1 => 2
  | _ => 0
def left12 (b : Nat) (w : World) : Nat :=
  match w.cell? ⟨b, 0, none⟩ with
  | some (.int _ 1) => 2
  | some (.int _ 2) => 1
  | _ => 0
theorem each_mk (w : World) (a : Option Addr) (A : Option Addr) (n c : Nat) (x : Int) :
    Calls Try.prog 131 #[.pointer a, .slice A n c, .int .i64 x] w fun e w' => e = .returned (.func (.func 132) #[] #[.pointer (some ⟨w.heap.size + 2, 0, none⟩), .pointer (some ⟨w.heap.size, 0, none⟩), .pointer (some ⟨w.heap.size + 1, 0, none⟩)]) ∧
      ((w.alloc (.cells #[.pointer a] 37)).alloc (.cells #[.slice A n c] 97)).alloc (.cells #[.int .i64 x] 3) = w' := by
  go_enter Try.func131, Try.ntmps131
  go_wp2
  go_ret
  exact ⟨rfl, rfl⟩

theorem topcell {w : World} {b : Nat} {x : Int} (h : w.cell? ⟨b, 0, none⟩ = some (.int .i64 x)) : left12 b w = if x = 1 then 2 else if x = 2 then 1 else 0 := by
  unfold left12
  rw [h]
  split <;> simp_all

set_option maxRecDepth 100000 in
set_option maxHeartbeats 6400000 in
theorem each1_in {w : World} {B p : Nat} {v : Value} {ws : List Int} {A : Option Addr} {c : Nat} {sp : Nat → Int × Int} (hal : ws.length ≤ 1000000) (ha0 : 0 ≤ (sp 0).1) (ha1 : 0 ≤ (sp 1).1)
    (h0 : oE ws (sp 0).1 = 0) (h1 : oE ws (sp 1).1 = 0) (c0 : (oH ws (sp 0).1).cursor = 2) (c1 : (oH ws (sp 1).1).cursor = 0)
    (h : Ar w B p v ws) (ht : Recs w (.slice A 2 c) 2 2 (fun k => [.int .i64 (sp k).1, .int .i64 (sp k).2])) (m l : Nat) (hm : 1 ≤ m) (J : List Nat → World → Prop) (W : World) (hb : Below w.heap.size w W)
    (hJ : ∀ s A B, J s A → Below A.heap.size A B → J s B) (hJb : ∀ s A v, J s A → J s (A.setCell ⟨w.heap.size + 6, 0, none⟩ v))
    (hY : ∀ pre x post W1, [0, 1] = pre ++ x :: post → J pre W1 → YieldAt Fence.wide m Try.prog l #[.int .i64 (x : Nat), .int .i64 0] W1 fun e W' => e = .returned (.bool true) ∧ J (pre ++ [x]) W' ∧ Kp12 w.heap.size W1 W')
    (hj : J [] W)
    (b4 : Blk W (w.heap.size + 4) 37 #[.pointer (some ⟨p, 0, none⟩)]) (b5 : Blk W (w.heap.size + 5) 97 #[.slice A 2 c]) (b6 : Blk W (w.heap.size + 6) 3 #[.int .i64 1]) :
    CallsIn Fence.wide (m + 1) Try.prog 132 #[.func (.yield l) #[] #[], .pointer (some ⟨w.heap.size + 6, 0, none⟩), .pointer (some ⟨w.heap.size + 4, 0, none⟩), .pointer (some ⟨w.heap.size + 5, 0, none⟩)] W
      fun e W' => (∃ v, e = .returned v) ∧ J [0, 1] W' := by
  refine callsIn_of_wp Try.func132 rfl trivial ?_ rfl
  simp only [Try.ntmps132, List.size_toArray, List.length_cons, List.length_nil, Nat.reduceAdd, Nat.reduceSub, Array.replicate_succ, Array.replicate_zero, List.push_toArray, List.append_toArray, List.nil_append, List.cons_append]
  have HL := Lib.hid hal
  have HE0 := Lib.hid h0
  have HE1 := Lib.hid h1
  have HC0 := Lib.hid c0
  have HC1 := Lib.hid c1
  have HA := Lib.hid h
  have HT := Lib.hid ht
  have HJ1 := Lib.hid hJ
  have HJ2 := Lib.hid hJb
  have HY := Lib.hid hY
  clear hal h0 h1 c0 c1 h ht hJ hJb hY
  gi_wp2
  gi_loopw [5] (fun u wr => ∃ j : Nat, j ≤ 2 ∧ Hid (J ([0, 1].take j) wr) ∧ Hid (Below w.heap.size w wr) ∧ Hid (Blk wr (w.heap.size + 4) 37 #[.pointer (some ⟨p, 0, none⟩)]) ∧ Hid (Blk wr (w.heap.size + 5) 97 #[.slice A 2 c]) ∧ Hid (Blk wr (w.heap.size + 6) 3 #[.int .i64 (top12 j)])) (fun u wr => left12 (w.heap.size + 6) wr)
  case atStart => exact ⟨0, by omega, hj, hb, b4, b5, b6⟩
  case round =>
    obtain ⟨j, hj2, HJ, HB, B4, B5, B6⟩ := hrel
    rcases (show j = 0 ∨ j = 1 ∨ j = 2 by omega) with rfl | rfl | rfl
    · have kc : Hid (Calls Try.prog 125 #[.pointer (some ⟨p, 0, none⟩), .slice A 2 c, .int .i64 0] wr (Out wr (.tuple #[.agg #[.int .i64 (oH ws (sp 0).1).kind, .int .i64 (oH ws (sp 0).1).fields, .int .i64 (oH ws (sp 0).1).raws, .bool (oH ws (sp 0).1).mark, .int .i64 2], .int .i64 0]))) := by
        have := thead_ar 0 (by omega) (by omega) HL.out (HA.out.below HB.out) (HT.out.below HB.out)
        rw [HE0.out, HC0.out] at this
        exact this
      have q4 := B4.out.cell 0
      have q5 := B5.out.cell 0
      have q6 := B6.out.cell 0
      simp only [top12] at q6
      generalize oH ws (sp 0).1 = z at *
      gi_wp2_with fail
      refine ⟨trivial, (callsIn_wide.2 kc.out).mono ?_⟩
      rintro e w1 ⟨rfl, hb1⟩
      have HB1 := Lib.hid hb1
      have hba : Below wr.heap.size wr (w1.alloc (.cells #[.int .i64 z.kind, .int .i64 z.fields, .int .i64 z.raws, .bool z.mark, .int .i64 2] 59)) := hb1.alloc hb1.size _
      have HX := Lib.hid (Blk.new w1 59 #[.int .i64 z.kind, .int .i64 z.fields, .int .i64 z.raws, .bool z.mark, .int .i64 2])
      have C6 := Lib.hid (B6.out.below hba B6.out.lt)
      have C4 := Lib.hid (B4.out.below hba B4.out.lt)
      have C5 := Lib.hid (B5.out.below hba B5.out.lt)
      have HBA := Lib.hid (HB.out.trans (hba.mono HB.out.size))
      have HSZ := Lib.hid (show w1.heap.size < (w1.alloc (.cells #[.int .i64 z.kind, .int .i64 z.fields, .int .i64 z.raws, .bool z.mark, .int .i64 2] 59)).heap.size by simp)
      have HYa : YieldAt Fence.wide m Try.prog l #[.int .i64 0, .int .i64 0] (w1.alloc (.cells #[.int .i64 z.kind, .int .i64 z.fields, .int .i64 z.raws, .bool z.mark, .int .i64 2] 59)) (fun e W' => e = .returned (.bool true) ∧ J ([0, 1].take 1) W' ∧ Kp12 w.heap.size (w1.alloc (.cells #[.int .i64 z.kind, .int .i64 z.fields, .int .i64 z.raws, .bool z.mark, .int .i64 2] 59)) W') := HY.out [] 0 [1] (w1.alloc (.cells #[.int .i64 z.kind, .int .i64 z.fields, .int .i64 z.raws, .bool z.mark, .int .i64 2] 59)) rfl (HJ1.out _ _ _ HJ.out hba)
      have hq6 := C6.out.cell 0
      simp only [top12] at hq6
      clear hb1 hba q4 q5 q6 kc
      obtain ⟨fn, tmps, assign, body, hy, hR⟩ := HYa
      have HR := Lib.hid hR
      clear hR
      gi_wp2_with fail
      refine HR.out.mono ?_
      rintro e w3 ⟨rfl, hj3, hk3⟩
      have HJ3 := Lib.hid hj3
      have HK3 := Lib.hid hk3
      have HX3 : Hid (Blk w3 w1.heap.size 59 #[.int .i64 z.kind, .int .i64 z.fields, .int .i64 z.raws, .bool z.mark, .int .i64 2]) := hk3.2.2 _ _ HX.out
      have C63 : Hid (Blk w3 (w.heap.size + 6) 3 #[.int .i64 (top12 0)]) := (hk3.2.1 _ (by omega) (by omega)).trans C6.out
      have C43 : Hid (Blk w3 (w.heap.size + 4) 37 #[.pointer (some ⟨p, 0, none⟩)]) := (hk3.2.1 _ (by omega) (by omega)).trans C4.out
      have C53 : Hid (Blk w3 (w.heap.size + 5) 97 #[.slice A 2 c]) := (hk3.2.1 _ (by omega) (by omega)).trans C5.out
      have q4 := HX3.out.cell 4
      have q6 := C63.out.cell 0
      have u6 := C63.out.frozen 0
      have HB3 : Hid (Below w.heap.size w w3) := HBA.out.trans hk3.1
      clear hj3 hk3 hy HJ HR
      gi_wp2_with fail
      go_roundw
      case rel => exact ⟨1, by omega, HJ2.out _ _ _ HJ3.out, HB3.out.setCell (by simp) _, C43.out.far (by simp) _, C53.out.far (by simp) _, C63.out.set_ 0 _⟩
      case measure =>
        rw [topcell (x := 2) ((C63.out.set_ 0 (.int .i64 2)).cell 0), topcell (x := 1) (B6.out.cell 0)]
        simp
    · have kc : Hid (Calls Try.prog 125 #[.pointer (some ⟨p, 0, none⟩), .slice A 2 c, .int .i64 1] wr (Out wr (.tuple #[.agg #[.int .i64 (oH ws (sp 1).1).kind, .int .i64 (oH ws (sp 1).1).fields, .int .i64 (oH ws (sp 1).1).raws, .bool (oH ws (sp 1).1).mark, .int .i64 0], .int .i64 0]))) := by
        have := thead_ar 1 (by omega) (by omega) HL.out (HA.out.below HB.out) (HT.out.below HB.out)
        rw [HE1.out, HC1.out] at this
        exact this
      have q4 := B4.out.cell 0
      have q5 := B5.out.cell 0
      have q6 := B6.out.cell 0
      simp only [top12] at q6
      generalize oH ws (sp 1).1 = z at *
      gi_wp2_with fail
      refine ⟨trivial, (callsIn_wide.2 kc.out).mono ?_⟩
      rintro e w1 ⟨rfl, hb1⟩
      have HB1 := Lib.hid hb1
      have hba : Below wr.heap.size wr (w1.alloc (.cells #[.int .i64 z.kind, .int .i64 z.fields, .int .i64 z.raws, .bool z.mark, .int .i64 0] 59)) := hb1.alloc hb1.size _
      have HX := Lib.hid (Blk.new w1 59 #[.int .i64 z.kind, .int .i64 z.fields, .int .i64 z.raws, .bool z.mark, .int .i64 0])
      have C6 := Lib.hid (B6.out.below hba B6.out.lt)
      have C4 := Lib.hid (B4.out.below hba B4.out.lt)
      have C5 := Lib.hid (B5.out.below hba B5.out.lt)
      have HBA := Lib.hid (HB.out.trans (hba.mono HB.out.size))
      have HSZ := Lib.hid (show w1.heap.size < (w1.alloc (.cells #[.int .i64 z.kind, .int .i64 z.fields, .int .i64 z.raws, .bool z.mark, .int .i64 0] 59)).heap.size by simp)
      have HYa : YieldAt Fence.wide m Try.prog l #[.int .i64 1, .int .i64 0] (w1.alloc (.cells #[.int .i64 z.kind, .int .i64 z.fields, .int .i64 z.raws, .bool z.mark, .int .i64 0] 59)) (fun e W' => e = .returned (.bool true) ∧ J ([0, 1].take 2) W' ∧ Kp12 w.heap.size (w1.alloc (.cells #[.int .i64 z.kind, .int .i64 z.fields, .int .i64 z.raws, .bool z.mark, .int .i64 0] 59)) W') := HY.out [0] 1 [] (w1.alloc (.cells #[.int .i64 z.kind, .int .i64 z.fields, .int .i64 z.raws, .bool z.mark, .int .i64 0] 59)) rfl (HJ1.out _ _ _ HJ.out hba)
      have hq6 := C6.out.cell 0
      simp only [top12] at hq6
      clear hb1 hba q4 q5 q6 kc
      obtain ⟨fn, tmps, assign, body, hy, hR⟩ := HYa
      have HR := Lib.hid hR
      clear hR
      gi_wp2_with fail
      refine HR.out.mono ?_
      rintro e w3 ⟨rfl, hj3, hk3⟩
      have HJ3 := Lib.hid hj3
      have HK3 := Lib.hid hk3
      have HX3 : Hid (Blk w3 w1.heap.size 59 #[.int .i64 z.kind, .int .i64 z.fields, .int .i64 z.raws, .bool z.mark, .int .i64 0]) := hk3.2.2 _ _ HX.out
      have C63 : Hid (Blk w3 (w.heap.size + 6) 3 #[.int .i64 (top12 1)]) := (hk3.2.1 _ (by omega) (by omega)).trans C6.out
      have C43 : Hid (Blk w3 (w.heap.size + 4) 37 #[.pointer (some ⟨p, 0, none⟩)]) := (hk3.2.1 _ (by omega) (by omega)).trans C4.out
      have C53 : Hid (Blk w3 (w.heap.size + 5) 97 #[.slice A 2 c]) := (hk3.2.1 _ (by omega) (by omega)).trans C5.out
      have q4 := HX3.out.cell 4
      have q6 := C63.out.cell 0
      have u6 := C63.out.frozen 0
      have HB3 : Hid (Below w.heap.size w w3) := HBA.out.trans hk3.1
      clear hj3 hk3 hy HJ HR
      gi_wp2_with fail
      go_roundw
      case rel => exact ⟨2, by omega, HJ2.out _ _ _ HJ3.out, HB3.out.setCell (by simp) _, C43.out.far (by simp) _, C53.out.far (by simp) _, C63.out.set_ 0 _⟩
      case measure =>
        rw [topcell (x := 0) ((C63.out.set_ 0 (.int .i64 0)).cell 0), topcell (x := 2) (B6.out.cell 0)]
        simp
    · have q6 := B6.out.cell 0
      simp only [top12] at q6
      gi_wp2
      go_end0
      exact ⟨⟨_, rfl⟩, HJ.out⟩
end Go.Proofs.Ytcljgphipdbckaa
