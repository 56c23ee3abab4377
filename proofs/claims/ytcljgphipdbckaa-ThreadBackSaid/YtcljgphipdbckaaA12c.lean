/- Layer 12's awake. -/
import Derived.Test.YtcljgphipdbckaaA12b
import Derived.Test.YtcljgphipdbckaaL08
import Derived.Test.YtcljgphipdbckaaL12
namespace Go.Proofs.Ytcljgphipdbckaa
set_option linter.unusedVariables false
set_option linter.unusedSimpArgs false
open Go.RowKit

namespace A12
def ya : List Int := [16777219, 0, 0, 0, 0, 0, 0, 0]
def yb : List Int := [16777219, 0, 0, 0, 33554435, 0, 0, 0]
def yc : List Int := [2199040032771, 0, 0, 0, 33554435, 0, 0, 0]
def sp : Nat → Int × Int
  | 0 => (0, 2)
  | _ => (4, 3)
theorem zeros_8' : zeros 8 = [0, 0, 0, 0, 0, 0, 0, 0] := by unfold zeros; rfl
theorem e1 : oUE (zeros 8) 0 ⟨0, 0, 1, false, 0⟩ = 0 ∧ oUL (zeros 8) 0 ⟨0, 0, 1, false, 0⟩ = ya := by rw [zeros_8']; decide +kernel
theorem e2 : oUE ya 4 ⟨0, 0, 2, false, 0⟩ = 0 ∧ oUL ya 4 ⟨0, 0, 2, false, 0⟩ = yb := by decide +kernel
theorem e3 : oE yb (sp 1).1 = 0 ∧ curL yb (sp 1).1 0 = yb := by decide +kernel
theorem e4 : oE yb (sp 0).1 = 0 ∧ curL yb (sp 0).1 2 = yc := by decide +kernel
theorem e5 : oE yc (sp 0).1 = 0 ∧ oE yc (sp 1).1 = 0 ∧ (oH yc (sp 0).1).cursor = 2 ∧ (oH yc (sp 1).1).cursor = 0 := by decide +kernel
attribute [irreducible] ya yb yc
theorem le : ya.length ≤ 1000000 ∧ yb.length ≤ 1000000 ∧ yc.length ≤ 1000000 := by unfold ya yb yc; decide
theorem spl2 : T12.spl sp 2 = [.int .i64 0, .int .i64 2, .int .i64 4, .int .i64 3] := rfl
end A12
open A12

set_option maxRecDepth 100000 in
set_option maxHeartbeats 8000000 in
theorem awake12 (W : World) : Calls Try.prog 84 #[] W (Out W (.bool true)) := by
  have k := Lib.hid (new_any 8 W (by decide))
  go_enter Try.func84, Try.ntmps84
  go_wp2_with fail
  refine k.out.mono ?_
  intro e w0 hm
  obtain ⟨p, v, rfl, HA, HB, _⟩ := hm.open_ (Below.refl _ _) (Nat.le_refl _)
  clear hm k
  have hown := World.ownsRow_lit (base := w0.heap.size) (e := 99) (size := 2) w0 #[.int .i64 0, .int .i64 2, .int .i64 4, .int .i64 3] 2 (Nat.le_refl _) (by unfold maxLen; omega) rfl
  have HR := Lib.hid (T12.spl_recs (f := sp) (by rw [spl2]; exact hown))
  have hal : Below w0.heap.size w0 (w0.alloc (.cells #[.int .i64 0, .int .i64 2, .int .i64 4, .int .i64 3] 99)) := (Below.refl _ _).alloc (Nat.le_refl _) _
  have HA := Lib.hid (HA.out.below hal)
  have HB := Lib.hid (below_tr HB.out hal)
  have HTB := Lib.hid (Blk.new w0 99 #[.int .i64 0, .int .i64 2, .int .i64 4, .int .i64 3])
  clear hal hown
  have k := oput_ar 0 ⟨0, 0, 1, false, 0⟩ HA.out
  rw [A12.e1.1, A12.e1.2] at k
  have k := Lib.hid k
  go_wp2_with fail
  refine k.out.mono ?_
  rintro e w1 ⟨rfl, ht⟩
  have hg := ht.2
  have HR := Lib.hid (HR.out.kept hg (.inr (fun e => own_blk_ne HA.out.own HTB.out (by decide) e.symm)))
  have HTB := Lib.hid (HTB.out.grown hg (fun e => HA.out.ne_blk HTB.out (by decide) e))
  obtain ⟨HA, HB⟩ := ht.open_ HA.out HB.out
  clear ht k hg
  have k := oput_ar 4 ⟨0, 0, 2, false, 0⟩ HA.out
  rw [A12.e2.1, A12.e2.2] at k
  have k := Lib.hid k
  go_wp2_with fail
  refine k.out.mono ?_
  rintro e w2 ⟨rfl, ht⟩
  have hg := ht.2
  have HR := Lib.hid (HR.out.kept hg (.inr (fun e => own_blk_ne HA.out.own HTB.out (by decide) e.symm)))
  have HTB := Lib.hid (HTB.out.grown hg (fun e => HA.out.ne_blk HTB.out (by decide) e))
  obtain ⟨HA, HB⟩ := ht.open_ HA.out HB.out
  clear ht k hg
  have k := push_ok 1 0 (by omega) (by omega) (by omega) (by omega) (by decide) A12.le.2.1 A12.e3.1 HA.out HR.out
  rw [A12.e3.2] at k
  have k := Lib.hid (show Calls Try.prog 85 #[.pointer (some ⟨p, 0, none⟩), .slice (some ⟨w0.heap.size, 0, none⟩) 2 2, .int .i64 0, .int .i64 1] w2 (fun e w' => e = .returned (.tuple #[.int .i64 2, .int .i64 0]) ∧ Turned w2 W.heap.size p v yb w') from k)
  go_wp2_with fail
  refine k.out.mono ?_
  rintro e w3 ⟨rfl, ht⟩
  have hg := ht.2
  have HR := Lib.hid (HR.out.kept hg (.inr (fun e => own_blk_ne HA.out.own HTB.out (by decide) e.symm)))
  have HTB := Lib.hid (HTB.out.grown hg (fun e => HA.out.ne_blk HTB.out (by decide) e))
  obtain ⟨HA, HB⟩ := ht.open_ HA.out HB.out
  clear ht k hg
  have k := push_ok 0 2 (by omega) (by omega) (by omega) (by omega) (by decide) A12.le.2.1 A12.e4.1 HA.out HR.out
  rw [A12.e4.2] at k
  have k := Lib.hid (show Calls Try.prog 85 #[.pointer (some ⟨p, 0, none⟩), .slice (some ⟨w0.heap.size, 0, none⟩) 2 2, .int .i64 2, .int .i64 0] w3 (fun e w' => e = .returned (.tuple #[.int .i64 1, .int .i64 0]) ∧ Turned w3 W.heap.size p v yc w') from k)
  go_wp2_with fail
  refine k.out.mono ?_
  rintro e w4 ⟨rfl, ht⟩
  have hg := ht.2
  have HR := Lib.hid (HR.out.kept hg (.inr (fun e => own_blk_ne HA.out.own HTB.out (by decide) e.symm)))
  have HTB := Lib.hid (HTB.out.grown hg (fun e => HA.out.ne_blk HTB.out (by decide) e))
  obtain ⟨HA, HB⟩ := ht.open_ HA.out HB.out
  clear ht k hg
  have k := Lib.hid (all_two A12.le.2.2 (by decide) (by decide) A12.e5.1 A12.e5.2.1 A12.e5.2.2.1 A12.e5.2.2.2 HA.out HR.out)
  go_wp2_with fail
  refine k.out.mono ?_
  rintro e w5 ⟨A, c, rfl, ho, hb⟩
  have HR := Lib.hid (HR.out.below hb)
  have HTB := Lib.hid (HTB.out.below hb HTB.out.lt)
  have HA := Lib.hid (HA.out.below hb)
  have HB := Lib.hid (below_tr HB.out hb)
  have HO := Lib.hid ho
  clear ho k hb
  have k := pop_ok 0 (by omega) (by omega) (by decide) A12.le.2.2 A12.e5.1 HA.out HR.out
  rw [A12.e5.2.2.1] at k
  have k := Lib.hid (show Calls Try.prog 86 #[.pointer (some ⟨p, 0, none⟩), .slice (some ⟨w0.heap.size, 0, none⟩) 2 2, .int .i64 1] w5 (fun e w' => e = .returned (.tuple #[.int .i64 2, .int .i64 0, .int .i64 0]) ∧ Turned w5 W.heap.size p v (curL yc (sp 0).1 0) w') from k)
  go_wp2_with fail
  refine k.out.mono ?_
  rintro e w6 ⟨rfl, ht⟩
  have hg := ht.2
  have HR := Lib.hid (HR.out.kept hg (.inr (fun e => own_blk_ne HA.out.own HTB.out (by decide) e.symm)))
  have HTB := Lib.hid (HTB.out.grown hg (fun e => HA.out.ne_blk HTB.out (by decide) e))
  have HO := Lib.hid (HO.out.kept hg (T12.own_ne HO.out HA.out.own (by decide)))
  obtain ⟨HA, HB⟩ := ht.open_ HA.out HB.out
  clear ht k hg
  have k := Lib.hid (pop_none (.pointer (some ⟨p, 0, none⟩)) (some ⟨w0.heap.size, 0, none⟩) 2 2 0 w6 (by omega))
  go_wp2_with fail
  refine k.out.mono ?_
  rintro e w7 ⟨rfl, rfl⟩
  clear k
  have hl : ∃ g, A = some ⟨g, 0, none⟩ ∧ w6.cell? ⟨g, 0, none⟩ = some (.int .i64 0) ∧ w6.cell? ⟨g, 1, none⟩ = some (.int .i64 1) := by
    have h := HO.out
    rcases h.2 with ⟨_, e⟩ | ⟨g, cap, cur, e, _⟩
    · cases e
    · injection e with e1 e2 e3
      subst e1 e3
      exact ⟨g, rfl, h.cellAt 0 (by omega), h.cellAt 1 (by omega)⟩
  obtain ⟨g, rfl, q0, q1⟩ := hl
  go_wp2
  go_ret
  exact Out.mk' rfl HB.out

set_option maxRecDepth 100000 in
set_option maxHeartbeats 1600000 in
theorem threadBack_any {W : World} {S O : Option Addr} {s ord : List Int} {cs co : Nat} (hs : T12.Iw W (.slice S s.length cs) s) (ho : T12.Iw W (.slice O ord.length co) ord) :
    Calls Try.prog 16 #[.slice S s.length cs, .slice O ord.length co] W (Out W (.bool true)) := by
  by_cases h : s.length ≤ 30 ∧ ord.length ≤ 30
  · exact threadBack_short awake12 hs ho h.1 h.2
  · have h1 : (30 : Int) < (s.length : Int) ∨ ((s.length : Int) ≤ 30 ∧ (30 : Int) < (ord.length : Int)) := by omega
    generalize s.length = n at *
    generalize ord.length = m at *
    clear h hs ho
    have k := Lib.hid (awake12 W)
    rcases h1 with h1 | ⟨h1, h2⟩
    all_goals
      go_enter Try.func16, Try.ntmps16
      go_wp2_with fail
      refine k.out.mono ?_
      rintro e w' ⟨rfl, hb⟩
      go_wp2
      go_ret
      exact Out.mk' rfl hb
end Go.Proofs.Ytcljgphipdbckaa
