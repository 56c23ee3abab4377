/- The walks of layer 2's statements: awake, ArenaNobody, ArenaMakes. -/
import Derived.Test.YtcljgphipdbckaaW02d
namespace Go.Proofs.Ytcljgphipdbckaa
open Go.RowKit

theorem below_grown {W w w' : World} {B : Nat} {row : Option Nat} (hb : Below B W w) (hg : w.grownBy w' row) (hB : B ≤ w.heap.size) (hr : ∀ k, row = some k → B ≤ k) : Below B W w' := hb.grown hg hB hr
theorem Turned.below {W w w' : World} {B p : Nat} {v : Value} {ws us : List Int} (h : Turned w B p v ws w') (ha : Ar w B p v us) (hb : Below B W w) (hB : B ≤ w.heap.size) : Below B W w' :=
  hb.grown h.2 hB (fun k hk => (ha.own.lt k hk).1)
theorem NoAr.nil_ (w : World) : NoAr w (.pointer none) := .inl rfl

theorem Ar.weak {w : World} {B B' p : Nat} {v : Value} {ws : List Int} (h : Ar w B p v ws) (hB : B' ≤ B) : Ar w B' p v ws := by
  refine ⟨Nat.le_trans hB h.base, h.blk, ⟨h.own.1, ?_⟩, h.fit⟩
  rcases h.own.2 with hn | ⟨g, cap, cur, hv, hb, rest⟩
  · exact .inl hn
  · exact .inr ⟨g, cap, cur, hv, Nat.le_trans hB hb, rest⟩
theorem MadeAr.open_ {W w w' : World} {ws : List Int} {e : Ending} (h : MadeAr w ws e w') (hb : Below W.heap.size W w) (hB : W.heap.size ≤ w.heap.size) :
    ∃ p v, e = .returned (.tuple #[.pointer (some ⟨p, 0, none⟩), .int .i64 0]) ∧ Hid (Ar w' W.heap.size p v ws) ∧ Hid (Below W.heap.size W w') ∧ Hid (Below w.heap.size w w') := by
  obtain ⟨p, v, e, ha, hb2⟩ := h
  exact ⟨p, v, e, ha.weak hB, hb.trans (hb2.mono hB), hb2⟩
theorem Turned.open_ {W w w' : World} {p : Nat} {v : Value} {us ws : List Int} (h : Turned w W.heap.size p v ws w') (ha : Ar w W.heap.size p v us) (hb : Below W.heap.size W w) :
    Hid (Ar w' W.heap.size p v ws) ∧ Hid (Below W.heap.size W w') := ⟨h.1, h.below ha hb hb.size⟩

set_option maxHeartbeats 1600000 in
theorem awake02 (W : World) : Calls Try.prog 34 #[] W fun e w' => e = .returned (.bool true) ∧ Below W.heap.size W w' := by
  have g1 : moveE 3 1 0 2 = 0 := by decide +kernel
  have g2 : moveL [1, 2, 3] 1 0 2 = [1, 1, 2] := by decide +kernel
  have g3 : rdV [1, 1, 2] 2 = 2 := by decide +kernel
  have g4 : atE 3 2 = 0 := by decide +kernel
  have g5 : atE 3 3 = 2 := by decide +kernel
  have g6 : rowE 3 0 4 = 2 := by decide +kernel
  have g8 : (zeros 2).length = 2 := zeros_length 2
  have g7 : fillL [1, 1, 2] 0 4 7 = [1, 1, 2] := by decide +kernel
  have hrw : Rw (W.alloc (.cells #[.int .u64 1, .int .u64 2, .int .u64 3] 22)) (.slice (some ⟨W.heap.size, 0, none⟩) 3 3) [1, 2, 3] :=
    Rw.of_own (B := 0) (World.ownsRow_lit W #[.int .u64 1, .int .u64 2, .int .u64 3] 3 (Nat.zero_le _) (by simp only [maxLen]; omega) rfl) (by
      intro x hx
      simp at hx
      rcases hx with rfl | rfl | rfl <;> exact ⟨by decide, by decide⟩)
  have c1 := Lib.hid (of_any hrw (by decide))
  have HB0 : Hid (Below W.heap.size W (W.alloc (.cells #[.int .u64 1, .int .u64 2, .int .u64 3] 22))) := (Below.refl W.heap.size W).alloc (Nat.le_refl _) _
  clear hrw
  go_enter Try.func34, Try.ntmps34
  go_wp2_with fail
  refine c1.out.mono ?_
  intro e w1 hm
  obtain ⟨p, v, rfl, HA, HB, _⟩ := hm.open_ HB0.out (by simp)
  clear hm c1
  go_wp2_with fail
  refine (move_ar 1 0 2 HA.out).mono ?_
  rintro e w2 ⟨rfl, ht⟩
  rw [g2] at ht
  obtain ⟨HA2, HB2⟩ := ht.open_ HA.out HB.out
  clear ht HA HB
  go_wp2_with fail
  refine (read_ar 2 HA2.out).mono ?_
  rintro e w' ⟨rfl, rfl⟩
  go_wp2_with fail
  refine (read_ar 3 HA2.out).mono ?_
  rintro e w' ⟨rfl, rfl⟩
  go_wp2_with fail
  refine (fill_ar 0 4 7 HA2.out ⟨by decide, by decide⟩).mono ?_
  rintro e w3 ⟨rfl, ht⟩
  rw [g7] at ht
  obtain ⟨HA3, HB3⟩ := ht.open_ HA2.out HB2.out
  clear ht HA2 HB2
  go_wp2_with fail
  refine (new_any 2 _ (by decide)).mono ?_
  intro e w4 hm
  obtain ⟨q, u, rfl, HC, HB4, HB5⟩ := hm.open_ HB3.out HB3.out.size
  have HA4 := Lib.hid (HA3.out.below HB5.out)
  clear hm HA3 HB3 HB5
  go_wp2_with fail
  refine (new_bad (-1) _ (.inl (by decide))).mono ?_
  rintro e w' ⟨rfl, rfl⟩
  go_wp2_with fail
  refine (len_ar HA4.out).mono ?_
  rintro e w' ⟨rfl, rfl⟩
  go_wp2_with fail
  refine (len_ar HC.out).mono ?_
  rintro e w' ⟨rfl, rfl⟩
  go_wp2_with fail
  refine (len_none _ _ (NoAr.nil_ _)).mono ?_
  rintro e w' ⟨rfl, rfl⟩
  go_wp2_with fail
  refine (write_none _ 0 1 _ (NoAr.nil_ _)).mono ?_
  rintro e w' ⟨rfl, rfl⟩
  go_wp2
  go_ret
  exact ⟨rfl, HB4.out⟩

set_option maxHeartbeats 1600000 in
theorem arenaNobody_walk (x n w : Int) (W : World) : Calls Try.prog 8 #[.int .i64 x, .int .i64 n, .int .u64 w] W fun e w' => e = .returned (.bool true) ∧ Below W.heap.size W w' := by
  go_enter Try.func8, Try.ntmps8
  go_wp2
  go_loopw [7] (fun i wr => ∃ k : Nat, k ≤ 2 ∧ i = .int .i64 (k : Nat) ∧ Hid (Below W.heap.size W wr)) (fun i _ => 2 - (intOf i).toNat)
  case atStart => exact ⟨0, by omega, rfl, Below.refl _ _⟩
  case round =>
    obtain ⟨k, hk, rfl, hb⟩ := hrel
    have cases3 : k = 0 ∨ k = 1 ∨ k = 2 := by omega
    rcases cases3 with rfl | rfl | rfl
    · have HN : Hid (NoAr wr (.pointer none)) := NoAr.nil_ _
      go_wp2_with (first
        | (go_at_call 36; refine (read_none _ _ _ HN.out).mono ?_; rintro e w' ⟨rfl, rfl⟩)
        | (go_at_call 37; refine (write_none _ _ _ _ HN.out).mono ?_; rintro e w' ⟨rfl, rfl⟩)
        | (go_at_call 38; refine (move_none _ _ _ _ _ HN.out).mono ?_; rintro e w' ⟨rfl, rfl⟩)
        | (go_at_call 40; refine (fill_none _ _ _ _ _ HN.out).mono ?_; rintro e w' ⟨rfl, rfl⟩)
        | (go_at_call 44; refine (len_none _ _ HN.out).mono ?_; rintro e w' ⟨rfl, rfl⟩)
        | (go_at_call 43; refine (words_none _ _ HN.out).mono ?_; rintro e w' ⟨rfl, rfl⟩))
      go_roundw
      case rel => exact ⟨1, by omega, rfl, hb⟩
      case measure => simp [intOf]
    · have HN : Hid (NoAr (wr.alloc (.cells #[.bool false, .slice none 0 0] 56)) (.pointer (some ⟨wr.heap.size, 0, none⟩))) := .inr ⟨wr.heap.size, rfl, by rw [World.cell?_alloc_new]; rfl⟩
      go_wp2_with (first
        | (go_at_call 36; refine (read_none _ _ _ HN.out).mono ?_; rintro e w' ⟨rfl, rfl⟩)
        | (go_at_call 37; refine (write_none _ _ _ _ HN.out).mono ?_; rintro e w' ⟨rfl, rfl⟩)
        | (go_at_call 38; refine (move_none _ _ _ _ _ HN.out).mono ?_; rintro e w' ⟨rfl, rfl⟩)
        | (go_at_call 40; refine (fill_none _ _ _ _ _ HN.out).mono ?_; rintro e w' ⟨rfl, rfl⟩)
        | (go_at_call 44; refine (len_none _ _ HN.out).mono ?_; rintro e w' ⟨rfl, rfl⟩)
        | (go_at_call 43; refine (words_none _ _ HN.out).mono ?_; rintro e w' ⟨rfl, rfl⟩))
      go_roundw
      case rel => exact ⟨2, by omega, rfl, hb.out.alloc hb.out.size _⟩
      case measure => simp [intOf]
    · go_wp2_with (refine (awake02 _).mono ?_; rintro e w' ⟨rfl, hb2⟩)
      go_ret
      exact ⟨rfl, hb.out.trans (hb2.mono hb.out.size)⟩
end Go.Proofs.Ytcljgphipdbckaa
