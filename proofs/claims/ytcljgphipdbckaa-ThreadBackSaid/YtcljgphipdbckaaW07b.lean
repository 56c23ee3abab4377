/- The walks of layer 7 (head), second part: Enc. -/
import Derived.Test.YtcljgphipdbckaaW07
namespace Go.Proofs.Ytcljgphipdbckaa
set_option linter.unusedVariables false
set_option linter.unusedSimpArgs false
open Go.RowKit

theorem below_tr {A w w' : World} (h : Below A.heap.size A w) (h2 : Below w.heap.size w w') : Below A.heap.size A w' := h.trans (h2.mono h.size)

theorem below_dr {B : Nat} {A w : World} (h : Below B A w) (k : Nat) : Below B A (w.drewN k) := ⟨h.os, h.tape, h.output, h.size, h.block⟩
theorem enc_not {h : Hd} (hm : mayB h = false) : 0 = encW h ∧ 1 = encE h := by unfold encW encE; rw [hm]; simp
theorem enc_yes {h : Hd} (hm : mayB h = true) : encI h = encW h ∧ 0 = encE h := by unfold encW encE; rw [hm]; simp
theorem okTo_next {h : Hd} {k : Nat} (ho : okTo h k) (h1 : 0 ≤ nm h k) (h2 : nm h k ≤ pm k) : okTo h (k + 1) := fun j hj => by
  rcases Nat.lt_or_ge j k with h | h
  · exact ho j h
  · have : j = k := by omega
    subst this; exact ⟨h1, h2⟩
theorem may_not {h : Hd} {k : Nat} (hk : k < 5) (hx : nm h k < 0 ∨ (pm k : Int) < nm h k) : mayB h = false := by
  cases hm : mayB h with
  | false => rfl
  | true => have := (okTo_may h).2 hm k hk; omega

set_option maxRecDepth 100000 in
set_option maxHeartbeats 3200000 in
theorem enc_core (h : Hd) (W : World) : Calls Try.prog 46 #[.agg h.cells] W (Out W (.tuple #[.int .u64 (encW h), .int .i64 (encE h)])) := by
  unfold Hd.cells
  have hn : okTo h 0 := fun j hj => absurd hj (by omega)
  have h3 : Hid ((accN h 0 : Nat) = 3) := by show accN h 0 = 3; unfold accN; rfl
  have HP := fun w => Lib.hid (parts_any w)
  have HN := fun w => Lib.hid (numbers_any h.kind h.fields h.raws h.mark h.cursor w)
  have hget := Lib.hid (nm_get h)
  have HM := Lib.hid (okTo_may h)
  have HPB : Hid (∀ k, k < 5 → pat k + pn k ≤ 64 ∧ 1 ≤ pn k ∧ pm k < 2 ^ pn k ∧ pm k ≤ 1048576 ∧ pat k < 64) := fun k hk => pat_bd hk
  have HPUT : Hid (∀ k, k < 5 → okTo h (k + 1) → ∀ W, Calls Try.prog 21 #[.int .u64 (accN h k : Nat), .int .i64 (pat k : Nat), .int .i64 (pn k : Nat), .int .u64 (nm h k)] W fun e W' => e = .returned (.tuple #[.int .u64 (accN h (k + 1) : Nat), .bool true]) ∧ ∃ n, W.drewN n = W') := fun k hk ho w => put_part h k hk ho w
  have HIX : Hid (∀ k, k < 5 → ∀ w, (Instr.index 129 (.agg #[.int .i64 2, .int .i64 1, .int .i64 1, .int .i64 3, .int .i64 5, .int .i64 31, .int .i64 8, .int .i64 16, .int .i64 4096, .int .i64 24, .int .i64 16, .int .i64 4096, .int .i64 40, .int .i64 24, .int .i64 1048576]) (.int .i64 (k : Nat))).run Try.prog w = .ok (.agg #[.int .i64 (pat k : Nat), .int .i64 (pn k : Nat), .int .i64 (pm k : Nat)]) w) := fun k hk w => part_index k hk w
  go_enter Try.func46, Try.ntmps46
  go_wp2_with fail
  refine (HN _).out.mono ?_
  rintro e w1 ⟨rfl, hb⟩
  have HB1 := Lib.hid (((Below.refl W.heap.size W).alloc (Nat.le_refl _) _).trans (hb.mono (by simp)))
  clear hb HN
  have HL0 := Lib.hid (Blk.new w1 125 #[.int .i64 (mk h.mark), .int .i64 h.kind, .int .i64 h.fields, .int .i64 h.raws, .int .i64 h.cursor])
  have HB2 := Lib.hid (HB1.out.alloc HB1.out.size (.cells #[.int .i64 (mk h.mark), .int .i64 h.kind, .int .i64 h.fields, .int .i64 h.raws, .int .i64 h.cursor] 125))
  have HG1 := Lib.hid HB1.out.size
  clear HB1
  go_wp2_with fail
  refine (HP _).out.mono ?_
  rintro e w2 ⟨rfl, hb⟩
  have HL := Lib.hid (HL0.out.below hb HL0.out.lt)
  have HB := Lib.hid (below_tr HB2.out hb)
  clear hb HP HL0 HB2
  go_wp2
  go_loopw [4, 11] (fun x i wr => ∃ k : Nat, k ≤ 5 ∧ i = .int .i64 (k : Nat) ∧ x = .int .u64 (accN h k : Nat) ∧ Hid (okTo h k) ∧ Hid (Blk wr w1.heap.size 125 #[.int .i64 (mk h.mark), .int .i64 h.kind, .int .i64 h.fields, .int .i64 h.raws, .int .i64 h.cursor]) ∧ Hid (Below W.heap.size W wr)) (fun _ i _ => 5 - (intOf i).toNat)
  case atStart => exact ⟨0, by omega, rfl, by rw [h3.out]; rfl, hn, HL, HB⟩
  case round =>
    clear HL HB hn h3
    obtain ⟨k, hk, rfl, rfl, ho, hl, hb⟩ := hrel
    by_cases hlt : k < 5
    · have hix := HIX.out k hlt
      have q := hl.out.cell k
      rw [hget.out k hlt] at q
      have i0 : (0 : Int) ≤ (k : Int) := by omega
      have i1 : (k : Int) < 5 := by omega
      have hl2 := Lib.hid (hl.out.alloc (.cells #[.int .i64 (pat k : Nat), .int .i64 (pn k : Nat), .int .i64 (pm k : Nat)] 128))
      have hb2 := Lib.hid (hb.out.alloc hb.out.size (.cells #[.int .i64 (pat k : Nat), .int .i64 (pn k : Nat), .int .i64 (pm k : Nat)] 128))
      have hlw := hl.out.lt
      by_cases c1 : nm h k < 0
      · have hz := Lib.hid (enc_not (may_not hlt (.inl c1)))
        go_wp2
        go_quiet (fail)
        go_wp2
        go_ret2
        exact Out.mk2 hz.out.1 hz.out.2 (below_dr hb2.out _)
      · by_cases c2 : (pm k : Int) < nm h k
        · have hz := Lib.hid (enc_not (may_not hlt (.inr c2)))
          go_wp2
          go_quiet (fail)
          go_wp2
          go_ret2
          exact Out.mk2 hz.out.1 hz.out.2 (below_dr hb2.out _)
        · have c3 : 0 ≤ nm h k := by omega
          have c4 : nm h k ≤ 1048576 := by have := (HPB.out k hlt).2.2.2.1; omega
          have ho2 := Lib.hid (okTo_next ho.out c3 (by omega))
          have HPK := Lib.hid (HPUT.out k hlt ho2.out)
          go_wp2
          go_quiet (fail)
          go_wp2
          go_quiet ((go_at_call 21; (first | exact quiet_add (HPK.out _) | exact quiet_ex (HPK.out _))))
          go_wp2
          go_roundw
          case rel => exact ⟨k + 1, by omega, by go_num, rfl, ho2, hl2.out.drewN _, below_dr hb2.out _⟩
          case measure => simp [intOf] <;> omega
    · obtain rfl : k = 5 := by omega
      have hm := HM.out.1 ho.out
      have hz := Lib.hid (enc_yes hm)
      have hla := Lib.hid (accN_last h hm)
      go_wp2
      go_ret2
      exact Out.mk2 (by rw [hla.out]; exact hz.out.1) hz.out.2 hb.out
end Go.Proofs.Ytcljgphipdbckaa
