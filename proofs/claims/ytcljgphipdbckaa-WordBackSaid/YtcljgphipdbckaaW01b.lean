/- The walks of layer 1 (word), second part: counts, the lowest and the highest bit. -/
import Derived.Test.YtcljgphipdbckaaW01
namespace Go.Proofs.Ytcljgphipdbckaa
open Go.RowKit

/-! ### counts, lowest, highest -/
set_option maxHeartbeats 400000 in
theorem ones_any (w : Int) (W : World) (hw : U64 w) :
    Calls Try.prog 26 #[.int .u64 w] W fun e w' => e = .returned (.int .i64 (popF 64 w.toNat : Nat)) ∧ W = w' := by
  obtain ⟨V, rfl, hV⟩ := hw.nat
  clear hw
  have hle := popF_le 64 V
  go_enter Try.func26, Try.ntmps26
  go_wp2
  go_loop [0, 3] (fun u n => ∃ U k : Nat, U < 18446744073709551616 ∧ k + popF 64 U = popF 64 V ∧ u = .int .u64 (U : Nat) ∧ n = .int .i64 (k : Nat)) (fun u _ => (intOf u).toNat)
  case atStart => exact ⟨V, 0, hV, by simp, rfl, rfl⟩
  case round =>
    obtain ⟨U, k, hU, hk, rfl, rfl⟩ := hrel
    by_cases hz : U = 0
    · subst hz
      rw [popF_zero] at hk
      obtain rfl : k = popF 64 V := by omega
      clear hk
      go_wp2
      go_ret
      exact ⟨rfl, rfl⟩
    · have hp := popF_pred 64 U (by omega) hz
      have hlt := and_pred_lt U hz
      have hst := Lib.hid (and_word U hU hz)
      have hk' : k ≤ 64 := by omega
      have hne : ((U : Int) != 0) = true := by rw [bne_iff_ne]; omega
      have HP := Lib.hid hp
      have HK := Lib.hid hk
      clear hp hk
      go_wp2
      go_round
      case rel => exact ⟨U &&& (U - 1), k + 1, by omega, by have := HP.out; have := HK.out; omega, by rw [hst.out], by go_num⟩
      case measure =>
        rw [hst.out]
        simp [intOf] <;> omega

set_option maxHeartbeats 400000 in
theorem rones_any (w : Int) (W : World) (hw : U64 w) :
    Calls Try.prog 27 #[.int .u64 w] W fun e w' => e = .returned (.int .i64 (popF 64 w.toNat : Nat)) ∧ W = w' := by
  obtain ⟨V, rfl, hV⟩ := hw.nat
  clear hw
  have hle := popF_le 64 V
  go_enter Try.func27, Try.ntmps27
  go_wp2
  go_loop [3, 4] (fun n i => ∃ k m : Nat, k ≤ 64 ∧ m + popF (64 - k) (V / 2 ^ k) = popF 64 V ∧ i = .int .i64 (k : Nat) ∧ n = .int .i64 (m : Nat)) (fun _ i => 64 - (intOf i).toNat)
  case atStart => exact ⟨0, 0, by omega, by simp, rfl, rfl⟩
  case round =>
    obtain ⟨k, m, hk, hm, rfl, rfl⟩ := hrel
    by_cases hlt : k < 64
    · have hm' : m ≤ 64 := by omega
      have HM := Lib.hid hm
      have HS := Lib.hid (popF_step V k hlt)
      clear hm
      by_cases hb : V.testBit k = true
      · have e := bitN_yes hb
        rw [hb] at HS
        clear hb
        go_wp2_with (go_at_call 94; refine (bit_any _ _ _ (U64.of hV) (by omega) (by omega)).mono ?_; rintro e w' ⟨rfl, rfl⟩)
        go_round
        case rel => exact ⟨k + 1, m + 1, by omega, by have := HM.out; have h2 := HS.out; simp only [Bool.toNat_true] at h2; omega, by go_num, by go_num⟩
        case measure => simp [intOf] <;> omega
      · have e := bitN_no hb
        rw [Bool.not_eq_true] at hb
        rw [hb] at HS
        clear hb
        go_wp2_with (go_at_call 94; refine (bit_any _ _ _ (U64.of hV) (by omega) (by omega)).mono ?_; rintro e w' ⟨rfl, rfl⟩)
        go_round
        case rel => exact ⟨k + 1, m, by omega, by have := HM.out; have h2 := HS.out; simp only [Bool.toNat_false] at h2; omega, by go_num, by go_num⟩
        case measure => simp [intOf] <;> omega
    · obtain rfl : k = 64 := by omega
      rw [Nat.sub_self, popF_nil] at hm
      obtain rfl : m = popF 64 V := by omega
      clear hm
      go_wp2
      go_ret
      exact ⟨rfl, rfl⟩

set_option maxHeartbeats 400000 in
theorem place_low (i : Int) (W : World) : Calls Try.prog 97 #[.int .i64 i] W fun e w' => e = .returned (.int .i64 i) ∧ W = w' := by
  go_enter Try.func97, Try.ntmps97
  go_wp2
  go_ret
  exact ⟨rfl, rfl⟩
set_option maxHeartbeats 400000 in
theorem place_high (i : Int) (W : World) (h0 : 0 ≤ i) (h1 : i ≤ 63) : Calls Try.prog 98 #[.int .i64 i] W fun e w' => e = .returned (.int .i64 (63 - i)) ∧ W = w' := by
  go_enter Try.func98, Try.ntmps98
  go_wp2
  go_ret
  exact ⟨rfl, rfl⟩

theorem bit_yes {V k : Nat} (hV : V < 18446744073709551616) (h : V.testBit k = true) : bits .and .u64 ((V : Int) / 2 ^ k) 1 = 1 := by rw [bit_word V k hV, h]; rfl
theorem bit_no {V k : Nat} (hV : V < 18446744073709551616) (h : ¬ V.testBit k = true) : bits .and .u64 ((V : Int) / 2 ^ k) 1 = 0 := by
  rw [Bool.not_eq_true] at h
  rw [bit_word V k hV, h]; rfl

set_option maxHeartbeats 400000 in
theorem low_any (w : Int) (W : World) (hw : U64 w) :
    Calls Try.prog 28 #[.int .u64 w] W fun e w' => e = .returned (.int .i64 (lowF w.toNat 64)) ∧ W = w' := by
  obtain ⟨V, rfl, hV⟩ := hw.nat
  clear hw
  have find : Calls Try.prog 96 #[.int .u64 (V : Nat), .func (.func 97) #[] #[]] W fun e w' => e = .returned (.int .i64 (lowF V 64)) ∧ W = w' := by
    go_enter Try.func96, Try.ntmps96
    go_wp2
    go_loop [6] (fun i => ∃ k : Nat, k ≤ 64 ∧ i = .int .i64 (k : Nat) ∧ Hid (lowF V (64 - k) = lowF V 64)) (fun i => 64 - (intOf i).toNat)
    case atStart => exact ⟨0, by omega, rfl, rfl⟩
    case round =>
      obtain ⟨k, hk, rfl, hl⟩ := hrel
      by_cases hlt : k < 64
      · by_cases hb : V.testBit k = true
        · have e := bit_yes hV hb
          have hl2 := Lib.hid (show lowF V 64 = k by
            have h1 := lowF_yes V (63 - k) (by rw [show 63 - (63 - k) = k by omega]; exact hb)
            rw [← hl.out, show 64 - k = 63 - k + 1 by omega, h1]; omega)
          clear hb hl
          go_wp2_with (go_at_call 97; refine (place_low _ _).mono ?_; rintro e w' ⟨rfl, rfl⟩)
          go_ret
          exact ⟨ret_int (by rw [hl2.out]), rfl⟩
        · have e := bit_no hV hb
          have hl2 := Lib.hid (show lowF V (64 - (k + 1)) = lowF V 64 by
            have h1 := lowF_no V (63 - k) (by rw [show 63 - (63 - k) = k by omega]; exact hb)
            rw [← hl.out, show 64 - k = 63 - k + 1 by omega, h1, show 64 - (k + 1) = 63 - k by omega])
          clear hb hl
          go_wp2_with (go_at_call 97; refine (place_low _ _).mono ?_; rintro e w' ⟨rfl, rfl⟩)
          go_round
          case rel => exact ⟨k + 1, by omega, by go_num, hl2⟩
          case measure => simp [intOf] <;> omega
      · obtain rfl : k = 64 := by omega
        go_wp2
        go_ret
        exact ⟨ret_int (by rw [← hl.out, Nat.sub_self, lowF_nil]), rfl⟩
  have H := Lib.hid find
  clear find
  go_enter Try.func28, Try.ntmps28
  go_wp2_with (refine H.out.mono ?_; rintro e w' ⟨rfl, rfl⟩)
  go_ret
  exact ⟨rfl, rfl⟩

set_option maxHeartbeats 400000 in
theorem high_any (w : Int) (W : World) (hw : U64 w) :
    Calls Try.prog 30 #[.int .u64 w] W fun e w' => e = .returned (.int .i64 (highF w.toNat 64)) ∧ W = w' := by
  obtain ⟨V, rfl, hV⟩ := hw.nat
  clear hw
  have find : Calls Try.prog 96 #[.int .u64 (V : Nat), .func (.func 98) #[] #[]] W fun e w' => e = .returned (.int .i64 (highF V 64)) ∧ W = w' := by
    go_enter Try.func96, Try.ntmps96
    go_wp2
    go_loop [6] (fun i => ∃ k : Nat, k ≤ 64 ∧ i = .int .i64 (k : Nat) ∧ Hid (highF V (64 - k) = highF V 64)) (fun i => 64 - (intOf i).toNat)
    case atStart => exact ⟨0, by omega, rfl, rfl⟩
    case round =>
      obtain ⟨k, hk, rfl, hl⟩ := hrel
      by_cases hlt : k < 64
      · by_cases hb : V.testBit (63 - k) = true
        · have e := bit_yes hV hb
          have hl2 := Lib.hid (show highF V 64 = (63 : Int) - k by
            have h1 := highF_yes V (63 - k) hb
            rw [← hl.out, show 64 - k = 63 - k + 1 by omega, h1]; omega)
          clear hb hl
          go_wp2_with (go_at_call 98; refine (place_high _ _ (by omega) (by omega)).mono ?_; rintro e w' ⟨rfl, rfl⟩)
          go_ret
          exact ⟨ret_int (by rw [hl2.out]), rfl⟩
        · have e := bit_no hV hb
          have hl2 := Lib.hid (show highF V (64 - (k + 1)) = highF V 64 by
            have h1 := highF_no V (63 - k) hb
            rw [← hl.out, show 64 - k = 63 - k + 1 by omega, h1, show 64 - (k + 1) = 63 - k by omega])
          clear hb hl
          go_wp2_with (go_at_call 98; refine (place_high _ _ (by omega) (by omega)).mono ?_; rintro e w' ⟨rfl, rfl⟩)
          go_round
          case rel => exact ⟨k + 1, by omega, by go_num, hl2⟩
          case measure => simp [intOf] <;> omega
      · obtain rfl : k = 64 := by omega
        go_wp2
        go_ret
        exact ⟨ret_int (by rw [← hl.out, Nat.sub_self, highF_nil]), rfl⟩
  have H := Lib.hid find
  clear find
  go_enter Try.func30, Try.ntmps30
  go_wp2_with (refine H.out.mono ?_; rintro e w' ⟨rfl, rfl⟩)
  go_ret
  exact ⟨rfl, rfl⟩

set_option maxHeartbeats 400000 in
theorem rlow_any (w : Int) (W : World) (hw : U64 w) :
    Calls Try.prog 29 #[.int .u64 w] W fun e w' => e = .returned (.int .i64 (lowF w.toNat 64)) ∧ W = w' := by
  obtain ⟨V, rfl, hV⟩ := hw.nat
  clear hw
  go_enter Try.func29, Try.ntmps29
  go_wp2
  go_loop [3] (fun i => ∃ k : Nat, k ≤ 64 ∧ i = .int .i64 (k : Nat) ∧ Hid (lowF V (64 - k) = lowF V 64)) (fun i => 64 - (intOf i).toNat)
  case atStart => exact ⟨0, by omega, rfl, rfl⟩
  case round =>
    obtain ⟨k, hk, rfl, hl⟩ := hrel
    by_cases hlt : k < 64
    · by_cases hb : V.testBit k = true
      · have e := bitN_yes hb
        have hl2 := Lib.hid (show lowF V 64 = k by
          have h1 := lowF_yes V (63 - k) (by rw [show 63 - (63 - k) = k by omega]; exact hb)
          rw [← hl.out, show 64 - k = 63 - k + 1 by omega, h1]; omega)
        clear hb hl
        go_wp2_with (go_at_call 94; refine (bit_any _ _ _ (U64.of hV) (by omega) (by omega)).mono ?_; rintro e w' ⟨rfl, rfl⟩)
        go_ret
        exact ⟨ret_int (by rw [Int.toNat_natCast, hl2.out]), rfl⟩
      · have e := bitN_no hb
        have hl2 := Lib.hid (show lowF V (64 - (k + 1)) = lowF V 64 by
          have h1 := lowF_no V (63 - k) (by rw [show 63 - (63 - k) = k by omega]; exact hb)
          rw [← hl.out, show 64 - k = 63 - k + 1 by omega, h1, show 64 - (k + 1) = 63 - k by omega])
        clear hb hl
        go_wp2_with (go_at_call 94; refine (bit_any _ _ _ (U64.of hV) (by omega) (by omega)).mono ?_; rintro e w' ⟨rfl, rfl⟩)
        go_round
        case rel => exact ⟨k + 1, by omega, by go_num, hl2⟩
        case measure => simp [intOf] <;> omega
    · obtain rfl : k = 64 := by omega
      go_wp2
      go_ret
      exact ⟨ret_int (by rw [← hl.out, Nat.sub_self, lowF_nil]), rfl⟩

set_option maxHeartbeats 400000 in
theorem rhigh_any (w : Int) (W : World) (hw : U64 w) :
    Calls Try.prog 31 #[.int .u64 w] W fun e w' => e = .returned (.int .i64 (highF w.toNat 64)) ∧ W = w' := by
  obtain ⟨V, rfl, hV⟩ := hw.nat
  clear hw
  go_enter Try.func31, Try.ntmps31
  go_wp2
  go_loop [3] (fun i => ∃ k : Nat, k ≤ 64 ∧ i = .int .i64 (63 - (k : Int)) ∧ Hid (highF V (64 - k) = highF V 64)) (fun i => (intOf i + 1).toNat)
  case atStart => exact ⟨0, by omega, by simp, rfl⟩
  case round =>
    obtain ⟨k, hk, rfl, hl⟩ := hrel
    by_cases hlt : k < 64
    · by_cases hb : V.testBit (63 - k) = true
      · have e := bitN_yes hb
        have hl2 := Lib.hid (show highF V 64 = (63 : Int) - k by
          have h1 := highF_yes V (63 - k) hb
          rw [← hl.out, show 64 - k = 63 - k + 1 by omega, h1]; omega)
        clear hb hl
        go_wp2_with (go_at_call 94; refine (bit_any _ _ _ (U64.of hV) (by omega) (by omega)).mono ?_; rintro e w' ⟨rfl, rfl⟩)
        go_ret
        exact ⟨ret_int (by rw [Int.toNat_natCast, hl2.out]), rfl⟩
      · have e := bitN_no hb
        have hl2 := Lib.hid (show highF V (64 - (k + 1)) = highF V 64 by
          have h1 := highF_no V (63 - k) hb
          rw [← hl.out, show 64 - k = 63 - k + 1 by omega, h1, show 64 - (k + 1) = 63 - k by omega])
        clear hb hl
        go_wp2_with (go_at_call 94; refine (bit_any _ _ _ (U64.of hV) (by omega) (by omega)).mono ?_; rintro e w' ⟨rfl, rfl⟩)
        go_round
        case rel => exact ⟨k + 1, by omega, by go_num, hl2⟩
        case measure => simp [intOf] <;> omega
    · obtain rfl : k = 64 := by omega
      go_wp2
      go_ret
      exact ⟨ret_int (by rw [← hl.out, Nat.sub_self, highF_nil]), rfl⟩

end Go.Proofs.Ytcljgphipdbckaa
