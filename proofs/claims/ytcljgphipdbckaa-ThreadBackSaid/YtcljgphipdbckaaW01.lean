/- The walks of layer 1 (word) and of its reference. -/
import Derived.Test.YtcljgphipdbckaaK
import Derived.Test.YtcljgphipdbckaaP01
namespace Go.Proofs.Ytcljgphipdbckaa
open Go.RowKit

set_option maxHeartbeats 400000 in
theorem part_any (x n : Int) (w : World) :
    Calls Try.prog 91 #[.int .i64 x, .int .i64 n] w fun e w' => e = .returned (.bool (partB x n)) ∧ w = w' := by
  have hy : Hid (∀ b, partB x n = b → Calls Try.prog 91 #[.int .i64 x, .int .i64 n] w (fun e w' => e = .returned (.bool b) ∧ w = w') → Calls Try.prog 91 #[.int .i64 x, .int .i64 n] w fun e w' => e = .returned (.bool (partB x n)) ∧ w = w') :=
    fun b h c => h ▸ c
  by_cases h0 : 0 ≤ x
  · by_cases h1 : x < 64
    · by_cases h2 : 1 ≤ n
      · by_cases h3 : n ≤ 64 - x
        · refine hy.out true (by simp [partB, *]) ?_
          clear hy
          go_enter Try.func91, Try.ntmps91
          go_wp2
          go_ret
          exact ⟨rfl, rfl⟩
        · refine hy.out false (by simp [partB, *]) ?_
          clear hy
          go_enter Try.func91, Try.ntmps91
          go_wp2
          go_ret
          exact ⟨rfl, rfl⟩
      · refine hy.out false (by simp [partB, *]) ?_
        clear hy
        go_enter Try.func91, Try.ntmps91
        go_wp2
        go_ret
        exact ⟨rfl, rfl⟩
    · refine hy.out false (by simp [partB, *]) ?_
      clear hy
      go_enter Try.func91, Try.ntmps91
      go_wp2
      go_ret
      exact ⟨rfl, rfl⟩
  · refine hy.out false (by simp [partB, *]) ?_
    clear hy
    go_enter Try.func91, Try.ntmps91
    go_wp2
    go_ret
    exact ⟨rfl, rfl⟩

set_option maxHeartbeats 400000 in
theorem rpart_any (x n : Int) (w : World) :
    Calls Try.prog 93 #[.int .i64 x, .int .i64 n] w fun e w' => e = .returned (.bool (partB x n)) ∧ w = w' := by
  have hy : Hid (∀ b, partB x n = b → Calls Try.prog 93 #[.int .i64 x, .int .i64 n] w (fun e w' => e = .returned (.bool b) ∧ w = w') → Calls Try.prog 93 #[.int .i64 x, .int .i64 n] w fun e w' => e = .returned (.bool (partB x n)) ∧ w = w') :=
    fun b h c => h ▸ c
  by_cases h0 : x < 0
  · refine hy.out false (by simp [partB]; omega) ?_
    clear hy
    go_enter Try.func93, Try.ntmps93
    go_wp2
    go_ret
    exact ⟨rfl, rfl⟩
  by_cases h1 : n < 1
  · refine hy.out false (by simp [partB]; omega) ?_
    clear hy
    go_enter Try.func93, Try.ntmps93
    go_wp2
    go_ret
    exact ⟨rfl, rfl⟩
  by_cases h2 : 64 < x
  · refine hy.out false (by simp [partB]; omega) ?_
    clear hy
    go_enter Try.func93, Try.ntmps93
    go_wp2
    go_ret
    exact ⟨rfl, rfl⟩
  by_cases h3 : 64 < n
  · refine hy.out false (by simp [partB]; omega) ?_
    clear hy
    go_enter Try.func93, Try.ntmps93
    go_wp2
    go_ret
    exact ⟨rfl, rfl⟩
  by_cases h4 : x + n ≤ 64
  · refine hy.out true (by simp [partB]; omega) ?_
    clear hy
    go_enter Try.func93, Try.ntmps93
    go_wp2
    go_ret
    exact ⟨rfl, rfl⟩
  · refine hy.out false (by simp [partB]; omega) ?_
    clear hy
    go_enter Try.func93, Try.ntmps93
    go_wp2
    go_ret
    exact ⟨rfl, rfl⟩

set_option maxHeartbeats 400000 in
theorem mask_any (n : Int) (w : World) (h1 : 1 ≤ n) (h2 : n ≤ 64) :
    Calls Try.prog 92 #[.int .i64 n] w fun e w' => e = .returned (.int .u64 ((2 ^ n.toNat - 1 : Nat) : Int)) ∧ w = w' := by
  by_cases h : 64 ≤ n
  · go_enter Try.func92, Try.ntmps92
    go_wp2
    go_ret
    have : n = 64 := by omega
    subst this
    exact ⟨rfl, rfl⟩
  · go_enter Try.func92, Try.ntmps92
    go_wp2
    go_ret
    exact ⟨ret_int (mask_word n.toNat (by omega)), rfl⟩

set_option maxHeartbeats 400000 in
theorem get_yes (w x n : Int) (W : World) (hw : U64 w) (h : partB x n = true) :
    Calls Try.prog 19 #[.int .u64 w, .int .i64 x, .int .i64 n] W fun e W' => e = .returned (.tuple #[.int .u64 (getN w.toNat x.toNat n.toNat : Nat), .bool true]) ∧ ∃ k, W.drewN k = W' := by
  have hp := part_any x n W
  rw [h] at hp
  have H := Lib.hid hp
  clear hp
  obtain ⟨h0, h1, h2, h3⟩ := partB_yes h
  clear h
  go_enter Try.func19, Try.ntmps19
  go_wp2_with (refine H.out.mono ?_; rintro e w' ⟨rfl, rfl⟩)
  clear H
  go_quiet ((go_at_call 92; exact quiet_left (mask_any _ _ (by omega) (by omega))))
  go_wp2
  go_ret2
  obtain ⟨Wn, rfl, hW⟩ := hw.nat
  exact ⟨ret2_int (by rw [get_word Wn x.toNat n.toNat hW (by omega), Int.toNat_natCast]), _, rfl⟩

set_option maxHeartbeats 400000 in
theorem get_no (w x n : Int) (W : World) (h : partB x n = false) :
    Calls Try.prog 19 #[.int .u64 w, .int .i64 x, .int .i64 n] W fun e W' => e = .returned (.tuple #[.int .u64 0, .bool false]) ∧ ∃ k, W.drewN k = W' := by
  have hp := part_any x n W
  rw [h] at hp
  have H := Lib.hid hp
  clear hp h
  go_enter Try.func19, Try.ntmps19
  go_wp2_with (refine H.out.mono ?_; rintro e w' ⟨rfl, rfl⟩)
  go_ret2
  exact ⟨rfl, 0, rfl⟩

set_option maxHeartbeats 400000 in
theorem put_no (w x n v : Int) (W : World) (h : partB x n = false) :
    Calls Try.prog 21 #[.int .u64 w, .int .i64 x, .int .i64 n, .int .u64 v] W fun e W' => e = .returned (.tuple #[.int .u64 0, .bool false]) ∧ ∃ k, W.drewN k = W' := by
  have hp := part_any x n W
  rw [h] at hp
  have H := Lib.hid hp
  clear hp h
  go_enter Try.func21, Try.ntmps21
  go_wp2_with (refine H.out.mono ?_; rintro e w' ⟨rfl, rfl⟩)
  go_ret2
  exact ⟨rfl, 0, rfl⟩

set_option maxHeartbeats 400000 in
theorem put_big (w x n v : Int) (W : World) (hv : U64 v) (h : partB x n = true) (hb : ¬ v < 2 ^ n.toNat) :
    Calls Try.prog 21 #[.int .u64 w, .int .i64 x, .int .i64 n, .int .u64 v] W fun e W' => e = .returned (.tuple #[.int .u64 0, .bool false]) ∧ ∃ k, W.drewN k = W' := by
  have hp := part_any x n W
  rw [h] at hp
  have H := Lib.hid hp
  clear hp
  obtain ⟨h0, h1, h2, h3⟩ := partB_yes h
  obtain ⟨V, rfl, hV⟩ := hv.nat
  have hf : (bits .andNot .u64 (V : Int) ((2 ^ n.toNat - 1 : Nat) : Int) != 0) = true := by
    rw [fits_word V n.toNat hV (by omega)]
    have := fits_zero V n.toNat hV (by omega)
    rw [bne_iff_ne]
    intro h
    have h' : V &&& (18446744073709551615 - (2 ^ n.toNat - 1)) = 0 := by exact_mod_cast h
    apply hb
    have := this.1 h'
    exact_mod_cast this
  clear h hb hv hV
  go_enter Try.func21, Try.ntmps21
  go_wp2_with (first | (go_at_call 91; refine H.out.mono ?_; rintro e w' ⟨rfl, rfl⟩) | (go_at_call 92; refine (mask_any _ _ (by omega) (by omega)).mono ?_; rintro e w' ⟨rfl, rfl⟩))
  go_ret2
  exact ⟨rfl, 0, rfl⟩

set_option maxHeartbeats 400000 in
theorem put_yes (w x n v : Int) (W : World) (hw : U64 w) (hv : U64 v) (h : partB x n = true) (hb : v < 2 ^ n.toNat) :
    Calls Try.prog 21 #[.int .u64 w, .int .i64 x, .int .i64 n, .int .u64 v] W fun e W' => e = .returned (.tuple #[.int .u64 (putN w.toNat x.toNat n.toNat v.toNat : Nat), .bool true]) ∧ ∃ k, W.drewN k = W' := by
  have hp := part_any x n W
  rw [h] at hp
  have H := Lib.hid hp
  clear hp
  obtain ⟨h0, h1, h2, h3⟩ := partB_yes h
  obtain ⟨V, rfl, hV⟩ := hv.nat
  obtain ⟨Wn, rfl, hW⟩ := hw.nat
  have hb' : V < 2 ^ n.toNat := by exact_mod_cast hb
  have hf : (bits .andNot .u64 (V : Int) ((2 ^ n.toNat - 1 : Nat) : Int) != 0) = false := by
    rw [fits_word V n.toNat hV (by omega), (fits_zero V n.toNat hV (by omega)).2 hb']
    rfl
  have hfin := Lib.hid (put_word Wn x.toNat n.toNat V hW (by omega) hb')
  clear h hb hb' hv hV hw hW
  go_enter Try.func21, Try.ntmps21
  go_wp2_with (first | (go_at_call 91; refine H.out.mono ?_; rintro e w' ⟨rfl, rfl⟩) | (go_at_call 92; refine (mask_any _ _ (by omega) (by omega)).mono ?_; rintro e w' ⟨rfl, rfl⟩))
  clear H
  go_quiet ((go_at_call 92; exact quiet_left (mask_any _ _ (by omega) (by omega))))
  go_wp2
  go_ret2
  exact ⟨ret2_int (by rw [Int.toNat_natCast, Int.toNat_natCast]; exact hfin.out), _, rfl⟩

/-! ### the reference -/
set_option maxHeartbeats 400000 in
theorem power_any (n : Int) (w : World) (h1 : 0 ≤ n) (h2 : n < 64) :
    Calls Try.prog 95 #[.int .i64 n] w fun e w' => e = .returned (.int .u64 (2 ^ n.toNat)) ∧ w = w' := by
  obtain ⟨N, rfl⟩ := Int.eq_ofNat_of_zero_le h1
  go_enter Try.func95, Try.ntmps95
  go_wp2
  go_loop [3, 4] (fun p i => ∃ k : Nat, k ≤ N ∧ i = .int .i64 k ∧ p = .int .u64 (2 ^ k)) (fun _ i => N - (intOf i).toNat)
  case atStart => exact ⟨0, Nat.zero_le _, rfl, rfl⟩
  case round =>
    obtain ⟨k, hk, rfl, rfl⟩ := hrel
    by_cases hlt : k < N
    · go_wp2
      go_round
      case rel => exact ⟨k + 1, by omega, by go_num, by rw [pow_word k (by omega)]⟩
      case measure => simp [intOf] <;> omega
    · obtain rfl : k = N := by omega
      go_wp2
      go_ret
      exact ⟨rfl, rfl⟩

set_option maxHeartbeats 400000 in
theorem bit_any (w i : Int) (W : World) (hw : U64 w) (h1 : 0 ≤ i) (h2 : i < 64) :
    Calls Try.prog 94 #[.int .u64 w, .int .i64 i] W fun e w' => e = .returned (.int .u64 (bitN w.toNat i.toNat : Nat)) ∧ W = w' := by
  obtain ⟨V, rfl, hV⟩ := hw.nat
  have hz : ¬ (2 : Int) ^ i.toNat = 0 := by
    have := Nat.two_pow_pos i.toNat
    rw [cast_pow]
    omega
  have hf := Lib.hid (bit_ref V i.toNat hV)
  clear hw hV
  go_enter Try.func94, Try.ntmps94
  go_wp2_with (go_at_call 95; refine (power_any _ _ (by omega) (by omega)).mono ?_; rintro e w' ⟨rfl, rfl⟩)
  go_ret
  exact ⟨ret_int (by rw [Int.toNat_natCast]; exact hf.out), rfl⟩

set_option maxHeartbeats 400000 in
theorem rget_no (w x n : Int) (W : World) (h : partB x n = false) :
    Calls Try.prog 20 #[.int .u64 w, .int .i64 x, .int .i64 n] W fun e W' => e = .returned (.tuple #[.int .u64 0, .bool false]) ∧ W = W' := by
  have hp := rpart_any x n W
  rw [h] at hp
  have H := Lib.hid hp
  clear hp h
  go_enter Try.func20, Try.ntmps20
  go_wp2_with (refine H.out.mono ?_; rintro e w' ⟨rfl, rfl⟩)
  go_ret2
  exact ⟨rfl, rfl⟩

set_option maxHeartbeats 400000 in
theorem rget_yes (w x n : Int) (W : World) (hw : U64 w) (h : partB x n = true) :
    Calls Try.prog 20 #[.int .u64 w, .int .i64 x, .int .i64 n] W fun e W' => e = .returned (.tuple #[.int .u64 (getN w.toNat x.toNat n.toNat : Nat), .bool true]) ∧ W = W' := by
  have hp := rpart_any x n W
  rw [h] at hp
  have H := Lib.hid hp
  clear hp
  obtain ⟨h0, h1, h2, h3⟩ := partB_yes h
  obtain ⟨V, rfl, hV⟩ := hw.nat
  obtain ⟨X, rfl⟩ := Int.eq_ofNat_of_zero_le h0
  obtain ⟨N, rfl⟩ := Int.eq_ofNat_of_zero_le (show 0 ≤ n by omega)
  clear h hw
  go_enter Try.func20, Try.ntmps20
  go_wp2_with (refine H.out.mono ?_; rintro e w' ⟨rfl, rfl⟩)
  clear H
  go_loop [8, 9] (fun a i => ∃ k : Nat, k ≤ N ∧ i = .int .i64 ((N : Int) - 1 - k) ∧ a = .int .u64 (accG V X N k : Nat)) (fun _ i => (intOf i + 1).toNat)
  case atStart => exact ⟨0, Nat.zero_le _, by simp, by rw [accG_zero]; rfl⟩
  case round =>
    obtain ⟨k, hk, rfl, rfl⟩ := hrel
    by_cases hlt : k < N
    · go_wp2_with (go_at_call 94; refine (bit_any _ _ _ (U64.of hV) (by omega) (by omega)).mono ?_; rintro e w' ⟨rfl, rfl⟩)
      go_round
      case rel =>
        refine ⟨k + 1, by omega, by go_num, ?_⟩
        rw [← accG_step V X N k hlt (by omega)]
      case measure => simp [intOf] <;> omega
    · obtain rfl : k = N := by omega
      go_wp2
      go_ret2
      exact ⟨ret2_int (by rw [accG_last]), rfl⟩

set_option maxHeartbeats 400000 in
theorem rput_no (w x n v : Int) (W : World) (h : partB x n = false) :
    Calls Try.prog 22 #[.int .u64 w, .int .i64 x, .int .i64 n, .int .u64 v] W fun e W' => e = .returned (.tuple #[.int .u64 0, .bool false]) ∧ W = W' := by
  have hp := rpart_any x n W
  rw [h] at hp
  have H := Lib.hid hp
  clear hp h
  go_enter Try.func22, Try.ntmps22
  go_wp2_with (refine H.out.mono ?_; rintro e w' ⟨rfl, rfl⟩)
  go_ret2
  exact ⟨rfl, rfl⟩

set_option maxHeartbeats 400000 in
theorem rput_big (w x n v : Int) (W : World) (hv : U64 v) (h : partB x n = true) (hb : ¬ v < 2 ^ n.toNat) :
    Calls Try.prog 22 #[.int .u64 w, .int .i64 x, .int .i64 n, .int .u64 v] W fun e W' => e = .returned (.tuple #[.int .u64 0, .bool false]) ∧ W = W' := by
  have hp := rpart_any x n W
  rw [h] at hp
  have H := Lib.hid hp
  clear hp
  obtain ⟨h0, h1, h2, h3⟩ := partB_yes h
  have h64 : n < 64 := by
    by_cases h : n < 64
    · exact h
    · exfalso
      apply hb
      have : n = 64 := by omega
      subst this
      exact hv.2
  have hb' : (2 : Int) ^ n.toNat ≤ v := by omega
  clear h hb hv
  go_enter Try.func22, Try.ntmps22
  go_wp2_with (first | (go_at_call 93; refine H.out.mono ?_; rintro e w' ⟨rfl, rfl⟩) | (go_at_call 95; refine (power_any _ _ (by omega) (by omega)).mono ?_; rintro e w' ⟨rfl, rfl⟩))
  go_ret2
  exact ⟨rfl, rfl⟩

set_option maxHeartbeats 800000 in
theorem rput_yes (w x n v : Int) (W : World) (hw : U64 w) (hv : U64 v) (h : partB x n = true) (hb : v < 2 ^ n.toNat) :
    Calls Try.prog 22 #[.int .u64 w, .int .i64 x, .int .i64 n, .int .u64 v] W fun e W' => e = .returned (.tuple #[.int .u64 (putN w.toNat x.toNat n.toNat v.toNat : Nat), .bool true]) ∧ W = W' := by
  have hp := rpart_any x n W
  rw [h] at hp
  have H := Lib.hid hp
  clear hp
  obtain ⟨h0, h1, h2, h3⟩ := partB_yes h
  obtain ⟨V, rfl, hV⟩ := hv.nat
  obtain ⟨U, rfl, hU⟩ := hw.nat
  obtain ⟨X, rfl⟩ := Int.eq_ofNat_of_zero_le h0
  obtain ⟨N, rfl⟩ := Int.eq_ofNat_of_zero_le (show 0 ≤ n by omega)
  have hb' : ¬ (2 : Int) ^ N ≤ (V : Int) := by simp only [Int.toNat_natCast] at hb; omega
  clear h hw hv hb
  by_cases h64 : N < 64
  all_goals
    go_enter Try.func22, Try.ntmps22
    go_wp2_with (first | (go_at_call 93; refine H.out.mono ?_; rintro e w' ⟨rfl, rfl⟩) | (go_at_call 95; refine (power_any _ _ (by omega) (by omega)).mono ?_; rintro e w' ⟨rfl, rfl⟩))
    clear H hb'
    go_loop [10, 11] (fun a i => ∃ k : Nat, k ≤ 64 ∧ i = .int .i64 (63 - (k : Int)) ∧ a = .int .u64 (accB (putF U X N V) k : Nat)) (fun _ i => (intOf i + 1).toNat)
    case atStart => exact ⟨0, by omega, by simp, by rw [accB_nil]; rfl⟩
    case round =>
      obtain ⟨k, hk, rfl, rfl⟩ := hrel
      by_cases hlt : k < 64
      · have hst := Lib.hid (accB_step (putF U X N V) k hlt)
        by_cases hx1 : X ≤ 63 - k
        · by_cases hx2 : 63 - k < X + N
          · have hst2 := Lib.hid (show (putF U X N V (63 - k)).toNat = bitN V (63 - k - X) by unfold putF; rw [if_pos ⟨hx1, hx2⟩, bitN_def])
            go_wp2_with (go_at_call 94; refine (bit_any _ _ _ (U64.of (by assumption)) (by omega) (by omega)).mono ?_; rintro e w' ⟨rfl, rfl⟩)
            go_round
            case rel =>
              refine ⟨k + 1, by omega, by go_num, ?_⟩
              rw [← hst.out, hst2.out]
            case measure => simp [intOf] <;> omega
          · first
            | omega
            | (have hst2 := Lib.hid (show (putF U X N V (63 - k)).toNat = bitN U (63 - k) by unfold putF; rw [if_neg (by omega), bitN_def])
               go_wp2_with (go_at_call 94; refine (bit_any _ _ _ (U64.of (by assumption)) (by omega) (by omega)).mono ?_; rintro e w' ⟨rfl, rfl⟩)
               go_round
               case rel =>
                 refine ⟨k + 1, by omega, by go_num, ?_⟩
                 rw [← hst.out, hst2.out]
               case measure => simp [intOf] <;> omega)
        · first
          | omega
          | (have hst2 := Lib.hid (show (putF U X N V (63 - k)).toNat = bitN U (63 - k) by unfold putF; rw [if_neg (by omega), bitN_def])
             go_wp2_with (go_at_call 94; refine (bit_any _ _ _ (U64.of (by assumption)) (by omega) (by omega)).mono ?_; rintro e w' ⟨rfl, rfl⟩)
             go_round
             case rel =>
               refine ⟨k + 1, by omega, by go_num, ?_⟩
               rw [← hst.out, hst2.out]
             case measure => simp [intOf] <;> omega)
      · obtain rfl : k = 64 := by omega
        go_wp2
        go_ret2
        exact ⟨ret2_int (by rw [putN_def]), rfl⟩

end Go.Proofs.Ytcljgphipdbckaa
