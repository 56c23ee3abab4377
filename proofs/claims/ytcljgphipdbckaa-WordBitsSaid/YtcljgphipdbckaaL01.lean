/- The walks of layer 1's statements: awake, WordParts, WordBits, WordBack. -/
import Derived.Test.YtcljgphipdbckaaW01c
namespace Go.Proofs.Ytcljgphipdbckaa
open Go.RowKit

theorem u64_wf {x : Int} (h : (Lit.int .u64 x).wf = true) : U64 x := by
  simp [Lit.wf, IntKind.min, IntKind.max, IntKind.signed, IntKind.bits] at h
  exact ⟨by omega, by omega⟩
theorem i64_wf {x : Int} (h : (Lit.int .i64 x).wf = true) : -9223372036854775808 ≤ x ∧ x ≤ 9223372036854775807 := by
  simp [Lit.wf, IntKind.min, IntKind.max, IntKind.signed, IntKind.bits] at h
  exact ⟨by omega, by omega⟩

set_option maxHeartbeats 800000 in
theorem awake01 (W : World) : Calls Try.prog 23 #[] W fun e w' => e = .returned (.bool true) ∧ Below W.heap.size W w' := by
  have g1 : getN 2748 4 4 = 11 := by decide +kernel
  have g2 : putN 2748 0 4 1 = 2737 := by decide +kernel
  have g3 : highF 8 64 = 3 := by decide +kernel
  have g4 : lowF 12 64 = 2 := by decide +kernel
  have g5 : lowF 0 64 = -1 := by decide +kernel
  have g6 : popF 64 7 = 3 := by decide +kernel
  have g7 : hexL 255 = [48, 48, 48, 48, 48, 48, 48, 48, 48, 48, 48, 48, 48, 48, 102, 102] := by decide +kernel
  have g8 : rdW ⟨#[48, 48, 48, 48, 48, 48, 48, 48, 48, 48, 48, 48, 48, 48, 102, 102]⟩ = 255 := by decide +kernel
  have g9 : rdE ⟨#[48, 48, 48, 48, 48, 48, 48, 48, 48, 48, 48, 48, 48, 48, 102, 102]⟩ = 0 := by decide +kernel
  have g10 : rdE ⟨#[102, 102]⟩ = 4 := by decide +kernel
  have c1 := fun W => Lib.hid (get_yes 2748 4 4 W ⟨by decide, by decide⟩ (by decide))
  have c2 := fun W => Lib.hid (put_yes 2748 0 4 1 W ⟨by decide, by decide⟩ ⟨by decide, by decide⟩ (by decide) (by decide))
  have c3 := fun W => Lib.hid (put_big 0 60 4 16 W ⟨by decide, by decide⟩ (by decide) (by decide))
  go_enter Try.func23, Try.ntmps23
  go_wp2_with fail
  refine (c1 _).out.mono ?_
  rintro e w' ⟨rfl, k1, rfl⟩
  go_wp2_with fail
  refine (c2 _).out.mono ?_
  rintro e w' ⟨rfl, k2, rfl⟩
  go_wp2_with fail
  refine (c3 _).out.mono ?_
  rintro e w' ⟨rfl, k3, rfl⟩
  go_wp2_with fail
  refine (read_any _ _).mono ?_
  rintro e w' ⟨rfl, k4, rfl⟩
  go_wp2_with fail
  refine (read_any _ _).mono ?_
  rintro e w' ⟨rfl, k5, rfl⟩
  go_wp2_with fail
  refine (high_any _ _ ⟨by decide, by decide⟩).mono ?_
  rintro e w' ⟨rfl, rfl⟩
  go_wp2_with fail
  refine (low_any _ _ ⟨by decide, by decide⟩).mono ?_
  rintro e w' ⟨rfl, rfl⟩
  go_wp2_with fail
  refine (low_any _ _ ⟨by decide, by decide⟩).mono ?_
  rintro e w' ⟨rfl, rfl⟩
  go_wp2_with fail
  refine (ones_any _ _ ⟨by decide, by decide⟩).mono ?_
  rintro e w' ⟨rfl, rfl⟩
  go_wp2_with fail
  refine (hex_any _ _ ⟨by decide, by decide⟩).mono ?_
  rintro e w' ⟨rfl, hb⟩
  go_wp2
  go_ret
  exact ⟨rfl, below_of_drewN hb⟩

set_option maxHeartbeats 800000 in
theorem wordParts_walk (w x n v : Int) (W : World) (hw : U64 w) (hv : U64 v) :
    Calls Try.prog 3 #[.int .u64 w, .int .i64 x, .int .i64 n, .int .u64 v] W fun e w' => e = .returned (.bool true) ∧ Below W.heap.size W w' := by
  have core : ∀ (A B : Int) (p q : Bool),
      Hid (∀ W, Calls Try.prog 19 #[.int .u64 w, .int .i64 x, .int .i64 n] W fun e W' => e = .returned (.tuple #[.int .u64 A, .bool p]) ∧ ∃ k, W.drewN k = W') →
      Hid (∀ W, Calls Try.prog 20 #[.int .u64 w, .int .i64 x, .int .i64 n] W fun e W' => e = .returned (.tuple #[.int .u64 A, .bool p]) ∧ W = W') →
      Hid (∀ W, Calls Try.prog 21 #[.int .u64 w, .int .i64 x, .int .i64 n, .int .u64 v] W fun e W' => e = .returned (.tuple #[.int .u64 B, .bool q]) ∧ ∃ k, W.drewN k = W') →
      Hid (∀ W, Calls Try.prog 22 #[.int .u64 w, .int .i64 x, .int .i64 n, .int .u64 v] W fun e W' => e = .returned (.tuple #[.int .u64 B, .bool q]) ∧ W = W') →
      Calls Try.prog 3 #[.int .u64 w, .int .i64 x, .int .i64 n, .int .u64 v] W fun e w' => e = .returned (.bool true) ∧ Below W.heap.size W w' := by
    intro A B p q h1 h2 h3 h4
    clear hw hv
    go_enter Try.func3, Try.ntmps3
    go_wp2_with fail
    refine (h1.out _).mono ?_
    rintro e w' ⟨rfl, k1, rfl⟩
    go_wp2_with fail
    refine (h2.out _).mono ?_
    rintro e w' ⟨rfl, rfl⟩
    go_wp2_with fail
    refine (h3.out _).mono ?_
    rintro e w' ⟨rfl, k2, rfl⟩
    go_wp2_with fail
    refine (h4.out _).mono ?_
    rintro e w' ⟨rfl, rfl⟩
    go_wp2_with fail
    refine (awake01 _).mono ?_
    rintro e w' ⟨rfl, hb⟩
    go_wp2
    go_ret
    exact ⟨rfl, below_of_drewN hb⟩
  cases h : partB x n with
  | false => exact core _ _ _ _ (fun W => get_no w x n W h) (fun W => rget_no w x n W h) (fun W => put_no w x n v W h) (fun W => rput_no w x n v W h)
  | true =>
    by_cases hb : v < 2 ^ n.toNat
    · exact core _ _ _ _ (fun W => get_yes w x n W hw h) (fun W => rget_yes w x n W hw h) (fun W => put_yes w x n v W hw hv h hb) (fun W => rput_yes w x n v W hw hv h hb)
    · exact core _ _ _ _ (fun W => get_yes w x n W hw h) (fun W => rget_yes w x n W hw h) (fun W => put_big w x n v W hv h hb) (fun W => rput_big w x n v W hv h hb)

set_option maxHeartbeats 800000 in
theorem wordBits_walk (w : Int) (s : ByteArray) (W : World) (hw : U64 w) :
    Calls Try.prog 4 #[.int .u64 w, .string s] W fun e w' => e = .returned (.bool true) ∧ Below W.heap.size W w' := by
  by_cases hs : 100 < s.size
  · go_enter Try.func4, Try.ntmps4
    go_wp2_with fail
    refine (awake01 _).mono ?_
    rintro e w' ⟨rfl, hb⟩
    go_wp2
    go_ret
    exact ⟨rfl, hb⟩
  · have HW := Lib.hid hw
    clear hw
    go_enter Try.func4, Try.ntmps4
    go_wp2_with fail
    refine (read_any _ _).mono ?_
    rintro e w' ⟨rfl, k1, rfl⟩
    go_wp2_with fail
    refine (rread_any _ _).mono ?_
    rintro e w' ⟨rfl, rfl⟩
    go_wp2_with fail
    refine (ones_any _ _ HW.out).mono ?_
    rintro e w' ⟨rfl, rfl⟩
    go_wp2_with fail
    refine (rones_any _ _ HW.out).mono ?_
    rintro e w' ⟨rfl, rfl⟩
    go_wp2_with fail
    refine (low_any _ _ HW.out).mono ?_
    rintro e w' ⟨rfl, rfl⟩
    go_wp2_with fail
    refine (rlow_any _ _ HW.out).mono ?_
    rintro e w' ⟨rfl, rfl⟩
    go_wp2_with fail
    refine (high_any _ _ HW.out).mono ?_
    rintro e w' ⟨rfl, rfl⟩
    go_wp2_with fail
    refine (rhigh_any _ _ HW.out).mono ?_
    rintro e w' ⟨rfl, rfl⟩
    go_wp2_with fail
    refine (hex_any _ _ HW.out).mono ?_
    rintro e w1 ⟨rfl, hb⟩
    go_wp2_with fail
    refine (rhex_any _ _ HW.out).mono ?_
    rintro e w' ⟨rfl, rfl⟩
    go_wp2_with fail
    refine (awake01 _).mono ?_
    rintro e w' ⟨rfl, hb2⟩
    go_wp2
    go_ret
    exact ⟨rfl, (below_of_drewN hb).trans (hb2.mono hb.size)⟩

set_option maxHeartbeats 800000 in
theorem wordBack_no (w x n v y m : Int) (W : World)
    (h : Hid (∀ W, Calls Try.prog 21 #[.int .u64 w, .int .i64 x, .int .i64 n, .int .u64 v] W fun e W' => e = .returned (.tuple #[.int .u64 0, .bool false]) ∧ ∃ k, W.drewN k = W')) :
    Calls Try.prog 5 #[.int .u64 w, .int .i64 x, .int .i64 n, .int .u64 v, .int .i64 y, .int .i64 m] W fun e w' => e = .returned (.bool true) ∧ Below W.heap.size W w' := by
  go_enter Try.func5, Try.ntmps5
  go_wp2_with fail
  refine (h.out _).mono ?_
  rintro e w' ⟨rfl, k1, rfl⟩
  go_wp2_with fail
  refine (awake01 _).mono ?_
  rintro e w' ⟨rfl, hb⟩
  go_wp2
  go_ret
  exact ⟨rfl, below_of_drewN hb⟩

set_option maxHeartbeats 1600000 in
theorem wordBack_yes (w x n v y m : Int) (W : World) (hw : U64 w) (hv : U64 v) (h : partB x n = true) (hb : v < 2 ^ n.toNat)
    (wy : -9223372036854775808 ≤ y ∧ y ≤ 9223372036854775807) (wm : -9223372036854775808 ≤ m ∧ m ≤ 9223372036854775807) :
    Calls Try.prog 5 #[.int .u64 w, .int .i64 x, .int .i64 n, .int .u64 v, .int .i64 y, .int .i64 m] W fun e w' => e = .returned (.bool true) ∧ Below W.heap.size W w' := by
  obtain ⟨h0, h1, h2, h3⟩ := partB_yes h
  obtain ⟨V, rfl, hV⟩ := hv.nat
  obtain ⟨U, rfl, hU⟩ := hw.nat
  obtain ⟨X, rfl⟩ := Int.eq_ofNat_of_zero_le h0
  obtain ⟨N, rfl⟩ := Int.eq_ofNat_of_zero_le (show 0 ≤ n by omega)
  have hb' : V < 2 ^ N := by simp only [Int.toNat_natCast] at hb; exact_mod_cast hb
  have hP := putN_lt U X N V
  have hG := getN_lt U X N hU
  have c1 : Hid (∀ W, Calls Try.prog 21 #[.int .u64 (U : Nat), .int .i64 (X : Nat), .int .i64 (N : Nat), .int .u64 (V : Nat)] W fun e W' => e = .returned (.tuple #[.int .u64 (putN U X N V : Nat), .bool true]) ∧ ∃ k, W.drewN k = W') :=
    fun W => put_yes U X N V W hw hv h hb
  have c2 : Hid (∀ W, Calls Try.prog 19 #[.int .u64 (putN U X N V : Nat), .int .i64 (X : Nat), .int .i64 (N : Nat)] W fun e W' => e = .returned (.tuple #[.int .u64 (V : Nat), .bool true]) ∧ ∃ k, W.drewN k = W') := fun W => by
    have := get_yes (putN U X N V : Nat) X N W (U64.of hP) h
    simp only [Int.toNat_natCast] at this
    rw [get_put U X N V (by omega) hb'] at this
    exact this
  have c3 : Hid (∀ W, Calls Try.prog 19 #[.int .u64 (U : Nat), .int .i64 (X : Nat), .int .i64 (N : Nat)] W fun e W' => e = .returned (.tuple #[.int .u64 (getN U X N : Nat), .bool true]) ∧ ∃ k, W.drewN k = W') :=
    fun W => get_yes U X N W hw h
  have c4 : Hid (∀ W, Calls Try.prog 21 #[.int .u64 (putN U X N V : Nat), .int .i64 (X : Nat), .int .i64 (N : Nat), .int .u64 (getN U X N : Nat)] W fun e W' => e = .returned (.tuple #[.int .u64 (U : Nat), .bool true]) ∧ ∃ k, W.drewN k = W') := fun W => by
    have := put_yes (putN U X N V : Nat) X N (getN U X N : Nat) W (U64.of hP) (U64.of hG) h (by simp only [Int.toNat_natCast]; have := getN_lt' U X N; exact_mod_cast this)
    simp only [Int.toNat_natCast] at this
    rw [put_put U X N V hU] at this
    exact this
  have core : ∀ (A B : Int) (p : Bool),
      Hid (∀ W, Calls Try.prog 19 #[.int .u64 (putN U X N V : Nat), .int .i64 y, .int .i64 m] W fun e W' => e = .returned (.tuple #[.int .u64 A, .bool p]) ∧ ∃ k, W.drewN k = W') →
      Hid (∀ W, Calls Try.prog 19 #[.int .u64 (U : Nat), .int .i64 y, .int .i64 m] W fun e W' => e = .returned (.tuple #[.int .u64 B, .bool p]) ∧ ∃ k, W.drewN k = W') →
      (p = false ∧ A = B ∨ p = true ∧ 0 ≤ y ∧ 0 ≤ m ∧ y + m ≤ 64 ∧ ((X : Int) + N ≤ y ∨ y + m ≤ X) ∧ A = B ∨ p = true ∧ 0 ≤ y ∧ 0 ≤ m ∧ y + m ≤ 64 ∧ ¬ (X : Int) + N ≤ y ∧ ¬ y + m ≤ X) →
      Calls Try.prog 5 #[.int .u64 (U : Nat), .int .i64 (X : Nat), .int .i64 (N : Nat), .int .u64 (V : Nat), .int .i64 y, .int .i64 m] W fun e w' => e = .returned (.bool true) ∧ Below W.heap.size W w' := by
    intro A B p g1 g2 hc
    have hr := rd_some (rdO_hex U hU)
    have HR := Lib.hid hr
    have hy := wy.1
    have hy' := wy.2
    clear hr hb' hP hG hb h hw hv wy
    have HU := Lib.hid hU
    clear hU
    rcases hc with ⟨rfl, rfl⟩ | ⟨rfl, a1, a2, a3, a4 | a4, rfl⟩ | ⟨rfl, a1, a2, a3, a4, a5⟩
    all_goals
      by_cases a6 : (X : Int) + N ≤ y
    all_goals
      try omega
    all_goals
      go_enter Try.func5, Try.ntmps5
      go_wp2_with fail
      refine (c1.out _).mono ?_
      rintro e w' ⟨rfl, k1, rfl⟩
      go_wp2_with fail
      refine (c2.out _).mono ?_
      rintro e w' ⟨rfl, k2, rfl⟩
      go_wp2_with fail
      refine (c3.out _).mono ?_
      rintro e w' ⟨rfl, k3, rfl⟩
      go_wp2_with fail
      refine (c4.out _).mono ?_
      rintro e w' ⟨rfl, k4, rfl⟩
      go_wp2_with fail
      refine (g1.out _).mono ?_
      rintro e w' ⟨rfl, k5, rfl⟩
      go_wp2_with fail
      refine (g2.out _).mono ?_
      rintro e w' ⟨rfl, k6, rfl⟩
      go_wp2_with fail
      refine (hex_any _ _ (U64.of HU.out)).mono ?_
      rintro e w1 ⟨rfl, hb⟩
      have hb1 := Lib.hid (below_of_drewN hb)
      clear hb
      go_wp2_with fail
      refine (read_any _ _).mono ?_
      rw [HR.out.1, HR.out.2]
      rintro e w' ⟨rfl, k7, rfl⟩
      go_wp2_with fail
      refine (awake01 _).mono ?_
      rintro e w' ⟨rfl, hb2⟩
      go_wp2
      go_ret
      exact ⟨rfl, hb1.out.trans ((below_of_drewN hb2).mono hb1.out.size)⟩
  cases hp : partB y m with
  | false => exact core _ _ false (fun W => get_no _ y m W hp) (fun W => get_no _ y m W hp) (.inl ⟨rfl, rfl⟩)
  | true =>
    obtain ⟨i0, i1, i2, i3⟩ := partB_yes hp
    refine core _ _ true (fun W => get_yes _ y m W (U64.of hP) hp) (fun W => get_yes _ y m W hw hp) ?_
    by_cases ha : (X : Int) + N ≤ y ∨ y + m ≤ X
    · refine .inr (.inl ⟨rfl, i0, by omega, by omega, ha, ?_⟩)
      rw [Int.toNat_natCast, Int.toNat_natCast, get_apart U X N V y.toNat m.toNat (by omega) (by omega)]
    · exact .inr (.inr ⟨rfl, i0, by omega, by omega, by omega, by omega⟩)

theorem wordBack_walk (w x n v y m : Int) (W : World) (hw : U64 w) (hv : U64 v)
    (wy : -9223372036854775808 ≤ y ∧ y ≤ 9223372036854775807) (wm : -9223372036854775808 ≤ m ∧ m ≤ 9223372036854775807) :
    Calls Try.prog 5 #[.int .u64 w, .int .i64 x, .int .i64 n, .int .u64 v, .int .i64 y, .int .i64 m] W fun e w' => e = .returned (.bool true) ∧ Below W.heap.size W w' := by
  cases h : partB x n with
  | false => exact wordBack_no w x n v y m W (fun W => put_no w x n v W h)
  | true =>
    by_cases hb : v < 2 ^ n.toNat
    · exact wordBack_yes w x n v y m W hw hv h hb wy wm
    · exact wordBack_no w x n v y m W (fun W => put_big w x n v W hv h hb)
end Go.Proofs.Ytcljgphipdbckaa
