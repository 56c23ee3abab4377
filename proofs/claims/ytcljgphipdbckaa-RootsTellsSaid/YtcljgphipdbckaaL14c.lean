/- The law RootsTells. -/
import Derived.Test.YtcljgphipdbckaaL14
import Derived.Test.YtcljgphipdbckaaP14b
namespace Go.Proofs.Ytcljgphipdbckaa
set_option linter.unusedVariables false
set_option linter.unusedSimpArgs false
open Go.RowKit

theorem zslots_used (n : Nat) : usedN (zslots n) = 0 := by
  unfold usedN zslots
  rw [List.countP_eq_zero]
  intro s hs
  rw [List.eq_of_mem_replicate hs]; decide
theorem zslots_slot (n k : Nat) : slot (zslots n) k = Slot.zero := by unfold zslots; exact slot_zeros n k
theorem zslots_right (n : Nat) (h1 : 1 ≤ n) (h2 : n ≤ 1024) : rightB (zslots n) (n : Nat) = true := by
  rw [right_all fun k hk => by rw [zslots_slot]; exact (mayS_iff _).2 ⟨(decB_iff _).2 (.inl rfl), .inl (by decide), .inr rfl⟩, zslots_length]
  simp; omega

set_option maxRecDepth 100000 in
set_option maxHeartbeats 8000000 in
theorem rootsTells_short {W : World} {A : Option Addr} {ss : List Slot} {c : Nat} (n : Int) (hv : Sw W (.slice A ss.length c) ss) (hn : ss.length ≤ 1200) : Calls Try.prog 13 #[.slice A ss.length c, .int .i64 n] W (Out W (.bool true)) := by
  have hn1 : (ss.length : Int) ≤ 1200 := by omega
  have V0 := Lib.hid hv
  clear hv hn
  by_cases hr : n < 1 ∨ 1024 < n
  · have k := Lib.hid (newS_bad n W hr)
    have hR : Hid True := trivial
    rcases hr with hr | hr
    · go_enter Try.func13, Try.ntmps13
      go_wp2_with fail
      refine k.out.mono ?_
      rintro e w1 ⟨rfl, rfl⟩
      have B0 := Lib.hid (Below.refl W.heap.size W)
      clear k
      have k := Lib.hid (used_any V0.out)
      go_wp2_with fail
      refine k.out.mono ?_
      rintro e v1 ⟨rfl, hb⟩
      have B1 := Lib.hid (below_tr14 B0.out hb)
      have V0 := Lib.hid (V0.out.below hb)
      clear hb k B0
      have k := Lib.hid (rused_any V0.out)
      go_wp2_with fail
      refine k.out.mono ?_
      rintro e v2 ⟨rfl, hb⟩
      have B2 := Lib.hid (below_tr14 B1.out hb)
      have V0 := Lib.hid (V0.out.below hb)
      clear hb k B1
      have k := Lib.hid (right_any n V0.out)
      go_wp2_with fail
      refine k.out.mono ?_
      rintro e v3 ⟨rfl, hb⟩
      have B3 := Lib.hid (below_tr14 B2.out hb)
      have V0 := Lib.hid (V0.out.below hb)
      clear hb k B2
      have k := Lib.hid (rright_any n V0.out)
      go_wp2_with fail
      refine k.out.mono ?_
      rintro e v4 ⟨rfl, hb⟩
      have B4 := Lib.hid (below_tr14 B3.out hb)
      have V0 := Lib.hid (V0.out.below hb)
      clear hb k B3
      have k := Lib.hid (handles_any V0.out)
      go_wp2_with fail
      refine k.out.mono ?_
      rintro e v5 ⟨EI1, eI1, rfl, ho, hb⟩
      have B5 := Lib.hid (below_tr14 B4.out hb)
      have V0 := Lib.hid (V0.out.below hb)
      have I1 := Lib.hid (Iw.of_own ho)
      clear hb k B4 ho
      have k := Lib.hid (rhandles_any V0.out)
      go_wp2_with fail
      refine k.out.mono ?_
      rintro e v6 ⟨EI2, eI2, rfl, ho, hb⟩
      have B6 := Lib.hid (below_tr14 B5.out hb)
      have V0 := Lib.hid (V0.out.below hb)
      have I1 := Lib.hid (I1.out.below hb)
      have I2 := Lib.hid (Iw.of_own ho)
      clear hb k B5 ho
      have k := Lib.hid (ints_any I1.out I2.out)
      rw [sameI_refl] at k
      go_wp2_with fail
      refine k.out.mono ?_
      rintro e v9 ⟨rfl, q, rfl⟩
      have B9 := Lib.hid (below_drewN (k := q) B6.out)
      clear k
      go_wp2_with fail
      refine (awake14 _).mono ?_
      rintro e v10 ⟨rfl, hb⟩
      have B := Lib.hid (below_tr14 B9.out hb)
      clear hb
      go_wp2
      go_ret
      exact ⟨rfl, B.out⟩
    · have hr0 : ¬ (n < 1) := by omega
      go_enter Try.func13, Try.ntmps13
      go_wp2_with fail
      refine k.out.mono ?_
      rintro e w1 ⟨rfl, rfl⟩
      have B0 := Lib.hid (Below.refl W.heap.size W)
      clear k
      have k := Lib.hid (used_any V0.out)
      go_wp2_with fail
      refine k.out.mono ?_
      rintro e v1 ⟨rfl, hb⟩
      have B1 := Lib.hid (below_tr14 B0.out hb)
      have V0 := Lib.hid (V0.out.below hb)
      clear hb k B0
      have k := Lib.hid (rused_any V0.out)
      go_wp2_with fail
      refine k.out.mono ?_
      rintro e v2 ⟨rfl, hb⟩
      have B2 := Lib.hid (below_tr14 B1.out hb)
      have V0 := Lib.hid (V0.out.below hb)
      clear hb k B1
      have k := Lib.hid (right_any n V0.out)
      go_wp2_with fail
      refine k.out.mono ?_
      rintro e v3 ⟨rfl, hb⟩
      have B3 := Lib.hid (below_tr14 B2.out hb)
      have V0 := Lib.hid (V0.out.below hb)
      clear hb k B2
      have k := Lib.hid (rright_any n V0.out)
      go_wp2_with fail
      refine k.out.mono ?_
      rintro e v4 ⟨rfl, hb⟩
      have B4 := Lib.hid (below_tr14 B3.out hb)
      have V0 := Lib.hid (V0.out.below hb)
      clear hb k B3
      have k := Lib.hid (handles_any V0.out)
      go_wp2_with fail
      refine k.out.mono ?_
      rintro e v5 ⟨EI1, eI1, rfl, ho, hb⟩
      have B5 := Lib.hid (below_tr14 B4.out hb)
      have V0 := Lib.hid (V0.out.below hb)
      have I1 := Lib.hid (Iw.of_own ho)
      clear hb k B4 ho
      have k := Lib.hid (rhandles_any V0.out)
      go_wp2_with fail
      refine k.out.mono ?_
      rintro e v6 ⟨EI2, eI2, rfl, ho, hb⟩
      have B6 := Lib.hid (below_tr14 B5.out hb)
      have V0 := Lib.hid (V0.out.below hb)
      have I1 := Lib.hid (I1.out.below hb)
      have I2 := Lib.hid (Iw.of_own ho)
      clear hb k B5 ho
      have k := Lib.hid (ints_any I1.out I2.out)
      rw [sameI_refl] at k
      go_wp2_with fail
      refine k.out.mono ?_
      rintro e v9 ⟨rfl, q, rfl⟩
      have B9 := Lib.hid (below_drewN (k := q) B6.out)
      clear k
      go_wp2_with fail
      refine (awake14 _).mono ?_
      rintro e v10 ⟨rfl, hb⟩
      have B := Lib.hid (below_tr14 B9.out hb)
      clear hb
      go_wp2
      go_ret
      exact ⟨rfl, B.out⟩
  · obtain ⟨N, rfl⟩ := Int.eq_ofNat_of_zero_le (show 0 ≤ n by omega)
    have r1 : ¬ ((N : Int) < 1) := by omega
    have r2 : ¬ (1024 < (N : Int)) := by omega
    have k := Lib.hid (newS_any N W (by omega) (by omega))
    have hl := Lib.hid (zslots_length N)
    have hrr := Lib.hid (zslots_right N (by omega) (by omega))
    clear hr
    go_enter Try.func13, Try.ntmps13
    go_wp2_with fail
    refine k.out.mono ?_
    rintro e w1 ⟨A1, c1, rfl, ho, hf, hb⟩
    have hs := Sw.of_own ho hf
    rw [hl.out] at hs ⊢
    have hs0 : Sw w1 (.slice A1 (zslots N).length c1) (zslots N) := Sw.of_own ho hf
    have S := Lib.hid hs
    have B1 := Lib.hid hb
    have V0 := Lib.hid (V0.out.below hb)
    clear hs hb ho hf k hs0
    have k := Lib.hid (right_any (N : Int) S.out)
    rw [hrr.out] at k
    go_wp2_with fail
    refine k.out.mono ?_
    rintro e w2 ⟨rfl, hb⟩
    have B2 := Lib.hid (below_tr14 B1.out hb)
    have S := Lib.hid (S.out.below hb)
    have V0 := Lib.hid (V0.out.below hb)
    clear hb k B1
    have k := Lib.hid (used_any S.out)
    rw [zslots_used] at k
    go_wp2_with fail
    refine k.out.mono ?_
    rintro e w3 ⟨rfl, hb⟩
    have B0 := Lib.hid (below_tr14 B2.out hb)
    have V0 := Lib.hid (V0.out.below hb)
    clear hb k B2 S
    have k := Lib.hid (used_any V0.out)
    go_wp2_with fail
    refine k.out.mono ?_
    rintro e v1 ⟨rfl, hb⟩
    have B1 := Lib.hid (below_tr14 B0.out hb)
    have V0 := Lib.hid (V0.out.below hb)
    clear hb k B0
    have k := Lib.hid (rused_any V0.out)
    go_wp2_with fail
    refine k.out.mono ?_
    rintro e v2 ⟨rfl, hb⟩
    have B2 := Lib.hid (below_tr14 B1.out hb)
    have V0 := Lib.hid (V0.out.below hb)
    clear hb k B1
    have k := Lib.hid (right_any (N : Int) V0.out)
    go_wp2_with fail
    refine k.out.mono ?_
    rintro e v3 ⟨rfl, hb⟩
    have B3 := Lib.hid (below_tr14 B2.out hb)
    have V0 := Lib.hid (V0.out.below hb)
    clear hb k B2
    have k := Lib.hid (rright_any (N : Int) V0.out)
    go_wp2_with fail
    refine k.out.mono ?_
    rintro e v4 ⟨rfl, hb⟩
    have B4 := Lib.hid (below_tr14 B3.out hb)
    have V0 := Lib.hid (V0.out.below hb)
    clear hb k B3
    have k := Lib.hid (handles_any V0.out)
    go_wp2_with fail
    refine k.out.mono ?_
    rintro e v5 ⟨EI1, eI1, rfl, ho, hb⟩
    have B5 := Lib.hid (below_tr14 B4.out hb)
    have V0 := Lib.hid (V0.out.below hb)
    have I1 := Lib.hid (Iw.of_own ho)
    clear hb k B4 ho
    have k := Lib.hid (rhandles_any V0.out)
    go_wp2_with fail
    refine k.out.mono ?_
    rintro e v6 ⟨EI2, eI2, rfl, ho, hb⟩
    have B6 := Lib.hid (below_tr14 B5.out hb)
    have V0 := Lib.hid (V0.out.below hb)
    have I1 := Lib.hid (I1.out.below hb)
    have I2 := Lib.hid (Iw.of_own ho)
    clear hb k B5 ho
    have k := Lib.hid (ints_any I1.out I2.out)
    rw [sameI_refl] at k
    go_wp2_with fail
    refine k.out.mono ?_
    rintro e v9 ⟨rfl, q, rfl⟩
    have B9 := Lib.hid (below_drewN (k := q) B6.out)
    clear k
    go_wp2_with fail
    refine (awake14 _).mono ?_
    rintro e v10 ⟨rfl, hb⟩
    have B := Lib.hid (below_tr14 B9.out hb)
    clear hb
    go_wp2
    go_ret
    exact ⟨rfl, B.out⟩
set_option maxRecDepth 100000 in
set_option maxHeartbeats 800000 in
theorem rootsTells_long {W : World} (A : Option Addr) (n c : Nat) (h : Int) (hn : 1200 < n) (h1 : n ≤ c) (h2 : c ≤ 9223372036854775807) : Calls Try.prog 13 #[.slice A n c, .int .i64 h] W (Out W (.bool true)) := by
  have H := Lib.hid (awake14 W)
  have hn1 : (1200 : Int) < (n : Int) := by omega
  go_enter Try.func13, Try.ntmps13
  go_wp2_with fail
  refine H.out.mono ?_
  rintro e w1 ⟨rfl, hb⟩
  have HB := Lib.hid hb
  clear hb
  go_wp2
  go_ret
  exact ⟨rfl, HB.out⟩
theorem rootsTells_walk (v : Value) (h : Int) (W : World) (hv : ∃ ss, Sw W v ss) : Calls Try.prog 13 #[v, .int .i64 h] W fun e w' => e = .returned (.bool true) ∧ Below W.heap.size W w' := by
  obtain ⟨ss, hv⟩ := hv
  obtain ⟨⟨A, c, rfl, a1, a2, _⟩, _⟩ := id hv
  by_cases hn : ss.length ≤ 1200
  · exact rootsTells_short h hv hn
  · unfold maxLen at a2
    exact rootsTells_long A ss.length c h (by omega) a1 a2
end Go.Proofs.Ytcljgphipdbckaa
