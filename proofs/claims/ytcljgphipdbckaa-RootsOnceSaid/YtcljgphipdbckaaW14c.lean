/- The walks of layer 14 (roots), third part: find. -/
import Derived.Test.YtcljgphipdbckaaP14
namespace Go.Proofs.Ytcljgphipdbckaa
set_option linter.unusedVariables false
set_option linter.unusedSimpArgs false
open Go.RowKit

set_option maxHeartbeats 1600000 in
theorem find_any {w : World} {A : Option Addr} {ss : List Slot} {c : Nat} (h : Int) (hh : h ≤ 9223372036854775807) (hv : Sw w (.slice A ss.length c) ss) : Calls Try.prog 117 #[.slice A ss.length c, .int .i64 h] w (Out w (.tuple #[.int .i64 (fndI ss h), .int .i64 (fndE ss h)])) := by
  rcases Int.lt_or_le h 0 with h0 | h0
  · rw [(fnd_no (fnd_neg h0)).1, (fnd_no (fnd_neg h0)).2]
    clear hv hh
    go_enter Try.func117, Try.ntmps117
    go_wp2
    go_ret2
    exact ⟨rfl, Below.refl _ _⟩
  · obtain ⟨H, rfl⟩ := Int.eq_ofNat_of_zero_le h0
    obtain ⟨⟨A', c', e, a1, a2, _⟩, _⟩ := id hv
    simp only [Value.slice.injEq] at e
    obtain ⟨rfl, _, rfl⟩ := e
    unfold maxLen at a2
    have tm : (H : Int).tmod 1024 = ((H % 1024 : Nat) : Int) := by rw [Int.tmod_eq_emod_of_nonneg (by omega)]; omega
    have td : (H : Int).tdiv 1024 = ((H / 1024 : Nat) : Int) := by rw [Int.tdiv_eq_ediv_of_nonneg (by omega)]; omega
    have wm : IntKind.i64.wrap ((H % 1024 : Nat) : Int) = ((H % 1024 : Nat) : Int) := Go.IntWalk.i64_in _ (by omega)
    have wd : IntKind.i64.wrap ((H / 1024 : Nat) : Int) = ((H / 1024 : Nat) : Int) := Go.IntWalk.i64_in _ (by omega)
    have mm : ((H % 1024 : Nat) : Int) = (H : Int) % 1024 := by omega
    have hk0 : (0 : Int) ≤ ((H % 1024 : Nat) : Int) := by omega
    have hx := fnd_nat ss H
    by_cases hl : H % 1024 < ss.length
    · have HC := fun u g x w => Lib.hid (good_any u g x w)
      have hi1 : ((H % 1024 : Nat) : Int) < (ss.length : Int) := by omega
      obtain ⟨b, o, rfl, hbl, hc⟩ := hv.at_ (by omega)
      obtain ⟨c0, c1, c2⟩ := hc _ hl
      rw [show decide (H % 1024 < ss.length) = true by simpa using hl] at hx
      have hi : fndB ss H = true → fndI ss H = ((H % 1024 : Nat) : Int) := fun h => by rw [(fnd_yes h).1, mm]
      clear hv hc mm h0 hh hl
      generalize (slot ss (H % 1024)).used = su at *
      generalize (slot ss (H % 1024)).gen = sg at *
      generalize (slot ss (H % 1024)).word = sx at *
      generalize H % 1024 = K at *
      generalize H / 1024 = Q at *
      have HB0 := Lib.hid (Below.refl w.heap.size w)
      cases su with
      | false =>
        rw [(fnd_no hx).1, (fnd_no hx).2]
        clear hx hi HC
        go_enter Try.func117, Try.ntmps117
        go_wp2
        go_ret2
        exact ⟨rfl, HB0.out⟩
      | true =>
        have HK := fun w => Lib.hid (HC true sg sx w).out
        cases hr : goodN sg with
        | false =>
          rw [hr] at hx
          rw [(fnd_no hx).1, (fnd_no hx).2]
          simp only [hr] at HK
          clear hx hi HC
          go_enter Try.func117, Try.ntmps117
          go_wp2_with fail
          refine (HK _).out.mono ?_
          rintro e w1 ⟨rfl, hb⟩
          have HB := Lib.hid hb
          clear hb
          go_wp2
          go_ret2
          exact ⟨rfl, HB.out⟩
        | true =>
          rw [hr] at hx
          simp only [hr] at HK
          by_cases hq : sg = (Q : Int)
          · have hy : fndB ss H = true := by rw [hx]; simp [hq]
            have he := (fnd_yes hy).2
            have hj := hi hy
            rw [he, hj]
            have hne : (sg != (Q : Int)) = false := by simp [hq]
            clear hx hi HC hy he hj hq
            go_enter Try.func117, Try.ntmps117
            go_wp2_with fail
            refine (HK _).out.mono ?_
            rintro e w1 ⟨rfl, hb⟩
            have HB := Lib.hid hb
            have z1 := (hb.cell (p := ⟨b, o + K * 3 + 1, none⟩) hbl).trans c1
            clear hb
            go_wp2
            go_ret2
            exact ⟨rfl, HB.out⟩
          · have hy : fndB ss H = false := by rw [hx]; simp [hq]
            rw [(fnd_no hy).1, (fnd_no hy).2]
            have hne : (sg != (Q : Int)) = true := by simpa using hq
            clear hx hi HC hy hq
            go_enter Try.func117, Try.ntmps117
            go_wp2_with fail
            refine (HK _).out.mono ?_
            rintro e w1 ⟨rfl, hb⟩
            have HB := Lib.hid hb
            have z1 := (hb.cell (p := ⟨b, o + K * 3 + 1, none⟩) hbl).trans c1
            clear hb
            go_wp2
            go_ret2
            exact ⟨rfl, HB.out⟩
    · rw [show decide (H % 1024 < ss.length) = false by simpa using hl] at hx
      have hi1 : (ss.length : Int) ≤ ((H % 1024 : Nat) : Int) := by omega
      rw [(fnd_no hx).1, (fnd_no hx).2]
      clear hx hv mm hl
      go_enter Try.func117, Try.ntmps117
      go_wp2
      go_ret2
      exact ⟨rfl, Below.refl _ _⟩
end Go.Proofs.Ytcljgphipdbckaa
