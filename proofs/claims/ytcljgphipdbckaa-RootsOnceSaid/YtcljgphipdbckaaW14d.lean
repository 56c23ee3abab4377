/- The walks of layer 14 (roots), fourth part: the reference's place. -/
import Derived.Test.YtcljgphipdbckaaW14c
namespace Go.Proofs.Ytcljgphipdbckaa
set_option linter.unusedVariables false
set_option linter.unusedSimpArgs false
open Go.RowKit

theorem none_succ' {f : Nat → Bool} {k : Nat} (hn : ∀ j, j < k → f j = false) (h : f k = false) : ∀ j, j < k + 1 → f j = false := fun j hj => by
  rcases Nat.lt_or_ge j k with h1 | h1
  · exact hn j h1
  · obtain rfl : j = k := by omega
    exact h
theorem rfnd_at {ss : List Slot} {h : Int} {K : Nat} (k1 : K < ss.length) (k2 : K < 1024) (hh : hit ss h K = true) : rfnd ss h = K := by
  obtain ⟨hf, hi, _⟩ := fnd_hit k1 k2 hh
  unfold rfnd; rw [hf, if_pos rfl, ← (fnd_yes hf).1, hi]
theorem rfnd_none {ss : List Slot} {h : Int} {k : Nat} (hn : ∀ j, j < k → hit ss h j = false) (hk : ss.length ≤ k ∨ 1024 ≤ k) : rfnd ss h = -1 := by
  unfold rfnd; rw [fnd_none fun j h1 h2 => hn j (by omega)]; rfl

set_option maxHeartbeats 1600000 in
theorem rfind_any {w : World} {A : Option Addr} {ss : List Slot} {c : Nat} (h : Int) (hv : Sw w (.slice A ss.length c) ss) : Calls Try.prog 118 #[.slice A ss.length c, .int .i64 h] w (Out w (.int .i64 (rfnd ss h))) := by
  obtain ⟨⟨A', c', e, a1, a2, _⟩, _⟩ := id hv
  simp only [Value.slice.injEq] at e
  obtain ⟨rfl, _, rfl⟩ := e
  unfold maxLen at a2
  have HC := fun u g x w => Lib.hid (rgood_any u g x w)
  have HV := Lib.hid hv
  clear hv
  go_enter Try.func118, Try.ntmps118
  go_wp2
  go_loopw [5] (fun i wr => ∃ k : Nat, k ≤ ss.length ∧ k ≤ 1024 ∧ i = .int .i64 (k : Nat) ∧ Hid (∀ j, j < k → hit ss h j = false) ∧ Hid (Below w.heap.size w wr)) (fun i _ => ss.length - (intOf i).toNat)
  case atStart => exact ⟨0, by omega, by omega, rfl, fun j hj => absurd hj (by omega), Below.refl _ _⟩
  case round =>
    obtain ⟨k, hk, hkk, rfl, hn, hb⟩ := hrel
    by_cases hlt : k < ss.length
    · by_cases hlt2 : k < 1024
      · have HV2 := Lib.hid (HV.out.below hb.out)
        obtain ⟨b, o, rfl, hbl, hc⟩ := HV2.out.at_ (by omega)
        obtain ⟨c0, c1, c2⟩ := hc k hlt
        have hi0 : (0 : Int) ≤ (k : Int) := by omega
        have hi1 : (k : Int) < (ss.length : Int) := by omega
        have hi2 : (k : Int) < 1024 := by omega
        have hf : Hid (hit ss h k = ((slot ss k).used && goodN (slot ss k).gen && decide (h = k + 1024 * (slot ss k).gen))) := rfl
        generalize (slot ss k).used = su at c0 hf
        generalize (slot ss k).gen = sg at c1 hf
        generalize (slot ss k).word = sx at c2
        clear hc
        cases su with
        | false =>
          have HF := Lib.hid (none_succ' hn.out hf.out)
          clear hn hf
          go_wp2
          go_roundw
          case rel => exact ⟨k + 1, by omega, by omega, by go_num, HF.out, hb.out⟩
          case measure => simp [intOf] <;> omega
        | true =>
          have HK := fun w => Lib.hid (HC true sg sx w).out
          cases hr : goodN sg with
          | false =>
            rw [hr] at hf
            simp only [hr] at HK
            have HF := Lib.hid (none_succ' hn.out hf.out)
            clear hn hf
            go_wp2_with fail
            refine (HK _).out.mono ?_
            rintro e w1 ⟨rfl, hb1⟩
            have HB1 := Lib.hid (below_tr14 hb.out hb1)
            clear hb1
            go_wp2
            go_roundw
            case rel => exact ⟨k + 1, by omega, by omega, by go_num, HF.out, HB1.out⟩
            case measure => simp [intOf] <;> omega
          | true =>
            have hg := (goodN_iff _).1 hr
            rw [hr] at hf
            simp only [hr] at HK
            have wm : IntKind.i64.wrap (1024 * sg) = 1024 * sg := Go.IntWalk.i64_in _ (by omega)
            have wa : IntKind.i64.wrap ((k : Int) + 1024 * sg) = (k : Int) + 1024 * sg := Go.IntWalk.i64_in _ (by omega)
            clear hg hr
            by_cases hq : h = (k : Int) + 1024 * sg
            · have hz : Hid (rfnd ss h = (k : Int)) := rfnd_at hlt hlt2 (by rw [hf.out]; simp [hq])
              have hne : (h == (k : Int) + 1024 * sg) = true := by simp [hq]
              clear hf hn hq
              go_wp2_with fail
              refine (HK _).out.mono ?_
              rintro e w1 ⟨rfl, hb1⟩
              have z1 := (hb1.cell (p := ⟨b, o + k * 3 + 1, none⟩) hbl).trans c1
              have HB1 := Lib.hid (below_tr14 hb.out hb1)
              clear hb1
              go_wp2
              go_ret
              exact ⟨by rw [hz.out]; rfl, HB1.out⟩
            · have HF := Lib.hid (none_succ' hn.out (hf.out.trans (by simp [hq])))
              have hne : (h == (k : Int) + 1024 * sg) = false := by simpa using hq
              clear hf hn hq
              go_wp2_with fail
              refine (HK _).out.mono ?_
              rintro e w1 ⟨rfl, hb1⟩
              have z1 := (hb1.cell (p := ⟨b, o + k * 3 + 1, none⟩) hbl).trans c1
              have HB1 := Lib.hid (below_tr14 hb.out hb1)
              clear hb1
              go_wp2
              go_roundw
              case rel => exact ⟨k + 1, by omega, by omega, by go_num, HF.out, HB1.out⟩
              case measure => simp [intOf] <;> omega
      · obtain rfl : k = 1024 := by omega
        have hz : Hid (rfnd ss h = -1) := rfnd_none hn.out (.inr (by omega))
        have hi1 : ((1024 : Nat) : Int) < (ss.length : Int) := by omega
        clear hn
        go_wp2
        go_ret
        exact ⟨by rw [hz.out]; rfl, hb.out⟩
    · obtain rfl : k = ss.length := by omega
      have hz : Hid (rfnd ss h = -1) := rfnd_none hn.out (.inl (by omega))
      clear hn
      go_wp2
      go_ret
      exact ⟨by rw [hz.out]; rfl, hb.out⟩

set_option maxHeartbeats 800000 in
theorem rget_any {w : World} {A : Option Addr} {ss : List Slot} {c : Nat} (h : Int) (hv : Sw w (.slice A ss.length c) ss) : Calls Try.prog 62 #[.slice A ss.length c, .int .i64 h] w (Out w (.tuple #[.int .u64 (getW ss h), .int .i64 (fndE ss h)])) := by
  obtain ⟨⟨A', c', e, a1, a2, _⟩, _⟩ := id hv
  simp only [Value.slice.injEq] at e
  obtain ⟨rfl, _, rfl⟩ := e
  unfold maxLen at a2
  have hk := rfind_any h hv
  rcases rfnd_cases ss h with ⟨hf, e1, e2, e3⟩ | ⟨K, k1, hf, e1, e2, e3, _⟩
  · rw [e1] at hk
    have hg : getW ss h = 0 := by unfold getW; rw [hf]; rfl
    rw [hg, e3]
    have HK := Lib.hid hk
    clear hk hv hf e1 e2 e3 hg
    go_enter Try.func62, Try.ntmps62
    go_wp2_with fail
    refine HK.out.mono ?_
    rintro e w1 ⟨rfl, hb⟩
    have HB := Lib.hid hb
    clear hb
    go_wp2
    go_ret2
    exact ⟨rfl, HB.out⟩
  · rw [e1] at hk
    have hg : getW ss h = (slot ss K).word := by unfold getW; rw [hf, if_pos rfl, e2]; rfl
    rw [hg, e3]
    have HK := Lib.hid hk
    obtain ⟨b, o, rfl, hbl, hc⟩ := hv.at_ (by omega)
    obtain ⟨_, _, c2⟩ := hc K k1
    have hi0 : (0 : Int) ≤ (K : Int) := by omega
    have hi1 : (K : Int) < (ss.length : Int) := by omega
    generalize (slot ss K).word = sx at *
    clear hk hv hf e1 e2 e3 hg hc
    go_enter Try.func62, Try.ntmps62
    go_wp2_with fail
    refine HK.out.mono ?_
    rintro e w1 ⟨rfl, hb⟩
    have z2 := (hb.cell (p := ⟨b, o + K * 3 + 2, none⟩) hbl).trans c2
    have HB := Lib.hid hb
    clear hb
    go_wp2
    go_ret2
    exact ⟨rfl, HB.out⟩
set_option maxHeartbeats 800000 in
theorem get_any {w : World} {A : Option Addr} {ss : List Slot} {c : Nat} (h : Int) (hh : h ≤ 9223372036854775807) (hv : Sw w (.slice A ss.length c) ss) : Calls Try.prog 61 #[.slice A ss.length c, .int .i64 h] w (Out w (.tuple #[.int .u64 (getW ss h), .int .i64 (fndE ss h)])) := by
  obtain ⟨⟨A', c', e, a1, a2, _⟩, _⟩ := id hv
  simp only [Value.slice.injEq] at e
  obtain ⟨rfl, _, rfl⟩ := e
  unfold maxLen at a2
  have hk := find_any h hh hv
  rcases rfnd_cases ss h with ⟨hf, e1, e2, e3⟩ | ⟨K, k1, hf, e1, e2, e3, _⟩
  · rw [e2, e3] at hk
    have hg : getW ss h = 0 := by unfold getW; rw [hf]; rfl
    rw [hg, e3]
    have HK := Lib.hid hk
    clear hk hv hf e1 e2 e3 hg
    go_enter Try.func61, Try.ntmps61
    go_wp2_with fail
    refine HK.out.mono ?_
    rintro e w1 ⟨rfl, hb⟩
    have HB := Lib.hid hb
    clear hb
    go_wp2
    go_ret2
    exact ⟨rfl, HB.out⟩
  · rw [e2, e3] at hk
    have hg : getW ss h = (slot ss K).word := by unfold getW; rw [hf, if_pos rfl, e2]; rfl
    rw [hg, e3]
    have HK := Lib.hid hk
    obtain ⟨b, o, rfl, hbl, hc⟩ := hv.at_ (by omega)
    obtain ⟨_, _, c2⟩ := hc K k1
    have hi0 : (0 : Int) ≤ (K : Int) := by omega
    have hi1 : (K : Int) < (ss.length : Int) := by omega
    generalize (slot ss K).word = sx at *
    clear hk hv hf e1 e2 e3 hg hc hh
    go_enter Try.func61, Try.ntmps61
    go_wp2_with fail
    refine HK.out.mono ?_
    rintro e w1 ⟨rfl, hb⟩
    have z2 := (hb.cell (p := ⟨b, o + K * 3 + 2, none⟩) hbl).trans c2
    have HB := Lib.hid hb
    clear hb
    go_wp2
    go_ret2
    exact ⟨rfl, HB.out⟩
end Go.Proofs.Ytcljgphipdbckaa
