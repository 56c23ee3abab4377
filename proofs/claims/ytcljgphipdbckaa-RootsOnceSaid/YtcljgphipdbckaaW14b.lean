/- The walks of layer 14 (roots), second part: first, IndexFunc, find. -/
import Derived.Test.YtcljgphipdbckaaW14
namespace Go.Proofs.Ytcljgphipdbckaa
set_option linter.unusedVariables false
set_option linter.unusedSimpArgs false
open Go.RowKit

theorem below_tr14 {A w w' : World} (h : Below A.heap.size A w) (h2 : Below w.heap.size w w') : Below A.heap.size A w' := h.trans (h2.mono h.size)
set_option maxHeartbeats 800000 in
theorem first_any (A : Option Addr) (n c : Nat) (W : World) (h1 : n ≤ c) (h2 : c ≤ maxLen) (hA : A = none → c = 0) : Calls Try.prog 113 #[.slice A n c] W fun e w' => e = .returned (.slice A (min n 1024) c) ∧ W = w' := by
  unfold maxLen at h2
  by_cases hn : n ≤ 1024
  · have e1 : min n 1024 = n := by omega
    rw [e1]
    have i1 : (n : Int) ≤ 1024 := by omega
    have i2 : (n : Int) ≤ (c : Int) := by omega
    have i3 : (0 : Int) ≤ (n : Int) := by omega
    have i4 : min (n : Int) 1024 = (n : Int) := by omega
    clear h2
    rcases A with _ | a
    · have := hA rfl
      subst this
      obtain rfl : n = 0 := by omega
      go_enter Try.func113, Try.ntmps113
      go_wp2
      go_ret
      simp
    · go_enter Try.func113, Try.ntmps113
      go_wp2
      go_ret
      simp
  · have e1 : min n 1024 = 1024 := by omega
    rw [e1]
    have i1 : (1024 : Int) ≤ n := by omega
    have i2 : (1024 : Int) ≤ (c : Int) := by omega
    have i4 : min (n : Int) 1024 = 1024 := by omega
    rcases A with _ | a
    · have := hA rfl
      omega
    · clear h2
      go_enter Try.func113, Try.ntmps113
      go_wp2
      go_ret
      simp

def freeN (u : Bool) (g : Int) : Bool := goodN g && !u

set_option maxHeartbeats 800000 in
theorem free_any (u : Bool) (g x : Int) (W : World) : Calls Try.prog 114 #[.agg #[.bool u, .int .i64 g, .int .u64 x]] W (Out W (.bool (freeN u g))) := by
  have HG := fun w => Lib.hid (good_any u g x w)
  have HB0 := Lib.hid ((Below.refl W.heap.size W).alloc (Nat.le_refl _) (.cells #[.bool u, .int .i64 g, .int .u64 x] 89))
  have HK0 := Lib.hid (Blk.new W 89 #[.bool u, .int .i64 g, .int .u64 x])
  unfold freeN
  generalize goodN g = b at *
  cases b
  · go_enter Try.func114, Try.ntmps114
    go_wp2_with fail
    refine (HG _).out.mono ?_
    rintro e w1 ⟨rfl, hb⟩
    have HB1 := Lib.hid (below_tr14 HB0.out hb)
    clear hb
    go_wp2
    go_ret
    exact ⟨by simp, HB1.out⟩
  · go_enter Try.func114, Try.ntmps114
    go_wp2_with fail
    refine (HG _).out.mono ?_
    rintro e w1 ⟨rfl, hb⟩
    have HB1 := Lib.hid (below_tr14 HB0.out hb)
    have q0 := (HK0.out.below hb HK0.out.lt).cell 0
    clear hb
    go_wp2
    go_ret
    exact ⟨by simp, HB1.out⟩

def freeS (s : Slot) : Bool := freeN s.used s.gen
/-- the first slot that f holds of, or -1 -/
def idxI (f : Slot → Bool) (ss : List Slot) : Int := if ss.findIdx f < ss.length then ((ss.findIdx f : Nat) : Int) else -1
theorem slot_get (ss : List Slot) (k : Nat) (h : k < ss.length) : slot ss k = ss[k] := by
  unfold slot; rw [List.getD_eq_getElem?_getD, List.getElem?_eq_getElem h]; rfl
theorem idx_at {f : Slot → Bool} {ss : List Slot} {k : Nat} (hk : k < ss.length) (h : f (slot ss k) = true) (hn : ∀ j, j < k → f (slot ss j) = false) : ss.findIdx f = k := by
  rw [List.findIdx_eq hk]
  refine ⟨by rw [← slot_get]; exact h, fun j hj => ?_⟩
  rw [← slot_get ss j (by omega)]
  exact hn j hj
theorem idxI_at {f : Slot → Bool} {ss : List Slot} {k : Nat} (hk : k < ss.length) (h : f (slot ss k) = true) (hn : ∀ j, j < k → f (slot ss j) = false) : idxI f ss = k := by
  unfold idxI; rw [idx_at hk h hn, if_pos hk]
theorem idxI_none {f : Slot → Bool} {ss : List Slot} (hn : ∀ j, j < ss.length → f (slot ss j) = false) : idxI f ss = -1 := by
  unfold idxI
  rw [if_neg]
  intro h
  have := List.findIdx_getElem (w := h)
  rw [← slot_get, hn _ h] at this
  cases this
theorem none_succ {f : Slot → Bool} {ss : List Slot} {k : Nat} (hn : ∀ j, j < k → f (slot ss j) = false) (h : f (slot ss k) = false) : ∀ j, j < k + 1 → f (slot ss j) = false := fun j hj => by
  rcases Nat.lt_or_ge j k with h1 | h1
  · exact hn j h1
  · obtain rfl : j = k := by omega
    exact h

set_option maxHeartbeats 1600000 in
theorem index_any {w : World} {A : Option Addr} {ss : List Slot} {c : Nat} (hv : Sw w (.slice A ss.length c) ss) : Calls Try.prog 112 #[.slice A ss.length c, .func (.func 114) #[] #[]] w (Out w (.int .i64 (idxI freeS ss))) := by
  obtain ⟨⟨A', c', e, a1, a2, _⟩, _⟩ := id hv
  simp only [Value.slice.injEq] at e
  obtain ⟨rfl, _, rfl⟩ := e
  unfold maxLen at a2
  have HC := fun u g x w => Lib.hid (free_any u g x w)
  have HV := Lib.hid hv
  clear hv
  go_enter Try.func112, Try.ntmps112
  go_wp2
  go_loopw [8] (fun i wr => ∃ k : Nat, k ≤ ss.length ∧ i = .int .i64 (k : Nat) ∧ Hid (∀ j, j < k → freeS (slot ss j) = false) ∧ Hid (Below w.heap.size w wr)) (fun i _ => ss.length - (intOf i).toNat)
  case atStart => exact ⟨0, by omega, rfl, fun j hj => absurd hj (by omega), Below.refl _ _⟩
  case round =>
    obtain ⟨k, hk, rfl, hn, hb⟩ := hrel
    by_cases hlt : k < ss.length
    · have HV2 := Lib.hid (HV.out.below hb.out)
      obtain ⟨b, o, rfl, _, hc⟩ := HV2.out.at_ (by omega)
      obtain ⟨c0, c1, c2⟩ := hc k hlt
      have hi0 : (0 : Int) ≤ (k : Int) := by omega
      have hi1 : (k : Int) < (ss.length : Int) := by omega
      have hf : Hid (freeN (slot ss k).used (slot ss k).gen = freeS (slot ss k)) := rfl
      generalize (slot ss k).used = su at c0 hf
      generalize (slot ss k).gen = sg at c1 hf
      generalize (slot ss k).word = sx at c2
      clear hc
      have HK := fun w => Lib.hid (HC su sg sx w).out
      cases hr : freeN su sg with
      | true =>
        have HF := Lib.hid (idxI_at hlt (hf.out.symm.trans hr) hn.out)
        clear hf hn
        simp only [hr] at HK
        go_wp2_with fail
        refine (HK _).out.mono ?_
        rintro e w1 ⟨rfl, hb1⟩
        go_wp2
        go_ret
        exact ⟨by rw [HF.out]; rfl, below_tr14 hb.out hb1⟩
      | false =>
        have HF := Lib.hid (none_succ hn.out (hf.out.symm.trans hr))
        clear hf hn
        simp only [hr] at HK
        go_wp2_with fail
        refine (HK _).out.mono ?_
        rintro e w1 ⟨rfl, hb1⟩
        have HB1 := Lib.hid (below_tr14 hb.out hb1)
        clear hb1
        go_wp2
        go_roundw
        case rel => exact ⟨k + 1, by omega, by go_num, HF.out, HB1.out⟩
        case measure => simp [intOf] <;> omega
    · obtain rfl : k = ss.length := by omega
      have HF := Lib.hid (idxI_none hn.out)
      clear hn
      go_wp2
      go_ret
      exact ⟨by rw [HF.out]; rfl, hb.out⟩
end Go.Proofs.Ytcljgphipdbckaa
