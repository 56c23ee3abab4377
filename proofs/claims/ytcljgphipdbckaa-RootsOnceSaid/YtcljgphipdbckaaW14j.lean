/- The walks of layer 14 (roots), tenth part: Handles. -/
import Derived.Test.YtcljgphipdbckaaW14i
namespace Go.Proofs.Ytcljgphipdbckaa
set_option linter.unusedVariables false
set_option linter.unusedSimpArgs false
open Go.RowKit

set_option maxHeartbeats 1600000 in
theorem handles_any {w : World} {v : Value} {ss : List Slot} (hv : Sw w v ss) : Calls Try.prog 74 #[v] w (FreshI w (handlesL ss (min ss.length 1024))) := by
  obtain ⟨⟨A, c, rfl, a1, a2, a3, _⟩, _⟩ := id hv
  have HFI := Lib.hid (first_any A ss.length c w a1 a2 a3)
  unfold maxLen at a2
  have HC := fun u g x w => Lib.hid (good_any u g x w)
  have HV := Lib.hid hv
  obtain ⟨m, hm⟩ : ∃ m, m = min ss.length 1024 := ⟨_, rfl⟩
  rw [← hm] at HFI ⊢
  have m1 : m ≤ ss.length := by omega
  have m2 : m ≤ 1024 := by omega
  have m3 : m = ss.length ∨ m = 1024 := by omega
  clear hv hm a3
  go_enter Try.func74, Try.ntmps74
  go_wp2_with fail
  refine HFI.out.mono ?_
  rintro e w0 ⟨rfl, rfl⟩
  go_wp2
  go_loopw [3, 9] (fun x i wr => ∃ (k : Nat) (A' : Option Addr) (c' n : Nat) (L : List Int), k ≤ m ∧ i = .int .i64 (k : Nat) ∧ x = .slice A' n c' ∧ n ≤ k ∧ Hid (L = handlesL ss k ∧ n = L.length) ∧ Hid (wr.ownsRow w.heap.size 3 1 (.slice A' n c') n (its L)) ∧ Hid (Below w.heap.size w wr)) (fun _ i _ => m - (intOf i).toNat)
  case atStart => exact ⟨0, none, 0, 0, [], by omega, rfl, rfl, by omega, ⟨rfl, rfl⟩, World.ownsRow_nil _ _ _ _, Below.refl _ _⟩
  case round =>
    obtain ⟨k, A', c', n, L, hk, rfl, rfl, hnk, hL, ho, hb⟩ := hrel
    by_cases hlt : k < m
    · have HV2 := Lib.hid (HV.out.below hb.out)
      obtain ⟨b, o, rfl, hbl, hc⟩ := HV2.out.at_ (by omega)
      obtain ⟨c0, c1, c2⟩ := hc k (by omega)
      have hi0 : (0 : Int) ≤ (k : Int) := by omega
      have hi1 : (k : Int) < (ss.length : Int) := by omega
      have hi2 : (k : Int) < 1024 := by omega
      have hi3 : (k : Int) < (m : Int) := by omega
      have hs := handlesL_succ ss k
      rw [← hL.out.1] at hs
      obtain ⟨su, hsu⟩ : ∃ su, su = (slot ss k).used := ⟨_, rfl⟩
      obtain ⟨sg, hsg⟩ : ∃ sg, sg = (slot ss k).gen := ⟨_, rfl⟩
      obtain ⟨sx, hsx⟩ : ∃ sx, sx = (slot ss k).word := ⟨_, rfl⟩
      rw [← hsu, ← hsg] at hs
      rw [← hsu] at c0
      rw [← hsg] at c1
      rw [← hsx] at c2
      have HLn := Lib.hid hL.out.2
      clear hc hsu hsg hsx hL
      have HBa := Lib.hid (hb.out.alloc hb.out.size (.cells #[.bool su, .int .i64 sg, .int .u64 sx] 89))
      have HOa := Lib.hid (ho.out.alloc (.cells #[.bool su, .int .i64 sg, .int .u64 sx] 89))
      have HKa := Lib.hid (Blk.new wr 89 #[.bool su, .int .i64 sg, .int .u64 sx])
      cases su with
      | false =>
        have HS : Hid (L = handlesL ss (k + 1)) := by rw [Hid, hs]; simp
        clear hs
        go_wp2
        go_roundw
        case rel => exact ⟨k + 1, A', c', n, L, by omega, by go_num, rfl, by omega, ⟨HS.out, HLn.out⟩, HOa.out, HBa.out⟩
        case measure => simp [intOf] <;> omega
      | true =>
        have HK := fun w => Lib.hid (HC true sg sx w).out
        cases hr : goodN sg with
        | false =>
          simp only [hr] at HK
          have HS : Hid (L = handlesL ss (k + 1)) := by rw [Hid, hs]; simp [hr]
          clear hs hr
          go_wp2_with fail
          refine (HK _).out.mono ?_
          rintro e w1 ⟨rfl, hb1⟩
          have HB1 := Lib.hid (below_tr14 HBa.out hb1)
          have HO1 := Lib.hid (HOa.out.kept (row := none) ⟨hb1.os, hb1.tape, hb1.output, hb1.size, fun k hk _ => hb1.block k hk⟩ (by cases (Value.slice A' n c').ownBlock <;> simp))
          clear hb1
          go_wp2
          go_roundw
          case rel => exact ⟨k + 1, A', c', n, L, by omega, by go_num, rfl, by omega, ⟨HS.out, HLn.out⟩, HO1.out, HB1.out⟩
          case measure => simp [intOf] <;> omega
        | true =>
          simp only [hr] at HK
          have hg := (goodN_iff _).1 hr
          have wm : IntKind.i64.wrap (1024 * sg) = 1024 * sg := Go.IntWalk.i64_in _ (by omega)
          have wa : IntKind.i64.wrap ((k : Int) + 1024 * sg) = (k : Int) + 1024 * sg := Go.IntWalk.i64_in _ (by omega)
          have HS : Hid (L ++ [(k : Int) + 1024 * sg] = handlesL ss (k + 1)) := by rw [Hid, hs]; simp [hr]
          clear hs hr hg
          go_wp2_with fail
          refine (HK _).out.mono ?_
          rintro e w1 ⟨rfl, hb1⟩
          have HB1 := Lib.hid (below_tr14 HBa.out hb1)
          have HO1 := Lib.hid (HOa.out.kept (row := none) ⟨hb1.os, hb1.tape, hb1.output, hb1.size, fun k hk _ => hb1.block k hk⟩ (by cases (Value.slice A' n c').ownBlock <;> simp))
          have y0 := (Lib.hid (HKa.out.below hb1 HKa.out.lt)).out.cell 1
          clear hb1
          go_wp2_with (at_builtin; refine wpList_append1 rfl (.tmp 20) (.tmp 26) 86 3 (.int .i64 0) 8 rfl Try.underlying86 i64_info rfl (by omega) w1 w.heap.size n (.slice A' n c') (its L) (.int .i64 ((k : Int) + 1024 * sg)) rfl HO1.out rfl rfl (by omega) HB1.out.size ?_; intro A2 c2' w2 hown hgr hat; have HB2 := Lib.hid (below_grown HB1.out HB1.out.size HO1.out hgr); have HO2 := Lib.hid hown; clear hown hgr hat)
          go_roundw
          case rel => exact ⟨k + 1, A2, c2', n + 1, L ++ [(k : Int) + 1024 * sg], by omega, by go_num, rfl, by omega, ⟨HS.out, by rw [HLn.out]; simp⟩, by rw [← its_snoc]; exact HO2.out, HB2.out⟩
          case measure => simp [intOf] <;> omega
    · obtain rfl : k = m := by omega
      go_wp2
      go_ret
      exact FreshI.mk (hL.out.2.trans (by rw [hL.out.1])) (by rw [← hL.out.1]; exact ho.out) hb.out

set_option maxHeartbeats 1600000 in
theorem rhandles_any {w : World} {v : Value} {ss : List Slot} (hv : Sw w v ss) : Calls Try.prog 75 #[v] w (FreshI w (handlesL ss (min ss.length 1024))) := by
  obtain ⟨⟨A, c, rfl, a1, a2, a3, _⟩, _⟩ := id hv
  
  unfold maxLen at a2
  have HC := fun u g x w => Lib.hid (rgood_any u g x w)
  have HV := Lib.hid hv
  obtain ⟨m, hm⟩ : ∃ m, m = min ss.length 1024 := ⟨_, rfl⟩
  rw [← hm] at ⊢
  have m1 : m ≤ ss.length := by omega
  have m2 : m ≤ 1024 := by omega
  have m3 : m = ss.length ∨ m = 1024 := by omega
  clear hv hm a3
  go_enter Try.func75, Try.ntmps75
  go_wp2
  go_loopw [3, 4] (fun x i wr => ∃ (k : Nat) (A' : Option Addr) (c' n : Nat) (L : List Int), k ≤ m ∧ i = .int .i64 (k : Nat) ∧ x = .slice A' n c' ∧ n ≤ k ∧ Hid (L = handlesL ss k ∧ n = L.length) ∧ Hid (wr.ownsRow w.heap.size 3 1 (.slice A' n c') n (its L)) ∧ Hid (Below w.heap.size w wr)) (fun _ i _ => m - (intOf i).toNat)
  case atStart => exact ⟨0, none, 0, 0, [], by omega, rfl, rfl, by omega, ⟨rfl, rfl⟩, World.ownsRow_nil _ _ _ _, Below.refl _ _⟩
  case round =>
    obtain ⟨k, A', c', n, L, hk, rfl, rfl, hnk, hL, ho, hb⟩ := hrel
    by_cases hlt : k < m
    · have HV2 := Lib.hid (HV.out.below hb.out)
      obtain ⟨b, o, rfl, hbl, hc⟩ := HV2.out.at_ (by omega)
      obtain ⟨c0, c1, c2⟩ := hc k (by omega)
      have hi0 : (0 : Int) ≤ (k : Int) := by omega
      have hi1 : (k : Int) < (ss.length : Int) := by omega
      have hi2 : (k : Int) < 1024 := by omega
      have hi3 : (k : Int) < (m : Int) := by omega
      have hs := handlesL_succ ss k
      rw [← hL.out.1] at hs
      obtain ⟨su, hsu⟩ : ∃ su, su = (slot ss k).used := ⟨_, rfl⟩
      obtain ⟨sg, hsg⟩ : ∃ sg, sg = (slot ss k).gen := ⟨_, rfl⟩
      obtain ⟨sx, hsx⟩ : ∃ sx, sx = (slot ss k).word := ⟨_, rfl⟩
      rw [← hsu, ← hsg] at hs
      rw [← hsu] at c0
      rw [← hsg] at c1
      rw [← hsx] at c2
      have HLn := Lib.hid hL.out.2
      clear hc hsu hsg hsx hL
      have HBa := hb
      have HOa := ho
      cases su with
      | false =>
        have HS : Hid (L = handlesL ss (k + 1)) := by rw [Hid, hs]; simp
        clear hs
        go_wp2
        go_roundw
        case rel => exact ⟨k + 1, A', c', n, L, by omega, by go_num, rfl, by omega, ⟨HS.out, HLn.out⟩, HOa.out, HBa.out⟩
        case measure => simp [intOf] <;> omega
      | true =>
        have HK := fun w => Lib.hid (HC true sg sx w).out
        cases hr : goodN sg with
        | false =>
          simp only [hr] at HK
          have HS : Hid (L = handlesL ss (k + 1)) := by rw [Hid, hs]; simp [hr]
          clear hs hr
          go_wp2_with fail
          refine (HK _).out.mono ?_
          rintro e w1 ⟨rfl, hb1⟩
          have HB1 := Lib.hid (below_tr14 HBa.out hb1)
          have HO1 := Lib.hid (HOa.out.kept (row := none) ⟨hb1.os, hb1.tape, hb1.output, hb1.size, fun k hk _ => hb1.block k hk⟩ (by cases (Value.slice A' n c').ownBlock <;> simp))
          clear hb1
          go_wp2
          go_roundw
          case rel => exact ⟨k + 1, A', c', n, L, by omega, by go_num, rfl, by omega, ⟨HS.out, HLn.out⟩, HO1.out, HB1.out⟩
          case measure => simp [intOf] <;> omega
        | true =>
          simp only [hr] at HK
          have hg := (goodN_iff _).1 hr
          have wm : IntKind.i64.wrap (1024 * sg) = 1024 * sg := Go.IntWalk.i64_in _ (by omega)
          have wa : IntKind.i64.wrap ((k : Int) + 1024 * sg) = (k : Int) + 1024 * sg := Go.IntWalk.i64_in _ (by omega)
          have HS : Hid (L ++ [(k : Int) + 1024 * sg] = handlesL ss (k + 1)) := by rw [Hid, hs]; simp [hr]
          clear hs hr hg
          go_wp2_with fail
          refine (HK _).out.mono ?_
          rintro e w1 ⟨rfl, hb1⟩
          have HB1 := Lib.hid (below_tr14 HBa.out hb1)
          have HO1 := Lib.hid (HOa.out.kept (row := none) ⟨hb1.os, hb1.tape, hb1.output, hb1.size, fun k hk _ => hb1.block k hk⟩ (by cases (Value.slice A' n c').ownBlock <;> simp))
          have y0 := (hb1.cell (p := ⟨b, o + k * 3 + 1, none⟩) hbl).trans c1
          clear hb1
          go_wp2_with (at_builtin; refine wpList_append1 rfl (.tmp 27) (.tmp 36) 86 3 (.int .i64 0) 8 rfl Try.underlying86 i64_info rfl (by omega) w1 w.heap.size n (.slice A' n c') (its L) (.int .i64 ((k : Int) + 1024 * sg)) rfl HO1.out rfl rfl (by omega) HB1.out.size ?_; intro A2 c2' w2 hown hgr hat; have HB2 := Lib.hid (below_grown HB1.out HB1.out.size HO1.out hgr); have HO2 := Lib.hid hown; clear hown hgr hat)
          go_roundw
          case rel => exact ⟨k + 1, A2, c2', n + 1, L ++ [(k : Int) + 1024 * sg], by omega, by go_num, rfl, by omega, ⟨HS.out, by rw [HLn.out]; simp⟩, by rw [← its_snoc]; exact HO2.out, HB2.out⟩
          case measure => simp [intOf] <;> omega
    · obtain rfl : k = m := by omega
      have HL := Lib.hid (hL.out.2.trans (by rw [hL.out.1]))
      by_cases hl5 : k < ss.length
      · have hi1 : (k : Int) < (ss.length : Int) := by omega
        have hi2 : ¬ ((k : Int) < 1024) := by omega
        go_wp2
        go_ret
        exact FreshI.mk HL.out (by rw [← hL.out.1]; exact ho.out) hb.out
      · have hi1 : ¬ ((k : Int) < (ss.length : Int)) := by omega
        go_wp2
        go_ret
        exact FreshI.mk HL.out (by rw [← hL.out.1]; exact ho.out) hb.out

end Go.Proofs.Ytcljgphipdbckaa
