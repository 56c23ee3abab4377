/- The walks of layer 14 (roots), twelfth part: the reference's Right. -/
import Derived.Test.YtcljgphipdbckaaW14k
namespace Go.Proofs.Ytcljgphipdbckaa
set_option linter.unusedVariables false
set_option linter.unusedSimpArgs false
open Go.RowKit

set_option maxHeartbeats 4000000 in
theorem rright_any {w : World} {v : Value} {ss : List Slot} (n : Int) (hv : Sw w v ss) : Calls Try.prog 72 #[v, .int .i64 n] w (Out w (.bool (rightB ss n))) := by
  obtain ⟨⟨A, c, rfl, a1, a2, _⟩, _⟩ := id hv
  unfold maxLen at a2
  have HC := fun u g x w => Lib.hid (rgood_any u g x w)
  have HV := Lib.hid hv
  have hR := fun h => Lib.hid (right_all (ss := ss) (n := n) h)
  clear hv
  by_cases e1 : (ss.length : Int) = n
  · have e1b : ((ss.length : Int) != n) = false := by simp [e1]
    by_cases e2 : 1 ≤ n
    · by_cases e3 : n ≤ 1024
      · have hR2 := fun h => Lib.hid ((hR h).out.trans (show _ = true by simp [e1, e2, e3]))
        clear e1 hR
        go_enter Try.func72, Try.ntmps72
        go_wp2
        go_loopw [5] (fun i wr => ∃ k : Nat, k ≤ ss.length ∧ i = .int .i64 (k : Nat) ∧ Hid (∀ j, j < k → mayS (slot ss j) = true) ∧ Hid (Below w.heap.size w wr)) (fun i _ => ss.length - (intOf i).toNat)
        case atStart => exact ⟨0, by omega, rfl, fun j hj => absurd hj (by omega), Below.refl _ _⟩
        case round =>
          obtain ⟨k, hk, rfl, hn, hb⟩ := hrel
          by_cases hlt : k < ss.length
          · have HV2 := Lib.hid (HV.out.below hb.out)
            obtain ⟨b, o, rfl, hbl, hc⟩ := HV2.out.at_ (by omega)
            obtain ⟨c0, c1, c2⟩ := hc k hlt
            have hi0 : (0 : Int) ≤ (k : Int) := by omega
            have hi1 : (k : Int) < (ss.length : Int) := by omega
            have HU := Lib.hid ((HV.out.2.at_ k).2)
            have hmay : Hid (mayF (slot ss k).used (slot ss k).gen (slot ss k).word = mayS (slot ss k)) := rfl
            generalize (slot ss k).used = su at *
            generalize (slot ss k).gen = sg at *
            generalize (slot ss k).word = sx at *
            clear hc
            have HDD := fun w => Lib.hid (rdec_any sx w HU.out)
            cases su with
            | true =>
              have HK := fun w => Lib.hid (HC true sg sx w).out
              cases hr : goodN sg with
              | false =>
                simp only [hr] at HK
                have HF : Hid (rightB ss n = false) := right_no hlt (hmay.out.symm.trans (by simp [mayF, hr]))
                clear hn hmay
                go_wp2_with fail
                refine (HK _).out.mono ?_
                rintro e w1 ⟨rfl, hb1⟩
                have HB1 := Lib.hid (below_tr14 hb.out hb1)
                have x0 := (hb1.cell (p := ⟨b, o + k * 3, none⟩) hbl).trans c0
                have x1 := (hb1.cell (p := ⟨b, o + k * 3 + 1, none⟩) hbl).trans c1
                have x2 := (hb1.cell (p := ⟨b, o + k * 3 + 2, none⟩) hbl).trans c2
                clear hb1 c0 c1 c2
                go_wp2
                go_ret
                exact ⟨by rw [HF.out]; rfl, HB1.out⟩
              | true =>
                simp only [hr] at HK
                have hg := (goodN_iff _).1 hr
                have g0 : ¬ (sg < 0) := by omega
                have g1 : ¬ (1099511627776 < sg) := by omega
                clear hg
                cases hd : decB sx with
                | false =>
                  have hE : decE sx = 3 := by unfold decE; rw [hd]; rfl
                  have HD := HDD
                  simp only [hE] at HD
                  have HF : Hid (rightB ss n = false) := right_no hlt (hmay.out.symm.trans (by simp [mayF, hd]))
                  clear hn hmay
                  go_wp2_with fail
                  refine (HK _).out.mono ?_
                  rintro e w1 ⟨rfl, hb1⟩
                  have HB1 := Lib.hid (below_tr14 hb.out hb1)
                  have x0 := (hb1.cell (p := ⟨b, o + k * 3, none⟩) hbl).trans c0
                  have x1 := (hb1.cell (p := ⟨b, o + k * 3 + 1, none⟩) hbl).trans c1
                  have x2 := (hb1.cell (p := ⟨b, o + k * 3 + 2, none⟩) hbl).trans c2
                  clear hb1 c0 c1 c2
                  go_wp2_with fail
                  refine (HD _).out.mono ?_
                  rintro e w2 ⟨rfl, hb2⟩
                  have HB2 := Lib.hid ((below_tr14 HB1.out hb2).alloc (below_tr14 HB1.out hb2).size (.cells #[.int .i64 (decK sx), .int .i64 (decX sx)] 69))
                  clear hb2
                  go_wp2
                  go_ret
                  exact ⟨by rw [HF.out]; rfl, HB2.out⟩
                | true =>
                  have hE : decE sx = 0 := by unfold decE; rw [hd]; rfl
                  have HD := HDD
                  simp only [hE] at HD
                  have HM : Hid (∀ j, j < k + 1 → mayS (slot ss j) = true) := none_succM hn.out (hmay.out.symm.trans (by simp [mayF, hd, hr]))
                  clear hn hmay
                  go_wp2_with fail
                  refine (HK _).out.mono ?_
                  rintro e w1 ⟨rfl, hb1⟩
                  have HB1 := Lib.hid (below_tr14 hb.out hb1)
                  have x0 := (hb1.cell (p := ⟨b, o + k * 3, none⟩) hbl).trans c0
                  have x1 := (hb1.cell (p := ⟨b, o + k * 3 + 1, none⟩) hbl).trans c1
                  have x2 := (hb1.cell (p := ⟨b, o + k * 3 + 2, none⟩) hbl).trans c2
                  clear hb1 c0 c1 c2
                  go_wp2_with fail
                  refine (HD _).out.mono ?_
                  rintro e w2 ⟨rfl, hb2⟩
                  have HB2 := Lib.hid ((below_tr14 HB1.out hb2).alloc (below_tr14 HB1.out hb2).size (.cells #[.int .i64 (decK sx), .int .i64 (decX sx)] 69))
                  clear hb2
                  go_wp2
                  go_roundw
                  case rel => exact ⟨k + 1, by omega, by go_num, HM.out, HB2.out⟩
                  case measure => simp [intOf] <;> omega
            | false =>
              by_cases g0 : sg < 0
              · have hr : goodN sg = false := by unfold goodN; simp; omega
                have hs : decide (sg = 1099511627776) = false := by simp; omega
                have HF : Hid (rightB ss n = false) := right_no hlt (hmay.out.symm.trans (by simp [mayF, hr, hs]))
                clear hn hmay
                clear hr hs
                go_wp2
                go_ret
                exact ⟨by rw [HF.out]; rfl, hb.out⟩
              · by_cases g1 : 1099511627776 < sg
                · have hr : goodN sg = false := by unfold goodN; simp; omega
                  have hs : decide (sg = 1099511627776) = false := by simp; omega
                  have HF : Hid (rightB ss n = false) := right_no hlt (hmay.out.symm.trans (by simp [mayF, hr, hs]))
                  clear hn hmay
                  clear hr hs
                  go_wp2
                  go_ret
                  exact ⟨by rw [HF.out]; rfl, hb.out⟩
                · by_cases hx : sx = 0
                  · have hx0 : decide (sx = 0) = true := by simp [hx]
                    have hxn : (sx != 0) = false := by simp [hx]
                    have hd : decB sx = true := (decB_iff sx).2 (.inl hx)
                    have hgg : (goodN sg || decide (sg = 1099511627776)) = true := by unfold goodN; simp; omega
                    have hE : decE sx = 0 := by unfold decE; rw [hd]; rfl
                    have HD := HDD
                    simp only [hE] at HD
                    clear hx
                    have HM : Hid (∀ j, j < k + 1 → mayS (slot ss j) = true) := none_succM hn.out (hmay.out.symm.trans (by simp [mayF, hd, hx0, -Bool.or_eq_true, hgg]))
                    clear hn hmay
                    clear hx0 hd hgg
                    go_wp2_with fail
                    refine (HD _).out.mono ?_
                    rintro e w2 ⟨rfl, hb2⟩
                    have HB2 := Lib.hid ((below_tr14 hb.out hb2).alloc (below_tr14 hb.out hb2).size (.cells #[.int .i64 (decK sx), .int .i64 (decX sx)] 69))
                    clear hb2
                    go_wp2
                    go_roundw
                    case rel => exact ⟨k + 1, by omega, by go_num, HM.out, HB2.out⟩
                    case measure => simp [intOf] <;> omega
                  · have hx0 : decide (sx = 0) = false := by simpa using hx
                    have hxn : (sx != 0) = true := by simpa using hx
                    clear hx
                    have HF : Hid (rightB ss n = false) := right_no hlt (hmay.out.symm.trans (by simp [mayF, hx0]))
                    clear hn hmay
                    clear hx0
                    go_wp2
                    go_ret
                    exact ⟨by rw [HF.out]; rfl, hb.out⟩

          · obtain rfl : k = ss.length := by omega
            have HQ := hR2 hn.out
            clear hn hR2
            go_wp2
            go_ret
            exact ⟨by rw [HQ.out]; rfl, hb.out⟩
      · have HQ : Hid (rightB ss n = false) := by rw [Hid]; unfold rightB; simp [e3]
        rw [HQ.out]
        have e4 : 1024 < n := by omega
        clear e1 hR HV
        go_enter Try.func72, Try.ntmps72
        go_wp2
        go_ret
        exact ⟨rfl, Below.refl _ _⟩
    · have HQ : Hid (rightB ss n = false) := by rw [Hid]; unfold rightB; simp [e2]
      rw [HQ.out]
      have e4 : n < 1 := by omega
      clear e1 hR HV
      go_enter Try.func72, Try.ntmps72
      go_wp2
      go_ret
      exact ⟨rfl, Below.refl _ _⟩
  · have e1b : ((ss.length : Int) != n) = true := by simpa using e1
    have HQ : Hid (rightB ss n = false) := by rw [Hid]; unfold rightB; simp [e1]
    rw [HQ.out]
    clear e1 hR HV
    go_enter Try.func72, Try.ntmps72
    go_wp2
    go_ret
    exact ⟨rfl, Below.refl _ _⟩
end Go.Proofs.Ytcljgphipdbckaa
