/- The walks of layer 14 (roots), eleventh part: Right. -/
import Derived.Test.YtcljgphipdbckaaW14j
namespace Go.Proofs.Ytcljgphipdbckaa
set_option linter.unusedVariables false
set_option linter.unusedSimpArgs false
open Go.RowKit

def mayF (u : Bool) (g x : Int) : Bool := decB x && (goodN g || (!u && decide (g = 1099511627776))) && (u || decide (x = 0))
theorem none_succM {ss : List Slot} {k : Nat} (hn : ∀ j, j < k → mayS (slot ss j) = true) (h : mayS (slot ss k) = true) : ∀ j, j < k + 1 → mayS (slot ss j) = true := fun j hj => by
  rcases Nat.lt_or_ge j k with h1 | h1
  · exact hn j h1
  · obtain rfl : j = k := by omega
    exact h

set_option maxHeartbeats 4000000 in
theorem right_any {w : World} {v : Value} {ss : List Slot} (n : Int) (hv : Sw w v ss) : Calls Try.prog 69 #[v, .int .i64 n] w (Out w (.bool (rightB ss n))) := by
  obtain ⟨⟨A, c, rfl, a1, a2, _⟩, _⟩ := id hv
  unfold maxLen at a2
  have HC := fun u g x w => Lib.hid (good_any u g x w)
  have HV := Lib.hid hv
  have hR := fun h => Lib.hid (right_all (ss := ss) (n := n) h)
  clear hv
  go_enter Try.func69, Try.ntmps69
  go_wp2
  go_loopw [12] (fun i wr => ∃ k : Nat, k ≤ ss.length ∧ i = .int .i64 (k : Nat) ∧ Hid (∀ j, j < k → mayS (slot ss j) = true) ∧ Hid (Below w.heap.size w wr)) (fun i _ => ss.length - (intOf i).toNat)
  case atStart => exact ⟨0, by omega, rfl, fun j hj => absurd hj (by omega), Below.refl _ _⟩
  case round =>
    obtain ⟨k, hk, rfl, hn, hb⟩ := hrel
    by_cases hlt : k < ss.length
    · have HV2 := Lib.hid (HV.out.below hb.out)
      obtain ⟨b, o, rfl, hbl, hc⟩ := HV2.out.at_ (by omega)
      obtain ⟨c0, c1, c2⟩ := hc k hlt
      have hi0 : (0 : Int) ≤ (k : Int) := by omega
      have hi1 : (k : Int) < (ss.length : Int) := by omega
      have HU := Lib.hid ((HV.out.2.at_ k).2)
      have hmay : Hid (mayF (slot ss k).used (slot ss k).gen (slot ss k).word = mayS (slot ss k)) := rfl
      generalize (slot ss k).used = su at *
      generalize (slot ss k).gen = sg at *
      generalize (slot ss k).word = sx at *
      clear hc
      have HBa := Lib.hid (hb.out.alloc hb.out.size (.cells #[.bool su, .int .i64 sg, .int .u64 sx] 89))
      have HKa := Lib.hid (Blk.new wr 89 #[.bool su, .int .i64 sg, .int .u64 sx])
      have HD := fun w => Lib.hid (vdec_any sx w HU.out)
      cases hd : decB sx with
      | false =>
        have hE : decE sx = 3 := by unfold decE; rw [hd]; rfl
        simp only [hE] at HD
        have HF : Hid (rightB ss n = false) := right_no hlt (hmay.out.symm.trans (by simp [mayF, hd]))
        clear hn hmay
        cases su with
        | true =>
          go_wp2_with fail
          refine (HD _).out.mono ?_
          rintro e w1 ⟨rfl, hb1⟩
          have HB1 := Lib.hid ((below_tr14 HBa.out hb1).alloc (below_tr14 HBa.out hb1).size (.cells #[.int .i64 (decK sx), .int .i64 (decX sx)] 69))
          have hk1 := (HKa.out.below hb1 HKa.out.lt).alloc (.cells #[.int .i64 (decK sx), .int .i64 (decX sx)] 69)
          have y0 := hk1.cell 0
          have y1 := hk1.cell 1
          have y2 := hk1.cell 2
          have HK1 := Lib.hid hk1
          clear hb1 hk1
          go_wp2
          go_ret
          exact ⟨by rw [HF.out]; rfl, HB1.out⟩
        | false =>
          go_wp2_with fail
          refine (HD _).out.mono ?_
          rintro e w1 ⟨rfl, hb1⟩
          have HB1 := Lib.hid ((below_tr14 HBa.out hb1).alloc (below_tr14 HBa.out hb1).size (.cells #[.int .i64 (decK sx), .int .i64 (decX sx)] 69))
          have hk1 := (HKa.out.below hb1 HKa.out.lt).alloc (.cells #[.int .i64 (decK sx), .int .i64 (decX sx)] 69)
          have y0 := hk1.cell 0
          have y1 := hk1.cell 1
          have y2 := hk1.cell 2
          have HK1 := Lib.hid hk1
          clear hb1 hk1
          go_wp2
          go_ret
          exact ⟨by rw [HF.out]; rfl, HB1.out⟩
      | true =>
        have hE : decE sx = 0 := by unfold decE; rw [hd]; rfl
        simp only [hE] at HD
        cases hr : goodN sg with
        | true =>
          have HK := fun su w => Lib.hid (HC su sg sx w).out
          simp only [hr] at HK
          cases su with
          | true =>
            have HK := HK true
            have HM : Hid (∀ j, j < k + 1 → mayS (slot ss j) = true) := none_succM hn.out (hmay.out.symm.trans (by simp [mayF, hd, hr]))
            clear hn hmay
            go_wp2_with fail
            refine (HD _).out.mono ?_
            rintro e w1 ⟨rfl, hb1⟩
            have HB1 := Lib.hid ((below_tr14 HBa.out hb1).alloc (below_tr14 HBa.out hb1).size (.cells #[.int .i64 (decK sx), .int .i64 (decX sx)] 69))
            have hk1 := (HKa.out.below hb1 HKa.out.lt).alloc (.cells #[.int .i64 (decK sx), .int .i64 (decX sx)] 69)
            have y0 := hk1.cell 0
            have y1 := hk1.cell 1
            have y2 := hk1.cell 2
            have HK1 := Lib.hid hk1
            clear hb1 hk1
            go_wp2_with fail
            refine (HK _).out.mono ?_
            rintro e w2 ⟨rfl, hb2⟩
            have HB2 := Lib.hid (below_tr14 HB1.out hb2)
            have hk2 := HK1.out.below hb2 HK1.out.lt
            have x0 := hk2.cell 0
            have x1 := hk2.cell 1
            have x2 := hk2.cell 2
            clear hb2 hk2 y0 y1 y2
            go_wp2
            go_roundw
            case rel => exact ⟨k + 1, by omega, by go_num, HM.out, HB2.out⟩
            case measure => simp [intOf] <;> omega
          | false =>
            have HK := HK false
            by_cases hx : sx = 0
            · have hx0 : decide (sx = 0) = true := by simp [hx]
              have hxn : (sx != 0) = false := by simp [hx]
              clear hx
              have hsp : decide (sg = 1099511627776) = false := by have := (goodN_iff _).1 hr; simp; omega
              have hsq : (sg == 1099511627776) = false := by have := (goodN_iff _).1 hr; simp; omega
              have HM : Hid (∀ j, j < k + 1 → mayS (slot ss j) = true) := none_succM hn.out (hmay.out.symm.trans (by simp [mayF, hd, hr, hx0]))
              clear hn hmay
              go_wp2_with fail
              refine (HD _).out.mono ?_
              rintro e w1 ⟨rfl, hb1⟩
              have HB1 := Lib.hid ((below_tr14 HBa.out hb1).alloc (below_tr14 HBa.out hb1).size (.cells #[.int .i64 (decK sx), .int .i64 (decX sx)] 69))
              have hk1 := (HKa.out.below hb1 HKa.out.lt).alloc (.cells #[.int .i64 (decK sx), .int .i64 (decX sx)] 69)
              have y0 := hk1.cell 0
              have y1 := hk1.cell 1
              have y2 := hk1.cell 2
              have HK1 := Lib.hid hk1
              clear hb1 hk1
              go_wp2_with fail
              refine (HK _).out.mono ?_
              rintro e w2 ⟨rfl, hb2⟩
              have HB2 := Lib.hid (below_tr14 HB1.out hb2)
              have hk2 := HK1.out.below hb2 HK1.out.lt
              have x0 := hk2.cell 0
              have x1 := hk2.cell 1
              have x2 := hk2.cell 2
              clear hb2 hk2 y0 y1 y2
              go_wp2
              go_roundw
              case rel => exact ⟨k + 1, by omega, by go_num, HM.out, HB2.out⟩
              case measure => simp [intOf] <;> omega
            · have hx0 : decide (sx = 0) = false := by simpa using hx
              have hxn : (sx != 0) = true := by simpa using hx
              clear hx
              have hsp : decide (sg = 1099511627776) = false := by have := (goodN_iff _).1 hr; simp; omega
              have hsq : (sg == 1099511627776) = false := by have := (goodN_iff _).1 hr; simp; omega
              have HF : Hid (rightB ss n = false) := right_no hlt (hmay.out.symm.trans (by simp [mayF, hd, hr, hx0]))
              clear hn hmay
              go_wp2_with fail
              refine (HD _).out.mono ?_
              rintro e w1 ⟨rfl, hb1⟩
              have HB1 := Lib.hid ((below_tr14 HBa.out hb1).alloc (below_tr14 HBa.out hb1).size (.cells #[.int .i64 (decK sx), .int .i64 (decX sx)] 69))
              have hk1 := (HKa.out.below hb1 HKa.out.lt).alloc (.cells #[.int .i64 (decK sx), .int .i64 (decX sx)] 69)
              have y0 := hk1.cell 0
              have y1 := hk1.cell 1
              have y2 := hk1.cell 2
              have HK1 := Lib.hid hk1
              clear hb1 hk1
              go_wp2_with fail
              refine (HK _).out.mono ?_
              rintro e w2 ⟨rfl, hb2⟩
              have HB2 := Lib.hid (below_tr14 HB1.out hb2)
              have hk2 := HK1.out.below hb2 HK1.out.lt
              have x0 := hk2.cell 0
              have x1 := hk2.cell 1
              have x2 := hk2.cell 2
              clear hb2 hk2 y0 y1 y2
              go_wp2
              go_ret
              exact ⟨by rw [HF.out]; rfl, HB2.out⟩
        | false =>
          have HK := fun su w => Lib.hid (HC su sg sx w).out
          simp only [hr] at HK
          cases su with
          | true =>
            have HK := HK true
            have HF : Hid (rightB ss n = false) := right_no hlt (hmay.out.symm.trans (by simp [mayF, hd, hr]))
            clear hn hmay
            go_wp2_with fail
            refine (HD _).out.mono ?_
            rintro e w1 ⟨rfl, hb1⟩
            have HB1 := Lib.hid ((below_tr14 HBa.out hb1).alloc (below_tr14 HBa.out hb1).size (.cells #[.int .i64 (decK sx), .int .i64 (decX sx)] 69))
            have hk1 := (HKa.out.below hb1 HKa.out.lt).alloc (.cells #[.int .i64 (decK sx), .int .i64 (decX sx)] 69)
            have y0 := hk1.cell 0
            have y1 := hk1.cell 1
            have y2 := hk1.cell 2
            have HK1 := Lib.hid hk1
            clear hb1 hk1
            go_wp2_with fail
            refine (HK _).out.mono ?_
            rintro e w2 ⟨rfl, hb2⟩
            have HB2 := Lib.hid (below_tr14 HB1.out hb2)
            have hk2 := HK1.out.below hb2 HK1.out.lt
            have x0 := hk2.cell 0
            have x1 := hk2.cell 1
            have x2 := hk2.cell 2
            clear hb2 hk2 y0 y1 y2
            go_wp2
            go_ret
            exact ⟨by rw [HF.out]; rfl, HB2.out⟩
          | false =>
            have HK := HK false
            by_cases hs : sg = 1099511627776
            · have hsp : decide (sg = 1099511627776) = true := by simp [hs]
              have hsq : (sg == 1099511627776) = true := by simp [hs]
              clear hs
              by_cases hx : sx = 0
              · have hx0 : decide (sx = 0) = true := by simp [hx]
                have hxn : (sx != 0) = false := by simp [hx]
                clear hx
                have HM : Hid (∀ j, j < k + 1 → mayS (slot ss j) = true) := none_succM hn.out (hmay.out.symm.trans (by simp [mayF, hd, hr, hx0, hsp]))
                clear hn hmay
                go_wp2_with fail
                refine (HD _).out.mono ?_
                rintro e w1 ⟨rfl, hb1⟩
                have HB1 := Lib.hid ((below_tr14 HBa.out hb1).alloc (below_tr14 HBa.out hb1).size (.cells #[.int .i64 (decK sx), .int .i64 (decX sx)] 69))
                have hk1 := (HKa.out.below hb1 HKa.out.lt).alloc (.cells #[.int .i64 (decK sx), .int .i64 (decX sx)] 69)
                have y0 := hk1.cell 0
                have y1 := hk1.cell 1
                have y2 := hk1.cell 2
                have HK1 := Lib.hid hk1
                clear hb1 hk1
                go_wp2_with fail
                refine (HK _).out.mono ?_
                rintro e w2 ⟨rfl, hb2⟩
                have HB2 := Lib.hid (below_tr14 HB1.out hb2)
                have hk2 := HK1.out.below hb2 HK1.out.lt
                have x0 := hk2.cell 0
                have x1 := hk2.cell 1
                have x2 := hk2.cell 2
                clear hb2 hk2 y0 y1 y2
                go_wp2
                go_roundw
                case rel => exact ⟨k + 1, by omega, by go_num, HM.out, HB2.out⟩
                case measure => simp [intOf] <;> omega
              · have hx0 : decide (sx = 0) = false := by simpa using hx
                have hxn : (sx != 0) = true := by simpa using hx
                clear hx
                have HF : Hid (rightB ss n = false) := right_no hlt (hmay.out.symm.trans (by simp [mayF, hd, hr, hx0, hsp]))
                clear hn hmay
                go_wp2_with fail
                refine (HD _).out.mono ?_
                rintro e w1 ⟨rfl, hb1⟩
                have HB1 := Lib.hid ((below_tr14 HBa.out hb1).alloc (below_tr14 HBa.out hb1).size (.cells #[.int .i64 (decK sx), .int .i64 (decX sx)] 69))
                have hk1 := (HKa.out.below hb1 HKa.out.lt).alloc (.cells #[.int .i64 (decK sx), .int .i64 (decX sx)] 69)
                have y0 := hk1.cell 0
                have y1 := hk1.cell 1
                have y2 := hk1.cell 2
                have HK1 := Lib.hid hk1
                clear hb1 hk1
                go_wp2_with fail
                refine (HK _).out.mono ?_
                rintro e w2 ⟨rfl, hb2⟩
                have HB2 := Lib.hid (below_tr14 HB1.out hb2)
                have hk2 := HK1.out.below hb2 HK1.out.lt
                have x0 := hk2.cell 0
                have x1 := hk2.cell 1
                have x2 := hk2.cell 2
                clear hb2 hk2 y0 y1 y2
                go_wp2
                go_ret
                exact ⟨by rw [HF.out]; rfl, HB2.out⟩
            · have hsp : decide (sg = 1099511627776) = false := by simpa using hs
              have hsq : (sg == 1099511627776) = false := by simpa using hs
              have hx0 : Unit := ()
              have HF : Hid (rightB ss n = false) := right_no hlt (hmay.out.symm.trans (by simp [mayF, hd, hr, hsp]))
              clear hn hmay
              go_wp2_with fail
              refine (HD _).out.mono ?_
              rintro e w1 ⟨rfl, hb1⟩
              have HB1 := Lib.hid ((below_tr14 HBa.out hb1).alloc (below_tr14 HBa.out hb1).size (.cells #[.int .i64 (decK sx), .int .i64 (decX sx)] 69))
              have hk1 := (HKa.out.below hb1 HKa.out.lt).alloc (.cells #[.int .i64 (decK sx), .int .i64 (decX sx)] 69)
              have y0 := hk1.cell 0
              have y1 := hk1.cell 1
              have y2 := hk1.cell 2
              have HK1 := Lib.hid hk1
              clear hb1 hk1
              go_wp2_with fail
              refine (HK _).out.mono ?_
              rintro e w2 ⟨rfl, hb2⟩
              have HB2 := Lib.hid (below_tr14 HB1.out hb2)
              have hk2 := HK1.out.below hb2 HK1.out.lt
              have x0 := hk2.cell 0
              have x1 := hk2.cell 1
              have x2 := hk2.cell 2
              clear hb2 hk2 y0 y1 y2
              go_wp2
              go_ret
              exact ⟨by rw [HF.out]; rfl, HB2.out⟩
    · obtain rfl : k = ss.length := by omega
      have HR := hR hn.out
      clear hn hR
      by_cases e1 : (ss.length : Int) = n
      · have e1b : ((ss.length : Int) == n) = true := by simp [e1]
        by_cases e2 : 1 ≤ n
        · by_cases e3 : n ≤ 1024
          · have HQ : Hid (rightB ss n = true) := by rw [Hid, HR.out]; simp [e1, e2, e3]
            clear e1 HR
            go_wp2
            go_ret
            exact ⟨by rw [HQ.out]; rfl, hb.out⟩
          · have HQ : Hid (rightB ss n = false) := by rw [Hid, HR.out]; simp [e3]
            clear e1 HR
            go_wp2
            go_ret
            exact ⟨by rw [HQ.out]; rfl, hb.out⟩
        · have HQ : Hid (rightB ss n = false) := by rw [Hid, HR.out]; simp [e2]
          clear e1 HR
          go_wp2
          go_ret
          exact ⟨by rw [HQ.out]; rfl, hb.out⟩
      · have e1b : ((ss.length : Int) == n) = false := by simpa using e1
        have HQ : Hid (rightB ss n = false) := by rw [Hid, HR.out]; simp [e1]
        clear e1 HR
        go_wp2
        go_ret
        exact ⟨by rw [HQ.out]; rfl, hb.out⟩

end Go.Proofs.Ytcljgphipdbckaa
