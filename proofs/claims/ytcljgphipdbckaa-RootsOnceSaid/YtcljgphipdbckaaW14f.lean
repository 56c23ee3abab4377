/- The walks of layer 14 (roots), sixth part: Put, of the reference and of the program. -/
import Derived.Test.YtcljgphipdbckaaW14e
namespace Go.Proofs.Ytcljgphipdbckaa
set_option linter.unusedVariables false
set_option linter.unusedSimpArgs false
open Go.RowKit

theorem below_drewN {B k : Nat} {w w' : World} (h : Below B w w') : Below B w (w'.drewN k) := ⟨h.os, h.tape, h.output, h.size, h.block⟩
theorem TabOut3.drewN {w w' : World} {ts : List Slot} {H E : Int} {e : Ending} (k : Nat) (h : TabOut3 w ts H E e w') : TabOut3 w ts H E e (w'.drewN k) := by
  obtain ⟨A, c, rfl, hs, hb⟩ := h
  exact ⟨A, c, rfl, hs, below_drewN hb⟩
theorem TabNew3.drewN {w w' : World} {ts : List Slot} {H E : Int} {e : Ending} (k : Nat) (h : TabNew3 w ts H E e w') : TabNew3 w ts H E e (w'.drewN k) := by
  obtain ⟨A, c, rfl, hs, hf, hb⟩ := h
  exact ⟨A, c, rfl, hs, hf, below_drewN hb⟩

set_option maxHeartbeats 1600000 in
theorem rput_any {w : World} {A : Option Addr} {ss : List Slot} {c : Nat} (x : Int) (hv : Sw w (.slice A ss.length c) ss) (hx : U64 x) (hnf : Few ss.length) : Calls Try.prog 60 #[.slice A ss.length c, .int .u64 x] w (TabOut3 w (putL ss x) (putH ss) (putE ss)) := by
  obtain ⟨⟨A', c', e, a1, a2, _⟩, _⟩ := id hv
  simp only [Value.slice.injEq] at e
  obtain ⟨rfl, _, rfl⟩ := e
  unfold maxLen at a2
  have HC := fun u g x w => Lib.hid (rgood_any u g x w)
  have HV := Lib.hid hv
  have HX := Lib.hid hx
  have HN := Lib.hid hnf
  have HP := Lib.hid (put_cases ss)
  clear hv hx hnf
  go_enter Try.func60, Try.ntmps60
  go_wp2
  go_loopw [7] (fun i wr => ∃ k : Nat, k ≤ ss.length ∧ k ≤ 1024 ∧ i = .int .i64 (k : Nat) ∧ Hid (∀ j, j < k → freeS (slot ss j) = false) ∧ Hid (Below w.heap.size w wr)) (fun i _ => ss.length - (intOf i).toNat)
  case atStart => exact ⟨0, by omega, by omega, rfl, fun j hj => absurd hj (by omega), Below.refl _ _⟩
  case round =>
    obtain ⟨k, hk, hkk, rfl, hn, hb⟩ := hrel
    by_cases hlt : k < ss.length
    · by_cases hlt2 : k < 1024
      · have HV2 := Lib.hid (HV.out.below hb.out)
        obtain ⟨b, o, rfl, hbl, hc⟩ := HV2.out.at_ (by omega)
        obtain ⟨c0, c1, c2⟩ := hc k hlt
        have hi0 : (0 : Int) ≤ (k : Int) := by omega
        have hi1 : (k : Int) < (ss.length : Int) := by omega
        have hi2 : (k : Int) < 1024 := by omega
        have hf : Hid (freeN (slot ss k).used (slot ss k).gen = freeS (slot ss k)) := rfl
        obtain ⟨su, hsu⟩ : ∃ su, su = (slot ss k).used := ⟨_, rfl⟩
        obtain ⟨sg, hsg⟩ : ∃ sg, sg = (slot ss k).gen := ⟨_, rfl⟩
        rw [← hsu] at c0 hf
        rw [← hsg] at c1 hf
        have HSU := Lib.hid hsu
        have HSG := Lib.hid hsg
        generalize (slot ss k).word = sx at c2
        clear hc hsu hsg
        cases su with
        | true =>
          have HF := Lib.hid (none_succ hn.out (hf.out.symm.trans (by simp [freeN])))
          clear hn hf
          go_wp2
          go_roundw
          case rel => exact ⟨k + 1, by omega, by omega, by go_num, HF.out, hb.out⟩
          case measure => simp [intOf] <;> omega
        | false =>
          have HK := fun w => Lib.hid (HC false sg sx w).out
          cases hr : goodN sg with
          | false =>
            simp only [hr] at HK
            have HF := Lib.hid (none_succ hn.out (hf.out.symm.trans (by simp [freeN, hr])))
            clear hn hf hr
            go_wp2_with fail
            refine (HK _).out.mono ?_
            rintro e w1 ⟨rfl, hb1⟩
            have HB1 := Lib.hid (below_tr14 hb.out hb1)
            clear hb1
            go_wp2
            go_roundw
            case rel => exact ⟨k + 1, by omega, by omega, by go_num, HF.out, HB1.out⟩
            case measure => simp [intOf] <;> omega
          | true =>
            have hg := (goodN_iff _).1 hr
            simp only [hr] at HK
            have wm : IntKind.i64.wrap (1024 * sg) = 1024 * sg := Go.IntWalk.i64_in _ (by omega)
            have wa : IntKind.i64.wrap ((k : Int) + 1024 * sg) = (k : Int) + 1024 * sg := Go.IntWalk.i64_in _ (by omega)
            have HE : Hid (putL ss x = ss.set k ⟨true, sg, x⟩ ∧ putH ss = k + 1024 * sg ∧ putE ss = 0) := by
              have hfr : freeS (slot ss k) = true := hf.out.symm.trans (by simp [freeN, hr])
              have he := put_at hlt hlt2 hfr hn.out
              rcases HP.out with ⟨e, _⟩ | ⟨K, _, _, e, _, e2, e3, e4⟩
              · omega
              · obtain rfl : K = k := by omega
                rw [HSG.out]
                exact ⟨e2 x, e3, e4⟩
            have HFit : Hid (FitS (ss.set k ⟨true, sg, x⟩)) := HV.out.2.set k ⟨⟨by show _ ≤ sg; omega, by show sg ≤ _; omega⟩, HX.out⟩
            have HL : Hid (ss.length = (ss.set k (⟨true, sg, x⟩ : Slot)).length) := by simp [Hid]
            obtain ⟨ts, hts⟩ : ∃ ts, ts = ss.set k (⟨true, sg, x⟩ : Slot) := ⟨_, rfl⟩
            rw [← hts] at HFit HL HE
            have HTS := Lib.hid hts
            clear hf hn hg hr hts
            go_wp2_with fail
            refine (HK _).out.mono ?_
            rintro e w1 ⟨rfl, hb1⟩
            have YY := Lib.hid ((hb1.cell (p := ⟨b, o + k * 3 + 1, none⟩) hbl).trans c1)
            have HBL : Hid (b < w1.heap.size) := Nat.lt_of_lt_of_le hbl hb1.size
            have HB1 := Lib.hid (below_tr14 hb.out hb1)
            have HV3 := Lib.hid (HV2.out.below hb1)
            clear hb1 c0 c1 c2 hb
            go_wp2_with (at_builtin; refine wpList_clone_slots rfl (.tmp 32) (.tmp 33) rfl w1 rfl (some ⟨b, o, none⟩) ss.length c rfl ss HV3.out HN.out ?_; intro A' c' w2 hown hb2; have HBX := Lib.hid hb2; have HB2 := Lib.hid (HB1.out.trans (hb2.mono HB1.out.size)); have y2 := (hb2.cell (p := ⟨b, o + k * 3 + 1, none⟩) HBL.out).trans YY.out; clear hb2; obtain ⟨g, cap, e, hg1, hg2⟩ := hown.form (by omega); injection e with e1 e2 e3; subst e1 e3; obtain ⟨⟨z0, z1, z2⟩, ⟨f0, f1, f2⟩, hB, hlt5⟩ := own_slot hown hlt; have HG := Lib.hid (show w.heap.size ≤ g from Nat.le_trans HB1.out.size hg1); have hst := Lib.hid (own_set3 hown hlt true sg x); have y3 := ((((HBX.out.setCell (p := ⟨g, k * 3, none⟩) hg1 (.bool true)).setCell (p := ⟨g, k * 3 + 1, none⟩) hg1 (.int .i64 sg)).setCell (p := ⟨g, k * 3 + 2, none⟩) hg1 (.int .u64 x)).cell (p := ⟨b, o + k * 3 + 1, none⟩) HBL.out).trans YY.out; have HO := Lib.hid hown; clear hown hB hlt5 hg1 hg2)
            go_quiet (fail)
            go_wp2
            go_ret3
            rw [HE.out.1, HE.out.2.1, HE.out.2.2]
            exact TabOut3.drewN _ (TabOut3.own HL.out (by rw [HTS.out]; exact hst.out) HFit.out (((HB2.out.setCell HG.out _).setCell HG.out _).setCell HG.out _))
      · obtain rfl : k = 1024 := by omega
        have HE : Hid (putL ss x = ss ∧ putH ss = 0 ∧ putE ss = 8) := by
          have he := put_none (ss := ss) fun j h1 h2 => hn.out j (by omega)
          rcases HP.out with ⟨_, _, e2, e3, e4⟩ | ⟨K, _, _, e, _⟩
          · exact ⟨e2 x, e3, e4⟩
          · omega
        have hi1 : ((1024 : Nat) : Int) < (ss.length : Int) := by omega
        clear hn
        go_wp2
        go_ret3
        rw [HE.out.1, HE.out.2.1, HE.out.2.2]
        exact TabOut3.same HV.out hb.out
    · obtain rfl : k = ss.length := by omega
      have HE : Hid (putL ss x = ss ∧ putH ss = 0 ∧ putE ss = 8) := by
        have he := put_none (ss := ss) fun j h1 h2 => hn.out j (by omega)
        rcases HP.out with ⟨_, _, e2, e3, e4⟩ | ⟨K, _, _, e, _⟩
        · exact ⟨e2 x, e3, e4⟩
        · omega
      clear hn
      go_wp2
      go_ret3
      rw [HE.out.1, HE.out.2.1, HE.out.2.2]
      exact TabOut3.same HV.out hb.out

theorem first_min {w : World} {A : Option Addr} {ss : List Slot} {c : Nat} (hv : Sw w (.slice A ss.length c) ss) : ∃ m : Nat, (Calls Try.prog 113 #[.slice A ss.length c] w fun e w' => e = .returned (.slice A m c) ∧ w = w') ∧ (Calls Try.prog 112 #[.slice A m c, .func (.func 114) #[] #[]] w (Out w (.int .i64 (putI ss)))) := by
  obtain ⟨⟨A', c', e, a1, a2, a3, _⟩, _⟩ := id hv
  simp only [Value.slice.injEq] at e
  obtain ⟨rfl, _, rfl⟩ := e
  refine ⟨min ss.length 1024, first_any A ss.length c w a1 a2 a3, ?_⟩
  have h := hv.first (min ss.length 1024) (Nat.min_le_left _ _)
  have hl : (ss.take 1024).length = min ss.length 1024 := by rw [List.length_take]; omega
  have e : ss.take (min ss.length 1024) = ss.take 1024 := by
    rcases Nat.le_total ss.length 1024 with h1 | h1
    · rw [Nat.min_eq_left h1, List.take_of_length_le (Nat.le_refl _), List.take_of_length_le h1]
    · rw [Nat.min_eq_right h1]
  rw [e, ← hl] at h
  have := index_any h
  rw [hl] at this
  exact this

set_option maxHeartbeats 1600000 in
theorem put_any {w : World} {A : Option Addr} {ss : List Slot} {c : Nat} (x : Int) (hv : Sw w (.slice A ss.length c) ss) (hx : U64 x) (hnf : Few ss.length) : Calls Try.prog 59 #[.slice A ss.length c, .int .u64 x] w (TabNew3 w (putL ss x) (putH ss) (putE ss)) := by
  obtain ⟨⟨A', c', e, a1, a2, _⟩, _⟩ := id hv
  simp only [Value.slice.injEq] at e
  obtain ⟨rfl, _, rfl⟩ := e
  unfold maxLen at a2
  have HCl := Lib.hid (cloneS_any hv hnf)
  have hfit := hv.2.putL x hx
  rcases put_cases ss with ⟨e1, hno, e2, e3, e4⟩ | ⟨K, k1, k2, e1, hfr, e2, e3, e4⟩
  · rw [e2, e3, e4]
    have HF := Lib.hid hv.2
    have E1 := Lib.hid e1
    clear hv hx hnf e1 e2 e3 e4 hno hfit
    go_enter Try.func59, Try.ntmps59
    go_wp2_with fail
    refine HCl.out.mono ?_
    rintro e w1 ⟨A1, c1, rfl, hown, hb⟩
    obtain ⟨m, hf, hi⟩ := first_min (Sw.of_own hown HF.out)
    rw [E1.out] at hi
    have H1 := Lib.hid hf
    have H2 := Lib.hid hi
    have HO := Lib.hid hown
    have HB := Lib.hid hb
    clear hf hi hown hb
    go_wp2_with fail
    refine H1.out.mono ?_
    rintro e w2 ⟨rfl, rfl⟩
    go_wp2_with fail
    refine H2.out.mono ?_
    rintro e w2 ⟨rfl, hb2⟩
    have HB2 := Lib.hid (below_tr14 HB.out hb2)
    have HO2 := Lib.hid (HO.out.kept (row := none) ⟨hb2.os, hb2.tape, hb2.output, hb2.size, fun k hk _ => hb2.block k hk⟩ (by cases (Value.slice A1 ss.length c1).ownBlock <;> simp))
    clear hb2 HO
    go_wp2
    go_ret3
    exact TabNew3.own rfl HO2.out HF.out HB2.out
  · obtain ⟨f1, f2, f3⟩ := (freeS_iff _).1 hfr
    have HF := Lib.hid hv.2
    rw [e2] at hfit
    have HFit := Lib.hid hfit
    have HL : Hid (ss.length = (ss.set K (⟨true, (slot ss K).gen, x⟩ : Slot)).length) := by simp [Hid]
    rw [e2, e3, e4]
    have E1 := Lib.hid e1
    have hi0 : (0 : Int) ≤ (K : Int) := by omega
    have hi1 : (K : Int) < (ss.length : Int) := by omega
    obtain ⟨sg, hsg⟩ : ∃ sg, sg = (slot ss K).gen := ⟨_, rfl⟩
    rw [← hsg] at f2 f3 HFit HL ⊢
    obtain ⟨ts, hts⟩ : ∃ ts, ts = ss.set K (⟨true, sg, x⟩ : Slot) := ⟨_, rfl⟩
    rw [← hts] at HFit HL ⊢
    have HSG := Lib.hid hsg
    have HTS := Lib.hid hts
    have wm : IntKind.i64.wrap (1024 * sg) = 1024 * sg := Go.IntWalk.i64_in _ (by omega)
    have wa : IntKind.i64.wrap ((K : Int) + 1024 * sg) = (K : Int) + 1024 * sg := Go.IntWalk.i64_in _ (by omega)
    clear hv hx hnf e1 e2 e3 e4 hfit hfr hsg hts f1 f2 f3
    go_enter Try.func59, Try.ntmps59
    go_wp2_with fail
    refine HCl.out.mono ?_
    rintro e w1 ⟨A1, c1, rfl, hown, hb⟩
    obtain ⟨m, hf, hi⟩ := first_min (Sw.of_own hown HF.out)
    rw [E1.out] at hi
    have H1 := Lib.hid hf
    have H2 := Lib.hid hi
    have HO := Lib.hid hown
    have HB := Lib.hid hb
    clear hf hi hown hb
    go_wp2_with fail
    refine H1.out.mono ?_
    rintro e w2 ⟨rfl, rfl⟩
    go_wp2_with fail
    refine H2.out.mono ?_
    rintro e w2 ⟨rfl, hb2⟩
    have HB2 := Lib.hid (below_tr14 HB.out hb2)
    have hown := HO.out.kept (row := none) ⟨hb2.os, hb2.tape, hb2.output, hb2.size, fun k hk _ => hb2.block k hk⟩ (by cases (Value.slice A1 ss.length c1).ownBlock <;> simp)
    clear hb2 HO
    obtain ⟨g, cap, e, hg1, hg2⟩ := hown.form (by omega)
    injection e with e1 e2 e3
    subst e1 e3
    obtain ⟨⟨z0, z1, z2⟩, ⟨f0, f1, f2⟩, hB, hlt5⟩ := own_slot hown k1
    rw [← HSG.out] at z1
    have HG := Lib.hid hg1
    have hs0 := own_set0 hown k1 true
    have hs := own_set2 hs0 (K := K) (by rw [set_len]; exact k1) x
    rw [slot_set_same k1, List.set_set] at hs
    have hs3 := (own_slot hs (K := K) (by rw [set_len]; exact k1)).1.2.1
    rw [slot_set_same k1] at hs3
    have y3 : ((w2.setCell ⟨g, K * 3, none⟩ (.bool true)).setCell ⟨g, K * 3 + 2, none⟩ (.int .u64 x)).cell? ⟨g, K * 3 + 1, none⟩ = some (.int .i64 sg) := by rw [HSG.out]; exact hs3
    have HS := Lib.hid hs
    clear hown hB hlt5 hg1 hg2 hs0 hs hs3
    go_wp2
    go_quiet (fail)
    go_wp2
    go_ret3
    exact TabNew3.drewN _ (TabNew3.own HL.out (by rw [HTS.out, HSG.out]; exact HS.out) HFit.out ((HB2.out.setCell HG.out _).setCell HG.out _))
end Go.Proofs.Ytcljgphipdbckaa
