/- The walks of layer 14 (roots), fifth part: the reference's Set, Drop, Put. -/
import Derived.Test.YtcljgphipdbckaaM14b
namespace Go.Proofs.Ytcljgphipdbckaa
set_option linter.unusedVariables false
set_option linter.unusedSimpArgs false
open Go.RowKit

set_option maxHeartbeats 1600000 in
theorem rset_any {w : World} {A : Option Addr} {ss : List Slot} {c : Nat} (h : Int) (x : Int) (hv : Sw w (.slice A ss.length c) ss) (hx : U64 x) (hn : Few ss.length) : Calls Try.prog 64 #[.slice A ss.length c, .int .i64 h, .int .u64 x] w (TabOut w (setL ss h x) (fndE ss h)) := by
  obtain ⟨⟨A', c', e, a1, a2, _⟩, _⟩ := id hv
  simp only [Value.slice.injEq] at e
  obtain ⟨rfl, _, rfl⟩ := e
  unfold maxLen at a2
  have hk := rfind_any h hv
  have hfit := hv.2.setL h x hx
  rcases rfnd_cases ss h with ⟨hf, e1, e2, e3⟩ | ⟨K, k1, hf, e1, e2, e3, e4⟩
  · rw [e1] at hk
    have hg : setL ss h x = ss := by unfold setL; rw [hf]; rfl
    rw [hg, e3]
    have HK := Lib.hid hk
    have HV := Lib.hid hv
    clear hk hv hf e1 e2 e3 hg hfit hn hx
    go_enter Try.func64, Try.ntmps64
    go_wp2_with fail
    refine HK.out.mono ?_
    rintro e w1 ⟨rfl, hb⟩
    have HB := Lib.hid hb
    clear hb
    go_wp2
    go_ret2
    exact TabOut.same HV.out HB.out
  · rw [e1] at hk
    have hg : setL ss h x = ss.set K { slot ss K with word := x } := by unfold setL; rw [hf, if_pos rfl, e2]; rfl
    have HFit := Lib.hid (hg ▸ hfit)
    rw [hg, e3]
    have HK := Lib.hid hk
    have HN := Lib.hid hn
    have HV := Lib.hid hv
    have hi0 : (0 : Int) ≤ (K : Int) := by omega
    have hi1 : (K : Int) < (ss.length : Int) := by omega
    have hgd := (goodN_iff _).1 ((hit_iff _ _ _).1 e4).2.1
    have HL : Hid (ss.length = (ss.set K { slot ss K with word := x }).length) := by simp [Hid]
    obtain ⟨b, o, rfl, hbl, hcc⟩ := hv.at_ (by omega)
    obtain ⟨_, cc1, _⟩ := hcc K k1
    generalize hsg : (slot ss K).gen = sg at *
    generalize hts : ss.set K { slot ss K with word := x } = ts at HL HFit ⊢
    have HTS := Lib.hid hts
    clear hk hv hf e1 e2 e3 hg hfit hn hx e4 hcc hts
    go_enter Try.func64, Try.ntmps64
    go_wp2_with fail
    refine HK.out.mono ?_
    rintro e w1 ⟨rfl, hb1⟩
    have HV1 := Lib.hid (HV.out.below hb1)
    have HB1 := Lib.hid hb1
    have y1 := (hb1.cell (p := ⟨b, o + K * 3 + 1, none⟩) hbl).trans cc1
    have HBL : Hid (b < w1.heap.size) := Nat.lt_of_lt_of_le hbl hb1.size
    clear hb1
    have YY := Lib.hid y1
    clear y1
    go_wp2_with (at_builtin; refine wpList_clone_slots rfl (.tmp 16) (.tmp 17) rfl w1 rfl (some ⟨b, o, none⟩) ss.length c rfl ss HV1.out HN.out ?_; intro A' c' w2 hown hb2; have HB2 := Lib.hid (HB1.out.trans (hb2.mono HB1.out.size)); have y2 := (hb2.cell (p := ⟨b, o + K * 3 + 1, none⟩) HBL.out).trans YY.out; clear hb2; obtain ⟨g, cap, e, hg1, hg2⟩ := hown.form (by omega); injection e with e1 e2 e3; subst e1 e3; obtain ⟨⟨z0, z1, z2⟩, ⟨f0, f1, f2⟩, hB, hlt⟩ := own_slot hown k1; have HG := Lib.hid (show w.heap.size ≤ g from Nat.le_trans HB1.out.size hg1); have hst := Lib.hid (own_set2 hown k1 x); have wa : IntKind.i64.wrap (sg + 1) = sg + 1 := Go.IntWalk.i64_in _ (by omega); have HO := Lib.hid hown; clear hown hB hlt hg1 hg2 hgd)
    go_ret2
    exact TabOut.own HL.out (by rw [← HTS.out]; exact hst.out) HFit.out (HB2.out.setCell HG.out _)

set_option maxHeartbeats 1600000 in
theorem rdrop_any {w : World} {A : Option Addr} {ss : List Slot} {c : Nat} (h : Int) (hv : Sw w (.slice A ss.length c) ss) (hn : Few ss.length) : Calls Try.prog 66 #[.slice A ss.length c, .int .i64 h] w (TabOut w (dropL ss h) (fndE ss h)) := by
  obtain ⟨⟨A', c', e, a1, a2, _⟩, _⟩ := id hv
  simp only [Value.slice.injEq] at e
  obtain ⟨rfl, _, rfl⟩ := e
  unfold maxLen at a2
  have hk := rfind_any h hv
  have hfit := hv.2.dropL h
  rcases rfnd_cases ss h with ⟨hf, e1, e2, e3⟩ | ⟨K, k1, hf, e1, e2, e3, e4⟩
  · rw [e1] at hk
    have hg : dropL ss h = ss := by unfold dropL; rw [hf]; rfl
    rw [hg, e3]
    have HK := Lib.hid hk
    have HV := Lib.hid hv
    clear hk hv hf e1 e2 e3 hg hfit hn 
    go_enter Try.func66, Try.ntmps66
    go_wp2_with fail
    refine HK.out.mono ?_
    rintro e w1 ⟨rfl, hb⟩
    have HB := Lib.hid hb
    clear hb
    go_wp2
    go_ret2
    exact TabOut.same HV.out HB.out
  · rw [e1] at hk
    have hg : dropL ss h = ss.set K ⟨false, (slot ss K).gen + 1, 0⟩ := by unfold dropL; rw [hf, if_pos rfl, e2]; rfl
    have HFit := Lib.hid (hg ▸ hfit)
    rw [hg, e3]
    have HK := Lib.hid hk
    have HN := Lib.hid hn
    have HV := Lib.hid hv
    have hi0 : (0 : Int) ≤ (K : Int) := by omega
    have hi1 : (K : Int) < (ss.length : Int) := by omega
    have hgd := (goodN_iff _).1 ((hit_iff _ _ _).1 e4).2.1
    have HL : Hid (ss.length = (ss.set K ⟨false, (slot ss K).gen + 1, 0⟩).length) := by simp [Hid]
    obtain ⟨b, o, rfl, hbl, hcc⟩ := hv.at_ (by omega)
    obtain ⟨_, cc1, _⟩ := hcc K k1
    generalize hsg : (slot ss K).gen = sg at *
    generalize hts : ss.set K ⟨false, sg + 1, 0⟩ = ts at HL HFit ⊢
    have HTS := Lib.hid hts
    clear hk hv hf e1 e2 e3 hg hfit hn  e4 hcc hts
    go_enter Try.func66, Try.ntmps66
    go_wp2_with fail
    refine HK.out.mono ?_
    rintro e w1 ⟨rfl, hb1⟩
    have HV1 := Lib.hid (HV.out.below hb1)
    have HB1 := Lib.hid hb1
    have y1 := (hb1.cell (p := ⟨b, o + K * 3 + 1, none⟩) hbl).trans cc1
    have HBL : Hid (b < w1.heap.size) := Nat.lt_of_lt_of_le hbl hb1.size
    clear hb1
    have YY := Lib.hid y1
    clear y1
    go_wp2_with (at_builtin; refine wpList_clone_slots rfl (.tmp 14) (.tmp 15) rfl w1 rfl (some ⟨b, o, none⟩) ss.length c rfl ss HV1.out HN.out ?_; intro A' c' w2 hown hb2; have HB2 := Lib.hid (HB1.out.trans (hb2.mono HB1.out.size)); have y2 := (hb2.cell (p := ⟨b, o + K * 3 + 1, none⟩) HBL.out).trans YY.out; clear hb2; obtain ⟨g, cap, e, hg1, hg2⟩ := hown.form (by omega); injection e with e1 e2 e3; subst e1 e3; obtain ⟨⟨z0, z1, z2⟩, ⟨f0, f1, f2⟩, hB, hlt⟩ := own_slot hown k1; have HG := Lib.hid (show w.heap.size ≤ g from Nat.le_trans HB1.out.size hg1); have hst := Lib.hid (own_set3 hown k1 false (sg + 1) 0); have wa : IntKind.i64.wrap (sg + 1) = sg + 1 := Go.IntWalk.i64_in _ (by omega); have HO := Lib.hid hown; clear hown hB hlt hg1 hg2 hgd)
    go_ret2
    exact TabOut.own HL.out (by rw [← HTS.out]; exact hst.out) HFit.out (((HB2.out.setCell HG.out _).setCell HG.out _).setCell HG.out _)

end Go.Proofs.Ytcljgphipdbckaa
