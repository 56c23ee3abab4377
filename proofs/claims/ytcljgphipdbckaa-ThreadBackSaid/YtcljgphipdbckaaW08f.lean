/- The walks of layer 8 (objects), sixth part: the reference's Put and Set. -/
import Derived.Test.YtcljgphipdbckaaW08e
namespace Go.Proofs.Ytcljgphipdbckaa
set_option linter.unusedVariables false
set_option linter.unusedSimpArgs false
open Go.RowKit

set_option maxHeartbeats 3200000 in
theorem roput_any {w : World} {A : Option Addr} {c : Nat} {ws : List Int} (a : Int) (h : Hd) (hal : ws.length ≤ 1000000) (hA : Rw w (.slice A ws.length c) ws) : Calls Try.prog 126 #[.slice A ws.length c, .int .i64 a, .agg #[.int .i64 h.kind, .int .i64 h.fields, .int .i64 h.raws, .bool h.mark, .int .i64 h.cursor]] w (RefL w (.slice A ws.length c) ws (oUL ws a h) (oUE ws a h)) := by
  have hb0 := (Below.refl w.heap.size w).alloc (Nat.le_refl _) (.cells #[.int .i64 h.kind, .int .i64 h.fields, .int .i64 h.raws, .bool h.mark, .int .i64 h.cursor] 59)
  have HB0 := Lib.hid hb0
  have HR0 := Lib.hid (Blk.new w 59 #[.int .i64 h.kind, .int .i64 h.fields, .int .i64 h.raws, .bool h.mark, .int .i64 h.cursor])
  have HA := Lib.hid hA
  have HN : Hid (Few ws.length) := hal
  have hcp := hA.cap_
  unfold maxLen at hcp
  have hE := fun w => renc_any h w
  have hS := fun w => rsize_any h w
  unfold Hd.cells at hE hS
  clear hb0
  rcases ou_cases ws a h with ⟨hm, e1, e2⟩ | ⟨hm, hr, hor, e1, e2⟩ | ⟨hm, hr, h0, h1, e1, e2⟩
  · rw [e1, e2]
    rw [← (enc_not hm).2] at hE
    have HE := fun w => Lib.hid (hE w)
    clear hA hE hS hm e1 e2
    generalize encW h = W9 at *
    go_enter Try.func126, Try.ntmps126
    go_wp2_with fail
    refine (HE _).out.mono ?_
    rintro e w1 ⟨rfl, hb⟩
    have HB := Lib.hid (below_tr HB0.out hb)
    have HR := Lib.hid (HR0.out.below hb HR0.out.lt)
    clear hb
    go_wp2
    go_ret2
    exact RefL.same HA.out HB.out
  · rw [e1, e2]
    rw [← (enc_yes hm).2] at hE
    have HE := fun w => Lib.hid (hE w)
    have HS := fun w => Lib.hid (hS w)
    have hsz := size_may hm
    generalize encW h = W9 at *
    generalize sizeI h = sz at *
    clear hA hE hS hm e1 e2 hr
    by_cases k0 : a < 0
    · clear hor hsz
      go_enter Try.func126, Try.ntmps126
      go_wp2_with fail
      refine (HE _).out.mono ?_
      rintro e w1 ⟨rfl, hb⟩
      have HB := Lib.hid (below_tr HB0.out hb)
      have HR := Lib.hid (HR0.out.below hb HR0.out.lt)
      clear hb
      have q0 := HR.out.cell 0
      have q1 := HR.out.cell 1
      have q2 := HR.out.cell 2
      have q3 := HR.out.cell 3
      have q4 := HR.out.cell 4
      go_wp2_with fail
      refine (HS _).out.mono ?_
      rintro e w2 ⟨rfl, hb⟩
      have HB2 := Lib.hid (below_tr HB.out hb)
      clear hb q0 q1 q2 q3 q4
      go_wp2
      go_ret2
      exact RefL.same HA.out HB2.out
    · by_cases k1 : (ws.length : Int) < a
      · clear hor hsz
        go_enter Try.func126, Try.ntmps126
        go_wp2_with fail
        refine (HE _).out.mono ?_
        rintro e w1 ⟨rfl, hb⟩
        have HB := Lib.hid (below_tr HB0.out hb)
        have HR := Lib.hid (HR0.out.below hb HR0.out.lt)
        clear hb
        have q0 := HR.out.cell 0
        have q1 := HR.out.cell 1
        have q2 := HR.out.cell 2
        have q3 := HR.out.cell 3
        have q4 := HR.out.cell 4
        go_wp2_with fail
        refine (HS _).out.mono ?_
        rintro e w2 ⟨rfl, hb⟩
        have HB2 := Lib.hid (below_tr HB.out hb)
        clear hb q0 q1 q2 q3 q4
        go_wp2
        go_ret2
        exact RefL.same HA.out HB2.out
      · have k2 : (ws.length : Int) - a < sz := by omega
        have k3 : IntKind.i64.wrap ((ws.length : Int) - a) = (ws.length : Int) - a := Go.IntWalk.i64_in _ (by omega)
        clear hor hsz
        go_enter Try.func126, Try.ntmps126
        go_wp2_with fail
        refine (HE _).out.mono ?_
        rintro e w1 ⟨rfl, hb⟩
        have HB := Lib.hid (below_tr HB0.out hb)
        have HR := Lib.hid (HR0.out.below hb HR0.out.lt)
        clear hb
        have q0 := HR.out.cell 0
        have q1 := HR.out.cell 1
        have q2 := HR.out.cell 2
        have q3 := HR.out.cell 3
        have q4 := HR.out.cell 4
        go_wp2_with fail
        refine (HS _).out.mono ?_
        rintro e w2 ⟨rfl, hb⟩
        have HB2 := Lib.hid (below_tr HB.out hb)
        clear hb q0 q1 q2 q3 q4
        go_wp2
        go_ret2
        exact RefL.same HA.out HB2.out
  · rw [e1, e2]
    rw [← (enc_yes hm).2, ← (enc_yes hm).1] at hE
    have HE := fun w => Lib.hid (hE w)
    have hsz := size_may hm
    have HU : Hid (U64 (encI h)) := encI_bd hm
    obtain ⟨K, rfl⟩ := Int.eq_ofNat_of_zero_le h0
    obtain ⟨N, hN⟩ := Int.eq_ofNat_of_zero_le (show 0 ≤ sizeI h by omega)
    rw [hN] at hS h1 hsz ⊢
    have HS := fun w => Lib.hid (hS w)
    rw [Int.toNat_natCast, Int.toNat_natCast]
    generalize encI h = W9 at *
    have hN1 : 1 ≤ N := by omega
    have hKN : K + N ≤ ws.length := by omega
    have k0 : ¬ ((K : Int) < 0) := by omega
    have k1 : ¬ ((ws.length : Int) < (K : Int)) := by omega
    have k2 : ¬ ((ws.length : Int) - (K : Int) < (N : Int)) := by omega
    have k3 : IntKind.i64.wrap ((ws.length : Int) - (K : Int)) = (ws.length : Int) - (K : Int) := Go.IntWalk.i64_in _ (by omega)
    clear hA hE hS hm e1 e2 hr h0 h1 hsz hN
    go_enter Try.func126, Try.ntmps126
    go_wp2_with fail
    refine (HE _).out.mono ?_
    rintro e w1 ⟨rfl, hb⟩
    have HB := Lib.hid (below_tr HB0.out hb)
    have HR := Lib.hid (HR0.out.below hb HR0.out.lt)
    clear hb
    have q0 := HR.out.cell 0
    have q1 := HR.out.cell 1
    have q2 := HR.out.cell 2
    have q3 := HR.out.cell 3
    have q4 := HR.out.cell 4
    go_wp2_with fail
    refine (HS _).out.mono ?_
    rintro e w2 ⟨rfl, hb⟩
    have HB2 := Lib.hid (below_tr HB.out hb)
    clear hb q0 q1 q2 q3 q4
    have HA2 := Lib.hid (HA.out.below HB2.out)
    go_wp2_with (at_builtin; refine wpList_clone_words rfl (.tmp 41) (.tmp 42) rfl w2 rfl A ws.length c rfl ws HA2.out HN.out ?_; intro A' c' w3 hown hb)
    have HO : Hid (w3.ownsRow w2.heap.size 22 1 (.slice A' ws.length c') ws.length (wds (fillTo ws K 0 0))) := by rw [fillTo_zero]; exact hown
    have HB3 := Lib.hid (below_tr HB2.out hb)
    clear hown hb
    go_loopw [12] (fun i wr => ∃ k : Nat, k ≤ N ∧ i = .int .i64 (k : Nat) ∧ Hid (wr.ownsRow w2.heap.size 22 1 (.slice A' ws.length c') ws.length (wds (fillTo ws K 0 k))) ∧ Hid (Below w.heap.size w wr)) (fun i _ => N - (intOf i).toNat)
    case atStart => exact ⟨0, by omega, rfl, HO, HB3⟩
    case round =>
      obtain ⟨k, hk, rfl, ho, hb⟩ := hrel
      by_cases hlt : k < N
      · obtain ⟨g, cap, e, hg, hg2⟩ := ho.out.form (by omega)
        injection e with e1 e2 e3
        subst e1 e3
        have hc := ho.out.cellAt (K + k) (by omega)
        rw [wds_get _ _ (by rw [fillTo_length]; omega)] at hc
        have hfr := ho.out.frozenAt (K + k)
        have hst := Lib.hid (ho.out.stored (K + k) (.int .u64 0))
        have hg3 := Lib.hid (Nat.le_trans HB2.out.size hg)
        clear hg hg2
        go_wp2
        go_roundw
        case rel => exact ⟨k + 1, by omega, by go_num, by have := hst.out.1; rw [wds_set] at this; rw [fillTo_succ]; exact this, hb.out.setCell hg3.out _⟩
        case measure => simp [intOf] <;> omega
      · obtain rfl : k = N := by omega
        have hfit := allU_fillTo HA.out.fit K (x := 0) ⟨by decide, by decide⟩ k
        have hfl := fillTo_length ws K 0 k
        generalize fillTo ws K 0 k = ff at *
        obtain ⟨g, cap, e, hg, hg2⟩ := ho.out.form (by omega)
        injection e with e1 e2 e3
        subst e1 e3
        have hc := ho.out.cellAt K (by omega)
        rw [wds_get _ _ (by omega)] at hc
        have hfr := ho.out.frozenAt K
        have hst := Lib.hid (ho.out.stored K (.int .u64 W9))
        have hg3 := Lib.hid (Nat.le_trans HB2.out.size hg)
        have hi1 : (K : Int) < (ws.length : Int) := by omega
        have HFL := Lib.hid hfl
        have HFF := Lib.hid hfit
        clear hg hg2 hfl hfit
        go_wp2
        go_ret2
        exact RefL.new_ (by rw [List.length_set, HFL.out]) (by have := hst.out.1; rw [wds_set] at this; exact this) (HFF.out.set K HU.out) (hb.out.setCell hg3.out _) HB2.out.size

set_option maxHeartbeats 3200000 in
theorem roset_any {w : World} {A : Option Addr} {c : Nat} {ws : List Int} (a i x : Int) (raw : Bool) (hal : ws.length ≤ 1000000) (hx : U64 x) (hA : Rw w (.slice A ws.length c) ws) : Calls Try.prog 128 #[.slice A ws.length c, .int .i64 a, .int .i64 i, .int .u64 x, .bool raw] w (RefL w (.slice A ws.length c) ws (oSL ws a i x raw) (oSE ws a i x raw)) := by
  have hp := rplace_any a i raw hal hA
  have HA := Lib.hid hA
  have HX := Lib.hid hx
  have HN : Hid (Few ws.length) := hal
  have hcp := hA.cap_
  unfold maxLen at hcp
  have hd := fun w => rdec_any x w hx
  rcases os_cases hA.fit a i x raw with ⟨h0, e1, e2⟩ | ⟨h0, hr, hdb, e1, e2⟩ | ⟨h0, hr, e1, hin, e2⟩
  · rw [e1, e2]
    have HP := Lib.hid hp
    have hne : (oPE ws a i raw != 0) = true := by simpa using h0
    clear hA hp h0 e1 e2 hd hx
    generalize oPE ws a i raw = E at *
    generalize oPI ws a i raw = k at *
    go_enter Try.func128, Try.ntmps128
    go_wp2_with fail
    refine HP.out.mono ?_
    rintro e w1 ⟨rfl, hb⟩
    have HB := Lib.hid hb
    clear hb
    go_wp2
    go_ret2
    exact RefL.same HA.out HB.out
  · rw [e1, e2]
    rw [h0] at hp
    subst hr
    have HP := Lib.hid hp
    rw [show decE x = 3 by unfold decE; rw [hdb]; rfl] at hd
    have HD := fun w => Lib.hid (hd w)
    clear hA hp h0 e1 e2 hd hdb hx
    generalize oPI ws a i false = k at *
    go_enter Try.func128, Try.ntmps128
    go_wp2_with fail
    refine HP.out.mono ?_
    rintro e w1 ⟨rfl, hb⟩
    have HB := Lib.hid hb
    clear hb
    go_wp2_with fail
    refine (HD _).out.mono ?_
    rintro e w2 ⟨rfl, hb⟩
    have HB := Lib.hid (below_tr HB.out hb)
    clear hb
    go_wp2
    go_ret2
    exact RefL.same HA.out HB.out
  · rw [e1, e2]
    rw [h0] at hp
    have hbb := inB_yes hin
    obtain ⟨K, hK⟩ := Int.eq_ofNat_of_zero_le hbb.1
    rw [hK] at hp hbb ⊢
    rw [Int.toNat_natCast]
    have HP := Lib.hid hp
    have hKl : K < ws.length := by omega
    have hi1 : (K : Int) < (ws.length : Int) := by omega
    clear hA hp h0 e1 e2 hx hin hK hbb
    cases raw with
    | true =>
      clear hd hr
      go_enter Try.func128, Try.ntmps128
      go_wp2_with fail
      refine HP.out.mono ?_
      rintro e w1 ⟨rfl, hb⟩
      have HB := Lib.hid hb
      clear hb
      have HA2 := Lib.hid (HA.out.below HB.out)
      go_wp2_with (at_builtin; refine wpList_clone_words rfl (.tmp 38) (.tmp 39) rfl _ rfl A ws.length c rfl ws HA2.out HN.out ?_; intro A' c' w3 hown hb3; have HB3 := Lib.hid (below_tr HB.out hb3); clear hb3; obtain ⟨g, cap, e, hg, hg2⟩ := hown.form (by omega); injection e with e1 e2 e3; subst e1 e3; have hc := hown.cellAt K (by omega); rw [wds_get _ _ hKl] at hc; have hfr := hown.frozenAt K; have hst := Lib.hid (hown.stored K (.int .u64 x)); have hg3 := Lib.hid (Nat.le_trans HB.out.size hg); clear hown hg hg2)
      go_ret2
      exact RefL.new_ (by simp) (by have := hst.out.1; rw [wds_set] at this; exact this) (HA.out.fit.set K HX.out) (HB3.out.setCell hg3.out _) HB.out.size
    | false =>
      rw [show decE x = 0 by unfold decE; rw [show decB x = true by simpa using hr]; rfl] at hd
      have HD := fun w => Lib.hid (hd w)
      clear hd hr
      go_enter Try.func128, Try.ntmps128
      go_wp2_with fail
      refine HP.out.mono ?_
      rintro e w1 ⟨rfl, hb⟩
      have HB := Lib.hid hb
      clear hb
      go_wp2_with fail
      refine (HD _).out.mono ?_
      rintro e w2 ⟨rfl, hb⟩
      have HB := Lib.hid (below_tr HB.out hb)
      clear hb
      have HA2 := Lib.hid (HA.out.below HB.out)
      go_wp2_with (at_builtin; refine wpList_clone_words rfl (.tmp 38) (.tmp 39) rfl _ rfl A ws.length c rfl ws HA2.out HN.out ?_; intro A' c' w3 hown hb3; have HB3 := Lib.hid (below_tr HB.out hb3); clear hb3; obtain ⟨g, cap, e, hg, hg2⟩ := hown.form (by omega); injection e with e1 e2 e3; subst e1 e3; have hc := hown.cellAt K (by omega); rw [wds_get _ _ hKl] at hc; have hfr := hown.frozenAt K; have hst := Lib.hid (hown.stored K (.int .u64 x)); have hg3 := Lib.hid (Nat.le_trans HB.out.size hg); clear hown hg hg2)
      go_ret2
      exact RefL.new_ (by simp) (by have := hst.out.1; rw [wds_set] at this; exact this) (HA.out.fit.set K HX.out) (HB3.out.setCell hg3.out _) HB.out.size

end Go.Proofs.Ytcljgphipdbckaa
