/- The law ObjectAlone. -/
import Derived.Test.YtcljgphipdbckaaL08
namespace Go.Proofs.Ytcljgphipdbckaa
set_option linter.unusedVariables false
set_option linter.unusedSimpArgs false
open Go.RowKit

theorem os3 {ws : List Int} (hf : AllU ws) (a i w : Int) (raw : Bool) : (¬ oE ws a = 0 ∧ oSE ws a i w raw = oE ws a ∧ oSL ws a i w raw = ws) ∨ (oE ws a = 0 ∧ ¬ oSE ws a i w raw = 0 ∧ oSL ws a i w raw = ws) ∨
    (oE ws a = 0 ∧ oSE ws a i w raw = 0 ∧ 0 ≤ i ∧ i < manyH (oH ws a) raw ∧ oPI ws a i raw = fromH (oH ws a) a raw + i ∧ inB ws.length (oPI ws a i raw) = true ∧ oSL ws a i w raw = ws.set (oPI ws a i raw).toNat w) := by
  by_cases h : oE ws a = 0
  · refine .inr ?_
    rcases os_cases hf a i w raw with ⟨h0, e1, e2⟩ | ⟨h0, _, _, e1, e2⟩ | ⟨h0, _, e1, e3, e2⟩
    · exact .inl ⟨h, by rw [e1]; exact h0, e2⟩
    · exact .inl ⟨h, by rw [e1]; decide, e2⟩
    · have := oP_zero hf h0
      exact .inr ⟨h, e1, this.2.1, this.2.2.1, this.2.2.2.1, e3, e2⟩
  · refine .inl ⟨h, ?_⟩
    have hp : oPE ws a i raw = oE ws a := by unfold oPE plE; rw [if_neg h]
    rcases os_cases hf a i w raw with ⟨_, e1, e2⟩ | ⟨h0, _, _, _, _⟩ | ⟨h0, _, _, _, _⟩
    · exact ⟨e1.trans hp, e2⟩
    · rw [hp] at h0; exact absurd h0 h
    · rw [hp] at h0; exact absurd h0 h
theorem set_rw {w : World} {B g n c K : Nat} {ws : List Int} {x : Int} (h : w.ownsRow B 22 1 (.slice (some ⟨g, 0, none⟩) n c) n ((wds ws).set K (.int .u64 x))) (hf : AllU ws) (hx : U64 x) : Rw w (.slice (some ⟨g, 0, none⟩) n c) (ws.set K x) := by
  rw [wds_set] at h
  have hn : n = (ws.set K x).length := by
    have := h.1
    rw [wds_length] at this
    omega
  subst hn
  exact Rw.of_own h (hf.set K hx)
theorem Ar.stored_far {w w' : World} {B p g : Nat} {v : Value} {ws : List Int} (h : Ar w B p v ws) (hb : Below w.heap.size w w') (hg : w.heap.size ≤ g) (K : Nat) (u : Value) : Ar (w'.setCell ⟨g, K, none⟩ u) B p v ws :=
  h.below (hb.setCell hg u)

set_option maxRecDepth 100000 in
set_option maxHeartbeats 16000000 in
theorem objectAlone_short {W : World} {A : Option Addr} {c : Nat} {ws : List Int} (a i x : Int) (raw : Bool) (hv : Rw W (.slice A ws.length c) ws) (hn : ws.length ≤ 200) (ha0 : -9223372036854775808 ≤ a) (hx : U64 x) :
    Calls Try.prog 18 #[.slice A ws.length c, .int .i64 a, .int .i64 i, .int .u64 x, .bool raw] W (Out W (.bool true)) := by
  have HOf := Lib.hid (of_any hv (by omega))
  have V0 := Lib.hid hv
  have HA0 := Lib.hid ha0
  have HX := Lib.hid hx
  have HL : Hid (ws.length ≤ 1000000) := by show ws.length ≤ 1000000; omega
  have HL2 : Hid (ws.length ≤ 98304) := by show ws.length ≤ 98304; omega
  have HN : Hid (Few ws.length) := HL
  have HFW : Hid (Few ws.length) := HL
  have HFW2 : ∀ K, Hid (Few (ws.set K x).length) := fun K => by show (ws.set K x).length ≤ 1000000; rw [List.length_set]; exact HL.out
  have hcp := hv.cap_
  unfold maxLen at hcp
  have hn1 : (ws.length : Int) ≤ 200 := by omega
  have HFit := Lib.hid hv.fit
  clear hn ha0 hx
  cases raw with
  | true =>
    rcases os3 hv.fit a i x true with ⟨e0, e1, e2⟩ | ⟨e0, e1, e2⟩ | ⟨e0, e1, i0, i1, e3, e4, e2⟩
    · obtain ⟨z, hz⟩ : ∃ z, z = oH ws a := ⟨_, rfl⟩
      obtain ⟨E, hE⟩ : ∃ E, E = oE ws a := ⟨_, rfl⟩
      have HEQ : Hid (oH ws a = z ∧ oE ws a = E) := ⟨hz.symm, hE.symm⟩
      have HF : Hid (oSE ws a i x true = E ∧ oSL ws a i x true = ws) := ⟨e1.trans hE.symm, e2⟩
      have hne : (E != 0) = true := by rw [hE]; simpa using e0
      clear e1 e2 hv hz hE e0
      go_enter Try.func18, Try.ntmps18
      go_wp2_with fail
      refine HOf.out.mono ?_
      intro e w0 hm
      obtain ⟨p, v, rfl, HA, HB, hb⟩ := hm.open_ (Below.refl _ _) (Nat.le_refl _)
      clear hm hb
      have k := head_ar a HA0.out HL.out HA.out
      rw [HEQ.out.1, HEQ.out.2] at k
      have k := Lib.hid k
      go_wp2_with fail
      refine k.out.mono ?_
      rintro e w1 ⟨rfl, hb⟩
      have hal : Below w1.heap.size w1 (w1.alloc (.cells #[.int .i64 z.kind, .int .i64 z.fields, .int .i64 z.raws, .bool z.mark, .int .i64 z.cursor] 59)) := (Below.refl _ _).alloc (Nat.le_refl _) _
      have HA := Lib.hid ((HA.out.below hb).below hal)
      have HB := Lib.hid (below_tr (below_tr HB.out hb) hal)
      have HK := Lib.hid (Blk.new w1 59 #[.int .i64 z.kind, .int .i64 z.fields, .int .i64 z.raws, .bool z.mark, .int .i64 z.cursor])
      clear hb k hal
      have k := setfield_ar a i x HA0.out HL.out HX.out HA.out
      generalize oSE ws a i x false = E1 at *
      generalize oSL ws a i x false = L1 at *
      have k := Lib.hid k
      go_wp2_with fail
      refine k.out.mono ?_
      rintro e w2 ⟨rfl, ht⟩
      have HK := Lib.hid (HK.out.grown ht.2 (fun e => HA.out.ne_blk HK.out (by decide) e))
      obtain ⟨HA, HB⟩ := ht.open_ HA.out HB.out
      clear ht k
      have HOf := Lib.hid (of_any (V0.out.below HB.out) HL2.out)
      go_wp2_with fail
      refine HOf.out.mono ?_
      intro e w3 hm
      obtain ⟨p', v', rfl, HA, HB, hb⟩ := hm.open_ HB.out HB.out.size
      have HK := Lib.hid (HK.out.below hb.out HK.out.lt)
      clear hm hb HOf
      have k := setraw_ar a i x HA0.out HL.out HX.out HA.out
      rw [HF.out.1, HF.out.2] at k
      have k := Lib.hid k
      go_wp2_with fail
      refine k.out.mono ?_
      rintro e w4 ⟨rfl, ht⟩
      have HK := Lib.hid (HK.out.grown ht.2 (fun e => HA.out.ne_blk HK.out (by decide) e))
      obtain ⟨HA, HB⟩ := ht.open_ HA.out HB.out
      clear ht k
      have k := Lib.hid (words_ar HA.out HFW.out)
      go_wp2_with fail
      refine k.out.mono ?_
      rintro e w6 ⟨A6, c6, rfl, hown, hb⟩
      have HR6 := Lib.hid (Rw.of_own hown HA.out.fit)
      have HB := Lib.hid (below_tr HB.out hb)
      have WN := Lib.hid (V0.out.below HB.out)
      clear hown hb k
      have k := same_any HR6.out WN.out
      rw [sameB_refl] at k
      have k := Lib.hid k
      go_wp2_with fail
      refine k.out.mono ?_
      rintro e w7 ⟨rfl, k7, rfl⟩
      go_wp2_with fail
      refine (awake08 _).mono ?_
      rintro e w8 ⟨rfl, hb⟩
      have HB := Lib.hid (below_tr (below_dr HB.out k7) hb)
      clear hb
      go_wp2
      go_ret
      exact ⟨rfl, HB.out⟩
    · obtain ⟨z, hz⟩ : ∃ z, z = oH ws a := ⟨_, rfl⟩
      obtain ⟨F, hF⟩ : ∃ F, F = oSE ws a i x true := ⟨_, rfl⟩
      have HEQ : Hid (oH ws a = z ∧ oE ws a = 0) := ⟨hz.symm, e0⟩
      have HF : Hid (oSE ws a i x true = F ∧ oSL ws a i x true = ws) := ⟨hF.symm, e2⟩
      have hne : (F != 0) = true := by rw [hF]; simpa using e1
      clear e1 e2 hv hz hF e0
      go_enter Try.func18, Try.ntmps18
      go_wp2_with fail
      refine HOf.out.mono ?_
      intro e w0 hm
      obtain ⟨p, v, rfl, HA, HB, hb⟩ := hm.open_ (Below.refl _ _) (Nat.le_refl _)
      clear hm hb
      have k := head_ar a HA0.out HL.out HA.out
      rw [HEQ.out.1, HEQ.out.2] at k
      have k := Lib.hid k
      go_wp2_with fail
      refine k.out.mono ?_
      rintro e w1 ⟨rfl, hb⟩
      have hal : Below w1.heap.size w1 (w1.alloc (.cells #[.int .i64 z.kind, .int .i64 z.fields, .int .i64 z.raws, .bool z.mark, .int .i64 z.cursor] 59)) := (Below.refl _ _).alloc (Nat.le_refl _) _
      have HA := Lib.hid ((HA.out.below hb).below hal)
      have HB := Lib.hid (below_tr (below_tr HB.out hb) hal)
      have HK := Lib.hid (Blk.new w1 59 #[.int .i64 z.kind, .int .i64 z.fields, .int .i64 z.raws, .bool z.mark, .int .i64 z.cursor])
      clear hb k hal
      have k := setfield_ar a i x HA0.out HL.out HX.out HA.out
      generalize oSE ws a i x false = E1 at *
      generalize oSL ws a i x false = L1 at *
      have k := Lib.hid k
      go_wp2_with fail
      refine k.out.mono ?_
      rintro e w2 ⟨rfl, ht⟩
      have HK := Lib.hid (HK.out.grown ht.2 (fun e => HA.out.ne_blk HK.out (by decide) e))
      obtain ⟨HA, HB⟩ := ht.open_ HA.out HB.out
      clear ht k
      have HOf := Lib.hid (of_any (V0.out.below HB.out) HL2.out)
      go_wp2_with fail
      refine HOf.out.mono ?_
      intro e w3 hm
      obtain ⟨p', v', rfl, HA, HB, hb⟩ := hm.open_ HB.out HB.out.size
      have HK := Lib.hid (HK.out.below hb.out HK.out.lt)
      clear hm hb HOf
      have k := setraw_ar a i x HA0.out HL.out HX.out HA.out
      rw [HF.out.1, HF.out.2] at k
      have k := Lib.hid k
      go_wp2_with fail
      refine k.out.mono ?_
      rintro e w4 ⟨rfl, ht⟩
      have HK := Lib.hid (HK.out.grown ht.2 (fun e => HA.out.ne_blk HK.out (by decide) e))
      obtain ⟨HA, HB⟩ := ht.open_ HA.out HB.out
      clear ht k
      have q0 := HK.out.cell 0
      have q1 := HK.out.cell 1
      have q2 := HK.out.cell 2
      have q3 := HK.out.cell 3
      have q4 := HK.out.cell 4
      have k := Lib.hid (words_ar HA.out HFW.out)
      go_wp2_with fail
      refine k.out.mono ?_
      rintro e w6 ⟨A6, c6, rfl, hown, hb⟩
      have HR6 := Lib.hid (Rw.of_own hown HA.out.fit)
      have HB := Lib.hid (below_tr HB.out hb)
      have WN := Lib.hid (V0.out.below HB.out)
      clear hown hb k
      have k := same_any HR6.out WN.out
      rw [sameB_refl] at k
      have k := Lib.hid k
      go_wp2_with fail
      refine k.out.mono ?_
      rintro e w7 ⟨rfl, k7, rfl⟩
      go_wp2_with fail
      refine (awake08 _).mono ?_
      rintro e w8 ⟨rfl, hb⟩
      have HB := Lib.hid (below_tr (below_dr HB.out k7) hb)
      clear hb
      go_wp2
      go_ret
      exact ⟨rfl, HB.out⟩
    · obtain ⟨z, hz⟩ : ∃ z, z = oH ws a := ⟨_, rfl⟩
      have HEQ : Hid (oH ws a = z ∧ oE ws a = 0) := ⟨hz.symm, e0⟩
      have HF : Hid (oSE ws a i x true = 0 ∧ oSL ws a i x true = ws.set (oPI ws a i true).toNat x) := ⟨e1, e2⟩
      have hzz := oE_zero hv.fit e0
      have hmm := (mayB_iff _).1 hzz.2.2.1
      have hb4 := inB_yes e4
      rw [← hz] at i1 e3 hzz hmm
      have j1 : ¬ i < 0 := by omega
      have j2 : ¬ (z.raws ≤ i) := by unfold manyH at i1; simp at i1; omega
      have e5 : oPI ws a i true = a + 1 + i + z.fields := by rw [e3]; unfold fromH; simp <;> omega
      obtain ⟨K, hK⟩ := Int.eq_ofNat_of_zero_le hb4.1
      have hKk : a + 1 + i + z.fields = (K : Int) := by omega
      have hKl : K < ws.length := by omega
      have v1 : IntKind.i64.wrap (a + 1) = a + 1 := Go.IntWalk.i64_in _ (by omega)
      have v2 : IntKind.i64.wrap (a + 1 + i) = a + 1 + i := by rw [Go.IntWalk.i64_in _ (by omega)]
      have v3 : IntKind.i64.wrap (a + 1 + i + z.fields) = (K : Int) := by rw [Go.IntWalk.i64_in _ (by omega)]; exact hKk
      rw [hK, Int.toNat_natCast] at HF
      have hi1 : (K : Int) < (ws.length : Int) := by omega
      clear e1 e2 hv hz e0 hzz hmm hb4 i0 i1 e3 e4 e5 hK hKk
      go_enter Try.func18, Try.ntmps18
      go_wp2_with fail
      refine HOf.out.mono ?_
      intro e w0 hm
      obtain ⟨p, v, rfl, HA, HB, hb⟩ := hm.open_ (Below.refl _ _) (Nat.le_refl _)
      clear hm hb
      have k := head_ar a HA0.out HL.out HA.out
      rw [HEQ.out.1, HEQ.out.2] at k
      have k := Lib.hid k
      go_wp2_with fail
      refine k.out.mono ?_
      rintro e w1 ⟨rfl, hb⟩
      have hal : Below w1.heap.size w1 (w1.alloc (.cells #[.int .i64 z.kind, .int .i64 z.fields, .int .i64 z.raws, .bool z.mark, .int .i64 z.cursor] 59)) := (Below.refl _ _).alloc (Nat.le_refl _) _
      have HA := Lib.hid ((HA.out.below hb).below hal)
      have HB := Lib.hid (below_tr (below_tr HB.out hb) hal)
      have HK := Lib.hid (Blk.new w1 59 #[.int .i64 z.kind, .int .i64 z.fields, .int .i64 z.raws, .bool z.mark, .int .i64 z.cursor])
      clear hb k hal
      have k := setfield_ar a i x HA0.out HL.out HX.out HA.out
      generalize oSE ws a i x false = E1 at *
      generalize oSL ws a i x false = L1 at *
      have k := Lib.hid k
      go_wp2_with fail
      refine k.out.mono ?_
      rintro e w2 ⟨rfl, ht⟩
      have HK := Lib.hid (HK.out.grown ht.2 (fun e => HA.out.ne_blk HK.out (by decide) e))
      obtain ⟨HA, HB⟩ := ht.open_ HA.out HB.out
      clear ht k
      have HOf := Lib.hid (of_any (V0.out.below HB.out) HL2.out)
      go_wp2_with fail
      refine HOf.out.mono ?_
      intro e w3 hm
      obtain ⟨p', v', rfl, HA, HB, hb⟩ := hm.open_ HB.out HB.out.size
      have HK := Lib.hid (HK.out.below hb.out HK.out.lt)
      clear hm hb HOf
      have k := setraw_ar a i x HA0.out HL.out HX.out HA.out
      rw [HF.out.1, HF.out.2] at k
      have k := Lib.hid k
      go_wp2_with fail
      refine k.out.mono ?_
      rintro e w4 ⟨rfl, ht⟩
      have HK := Lib.hid (HK.out.grown ht.2 (fun e => HA.out.ne_blk HK.out (by decide) e))
      obtain ⟨HA, HB⟩ := ht.open_ HA.out HB.out
      clear ht k
      have q0 := HK.out.cell 0
      have q1 := HK.out.cell 1
      have q2 := HK.out.cell 2
      have q3 := HK.out.cell 3
      have q4 := HK.out.cell 4
      go_wp2_with (at_builtin; refine wpList_clone_words rfl (.tmp 101) (.tmp 102) rfl _ rfl A ws.length c rfl ws (V0.out.below HB.out) HN.out ?_; intro A5 c5 w5 hown hb3; obtain ⟨g, cap, e, hg, hg2⟩ := hown.form (by omega); injection e with e1 e2 e3; subst e1 e3; have hc := hown.cellAt K (by omega); rw [wds_get _ _ hKl] at hc; have hfr := hown.frozenAt K; have hst := hown.stored K (.int .u64 x); have HA := Lib.hid (HA.out.stored_far hb3 hg K (.int .u64 x)); have HB := Lib.hid ((below_tr HB.out hb3).setCell (p := ⟨g, K, none⟩) (Nat.le_trans HB.out.size hg) (.int .u64 x)); have OWN := Lib.hid (set_rw hst.1 HFit.out HX.out); clear hown hb3 hst hg hg2)
      have k := Lib.hid (words_ar HA.out (HFW2 K).out)
      go_wp2_with fail
      refine k.out.mono ?_
      rintro e w6 ⟨A6, c6, rfl, hown, hb⟩
      have HR6 := Lib.hid (Rw.of_own hown HA.out.fit)
      have OW := Lib.hid (OWN.out.below hb)
      have HB := Lib.hid (below_tr HB.out hb)
      clear hown hb k
      have k := same_any HR6.out OW.out
      rw [sameB_refl] at k
      have k := Lib.hid k
      rw [List.length_set] at k
      go_wp2_with fail
      refine k.out.mono ?_
      rintro e w7 ⟨rfl, k7, rfl⟩
      go_wp2_with fail
      refine (awake08 _).mono ?_
      rintro e w8 ⟨rfl, hb⟩
      have HB := Lib.hid (below_tr (below_dr HB.out k7) hb)
      clear hb
      go_wp2
      go_ret
      exact ⟨rfl, HB.out⟩
  | false =>
    rcases os3 hv.fit a i x false with ⟨e0, e1, e2⟩ | ⟨e0, e1, e2⟩ | ⟨e0, e1, i0, i1, e3, e4, e2⟩
    · obtain ⟨z, hz⟩ : ∃ z, z = oH ws a := ⟨_, rfl⟩
      obtain ⟨E, hE⟩ : ∃ E, E = oE ws a := ⟨_, rfl⟩
      have HEQ : Hid (oH ws a = z ∧ oE ws a = E) := ⟨hz.symm, hE.symm⟩
      have HF : Hid (oSE ws a i x false = E ∧ oSL ws a i x false = ws) := ⟨e1.trans hE.symm, e2⟩
      have hne : (E != 0) = true := by rw [hE]; simpa using e0
      clear e1 e2 hv hz hE e0
      go_enter Try.func18, Try.ntmps18
      go_wp2_with fail
      refine HOf.out.mono ?_
      intro e w0 hm
      obtain ⟨p, v, rfl, HA, HB, hb⟩ := hm.open_ (Below.refl _ _) (Nat.le_refl _)
      clear hm hb
      have k := head_ar a HA0.out HL.out HA.out
      rw [HEQ.out.1, HEQ.out.2] at k
      have k := Lib.hid k
      go_wp2_with fail
      refine k.out.mono ?_
      rintro e w1 ⟨rfl, hb⟩
      have hal : Below w1.heap.size w1 (w1.alloc (.cells #[.int .i64 z.kind, .int .i64 z.fields, .int .i64 z.raws, .bool z.mark, .int .i64 z.cursor] 59)) := (Below.refl _ _).alloc (Nat.le_refl _) _
      have HA := Lib.hid ((HA.out.below hb).below hal)
      have HB := Lib.hid (below_tr (below_tr HB.out hb) hal)
      have HK := Lib.hid (Blk.new w1 59 #[.int .i64 z.kind, .int .i64 z.fields, .int .i64 z.raws, .bool z.mark, .int .i64 z.cursor])
      clear hb k hal
      have k := setfield_ar a i x HA0.out HL.out HX.out HA.out
      rw [HF.out.1, HF.out.2] at k
      have k := Lib.hid k
      go_wp2_with fail
      refine k.out.mono ?_
      rintro e w2 ⟨rfl, ht⟩
      have HK := Lib.hid (HK.out.grown ht.2 (fun e => HA.out.ne_blk HK.out (by decide) e))
      obtain ⟨HA, HB⟩ := ht.open_ HA.out HB.out
      clear ht k
      have k := Lib.hid (words_ar HA.out HFW.out)
      go_wp2_with fail
      refine k.out.mono ?_
      rintro e w6 ⟨A6, c6, rfl, hown, hb⟩
      have HR6 := Lib.hid (Rw.of_own hown HA.out.fit)
      have HB := Lib.hid (below_tr HB.out hb)
      have WN := Lib.hid (V0.out.below HB.out)
      clear hown hb k
      have k := same_any HR6.out WN.out
      rw [sameB_refl] at k
      have k := Lib.hid k
      go_wp2_with fail
      refine k.out.mono ?_
      rintro e w7 ⟨rfl, k7, rfl⟩
      go_wp2_with fail
      refine (awake08 _).mono ?_
      rintro e w8 ⟨rfl, hb⟩
      have HB := Lib.hid (below_tr (below_dr HB.out k7) hb)
      clear hb
      go_wp2
      go_ret
      exact ⟨rfl, HB.out⟩
    · obtain ⟨z, hz⟩ : ∃ z, z = oH ws a := ⟨_, rfl⟩
      obtain ⟨F, hF⟩ : ∃ F, F = oSE ws a i x false := ⟨_, rfl⟩
      have HEQ : Hid (oH ws a = z ∧ oE ws a = 0) := ⟨hz.symm, e0⟩
      have HF : Hid (oSE ws a i x false = F ∧ oSL ws a i x false = ws) := ⟨hF.symm, e2⟩
      have hne : (F != 0) = true := by rw [hF]; simpa using e1
      clear e1 e2 hv hz hF e0
      go_enter Try.func18, Try.ntmps18
      go_wp2_with fail
      refine HOf.out.mono ?_
      intro e w0 hm
      obtain ⟨p, v, rfl, HA, HB, hb⟩ := hm.open_ (Below.refl _ _) (Nat.le_refl _)
      clear hm hb
      have k := head_ar a HA0.out HL.out HA.out
      rw [HEQ.out.1, HEQ.out.2] at k
      have k := Lib.hid k
      go_wp2_with fail
      refine k.out.mono ?_
      rintro e w1 ⟨rfl, hb⟩
      have hal : Below w1.heap.size w1 (w1.alloc (.cells #[.int .i64 z.kind, .int .i64 z.fields, .int .i64 z.raws, .bool z.mark, .int .i64 z.cursor] 59)) := (Below.refl _ _).alloc (Nat.le_refl _) _
      have HA := Lib.hid ((HA.out.below hb).below hal)
      have HB := Lib.hid (below_tr (below_tr HB.out hb) hal)
      have HK := Lib.hid (Blk.new w1 59 #[.int .i64 z.kind, .int .i64 z.fields, .int .i64 z.raws, .bool z.mark, .int .i64 z.cursor])
      clear hb k hal
      have k := setfield_ar a i x HA0.out HL.out HX.out HA.out
      rw [HF.out.1, HF.out.2] at k
      have k := Lib.hid k
      go_wp2_with fail
      refine k.out.mono ?_
      rintro e w2 ⟨rfl, ht⟩
      have HK := Lib.hid (HK.out.grown ht.2 (fun e => HA.out.ne_blk HK.out (by decide) e))
      obtain ⟨HA, HB⟩ := ht.open_ HA.out HB.out
      clear ht k
      have q0 := HK.out.cell 0
      have q1 := HK.out.cell 1
      have q2 := HK.out.cell 2
      have q3 := HK.out.cell 3
      have q4 := HK.out.cell 4
      have k := Lib.hid (words_ar HA.out HFW.out)
      go_wp2_with fail
      refine k.out.mono ?_
      rintro e w6 ⟨A6, c6, rfl, hown, hb⟩
      have HR6 := Lib.hid (Rw.of_own hown HA.out.fit)
      have HB := Lib.hid (below_tr HB.out hb)
      have WN := Lib.hid (V0.out.below HB.out)
      clear hown hb k
      have k := same_any HR6.out WN.out
      rw [sameB_refl] at k
      have k := Lib.hid k
      go_wp2_with fail
      refine k.out.mono ?_
      rintro e w7 ⟨rfl, k7, rfl⟩
      go_wp2_with fail
      refine (awake08 _).mono ?_
      rintro e w8 ⟨rfl, hb⟩
      have HB := Lib.hid (below_tr (below_dr HB.out k7) hb)
      clear hb
      go_wp2
      go_ret
      exact ⟨rfl, HB.out⟩
    · obtain ⟨z, hz⟩ : ∃ z, z = oH ws a := ⟨_, rfl⟩
      have HEQ : Hid (oH ws a = z ∧ oE ws a = 0) := ⟨hz.symm, e0⟩
      have HF : Hid (oSE ws a i x false = 0 ∧ oSL ws a i x false = ws.set (oPI ws a i false).toNat x) := ⟨e1, e2⟩
      have hzz := oE_zero hv.fit e0
      have hmm := (mayB_iff _).1 hzz.2.2.1
      have hb4 := inB_yes e4
      rw [← hz] at i1 e3 hzz hmm
      have j1 : ¬ i < 0 := by omega
      have j2 : ¬ (z.fields ≤ i) := by unfold manyH at i1; simp at i1; omega
      have e5 : oPI ws a i false = a + 1 + i := by rw [e3]; unfold fromH; simp <;> omega
      obtain ⟨K, hK⟩ := Int.eq_ofNat_of_zero_le hb4.1
      have hKk : a + 1 + i = (K : Int) := by omega
      have hKl : K < ws.length := by omega
      have v1 : IntKind.i64.wrap (a + 1) = a + 1 := Go.IntWalk.i64_in _ (by omega)
      have v2 : IntKind.i64.wrap (a + 1 + i) = (K : Int) := by rw [Go.IntWalk.i64_in _ (by omega)]; exact hKk
      rw [hK, Int.toNat_natCast] at HF
      have hi1 : (K : Int) < (ws.length : Int) := by omega
      clear e1 e2 hv hz e0 hzz hmm hb4 i0 i1 e3 e4 e5 hK hKk
      go_enter Try.func18, Try.ntmps18
      go_wp2_with fail
      refine HOf.out.mono ?_
      intro e w0 hm
      obtain ⟨p, v, rfl, HA, HB, hb⟩ := hm.open_ (Below.refl _ _) (Nat.le_refl _)
      clear hm hb
      have k := head_ar a HA0.out HL.out HA.out
      rw [HEQ.out.1, HEQ.out.2] at k
      have k := Lib.hid k
      go_wp2_with fail
      refine k.out.mono ?_
      rintro e w1 ⟨rfl, hb⟩
      have hal : Below w1.heap.size w1 (w1.alloc (.cells #[.int .i64 z.kind, .int .i64 z.fields, .int .i64 z.raws, .bool z.mark, .int .i64 z.cursor] 59)) := (Below.refl _ _).alloc (Nat.le_refl _) _
      have HA := Lib.hid ((HA.out.below hb).below hal)
      have HB := Lib.hid (below_tr (below_tr HB.out hb) hal)
      have HK := Lib.hid (Blk.new w1 59 #[.int .i64 z.kind, .int .i64 z.fields, .int .i64 z.raws, .bool z.mark, .int .i64 z.cursor])
      clear hb k hal
      have k := setfield_ar a i x HA0.out HL.out HX.out HA.out
      rw [HF.out.1, HF.out.2] at k
      have k := Lib.hid k
      go_wp2_with fail
      refine k.out.mono ?_
      rintro e w2 ⟨rfl, ht⟩
      have HK := Lib.hid (HK.out.grown ht.2 (fun e => HA.out.ne_blk HK.out (by decide) e))
      obtain ⟨HA, HB⟩ := ht.open_ HA.out HB.out
      clear ht k
      have q0 := HK.out.cell 0
      have q1 := HK.out.cell 1
      have q2 := HK.out.cell 2
      have q3 := HK.out.cell 3
      have q4 := HK.out.cell 4
      go_wp2_with (at_builtin; refine wpList_clone_words rfl (.tmp 101) (.tmp 102) rfl _ rfl A ws.length c rfl ws (V0.out.below HB.out) HN.out ?_; intro A5 c5 w5 hown hb3; obtain ⟨g, cap, e, hg, hg2⟩ := hown.form (by omega); injection e with e1 e2 e3; subst e1 e3; have hc := hown.cellAt K (by omega); rw [wds_get _ _ hKl] at hc; have hfr := hown.frozenAt K; have hst := hown.stored K (.int .u64 x); have HA := Lib.hid (HA.out.stored_far hb3 hg K (.int .u64 x)); have HB := Lib.hid ((below_tr HB.out hb3).setCell (p := ⟨g, K, none⟩) (Nat.le_trans HB.out.size hg) (.int .u64 x)); have OWN := Lib.hid (set_rw hst.1 HFit.out HX.out); clear hown hb3 hst hg hg2)
      have k := Lib.hid (words_ar HA.out (HFW2 K).out)
      go_wp2_with fail
      refine k.out.mono ?_
      rintro e w6 ⟨A6, c6, rfl, hown, hb⟩
      have HR6 := Lib.hid (Rw.of_own hown HA.out.fit)
      have OW := Lib.hid (OWN.out.below hb)
      have HB := Lib.hid (below_tr HB.out hb)
      clear hown hb k
      have k := same_any HR6.out OW.out
      rw [sameB_refl] at k
      have k := Lib.hid k
      rw [List.length_set] at k
      go_wp2_with fail
      refine k.out.mono ?_
      rintro e w7 ⟨rfl, k7, rfl⟩
      go_wp2_with fail
      refine (awake08 _).mono ?_
      rintro e w8 ⟨rfl, hb⟩
      have HB := Lib.hid (below_tr (below_dr HB.out k7) hb)
      clear hb
      go_wp2
      go_ret
      exact ⟨rfl, HB.out⟩
set_option maxRecDepth 100000 in
set_option maxHeartbeats 800000 in
theorem objectAlone_long {W : World} (A : Option Addr) (n c : Nat) (a i x : Int) (raw : Bool) (hn : 200 < n) (h1 : n ≤ c) (h2 : c ≤ 9223372036854775807) : Calls Try.prog 18 #[.slice A n c, .int .i64 a, .int .i64 i, .int .u64 x, .bool raw] W (Out W (.bool true)) := by
  have H := Lib.hid (awake08 W)
  have hn1 : (200 : Int) < (n : Int) := by omega
  go_enter Try.func18, Try.ntmps18
  go_wp2_with fail
  refine H.out.mono ?_
  rintro e w1 ⟨rfl, hb⟩
  have HB := Lib.hid hb
  clear hb
  go_wp2
  go_ret
  exact ⟨rfl, HB.out⟩
theorem objectAlone_walk (v : Value) (a i x : Int) (raw : Bool) (W : World) (hv : ∃ ws, Rw W v ws) (ha0 : -9223372036854775808 ≤ a) (hx : U64 x) : Calls Try.prog 18 #[v, .int .i64 a, .int .i64 i, .int .u64 x, .bool raw] W fun e w' => e = .returned (.bool true) ∧ Below W.heap.size W w' := by
  obtain ⟨ws, hv⟩ := hv
  obtain ⟨A, c, rfl, a1, a2, _⟩ := id hv.ex
  by_cases hn : ws.length ≤ 200
  · exact objectAlone_short a i x raw hv hn ha0 hx
  · unfold maxLen at a2
    exact objectAlone_long A ws.length c a i x raw (by omega) a1 a2
end Go.Proofs.Ytcljgphipdbckaa
