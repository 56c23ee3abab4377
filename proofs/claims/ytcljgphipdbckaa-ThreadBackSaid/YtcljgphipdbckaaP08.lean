/- Plain laws of layer 8: objects in words. -/
import Derived.Test.YtcljgphipdbckaaP07
import Derived.Test.YtcljgphipdbckaaP02
import Derived.Test.YtcljgphipdbckaaM02
namespace Go.Proofs.Ytcljgphipdbckaa
set_option linter.unusedVariables false
set_option linter.unusedSimpArgs false

def oE (ws : List Int) (a : Int) : Int := if inB ws.length a then (if hdB (rdV ws a) then (if a + sizeI (hdH (rdV ws a)) ≤ ws.length then 0 else 2) else 3) else 2
def oH (ws : List Int) (a : Int) : Hd := if oE ws a = 0 then hdH (rdV ws a) else Hd.none_
theorem o_cases (ws : List Int) (a : Int) :
    (inB ws.length a = false ∧ oE ws a = 2 ∧ oH ws a = Hd.none_) ∨ (inB ws.length a = true ∧ hdB (rdV ws a) = false ∧ oE ws a = 3 ∧ oH ws a = Hd.none_) ∨
    (inB ws.length a = true ∧ hdB (rdV ws a) = true ∧ ¬ a + sizeI (hdH (rdV ws a)) ≤ ws.length ∧ oE ws a = 2 ∧ oH ws a = Hd.none_) ∨
    (inB ws.length a = true ∧ hdB (rdV ws a) = true ∧ a + sizeI (hdH (rdV ws a)) ≤ ws.length ∧ oE ws a = 0 ∧ oH ws a = hdH (rdV ws a)) := by
  unfold oH oE
  cases h1 : inB ws.length a with
  | false => exact .inl ⟨rfl, by simp, by simp⟩
  | true =>
    cases h2 : hdB (rdV ws a) with
    | false => exact .inr (.inl ⟨rfl, rfl, by simp, by simp⟩)
    | true =>
      by_cases h3 : a + sizeI (hdH (rdV ws a)) ≤ ws.length
      · exact .inr (.inr (.inr ⟨rfl, rfl, h3, by simp [h3], by simp [h3]⟩))
      · exact .inr (.inr (.inl ⟨rfl, rfl, h3, by simp [h3], by simp [h3]⟩))
theorem hdH_may {w : Int} (h0 : 0 ≤ w) (h : hdB w = true) : mayB (hdH w) = true := (enc_hd h0 h).2
theorem rdV_u {ws : List Int} (h : AllU ws) (a : Int) : U64 (rdV ws a) := by
  unfold rdV; split
  · exact h.get _
  · exact ⟨by decide, by decide⟩
theorem oE_zero {ws : List Int} {a : Int} (hf : AllU ws) (h : oE ws a = 0) : 0 ≤ a ∧ a < ws.length ∧ mayB (oH ws a) = true ∧ a + 1 + (oH ws a).fields + (oH ws a).raws ≤ ws.length ∧ oH ws a = hdH (rdV ws a) ∧ hdB (rdV ws a) = true := by
  rcases o_cases ws a with ⟨_, e, _⟩ | ⟨_, _, e, _⟩ | ⟨_, _, _, e, _⟩ | ⟨h1, h2, h3, e, e2⟩
  · omega
  · omega
  · omega
  · have hb := inB_yes h1
    have hm := hdH_may (rdV_u hf a).1 h2
    rw [e2]
    refine ⟨hb.1, hb.2, hm, ?_, rfl, h2⟩
    unfold sizeI at h3
    rw [hm, if_pos rfl] at h3
    omega

def manyH (h : Hd) (raw : Bool) : Int := if raw then h.raws else h.fields
def fromH (h : Hd) (a : Int) (raw : Bool) : Int := a + 1 + (if raw then h.fields else 0)
def plE (h : Hd) (i : Int) (raw : Bool) (E : Int) : Int := if E = 0 then (if i < 0 ∨ manyH h raw ≤ i then 1 else 0) else E
def plI (h : Hd) (a i : Int) (raw : Bool) (E : Int) : Int := if plE h i raw E = 0 then fromH h a raw + i else 0
/-- the place of a field or a raw word -/
def oPE (ws : List Int) (a i : Int) (raw : Bool) : Int := plE (oH ws a) i raw (oE ws a)
def oPI (ws : List Int) (a i : Int) (raw : Bool) : Int := plI (oH ws a) a i raw (oE ws a)
theorem pl_cases (h : Hd) (a i : Int) (raw : Bool) (E : Int) : (¬ E = 0 ∧ plE h i raw E = E ∧ plI h a i raw E = 0) ∨ (E = 0 ∧ (i < 0 ∨ manyH h raw ≤ i) ∧ plE h i raw E = 1 ∧ plI h a i raw E = 0) ∨
    (E = 0 ∧ 0 ≤ i ∧ i < manyH h raw ∧ plE h i raw E = 0 ∧ plI h a i raw E = fromH h a raw + i) := by
  unfold plI plE
  by_cases h0 : E = 0
  · by_cases h1 : i < 0 ∨ manyH h raw ≤ i
    · exact .inr (.inl ⟨h0, h1, by rw [if_pos h0, if_pos h1], by rw [if_pos h0, if_pos h1]; rfl⟩)
    · exact .inr (.inr ⟨h0, by omega, by omega, by rw [if_pos h0, if_neg h1], by rw [if_pos h0, if_neg h1]; rfl⟩)
  · exact .inl ⟨h0, by rw [if_neg h0], by rw [if_neg h0, if_neg h0]⟩
theorem oP_zero {ws : List Int} {a i : Int} {raw : Bool} (hf : AllU ws) (h : oPE ws a i raw = 0) : oE ws a = 0 ∧ 0 ≤ i ∧ i < manyH (oH ws a) raw ∧ oPI ws a i raw = fromH (oH ws a) a raw + i ∧ a < oPI ws a i raw ∧ inB ws.length (oPI ws a i raw) = true := by
  rcases pl_cases (oH ws a) a i raw (oE ws a) with ⟨h0, e, _⟩ | ⟨h0, _, e, _⟩ | ⟨h0, h1, h2, e, e2⟩
  · unfold oPE at h; omega
  · unfold oPE at h; omega
  · obtain ⟨z0, z1, zm, z2, _⟩ := oE_zero hf h0
    have hm := (mayB_iff _).1 zm
    refine ⟨h0, h1, h2, e2, ?_, inB_mk ?_ ?_⟩ <;> (unfold oPI; rw [e2]; unfold fromH; unfold manyH at h2; cases raw <;> simp at * <;> omega)

def oV (ws : List Int) (a i : Int) (raw : Bool) : Int := if oPE ws a i raw = 0 then rdV ws (oPI ws a i raw) else 0
/-- what setting a field or a raw word comes to -/
def oSE (ws : List Int) (a i w : Int) (raw : Bool) : Int := if oPE ws a i raw = 0 then (if raw = false ∧ decB w = false then 3 else 0) else oPE ws a i raw
def oSL (ws : List Int) (a i w : Int) (raw : Bool) : List Int := if oSE ws a i w raw = 0 then ws.set (oPI ws a i raw).toNat w else ws
/-- putting an object -/
def oUE (ws : List Int) (a : Int) (h : Hd) : Int := if mayB h then rowE ws.length a (sizeI h) else 1
def oUL (ws : List Int) (a : Int) (h : Hd) : List Int := if oUE ws a h = 0 then (fillTo ws a.toNat 0 (sizeI h).toNat).set a.toNat (encI h) else ws
/-- setting a header -/
def oTE (ws : List Int) (a : Int) (h : Hd) : Int := if oE ws a = 0 then (if mayB h = true ∧ sizeI (oH ws a) = sizeI h then 0 else 1) else oE ws a
def oTL (ws : List Int) (a : Int) (h : Hd) : List Int := if oTE ws a h = 0 then ws.set a.toNat (encI h) else ws
theorem oSL_length (ws : List Int) (a i w : Int) (raw : Bool) : (oSL ws a i w raw).length = ws.length := by unfold oSL; split <;> simp
theorem oUL_length (ws : List Int) (a : Int) (h : Hd) : (oUL ws a h).length = ws.length := by unfold oUL; split <;> simp [fillTo_length]
theorem oTL_length (ws : List Int) (a : Int) (h : Hd) : (oTL ws a h).length = ws.length := by unfold oTL; split <;> simp
theorem os_cases {ws : List Int} (hf : AllU ws) (a i w : Int) (raw : Bool) : (¬ oPE ws a i raw = 0 ∧ oSE ws a i w raw = oPE ws a i raw ∧ oSL ws a i w raw = ws) ∨ (oPE ws a i raw = 0 ∧ raw = false ∧ decB w = false ∧ oSE ws a i w raw = 3 ∧ oSL ws a i w raw = ws) ∨
    (oPE ws a i raw = 0 ∧ (raw = true ∨ decB w = true) ∧ oSE ws a i w raw = 0 ∧ inB ws.length (oPI ws a i raw) = true ∧ oSL ws a i w raw = ws.set (oPI ws a i raw).toNat w) := by
  unfold oSL oSE
  by_cases h : oPE ws a i raw = 0
  · have hp := oP_zero hf h
    by_cases h2 : raw = false ∧ decB w = false
    · exact .inr (.inl ⟨h, h2.1, h2.2, by rw [if_pos h, if_pos h2], by rw [if_pos h, if_pos h2]; rfl⟩)
    · refine .inr (.inr ⟨h, ?_, by rw [if_pos h, if_neg h2], hp.2.2.2.2.2, by rw [if_pos h, if_neg h2]; rfl⟩)
      cases raw <;> simp at h2 ⊢
      exact h2
  · exact .inl ⟨h, by rw [if_neg h], by rw [if_neg h, if_neg h]⟩
theorem size_may {h : Hd} (hm : mayB h = true) : sizeI h = 1 + h.fields + h.raws ∧ 1 ≤ sizeI h ∧ sizeI h ≤ 8193 := by
  have := (mayB_iff h).1 hm
  have e : sizeI h = 1 + h.fields + h.raws := by unfold sizeI; rw [hm, if_pos rfl]
  omega
theorem ou_cases (ws : List Int) (a : Int) (h : Hd) : (mayB h = false ∧ oUE ws a h = 1 ∧ oUL ws a h = ws) ∨ (mayB h = true ∧ rowE ws.length a (sizeI h) = 2 ∧ (a < 0 ∨ (ws.length : Int) < a ∨ (ws.length : Int) - a < sizeI h) ∧ oUE ws a h = 2 ∧ oUL ws a h = ws) ∨
    (mayB h = true ∧ rowE ws.length a (sizeI h) = 0 ∧ 0 ≤ a ∧ a + sizeI h ≤ ws.length ∧ oUE ws a h = 0 ∧ oUL ws a h = (fillTo ws a.toNat 0 (sizeI h).toNat).set a.toNat (encI h)) := by
  unfold oUL oUE
  cases hm : mayB h with
  | false => exact .inl ⟨rfl, by simp, by simp⟩
  | true =>
    have hs := size_may hm
    rcases rowE_cases ws.length a (sizeI h) with ⟨e, h1⟩ | ⟨e, h1, h2⟩ | ⟨e, h1, h2, h3, h4⟩
    · omega
    · exact .inr (.inl ⟨rfl, e, h2, by simp [e], by simp [e]⟩)
    · exact .inr (.inr ⟨rfl, e, h2, h4, by simp [e], by simp [e]⟩)
theorem ot_cases (ws : List Int) (a : Int) (h : Hd) : (¬ oE ws a = 0 ∧ oTE ws a h = oE ws a ∧ oTL ws a h = ws) ∨ (oE ws a = 0 ∧ mayB h = false ∧ oTE ws a h = 1 ∧ oTL ws a h = ws) ∨ (oE ws a = 0 ∧ mayB h = true ∧ ¬ sizeI (oH ws a) = sizeI h ∧ oTE ws a h = 1 ∧ oTL ws a h = ws) ∨
    (oE ws a = 0 ∧ mayB h = true ∧ sizeI (oH ws a) = sizeI h ∧ oTE ws a h = 0 ∧ oTL ws a h = ws.set a.toNat (encI h)) := by
  unfold oTL oTE
  by_cases h0 : oE ws a = 0
  · cases hm : mayB h with
    | false => exact .inr (.inl ⟨h0, rfl, by simp [h0], by simp [h0]⟩)
    | true =>
      by_cases hs : sizeI (oH ws a) = sizeI h
      · exact .inr (.inr (.inr ⟨h0, rfl, hs, by simp [h0, hs], by simp [h0, hs]⟩))
      · exact .inr (.inr (.inl ⟨h0, rfl, hs, by simp [h0, hs], by simp [h0, hs]⟩))
  · exact .inl ⟨h0, by rw [if_neg h0], by rw [if_neg h0, if_neg h0]⟩
end Go.Proofs.Ytcljgphipdbckaa
