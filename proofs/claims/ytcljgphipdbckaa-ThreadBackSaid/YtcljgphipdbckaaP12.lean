/- Plain laws of layer 12: objects pushed, then popped. -/
import Derived.Test.YtcljgphipdbckaaW12
namespace Go.Proofs.Ytcljgphipdbckaa
set_option linter.unusedVariables false
set_option linter.unusedSimpArgs false

/-- how many words the i-th object has -/
def szN (s : List Int) (i : Nat) : Nat := (min (max (s.getD i 0) 1) 10).toNat
theorem szN_bd (s : List Int) (i : Nat) : 1 ≤ szN s i ∧ szN s i ≤ 10 ∧ ((szN s i : Nat) : Int) = min (max (s.getD i 0) 1) 10 := by unfold szN; omega
/-- where the i-th object stands -/
def atN (s : List Int) : Nat → Nat
  | 0 => 0
  | i + 1 => atN s i + szN s i
theorem atN_le (s : List Int) (i : Nat) : i ≤ atN s i ∧ atN s i ≤ 10 * i := by
  induction i with
  | zero => simp [atN]
  | succ i ih => have := szN_bd s i; simp only [atN]; omega
theorem atN_mono (s : List Int) {i j : Nat} (h : i < j) : atN s i + szN s i ≤ atN s j := by
  induction j with
  | zero => omega
  | succ j ih =>
    simp only [atN]
    rcases Nat.lt_or_ge i j with h1 | h1
    · have := ih h1; have := szN_bd s j; omega
    · obtain rfl : i = j := by omega
      omega
theorem atN_inj (s : List Int) {i j : Nat} (h : i ≠ j) : atN s i ≠ atN s j := by
  have hi := szN_bd s i
  have hj := szN_bd s j
  rcases Nat.lt_or_ge i j with h1 | h1
  · have := atN_mono s h1; omega
  · have := atN_mono s (show j < i by omega); omega
theorem ne_put (s : List Int) {put : List Nat} {k : Nat} (hn : k ∉ put) : ∀ j ∈ put, atN s j ≠ atN s k := fun j hj => atN_inj s (fun e => hn (by rw [← e]; exact hj))
/-- the i-th object's header -/
def hdN (s : List Int) (i : Nat) (c : Int) : Hd := ⟨i, 0, (szN s i : Int) - 1, false, c⟩
theorem hdN_may (s : List Int) {i : Nat} (hi : i < 30) {c : Int} (c0 : 0 ≤ c) (c1 : c ≤ 1048576) : mayB (hdN s i c) = true := by
  have := szN_bd s i
  rw [mayB_iff]; unfold hdN; simp only; omega
theorem hdN_size (s : List Int) {i : Nat} (hi : i < 30) {c : Int} (c0 : 0 ≤ c) (c1 : c ≤ 1048576) : sizeI (hdN s i c) = (szN s i : Nat) := by
  rw [(size_may (hdN_may s hi c0 c1)).1]; unfold hdN; simp only; omega
/-- the word at a place is a header -/
theorem head_at {ws : List Int} {a : Nat} {h : Hd} (hl : a < ws.length) (hw : ws.getD a 0 = encI h) (hm : mayB h = true) (hs : (a : Int) + sizeI h ≤ ws.length) : oE ws (a : Nat) = 0 ∧ oH ws (a : Nat) = h := by
  have hin : inB ws.length (a : Int) = true := inB_mk (by omega) (by omega)
  have hr : rdV ws (a : Int) = encI h := by rw [rdV_yes hin, Int.toNat_natCast, hw]
  have he := hd_enc hm
  rcases o_cases ws (a : Int) with ⟨h1, _⟩ | ⟨_, h1, _⟩ | ⟨_, _, h1, _⟩ | ⟨_, _, _, e1, e2⟩
  · rw [hin] at h1; cases h1
  · rw [hr, he.1] at h1; cases h1
  · rw [hr, he.2] at h1; exact absurd hs h1
  · exact ⟨e1, by rw [e2, hr, he.2]⟩

/-- all objects up to i stand in the words, with cursors of 0 -/
structure Laid (s : List Int) (i : Nat) (ws : List Int) : Prop where
  len : ws.length = 400
  fit : AllU ws
  hd : ∀ k, k < i → ws.getD (atN s k) 0 = encI (hdN s k 0)
theorem getD_set_ne (ws : List Int) {a b : Nat} (x : Int) (h : a ≠ b) : (ws.set a x).getD b 0 = ws.getD b 0 := by
  rw [List.getD_eq_getElem?_getD, List.getD_eq_getElem?_getD, List.getElem?_set_ne h]
theorem getD_set_eq (ws : List Int) {a : Nat} (x : Int) (h : a < ws.length) : (ws.set a x).getD a 0 = x := by
  rw [List.getD_eq_getElem?_getD, List.getElem?_set_self h]; rfl
theorem fillTo_far (ws : List Int) (a : Nat) (x : Int) (b : Nat) (h : b < a) : ∀ k, (fillTo ws a x k).getD b 0 = ws.getD b 0
  | 0 => by rw [fillTo_zero]
  | k + 1 => by rw [fillTo_succ, getD_set_ne _ _ (by omega)]; exact fillTo_far ws a x b h k
theorem Laid.next {s : List Int} {i : Nat} {ws : List Int} (h : Laid s i ws) (hi : i < 30) : oUE ws (atN s i : Nat) (hdN s i 0) = 0 ∧ Laid s (i + 1) (oUL ws (atN s i : Nat) (hdN s i 0)) := by
  have hm := hdN_may s hi (c := 0) (by omega) (by omega)
  have hs := hdN_size s hi (c := 0) (by omega) (by omega)
  have hb := szN_bd s i
  have ha := atN_le s i
  have hr : rowE ws.length (atN s i : Nat) (sizeI (hdN s i 0)) = 0 := by rw [hs]; exact rowE_ok (by omega) (by omega) (by rw [h.len]; omega)
  rcases ou_cases ws (atN s i : Nat) (hdN s i 0) with ⟨h1, _⟩ | ⟨_, h1, _⟩ | ⟨_, _, _, _, e1, e2⟩
  · rw [hm] at h1; cases h1
  · rw [hr] at h1; cases h1
  · rw [hs, Int.toNat_natCast, Int.toNat_natCast] at e2
    refine ⟨e1, ?_⟩
    rw [e2]
    refine ⟨by rw [List.length_set, fillTo_length, h.len], (allU_fillTo h.fit _ ⟨by decide, by decide⟩ _).set _ (encI_bd hm), fun k hk => ?_⟩
    rcases Nat.lt_or_ge k i with h1 | h1
    · have := atN_mono s h1
      have := szN_bd s k
      rw [getD_set_ne _ _ (by omega), fillTo_far _ _ _ _ (by omega)]
      exact h.hd k h1
    · obtain rfl : k = i := by omega
      rw [getD_set_eq _ _ (by rw [fillTo_length, h.len]; omega)]

/-- the list's top -/
def topP (put : List Nat) : Int := match put.getLast? with | some k => (k : Int) + 1 | none => 0
theorem topP_nil : topP [] = 0 := rfl
theorem topP_snoc (put : List Nat) (k : Nat) : topP (put ++ [k]) = (k : Int) + 1 := by unfold topP; rw [List.getLast?_append]; rfl
theorem topP_bd {put : List Nat} {m : Nat} (h : ∀ k ∈ put, k < m) : 0 ≤ topP put ∧ topP put ≤ m := by
  unfold topP
  cases hl : put.getLast? with
  | none => simp
  | some k => have := h k (List.mem_of_getLast? hl); simp only; omega
/-- the words when some objects are pushed, one behind the other -/
structure Pushed (s : List Int) (m : Nat) (was : List Int) (put : List Nat) (ws : List Int) : Prop where
  len : ws.length = 400
  fit : AllU ws
  rest : ∀ b, (∀ k ∈ put, atN s k ≠ b) → ws.getD b 0 = was.getD b 0
  dom : ∀ k ∈ put, k < m

theorem Pushed.start {s : List Int} {m : Nat} {was : List Int} (h : Laid s m was) : Pushed s m was [] was := ⟨h.len, h.fit, fun b _ => rfl, fun k hk => by cases hk⟩
theorem Pushed.head {s : List Int} {m : Nat} {was ws : List Int} {put : List Nat} (hl : Laid s m was) (h : Pushed s m was put ws) (hm : m ≤ 30) {k : Nat} (hk : k < m) (hn : k ∉ put) : oE ws (atN s k : Nat) = 0 ∧ oH ws (atN s k : Nat) = hdN s k 0 := by
  have hb := szN_bd s k
  have ha := atN_le s k
  refine head_at (by rw [h.len]; omega) ?_ (hdN_may s (by omega) (by omega) (by omega)) (by rw [hdN_size s (by omega) (by omega) (by omega), h.len]; omega)
  rw [h.rest _ (ne_put s hn)]
  exact hl.hd k hk
theorem Pushed.push {s : List Int} {m : Nat} {was ws : List Int} {put : List Nat} (hl : Laid s m was) (h : Pushed s m was put ws) (hm : m ≤ 30) {k : Nat} (hk : k < m) (hn : k ∉ put) :
    Pushed s m was (put ++ [k]) (curL ws (atN s k : Nat) (topP put)) ∧ oE (curL ws (atN s k : Nat) (topP put)) (atN s k : Nat) = 0 ∧ (oH (curL ws (atN s k : Nat) (topP put)) (atN s k : Nat)).cursor = topP put ∧ curL (curL ws (atN s k : Nat) (topP put)) (atN s k : Nat) 0 = ws := by
  have hh := h.head hl hm hk hn
  have hb := szN_bd s k
  have ha := atN_le s k
  have ht := topP_bd h.dom
  have hmy := hdN_may s (show k < 30 by omega) ht.1 (by omega)
  have e : curL ws (atN s k : Nat) (topP put) = ws.set (atN s k) (encI (hdN s k (topP put))) := by
    unfold curL; rw [hh.2, Int.toNat_natCast]; rfl
  have hal : atN s k < ws.length := by rw [h.len]; omega
  have h2 : oE (ws.set (atN s k) (encI (hdN s k (topP put)))) (atN s k : Nat) = 0 ∧ oH (ws.set (atN s k) (encI (hdN s k (topP put)))) (atN s k : Nat) = hdN s k (topP put) := by
    refine head_at (by rw [List.length_set]; exact hal) (getD_set_eq _ _ hal) hmy ?_
    rw [hdN_size s (by omega) ht.1 (by omega), List.length_set, h.len]; omega
  rw [e]
  refine ⟨⟨by rw [List.length_set, h.len], h.fit.set _ (encI_bd hmy), fun b hbn => ?_, fun j hj => ?_⟩, h2.1, by rw [h2.2]; rfl, ?_⟩
  · rw [getD_set_ne _ _ (hbn k (by simp))]
    exact h.rest b fun j hj => hbn j (by simp [hj])
  · simp at hj
    rcases hj with hj | rfl
    · exact h.dom j hj
    · exact hk
  · unfold curL
    rw [h2.2, Int.toNat_natCast, List.set_set]
    have e3 : encI { hdN s k (topP put) with cursor := 0 } = ws.getD (atN s k) 0 := by
      rw [h.rest _ (ne_put s hn), hl.hd k hk]; rfl
    rw [e3]
    apply List.ext_getElem?
    intro j
    by_cases hj : j = atN s k
    · subst hj
      rw [List.getElem?_set_self hal, List.getD_eq_getElem?_getD, List.getElem?_eq_getElem hal]; rfl
    · rw [List.getElem?_set_ne (fun e => hj e.symm)]
end Go.Proofs.Ytcljgphipdbckaa
