/- Plain laws of layer 12, second part: the words when a list is pushed (the last one first). -/
import Derived.Test.YtcljgphipdbckaaP12
namespace Go.Proofs.Ytcljgphipdbckaa
set_option linter.unusedVariables false
set_option linter.unusedSimpArgs false

theorem Pushed.put_ {s : List Int} {m : Nat} {was ws : List Int} {R : List Nat} (hl : Laid s m was) (h : Pushed s m was R ws) (hm : m ≤ 30) {k : Nat} (hk : k < m) (hn : k ∉ R) {t : Int} (t0 : 0 ≤ t) (t1 : t ≤ 1048576) :
    Pushed s m was (k :: R) (curL ws (atN s k : Nat) t) ∧ oE (curL ws (atN s k : Nat) t) (atN s k : Nat) = 0 ∧ (oH (curL ws (atN s k : Nat) t) (atN s k : Nat)).cursor = t ∧ curL (curL ws (atN s k : Nat) t) (atN s k : Nat) 0 = ws := by
  have hh := h.head hl hm hk hn
  have hb := szN_bd s k
  have ha := atN_le s k
  have hmy := hdN_may s (show k < 30 by omega) t0 t1
  have e : curL ws (atN s k : Nat) t = ws.set (atN s k) (encI (hdN s k t)) := by
    unfold curL; rw [hh.2, Int.toNat_natCast]; rfl
  have hal : atN s k < ws.length := by rw [h.len]; omega
  have h2 : oE (ws.set (atN s k) (encI (hdN s k t))) (atN s k : Nat) = 0 ∧ oH (ws.set (atN s k) (encI (hdN s k t))) (atN s k : Nat) = hdN s k t := by
    refine head_at (by rw [List.length_set]; exact hal) (getD_set_eq _ _ hal) hmy ?_
    rw [hdN_size s (by omega) t0 t1, List.length_set, h.len]; omega
  rw [e]
  refine ⟨⟨by rw [List.length_set, h.len], h.fit.set _ (encI_bd hmy), fun b hbn => ?_, fun j hj => ?_⟩, h2.1, by rw [h2.2]; rfl, ?_⟩
  · rw [getD_set_ne _ _ (hbn k (by simp))]
    exact h.rest b fun j hj => hbn j (by simp [hj])
  · simp at hj
    rcases hj with rfl | hj
    · exact hk
    · exact h.dom j hj
  · unfold curL
    rw [h2.2, Int.toNat_natCast, List.set_set]
    have e3 : encI { hdN s k t with cursor := 0 } = ws.getD (atN s k) 0 := by
      rw [h.rest _ (ne_put s hn), hl.hd k hk]; rfl
    rw [e3]
    apply List.ext_getElem?
    intro j
    by_cases hj : j = atN s k
    · subst hj
      rw [List.getElem?_set_self hal, List.getD_eq_getElem?_getD, List.getElem?_eq_getElem hal]; rfl
    · rw [List.getElem?_set_ne (fun e => hj e.symm)]

/-- the list's top: the last one that was pushed stands first -/
def topR : List Nat → Int
  | [] => 0
  | k :: _ => (k : Int) + 1
def wsR (s was : List Int) : List Nat → List Int
  | [] => was
  | k :: r => curL (wsR s was r) (atN s k : Nat) (topR r)
def okR (m : Nat) : List Nat → Prop
  | [] => True
  | k :: r => k < m ∧ k ∉ r ∧ okR m r
theorem topR_bd {m : Nat} {R : List Nat} (h : okR m R) : 0 ≤ topR R ∧ topR R ≤ m := by
  cases R with
  | nil => simp [topR]
  | cons k r => have := h.1; show 0 ≤ (k : Int) + 1 ∧ (k : Int) + 1 ≤ m; omega
theorem pushedR {s was : List Int} {m : Nat} (hl : Laid s m was) (hm : m ≤ 30) : ∀ R : List Nat, okR m R → Pushed s m was R (wsR s was R)
  | [], _ => ⟨hl.len, hl.fit, fun b _ => rfl, fun k hk => by cases hk⟩
  | k :: r, h => by
    have ih := pushedR hl hm r h.2.2
    have ht := topR_bd h.2.2
    exact (ih.put_ hl hm h.1 h.2.1 ht.1 (by omega)).1
theorem headR {s was : List Int} {m : Nat} (hl : Laid s m was) (hm : m ≤ 30) {R : List Nat} (h : okR m R) {k : Nat} (hk : k < m) (hn : k ∉ R) : oE (wsR s was R) (atN s k : Nat) = 0 :=
  ((pushedR hl hm R h).head hl hm hk hn).1
theorem popR {s was : List Int} {m : Nat} (hl : Laid s m was) (hm : m ≤ 30) {k : Nat} {r : List Nat} (h : okR m (k :: r)) :
    oE (wsR s was (k :: r)) (atN s k : Nat) = 0 ∧ (oH (wsR s was (k :: r)) (atN s k : Nat)).cursor = topR r ∧ curL (wsR s was (k :: r)) (atN s k : Nat) 0 = wsR s was r := by
  have ht := topR_bd h.2.2
  exact ((pushedR hl hm r h.2.2).put_ hl hm h.1 h.2.1 ht.1 (by omega)).2
/-- what was put, in order -/
def putL' (R : List Nat) : List Int := R.reverse.map fun (k : Nat) => (k : Int)
theorem putL'_length (R : List Nat) : (putL' R).length = R.length := by simp [putL']
theorem putL'_cons (k : Nat) (r : List Nat) : putL' (k :: r) = putL' r ++ [(k : Int)] := by simp [putL']
theorem putL'_get {P0 : List Int} {k : Nat} {r : List Nat} {T : List Int} (h : P0 = putL' (k :: r) ++ T) : P0.getD r.length 0 = k := by
  rw [h, putL'_cons, List.append_assoc, List.getD_eq_getElem?_getD, List.getElem?_append_right (by rw [putL'_length]; omega), putL'_length]
  simp
theorem laid_zeros (s : List Int) : Laid s 0 (zeros 400) := ⟨zeros_length 400, zeros_fit 400, fun k hk => absurd hk (by omega)⟩
end Go.Proofs.Ytcljgphipdbckaa
