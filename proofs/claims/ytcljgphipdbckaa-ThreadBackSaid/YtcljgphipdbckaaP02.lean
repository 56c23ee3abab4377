/- Plain laws of layer 2 (arena): words read, written, moved, filled. -/
import Derived.Test.YtcljgphipdbckaaP01
namespace Go.Proofs.Ytcljgphipdbckaa

/-- is there such a place? -/
def inB (n : Nat) (i : Int) : Bool := decide (0 ≤ i) && decide (i < n)
theorem inB_yes {n : Nat} {i : Int} (h : inB n i = true) : 0 ≤ i ∧ i < n := by simpa [inB] using h
theorem inB_no {n : Nat} {i : Int} (h : inB n i = false) : i < 0 ∨ n ≤ i := by
  by_cases h2 : i < 0 ∨ (n : Int) ≤ i
  · exact h2
  · have : inB n i = true := by simp [inB]; omega
    rw [this] at h; cases h
theorem inB_mk {n : Nat} {i : Int} (h0 : 0 ≤ i) (h1 : i < n) : inB n i = true := by simp [inB]; omega
theorem inB_not {n : Nat} {i : Int} (h : i < 0 ∨ (n : Int) ≤ i) : inB n i = false := by simp [inB]; omega
def atE (n : Nat) (i : Int) : Int := if inB n i then 0 else 2
def rdV (ws : List Int) (i : Int) : Int := if inB ws.length i then ws.getD i.toNat 0 else 0
def wrL (ws : List Int) (i x : Int) : List Int := if inB ws.length i then ws.set i.toNat x else ws
theorem wrL_length (ws : List Int) (i x : Int) : (wrL ws i x).length = ws.length := by unfold wrL; split <;> simp
/-- the error of a row of words -/
def rowE (m : Nat) (a n : Int) : Int := if n < 0 then 1 else if a < 0 ∨ (m : Int) < a ∨ (m : Int) - a < n then 2 else 0
theorem rowE_zero {m : Nat} {a n : Int} (h : rowE m a n = 0) : 0 ≤ n ∧ 0 ≤ a ∧ a ≤ m ∧ a + n ≤ m := by
  unfold rowE at h; split at h
  · omega
  · split at h <;> omega
theorem rowE_ok {m : Nat} {a n : Int} (h0 : 0 ≤ n) (h1 : 0 ≤ a) (h2 : a + n ≤ m) : rowE m a n = 0 := by
  unfold rowE; rw [if_neg (by omega), if_neg (by omega)]
theorem rowE_neg {m : Nat} {a n : Int} (h0 : n < 0) : rowE m a n = 1 := by unfold rowE; rw [if_pos h0]
theorem rowE_out {m : Nat} {a n : Int} (h0 : ¬ n < 0) (h : a < 0 ∨ (m : Int) < a ∨ (m : Int) - a < n) : rowE m a n = 2 := by
  unfold rowE; rw [if_neg h0, if_pos h]
theorem rowE_cases (m : Nat) (a n : Int) : rowE m a n = 1 ∧ n < 0 ∨ rowE m a n = 2 ∧ ¬ n < 0 ∧ (a < 0 ∨ (m : Int) < a ∨ (m : Int) - a < n) ∨ rowE m a n = 0 ∧ 0 ≤ n ∧ 0 ≤ a ∧ a ≤ m ∧ a + n ≤ m := by
  by_cases h0 : n < 0
  · exact .inl ⟨rowE_neg h0, h0⟩
  · by_cases h : a < 0 ∨ (m : Int) < a ∨ (m : Int) - a < n
    · exact .inr (.inl ⟨rowE_out h0 h, h0, h⟩)
    · exact .inr (.inr ⟨rowE_ok (by omega) (by omega) (by omega), by omega, by omega, by omega, by omega⟩)

/-- k words filled from a on -/
def fillTo (ws : List Int) (a : Nat) (x : Int) : Nat → List Int
  | 0 => ws
  | k + 1 => (fillTo ws a x k).set (a + k) x
theorem fillTo_length (ws : List Int) (a : Nat) (x : Int) : ∀ k, (fillTo ws a x k).length = ws.length := by
  intro k; induction k with
  | zero => rfl
  | succ k ih => simp [fillTo, ih]
theorem fillTo_zero (ws : List Int) (a : Nat) (x : Int) : fillTo ws a x 0 = ws := rfl
theorem fillTo_succ (ws : List Int) (a : Nat) (x : Int) (k : Nat) : fillTo ws a x (k + 1) = (fillTo ws a x k).set (a + k) x := rfl
def fillL (ws : List Int) (a n x : Int) : List Int := if rowE ws.length a n = 0 then fillTo ws a.toNat x n.toNat else ws
theorem fillL_length (ws : List Int) (a n x : Int) : (fillL ws a n x).length = ws.length := by unfold fillL; split <;> simp [fillTo_length]
theorem fillL_ok {ws : List Int} {a n : Int} (x : Int) (h : rowE ws.length a n = 0) : fillL ws a n x = fillTo ws a.toNat x n.toNat := by unfold fillL; rw [if_pos h]
theorem fillL_not {ws : List Int} {a n : Int} (x : Int) (h : ¬ rowE ws.length a n = 0) : fillL ws a n x = ws := by unfold fillL; rw [if_neg h]
/-- k words moved -/
def moveTo (ws : List Int) (a b : Nat) : Nat → List Int
  | 0 => ws
  | k + 1 => (moveTo ws a b k).set (a + k) (ws.getD (b + k) 0)
theorem moveTo_length (ws : List Int) (a b : Nat) : ∀ k, (moveTo ws a b k).length = ws.length := by
  intro k; induction k with
  | zero => rfl
  | succ k ih => simp [moveTo, ih]
theorem moveTo_zero (ws : List Int) (a b : Nat) : moveTo ws a b 0 = ws := rfl
theorem moveTo_succ (ws : List Int) (a b k : Nat) : moveTo ws a b (k + 1) = (moveTo ws a b k).set (a + k) (ws.getD (b + k) 0) := rfl
def moveE (m : Nat) (a b n : Int) : Int := if rowE m a n = 0 then rowE m b n else rowE m a n
def moveL (ws : List Int) (a b n : Int) : List Int := if moveE ws.length a b n = 0 then moveTo ws a.toNat b.toNat n.toNat else ws
theorem moveL_length (ws : List Int) (a b n : Int) : (moveL ws a b n).length = ws.length := by unfold moveL; split <;> simp [moveTo_length]
theorem moveL_ok {ws : List Int} {a b n : Int} (h : moveE ws.length a b n = 0) : moveL ws a b n = moveTo ws a.toNat b.toNat n.toNat := by unfold moveL; rw [if_pos h]
theorem moveL_not {ws : List Int} {a b n : Int} (h : ¬ moveE ws.length a b n = 0) : moveL ws a b n = ws := by unfold moveL; rw [if_neg h]
theorem moveTo_get (ws : List Int) (a b : Nat) : ∀ k, a + k ≤ ws.length → ∀ i, (moveTo ws a b k)[i]? = if a ≤ i ∧ i < a + k then some (ws.getD (b + (i - a)) 0) else ws[i]? := by
  intro k
  induction k with
  | zero => intro _ i; rw [moveTo_zero, if_neg (by omega)]
  | succ k ih =>
    intro hk i
    rw [moveTo_succ, List.getElem?_set, moveTo_length]
    by_cases h : a + k = i
    · subst h
      rw [if_pos rfl, if_pos (by omega), if_pos (by omega), show a + k - a = k by omega]
    · rw [if_neg h, ih (by omega) i]
      by_cases h2 : a ≤ i ∧ i < a + k
      · rw [if_pos h2, if_pos (by omega)]
      · rw [if_neg h2, if_neg (by omega)]
/-- what copy does to a row -/
theorem moveTo_splice (ws : List Int) (a b n : Nat) (ha : a + n ≤ ws.length) (hb : b + n ≤ ws.length) : moveTo ws a b n = ws.take a ++ ((ws.drop b).take n ++ ws.drop (a + n)) := by
  apply List.ext_getElem?
  intro i
  rw [moveTo_get ws a b n ha i]
  by_cases h1 : i < a
  · rw [if_neg (by omega), List.getElem?_append_left (by rw [List.length_take]; omega), List.getElem?_take_of_lt h1]
  · rw [List.getElem?_append_right (by rw [List.length_take]; omega), List.length_take, show min a ws.length = a by omega]
    by_cases h2 : i < a + n
    · rw [if_pos (by omega), List.getElem?_append_left (by rw [List.length_take, List.length_drop]; omega), List.getElem?_take_of_lt (by omega), List.getElem?_drop,
        List.getElem?_eq_getElem (by omega), List.getD_eq_getElem?_getD, List.getElem?_eq_getElem (by omega)]
      rfl
    · rw [if_neg (by omega), List.getElem?_append_right (by rw [List.length_take, List.length_drop]; omega), List.length_take, List.length_drop, List.getElem?_drop]
      congr 1
      omega
attribute [irreducible] fillTo moveTo fillL moveL wrL rdV atE rowE moveE inB
end Go.Proofs.Ytcljgphipdbckaa
