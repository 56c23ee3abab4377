/- Plain laws of layer 1 (word): parts of a word, counts of bits, digits. No program in sight. -/
import Derived.Laws.BitsAllLaws
import Derived.Laws.ShiftsVarLaws
namespace Go.Proofs.Ytcljgphipdbckaa

/-- a number of 64 bits -/
def U64 (w : Int) : Prop := 0 ≤ w ∧ w < 18446744073709551616
theorem U64.nat {w : Int} (h : U64 w) : ∃ W : Nat, w = (W : Int) ∧ W < 18446744073709551616 := by
  obtain ⟨a, b⟩ := h
  exact ⟨w.toNat, by omega, by omega⟩
theorem U64.of {W : Nat} (h : W < 18446744073709551616) : U64 (W : Int) := ⟨by omega, by omega⟩

def partB (x n : Int) : Bool := decide (0 ≤ x) && decide (x < 64) && decide (1 ≤ n) && decide (n ≤ 64 - x)
theorem partB_yes {x n : Int} (h : partB x n = true) : 0 ≤ x ∧ x < 64 ∧ 1 ≤ n ∧ n ≤ 64 - x := by
  simp [partB] at h; omega
theorem partB_no {x n : Int} (h : partB x n = false) : x < 0 ∨ 64 ≤ x ∨ n < 1 ∨ 64 - x < n := by
  have h2 : ¬ partB x n = true := by rw [h]; decide
  by_cases h3 : x < 0 ∨ 64 ≤ x ∨ n < 1 ∨ 64 - x < n
  · exact h3
  · exact absurd (by simp [partB]; omega) h2

/-! ### bits from the highest on -/
def accB (f : Nat → Bool) : Nat → Nat
  | 0 => 0
  | k + 1 => 2 * accB f k + (f (63 - k)).toNat

theorem testBit_dbl_zero (a : Nat) (b : Bool) : (2 * a + b.toNat).testBit 0 = b := by
  rw [Nat.testBit_zero]; cases b <;> simp [Nat.add_mod]
theorem testBit_dbl_succ (a : Nat) (b : Bool) (i : Nat) : (2 * a + b.toNat).testBit (i + 1) = a.testBit i := by
  rw [Nat.testBit_succ]
  have : (2 * a + b.toNat) / 2 = a := by cases b <;> simp <;> omega
  rw [this]
theorem accB_bit (f : Nat → Bool) : ∀ k, k ≤ 64 → ∀ i, (accB f k).testBit i = (decide (i < k) && f (64 - k + i)) := by
  intro k
  induction k with
  | zero => intro _ i; simp [accB]
  | succ k ih =>
    intro hk i
    unfold accB
    cases i with
    | zero =>
      rw [testBit_dbl_zero]
      have : 64 - (k + 1) + 0 = 63 - k := by omega
      rw [this]; simp
    | succ i =>
      rw [testBit_dbl_succ, ih (by omega) i]
      have : 64 - (k + 1) + (i + 1) = 64 - k + i := by omega
      rw [this]
      simp
theorem accB_lt (f : Nat → Bool) : ∀ k, accB f k < 2 ^ k := by
  intro k
  induction k with
  | zero => simp [accB]
  | succ k ih =>
    unfold accB
    have : (f (63 - k)).toNat ≤ 1 := by cases f (63 - k) <;> simp
    rw [Nat.pow_succ]; omega
theorem accB_lt64 (f : Nat → Bool) (k : Nat) (hk : k ≤ 64) : accB f k < 18446744073709551616 := by
  have h := accB_lt f k
  have h2 : (2 : Nat) ^ k ≤ 2 ^ 64 := Nat.pow_le_pow_right (by decide) hk
  have h3 : (2 : Nat) ^ 64 = 18446744073709551616 := by decide
  omega

/-! ### parts -/
def getN (w x n : Nat) : Nat := w / 2 ^ x % 2 ^ n
def putF (w x n v i : Nat) : Bool := if x ≤ i ∧ i < x + n then v.testBit (i - x) else w.testBit i
def putN (w x n v : Nat) : Nat := accB (putF w x n v) 64

theorem testBit_lt {w i : Nat} (hw : w < 18446744073709551616) (hi : 64 ≤ i) : w.testBit i = false := by
  apply Nat.testBit_lt_two_pow
  have h2 : (2 : Nat) ^ 64 ≤ 2 ^ i := Nat.pow_le_pow_right (by decide) hi
  have h3 : (2 : Nat) ^ 64 = 18446744073709551616 := by decide
  omega
theorem putN_bit (w x n v i : Nat) : (putN w x n v).testBit i = (decide (i < 64) && putF w x n v i) := by
  unfold putN; rw [accB_bit _ 64 (Nat.le_refl _)]; simp
theorem getN_bit (w x n i : Nat) : (getN w x n).testBit i = (decide (i < n) && w.testBit (x + i)) := by
  unfold getN; rw [Nat.testBit_mod_two_pow, Nat.testBit_div_two_pow, Nat.add_comm]
theorem putN_lt (w x n v : Nat) : putN w x n v < 18446744073709551616 := accB_lt64 _ 64 (Nat.le_refl _)
theorem getN_lt (w x n : Nat) (hw : w < 18446744073709551616) : getN w x n < 18446744073709551616 := by
  unfold getN
  have h1 : w / 2 ^ x % 2 ^ n ≤ w / 2 ^ x := Nat.mod_le _ _
  have h2 : w / 2 ^ x ≤ w := Nat.div_le_self _ _
  omega
theorem getN_lt' (w x n : Nat) : getN w x n < 2 ^ n := Nat.mod_lt _ (Nat.two_pow_pos _)

theorem get_put (w x n v : Nat) (hx : x + n ≤ 64) (hv : v < 2 ^ n) : getN (putN w x n v) x n = v := by
  apply Nat.eq_of_testBit_eq
  intro i
  rw [getN_bit, putN_bit]
  unfold putF
  by_cases hi : i < n
  · rw [if_pos (by omega)]; simp [hi]; omega
  · simp [hi]
    apply Nat.testBit_lt_two_pow
    have : (2 : Nat) ^ n ≤ 2 ^ i := Nat.pow_le_pow_right (by decide) (by omega)
    omega
theorem put_put (w x n v : Nat) (hw : w < 18446744073709551616) : putN (putN w x n v) x n (getN w x n) = w := by
  apply Nat.eq_of_testBit_eq
  intro i
  rw [putN_bit]
  by_cases hi : i < 64
  · unfold putF
    by_cases h : x ≤ i ∧ i < x + n
    · rw [if_pos h, getN_bit]
      have e : x + (i - x) = i := by omega
      have e2 : i - x < n := by omega
      rw [e]; simp [hi, e2]
    · rw [if_neg h, putN_bit]; unfold putF; rw [if_neg h]; simp [hi]
  · simp [hi]
    exact testBit_lt hw (i := i) (by omega)
theorem get_apart (w x n v y m : Nat) (hm : y + m ≤ 64) (h : x + n ≤ y ∨ y + m ≤ x) : getN (putN w x n v) y m = getN w y m := by
  apply Nat.eq_of_testBit_eq
  intro i
  rw [getN_bit, getN_bit, putN_bit]
  by_cases hi : i < m
  · unfold putF
    rw [if_neg (by omega)]
    have : y + i < 64 := by omega
    simp [hi, this]
  · simp [hi]

theorem pow_le64 {k : Nat} (h : k ≤ 64) : (2 : Nat) ^ k ≤ 18446744073709551616 := by
  have h2 : (2 : Nat) ^ k ≤ 2 ^ 64 := Nat.pow_le_pow_right (by decide) h
  have h3 : (2 : Nat) ^ 64 = 18446744073709551616 := by decide
  omega
theorem pow_lt64 {k : Nat} (h : k < 64) : (2 : Nat) ^ k < 18446744073709551616 := by
  have h2 : (2 : Nat) ^ k ≤ 2 ^ 63 := Nat.pow_le_pow_right (by decide) (by omega)
  have h3 : (2 : Nat) ^ 63 < 18446744073709551616 := by decide
  omega

/-! ### what the program's words come to -/
theorem cast_pow (k : Nat) : ((2 : Int) ^ k) = ((2 ^ k : Nat) : Int) := by simp
theorem mask_word (N : Nat) (h : N < 64) : IntKind.u64.wrap (IntKind.u64.wrap ((2 : Int) ^ N) - 1) = (((2 ^ N - 1 : Nat)) : Int) := by
  have h1 := pow_lt64 h
  have h2 : 0 < 2 ^ N := Nat.two_pow_pos _
  rw [IntKind.wrap_u64, IntKind.wrap_u64, cast_pow]
  omega
theorem get_word (W X N : Nat) (hW : W < 18446744073709551616) (hN : N ≤ 64) :
    bits .and .u64 ((W : Int) / 2 ^ X) ((2 ^ N - 1 : Nat) : Int) = ((getN W X N : Nat) : Int) := by
  have h1 := pow_le64 hN
  have h2 : W / 2 ^ X ≤ W := Nat.div_le_self _ _
  rw [cast_pow, ← Int.natCast_ediv, u64_and_nat _ _ (by omega) (by omega), Nat.and_two_pow_sub_one_eq_mod]
  rfl
theorem fits_word (V N : Nat) (hV : V < 18446744073709551616) (hN : N ≤ 64) :
    bits .andNot .u64 (V : Int) ((2 ^ N - 1 : Nat) : Int) = ((V &&& (18446744073709551615 - (2 ^ N - 1)) : Nat) : Int) := by
  have h1 := pow_le64 hN
  rw [u64_andNot_nat _ _ hV (by omega)]
theorem andNot_bit (M i : Nat) (hM : M < 18446744073709551616) : (18446744073709551615 - M).testBit i = (decide (i < 64) && !M.testBit i) := by
  have e : 18446744073709551615 - M = 2 ^ 64 - (M + 1) := by
    have h3 : (2 : Nat) ^ 64 = 18446744073709551616 := by decide
    omega
  rw [e, Nat.testBit_two_pow_sub_succ (by simpa using hM)]
theorem fits_zero (V N : Nat) (hV : V < 18446744073709551616) (hN : N ≤ 64) : (V &&& (18446744073709551615 - (2 ^ N - 1)) = 0) ↔ V < 2 ^ N := by
  have h1 := pow_le64 hN
  have h0 : 0 < 2 ^ N := Nat.two_pow_pos _
  have hM : 2 ^ N - 1 < 18446744073709551616 := by omega
  constructor
  · intro h
    apply Nat.lt_pow_two_of_testBit
    intro i hi
    by_cases h64 : i < 64
    · have hb : (V &&& (18446744073709551615 - (2 ^ N - 1))).testBit i = false := by rw [h]; simp
      rw [Nat.testBit_and, andNot_bit _ _ hM, Nat.testBit_two_pow_sub_one] at hb
      have : ¬ i < N := by omega
      simpa [h64, this] using hb
    · exact testBit_lt hV (by omega)
  · intro h
    apply Nat.eq_of_testBit_eq
    intro i
    rw [Nat.testBit_and, andNot_bit _ _ hM, Nat.testBit_two_pow_sub_one]
    by_cases hi : i < N
    · simp [hi]
    · have : V.testBit i = false := by
        apply Nat.testBit_lt_two_pow
        have : (2 : Nat) ^ N ≤ 2 ^ i := Nat.pow_le_pow_right (by decide) (by omega)
        omega
      simp [this]
theorem put_word (W X N V : Nat) (hW : W < 18446744073709551616) (hXN : X + N ≤ 64) (hV : V < 2 ^ N) :
    bits .or .u64 (bits .andNot .u64 (W : Int) (IntKind.u64.wrap (((2 ^ N - 1 : Nat) : Int) * 2 ^ X))) (IntKind.u64.wrap ((V : Int) * 2 ^ X)) = ((putN W X N V : Nat) : Int) := by
  have hp : 2 ^ X * 2 ^ N ≤ 18446744073709551616 := by rw [← Nat.pow_add]; exact pow_le64 hXN
  have hpX : 0 < 2 ^ X := Nat.two_pow_pos _
  have hpN : 0 < 2 ^ N := Nat.two_pow_pos _
  have hm : (2 ^ N - 1) * 2 ^ X < 18446744073709551616 := by
    have : (2 ^ N - 1) * 2 ^ X < 2 ^ N * 2 ^ X := Nat.mul_lt_mul_of_pos_right (by omega) hpX
    rw [Nat.mul_comm (2 ^ N)] at this
    omega
  have hv : V * 2 ^ X < 18446744073709551616 := by
    have : V * 2 ^ X < 2 ^ N * 2 ^ X := Nat.mul_lt_mul_of_pos_right hV hpX
    rw [Nat.mul_comm (2 ^ N)] at this
    omega
  rw [IntKind.wrap_u64, IntKind.wrap_u64, cast_pow, ← Int.natCast_mul, ← Int.natCast_mul]
  have e1 : (((2 ^ N - 1) * 2 ^ X : Nat) : Int) % 18446744073709551616 = (((2 ^ N - 1) * 2 ^ X : Nat) : Int) := by omega
  have e2 : ((V * 2 ^ X : Nat) : Int) % 18446744073709551616 = ((V * 2 ^ X : Nat) : Int) := by omega
  rw [e1, e2, u64_andNot_nat _ _ hW hm, u64_or_nat _ _ (by have := @Nat.and_le_left W (18446744073709551615 - (2 ^ N - 1) * 2 ^ X); omega) hv]
  congr 1
  apply Nat.eq_of_testBit_eq
  intro i
  rw [putN_bit, Nat.testBit_or, Nat.testBit_and, andNot_bit _ _ hm, Nat.testBit_mul_two_pow, Nat.testBit_mul_two_pow, Nat.testBit_two_pow_sub_one]
  unfold putF
  by_cases h64 : i < 64
  · by_cases h1 : X ≤ i
    · by_cases h2 : i < X + N
      · have h3 : i - X < N := by omega
        simp [h64, h1, h2, h3]
      · have h3 : ¬ i - X < N := by omega
        have : V.testBit (i - X) = false := by
          apply Nat.testBit_lt_two_pow
          have : (2 : Nat) ^ N ≤ 2 ^ (i - X) := Nat.pow_le_pow_right (by decide) (by omega)
          omega
        simp [h64, h1, h2, h3, this]
    · simp [h64, h1]
  · have hw := testBit_lt hW (i := i) (by omega)
    have : V.testBit (i - X) = false := by
      apply Nat.testBit_lt_two_pow
      have : (2 : Nat) ^ N ≤ 2 ^ (i - X) := Nat.pow_le_pow_right (by decide) (by omega)
      omega
    simp [h64, hw, this]

/-- a step of the reference's Get -/
theorem get_step (W X N k : Nat) (hk : k < N) : 2 * (W / 2 ^ (X + (N - k)) % 2 ^ k) + (W.testBit (X + (N - 1 - k))).toNat = W / 2 ^ (X + (N - (k + 1))) % 2 ^ (k + 1) := by
  have e : X + (N - k) = X + (N - (k + 1)) + 1 := by omega
  have e2 : X + (N - 1 - k) = X + (N - (k + 1)) := by omega
  rw [e, e2, Nat.pow_succ, ← Nat.div_div_eq_div_mul, Nat.toNat_testBit]
  generalize W / 2 ^ (X + (N - (k + 1))) = a
  rw [Nat.pow_succ, Nat.mul_comm (2 ^ k) 2, Nat.mod_mul]
  omega

/-! ### how many bits are 1 -/
def popF : Nat → Nat → Nat
  | 0, _ => 0
  | k + 1, w => w % 2 + popF k (w / 2)
theorem popF_zero : ∀ k, popF k 0 = 0 := by
  intro k; induction k with
  | zero => rfl
  | succ k ih => simp [popF, ih]
theorem popF_le : ∀ k w, popF k w ≤ k := by
  intro k; induction k with
  | zero => intro w; simp [popF]
  | succ k ih => intro w; have := ih (w / 2); simp only [popF]; omega
theorem and_pred_even (a : Nat) (h : 0 < a) : (2 * a) &&& (2 * a - 1) = 2 * (a &&& (a - 1)) := by
  apply Nat.eq_of_testBit_eq
  intro i
  cases i with
  | zero => simp [Nat.testBit_zero]
  | succ i =>
    rw [Nat.testBit_and, Nat.testBit_succ, Nat.testBit_succ, Nat.testBit_succ]
    have e1 : 2 * a / 2 = a := by omega
    have e2 : (2 * a - 1) / 2 = a - 1 := by omega
    have e3 : 2 * (a &&& (a - 1)) / 2 = a &&& (a - 1) := by omega
    rw [e1, e2, e3, Nat.testBit_and]
theorem and_pred_odd (a : Nat) : (2 * a + 1) &&& (2 * a + 1 - 1) = 2 * a := by
  apply Nat.eq_of_testBit_eq
  intro i
  cases i with
  | zero => simp [Nat.testBit_zero]
  | succ i =>
    rw [Nat.testBit_and, Nat.testBit_succ, Nat.testBit_succ]
    have e1 : (2 * a + 1) / 2 = a := by omega
    have e2 : (2 * a + 1 - 1) / 2 = a := by omega
    rw [e1, e2, Nat.testBit_succ]
    have e3 : 2 * a / 2 = a := by omega
    rw [e3]; simp
theorem and_pred_lt (w : Nat) (h : w ≠ 0) : w &&& (w - 1) < w := by
  have := @Nat.and_le_right w (w - 1); omega
theorem popF_pred : ∀ k w, w < 2 ^ k → w ≠ 0 → popF k (w &&& (w - 1)) + 1 = popF k w := by
  intro k
  induction k with
  | zero => intro w h1 h2; simp at h1; omega
  | succ k ih =>
    intro w h1 h2
    rw [Nat.pow_succ] at h1
    by_cases hp : w % 2 = 0
    · obtain ⟨a, rfl⟩ : ∃ a, w = 2 * a := ⟨w / 2, by omega⟩
      rw [and_pred_even a (by omega)]
      simp only [popF]
      have e1 : 2 * a / 2 = a := by omega
      have e3 : 2 * (a &&& (a - 1)) / 2 = a &&& (a - 1) := by omega
      have := ih a (by omega) (by omega)
      rw [e1, e3]
      omega
    · obtain ⟨a, rfl⟩ : ∃ a, w = 2 * a + 1 := ⟨w / 2, by omega⟩
      rw [and_pred_odd a]
      simp only [popF]
      have e1 : 2 * a / 2 = a := by omega
      have e3 : (2 * a + 1) / 2 = a := by omega
      rw [e1, e3]
      omega
theorem popF_step (W k : Nat) (hk : k < 64) : popF (64 - k) (W / 2 ^ k) = (W.testBit k).toNat + popF (64 - (k + 1)) (W / 2 ^ (k + 1)) := by
  have e : 64 - k = (64 - (k + 1)) + 1 := by omega
  rw [e]
  simp only [popF]
  rw [Nat.toNat_testBit, Nat.pow_succ, ← Nat.div_div_eq_div_mul]
theorem and_word (W : Nat) (hW : W < 18446744073709551616) (h : W ≠ 0) : bits .and .u64 (W : Int) ((W : Int) - 1) = ((W &&& (W - 1) : Nat) : Int) := by
  have e : ((W : Int) - 1) = ((W - 1 : Nat) : Int) := by omega
  rw [e, u64_and_nat _ _ hW (by omega)]

/-! ### the lowest and the highest bit -/
def lowF (w : Nat) : Nat → Int
  | 0 => -1
  | k + 1 => if w.testBit (63 - k) then ((63 - k : Nat) : Int) else lowF w k
def highF (w : Nat) : Nat → Int
  | 0 => -1
  | k + 1 => if w.testBit k then (k : Int) else highF w k
theorem lowF_bd (w : Nat) : ∀ k, -1 ≤ lowF w k ∧ lowF w k ≤ 63 := by
  intro k; induction k with
  | zero => simp [lowF]
  | succ k ih => unfold lowF; split <;> omega
theorem highF_bd (w : Nat) : ∀ k, k ≤ 64 → -1 ≤ highF w k ∧ highF w k ≤ 63 := by
  intro k; induction k with
  | zero => intro _; simp [highF]
  | succ k ih => intro h; have := ih (by omega); unfold highF; split <;> omega
theorem bit_word (W k : Nat) (hW : W < 18446744073709551616) : bits .and .u64 ((W : Int) / 2 ^ k) 1 = (((W.testBit k).toNat : Nat) : Int) := by
  have h2 : W / 2 ^ k ≤ W := Nat.div_le_self _ _
  rw [cast_pow, ← Int.natCast_ediv]
  rw [show (1 : Int) = ((1 : Nat) : Int) from rfl, u64_and_nat _ _ (by omega) (by omega), Nat.toNat_testBit, nat_mask1]
theorem pow_word (k : Nat) (h : k + 1 < 64) : IntKind.u64.wrap ((2 : Int) ^ k * 2) = 2 ^ (k + 1) := by
  have h1 := @pow_lt64 (k + 1) h
  rw [← Int.pow_succ, show k.succ = k + 1 from rfl, cast_pow, IntKind.wrap_u64]
  generalize 2 ^ (k + 1) = a at *
  omega
def bitN (w i : Nat) : Nat := (w.testBit i).toNat
theorem bitN_def (w i : Nat) : (w.testBit i).toNat = bitN w i := rfl
theorem bitN_eq (w i : Nat) : bitN w i = w / 2 ^ i % 2 := Nat.toNat_testBit w i
theorem bitN_lt (w i : Nat) : bitN w i < 2 := by rw [bitN_eq]; exact Nat.mod_lt _ (by decide)
theorem bitN_yes {w i : Nat} (h : w.testBit i = true) : bitN w i = 1 := by simp [bitN, h]
theorem bitN_no {w i : Nat} (h : ¬ w.testBit i = true) : bitN w i = 0 := by simp [bitN, h]
theorem bit_ref (W k : Nat) (hW : W < 18446744073709551616) : (IntKind.u64.wrap ((W : Int) / 2 ^ k)).tmod 2 = ((bitN W k : Nat) : Int) := by
  have h2 : W / 2 ^ k ≤ W := Nat.div_le_self _ _
  rw [IntKind.wrap_u64, cast_pow, ← Int.natCast_ediv, bitN_eq]
  generalize W / 2 ^ k = a at *
  have e : ((a : Nat) : Int) % 18446744073709551616 = (a : Int) := by omega
  rw [e, Int.tmod_eq_emod_of_nonneg (by omega)]
  omega
def accG (W X N k : Nat) : Nat := W / 2 ^ (X + (N - k)) % 2 ^ k
theorem accG_zero (W X N : Nat) : accG W X N 0 = 0 := by simp [accG, Nat.mod_one]
theorem accG_last (W X N : Nat) : accG W X N N = getN W X N := by simp [accG, getN]
theorem accG_lt (W X N k : Nat) : accG W X N k < 2 ^ k := Nat.mod_lt _ (Nat.two_pow_pos _)
theorem accG_step (W X N k : Nat) (hk : k < N) (hN : N ≤ 64) : IntKind.u64.wrap (IntKind.u64.wrap (2 * ((accG W X N k : Nat) : Int)) + ((bitN W (X + (N - 1 - k)) : Nat) : Int)) = ((accG W X N (k + 1) : Nat) : Int) := by
  have h1 := accG_lt W X N (k + 1)
  have h2 := @pow_le64 (k + 1) (by omega)
  have h3 := get_step W X N k hk
  have h4 : 2 * accG W X N k + bitN W (X + (N - 1 - k)) = accG W X N (k + 1) := h3
  rw [IntKind.wrap_u64, IntKind.wrap_u64, ← h4]
  omega
theorem accB_step (f : Nat → Bool) (k : Nat) (hk : k < 64) : IntKind.u64.wrap (IntKind.u64.wrap (2 * ((accB f k : Nat) : Int)) + (((f (63 - k)).toNat : Nat) : Int)) = ((accB f (k + 1) : Nat) : Int) := by
  have h1 := accB_lt64 f (k + 1) (by omega)
  have h4 : 2 * accB f k + (f (63 - k)).toNat = accB f (k + 1) := rfl
  rw [IntKind.wrap_u64, IntKind.wrap_u64, ← h4]
  omega
theorem popF_nil (w : Nat) : popF 0 w = 0 := rfl
theorem accB_nil (f : Nat → Bool) : accB f 0 = 0 := rfl
theorem lowF_nil (w : Nat) : lowF w 0 = -1 := rfl
theorem highF_nil (w : Nat) : highF w 0 = -1 := rfl
theorem lowF_yes (w k : Nat) (h : w.testBit (63 - k) = true) : lowF w (k + 1) = ((63 - k : Nat) : Int) := by simp [lowF, h]
theorem lowF_no (w k : Nat) (h : ¬ w.testBit (63 - k) = true) : lowF w (k + 1) = lowF w k := by simp [lowF, h]
theorem highF_yes (w k : Nat) (h : w.testBit k = true) : highF w (k + 1) = (k : Int) := by simp [highF, h]
theorem highF_no (w k : Nat) (h : ¬ w.testBit k = true) : highF w (k + 1) = highF w k := by simp [highF, h]
theorem putN_def (w x n v : Nat) : putN w x n v = accB (putF w x n v) 64 := rfl
attribute [irreducible] popF accB lowF highF putN getN bitN accG
end Go.Proofs.Ytcljgphipdbckaa
