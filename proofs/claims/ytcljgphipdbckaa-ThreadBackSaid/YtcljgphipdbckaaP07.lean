/- Plain laws of layers 6 and 7: values and headers as words. -/
import Derived.Test.YtcljgphipdbckaaP01
namespace Go.Proofs.Ytcljgphipdbckaa

/-! ### values -/
/-- may a value be? -/
def valB (k x : Int) : Bool := (decide (k = 0) && decide (x = 0)) || (decide (k = 1) && decide (-2305843009213693952 ≤ x) && decide (x ≤ 2305843009213693951)) || (decide (k = 2) && decide (0 ≤ x) && decide (x ≤ 1099511627776))
def valW (k x : Int) : Int := if valB k x then (4 * x + k) % 18446744073709551616 else 0
def valE (k x : Int) : Int := if valB k x then 0 else 1
/-- is a word a value's? -/
def decB (w : Int) : Bool := decide (w = 0) || decide (w % 4 = 1) || (decide (w % 4 = 2) && decide (w / 4 ≤ 1099511627776))
def decK (w : Int) : Int := if decB w then w % 4 else 0
def decX (w : Int) : Int := if decB w then (if w % 4 = 1 then (if w / 4 < 2305843009213693952 then w / 4 else w / 4 - 4611686018427387904) else w / 4) else 0
def decE (w : Int) : Int := if decB w then 0 else 3
def refB (w : Int) : Bool := decide (w % 4 = 2) && decide (w / 4 ≤ 1099511627776)
def refV (w : Int) : Int := if refB w then w / 4 else 0

theorem valB_cases {k x : Int} (h : valB k x = true) : k = 0 ∧ x = 0 ∨ k = 1 ∧ -2305843009213693952 ≤ x ∧ x ≤ 2305843009213693951 ∨ k = 2 ∧ 0 ≤ x ∧ x ≤ 1099511627776 := by
  simp [valB] at h; omega
theorem valB_mk {k x : Int} (h : k = 0 ∧ x = 0 ∨ k = 1 ∧ -2305843009213693952 ≤ x ∧ x ≤ 2305843009213693951 ∨ k = 2 ∧ 0 ≤ x ∧ x ≤ 1099511627776) : valB k x = true := by
  simp [valB]; omega
theorem valB_not {k x : Int} (h : ¬ (k = 0 ∧ x = 0 ∨ k = 1 ∧ -2305843009213693952 ≤ x ∧ x ≤ 2305843009213693951 ∨ k = 2 ∧ 0 ≤ x ∧ x ≤ 1099511627776)) : valB k x = false := by
  cases hb : valB k x with
  | false => rfl
  | true => exact absurd (valB_cases hb) h
theorem valW_u (k x : Int) : U64 (valW k x) := by
  unfold valW U64; split <;> omega
theorem decB_iff (w : Int) : decB w = true ↔ (w = 0 ∨ w % 4 = 1 ∨ w % 4 = 2 ∧ w / 4 ≤ 1099511627776) := by
  simp [decB]; omega
theorem refB_iff (w : Int) : refB w = true ↔ (w % 4 = 2 ∧ w / 4 ≤ 1099511627776) := by simp [refB]

/-! ### headers -/
structure Hd where
  kind : Int
  fields : Int
  raws : Int
  mark : Bool
  cursor : Int
deriving DecidableEq
def Hd.none_ : Hd := ⟨0, 0, 0, false, 0⟩
def mayB (h : Hd) : Bool := decide (0 ≤ h.kind) && decide (h.kind ≤ 31) && decide (0 ≤ h.fields) && decide (h.fields ≤ 4096) && decide (0 ≤ h.raws) && decide (h.raws ≤ 4096) && decide (0 ≤ h.cursor) && decide (h.cursor ≤ 1048576)
theorem mayB_iff (h : Hd) : mayB h = true ↔ (0 ≤ h.kind ∧ h.kind ≤ 31 ∧ 0 ≤ h.fields ∧ h.fields ≤ 4096 ∧ 0 ≤ h.raws ∧ h.raws ≤ 4096 ∧ 0 ≤ h.cursor ∧ h.cursor ≤ 1048576) := by
  simp [mayB]; omega
def mk (b : Bool) : Int := if b then 1 else 0
theorem mk_bd (b : Bool) : 0 ≤ mk b ∧ mk b ≤ 1 := by cases b <;> simp [mk]
def encI (h : Hd) : Int := 3 + 4 * mk h.mark + 8 * h.kind + 256 * h.fields + 16777216 * h.raws + 1099511627776 * h.cursor
def encW (h : Hd) : Int := if mayB h then encI h else 0
def encE (h : Hd) : Int := if mayB h then 0 else 1
def sizeI (h : Hd) : Int := if mayB h then 1 + h.fields + h.raws else 0
/-- the numbers that a word's parts are -/
def bitsH (w : Int) : Hd := ⟨w / 8 % 32, w / 256 % 65536, w / 16777216 % 65536, decide (w / 4 % 2 = 1), w / 1099511627776⟩
def hdB (w : Int) : Bool := decide (w % 4 = 3) && mayB (bitsH w)
def hdH (w : Int) : Hd := if hdB w then bitsH w else Hd.none_
def hdE (w : Int) : Int := if hdB w then 0 else 3

theorem encI_bd {h : Hd} (hm : mayB h = true) : 0 ≤ encI h ∧ encI h < 18446744073709551616 := by
  have h1 := (mayB_iff h).1 hm
  have h2 := mk_bd h.mark
  unfold encI; omega
theorem encW_u (h : Hd) : U64 (encW h) := by
  unfold encW; split
  · rename_i hm; exact encI_bd hm
  · exact ⟨by decide, by decide⟩
/-- the word of what a word's parts are -/
theorem encI_bits (w : Int) (_h0 : 0 ≤ w) : encI (bitsH w) = w - w % 4 + 3 := by
  have hb : mk (decide (w / 4 % 2 = 1)) = w / 4 % 2 := by
    by_cases h : w / 4 % 2 = 1
    · simp [mk, h]
    · simp [mk, h]; omega
  simp only [encI, bitsH, hb]
  omega
theorem bits_enc (h : Hd) (hm : mayB h = true) : bitsH (encI h) = h := by
  have h1 := (mayB_iff h).1 hm
  have h2 := mk_bd h.mark
  obtain ⟨k, f, r, m, c⟩ := h
  simp only at h1 h2
  have e1 : encI ⟨k, f, r, m, c⟩ / 8 % 32 = k := by simp only [encI]; omega
  have e2 : encI ⟨k, f, r, m, c⟩ / 256 % 65536 = f := by simp only [encI]; omega
  have e3 : encI ⟨k, f, r, m, c⟩ / 16777216 % 65536 = r := by simp only [encI]; omega
  have e4 : encI ⟨k, f, r, m, c⟩ / 1099511627776 = c := by simp only [encI]; omega
  have e5 : encI ⟨k, f, r, m, c⟩ / 4 % 2 = mk m := by simp only [encI]; omega
  unfold bitsH
  rw [e1, e2, e3, e4, e5]
  cases m <;> simp [mk]
theorem encI_tag (h : Hd) : encI h % 4 = 3 := by unfold encI; omega
theorem hd_enc {h : Hd} (hm : mayB h = true) : hdB (encI h) = true ∧ hdH (encI h) = h := by
  have : hdB (encI h) = true := by unfold hdB; rw [bits_enc h hm, encI_tag, hm]; rfl
  exact ⟨this, by unfold hdH; rw [this, bits_enc h hm]; rfl⟩
theorem hdB_iff (w : Int) : hdB w = true ↔ w % 4 = 3 ∧ mayB (bitsH w) = true := by simp [hdB]
theorem enc_hd {w : Int} (h0 : 0 ≤ w) (h : hdB w = true) : encI (hdH w) = w ∧ mayB (hdH w) = true := by
  have h2 := (hdB_iff w).1 h
  have : hdH w = bitsH w := by unfold hdH; rw [h]; rfl
  rw [this, encI_bits w h0]
  exact ⟨by omega, h2.2⟩
theorem enc_inj {a b : Hd} (ha : mayB a = true) (hb : mayB b = true) : encI a = encI b ↔ a = b := by
  constructor
  · intro h; rw [← bits_enc a ha, ← bits_enc b hb, h]
  · intro h; rw [h]
/-- what the program's Dec asks: that the word of the parts is the word -/
theorem hdB_back (w : Int) (h0 : 0 ≤ w) : hdB w = (mayB (bitsH w) && decide (encI (bitsH w) = w)) := by
  rw [encI_bits w h0]
  cases hm : mayB (bitsH w) with
  | false => simp [hdB, hm]
  | true =>
    simp only [hdB, hm, Bool.and_true, Bool.true_and]
    by_cases h : w % 4 = 3
    · rw [decide_eq_true h, decide_eq_true (by omega)]
    · rw [decide_eq_false h, decide_eq_false (by omega)]
/-- a word is never both a header's and a value's -/
theorem apart_word (w : Int) (h : hdB w = true) : decB w = false := by
  have h2 := ((hdB_iff w).1 h).1
  cases hb : decB w with
  | false => rfl
  | true => rw [decB_iff] at hb; omega

/-! ### parts put one behind the other -/
theorem putN_low (w x n v : Nat) (hw : w < 2 ^ x) (hx : x + n ≤ 64) (hv : v < 2 ^ n) : putN w x n v = w + v * 2 ^ x := by
  have e : w + v * 2 ^ x = 2 ^ x * v + w := by rw [Nat.mul_comm]; omega
  rw [e]
  apply Nat.eq_of_testBit_eq
  intro i
  rw [putN_bit, Nat.testBit_two_pow_mul_add _ hw]
  unfold putF
  by_cases h1 : i < x
  · rw [if_neg (by omega), if_pos h1]
    have : i < 64 := by omega
    simp [this]
  · rw [if_neg h1]
    by_cases h2 : i < x + n
    · rw [if_pos (by omega)]
      have : i < 64 := by omega
      simp [this]
    · rw [if_neg (by omega)]
      have h3 : v.testBit (i - x) = false := by
        apply Nat.testBit_lt_two_pow
        have : (2 : Nat) ^ n ≤ 2 ^ (i - x) := Nat.pow_le_pow_right (by decide) (by omega)
        omega
      have h4 : w.testBit i = false := by
        apply Nat.testBit_lt_two_pow
        have : (2 : Nat) ^ x ≤ 2 ^ i := Nat.pow_le_pow_right (by decide) (by omega)
        omega
      rw [h3, h4]; simp
attribute [irreducible] valB valW valE decB decK decX decE refB refV mayB encI encW encE sizeI bitsH hdB hdH hdE
end Go.Proofs.Ytcljgphipdbckaa
