/- Plain laws of layer 1 (word): digits. -/
import Derived.Test.YtcljgphipdbckaaP01
import Derived.Laws.Entries
namespace Go.Proofs.Ytcljgphipdbckaa

/-- the digit of a number below 16 -/
def dg (d : Nat) : UInt8 := if d < 10 then UInt8.ofNat (48 + d) else UInt8.ofNat (87 + d)
/-- the i-th digit of a word, the highest first -/
def hexd (w i : Nat) : Nat := w / 2 ^ (4 * (15 - i)) % 16
theorem hexd_lt (w i : Nat) : hexd w i < 16 := Nat.mod_lt _ (by decide)
def hexL (w : Nat) : List UInt8 := (List.range 16).map fun i => dg (hexd w i)
theorem hexL_length (w : Nat) : (hexL w).length = 16 := by simp [hexL]
theorem hexL_get (w i : Nat) (h : i < (hexL w).length) : (hexL w)[i] = dg (hexd w i) := by simp [hexL]
/-- the array of digits as it stands behind k rounds -/
def hexA (w k : Nat) : Array Value := ((List.range 16).map fun i => if i < k then Value.int .u8 ((dg (hexd w i)).toNat : Int) else Value.int .u8 0).toArray
theorem hexA_size (w k : Nat) : (hexA w k).size = 16 := by simp [hexA]
theorem hexA_get (w k i : Nat) (h : i < 16) : (hexA w k)[i]? = some (if i < k then Value.int .u8 ((dg (hexd w i)).toNat : Int) else Value.int .u8 0) := by
  simp [hexA, h]
theorem hexA_zero (w : Nat) : hexA w 0 = #[.int .u8 0, .int .u8 0, .int .u8 0, .int .u8 0, .int .u8 0, .int .u8 0, .int .u8 0, .int .u8 0, .int .u8 0, .int .u8 0, .int .u8 0, .int .u8 0, .int .u8 0, .int .u8 0, .int .u8 0, .int .u8 0] := by
  simp [hexA, List.range_succ]
theorem hexA_step (w k : Nat) (x : Int) (hx : x = ((dg (hexd w k)).toNat : Int)) : (hexA w k).setIfInBounds k (.int .u8 x) = hexA w (k + 1) := by
  apply Array.ext
  · rw [Array.size_setIfInBounds, hexA_size, hexA_size]
  · intro i h1 h2
    rw [hexA_size] at h2
    have e1 := hexA_get w k i h2
    have e2 := hexA_get w (k + 1) i h2
    have h3 : i < (hexA w k).size := by rw [hexA_size]; exact h2
    have h4 : i < (hexA w (k + 1)).size := by rw [hexA_size]; exact h2
    rw [Array.getElem?_eq_getElem h3, Option.some.injEq] at e1
    rw [Array.getElem?_eq_getElem h4, Option.some.injEq] at e2
    rw [Array.getElem_setIfInBounds, e2, e1]
    · by_cases e : k = i
      · rw [if_pos e, if_pos (by omega), hx, e]
      · rw [if_neg e]
        by_cases h : i < k
        · rw [if_pos h, if_pos (by omega)]
        · rw [if_neg h, if_neg (by omega)]
    · exact h3
theorem hex_and (W k : Nat) (hW : W < 18446744073709551616) : bits .and .u64 ((W : Int) / 2 ^ (4 * (15 - k))) 15 = ((hexd W k : Nat) : Int) := by
  have h2 : W / 2 ^ (4 * (15 - k)) ≤ W := Nat.div_le_self _ _
  rw [cast_pow, ← Int.natCast_ediv]
  rw [show (15 : Int) = ((15 : Nat) : Int) from rfl, u64_and_nat _ _ (by omega) (by omega), nat_mask4]
  rfl
def digS : ByteArray := ⟨#[48, 49, 50, 51, 52, 53, 54, 55, 56, 57, 97, 98, 99, 100, 101, 102]⟩
theorem digS_get : ∀ d : Nat, ∀ h : d < digS.size, digS[d] = dg d := by
  intro d h
  have h' : d < 16 := h
  have : d = 0 ∨ d = 1 ∨ d = 2 ∨ d = 3 ∨ d = 4 ∨ d = 5 ∨ d = 6 ∨ d = 7 ∨ d = 8 ∨ d = 9 ∨ d = 10 ∨ d = 11 ∨ d = 12 ∨ d = 13 ∨ d = 14 ∨ d = 15 := by omega
  rcases this with rfl | rfl | rfl | rfl | rfl | rfl | rfl | rfl | rfl | rfl | rfl | rfl | rfl | rfl | rfl | rfl <;> rfl

theorem hexd_at (V k : Nat) (hk : k < 16) : hexd V (15 - k) = V / 2 ^ (4 * k) % 16 := by
  unfold hexd; rw [show 15 - (15 - k) = k by omega]
theorem hexL_drop (V k : Nat) (hk : k < 16) : (hexL V).drop (16 - (k + 1)) = dg (V / 2 ^ (4 * k) % 16) :: (hexL V).drop (16 - k) := by
  have h : 16 - (k + 1) < (hexL V).length := by rw [hexL_length]; omega
  rw [List.drop_eq_getElem_cons h, hexL_get, show 16 - (k + 1) = 15 - k by omega, hexd_at V k hk, show 15 - k + 1 = 16 - k by omega]
theorem next_hex (V k : Nat) : V / 2 ^ (4 * k) / 16 = V / 2 ^ (4 * (k + 1)) := by
  rw [Nat.div_div_eq_div_mul, show 4 * (k + 1) = 4 * k + 4 by omega, Nat.pow_add]
theorem digS_extract (d : Nat) (hd : d < 16) (l : List UInt8) : digS.extract d (d + 1) ++ (⟨l.toArray⟩ : ByteArray) = ⟨(dg d :: l).toArray⟩ := by
  have : digS.extract d (d + 1) = ⟨#[dg d]⟩ := by
    have : d = 0 ∨ d = 1 ∨ d = 2 ∨ d = 3 ∨ d = 4 ∨ d = 5 ∨ d = 6 ∨ d = 7 ∨ d = 8 ∨ d = 9 ∨ d = 10 ∨ d = 11 ∨ d = 12 ∨ d = 13 ∨ d = 14 ∨ d = 15 := by omega
    rcases this with rfl | rfl | rfl | rfl | rfl | rfl | rfl | rfl | rfl | rfl | rfl | rfl | rfl | rfl | rfl | rfl <;> decide +kernel
  rw [this]
  apply ByteArray.ext
  simp

/-! ### a word that is read -/
/-- the number that a digit tells; below 0: none -/
def undig (c : UInt8) : Int := if 48 ≤ c.toNat ∧ c.toNat ≤ 57 then (c.toNat : Int) - 48 else if 97 ≤ c.toNat ∧ c.toNat ≤ 102 then (c.toNat : Int) - 87 else -1
theorem undig_bd (c : UInt8) : -1 ≤ undig c ∧ undig c < 16 := by
  unfold undig; split
  · omega
  · split <;> omega
theorem undig_dg (d : Nat) (hd : d < 16) : undig (dg d) = d := by
  have : d = 0 ∨ d = 1 ∨ d = 2 ∨ d = 3 ∨ d = 4 ∨ d = 5 ∨ d = 6 ∨ d = 7 ∨ d = 8 ∨ d = 9 ∨ d = 10 ∨ d = 11 ∨ d = 12 ∨ d = 13 ∨ d = 14 ∨ d = 15 := by omega
  rcases this with rfl | rfl | rfl | rfl | rfl | rfl | rfl | rfl | rfl | rfl | rfl | rfl | rfl | rfl | rfl | rfl <;> rfl
theorem dg_undig (c : UInt8) (d : Nat) (hd : d < 16) : undig c = d ↔ dg d = c := by
  constructor
  · intro h
    have h1 : (dg d).toNat = c.toNat := by
      unfold undig at h
      unfold dg
      split at h
      · rw [if_pos (by omega), UInt8.toNat_ofNat']; omega
      · split at h
        · rw [if_neg (by omega), UInt8.toNat_ofNat']; omega
        · omega
    exact UInt8.toNat_inj.1 h1
  · intro h; rw [← h]; exact undig_dg d hd
def readF : List UInt8 → Nat → Option Nat
  | [], w => some w
  | c :: l, w => if undig c < 0 then none else readF l (w * 16 + (undig c).toNat)
def rdO (s : ByteArray) : Option Nat := if s.size = 16 then readF s.data.toList 0 else none
def rdW (s : ByteArray) : Int := match rdO s with
  | some w => (w : Int)
  | none => 0
def rdE (s : ByteArray) : Int := match rdO s with
  | some _ => 0
  | none => 4
theorem rd_some {s : ByteArray} {w : Nat} (h : rdO s = some w) : rdW s = w ∧ rdE s = 0 := by simp [rdW, rdE, h]
theorem rd_none {s : ByteArray} (h : rdO s = none) : rdW s = 0 ∧ rdE s = 4 := by simp [rdW, rdE, h]
theorem readF_drop (s : ByteArray) (k : Nat) (hk : k < s.size) (w : Nat) : readF (s.data.toList.drop k) w = if undig s[k] < 0 then none else readF (s.data.toList.drop (k + 1)) (w * 16 + (undig s[k]).toNat) := by
  have h : k < s.data.toList.length := by simpa using hk
  rw [List.drop_eq_getElem_cons h]
  rfl
theorem readF_end (s : ByteArray) (w : Nat) (hs : s.size ≤ 16) : readF (s.data.toList.drop 16) w = some w := by
  rw [List.drop_of_length_le (by simpa using hs)]; rfl
theorem readF_hex (l : List Nat) (h : ∀ d ∈ l, d < 16) : ∀ w, readF (l.map dg) w = some (l.foldl (fun a d => a * 16 + d) w) := by
  induction l with
  | nil => intro w; rfl
  | cons d l ih =>
    intro w
    have hd := h d (by simp)
    simp only [List.map_cons, readF, List.foldl_cons]
    rw [undig_dg d hd, if_neg (by omega), Int.toNat_natCast]
    exact ih (fun d' hd' => h d' (by simp [hd'])) _
theorem fold_hex (V : Nat) : ∀ k, k ≤ 16 → ((List.range k).map fun i => V / 2 ^ (4 * (15 - i)) % 16).foldl (fun a d => a * 16 + d) 0 = V / 2 ^ (4 * (16 - k)) % 2 ^ (4 * k) := by
  intro k
  induction k with
  | zero => intro _; simp [Nat.mod_one]
  | succ k ih =>
    intro hk
    rw [List.range_succ, List.map_append, List.foldl_append, ih (by omega)]
    simp only [List.map_cons, List.map_nil, List.foldl_cons, List.foldl_nil]
    have e : 16 - k = (16 - (k + 1)) + 1 := by omega
    have e2 : 15 - k = 16 - (k + 1) := by omega
    rw [e2, e, ← next_hex]
    generalize V / 2 ^ (4 * (16 - (k + 1))) = a
    rw [show 4 * (k + 1) = 4 + 4 * k by omega, Nat.pow_add, show (2 : Nat) ^ 4 = 16 from rfl, Nat.mod_mul]
    omega
theorem rdO_hex (V : Nat) (hV : V < 18446744073709551616) : rdO ⟨(hexL V).toArray⟩ = some V := by
  have hs : (⟨(hexL V).toArray⟩ : ByteArray).size = 16 := by
    show (hexL V).toArray.size = 16
    rw [List.size_toArray, hexL_length]
  unfold rdO
  rw [if_pos hs]
  show readF (hexL V).toArray.toList 0 = some V
  have e : (hexL V).toArray.toList = ((List.range 16).map fun i => V / 2 ^ (4 * (15 - i)) % 16).map dg := by
    rw [List.toList_toArray]; unfold hexL hexd; rw [List.map_map]; rfl
  rw [e, readF_hex _ (by
    intro d hd
    rw [List.mem_map] at hd
    obtain ⟨i, _, rfl⟩ := hd
    exact Nat.mod_lt _ (by decide)), fold_hex V 16 (Nat.le_refl _)]
  congr 1
  have : (2 : Nat) ^ (4 * 16) = 18446744073709551616 := by decide
  rw [this]
  simp only [Nat.sub_self, Nat.mul_zero, Nat.pow_zero, Nat.div_one]
  exact Nat.mod_eq_of_lt hV
theorem or_word (U d : Nat) (hd : d < 16) (hU : U * 16 + d < 18446744073709551616) : bits .or .u64 ((U : Int) * 16) (d : Int) = ((U * 16 + d : Nat) : Int) := by
  have e : ((U : Int) * 16) = ((U * 16 : Nat) : Int) := by omega
  rw [e, u64_or_nat _ _ (by omega) (by omega), nat_join 4 (U * 16) d (by omega) (by omega)]
theorem pow16 (k : Nat) (h : k < 16) : 16 ^ k ≤ 1152921504606846976 := by
  have h2 : (16 : Nat) ^ k ≤ 16 ^ 15 := Nat.pow_le_pow_right (by decide) (by omega)
  have h3 : (16 : Nat) ^ 15 = 1152921504606846976 := by decide
  omega
theorem undig_num {c : UInt8} (h1 : 48 ≤ c.toNat) (h2 : c.toNat ≤ 57) : undig c = (c.toNat : Int) - 48 := by unfold undig; rw [if_pos ⟨h1, h2⟩]
theorem undig_let {c : UInt8} (h1 : 97 ≤ c.toNat) (h2 : c.toNat ≤ 102) : undig c = (c.toNat : Int) - 87 := by unfold undig; rw [if_neg (by omega), if_pos ⟨h1, h2⟩]
theorem undig_none {c : UInt8} (h1 : ¬ (48 ≤ c.toNat ∧ c.toNat ≤ 57)) (h2 : ¬ (97 ≤ c.toNat ∧ c.toNat ≤ 102)) : undig c = -1 := by unfold undig; rw [if_neg h1, if_neg h2]
/-- the number of a digit as it is known behind k of the sixteen -/
def dAt (c : UInt8) (k : Nat) : Int := if undig c < k then undig c else -1
theorem dAt_zero (c : UInt8) : dAt c 0 = -1 := by have := undig_bd c; unfold dAt; split <;> omega
theorem dAt_last (c : UInt8) : dAt c 16 = undig c := by have := undig_bd c; unfold dAt; rw [if_pos (by omega)]
theorem dAt_yes (c : UInt8) (k : Nat) (hk : k < 16) (h : dg k = c) : dAt c (k + 1) = k := by
  have := (dg_undig c k hk).2 h
  unfold dAt; rw [if_pos (by omega), this]
theorem dAt_no (c : UInt8) (k : Nat) (hk : k < 16) (h : ¬ dg k = c) : dAt c (k + 1) = dAt c k := by
  have h1 : ¬ undig c = k := fun e => h ((dg_undig c k hk).1 e)
  unfold dAt
  by_cases h2 : undig c < k
  · rw [if_pos (by omega), if_pos h2]
  · rw [if_neg (by omega), if_neg h2]
theorem dig_beq (k : Nat) (hk : k < 16) (c : UInt8) : ((((⟨#[48, 49, 50, 51, 52, 53, 54, 55, 56, 57, 97, 98, 99, 100, 101, 102]⟩ : ByteArray)[k]'hk).toNat : Int) == (c.toNat : Int)) = decide (dg k = c) := by
  have e : (⟨#[48, 49, 50, 51, 52, 53, 54, 55, 56, 57, 97, 98, 99, 100, 101, 102]⟩ : ByteArray)[k]'hk = dg k := digS_get k hk
  rw [e]
  by_cases h : dg k = c
  · subst h; simp
  · have h2 : ¬ (dg k).toNat = c.toNat := fun e => h (UInt8.toNat_inj.1 e)
    rw [decide_eq_false h, beq_eq_false_iff_ne]
    omega
attribute [irreducible] dAt
attribute [irreducible] hexA hexd hexL dg undig readF rdO rdW rdE
end Go.Proofs.Ytcljgphipdbckaa
