/- Plain laws of layer 14: what tables come to. -/
import Derived.Test.YtcljgphipdbckaaW14b
import Derived.IntWalk
namespace Go.Proofs.Ytcljgphipdbckaa
set_option linter.unusedVariables false
set_option linter.unusedSimpArgs false

/-- is h a handle of a slot? Then of the slot h % 1024. -/
def fndB (ss : List Slot) (h : Int) : Bool :=
  decide (0 ≤ h) && decide ((h % 1024).toNat < ss.length) && (slot ss (h % 1024).toNat).used && goodN (slot ss (h % 1024).toNat).gen && decide ((slot ss (h % 1024).toNat).gen = h / 1024)
def fndI (ss : List Slot) (h : Int) : Int := if fndB ss h then h % 1024 else 0
def fndE (ss : List Slot) (h : Int) : Int := if fndB ss h then 0 else 5
theorem fnd_no {ss : List Slot} {h : Int} (hf : fndB ss h = false) : fndI ss h = 0 ∧ fndE ss h = 5 := by unfold fndI fndE; rw [hf]; exact ⟨rfl, rfl⟩
theorem fnd_yes {ss : List Slot} {h : Int} (hf : fndB ss h = true) : fndI ss h = h % 1024 ∧ fndE ss h = 0 := by unfold fndI fndE; rw [hf]; exact ⟨rfl, rfl⟩
theorem fnd_neg {ss : List Slot} {h : Int} (h0 : h < 0) : fndB ss h = false := by
  unfold fndB; rw [show decide (0 ≤ h) = false by simp; omega]; rfl
theorem nat_mod (H : Nat) : ((H : Int) % 1024).toNat = H % 1024 := by omega
theorem fnd_nat (ss : List Slot) (H : Nat) : fndB ss H = (decide (H % 1024 < ss.length) && (slot ss (H % 1024)).used && goodN (slot ss (H % 1024)).gen && decide ((slot ss (H % 1024)).gen = ((H / 1024 : Nat) : Int))) := by
  unfold fndB
  rw [nat_mod, show decide (0 ≤ (H : Int)) = true by simp]
  simp
theorem goodN_iff (g : Int) : goodN g = true ↔ 0 ≤ g ∧ g < 1099511627776 := by simp [goodN]

/-- is h the handle of slot j? -/
def hit (ss : List Slot) (h : Int) (j : Nat) : Bool := (slot ss j).used && goodN (slot ss j).gen && decide (h = j + 1024 * (slot ss j).gen)
theorem hit_iff (ss : List Slot) (h : Int) (j : Nat) : hit ss h j = true ↔ (slot ss j).used = true ∧ goodN (slot ss j).gen = true ∧ h = j + 1024 * (slot ss j).gen := by simp [hit, and_assoc]
theorem fnd_iff (ss : List Slot) (h : Int) : fndB ss h = true ↔ ∃ K : Nat, K < ss.length ∧ K < 1024 ∧ (h % 1024 = K) ∧ hit ss h K = true := by
  constructor
  · intro hf
    unfold fndB at hf
    simp only [Bool.and_eq_true, decide_eq_true_eq] at hf
    obtain ⟨⟨⟨⟨h0, h1⟩, h2⟩, h3⟩, h4⟩ := hf
    refine ⟨(h % 1024).toNat, h1, by omega, by omega, (hit_iff _ _ _).2 ⟨h2, h3, ?_⟩⟩
    omega
  · rintro ⟨K, k1, k2, k3, k4⟩
    obtain ⟨h2, h3, h4⟩ := (hit_iff _ _ _).1 k4
    have g := (goodN_iff _).1 h3
    have e : (h % 1024).toNat = K := by omega
    unfold fndB
    rw [e, h2, h3]
    simp only [Bool.and_eq_true, decide_eq_true_eq, Bool.and_true]
    refine ⟨⟨by omega, k1⟩, by omega⟩
theorem fnd_hit {ss : List Slot} {h : Int} {K : Nat} (k1 : K < ss.length) (k2 : K < 1024) (hh : hit ss h K = true) : fndB ss h = true ∧ fndI ss h = K ∧ fndE ss h = 0 := by
  obtain ⟨h2, h3, h4⟩ := (hit_iff _ _ _).1 hh
  have g := (goodN_iff _).1 h3
  have hf := (fnd_iff ss h).2 ⟨K, k1, k2, by omega, hh⟩
  exact ⟨hf, by rw [(fnd_yes hf).1]; omega, (fnd_yes hf).2⟩
theorem fnd_none {ss : List Slot} {h : Int} (hn : ∀ j, j < ss.length → j < 1024 → hit ss h j = false) : fndB ss h = false := by
  cases hf : fndB ss h with
  | false => rfl
  | true =>
    obtain ⟨K, k1, k2, _, k4⟩ := (fnd_iff ss h).1 hf
    rw [hn K k1 k2] at k4; cases k4
/-- the reference's place -/
def rfnd (ss : List Slot) (h : Int) : Int := if fndB ss h then h % 1024 else -1
theorem rfnd_cases (ss : List Slot) (h : Int) : fndB ss h = false ∧ rfnd ss h = -1 ∧ fndI ss h = 0 ∧ fndE ss h = 5 ∨ ∃ K : Nat, K < ss.length ∧ fndB ss h = true ∧ rfnd ss h = K ∧ fndI ss h = K ∧ fndE ss h = 0 ∧ hit ss h K = true := by
  cases hf : fndB ss h with
  | false => exact .inl ⟨rfl, by unfold rfnd; rw [hf]; rfl, (fnd_no hf).1, (fnd_no hf).2⟩
  | true =>
    obtain ⟨K, k1, k2, k3, k4⟩ := (fnd_iff ss h).1 hf
    refine .inr ⟨K, k1, rfl, by unfold rfnd; rw [hf]; simpa using k3, by rw [(fnd_yes hf).1, k3], (fnd_yes hf).2, k4⟩

/-! ### what deeds come to -/
def getW (ss : List Slot) (h : Int) : Int := if fndB ss h then (slot ss (fndI ss h).toNat).word else 0
def setL (ss : List Slot) (h x : Int) : List Slot := if fndB ss h then ss.set (fndI ss h).toNat { slot ss (fndI ss h).toNat with word := x } else ss
def dropL (ss : List Slot) (h : Int) : List Slot := if fndB ss h then ss.set (fndI ss h).toNat ⟨false, (slot ss (fndI ss h).toNat).gen + 1, 0⟩ else ss
/-- the slot that is put into: -1 -/
def putI (ss : List Slot) : Int := idxI freeS (ss.take 1024)
def putL (ss : List Slot) (x : Int) : List Slot := if putI ss < 0 then ss else ss.set (putI ss).toNat ⟨true, (slot ss (putI ss).toNat).gen, x⟩
def putH (ss : List Slot) : Int := if putI ss < 0 then 0 else putI ss + 1024 * (slot ss (putI ss).toNat).gen
def putE (ss : List Slot) : Int := if putI ss < 0 then 8 else 0
theorem freeS_iff (s : Slot) : freeS s = true ↔ s.used = false ∧ 0 ≤ s.gen ∧ s.gen < 1099511627776 := by
  unfold freeS freeN
  rw [Bool.and_eq_true, goodN_iff]
  cases s.used <;> simp
theorem put_at {ss : List Slot} {K : Nat} (k1 : K < ss.length) (k2 : K < 1024) (h : freeS (slot ss K) = true) (hn : ∀ j, j < K → freeS (slot ss j) = false) : putI ss = K := by
  unfold putI
  refine idxI_at (by rw [List.length_take]; omega) (by rw [slot_take _ _ _ k2]; exact h) fun j hj => ?_
  rw [slot_take _ _ _ (by omega)]; exact hn j hj
theorem put_none {ss : List Slot} (hn : ∀ j, j < ss.length → j < 1024 → freeS (slot ss j) = false) : putI ss = -1 := by
  unfold putI
  refine idxI_none fun j hj => ?_
  rw [List.length_take] at hj
  rw [slot_take _ _ _ (by omega)]; exact hn j (by omega) (by omega)
theorem first_of (f : Nat → Bool) (n : Nat) : (∀ j, j < n → f j = false) ∨ ∃ K, K < n ∧ f K = true ∧ ∀ j, j < K → f j = false := by
  induction n with
  | zero => exact .inl fun j hj => absurd hj (by omega)
  | succ n ih =>
    rcases ih with h | ⟨K, h1, h2, h3⟩
    · cases hf : f n with
      | false =>
        refine .inl fun j hj => ?_
        rcases Nat.lt_or_ge j n with h1 | h1
        · exact h j h1
        · obtain rfl : j = n := by omega
          exact hf
      | true => exact .inr ⟨n, by omega, hf, h⟩
    · exact .inr ⟨K, by omega, h2, h3⟩
theorem put_cases (ss : List Slot) : (putI ss = -1 ∧ (∀ j, j < ss.length → j < 1024 → freeS (slot ss j) = false) ∧ (∀ x, putL ss x = ss) ∧ putH ss = 0 ∧ putE ss = 8) ∨
    ∃ K : Nat, K < ss.length ∧ K < 1024 ∧ putI ss = K ∧ freeS (slot ss K) = true ∧ (∀ x, putL ss x = ss.set K ⟨true, (slot ss K).gen, x⟩) ∧ putH ss = K + 1024 * (slot ss K).gen ∧ putE ss = 0 := by
  rcases first_of (fun j => freeS (slot ss j)) (min ss.length 1024) with h | ⟨K, h1, h2, h3⟩
  · have hn : ∀ j, j < ss.length → j < 1024 → freeS (slot ss j) = false := fun j h4 h5 => h j (by omega)
    have e := put_none hn
    exact .inl ⟨e, hn, fun x => by unfold putL; rw [e]; rfl, by unfold putH; rw [e]; rfl, by unfold putE; rw [e]; rfl⟩
  · have e := put_at (by omega) (by omega) h2 h3
    have n : ¬ ((K : Int) < 0) := by omega
    refine .inr ⟨K, by omega, by omega, e, h2, fun x => ?_, ?_, ?_⟩
    · unfold putL; rw [e, if_neg n]; rfl
    · unfold putH; rw [e, if_neg n]; rfl
    · unfold putE; rw [e, if_neg n]

theorem set_len (ss : List Slot) (K : Nat) (s : Slot) : (ss.set K s).length = ss.length := List.length_set
theorem slot_set (ss : List Slot) (K j : Nat) (s : Slot) (hK : K < ss.length) : slot (ss.set K s) j = if j = K then s else slot ss j := by
  unfold slot
  rw [List.getD_eq_getElem?_getD, List.getD_eq_getElem?_getD, List.getElem?_set]
  by_cases h : j = K
  · subst h; simp [hK]
  · rw [if_neg h, if_neg (by omega)]
theorem FitS.set {ss : List Slot} (h : FitS ss) (K : Nat) {s : Slot} (hs : (-9223372036854775808 ≤ s.gen ∧ s.gen ≤ 9223372036854775807) ∧ U64 s.word) : FitS (ss.set K s) := by
  intro y hy
  rcases List.mem_or_eq_of_mem_set hy with h1 | h1
  · exact h y h1
  · rw [h1]; exact hs
theorem putL_len (ss : List Slot) (x : Int) : (putL ss x).length = ss.length := by unfold putL; split <;> simp
theorem setL_len (ss : List Slot) (h x : Int) : (setL ss h x).length = ss.length := by unfold setL; split <;> simp
theorem dropL_len (ss : List Slot) (h : Int) : (dropL ss h).length = ss.length := by unfold dropL; split <;> simp

/-! ### how many, all handles, and right ones -/
def usedN (ss : List Slot) : Nat := ss.countP (·.used)
theorem take_slot_succ (ss : List Slot) (k : Nat) (h : k < ss.length) : ss.take (k + 1) = ss.take k ++ [slot ss k] := by
  rw [List.take_succ_eq_append_getElem h, slot_get ss k h]
theorem usedN_succ (ss : List Slot) (k : Nat) (h : k < ss.length) : usedN (ss.take (k + 1)) = usedN (ss.take k) + (if (slot ss k).used then 1 else 0) := by
  unfold usedN; rw [take_slot_succ ss k h, List.countP_append]; simp [List.countP_cons]
def handlesL (ss : List Slot) (n : Nat) : List Int := ((List.range n).filter (fun j => (slot ss j).used && goodN (slot ss j).gen)).map (fun (j : Nat) => (j : Int) + 1024 * (slot ss j).gen)
theorem handlesL_zero (ss : List Slot) : handlesL ss 0 = [] := rfl
theorem handlesL_succ (ss : List Slot) (n : Nat) : handlesL ss (n + 1) = handlesL ss n ++ (if ((slot ss n).used && goodN (slot ss n).gen) = true then [(n : Int) + 1024 * (slot ss n).gen] else []) := by
  unfold handlesL
  rw [List.range_succ, List.filter_append, List.map_append]
  congr 1
  by_cases h : ((slot ss n).used && goodN (slot ss n).gen) = true
  · rw [if_pos h]; simp [h]
  · rw [if_neg h]; simp [h]
theorem handlesL_len (ss : List Slot) (n : Nat) : (handlesL ss n).length ≤ n := by
  unfold handlesL
  rw [List.length_map]
  exact Nat.le_trans (List.length_filter_le _ _) (by simp)
/-- may a slot be? -/
def mayS (s : Slot) : Bool := decB s.word && (goodN s.gen || (!s.used && decide (s.gen = 1099511627776))) && (s.used || decide (s.word = 0))
def rightB (ss : List Slot) (n : Int) : Bool := ss.all mayS && decide ((ss.length : Int) = n) && decide (1 ≤ n) && decide (n ≤ 1024)
theorem right_no {ss : List Slot} {n : Int} {k : Nat} (hk : k < ss.length) (h : mayS (slot ss k) = false) : rightB ss n = false := by
  unfold rightB
  have : ss.all mayS = false := by
    rw [List.all_eq_false]
    exact ⟨ss[k], List.getElem_mem hk, by rw [← slot_get ss k hk, h]; decide⟩
  rw [this]; rfl
theorem right_all {ss : List Slot} {n : Int} (h : ∀ k, k < ss.length → mayS (slot ss k) = true) : rightB ss n = (decide ((ss.length : Int) = n) && decide (1 ≤ n) && decide (n ≤ 1024)) := by
  unfold rightB
  have : ss.all mayS = true := by
    rw [List.all_eq_true]
    intro s hs
    obtain ⟨k, hk, rfl⟩ := List.mem_iff_getElem.1 hs
    rw [← slot_get ss k hk]; exact h k hk
  rw [this, Bool.true_and]
theorem right_may {ss : List Slot} {n : Int} (h : rightB ss n = true) : (∀ k, k < ss.length → mayS (slot ss k) = true) ∧ (ss.length : Int) = n ∧ 1 ≤ n ∧ n ≤ 1024 := by
  unfold rightB at h
  simp only [Bool.and_eq_true, decide_eq_true_eq, List.all_eq_true] at h
  obtain ⟨⟨⟨h1, h2⟩, h3⟩, h4⟩ := h
  exact ⟨fun k hk => by rw [slot_get ss k hk]; exact h1 _ (List.getElem_mem hk), h2, h3, h4⟩
theorem slot_zeros (n k : Nat) : slot (List.replicate n Slot.zero) k = Slot.zero := by
  unfold slot; rw [List.getD_eq_getElem?_getD, List.getElem?_replicate]; split <;> rfl
end Go.Proofs.Ytcljgphipdbckaa
