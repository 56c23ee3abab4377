/- Memory: slices of slots (layer 14). -/
import Derived.Test.YtcljgphipdbckaaM03
namespace Go.Proofs.Ytcljgphipdbckaa
open Go.RowKit

structure Slot where
  used : Bool
  gen : Int
  word : Int
deriving DecidableEq
def Slot.zero : Slot := ⟨false, 0, 0⟩
def Slot.cells (s : Slot) : List Value := [.bool s.used, .int .i64 s.gen, .int .u64 s.word]
def Slot.arr (s : Slot) : Array Value := #[.bool s.used, .int .i64 s.gen, .int .u64 s.word]
def sls : List Slot → List Value
  | [] => []
  | s :: r => .bool s.used :: .int .i64 s.gen :: .int .u64 s.word :: sls r
/-- the k-th slot -/
def slot (ss : List Slot) (k : Nat) : Slot := ss.getD k Slot.zero

theorem sls_length (ss : List Slot) : (sls ss).length = ss.length * 3 := by
  induction ss with
  | nil => rfl
  | cons s r ih => simp [sls, ih]; omega
theorem slot_cons (s : Slot) (r : List Slot) (k : Nat) : slot (s :: r) (k + 1) = slot r k := by simp [slot]
theorem slot_zero (s : Slot) (r : List Slot) : slot (s :: r) 0 = s := by simp [slot]
theorem sls_get (ss : List Slot) (k : Nat) (h : k < ss.length) :
    (sls ss)[k * 3]? = some (.bool (slot ss k).used) ∧ (sls ss)[k * 3 + 1]? = some (.int .i64 (slot ss k).gen) ∧ (sls ss)[k * 3 + 2]? = some (.int .u64 (slot ss k).word) := by
  induction ss generalizing k with
  | nil => simp at h
  | cons s r ih =>
    cases k with
    | zero => simp [sls, slot_zero]
    | succ k =>
      rw [slot_cons]
      have := ih k (by simpa using h)
      have e : (k + 1) * 3 = k * 3 + 1 + 1 + 1 := by omega
      rw [e]
      simp only [sls, List.getElem?_cons_succ]
      exact this
theorem sls_one (ss : List Slot) : ∀ u ∈ sls ss, u.oneCell' = true := by
  induction ss with
  | nil => simp [sls]
  | cons s r ih =>
    intro u hu
    simp only [sls, List.mem_cons] at hu
    rcases hu with rfl | rfl | rfl | hu
    · rfl
    · rfl
    · rfl
    · exact ih u hu
theorem sls_append (a b : List Slot) : sls a ++ sls b = sls (a ++ b) := by
  induction a with
  | nil => rfl
  | cons s r ih => simp [sls, ih]
theorem sls_take (ss : List Slot) (k : Nat) : (sls ss).take (k * 3) = sls (ss.take k) := by
  induction ss generalizing k with
  | nil => simp [sls]
  | cons s r ih =>
    cases k with
    | zero => simp [sls]
    | succ k =>
      have e : (k + 1) * 3 = k * 3 + 1 + 1 + 1 := by omega
      rw [e]
      simp [sls, ih]
theorem sls_set (ss : List Slot) (k : Nat) (h : k < ss.length) :
    (∀ x, (sls ss).set (k * 3) (.bool x) = sls (ss.set k { slot ss k with used := x })) ∧ (∀ x, (sls ss).set (k * 3 + 1) (.int .i64 x) = sls (ss.set k { slot ss k with gen := x })) ∧ (∀ x, (sls ss).set (k * 3 + 2) (.int .u64 x) = sls (ss.set k { slot ss k with word := x })) := by
  induction ss generalizing k with
  | nil => simp at h
  | cons s r ih =>
    cases k with
    | zero => simp [sls, slot_zero]
    | succ k =>
      have := ih k (by simpa using h)
      have e : (k + 1) * 3 = k * 3 + 1 + 1 + 1 := by omega
      have e1 : (k + 1) * 3 + 1 = (k * 3 + 1) + 1 + 1 + 1 := by omega
      have e2 : (k + 1) * 3 + 2 = (k * 3 + 2) + 1 + 1 + 1 := by omega
      rw [e1, e2, e, slot_cons]
      refine ⟨fun x => ?_, fun x => ?_, fun x => ?_⟩
      · simp only [sls, List.set_cons_succ, this.1 x]
      · simp only [sls, List.set_cons_succ, this.2.1 x]
      · simp only [sls, List.set_cons_succ, this.2.2 x]

/-- each slot's numbers are Go's -/
def FitS (ss : List Slot) : Prop := ∀ s ∈ ss, (-9223372036854775808 ≤ s.gen ∧ s.gen ≤ 9223372036854775807) ∧ U64 s.word
theorem FitS.at_ {ss : List Slot} (h : FitS ss) (k : Nat) : (-9223372036854775808 ≤ (slot ss k).gen ∧ (slot ss k).gen ≤ 9223372036854775807) ∧ U64 (slot ss k).word := by
  unfold slot
  rw [List.getD_eq_getElem?_getD]
  rcases Nat.lt_or_ge k ss.length with hk | hk
  · rw [List.getElem?_eq_getElem hk]; exact h _ (List.getElem_mem hk)
  · rw [List.getElem?_eq_none hk]; exact ⟨⟨by decide, by decide⟩, by decide, by decide⟩

/-- a slice value that reads as slots -/
def Sw (w : World) (v : Value) (ss : List Slot) : Prop :=
  (∃ A c, v = .slice A ss.length c ∧ ss.length ≤ c ∧ c ≤ maxLen ∧ (A = none → c = 0) ∧
    (0 < ss.length → ∃ b o, A = some ⟨b, o, none⟩ ∧ ∀ j u, (sls ss)[j]? = some u → w.cell? ⟨b, o + j, none⟩ = some u)) ∧ FitS ss

section
variable {w w' : World} {v : Value} {ss : List Slot}
theorem Sw.reads (h : Sw w v ss) : ∃ A c, v = .slice A ss.length c ∧ ss.length ≤ c ∧ c ≤ maxLen ∧ Reads w w.heap.size 3 A ss.length (sls ss) := by
  obtain ⟨⟨A, c, rfl, h1, h2, _, h3⟩, _⟩ := h
  refine ⟨A, c, rfl, h1, h2, sls_length ss, fun hn => ?_⟩
  obtain ⟨b, o, rfl, hc⟩ := h3 hn
  refine ⟨_, rfl, World.block_lt_of_cell? _ _ (hc 0 _ (sls_get ss 0 hn).1), fun j u hu => ?_⟩
  rw [add_plain]
  exact hc j u hu
theorem Sw.kept (h : Sw w v ss) {row : Option Nat} (hg : w.grownBy w' row) (hne : v.ownBlock = none ∨ v.ownBlock ≠ row) : Sw w' v ss := by
  obtain ⟨⟨A, c, rfl, h1, h2, h4, h3⟩, hf⟩ := h
  refine ⟨⟨A, c, rfl, h1, h2, h4, fun hn => ?_⟩, hf⟩
  obtain ⟨b, o, rfl, hc⟩ := h3 hn
  exact ⟨b, o, rfl, fun j u hu => hg.cell (hc j u hu) (by simpa [Value.ownBlock] using hne)⟩
theorem Sw.below (h : Sw w v ss) (hb : Below w.heap.size w w') : Sw w' v ss :=
  h.kept (row := none) ⟨hb.os, hb.tape, hb.output, hb.size, fun k hk _ => hb.block k hk⟩ (by cases v.ownBlock <;> simp)
theorem Sw.drewN (h : Sw w v ss) (n : Nat) : Sw (w.drewN n) v ss := h
theorem Sw.nil_ {n c : Nat} (h : Sw w (.slice none n c) ss) : ss = [] ∧ c = 0 := by
  obtain ⟨⟨A', c', e, _, _, h4, h3⟩, _⟩ := h
  simp only [Value.slice.injEq] at e
  obtain ⟨e1, e2, e3⟩ := e
  subst e3
  refine ⟨?_, h4 e1.symm⟩
  rcases Nat.eq_zero_or_pos ss.length with h0 | h0
  · exact List.eq_nil_of_length_eq_zero h0
  · obtain ⟨b, o, e4, _⟩ := h3 h0
    rw [← e1] at e4; cases e4
/-- the cells of the k-th slot -/
theorem Sw.at_ {A : Option Addr} {n c : Nat} (h : Sw w (.slice A n c) ss) (hn : 0 < ss.length) :
    ∃ b o, A = some ⟨b, o, none⟩ ∧ b < w.heap.size ∧ ∀ k, k < ss.length → w.cell? ⟨b, o + k * 3, none⟩ = some (.bool (slot ss k).used) ∧ w.cell? ⟨b, o + k * 3 + 1, none⟩ = some (.int .i64 (slot ss k).gen) ∧ w.cell? ⟨b, o + k * 3 + 2, none⟩ = some (.int .u64 (slot ss k).word) := by
  obtain ⟨⟨A', c', e, _, _, _, h3⟩, _⟩ := h
  simp only [Value.slice.injEq] at e
  obtain ⟨rfl, _, rfl⟩ := e
  obtain ⟨b, o, rfl, hc⟩ := h3 hn
  refine ⟨b, o, rfl, World.block_lt_of_cell? _ _ (hc 0 _ (sls_get ss 0 hn).1), fun k hk => ?_⟩
  have := sls_get ss k hk
  exact ⟨hc _ _ this.1, hc _ _ this.2.1, hc _ _ this.2.2⟩
theorem Sw.of_own {B : Nat} (h : w.ownsRow B 89 3 v ss.length (sls ss)) (hf : FitS ss) : Sw w v ss := by
  rcases h.2 with ⟨rfl, h0⟩ | ⟨g, cap, cur, rfl, hb, hg, hn, hc, hs, ht⟩
  · have : ss = [] := List.eq_nil_of_length_eq_zero h0
    subst this
    exact ⟨⟨none, 0, rfl, by simp, by simp [maxLen], fun _ => rfl, by simp⟩, hf⟩
  · refine ⟨⟨some ⟨g, 0, none⟩, cap, rfl, hn, hc, by simp, fun _ => ⟨g, 0, rfl, fun j u hj => ?_⟩⟩, hf⟩
    rw [Nat.zero_add, cell_of_row w g j cur 89 (0, 0) hg]
    have hl : j < ss.length * 3 := by
      have := (List.getElem?_eq_some_iff.1 hj).1
      rwa [sls_length] at this
    rw [← ht, List.getElem?_take, if_pos hl] at hj
    simpa using hj
/-- a part at the beginning -/
theorem Sw.first {A : Option Addr} {n c : Nat} (h : Sw w (.slice A n c) ss) (k : Nat) (hk : k ≤ ss.length) : Sw w (.slice A k c) (ss.take k) := by
  obtain ⟨⟨A', c', e, h1, h2, h4, h3⟩, hf⟩ := h
  simp only [Value.slice.injEq] at e
  obtain ⟨rfl, _, rfl⟩ := e
  have hl : (ss.take k).length = k := by rw [List.length_take]; omega
  refine ⟨⟨A, c, by rw [hl], by omega, h2, h4, fun hn => ?_⟩, fun s hs => hf s (List.mem_of_mem_take hs)⟩
  obtain ⟨b, o, rfl, hc⟩ := h3 (by omega)
  refine ⟨b, o, rfl, fun j u hj => hc j u ?_⟩
  rw [← sls_take, List.getElem?_take] at hj
  split at hj
  · exact hj
  · cases hj
end
theorem slot_take (ss : List Slot) (k i : Nat) (h : i < k) : slot (ss.take k) i = slot ss i := by
  unfold slot; rw [List.getD_eq_getElem?_getD, List.getD_eq_getElem?_getD, List.getElem?_take, if_pos h]
end Go.Proofs.Ytcljgphipdbckaa
