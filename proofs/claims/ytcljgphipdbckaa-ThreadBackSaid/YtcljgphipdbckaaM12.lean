/- Memory for layer 12: slices that grow, ints, bools, spans. -/
import Derived.Test.YtcljgphipdbckaaP12
namespace Go.Proofs.Ytcljgphipdbckaa.T12
set_option linter.unusedVariables false
set_option linter.unusedSimpArgs false
open Go.RowKit

theorem own_slice2 {w : World} {B t s n : Nat} {v : Value} {xs : List Value} (h : w.ownsRow B t s v n xs) : ∃ A c, v = .slice A n c := by
  rcases h.2 with ⟨rfl, rfl⟩ | ⟨g, cap, cur, rfl, _⟩
  · exact ⟨none, 0, rfl⟩
  · exact ⟨_, cap, rfl⟩
/-- 'append(l, y)' of one cell to a slice of the call's own -/
theorem wpList_append1 {ops : Array Oper} {rest : List Oper} {o : Oper} {a : Act} {Q : Exit → Act → World → Prop} (hgd : o.guard = none) (s x : Operand) (t e : TypeId) (z : Value) (bytes : Nat)
    (ho : o.op = .call { callee := .builtin .append, args := #[s, x], argTypes := #[t, t] }) (ht : Try.prog.underlying t = some (.slice e)) (hinfo : (Try.prog.info? e).map (fun i => (i.zero, i.size, i.bytes)) = some (some z, 1, bytes)) (hz : z.cells.size = 1) (hby : bytes ≤ 24)
    (W : World) (B n : Nat) (v : Value) (xs : List Value) (y : Value) (hs : a.eval s = v) (hown : W.ownsRow B e 1 v n xs) (hx : a.eval x = .slice (some ⟨W.heap.size, 0, none⟩) 1 1) (hy : y.oneCell' = true) (hn : n + 1 ≤ 1000000) (hB : B ≤ W.heap.size)
    (h : ∀ A' c' w', w'.ownsRow B e 1 (.slice A' (n + 1) c') (n + 1) (xs ++ [y]) → W.grownBy w' v.ownBlock → ((Value.slice A' (n + 1) c').ownBlock = v.ownBlock ∨ ∃ g, (Value.slice A' (n + 1) c').ownBlock = some g ∧ W.heap.size ≤ g) → wpList Try.prog ops Q rest (a.put o.dst (.slice A' (n + 1) c')) w') :
    wpList Try.prog ops Q (o :: rest) a (W.alloc (.cells #[y] e)) := by
  obtain ⟨i0, hi, hz0, hz1, hz2⟩ := info_parts hinfo
  have hal : W.grownBy (W.alloc (.cells #[y] e)) v.ownBlock := by
    have hb := (Below.refl W.heap.size W).alloc (Nat.le_refl _) (.cells #[y] e)
    exact ⟨hb.os, hb.tape, hb.output, hb.size, fun k hk _ => hb.block k hk⟩
  have hR : Reads (W.alloc (.cells #[y] e)) (W.heap.size + 1) 1 (some ⟨W.heap.size, 0, none⟩) 1 [y] := by
    refine ⟨by simp, fun _ => ⟨_, rfl, by simp, fun j u hj => ?_⟩⟩
    rw [add_plain]
    have h0 : j = 0 := by
      have := (List.getElem?_eq_some_iff.1 hj).1
      simpa using this
    subst h0
    simp at hj
    rw [Nat.zero_add, (Blk.new W e #[y]).cell 0]
    simp [hj]
  refine wpList_append_any _ hgd s x _ ho B e i0 z 1 bytes ht hi hz0 hz1 hz2 hz (by omega) v n xs hs (hown.alloc _) (W.heap.size + 1) (some ⟨W.heap.size, 0, none⟩) 1 1 [y] hx hR (by simpa using hy) (by unfold maxLen; omega) ?_ (by simp; omega) ?_
  · have : (n + 1) * bytes ≤ 1000000 * 24 := Nat.mul_le_mul hn hby
    omega
  intro v' w' hown' hgr hat
  obtain ⟨A', c', rfl⟩ := own_slice hown'
  refine h A' c' w' hown' ?_ ?_
  · exact ⟨hgr.os.trans hal.os, hgr.tape.trans hal.tape, hgr.output.trans hal.output, Nat.le_trans hal.size hgr.size, fun k hk hne => (hgr.block k (Nat.lt_of_lt_of_le hk hal.size) hne).trans (hal.block k hk hne)⟩
  · rcases hat with h1 | h1
    · exact .inl h1
    · exact .inr ⟨_, h1, by simp⟩

/-! ### ints -/
def its (xs : List Int) : List Value := xs.map (Value.int .i64)
theorem its_length (xs : List Int) : (its xs).length = xs.length := by simp [its]
theorem its_get (xs : List Int) (k : Nat) (h : k < xs.length) : (its xs)[k]? = some (.int .i64 (xs.getD k 0)) := by
  simp [its, List.getD, List.getElem?_map, List.getElem?_eq_getElem h]
theorem its_snoc (xs : List Int) (y : Int) : its xs ++ [.int .i64 y] = its (xs ++ [y]) := by simp [its]
/-- a slice value that reads as ints -/
def Iw (w : World) (v : Value) (xs : List Int) : Prop :=
  ∃ A c, v = .slice A xs.length c ∧ xs.length ≤ c ∧ c ≤ maxLen ∧ (0 < xs.length → ∃ b o, A = some ⟨b, o, none⟩ ∧ b < w.heap.size ∧ ∀ k, k < xs.length → w.cell? ⟨b, o + k, none⟩ = some (.int .i64 (xs.getD k 0)))
section
variable {w w' : World} {v : Value} {xs : List Int}
theorem Iw.kept (h : Iw w v xs) {row : Option Nat} (hg : w.grownBy w' row) (hne : v.ownBlock = none ∨ v.ownBlock ≠ row) : Iw w' v xs := by
  obtain ⟨A, c, rfl, h1, h2, h3⟩ := h
  refine ⟨A, c, rfl, h1, h2, fun hn => ?_⟩
  obtain ⟨b, o, rfl, hb, hc⟩ := h3 hn
  exact ⟨b, o, rfl, Nat.lt_of_lt_of_le hb hg.size, fun k hk => hg.cell (hc k hk) (by simpa [Value.ownBlock] using hne)⟩
theorem Iw.below (h : Iw w v xs) (hb : Below w.heap.size w w') : Iw w' v xs :=
  h.kept (row := none) ⟨hb.os, hb.tape, hb.output, hb.size, fun k hk _ => hb.block k hk⟩ (by cases v.ownBlock <;> simp)
theorem Iw.of_own {B : Nat} (h : w.ownsRow B 3 1 v xs.length (its xs)) : Iw w v xs := by
  rcases h.2 with ⟨rfl, h0⟩ | ⟨g, cap, cur, rfl, hb, hg, hn, hc, hs, ht⟩
  · exact ⟨none, 0, by rw [h0], by omega, by simp [maxLen], fun h => by omega⟩
  · refine ⟨some ⟨g, 0, none⟩, cap, rfl, hn, hc, fun _ => ⟨g, 0, rfl, (Array.getElem?_eq_some_iff.1 hg).1, fun k hk => ?_⟩⟩
    rw [Nat.zero_add, cell_of_row w g k cur 3 (0, 0) hg]
    have := its_get xs k hk
    rw [← ht, List.getElem?_take, if_pos (by omega)] at this
    simpa using this
theorem Iw.at_ {A : Option Addr} {n c : Nat} (h : Iw w (.slice A n c) xs) (hn : 0 < xs.length) : ∃ b o, A = some ⟨b, o, none⟩ ∧ b < w.heap.size ∧ ∀ k, k < xs.length → w.cell? ⟨b, o + k, none⟩ = some (.int .i64 (xs.getD k 0)) := by
  obtain ⟨A', c', e, _, _, h3⟩ := h
  simp only [Value.slice.injEq] at e
  obtain ⟨rfl, _, rfl⟩ := e
  exact h3 hn
end
/-- a slice of ints that a call made -/
def FreshI (w : World) (xs : List Int) (e : Ending) (w' : World) : Prop := ∃ A c, e = .returned (.slice A xs.length c) ∧ w'.ownsRow w.heap.size 3 1 (.slice A xs.length c) xs.length (its xs) ∧ Below w.heap.size w w'
theorem FreshI.mk {w w' : World} {xs : List Int} {A : Option Addr} {n c : Nat} (hn : n = xs.length) (h : w'.ownsRow w.heap.size 3 1 (.slice A n c) n (its xs)) (hb : Below w.heap.size w w') : FreshI w xs (.returned (.slice A n c)) w' := by
  subst hn; exact ⟨A, c, rfl, h, hb⟩
theorem i64_info : (Try.prog.info? 3).map (fun i => (i.zero, i.size, i.bytes)) = some (some (.int .i64 0), 1, 8) := by kernel_rfl
theorem below_grown {B : Nat} {W w w' : World} {v : Value} {t n s : Nat} {xs : List Value} (hb : Below B W w) (hB : B ≤ w.heap.size) (ho : w.ownsRow B t s v n xs) (hg : w.grownBy w' v.ownBlock) : Below B W w' := by
  refine hb.grown hg (by exact hB) (fun k hk => ?_)
  exact (ho.lt k hk).1
/-- 'append(l, y)' of a record of two cells -/
theorem wpList_append2 {ops : Array Oper} {rest : List Oper} {o : Oper} {a : Act} {Q : Exit → Act → World → Prop} (hgd : o.guard = none) (s x : Operand) (t e : TypeId) (z : Value) (bytes : Nat)
    (ho : o.op = .call { callee := .builtin .append, args := #[s, x], argTypes := #[t, t] }) (ht : Try.prog.underlying t = some (.slice e)) (hinfo : (Try.prog.info? e).map (fun i => (i.zero, i.size, i.bytes)) = some (some z, 2, bytes)) (hz : z.cells.size = 2) (hby : bytes ≤ 24)
    (W : World) (B n : Nat) (v : Value) (xs : List Value) (y y2 : Value) (hs : a.eval s = v) (hown : W.ownsRow B e 2 v n xs) (hx : a.eval x = .slice (some ⟨W.heap.size, 0, none⟩) 1 1) (hy : y.oneCell' = true) (hy2 : y2.oneCell' = true) (hn : n + 1 ≤ 1000000) (hB : B ≤ W.heap.size)
    (h : ∀ A' c' w', w'.ownsRow B e 2 (.slice A' (n + 1) c') (n + 1) (xs ++ [y, y2]) → W.grownBy w' v.ownBlock → ((Value.slice A' (n + 1) c').ownBlock = v.ownBlock ∨ ∃ g, (Value.slice A' (n + 1) c').ownBlock = some g ∧ W.heap.size ≤ g) → wpList Try.prog ops Q rest (a.put o.dst (.slice A' (n + 1) c')) w') :
    wpList Try.prog ops Q (o :: rest) a (W.alloc (.cells #[y, y2] e)) := by
  obtain ⟨i0, hi, hz0, hz1, hz2⟩ := info_parts hinfo
  have hal : W.grownBy (W.alloc (.cells #[y, y2] e)) v.ownBlock := by
    have hb := (Below.refl W.heap.size W).alloc (Nat.le_refl _) (.cells #[y, y2] e)
    exact ⟨hb.os, hb.tape, hb.output, hb.size, fun k hk _ => hb.block k hk⟩
  have hR : Reads (W.alloc (.cells #[y, y2] e)) (W.heap.size + 1) 2 (some ⟨W.heap.size, 0, none⟩) 1 [y, y2] := by
    refine ⟨by simp, fun _ => ⟨_, rfl, by simp, fun j u hj => ?_⟩⟩
    rw [add_plain]
    have h0 : j < 2 := by
      have := (List.getElem?_eq_some_iff.1 hj).1
      simpa using this
    rw [Nat.zero_add, (Blk.new W e #[y, y2]).cell j]
    have h1 : j = 0 ∨ j = 1 := by omega
    rcases h1 with rfl | rfl <;> simpa using hj
  refine wpList_append_any _ hgd s x _ ho B e i0 z 2 bytes ht hi hz0 hz1 hz2 hz (by omega) v n xs hs (hown.alloc _) (W.heap.size + 1) (some ⟨W.heap.size, 0, none⟩) 1 1 [y, y2] hx hR (by simpa using ⟨hy, hy2⟩) (by unfold maxLen; omega) ?_ (by simp; omega) ?_
  · have : (n + 1) * bytes ≤ 1000000 * 24 := Nat.mul_le_mul hn hby
    omega
  intro v' w' hown' hgr hat
  obtain ⟨A', c', rfl⟩ := own_slice2 hown'
  refine h A' c' w' hown' ?_ ?_
  · exact ⟨hgr.os.trans hal.os, hgr.tape.trans hal.tape, hgr.output.trans hal.output, Nat.le_trans hal.size hgr.size, fun k hk hne => (hgr.block k (Nat.lt_of_lt_of_le hk hal.size) hne).trans (hal.block k hk hne)⟩
  · rcases hat with h1 | h1
    · exact .inl h1
    · exact .inr ⟨_, h1, by simp⟩

def bls (xs : List Bool) : List Value := xs.map Value.bool
theorem bls_get (xs : List Bool) (k : Nat) (h : k < xs.length) : (bls xs)[k]? = some (.bool (xs.getD k false)) := by
  simp [bls, List.getD, List.getElem?_map, List.getElem?_eq_getElem h]
theorem bls_snoc (xs : List Bool) (y : Bool) : bls xs ++ [.bool y] = bls (xs ++ [y]) := by simp [bls]
theorem bls_set (xs : List Bool) (k : Nat) (y : Bool) : (bls xs).set k (.bool y) = bls (xs.set k y) := by simp [bls, List.map_set]
theorem bool_info : (Try.prog.info? 4).map (fun i => (i.zero, i.size, i.bytes)) = some (some (.bool false), 1, 1) := by kernel_rfl

theorem own_ne {w : World} {B1 B2 e1 e2 s1 s2 n1 n2 : Nat} {v1 v2 : Value} {x1 x2 : List Value} (h1 : w.ownsRow B1 e1 s1 v1 n1 x1) (h2 : w.ownsRow B2 e2 s2 v2 n2 x2) (hne : e1 ≠ e2) : v1.ownBlock = none ∨ v1.ownBlock ≠ v2.ownBlock := by
  rcases h1.2 with ⟨rfl, _⟩ | ⟨g, cap, cur, rfl, _, hg, _⟩
  · exact .inl rfl
  · rcases h2.2 with ⟨rfl, _⟩ | ⟨g', cap', cur', rfl, _, hg', _⟩
    · exact .inr (by simp [Value.ownBlock])
    · refine .inr ?_
      intro e
      have : g = g' := by simpa [Value.ownBlock] using e
      subst this
      rw [hg] at hg'
      injection hg' with hg'
      injection hg' with _ ht
      exact hne ht

theorem grown_none {w w' : World} (hb : Below w.heap.size w w') : w.grownBy w' none := ⟨hb.os, hb.tape, hb.output, hb.size, fun k hk _ => hb.block k hk⟩
theorem nb_none (v : Value) : v.ownBlock = none ∨ v.ownBlock ≠ none := by cases v.ownBlock <;> simp

/-- the table's spans -/
def spl (f : Nat → Int × Int) : Nat → List Value
  | 0 => []
  | k + 1 => spl f k ++ [.int .i64 (f k).1, .int .i64 (f k).2]
theorem spl_length (f : Nat → Int × Int) : ∀ k, (spl f k).length = k * 2
  | 0 => rfl
  | k + 1 => by rw [spl, List.length_append, spl_length f k]; simp; omega
theorem spl_get (f : Nat → Int × Int) {j : Nat} : ∀ k, j < k → (spl f k)[j * 2]? = some (.int .i64 (f j).1) ∧ (spl f k)[j * 2 + 1]? = some (.int .i64 (f j).2)
  | 0, h => absurd h (by omega)
  | k + 1, h => by
    rw [spl]
    rcases Nat.lt_or_ge j k with h1 | h1
    · have := spl_get f k h1
      have hl := spl_length f k
      rw [List.getElem?_append_left (by omega), List.getElem?_append_left (by omega)]
      exact this
    · obtain rfl : j = k := by omega
      have hl := spl_length f j
      rw [List.getElem?_append_right (by omega), List.getElem?_append_right (by omega), hl]
      simp
theorem spl_recs {w : World} {B n c : Nat} {A : Option Addr} {f : Nat → Int × Int} (h : w.ownsRow B 99 2 (.slice A n c) n (spl f n)) : Recs w (.slice A n c) 2 n (fun k => [.int .i64 (f k).1, .int .i64 (f k).2]) := by
  rcases h.2 with ⟨e, h0⟩ | ⟨g, cap, cur, e, hb, hg, hn, hc, hs, ht⟩
  · injection e with e1 e2 e3
    subst e1 e3
    subst h0
    exact ⟨none, 0, rfl, by omega, by simp [maxLen], fun _ => rfl, fun h => absurd h (by omega)⟩
  · injection e with e1 e2 e3
    subst e1 e3
    refine ⟨_, _, rfl, hn, hc, by simp, fun hpos => ⟨g, 0, rfl, fun k hk => ⟨rfl, fun j u hj => ?_⟩⟩⟩
    have hj2 : j < 2 := by
      have := (List.getElem?_eq_some_iff.1 hj).1
      simpa using this
    rw [Nat.zero_add, h.cellAt (k * 2 + j) (by omega)]
    have q := spl_get f n hk
    have h1 : j = 0 ∨ j = 1 := by omega
    rcases h1 with rfl | rfl
    · rw [Nat.add_zero, q.1]; simpa using hj
    · rw [q.2]; simpa using hj
theorem span_info : (Try.prog.info? 99).map (fun i => (i.zero, i.size, i.bytes)) = some (some (.agg #[.int .i64 0, .int .i64 0]), 2, 16) := by kernel_rfl
end Go.Proofs.Ytcljgphipdbckaa.T12
