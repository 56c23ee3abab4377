/- Arguments that are slices of slots, and of ints, opened. -/
import Derived.Test.YtcljgphipdbckaaM05
import Derived.Test.YtcljgphipdbckaaM14c
namespace Go.Proofs.Ytcljgphipdbckaa
set_option linter.unusedVariables false
set_option linter.unusedSimpArgs false
section
open Go.ChangeShapes Go.WideShapes Go.ChangeAt Go.RowKit
variable {H : Type} {enc : TypeId × Value → H} {w : World} {base : Nat} {d : DataW H} {p : List MemPlace} {v : Value}

theorem sls_at_inv (ss : List Slot) (j : Nat) (u : Value) (h : (sls ss)[j]? = some u) : j / 3 < ss.length ∧ (slot ss (j / 3)).arr[j % 3]? = some u := by
  have hl : j < ss.length * 3 := by
    have := (List.getElem?_eq_some_iff.1 h).1
    rwa [sls_length] at this
  have hk : j / 3 < ss.length := by omega
  refine ⟨hk, ?_⟩
  have q := sls_get ss (j / 3) hk
  have h3 : j % 3 = 0 ∨ j % 3 = 1 ∨ j % 3 = 2 := by omega
  rcases h3 with h3 | h3 | h3
  · rw [show j / 3 * 3 = j by omega, h] at q
    rw [h3, q.1]; rfl
  · rw [show j / 3 * 3 + 1 = j by omega, h] at q
    rw [h3, q.2.1]; rfl
  · rw [show j / 3 * 3 + 2 = j by omega, h] at q
    rw [h3, q.2.2]; rfl

set_option maxRecDepth 100000 in
/-- an argument that is a slice of slots -/
theorem open_slots {t e fb fi fu : TypeId} {s0 s1 s2 : Field} (ht : Try.prog.underlying t = some (.slice e)) (he : Try.prog.underlying e = some (.struct #[s0, s1, s2]))
    (t0 : s0.type = fb) (t1 : s1.type = fi) (t2 : s2.type = fu) (hb : Try.prog.underlying fb = some .bool) (hi : Try.prog.underlying fi = some (.int .i64)) (hu : Try.prog.underlying fu = some (.int .u64))
    (hone : Go.Deep.oneCellFields Try.prog #[s0, s1, s2] = true) (hC : Try.prog.cellsOf e = 3)
    (hv : Value.okWide Try.prog w .any base t v) (h : DataW.Trod enc Try.prog w 0 (fun _ => true) true t v d p) : ∃ ss : List Slot, Sw w v ss := by
  obtain ⟨a0, len, cap, rfl⟩ := okWide_slice ht hv
  obtain ⟨fuel, hf⟩ := h
  rcases open_slice_fields ht he hone hC hf with ⟨hcs, _⟩ | ⟨a, l, c, m, D, Pl, hcs, _, hl, hm, hmm, _, hi5⟩
  · simp [Value.cells] at hcs
    obtain ⟨rfl, rfl, rfl⟩ := hcs
    exact ⟨[], ⟨none, 0, rfl, by simp, by simp [maxLen], fun _ => rfl, by simp⟩, fun s hs => by cases hs⟩
  · simp [Value.cells] at hcs
    obtain ⟨rfl, rfl, rfl⟩ := hcs
    have hm' : m = cap := by simpa using hmm
    subst hm'
    have key : ∀ i, ∃ dd : Slot, i < m → (((-9223372036854775808 ≤ dd.gen ∧ dd.gen ≤ 9223372036854775807) ∧ U64 dd.word) ∧ ∀ j u, dd.arr[j]? = some u → w.cell? (a.add (i * 3 + j)) = some u) := by
      intro i
      by_cases him : i < m
      · obtain ⟨ys, n, _, _, hyl, hff⟩ := hi5 i him
        obtain ⟨v0, y0, c0, _, r0⟩ := hff 0 s0 rfl
        obtain ⟨v1, y1, c1, _, r1⟩ := hff 1 s1 rfl
        obtain ⟨v2, y2, c2, _, r2⟩ := hff 2 s2 rfl
        rw [t0] at r0
        rw [t1] at r1
        rw [t2] at r2
        obtain ⟨x0, e0, _⟩ := DataW.trod_bool hb r0
        obtain ⟨x1, e1, _, wf1⟩ := DataW.trod_int hi r1
        obtain ⟨x2, e2, _, wf2⟩ := DataW.trod_int hu r2
        simp only [List.cons.injEq, and_true] at e0 e1 e2
        subst e0 e1 e2
        refine ⟨⟨x0, x1, x2⟩, fun _ => ⟨⟨wf_i64 wf1, wf_u64 wf2⟩, fun j u hj => ?_⟩⟩
        have hjl : j < 3 := by
          have := (Array.getElem?_eq_some_iff.1 hj).1
          simpa [Slot.arr] using this
        have hs : (#[s0, s1, s2] : Array Field).size = 3 := rfl
        rw [hs] at c0 c1 c2
        have hj5 : j = 0 ∨ j = 1 ∨ j = 2 := by omega
        rcases hj5 with rfl | rfl | rfl <;> (simp [Slot.arr] at hj; subst hj; assumption)
      · exact ⟨⟨false, 0, 0⟩, fun h => absurd h him⟩
    obtain ⟨ds, hds⟩ := Classical.skolem.1 key
    have hlen : ((List.range len).map ds).length = len := by simp
    have hsl : ∀ k, k < len → slot ((List.range len).map ds) k = ds k := by
      intro k hk
      rw [slot_get _ _ (by rw [hlen]; exact hk)]
      simp
    refine ⟨(List.range len).map ds, ⟨some a, m, by rw [hlen], by rw [hlen]; exact hl, hm, by simp, fun hn => ?_⟩, fun s hs => ?_⟩
    · rw [hlen] at hn
      obtain ⟨b, o, spot⟩ := a
      have h0 := (hds 0 (by omega)).2 0 _ rfl
      have hs : spot = none := by simpa [Addr.add] using World.cell?_spot h0
      subst hs
      refine ⟨b, o, rfl, fun j u hj => ?_⟩
      obtain ⟨h1, h2⟩ := sls_at_inv _ _ _ hj
      rw [hlen] at h1
      rw [hsl _ h1] at h2
      have := (hds (j / 3) (by omega)).2 (j % 3) u h2
      rw [add_plain, show j / 3 * 3 + j % 3 = j by omega] at this
      exact this
    · simp at hs
      obtain ⟨k, hk, rfl⟩ := hs
      exact (hds k (by omega)).1

set_option maxRecDepth 100000 in
/-- an argument that is a slice of ints -/
theorem open_iw {t e : TypeId} (ht : Try.prog.underlying t = some (.slice e)) (he : Try.prog.underlying e = some (.int .i64)) (hC : Try.prog.cellsOf e = 1) (hv : Value.okWide Try.prog w .any base t v) (h : DataW.Trod enc Try.prog w 0 (fun _ => true) true t v d p) : ∃ ws, Iw w v ws ∧ ∀ x ∈ ws, -9223372036854775808 ≤ x ∧ x ≤ 9223372036854775807 := by
  obtain ⟨a0, len, cap, rfl⟩ := okWide_slice ht hv
  obtain ⟨fuel, hf⟩ := h
  rcases open_ints ht he hC hf with ⟨hcs, _⟩ | ⟨x, l, c, zs, hcs, _, hl, hm, hz, _, hcell, hwz⟩
  · simp [Value.cells] at hcs
    obtain ⟨rfl, rfl, rfl⟩ := hcs
    exact ⟨[], ⟨none, 0, rfl, by simp, by simp [maxLen], by simp⟩, fun s hs => by cases hs⟩
  · simp [Value.cells] at hcs
    obtain ⟨rfl, rfl, rfl⟩ := hcs
    have hz' : zs.length = cap := by simpa using hz
    have hlen : (zs.take len).length = len := by rw [List.length_take]; omega
    refine ⟨zs.take len, ⟨some x, cap, by rw [hlen], by omega, hm, fun hn => ?_⟩, fun y hy => wf_i64 (hwz y (List.mem_of_mem_take hy))⟩
    rw [hlen] at hn ⊢
    obtain ⟨b, o, spot⟩ := x
    have h0 := hcell 0 (by omega)
    have hs : spot = none := by simpa [Addr.add] using World.cell?_spot h0
    subst hs
    refine ⟨b, o, rfl, World.block_lt_of_cell? _ _ h0, fun k hk => ?_⟩
    have := hcell k (by omega)
    rw [add_plain] at this
    rw [this, List.getD_eq_getElem?_getD, List.getD_eq_getElem?_getD, List.getElem?_take_of_lt hk]
end
end Go.Proofs.Ytcljgphipdbckaa
