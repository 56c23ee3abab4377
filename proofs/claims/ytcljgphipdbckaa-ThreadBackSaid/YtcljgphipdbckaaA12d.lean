/- An argument that is a slice of ints, opened; the law ThreadBack at whatever arguments. -/
import Derived.Test.YtcljgphipdbckaaA12c
import Derived.Test.YtcljgphipdbckaaM05
namespace Go.Proofs.Ytcljgphipdbckaa
set_option linter.unusedVariables false
set_option linter.unusedSimpArgs false
namespace T12
section
open Go.ChangeShapes Go.WideShapes Go.ChangeAt Go.RowKit
variable {H : Type} {enc : TypeId × Value → H} {w : World} {base : Nat} {d : DataW H} {p : List MemPlace} {v : Value}

set_option maxRecDepth 100000 in
/-- an argument that is a slice of ints -/
theorem open_iw {t e : TypeId} (ht : Try.prog.underlying t = some (.slice e)) (he : Try.prog.underlying e = some (.int .i64)) (hC : Try.prog.cellsOf e = 1) (hv : Value.okWide Try.prog w .any base t v) (h : DataW.Trod enc Try.prog w 0 (fun _ => true) true t v d p) : ∃ ws, Iw w v ws ∧ ∀ x ∈ ws, -9223372036854775808 ≤ x ∧ x ≤ 9223372036854775807 := by
  obtain ⟨a0, len, cap, rfl⟩ := okWide_slice ht hv
  obtain ⟨fuel, hf⟩ := h
  rcases open_ints ht he hC hf with ⟨hcs, _⟩ | ⟨x, l, c, zs, hcs, _, hl, hm, hz, _, hcell, hwz⟩
  · simp [Value.cells] at hcs
    obtain ⟨rfl, rfl, rfl⟩ := hcs
    exact ⟨[], ⟨none, 0, rfl, by simp, by simp [maxLen], by simp⟩, fun s hs => by cases hs⟩
  · simp [Value.cells] at hcs
    obtain ⟨rfl, rfl, rfl⟩ := hcs
    have hz' : zs.length = cap := by simpa using hz
    have hlen : (zs.take len).length = len := by rw [List.length_take]; omega
    refine ⟨zs.take len, ⟨some x, cap, by rw [hlen], by omega, hm, fun hn => ?_⟩, fun y hy => wf_i64 (hwz y (List.mem_of_mem_take hy))⟩
    rw [hlen] at hn ⊢
    obtain ⟨b, o, spot⟩ := x
    have h0 := hcell 0 (by omega)
    have hs : spot = none := by simpa [Addr.add] using World.cell?_spot h0
    subst hs
    refine ⟨b, o, rfl, World.block_lt_of_cell? _ _ h0, fun k hk => ?_⟩
    have := hcell k (by omega)
    rw [add_plain] at this
    rw [this, List.getD_eq_getElem?_getD, List.getD_eq_getElem?_getD, List.getElem?_take_of_lt hk]
end
end T12
theorem threadBack_walk (v0 v1 : Value) (W : World) (h0 : ∃ ws, T12.Iw W v0 ws ∧ ∀ x ∈ ws, -9223372036854775808 ≤ x ∧ x ≤ 9223372036854775807) (h1 : ∃ ws, T12.Iw W v1 ws ∧ ∀ x ∈ ws, -9223372036854775808 ≤ x ∧ x ≤ 9223372036854775807) :
    Calls Try.prog 16 #[v0, v1] W (Out W (.bool true)) := by
  obtain ⟨s, h0, _⟩ := h0
  obtain ⟨o, h1, _⟩ := h1
  have e0 := h0
  have e1 := h1
  obtain ⟨A0, c0, rfl, _⟩ := e0
  obtain ⟨A1, c1, rfl, _⟩ := e1
  exact threadBack_any h0 h1
end Go.Proofs.Ytcljgphipdbckaa
