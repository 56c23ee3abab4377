/- Memory: slices of records (structs of one-cell fields). -/
import Derived.Test.YtcljgphipdbckaaM02
import Derived.Deep.Slices
import Derived.Deep.Fields
import Derived.ChangeSame
import Derived.ProofKit
import Derived.OpenShut
namespace Go.Proofs.Ytcljgphipdbckaa
open Go.RowKit

/-- a slice value of n records of sz cells each; the k-th one's cells are f k -/
def Recs (w : World) (v : Value) (sz n : Nat) (f : Nat → List Value) : Prop :=
  ∃ A c, v = .slice A n c ∧ n ≤ c ∧ c ≤ maxLen ∧ (A = none → c = 0) ∧
    (0 < n → ∃ b o, A = some ⟨b, o, none⟩ ∧ ∀ k, k < n → (f k).length = sz ∧ ∀ j u, (f k)[j]? = some u → w.cell? ⟨b, o + k * sz + j, none⟩ = some u)
theorem Recs.kept {w w' : World} {v : Value} {sz n : Nat} {f : Nat → List Value} (h : Recs w v sz n f) {row : Option Nat} (hg : w.grownBy w' row) (hne : v.ownBlock = none ∨ v.ownBlock ≠ row) : Recs w' v sz n f := by
  obtain ⟨A, c, rfl, h1, h2, h4, h5⟩ := h
  refine ⟨A, c, rfl, h1, h2, h4, fun hn => ?_⟩
  obtain ⟨b, o, rfl, hc⟩ := h5 hn
  exact ⟨b, o, rfl, fun k hk => ⟨(hc k hk).1, fun j u hu => hg.cell ((hc k hk).2 j u hu) (by simpa [Value.ownBlock] using hne)⟩⟩
theorem Recs.below {w w' : World} {v : Value} {sz n : Nat} {f : Nat → List Value} (h : Recs w v sz n f) (hb : Below w.heap.size w w') : Recs w' v sz n f :=
  h.kept (row := none) ⟨hb.os, hb.tape, hb.output, hb.size, fun k hk _ => hb.block k hk⟩ (by cases v.ownBlock <;> simp)
theorem Recs.at_ {w : World} {A : Option Addr} {sz n c : Nat} {f : Nat → List Value} (h : Recs w (.slice A n c) sz n f) (hn : 0 < n) :
    ∃ b o, A = some ⟨b, o, none⟩ ∧ ∀ k, k < n → (f k).length = sz ∧ ∀ j u, (f k)[j]? = some u → w.cell? ⟨b, o + k * sz + j, none⟩ = some u := by
  obtain ⟨A', c', e, _, _, _, h3⟩ := h
  simp only [Value.slice.injEq] at e
  obtain ⟨rfl, _, rfl⟩ := e
  exact h3 hn
section
open Go.ChangeShapes Go.WideShapes Go.ChangeAt
variable {H : Type} {enc : TypeId × Value → H} {w : World} {base : Nat} {d : DataW H} {p : List MemPlace} {v : Value}

theorem wf_u64 {x : Int} (h : (Lit.int .u64 x).wf = true) : U64 x := by
  simp [Lit.wf, IntKind.min, IntKind.max, IntKind.signed, IntKind.bits] at h
  exact ⟨by omega, by omega⟩
theorem wf_i64 {x : Int} (h : (Lit.int .i64 x).wf = true) : -9223372036854775808 ≤ x ∧ x ≤ 9223372036854775807 := by
  simp [Lit.wf, IntKind.min, IntKind.max, IntKind.signed, IntKind.bits] at h
  exact ⟨by omega, by omega⟩
theorem add_plain (b o k : Nat) : (⟨b, o, none⟩ : Addr).add k = ⟨b, o + k, none⟩ := by
  unfold Addr.add; split
  · rename_i h; rw [h]; simp
  · rfl
set_option maxRecDepth 100000 in
/-- an argument that is a slice of words -/
theorem open_words {t e : TypeId} (ht : Try.prog.underlying t = some (.slice e)) (he : Try.prog.underlying e = some (.int .u64)) (hC : Try.prog.cellsOf e = 1) (hv : Value.okWide Try.prog w .any base t v) (h : DataW.Trod enc Try.prog w 0 (fun _ => true) true t v d p) : ∃ ws, Rw w v ws := by
  obtain ⟨a0, len, cap, rfl⟩ := okWide_slice ht hv
  obtain ⟨fuel, hf⟩ := h
  rcases open_ints ht he hC hf with ⟨hcs, _⟩ | ⟨x, l, c, zs, hcs, _, hl, hm, hz, _, hcell, hwz⟩
  · simp [Value.cells] at hcs
    obtain ⟨rfl, rfl, rfl⟩ := hcs
    exact ⟨[], ⟨none, 0, rfl, by simp, by simp [maxLen], fun _ => rfl, by simp⟩, AllU.nil⟩
  · simp [Value.cells] at hcs
    obtain ⟨rfl, rfl, rfl⟩ := hcs
    have hz' : zs.length = cap := by simpa using hz
    have hlen : (zs.take len).length = len := by rw [List.length_take]; omega
    refine ⟨zs.take len, ⟨some x, cap, by rw [hlen], by omega, hm, by simp, fun hn => ?_⟩, fun y hy => wf_u64 (hwz y (List.mem_of_mem_take hy))⟩
    rw [hlen] at hn ⊢
    obtain ⟨b, o, spot⟩ := x
    have h0 := hcell 0 (by omega)
    have hs : spot = none := by simpa [Addr.add] using World.cell?_spot h0
    subst hs
    refine ⟨b, o, rfl, fun k hk => ?_⟩
    have := hcell k (by omega)
    rw [add_plain] at this
    rw [this, List.getD_eq_getElem?_getD, List.getD_eq_getElem?_getD, List.getElem?_take_of_lt hk]
end
end Go.Proofs.Ytcljgphipdbckaa
