/- Arguments that are slices of records, opened. -/
import Derived.Test.YtcljgphipdbckaaL02c
import Derived.Deep.Slices
import Derived.Deep.Fields
import Derived.ChangeSame
import Derived.ProofKit
namespace Go.Proofs.Ytcljgphipdbckaa
section
open Go.ChangeShapes Go.WideShapes Go.Deep
section
variable {H : Type} {enc : TypeId × Value → H} {P : Program} {w : World} {base : Nat} {spare : Nat → Bool} {held : Bool}
theorem open_slice_fields {t e : TypeId} {fs : Array Field} {fuel : Nat} {cs : List Value} {x : DataW H × List MemPlace} (ht : P.underlying t = some (.slice e)) (he : P.underlying e = some (.struct fs))
    (hone : oneCellFields P fs = true) (hC : P.cellsOf e = fs.size) (h : DataW.trod enc P w base spare held fuel t cs = some x) :
    (cs = [.slice none 0 0] ∧ x = (.nil, [])) ∨
    ∃ (a : Addr) (len cap m : Nat) (D : Nat → DataW H) (Pl : Nat → List MemPlace), cs = [.slice (some a) len cap] ∧ base ≤ a.block ∧ len ≤ cap ∧ cap ≤ maxLen ∧ m = (if spare a.block then cap else len) ∧
      x = (.slice ((List.range len).map D) ((List.range (m - len)).map fun j => D (len + j)), MemPlace.row a (m * fs.size) ++ (List.range m).flatMap Pl) ∧
      ∀ i, i < m → ∃ (ys : List (DataW H × List MemPlace)) (n : Nat), D i = .agg (ys.map (·.1)) ∧ Pl i = ys.flatMap (·.2) ∧ ys.length = fs.size ∧
        ∀ (j : Nat) (f : Field), fs[j]? = some f → ∃ (v : Value) (y : DataW H × List MemPlace), w.cell? (a.add (i * fs.size + j)) = some v ∧ ys[j]? = some y ∧ DataW.trod enc P w base spare held n f.type [v] = some y := by
  rcases open_slice ht h with h0 | ⟨a, len, cap, m, n, D, Pl, hcs, hb, hl, hm, hmm, hx, hi⟩
  · exact .inl h0
  · refine .inr ⟨a, len, cap, m, D, Pl, hcs, hb, hl, hm, hmm, by rw [hC] at hx; exact hx, fun i him => ?_⟩
    obtain ⟨cs', hc, ht'⟩ := hi i him
    rw [hC] at hc
    obtain ⟨ys, n', hn', hy, hlen, hyl, hf⟩ := DataW.trod_struct he ht'
    obtain ⟨_, hcl, hat⟩ := World.cells?_some hc
    simp only [Prod.mk.injEq] at hy
    refine ⟨ys, n', hy.1, hy.2, hyl, fun j f hj => ?_⟩
    obtain ⟨ho, hk⟩ := hone_of hone j f hj
    have hjl : j < fs.size := (Array.getElem?_eq_some_iff.1 hj).1
    have hcell := hat j hjl
    have hv : cs'[j]? = some (cs'[j]'(by omega)) := List.getElem?_eq_getElem (by omega)
    have h1 := hf j f hj
    rw [ho, hk] at h1
    have hone' : (cs'.drop j).take 1 = [cs'[j]'(by omega)] := by
      rw [List.drop_eq_getElem_cons (by omega)]
      rfl
    rw [hone'] at h1
    have hys : ys[j]? = some (ys[j]'(by omega)) := List.getElem?_eq_getElem (by omega)
    refine ⟨_, _, ?_, hys, h1.trans hys⟩
    rw [← Go.Deep.add_add, hcell, hv]
end
end

section
open Go.ChangeShapes Go.WideShapes Go.ChangeAt Go.RowKit
variable {H : Type} {enc : TypeId × Value → H} {w : World} {base : Nat} {d : DataW H} {p : List MemPlace} {v : Value}

set_option maxRecDepth 100000 in
/-- an argument that is a slice of deeds with an arena -/
theorem open_deeds {t e fi fu : TypeId} {s0 s1 s2 s3 s4 : Field} (ht : Try.prog.underlying t = some (.slice e)) (he : Try.prog.underlying e = some (.struct #[s0, s1, s2, s3, s4]))
    (t0 : s0.type = fi) (t1 : s1.type = fi) (t2 : s2.type = fi) (t3 : s3.type = fi) (t4 : s4.type = fu) (hi : Try.prog.underlying fi = some (.int .i64)) (hu : Try.prog.underlying fu = some (.int .u64))
    (hone : Go.Deep.oneCellFields Try.prog #[s0, s1, s2, s3, s4] = true) (hC : Try.prog.cellsOf e = 5)
    (hv : Value.okWide Try.prog w .any base t v) (h : DataW.Trod enc Try.prog w 0 (fun _ => true) true t v d p) : ∃ (n : Nat) (ds : Nat → Deed), Recs w v 5 n (fun k => (ds k).cells) ∧ ∀ k, k < n → U64 (ds k).w := by
  obtain ⟨a0, len, cap, rfl⟩ := okWide_slice ht hv
  obtain ⟨fuel, hf⟩ := h
  rcases open_slice_fields ht he hone hC hf with ⟨hcs, _⟩ | ⟨a, l, c, m, D, Pl, hcs, _, hl, hm, hmm, _, hi5⟩
  · simp [Value.cells] at hcs
    obtain ⟨rfl, rfl, rfl⟩ := hcs
    exact ⟨0, fun _ => ⟨0, 0, 0, 0, 0⟩, ⟨none, 0, rfl, by simp, by simp [maxLen], fun _ => rfl, by simp⟩, fun k hk => by omega⟩
  · simp [Value.cells] at hcs
    obtain ⟨rfl, rfl, rfl⟩ := hcs
    have hm' : m = cap := by simpa using hmm
    subst hm'
    have key : ∀ i, ∃ dd : Deed, i < m → (U64 dd.w ∧ ∀ j u, dd.cells[j]? = some u → w.cell? (a.add (i * 5 + j)) = some u) := by
      intro i
      by_cases him : i < m
      · obtain ⟨ys, n, _, _, hyl, hff⟩ := hi5 i him
        obtain ⟨v0, y0, c0, _, r0⟩ := hff 0 s0 rfl
        obtain ⟨v1, y1, c1, _, r1⟩ := hff 1 s1 rfl
        obtain ⟨v2, y2, c2, _, r2⟩ := hff 2 s2 rfl
        obtain ⟨v3, y3, c3, _, r3⟩ := hff 3 s3 rfl
        obtain ⟨v4, y4, c4, _, r4⟩ := hff 4 s4 rfl
        rw [t0] at r0
        rw [t1] at r1
        rw [t2] at r2
        rw [t3] at r3
        rw [t4] at r4
        obtain ⟨x0, e0, _, _⟩ := DataW.trod_int hi r0
        obtain ⟨x1, e1, _, _⟩ := DataW.trod_int hi r1
        obtain ⟨x2, e2, _, _⟩ := DataW.trod_int hi r2
        obtain ⟨x3, e3, _, _⟩ := DataW.trod_int hi r3
        obtain ⟨x4, e4, _, wf4⟩ := DataW.trod_int hu r4
        simp only [List.cons.injEq, and_true] at e0 e1 e2 e3 e4
        subst e0 e1 e2 e3 e4
        refine ⟨⟨x0, x1, x2, x3, x4⟩, fun _ => ⟨wf_u64 wf4, fun j u hj => ?_⟩⟩
        have hjl : j < 5 := by
          have := (List.getElem?_eq_some_iff.1 hj).1
          simpa [Deed.cells] using this
        have hs : (#[s0, s1, s2, s3, s4] : Array Field).size = 5 := rfl
        rw [hs] at c0 c1 c2 c3 c4
        have hj5 : j = 0 ∨ j = 1 ∨ j = 2 ∨ j = 3 ∨ j = 4 := by omega
        rcases hj5 with rfl | rfl | rfl | rfl | rfl <;> (simp [Deed.cells] at hj; subst hj; assumption)
      · exact ⟨⟨0, 0, 0, 0, 0⟩, fun h => absurd h him⟩
    obtain ⟨ds, hds⟩ := Classical.skolem.1 key
    refine ⟨len, ds, ⟨some a, m, rfl, hl, hm, by simp, fun hn => ?_⟩, fun k hk => (hds k (by omega)).1⟩
    obtain ⟨b, o, spot⟩ := a
    have h0 := (hds 0 (by omega)).2 0 _ rfl
    have hs : spot = none := by simpa [Addr.add] using World.cell?_spot h0
    subst hs
    refine ⟨b, o, rfl, fun k hk => ⟨rfl, fun j u hj => ?_⟩⟩
    have := (hds k (by omega)).2 j u hj
    rw [add_plain] at this
    rw [Nat.add_assoc]
    exact this
end
open Go.RowKit in
theorem arenaPlays_walk (v dv : Value) (W : World) (hv : ∃ ws, Rw W v ws) (hd : ∃ (n : Nat) (ds : Nat → Deed), Recs W dv 5 n (fun k => (ds k).cells) ∧ ∀ k, k < n → U64 (ds k).w) :
    Calls Try.prog 6 #[v, dv] W fun e w' => e = .returned (.bool true) ∧ Below W.heap.size W w' := by
  obtain ⟨ws, hv⟩ := hv
  obtain ⟨n, ds, hd, hw⟩ := hd
  by_cases h : ws.length ≤ 200 ∧ n ≤ 60
  · exact arenaPlays_short v dv ws n ds W hv hd hw h.1 h.2
  · obtain ⟨A, c, rfl, h1, h2, _⟩ := hv.reads
    obtain ⟨D, cd, rfl, d1, d2, _⟩ := id hd
    unfold maxLen at h2 d2
    exact arenaPlays_long A ws.length c D n cd W (by omega) (by omega) (by omega)
end Go.Proofs.Ytcljgphipdbckaa
