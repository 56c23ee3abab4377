/- Arguments that are heads, opened. -/
import Derived.Test.YtcljgphipdbckaaL07b
import Derived.Test.YtcljgphipdbckaaM03
import Derived.Lib.SmallJoins
import Derived.ChangeSame
import Derived.ProofKit
namespace Go.Proofs.Ytcljgphipdbckaa
set_option linter.unusedVariables false
set_option linter.unusedSimpArgs false
section
open Go.Joins Go.ChangeShapes Go.WideShapes Go.RowKit Go.Deep
section
variable {H : Type} {enc : TypeId × Value → H} {P : Program} {w : World} {base : Nat} {spare : Nat → Bool} {held : Bool}
theorem open_agg5 {r : Reach} {b0 : Nat} {t : TypeId} {f0 f1 f2 f3 f4 : Field} {v : Value} {d : DataW H} {p : List MemPlace} (hs : P.underlying t = some (.struct #[f0, f1, f2, f3, f4])) (hone : oneCellFields P #[f0, f1, f2, f3, f4] = true) (hC : P.cellsOf t = 5)
    (hv : Value.okWide P w r b0 t v) (h : DataW.Trod enc P w base spare held t v d p) :
    ∃ (v0 v1 v2 v3 v4 : Value) (y0 y1 y2 y3 y4 : DataW H × List MemPlace) (n : Nat), v = .agg #[v0, v1, v2, v3, v4] ∧ d = .agg [y0.1, y1.1, y2.1, y3.1, y4.1] ∧ p = y0.2 ++ (y1.2 ++ (y2.2 ++ (y3.2 ++ y4.2))) ∧
      DataW.trod enc P w base spare held n f0.type [v0] = some y0 ∧ DataW.trod enc P w base spare held n f1.type [v1] = some y1 ∧ DataW.trod enc P w base spare held n f2.type [v2] = some y2 ∧ DataW.trod enc P w base spare held n f3.type [v3] = some y3 ∧ DataW.trod enc P w base spare held n f4.type [v4] = some y4 := by
  obtain ⟨cs, rfl, hsz⟩ := okWide_struct hs hv
  obtain ⟨l⟩ := cs
  match l, hsz.trans hC with
  | [c0, c1, c2, c3, c4], _ =>
    obtain ⟨fuel, hf⟩ := h
    obtain ⟨xs, n, _, hx, _, hlen, hg⟩ := DataW.trod_struct hs hf
    obtain ⟨o0, k0⟩ := hone_of hone 0 f0 rfl
    obtain ⟨o1, k1⟩ := hone_of hone 1 f1 rfl
    obtain ⟨o2, k2⟩ := hone_of hone 2 f2 rfl
    obtain ⟨o3, k3⟩ := hone_of hone 3 f3 rfl
    obtain ⟨o4, k4⟩ := hone_of hone 4 f4 rfl
    match xs, hlen with
    | [y0, y1, y2, y3, y4], _ =>
      simp only [Prod.mk.injEq] at hx
      exact ⟨c0, c1, c2, c3, c4, y0, y1, y2, y3, y4, n, rfl, by simpa using hx.1, by simpa using hx.2, by simpa [Value.cells, o0, k0] using hg 0 f0 rfl, by simpa [Value.cells, o1, k1] using hg 1 f1 rfl, by simpa [Value.cells, o2, k2] using hg 2 f2 rfl, by simpa [Value.cells, o3, k3] using hg 3 f3 rfl, by simpa [Value.cells, o4, k4] using hg 4 f4 rfl⟩
end

section
variable {H : Type} {enc : TypeId × Value → H} {w : World} {base b0 : Nat} {spare : Nat → Bool} {held : Bool} {d : DataW H} {p : List MemPlace} {v : Value} {r : Reach}

set_option maxRecDepth 100000 in
/-- an argument that is a head -/
theorem open_head {t fi fb : TypeId} {s0 s1 s2 s3 s4 : Field} (hs : Try.prog.underlying t = some (.struct #[s0, s1, s2, s3, s4]))
    (t0 : s0.type = fi) (t1 : s1.type = fi) (t2 : s2.type = fi) (t3 : s3.type = fb) (t4 : s4.type = fi) (hi : Try.prog.underlying fi = some (.int .i64)) (hb : Try.prog.underlying fb = some .bool)
    (hone : oneCellFields Try.prog #[s0, s1, s2, s3, s4] = true) (hC : Try.prog.cellsOf t = 5)
    (hv : Value.okWide Try.prog w r b0 t v) (h : DataW.Trod enc Try.prog w base spare held t v d p) : ∃ x : Hd, v = .agg x.cells := by
  obtain ⟨v0, v1, v2, v3, v4, y0, y1, y2, y3, y4, n, rfl, _, _, r0, r1, r2, r3, r4⟩ := open_agg5 hs hone hC hv h
  rw [t0] at r0
  rw [t1] at r1
  rw [t2] at r2
  rw [t3] at r3
  rw [t4] at r4
  obtain ⟨x0, e0, _, _⟩ := DataW.trod_int hi r0
  obtain ⟨x1, e1, _, _⟩ := DataW.trod_int hi r1
  obtain ⟨x2, e2, _, _⟩ := DataW.trod_int hi r2
  obtain ⟨x3, e3, _⟩ := DataW.trod_bool hb r3
  obtain ⟨x4, e4, _, _⟩ := DataW.trod_int hi r4
  simp only [List.cons.injEq, and_true] at e0 e1 e2 e3 e4
  subst e0 e1 e2 e3 e4
  exact ⟨⟨x0, x1, x2, x3, x4⟩, rfl⟩
end
end

open Go.RowKit in
theorem headBack_args (v0 v1 : Value) (w : Int) (W : World) (h0 : ∃ x : Hd, v0 = .agg x.cells) (h1 : ∃ x : Hd, v1 = .agg x.cells) (hw : U64 w) :
    Calls Try.prog 10 #[v0, v1, .int .u64 w] W fun e w' => e = .returned (.bool true) ∧ Below W.heap.size W w' := by
  obtain ⟨a, rfl⟩ := h0
  obtain ⟨b, rfl⟩ := h1
  exact headBack_walk a b w hw W
end Go.Proofs.Ytcljgphipdbckaa
