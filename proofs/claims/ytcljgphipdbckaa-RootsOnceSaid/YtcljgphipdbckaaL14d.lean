/- What the law RootsOnce keeps in memory. -/
import Derived.Test.YtcljgphipdbckaaL14
import Derived.Test.YtcljgphipdbckaaP14b
namespace Go.Proofs.Ytcljgphipdbckaa
set_option linter.unusedVariables false
set_option linter.unusedSimpArgs false
open Go.RowKit

def bls (xs : List Bool) : List Value := xs.map Value.bool
theorem bls_get (xs : List Bool) (k : Nat) (h : k < xs.length) : (bls xs)[k]? = some (.bool (xs.getD k false)) := by
  simp [bls, List.getD, List.getElem?_map, List.getElem?_eq_getElem h]
theorem bls_snoc (xs : List Bool) (y : Bool) : bls xs ++ [.bool y] = bls (xs ++ [y]) := by simp [bls]
theorem bls_set (xs : List Bool) (k : Nat) (y : Bool) : (bls xs).set k (.bool y) = bls (xs.set k y) := by simp [bls, List.map_set]
theorem bool_info : (Try.prog.info? 4).map (fun i => (i.zero, i.size, i.bytes)) = some (some (.bool false), 1, 1) := by kernel_rfl

theorem own_ne {w : World} {B1 B2 e1 e2 s1 s2 n1 n2 : Nat} {v1 v2 : Value} {x1 x2 : List Value} (h1 : w.ownsRow B1 e1 s1 v1 n1 x1) (h2 : w.ownsRow B2 e2 s2 v2 n2 x2) (hne : e1 ≠ e2) : v1.ownBlock = none ∨ v1.ownBlock ≠ v2.ownBlock := by
  rcases h1.2 with ⟨rfl, _⟩ | ⟨g, cap, cur, rfl, _, hg, _⟩
  · exact .inl rfl
  · rcases h2.2 with ⟨rfl, _⟩ | ⟨g', cap', cur', rfl, _, hg', _⟩
    · exact .inr (by simp [Value.ownBlock])
    · refine .inr ?_
      intro e
      have : g = g' := by simpa [Value.ownBlock] using e
      subst this
      rw [hg] at hg'
      injection hg' with hg'
      injection hg' with _ ht
      exact hne ht

structure TS (W w : World) (i n0 nt : Nat) (A : Option Addr) (c : Nat) (ss : List Slot) (At : Option Addr) (ct : Nat) (ts : List Int) (Aa : Option Addr) (ca : Nat) (al : List Bool) : Prop where
  fine : Fine i ss ts al
  len : ss.length = n0
  tlen : ts.length = nt
  tab : Sw w (.slice A n0 c) ss
  far : (∀ g, (Value.slice A n0 c).ownBlock = some g → g < W.heap.size) ∨ ∃ B, w.ownsRow B 89 3 (.slice A n0 c) n0 (sls ss)
  told : w.ownsRow W.heap.size 3 1 (.slice At nt ct) nt (its ts)
  live : w.ownsRow W.heap.size 4 1 (.slice Aa nt ca) nt (bls al)
  below : Below W.heap.size W w

section
variable {W w w' : World} {i n0 nt : Nat} {A At Aa : Option Addr} {c ct ca : Nat} {ss : List Slot} {ts : List Int} {al : List Bool}
theorem grown_none {w w' : World} (hb : Below w.heap.size w w') : w.grownBy w' none := ⟨hb.os, hb.tape, hb.output, hb.size, fun k hk _ => hb.block k hk⟩
theorem nb_none (v : Value) : v.ownBlock = none ∨ v.ownBlock ≠ none := by cases v.ownBlock <;> simp
theorem TS.step (h : TS W w i n0 nt A c ss At ct ts Aa ca al) (hb : Below w.heap.size w w') : TS W w' i n0 nt A c ss At ct ts Aa ca al :=
  ⟨h.fine, h.len, h.tlen, h.tab.below hb, h.far.imp id (fun ⟨B, ho⟩ => ⟨B, ho.kept (row := none) (grown_none hb) (nb_none _)⟩), h.told.kept (row := none) (grown_none hb) (nb_none _), h.live.kept (row := none) (grown_none hb) (nb_none _), below_tr14 h.below hb⟩
theorem TS.drewN (h : TS W w i n0 nt A c ss At ct ts Aa ca al) (k : Nat) : TS W (w.drewN k) i n0 nt A c ss At ct ts Aa ca al :=
  ⟨h.fine, h.len, h.tlen, h.tab, h.far, h.told, h.live, below_drewN h.below⟩
theorem TS.next (h : TS W w i n0 nt A c ss At ct ts Aa ca al) : TS W w (i + 1) n0 nt A c ss At ct ts Aa ca al :=
  ⟨h.fine.next, h.len, h.tlen, h.tab, h.far, h.told, h.live, h.below⟩
theorem TS.alen (h : TS W w i n0 nt A c ss At ct ts Aa ca al) : al.length = nt := h.fine.len.symm.trans h.tlen
theorem TS.told_at (h : TS W w i n0 nt A c ss At ct ts Aa ca al) {K : Nat} (hK : K < nt) : ∃ g, At = some ⟨g, 0, none⟩ ∧ g < w.heap.size ∧ w.cell? ⟨g, K, none⟩ = some (.int .i64 (ts.getD K 0)) := by
  obtain ⟨g, cap, e, h1, h2⟩ := h.told.form (by omega)
  injection e with e1 e2 e3
  subst e1 e3
  refine ⟨g, rfl, h2, ?_⟩
  rw [h.told.cellAt K (by omega), its_get _ _ (by rw [h.tlen]; exact hK)]
theorem TS.live_at (h : TS W w i n0 nt A c ss At ct ts Aa ca al) {K : Nat} (hK : K < nt) : ∃ g, Aa = some ⟨g, 0, none⟩ ∧ W.heap.size ≤ g ∧ g < w.heap.size ∧ w.cell? ⟨g, K, none⟩ = some (.bool (al.getD K false)) ∧ w.frozen? ⟨g, K, none⟩ = false := by
  obtain ⟨g, cap, e, h1, h2⟩ := h.live.form (by omega)
  injection e with e1 e2 e3
  subst e1 e3
  refine ⟨g, rfl, h1, h2, ?_, h.live.frozenAt K⟩
  rw [h.live.cellAt K (by omega), bls_get _ _ (by rw [h.alen]; exact hK)]
theorem TS.apart_live (h : TS W w i n0 nt A c ss At ct ts Aa ca al) : (Value.slice A n0 c).ownBlock = none ∨ (Value.slice A n0 c).ownBlock ≠ (Value.slice Aa nt ca).ownBlock := by
  rcases h.far with hf | ⟨B, ho⟩
  · cases hv : (Value.slice A n0 c).ownBlock with
    | none => exact .inl rfl
    | some g =>
      refine .inr fun e => ?_
      have := hf g hv
      have := (h.live.lt g e.symm).1
      omega
  · exact own_ne ho h.live (by decide)
theorem TS.drop {g : Nat} (h : TS W w i n0 nt A c ss At ct ts (some ⟨g, 0, none⟩) ca al) (hi : i < 40) {B K : Nat} {A' : Option Addr} {c' : Nat} (hK : K < nt) (ho : w.ownsRow B 89 3 (.slice A' n0 c') n0 (sls (dropL ss (ts.getD K 0)))) :
    TS W (w.setCell ⟨g, K, none⟩ (.bool false)) (i + 1) n0 nt A' c' (dropL ss (ts.getD K 0)) At ct ts (some ⟨g, 0, none⟩) ca (al.set K false) := by
  have hfine := (h.fine.drop hi K (by rw [h.tlen]; exact hK)).2
  have hst := h.live.stored K (.bool false)
  have hgr := hst.2
  have hl := dropL_len ss (ts.getD K 0)
  have h1 : (Value.slice A' n0 c').ownBlock = none ∨ (Value.slice A' n0 c').ownBlock ≠ some g := own_ne ho h.live (by decide)
  have h2 : (Value.slice At nt ct).ownBlock = none ∨ (Value.slice At nt ct).ownBlock ≠ some g := own_ne h.told h.live (by decide)
  have ho' := ho.kept hgr h1
  have e1 : (dropL ss (ts.getD K 0)).length = n0 := by rw [hl, h.len]
  refine ⟨hfine, e1, h.tlen, ?_, .inr ⟨_, ho'⟩, h.told.kept hgr h2, ?_, ?_⟩
  · have := Sw.of_own (ss := dropL ss (ts.getD K 0)) (by rw [e1]; exact ho') hfine.fit
    exact this
  · have := hst.1; rw [bls_set] at this; exact this
  · exact h.below.setCell (h.live.lt g rfl).1 _
/-- a put that is done -/
theorem TS.put (h : TS W w i n0 nt A c ss At ct ts Aa ca al) {B : Nat} {A' At' Aa' : Option Addr} {c' ct' ca' : Nat} {ss' : List Slot} {w3 w4 : World} {H : Int} (hl : ss'.length = n0) (ho : w.ownsRow B 89 3 (.slice A' n0 c') n0 (sls ss'))
    (hfine : Fine (i + 1) ss' (ts ++ [H]) (al ++ [true])) (h3 : w3.ownsRow W.heap.size 3 1 (.slice At' (nt + 1) ct') (nt + 1) (its (ts ++ [H]))) (g3 : w.grownBy w3 (Value.slice At nt ct).ownBlock)
    (h4 : w4.ownsRow W.heap.size 4 1 (.slice Aa' (nt + 1) ca') (nt + 1) (bls (al ++ [true]))) (g4 : w3.grownBy w4 (Value.slice Aa nt ca).ownBlock) : TS W w4 (i + 1) n0 (nt + 1) A' c' ss' At' ct' (ts ++ [H]) Aa' ca' (al ++ [true]) := by
  have l3 := h.live.kept g3 (own_ne h.live h.told (by decide))
  have o3 := ho.kept g3 (own_ne ho h.told (by decide))
  have o4 := o3.kept g4 (own_ne o3 l3 (by decide))
  have b3 := below_grown h.below h.below.size h.told g3
  have b4 := below_grown b3 b3.size l3 g4
  refine ⟨hfine, hl, by simp [h.tlen], ?_, .inr ⟨_, o4⟩, h3.kept g4 (own_ne h3 l3 (by decide)), h4, b4⟩
  subst hl
  exact Sw.of_own o4 hfine.fit
theorem TS.live_told (h : TS W w i n0 nt A c ss At ct ts Aa ca al) {w3 : World} (g3 : w.grownBy w3 (Value.slice At nt ct).ownBlock) : w3.ownsRow W.heap.size 4 1 (.slice Aa nt ca) nt (bls al) :=
  h.live.kept g3 (own_ne h.live h.told (by decide))
theorem Few60 {n : Nat} (h : n ≤ 60) : Few n := by unfold Few; omega

/-! ### the calls -/
theorem put_once (h : TS W w i n0 nt A c ss At ct ts Aa ca al) (hn : n0 ≤ 60) (x : Int) (hx : U64 x) : Calls Try.prog 59 #[.slice A n0 c, .int .u64 x] w fun e w' => ∃ A' c', e = .returned (.tuple #[.slice A' n0 c', .int .i64 (putH ss), .int .i64 (putE ss)]) ∧ w'.ownsRow w.heap.size 89 3 (.slice A' n0 c') n0 (sls (putL ss x)) ∧ Below w.heap.size w w' := by
  have k := put_any (c := c) (A := A) (ss := ss) (w := w) x (by rw [h.len]; exact h.tab) hx (by rw [h.len]; exact Few60 hn)
  rw [h.len] at k
  refine k.mono ?_
  rintro e w' ⟨A', c', rfl, ho, hf, hb⟩
  rw [putL_len, h.len] at ho ⊢
  exact ⟨A', c', rfl, ho, hb⟩
theorem drop_once (h : TS W w i n0 nt A c ss At ct ts Aa ca al) (hn : n0 ≤ 60) (x : Int) (hx : x ≤ 9223372036854775807) : Calls Try.prog 65 #[.slice A n0 c, .int .i64 x] w fun e w' => ∃ A' c', e = .returned (.tuple #[.slice A' n0 c', .int .i64 (fndE ss x)]) ∧ w'.ownsRow w.heap.size 89 3 (.slice A' n0 c') n0 (sls (dropL ss x)) ∧ Below w.heap.size w w' := by
  have k := drop_any (c := c) (A := A) (ss := ss) (w := w) x hx (by rw [h.len]; exact h.tab) (by rw [h.len]; exact Few60 hn)
  rw [h.len] at k
  refine k.mono ?_
  rintro e w' ⟨A', c', rfl, ho, hf, hb⟩
  rw [dropL_len, h.len] at ho ⊢
  exact ⟨A', c', rfl, ho, hb⟩
theorem get_once (h : TS W w i n0 nt A c ss At ct ts Aa ca al) (x : Int) (hx : x ≤ 9223372036854775807) : Calls Try.prog 61 #[.slice A n0 c, .int .i64 x] w (Out w (.tuple #[.int .u64 (getW ss x), .int .i64 (fndE ss x)])) := by
  have k := get_any (c := c) (A := A) (ss := ss) (w := w) x hx (by rw [h.len]; exact h.tab)
  rw [h.len] at k
  exact k
theorem used_once (h : TS W w i n0 nt A c ss At ct ts Aa ca al) : Calls Try.prog 70 #[.slice A n0 c] w (Out w (.int .i64 (usedN ss : Nat))) := used_any h.tab
theorem right_once (h : TS W w i n0 nt A c ss At ct ts Aa ca al) (h1 : 1 ≤ n0) (h2 : n0 ≤ 60) : Calls Try.prog 69 #[.slice A n0 c, .int .i64 (n0 : Nat)] w (Out w (.bool true)) := by
  have k := right_any (n0 : Int) h.tab
  have e : rightB ss (n0 : Int) = true := by
    rw [right_all h.fine.may, h.len]; simp; omega
  rw [e] at k
  exact k
theorem Tell.le_max {ss : List Slot} {h : Int} (t : Tell ss h) (hg : (slot ss (hJ h)).gen ≤ 1099511627776) : h ≤ 9223372036854775807 := by
  have := t.le; omega
theorem TS.hd_max (h : TS W w i n0 nt A c ss At ct ts Aa ca al) (hi : i ≤ 40) {K : Nat} (hK : K < nt) : ts.getD K 0 ≤ 9223372036854775807 := by
  have t := h.fine.tell K (by rw [h.tlen]; exact hK)
  have := h.fine.gen_lt hi t.lt
  exact t.le_max (by omega)
end
end Go.Proofs.Ytcljgphipdbckaa
