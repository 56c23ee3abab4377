/- Layer 12: All at a thread of two. -/
import Derived.Test.YtcljgphipdbckaaA12
import Derived.Maps.OwnIn
import Derived.Maps.AppendAt
namespace Go.Proofs.Ytcljgphipdbckaa
set_option linter.unusedVariables false
set_option linter.unusedSimpArgs false
open Go.RowKit Go.Shelf
attribute [local go_sem] Oper.semAt_some

def AllTwo (w : World) (e : Ending) (w' : World) : Prop := ∃ A c, e = .returned (.tuple #[.slice A 2 c, .int .i64 0]) ∧ w'.ownsRow w.heap.size 3 1 (.slice A 2 c) 2 (T12.its [0, 1]) ∧ Below w.heap.size w w'

/-- what the loop's own cells hold -/
structure I12 (w : World) (A : Option Addr) (c : Nat) (pre : List Nat) (W : World) : Prop where
  below : Below w.heap.size w W
  table : Blk W w.heap.size 97 #[.slice A 2 c]
  res : Blk W (w.heap.size + 1) 86 #[.slice none 0 0]
  err : Blk W (w.heap.size + 2) 28 #[.int .i64 0]
  size : w.heap.size + 7 ≤ W.heap.size
  list : ∃ A' c', Blk W (w.heap.size + 3) 86 #[.slice A' pre.length c'] ∧ W.ownsRow (w.heap.size + 7) 3 1 (.slice A' pre.length c') pre.length (T12.its (pre.map Int.ofNat))
section
variable {w : World} {A : Option Addr} {c : Nat} {pre : List Nat} {W W' : World}
theorem I12.turn {k : Nat} (h : I12 w A c pre W) (hg : W.grownBy W' (some k)) (hk : w.heap.size + 4 ≤ k) (hne : ∀ (cs : Array Value) (fr : Nat × Nat), w.heap.size + 7 ≤ k → W.heap[k]? ≠ some (.cells cs 3 fr)) : I12 w A c pre W' := by
  obtain ⟨A', c', hb, ho⟩ := h.list
  refine ⟨h.below.grown hg (by have := h.size; omega) (fun j hj => by cases hj; omega), h.table.grown hg (by simp; omega), h.res.grown hg (by simp; omega), h.err.grown hg (by simp; omega), Nat.le_trans h.size hg.size, A', c', hb.grown hg (by simp; omega), ho.kept hg ?_⟩
  rcases ho.2 with ⟨e, _⟩ | ⟨g, cap, cur, e, hg1, hg2, _⟩
  · left; rw [e]; rfl
  · right
    rw [e]
    intro e2
    have : g = k := by simpa [Value.ownBlock] using e2
    subst this
    exact hne _ _ hg1 hg2
theorem I12.belowW (h : I12 w A c pre W) (hb : Below W.heap.size W W') : I12 w A c pre W' := by
  obtain ⟨A', c', hb1, ho⟩ := h.list
  have hg : W.grownBy W' none := T12.grown_none hb
  exact ⟨h.below.trans (hb.mono (by have := h.size; omega)), h.table.below hb h.table.lt, h.res.below hb h.res.lt, h.err.below hb h.err.lt, Nat.le_trans h.size hb.size, A', c', hb1.below hb hb1.lt, ho.kept hg (T12.nb_none _)⟩
end

theorem body_end {w W w3 : World} {A A' A2 : Option Addr} {c c' c2 : Nat} {pre : List Nat} {x n1 : Nat} {X : Int} (a : Act) (hi : I12 w A c pre W) (kl : Blk W (w.heap.size + 3) 86 #[.slice A' pre.length c']) (ho : W.ownsRow (w.heap.size + 7) 3 1 (.slice A' pre.length c') pre.length (T12.its (pre.map Int.ofNat)))
    (hn1 : n1 = pre.length + 1) (hX : X = x) (hown : w3.ownsRow (w.heap.size + 7) 3 1 (.slice A2 n1 c2) n1 (T12.its (pre.map Int.ofNat) ++ [.int .i64 X])) (hgr : (W.alloc (.cells #[.int .i64 X] 3)).grownBy w3 (Value.slice A' pre.length c').ownBlock) :
    goesOn (Kp12 w.heap.size) (I12 w A c) (pre ++ [x]) W .normal a (w3.setCell ⟨w.heap.size + 3, 0, none⟩ (.slice A2 n1 c2)) := by
  subst hn1 hX
  have hz := hi.size
  have hw : ∀ {V : World} {v : Value} {n : Nat} {xs : List Value}, V.ownsRow (w.heap.size + 7) 3 1 v n xs → V.ownsRow w.heap.size 3 1 v n xs := by
    intro V v n xs h
    rcases h with ⟨h1, h2 | ⟨g, cap, cur, e, h3, h4⟩⟩
    · exact ⟨h1, .inl h2⟩
    · exact ⟨h1, .inr ⟨g, cap, cur, e, by omega, h4⟩⟩
  obtain ⟨p1, p2, p3, p4, p5⟩ := Boxed.appended (B := w.heap.size + 3) kl (by decide) (hw ho) (by omega) (by omega) (hw hown) hgr
  have hlt : ∀ g, (Value.slice A' pre.length c').ownBlock = some g → w.heap.size + 7 ≤ g := fun g hg => (ho.lt g hg).1
  have same : ∀ k, k < W.heap.size → k ≠ w.heap.size + 3 → (∀ g, (Value.slice A' pre.length c').ownBlock = some g → k ≠ g) → (w3.setCell ⟨w.heap.size + 3, 0, none⟩ (.slice A2 (pre.length + 1) c2)).heap[k]? = W.heap[k]? := by
    intro k h1 h2 h3
    rw [Below.heap_setCell w3 ⟨w.heap.size + 3, 0, none⟩ _ k h2, hgr.block k (by simp; omega) (fun e => h3 k e.symm rfl), Below.heap_alloc W _ k h1]
  refine ⟨p4, ⟨p5, fun k h1 h2 => same k (by omega) (by omega) (fun g hg => by have := hlt g hg; omega), fun k cs hk => ?_⟩, ?_⟩
  · rw [same k (Array.getElem?_eq_some_iff.1 hk).1 ?_ ?_]
    · exact hk
    · rintro rfl
      have : W.heap[w.heap.size + 3]? = _ := kl
      rw [this] at hk
      cases hk
    · rintro g hg rfl
      exact own_blk_ne ho hk (by decide) hg
  · have hbl : ∀ {i : Nat} {t : TypeId} {cs : Array Value}, Blk W i t cs → i < w.heap.size + 3 → Blk (w3.setCell ⟨w.heap.size + 3, 0, none⟩ (.slice A2 (pre.length + 1) c2)) i t cs := fun {i t cs} h h1 =>
      (same i (by omega) (by omega) (fun g hg => by have := hlt g hg; omega)).trans h
    refine ⟨hi.below.trans p5, hbl hi.table (by omega), hbl hi.res (by omega), hbl hi.err (by omega), Nat.le_trans hz p5.size, A2, c2, ?_, ?_⟩
    · rw [List.length_append]
      exact p2
    · have := hown.kept (grownBy_setCell' w3 (w.heap.size + 3) (.slice A2 (pre.length + 1) c2)) (.inr (p1.not_row (by decide) hown).symm)
      simpa [T12.its] using this

set_option maxRecDepth 100000 in
set_option maxHeartbeats 6400000 in
theorem all_two {w : World} {B p : Nat} {v : Value} {ws : List Int} {A : Option Addr} {c : Nat} {sp : Nat → Int × Int} (hal : ws.length ≤ 1000000) (ha0 : 0 ≤ (sp 0).1) (ha1 : 0 ≤ (sp 1).1)
    (h0 : oE ws (sp 0).1 = 0) (h1 : oE ws (sp 1).1 = 0) (c0 : (oH ws (sp 0).1).cursor = 2) (c1 : (oH ws (sp 1).1).cursor = 0)
    (h : Ar w B p v ws) (ht : Recs w (.slice A 2 c) 2 2 (fun k => [.int .i64 (sp k).1, .int .i64 (sp k).2])) :
    Calls Try.prog 124 #[.pointer (some ⟨p, 0, none⟩), .slice A 2 c, .int .i64 1] w (AllTwo w) := by
  refine (callsIn_wide (n := 5)).1 ?_
  refine callsIn_of_wp_marks Try.func124 rfl trivial ?_ rfl
  simp only [Try.ntmps124, List.size_toArray, List.length_cons, List.length_nil, Nat.reduceAdd, Nat.reduceSub, Array.replicate_succ, Array.replicate_zero, List.push_toArray, List.append_toArray, List.nil_append, List.cons_append]
  gi_wp2_with fail
  refine ⟨trivial, (callsIn_wide.2 (each_mk _ _ _ _ _ _)).mono ?_⟩
  rintro e w1 ⟨rfl, rfl⟩
  gi_wp2
  generalize hW0 : (((((((w.alloc (Obj.cells #[Value.slice A 2 c] 97)).alloc (Obj.cells #[Value.slice none 0 0] 86)).alloc (Obj.cells #[Value.int IntKind.i64 0] 28)).alloc (Obj.cells #[Value.slice none 0 0] 86)).alloc
              (Obj.cells #[Value.pointer (some { block := p, off := 0 })] 37)).alloc (Obj.cells #[Value.slice A 2 c] 97)).alloc (Obj.cells #[Value.int IntKind.i64 1] 3)) = W0
  have hsz : W0.heap.size = w.heap.size + 7 := by rw [← hW0]; simp
  have hb0 : Below w.heap.size w W0 := by
    rw [← hW0]
    exact (((((((Below.refl _ w).alloc (Nat.le_refl _) _).alloc (by simp) _).alloc (by simp; omega) _).alloc (by simp; omega) _).alloc (by simp; omega) _).alloc (by simp; omega) _).alloc (by simp; omega) _
  have k0 : Blk W0 w.heap.size 97 #[.slice A 2 c] := by rw [← hW0]; exact ((((((Blk.new w 97 _).alloc _).alloc _).alloc _).alloc _).alloc _).alloc _
  have k1 : Blk W0 (w.heap.size + 1) 86 #[.slice none 0 0] := by
    rw [← hW0]; have := Blk.new (w.alloc (Obj.cells #[Value.slice A 2 c] 97)) 86 #[.slice none 0 0]; rw [World.size_alloc] at this; exact ((((this.alloc _).alloc _).alloc _).alloc _).alloc _
  have k2 : Blk W0 (w.heap.size + 2) 28 #[.int .i64 0] := by
    rw [← hW0]; have := Blk.new ((w.alloc (Obj.cells #[Value.slice A 2 c] 97)).alloc (Obj.cells #[Value.slice none 0 0] 86)) 28 #[.int .i64 0]; simp only [World.size_alloc] at this; exact (((this.alloc _).alloc _).alloc _).alloc _
  have k3 : Blk W0 (w.heap.size + 3) 86 #[.slice none 0 0] := by
    rw [← hW0]; have := Blk.new (((w.alloc (Obj.cells #[Value.slice A 2 c] 97)).alloc (Obj.cells #[Value.slice none 0 0] 86)).alloc (Obj.cells #[Value.int IntKind.i64 0] 28)) 86 #[.slice none 0 0]; simp only [World.size_alloc] at this; exact ((this.alloc _).alloc _).alloc _
  have k4 : Blk W0 (w.heap.size + 4) 37 #[.pointer (some ⟨p, 0, none⟩)] := by
    rw [← hW0]; have := Blk.new ((((w.alloc (Obj.cells #[Value.slice A 2 c] 97)).alloc (Obj.cells #[Value.slice none 0 0] 86)).alloc (Obj.cells #[Value.int IntKind.i64 0] 28)).alloc (Obj.cells #[Value.slice none 0 0] 86)) 37 #[.pointer (some ⟨p, 0, none⟩)]; simp only [World.size_alloc] at this; exact (this.alloc _).alloc _
  have k5 : Blk W0 (w.heap.size + 5) 97 #[.slice A 2 c] := by
    rw [← hW0]; have := Blk.new (((((w.alloc (Obj.cells #[Value.slice A 2 c] 97)).alloc (Obj.cells #[Value.slice none 0 0] 86)).alloc (Obj.cells #[Value.int IntKind.i64 0] 28)).alloc (Obj.cells #[Value.slice none 0 0] 86)).alloc
              (Obj.cells #[Value.pointer (some { block := p, off := 0 })] 37)) 97 #[.slice A 2 c]; simp only [World.size_alloc] at this; exact this.alloc _
  have k6 : Blk W0 (w.heap.size + 6) 3 #[.int .i64 1] := by
    rw [← hW0]; have := Blk.new ((((((w.alloc (Obj.cells #[Value.slice A 2 c] 97)).alloc (Obj.cells #[Value.slice none 0 0] 86)).alloc (Obj.cells #[Value.int IntKind.i64 0] 28)).alloc (Obj.cells #[Value.slice none 0 0] 86)).alloc
              (Obj.cells #[Value.pointer (some { block := p, off := 0 })] 37)).alloc (Obj.cells #[Value.slice A 2 c] 97)) 3 #[.int .i64 1]; simp only [World.size_alloc] at this; exact this
  clear hW0
  refine range_box (w := W0) rfl (by omega) (gf := 132) (lb := #[.pointer (some ⟨w.heap.size + 6, 0, none⟩), .pointer (some ⟨w.heap.size + 4, 0, none⟩), .pointer (some ⟨w.heap.size + 5, 0, none⟩)]) rfl trivial (enters_of Try.func132 (by kernel_rfl) rfl)
    (encs := fun x : Nat => #[.int .i64 (x : Nat), .int .i64 0]) (fun _ => rfl) [0, 1] ⟨w.heap.size + 6, 0, none⟩ (Kp12 w.heap.size) Kp12.tr ?keepb
    (fun J W hb hJ hJb hY hj => each1_in hal ha0 ha1 h0 h1 c0 c1 h ht 3 _ (by omega) J W (hb0.trans (hb.mono (by omega))) hJ hJb hY hj (k4.below hb k4.lt) (k5.below hb k5.lt) (k6.below hb k6.lt))
    (I12 w A c) (fun s X Y hi hb => hi.belowW hb) ?setb ?putb ⟨hb0, k0, k1, k2, by omega, none, 0, k3, World.ownsRow_nil _ _ _ _⟩
    (fun x => { tmps := #[.pointer (some ⟨p, 0, none⟩), .slice A 2 c, .int .i64 1, undef, .pointer (some ⟨w.heap.size, 0, none⟩), undef, .pointer (some ⟨w.heap.size + 1, 0, none⟩), .pointer (some ⟨w.heap.size + 1 + 1, 0, none⟩), .pointer (some ⟨w.heap.size + 1 + 1 + 1, 0, none⟩),
      .int .i64 (x : Nat), .int .i64 0, .pointer (some ⟨p, 0, none⟩), .slice A 2 c, .int .i64 1, .func (.func 132) #[] #[.pointer (some ⟨w.heap.size + 1 + 1 + 1 + 1 + 2, 0, none⟩), .pointer (some ⟨w.heap.size + 1 + 1 + 1 + 1, 0, none⟩), .pointer (some ⟨w.heap.size + 1 + 1 + 1 + 1 + 1, 0, none⟩)],
      .int .i64 (x : Nat), .int .i64 0, undef, undef, undef, undef, undef, undef, undef, undef, undef, undef, undef, undef, undef, undef, undef], defers := [] }) ?assign ?body ?done
  case keepb =>
    intro W o hW ho o'
    have hg := grownBy_putObj' W (W0.heap.size + 1) o'
    refine ⟨((Below.refl _ W).grown hg (by have := (Array.getElem?_eq_some_iff.1 hW).1; omega) (fun j hj => by cases hj; omega)), fun k h1 h2 => World.putObj_heap_other (by omega), fun k cs hk => ?_⟩
    rw [World.putObj_heap_other]
    · exact hk
    · rintro rfl
      rw [hW] at hk
      cases hk
      cases ho
  case setb =>
    intro s X v hi
    exact hi.turn (grownBy_setCell' X (w.heap.size + 6) v) (by omega) (fun cs fr hh => by omega)
  case putb =>
    intro s X o o' hi hX ho
    refine hi.turn (grownBy_putObj' X (W0.heap.size + 1) o') (by omega) (fun cs fr hh e => ?_)
    rw [e] at hX
    cases hX
    cases ho
  case assign =>
    intro x W K hK
    gi_wp2
    exact hK
  case body =>
    intro pre x post W hx hi
    obtain ⟨i0, hii, hz0, hz1, hz2⟩ := info_parts T12.i64_info
    have hpx : (pre = [] ∧ x = 0) ∨ (pre = [0] ∧ x = 1) := by
      match pre, hx with
      | [], hx => simp at hx; exact .inl ⟨rfl, hx.1.symm⟩
      | [a], hx => simp at hx; obtain ⟨rfl, rfl, _⟩ := hx; exact .inr ⟨rfl, rfl⟩
      | a :: b :: t, hx => simp at hx
    clear hx
    rcases hpx with ⟨rfl, rfl⟩ | ⟨rfl, rfl⟩
    · obtain ⟨A', c', kl, ho⟩ := hi.list
      have kt := hi.table
      have hbw := hi.below
      have hsz2 := hi.size
      have qT := kt.cell 0
      have qL : W.cell? ⟨w.heap.size + 1 + 1 + 1, 0, none⟩ = some (.slice A' 0 c') := kl.cell 0
      have uL : W.frozen? ⟨w.heap.size + 1 + 1 + 1, 0, none⟩ = false := kl.frozen 0
      have HI := Lib.hid hi
      have HO := Lib.hid ho
      have KL := Lib.hid kl
      clear hi ho kl kt hbw
      gi_wp2_with (gi_at_builtin; go_loud (refine wpListIn_append_own_at _ rfl (.tmp 27) (.tmp 29) 86 rfl (w.heap.size + 7) 3 i0 (.int .i64 0) 1 8 Try.underlying86 hii hz0 hz1 hz2 rfl (by decide) (.slice A' 0 c') 0 (T12.its (List.map Int.ofNat [])) rfl (HO.out.alloc _) ⟨W.heap.size, 0, none⟩ 1 1 [.int .i64 0] rfl rfl (cell_one_new _ _ _) (by simp [Value.oneCell']) (by unfold maxLen; omega) (by omega) (by simp; omega) ?_); intro v' w3 hown hgr _ _; obtain ⟨A2, c2, rfl⟩ := T12.own_slice2 hown; have HOW := Lib.hid hown; have HGR := Lib.hid hgr; have KL3 : Hid (Blk w3 (w.heap.size + 3) 86 #[.slice A' 0 c']) := (KL.out.alloc _).grown hgr (fun e => own_blk_ne HO.out KL.out (by decide) e.symm); have q3 : w3.cell? ⟨w.heap.size + 1 + 1 + 1, 0, none⟩ = some (.slice A' 0 c') := KL3.out.cell 0; have u3 : w3.frozen? ⟨w.heap.size + 1 + 1 + 1, 0, none⟩ = false := KL3.out.frozen 0; clear hown hgr)
      exact body_end (c' := c') _ HI.out KL.out HO.out rfl rfl HOW.out HGR.out
    · obtain ⟨A', c', kl, ho⟩ := hi.list
      have kt := hi.table
      have hbw := hi.below
      have hsz2 := hi.size
      have qT := kt.cell 0
      have qL : W.cell? ⟨w.heap.size + 1 + 1 + 1, 0, none⟩ = some (.slice A' 1 c') := kl.cell 0
      have uL : W.frozen? ⟨w.heap.size + 1 + 1 + 1, 0, none⟩ = false := kl.frozen 0
      have HI := Lib.hid hi
      have HO := Lib.hid ho
      have KL := Lib.hid kl
      clear hi ho kl kt hbw
      gi_wp2_with (gi_at_builtin; go_loud (refine wpListIn_append_own_at _ rfl (.tmp 27) (.tmp 29) 86 rfl (w.heap.size + 7) 3 i0 (.int .i64 0) 1 8 Try.underlying86 hii hz0 hz1 hz2 rfl (by decide) (.slice A' 1 c') 1 (T12.its (List.map Int.ofNat [0])) rfl (HO.out.alloc _) ⟨W.heap.size, 0, none⟩ 1 1 [.int .i64 1] rfl rfl (cell_one_new _ _ _) (by simp [Value.oneCell']) (by unfold maxLen; omega) (by omega) (by simp; omega) ?_); intro v' w3 hown hgr _ _; obtain ⟨A2, c2, rfl⟩ := T12.own_slice2 hown; have HOW := Lib.hid hown; have HGR := Lib.hid hgr; have KL3 : Hid (Blk w3 (w.heap.size + 3) 86 #[.slice A' 1 c']) := (KL.out.alloc _).grown hgr (fun e => own_blk_ne HO.out KL.out (by decide) e.symm); have q3 : w3.cell? ⟨w.heap.size + 1 + 1 + 1, 0, none⟩ = some (.slice A' 1 c') := KL3.out.cell 0; have u3 : w3.frozen? ⟨w.heap.size + 1 + 1 + 1, 0, none⟩ = false := KL3.out.frozen 0; clear hown hgr)
      exact body_end (c' := c') _ HI.out KL.out HO.out rfl rfl HOW.out HGR.out
  case done =>
    intro W hi hK
    obtain ⟨A', c', kl, ho⟩ := hi.list
    have qL : W.cell? ⟨w.heap.size + 1 + 1 + 1, 0, none⟩ = some (.slice A' 2 c') := kl.cell 0
    have kr := hi.res
    have ke := hi.err
    have hbw := hi.below
    have hsz2 := hi.size
    have q1 : W.cell? ⟨w.heap.size + 1, 0, none⟩ = some (.slice none 0 0) := kr.cell 0
    have u1 : W.frozen? ⟨w.heap.size + 1, 0, none⟩ = false := kr.frozen 0
    have q2 : W.cell? ⟨w.heap.size + 1 + 1, 0, none⟩ = some (.int .i64 0) := ke.cell 0
    have u2 : W.frozen? ⟨w.heap.size + 1 + 1, 0, none⟩ = false := ke.frozen 0
    have HK := Lib.hid hK
    have HB := Lib.hid hbw
    have HO := Lib.hid ho
    have KR := Lib.hid kr
    have KE := Lib.hid ke
    clear hi hK kl ho hbw kr ke
    gi_wp2
    have hg1 := grownBy_setCell' W (w.heap.size + 1) (.slice A' 2 c')
    have hg2 := grownBy_setCell' (W.setCell ⟨w.heap.size + 1, 0, none⟩ (.slice A' 2 c')) (w.heap.size + 2) (.int .i64 0)
    have K2 := (KeepsOthers.setCell (W.setCell ⟨w.heap.size + 1, 0, none⟩ (.slice A' 2 c')) ⟨w.heap.size + 2, 0, none⟩ (.int .i64 0)).same _ _ ((KeepsOthers.setCell W ⟨w.heap.size + 1, 0, none⟩ (.slice A' 2 c')).same _ _ HK.out rfl) rfl
    have R1 := (KR.out.set_ 0 (.slice A' 2 c')).far (p := ⟨w.heap.size + 2, 0, none⟩) (by simp) (.int .i64 0)
    have R2 := (KE.out.far (p := ⟨w.heap.size + 1, 0, none⟩) (by simp) (.slice A' 2 c')).set_ 0 (.int .i64 0)
    have B2 := (HB.out.setCell (p := ⟨w.heap.size + 1, 0, none⟩) (by simp) (.slice A' 2 c')).setCell (p := ⟨w.heap.size + 2, 0, none⟩) (by simp) (.int .i64 0)
    have O2 := (HO.out.kept hg1 (.inr (fun e => by have := (HO.out.lt _ e).1; omega))).kept hg2 (.inr (fun e => by have := (HO.out.lt _ e).1; omega))
    have hz2 : ((W.setCell ⟨w.heap.size + 1, 0, none⟩ (.slice A' 2 c')).setCell ⟨w.heap.size + 2, 0, none⟩ (.int .i64 0)).heap.size = W.heap.size := by simp
    generalize (W.setCell ⟨w.heap.size + 1, 0, none⟩ (.slice A' 2 c')).setCell ⟨w.heap.size + 2, 0, none⟩ (.int .i64 0) = W2 at *
    refine ⟨by simp, .inl ⟨_, _, rfl, run_takeDeferred K2, ?_⟩⟩
    have hgD := grownBy_putObj' W2 W0.heap.size (.deferred none)
    have R1' := (R1.grown hgD (by simp; omega)).cell 0
    have R2' := (R2.grown hgD (by simp; omega)).cell 0
    refine ⟨.tuple #[.slice A' 2 c', .int .i64 0], ?_, A', c', rfl, ?_, ?_⟩
    · simp only [Array.setIfInBounds] at R1' R2'
      simp [results, Try.results124, go_sem, R1', R2']
    · have := O2.kept hgD (.inr (fun e => by
        rcases O2.2 with ⟨h1, _⟩ | ⟨g, cap, cur, h1, hg1, hg2, _⟩
        · rw [h1] at e; cases e
        · rw [h1] at e
          have e2 : g = W0.heap.size := by simpa [Value.ownBlock] using e
          rw [e2, K2] at hg2
          cases hg2))
      rcases this with ⟨h1, h2 | ⟨g, cap, cur, e, h3, h4⟩⟩
      · exact ⟨h1, .inl h2⟩
      · exact ⟨h1, .inr ⟨g, cap, cur, e, by omega, h4⟩⟩
    · exact B2.grown hgD (by omega) (fun k e => by cases e; omega)
end Go.Proofs.Ytcljgphipdbckaa
