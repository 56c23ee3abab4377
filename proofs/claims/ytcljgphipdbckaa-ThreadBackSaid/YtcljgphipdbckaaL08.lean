/- Layer 8's awake, and nobody's objects. -/
import Derived.Test.YtcljgphipdbckaaW08f
import Derived.Test.YtcljgphipdbckaaL02
namespace Go.Proofs.Ytcljgphipdbckaa
set_option linter.unusedVariables false
set_option linter.unusedSimpArgs false
open Go.RowKit

theorem Ar.ne_blk {w : World} {B p g : Nat} {v : Value} {ws : List Int} {cs : Array Value} {t : TypeId} (h : Ar w B p v ws) (hk : Blk w g t cs) (hne : 22 ≠ t) (e : some g = v.ownBlock) : False :=
  own_blk_ne h.own hk hne e.symm
def z8 : List Int := [0, 0, 0, 0, 0, 0, 0, 0]
def z8a : List Int := [0, 0, 16777739, 0, 0, 0, 0, 0]
def z8b : List Int := [0, 0, 16777739, 0, 22, 0, 0, 0]
def z8c : List Int := [0, 0, 16777739, 0, 22, 7, 0, 0]
def z8d : List Int := [0, 0, 771, 0, 22, 7, 0, 0]
theorem zeros_8 : zeros 8 = z8 := by unfold zeros; rfl
theorem g1 : oUE z8 2 ⟨1, 2, 1, false, 0⟩ = 0 ∧ oUL z8 2 ⟨1, 2, 1, false, 0⟩ = z8a := by decide +kernel
theorem g2 : oSE z8a 2 1 22 false = 0 ∧ oSL z8a 2 1 22 false = z8b := by decide +kernel
theorem g3 : oSE z8b 2 0 7 true = 0 ∧ oSL z8b 2 0 7 true = z8c := by decide +kernel
theorem g4 : oH z8c 2 = ⟨1, 2, 1, false, 0⟩ ∧ oE z8c 2 = 0 := by decide +kernel
theorem g5 : oV z8c 2 1 false = 22 ∧ oPE z8c 2 1 false = 0 := by decide +kernel
theorem g6 : rdV z8c 5 = 7 ∧ atE z8c.length 5 = 0 := by decide +kernel
theorem g7 : oV z8c 2 1 true = 0 ∧ oPE z8c 2 1 true = 1 := by decide +kernel
theorem g8 : oUE z8c 5 ⟨1, 2, 1, false, 0⟩ = 2 ∧ oUL z8c 5 ⟨1, 2, 1, false, 0⟩ = z8c := by decide +kernel
theorem g9 : oSE z8c 2 0 3 false = 3 ∧ oSL z8c 2 0 3 false = z8c := by decide +kernel
theorem g10 : oTE z8c 2 ⟨0, 3, 0, false, 0⟩ = 0 ∧ oTL z8c 2 ⟨0, 3, 0, false, 0⟩ = z8d := by decide +kernel
attribute [irreducible] z8 z8a z8b z8c z8d
theorem l8 : z8a.length ≤ 1000000 ∧ z8b.length ≤ 1000000 ∧ z8c.length ≤ 1000000 := by unfold z8a z8b z8c; decide

set_option maxRecDepth 100000 in
set_option maxHeartbeats 8000000 in
theorem awake08 (W : World) : Calls Try.prog 83 #[] W (Out W (.bool true)) := by
  have k := Lib.hid (new_any 8 W (by decide))
  go_enter Try.func83, Try.ntmps83
  go_wp2_with fail
  refine k.out.mono ?_
  intro e w0 hm
  rw [zeros_8] at hm
  obtain ⟨p, v, rfl, HA, HB, _⟩ := hm.open_ (Below.refl _ _) (Nat.le_refl _)
  clear hm k
  have k := Lib.hid (oput_ar 2 ⟨1, 2, 1, false, 0⟩ HA.out)
  rw [g1.1, g1.2] at k
  go_wp2_with fail
  refine k.out.mono ?_
  rintro e w1 ⟨rfl, ht⟩
  obtain ⟨HA, HB⟩ := ht.open_ HA.out HB.out
  clear ht k
  have k := Lib.hid (setfield_ar 2 1 22 (by decide) l8.1 ⟨by decide, by decide⟩ HA.out)
  rw [g2.1, g2.2] at k
  go_wp2_with fail
  refine k.out.mono ?_
  rintro e w2 ⟨rfl, ht⟩
  obtain ⟨HA, HB⟩ := ht.open_ HA.out HB.out
  clear ht k
  have k := Lib.hid (setraw_ar 2 0 7 (by decide) l8.2.1 ⟨by decide, by decide⟩ HA.out)
  rw [g3.1, g3.2] at k
  go_wp2_with fail
  refine k.out.mono ?_
  rintro e w3 ⟨rfl, ht⟩
  obtain ⟨HA, HB⟩ := ht.open_ HA.out HB.out
  clear ht k
  have k := head_ar 2 (by decide) l8.2.2 HA.out
  rw [g4.1, g4.2] at k
  have k := Lib.hid k
  go_wp2_with fail
  refine k.out.mono ?_
  rintro e w4 ⟨rfl, hb⟩
  have hal : Below w4.heap.size w4 (w4.alloc (.cells #[.int .i64 1, .int .i64 2, .int .i64 1, .bool false, .int .i64 0] 59)) := (Below.refl _ _).alloc (Nat.le_refl _) _
  have HA := Lib.hid ((HA.out.below hb).below hal)
  have HB := Lib.hid (below_tr (below_tr HB.out hb) hal)
  have HK := Lib.hid (Blk.new w4 59 #[.int .i64 1, .int .i64 2, .int .i64 1, .bool false, .int .i64 0])
  clear hb k hal
  have k := Lib.hid (field_ar 2 1 (by decide) l8.2.2 HA.out)
  rw [g5.1, g5.2] at k
  go_wp2_with fail
  refine k.out.mono ?_
  rintro e w5 ⟨rfl, hb⟩
  have HA := Lib.hid (HA.out.below hb)
  have HB := Lib.hid (below_tr HB.out hb)
  have HK := Lib.hid (HK.out.below hb HK.out.lt)
  clear hb k
  have k := Lib.hid (read_ar 5 HA.out)
  go_wp2_with fail
  refine k.out.mono ?_
  rintro e w6 ⟨rfl, rfl⟩
  rw [g6.1, g6.2]
  clear k
  have k := Lib.hid (raw8_ar 2 1 (by decide) l8.2.2 HA.out)
  rw [g7.1, g7.2] at k
  go_wp2_with fail
  refine k.out.mono ?_
  rintro e w7 ⟨rfl, hb⟩
  have HA := Lib.hid (HA.out.below hb)
  have HB := Lib.hid (below_tr HB.out hb)
  have HK := Lib.hid (HK.out.below hb HK.out.lt)
  clear hb k
  have q0 := HK.out.cell 0
  have q1 := HK.out.cell 1
  have q2 := HK.out.cell 2
  have q3 := HK.out.cell 3
  have q4 := HK.out.cell 4
  have k := Lib.hid (oput_ar 5 ⟨1, 2, 1, false, 0⟩ HA.out)
  rw [g8.1, g8.2] at k
  go_wp2_with fail
  refine k.out.mono ?_
  rintro e w9 ⟨rfl, ht⟩
  have hg := ht.2
  have HK := Lib.hid (HK.out.grown hg (fun e => HA.out.ne_blk HK.out (by decide) e))
  obtain ⟨HA, HB⟩ := ht.open_ HA.out HB.out
  clear q0 q1 q2 q3 q4
  have q0 := HK.out.cell 0
  have q1 := HK.out.cell 1
  have q2 := HK.out.cell 2
  have q3 := HK.out.cell 3
  have q4 := HK.out.cell 4
  clear ht k hg
  have k := Lib.hid (setfield_ar 2 0 3 (by decide) l8.2.2 ⟨by decide, by decide⟩ HA.out)
  rw [g9.1, g9.2] at k
  go_wp2_with fail
  refine k.out.mono ?_
  rintro e w10 ⟨rfl, ht⟩
  have hg := ht.2
  have HK := Lib.hid (HK.out.grown hg (fun e => HA.out.ne_blk HK.out (by decide) e))
  obtain ⟨HA, HB⟩ := ht.open_ HA.out HB.out
  clear q0 q1 q2 q3 q4
  have q0 := HK.out.cell 0
  have q1 := HK.out.cell 1
  have q2 := HK.out.cell 2
  have q3 := HK.out.cell 3
  have q4 := HK.out.cell 4
  clear ht k hg
  have k := Lib.hid (sethead_ar 2 ⟨0, 3, 0, false, 0⟩ (by decide) l8.2.2 HA.out)
  rw [g10.1, g10.2] at k
  go_wp2_with fail
  refine k.out.mono ?_
  rintro e w11 ⟨rfl, ht⟩
  have hg := ht.2
  have HK := Lib.hid (HK.out.grown hg (fun e => HA.out.ne_blk HK.out (by decide) e))
  obtain ⟨HA, HB⟩ := ht.open_ HA.out HB.out
  clear q0 q1 q2 q3 q4
  have q0 := HK.out.cell 0
  have q1 := HK.out.cell 1
  have q2 := HK.out.cell 2
  have q3 := HK.out.cell 3
  have q4 := HK.out.cell 4
  clear ht k hg
  have k := Lib.hid (oput_no (.pointer none) w11 0 ⟨1, 2, 1, false, 0⟩ (.inl rfl))
  rw [show mayB ⟨1, 2, 1, false, 0⟩ = true by decide +kernel, if_pos rfl] at k
  go_wp2_with fail
  refine k.out.mono ?_
  rintro e w99 ⟨rfl, hb⟩
  have HB := Lib.hid (below_tr HB.out hb)
  clear hb k
  go_wp2
  go_ret
  exact ⟨rfl, HB.out⟩

set_option maxRecDepth 100000 in
set_option maxHeartbeats 8000000 in
theorem objectNobody_core (a i x : Int) (h : Hd) (W : World) : Calls Try.prog 15 #[.int .i64 a, .int .i64 i, .agg #[.int .i64 h.kind, .int .i64 h.fields, .int .i64 h.raws, .bool h.mark, .int .i64 h.cursor], .int .u64 x] W (Out W (.bool true)) := by
  have HX0 := Lib.hid (Blk.new W 59 #[.int .i64 h.kind, .int .i64 h.fields, .int .i64 h.raws, .bool h.mark, .int .i64 h.cursor])
  have HB0 := Lib.hid ((Below.refl W.heap.size W).alloc (Nat.le_refl _) (.cells #[.int .i64 h.kind, .int .i64 h.fields, .int .i64 h.raws, .bool h.mark, .int .i64 h.cursor] 59))
  obtain ⟨W1, hW1⟩ : ∃ W1, W1 = W.alloc (.cells #[.int .i64 h.kind, .int .i64 h.fields, .int .i64 h.raws, .bool h.mark, .int .i64 h.cursor] 59) := ⟨_, rfl⟩
  have hn : NoAr (W1.alloc (.cells #[.bool false, .slice none 0 0] 56)) (.pointer (some ⟨W1.heap.size, 0, none⟩)) := .inr ⟨W1.heap.size, rfl, by rw [World.cell?_alloc_new]; rfl⟩
  have hx := HX0.out
  rw [← hW1] at hx
  have hb := HB0.out
  rw [← hW1] at hb
  have HX := Lib.hid (hx.alloc (.cells #[.bool false, .slice none 0 0] 56))
  have HB := Lib.hid (hb.alloc hb.size (.cells #[.bool false, .slice none 0 0] 56))
  have hs : W1.heap.size = W.heap.size + 1 := by rw [hW1]; simp
  rw [hs] at hn
  have HN := Lib.hid hn
  clear HX0 HB0 hx hb hn hs
  subst hW1
  have k := Lib.hid (head_no _ _ a HN.out)
  go_enter Try.func15, Try.ntmps15
  go_wp2_with fail
  refine k.out.mono ?_
  rintro e w1 ⟨rfl, hb⟩
  have hal : Below w1.heap.size w1 (w1.alloc (.cells #[.int .i64 0, .int .i64 0, .int .i64 0, .bool false, .int .i64 0] 59)) := (Below.refl _ _).alloc (Nat.le_refl _) _
  have HX := Lib.hid ((HX.out.below hb HX.out.lt).below hal (HX.out.below hb HX.out.lt).lt)
  have HN := Lib.hid ((HN.out.below hb).below hal)
  have HB := Lib.hid (below_tr (below_tr HB.out hb) hal)
  clear hb k hal
  have k := fun w => Lib.hid (field_no (.pointer none) w a i (.inl rfl))
  go_wp2_with fail
  refine (k _).out.mono ?_
  rintro e w2 ⟨rfl, hb⟩
  have HX := Lib.hid (HX.out.below hb HX.out.lt)
  have HN := Lib.hid (HN.out.below hb)
  have HB := Lib.hid (below_tr HB.out hb)
  clear hb k
  have k := Lib.hid (raw8_no _ _ a i HN.out)
  go_wp2_with fail
  refine k.out.mono ?_
  rintro e w3 ⟨rfl, hb⟩
  have HX := Lib.hid (HX.out.below hb HX.out.lt)
  have HN := Lib.hid (HN.out.below hb)
  have HB := Lib.hid (below_tr HB.out hb)
  clear hb k
  have q0 := HX.out.cell 0
  have q1 := HX.out.cell 1
  have q2 := HX.out.cell 2
  have q3 := HX.out.cell 3
  have q4 := HX.out.cell 4
  cases hm : mayB h with
  | true =>
    have k := oput_no _ w3 a h HN.out
    rw [hm, if_pos rfl] at k
    have k := Lib.hid k
    go_wp2_with fail
    refine k.out.mono ?_
    rintro e w4 ⟨rfl, hb⟩
    have HX := Lib.hid (HX.out.below hb HX.out.lt)
    have HN := Lib.hid (HN.out.below hb)
    have HB := Lib.hid (below_tr HB.out hb)
    clear hb k hm q0 q1 q2 q3 q4
    have k := Lib.hid (setfield_no _ _ a i x HN.out)
    go_wp2_with fail
    refine k.out.mono ?_
    rintro e w5 ⟨rfl, hb⟩
    have HX := Lib.hid (HX.out.below hb HX.out.lt)
    have HN := Lib.hid (HN.out.below hb)
    have HB := Lib.hid (below_tr HB.out hb)
    clear hb k
    have k := fun w => Lib.hid (setraw_no (.pointer none) w a i x (.inl rfl))
    go_wp2_with fail
    refine (k _).out.mono ?_
    rintro e w6 ⟨rfl, hb⟩
    have HX := Lib.hid (HX.out.below hb HX.out.lt)
    have HN := Lib.hid (HN.out.below hb)
    have HB := Lib.hid (below_tr HB.out hb)
    clear hb k
    have q0 := HX.out.cell 0
    have q1 := HX.out.cell 1
    have q2 := HX.out.cell 2
    have q3 := HX.out.cell 3
    have q4 := HX.out.cell 4
    have k := Lib.hid (sethead_no _ _ a h HN.out)
    go_wp2_with fail
    refine k.out.mono ?_
    rintro e w7 ⟨rfl, hb⟩
    have HX := Lib.hid (HX.out.below hb HX.out.lt)
    have HN := Lib.hid (HN.out.below hb)
    have HB := Lib.hid (below_tr HB.out hb)
    clear hb k
    go_wp2_with fail
    refine (awake08 _).mono ?_
    rintro e w8 ⟨rfl, hb⟩
    have HB := Lib.hid (below_tr HB.out hb)
    clear hb
    go_wp2
    go_ret
    exact ⟨rfl, HB.out⟩
  | false =>
    have k := oput_no _ w3 a h HN.out
    rw [hm, if_neg (by decide)] at k
    have k := Lib.hid k
    go_wp2_with fail
    refine k.out.mono ?_
    rintro e w4 ⟨rfl, hb⟩
    have HX := Lib.hid (HX.out.below hb HX.out.lt)
    have HN := Lib.hid (HN.out.below hb)
    have HB := Lib.hid (below_tr HB.out hb)
    clear hb k hm q0 q1 q2 q3 q4
    have k := Lib.hid (setfield_no _ _ a i x HN.out)
    go_wp2_with fail
    refine k.out.mono ?_
    rintro e w5 ⟨rfl, hb⟩
    have HX := Lib.hid (HX.out.below hb HX.out.lt)
    have HN := Lib.hid (HN.out.below hb)
    have HB := Lib.hid (below_tr HB.out hb)
    clear hb k
    have k := fun w => Lib.hid (setraw_no (.pointer none) w a i x (.inl rfl))
    go_wp2_with fail
    refine (k _).out.mono ?_
    rintro e w6 ⟨rfl, hb⟩
    have HX := Lib.hid (HX.out.below hb HX.out.lt)
    have HN := Lib.hid (HN.out.below hb)
    have HB := Lib.hid (below_tr HB.out hb)
    clear hb k
    have q0 := HX.out.cell 0
    have q1 := HX.out.cell 1
    have q2 := HX.out.cell 2
    have q3 := HX.out.cell 3
    have q4 := HX.out.cell 4
    have k := Lib.hid (sethead_no _ _ a h HN.out)
    go_wp2_with fail
    refine k.out.mono ?_
    rintro e w7 ⟨rfl, hb⟩
    have HX := Lib.hid (HX.out.below hb HX.out.lt)
    have HN := Lib.hid (HN.out.below hb)
    have HB := Lib.hid (below_tr HB.out hb)
    clear hb k
    go_wp2_with fail
    refine (awake08 _).mono ?_
    rintro e w8 ⟨rfl, hb⟩
    have HB := Lib.hid (below_tr HB.out hb)
    clear hb
    go_wp2
    go_ret
    exact ⟨rfl, HB.out⟩

theorem objectNobody_walk (a i x : Int) (v : Value) (W : World) (hv : ∃ h : Hd, v = .agg h.cells) : Calls Try.prog 15 #[.int .i64 a, .int .i64 i, v, .int .u64 x] W fun e w' => e = .returned (.bool true) ∧ Below W.heap.size W w' := by
  obtain ⟨h, rfl⟩ := hv
  exact objectNobody_core a i x h W
end Go.Proofs.Ytcljgphipdbckaa
