/- The walks of layer 7's statements: awake, HeadApart. -/
import Derived.Test.YtcljgphipdbckaaW07d
namespace Go.Proofs.Ytcljgphipdbckaa
set_option linter.unusedVariables false
set_option linter.unusedSimpArgs false
open Go.RowKit

theorem Out.open_ {A w w' : World} {v : Value} {e : Ending} (h : Out w v e w') (hb : Below A.heap.size A w) : e = .returned v ∧ Hid (Below A.heap.size A w') ∧ Hid (Below w.heap.size w w') := ⟨h.1, below_tr hb h.2, h.2⟩

set_option maxRecDepth 100000 in
set_option maxHeartbeats 3200000 in
theorem awake07 (W : World) : Calls Try.prog 56 #[] W fun e w' => e = .returned (.bool true) ∧ Below W.heap.size W w' := by
  have c1 : Hid (∀ w, Calls Try.prog 46 #[.agg #[.int .i64 1, .int .i64 2, .int .i64 0, .bool false, .int .i64 0]] w (Out w (.tuple #[.int .u64 523, .int .i64 0]))) := fun w => by
    have h := enc_core ⟨1, 2, 0, false, 0⟩ w
    rw [show encW ⟨1, 2, 0, false, 0⟩ = 523 by decide +kernel, show encE ⟨1, 2, 0, false, 0⟩ = 0 by decide +kernel] at h
    exact h
  have c2 : Hid (∀ w, Calls Try.prog 48 #[.int .u64 523] w (Out w (.tuple #[.agg #[.int .i64 1, .int .i64 2, .int .i64 0, .bool false, .int .i64 0], .int .i64 0]))) := fun w => by
    have h := hdec_any 523 w ⟨by decide, by decide⟩
    rw [show hdH 523 = ⟨1, 2, 0, false, 0⟩ by decide +kernel, show hdE 523 = 0 by decide +kernel] at h
    exact h
  have c3 : Hid (∀ w, Calls Try.prog 48 #[.int .u64 5] w (Out w (.tuple #[.agg #[.int .i64 0, .int .i64 0, .int .i64 0, .bool false, .int .i64 0], .int .i64 3]))) := fun w => by
    have h := hdec_any 5 w ⟨by decide, by decide⟩
    rw [show hdH 5 = ⟨0, 0, 0, false, 0⟩ by decide +kernel, show hdE 5 = 3 by decide +kernel] at h
    exact h
  have c4 : Hid (∀ w, Calls Try.prog 50 #[.int .i64 9] w (Out w (.tuple #[.int .u64 38, .int .i64 0]))) := fun w => by
    have h := forward_any 9 w
    rw [show valW 2 9 = 38 by decide +kernel, show valE 2 9 = 0 by decide +kernel] at h
    exact h
  have c5 : Hid (∀ w, Calls Try.prog 52 #[.int .u64 38] w (Out w (.tuple #[.int .i64 9, .bool true]))) := fun w => by
    have h := forwarded_any 38 w ⟨by decide, by decide⟩
    rw [show refV 38 = 9 by decide +kernel, show refB 38 = true by decide +kernel] at h
    exact h
  have c6 : Hid (∀ w, Calls Try.prog 52 #[.int .u64 523] w (Out w (.tuple #[.int .i64 0, .bool false]))) := fun w => by
    have h := forwarded_any 523 w ⟨by decide, by decide⟩
    rw [show refV 523 = 0 by decide +kernel, show refB 523 = false by decide +kernel] at h
    exact h
  have c7 : Hid (∀ w, Calls Try.prog 54 #[.agg #[.int .i64 1, .int .i64 2, .int .i64 0, .bool false, .int .i64 0]] w (Out w (.int .i64 3))) := fun w => by
    have h := size_any ⟨1, 2, 0, false, 0⟩ w
    rw [show sizeI ⟨1, 2, 0, false, 0⟩ = 3 by decide +kernel] at h
    exact h
  have c8 : Hid (∀ w, Calls Try.prog 54 #[.agg #[.int .i64 32, .int .i64 0, .int .i64 0, .bool false, .int .i64 0]] w (Out w (.int .i64 0))) := fun w => by
    have h := size_any ⟨32, 0, 0, false, 0⟩ w
    rw [show sizeI ⟨32, 0, 0, false, 0⟩ = 0 by decide +kernel] at h
    exact h
  go_enter Try.func56, Try.ntmps56
  go_wp2_with fail
  refine (c1.out _).mono ?_
  intro e w1 ho
  obtain ⟨rfl, HB1, _⟩ := ho.open_ (Below.refl W.heap.size W)
  clear ho
  go_wp2_with fail
  refine (c2.out _).mono ?_
  intro e w2 ho
  obtain ⟨rfl, HB2, _⟩ := ho.open_ HB1.out
  have HH2 := Lib.hid (Blk.new w2 59 #[.int .i64 1, .int .i64 2, .int .i64 0, .bool false, .int .i64 0])
  have HB2' := Lib.hid (HB2.out.alloc HB2.out.size (.cells #[.int .i64 1, .int .i64 2, .int .i64 0, .bool false, .int .i64 0] 59))
  clear ho HB1 HB2
  go_wp2_with fail
  refine (c3.out _).mono ?_
  intro e w3 ho
  obtain ⟨rfl, HB3, hb3⟩ := ho.open_ HB2'.out
  have HH3 := Lib.hid ((HH2.out.below hb3.out HH2.out.lt).alloc (.cells #[.int .i64 0, .int .i64 0, .int .i64 0, .bool false, .int .i64 0] 59))
  have HB3' := Lib.hid (HB3.out.alloc HB3.out.size (.cells #[.int .i64 0, .int .i64 0, .int .i64 0, .bool false, .int .i64 0] 59))
  clear ho HH2 HB2' HB3 hb3
  go_wp2_with fail
  refine (c4.out _).mono ?_
  intro e w4 ho
  obtain ⟨rfl, HB4, hb4⟩ := ho.open_ HB3'.out
  have HH4 := Lib.hid (HH3.out.below hb4.out HH3.out.lt)
  clear ho HH3 HB3' hb4
  go_wp2_with fail
  refine (c5.out _).mono ?_
  intro e w5 ho
  obtain ⟨rfl, HB5, hb5⟩ := ho.open_ HB4.out
  have HH5 := Lib.hid (HH4.out.below hb5.out HH4.out.lt)
  clear ho HH4 HB4 hb5
  go_wp2_with fail
  refine (c6.out _).mono ?_
  intro e w6 ho
  obtain ⟨rfl, HB6, hb6⟩ := ho.open_ HB5.out
  have HH6 := Lib.hid (HH5.out.below hb6.out HH5.out.lt)
  clear ho HH5 HB5 hb6
  have q0 := HH6.out.cell 0
  have q1 := HH6.out.cell 1
  have q2 := HH6.out.cell 2
  have q3 := HH6.out.cell 3
  have q4 := HH6.out.cell 4
  go_wp2_with fail
  refine (c7.out _).mono ?_
  intro e w7 ho
  obtain ⟨rfl, HB7, _⟩ := ho.open_ HB6.out
  clear ho HH6 HB6 q0 q1 q2 q3 q4
  go_wp2_with fail
  refine (c8.out _).mono ?_
  intro e w8 ho
  obtain ⟨rfl, HB8, _⟩ := ho.open_ HB7.out
  clear ho HB7
  go_wp2
  go_ret
  exact ⟨rfl, HB8.out⟩

theorem decK_two {w : Int} : (decE w = 0 ∧ decK w = 2) ↔ refB w = true := by
  cases h : refB w with
  | true => have := ref_yes h; simp [this.1, this.2.1]
  | false =>
    have := (ref_no h).2
    constructor
    · intro e; rcases this with t | t
      · exact absurd e.2 t.2
      · exact absurd e.1 t.1
    · intro e; cases e

set_option maxRecDepth 100000 in
set_option maxHeartbeats 3200000 in
theorem headApart_walk (w : Int) (W : World) (hw : U64 w) : Calls Try.prog 11 #[.int .u64 w] W fun e w' => e = .returned (.bool true) ∧ Below W.heap.size W w' := by
  have HA := fun W => Lib.hid (hdec_any w W hw)
  have HV := fun W => Lib.hid (vdec_any w W hw)
  have HF := fun W => Lib.hid (forwarded_any w W hw)
  have key : (hdE w = 0 ∧ decE w = 3 ∧ refB w = false ∧ refV w = 0) ∨ (hdE w = 3 ∧ decE w = 3 ∧ refB w = false ∧ refV w = 0) ∨ (hdE w = 3 ∧ decE w = 0 ∧ decK w = 2 ∧ refB w = true ∧ decX w = refV w) ∨ (hdE w = 3 ∧ decE w = 0 ∧ (decK w == 2) = false ∧ refB w = false ∧ refV w = 0) := by
    have hE : decE w = if decB w then 0 else 3 := by unfold decE; rfl
    cases hh : hdB w with
    | true =>
      left
      have h1 := apart_word w hh
      have h2 : hdE w = 0 := (hdH_yes hh).2
      have h3 : decE w = 3 := by rw [hE, h1]; rfl
      have h4 : refB w = false := by
        cases hr : refB w with
        | false => rfl
        | true => have := (ref_yes hr).1; omega
      exact ⟨h2, h3, h4, (ref_no h4).1⟩
    | false =>
      right
      have h2 : hdE w = 3 := (hdH_no hh).2
      cases hr : refB w with
      | true =>
        right; left
        have := ref_yes hr
        exact ⟨h2, this.1, this.2.1, rfl, this.2.2⟩
      | false =>
        have h4 := ref_no hr
        rcases h4.2 with t | t
        · right; right
          exact ⟨h2, t.1, by rw [beq_eq_false_iff_ne]; exact t.2, rfl, h4.1⟩
        · left
          refine ⟨h2, ?_, rfl, h4.1⟩
          have := t.1
          rw [hE] at this ⊢
          split at this
          · omega
          · rw [if_neg (by assumption)]
  unfold Hd.cells at HA
  generalize (hdH w).kind = a1 at HA
  generalize (hdH w).fields = a2 at HA
  generalize (hdH w).raws = a3 at HA
  generalize (hdH w).mark = a4 at HA
  generalize (hdH w).cursor = a5 at HA
  have core : ∀ (E1 E2 K X at_ : Int) (ok : Bool),
      Hid (∀ W, Calls Try.prog 48 #[.int .u64 w] W (Out W (.tuple #[.agg #[.int .i64 a1, .int .i64 a2, .int .i64 a3, .bool a4, .int .i64 a5], .int .i64 E1]))) →
      Hid (∀ W, Calls Try.prog 57 #[.int .u64 w] W (Out W (.tuple #[.agg #[.int .i64 K, .int .i64 X], .int .i64 E2]))) →
      Hid (∀ W, Calls Try.prog 52 #[.int .u64 w] W (Out W (.tuple #[.int .i64 at_, .bool ok]))) →
      (E1 = 0 ∧ E2 = 3 ∧ ok = false ∨ E1 = 3 ∧ E2 = 3 ∧ ok = false ∨ E1 = 3 ∧ E2 = 0 ∧ K = 2 ∧ ok = true ∧ X = at_ ∨ E1 = 3 ∧ E2 = 0 ∧ (K == 2) = false ∧ ok = false) →
      Calls Try.prog 11 #[.int .u64 w] W fun e w' => e = .returned (.bool true) ∧ Below W.heap.size W w' := by
    intro E1 E2 K X at_ ok c1 c2 c3 hc
    clear HA HV HF hw key
    rcases hc with ⟨rfl, rfl, rfl⟩ | ⟨rfl, rfl, rfl⟩ | ⟨rfl, rfl, rfl, rfl, rfl⟩ | ⟨rfl, rfl, hk, rfl⟩
    all_goals
      go_enter Try.func11, Try.ntmps11
      go_wp2_with fail
      refine (c1.out _).mono ?_
      intro e w1 ho
      obtain ⟨rfl, HB1, _⟩ := ho.open_ (Below.refl W.heap.size W)
      have HB1' := Lib.hid (HB1.out.alloc HB1.out.size (.cells #[.int .i64 a1, .int .i64 a2, .int .i64 a3, .bool a4, .int .i64 a5] 59))
      clear ho HB1
      go_wp2_with fail
      refine (c2.out _).mono ?_
      intro e w2 ho
      obtain ⟨rfl, HB2, _⟩ := ho.open_ HB1'.out
      clear ho HB1'
      go_wp2_with fail
      refine (c3.out _).mono ?_
      intro e w3 ho
      obtain ⟨rfl, hb3⟩ := ho
      have hv3 := (Blk.new w2 69 _).below hb3 (Blk.new w2 69 _).lt
      have q0 := hv3.cell 0
      have q1 := hv3.cell 1
      have HB3 := Lib.hid (below_tr (HB2.out.alloc HB2.out.size _) hb3)
      clear hb3 hv3 HB2
      go_wp2_with fail
      refine (awake07 _).mono ?_
      rintro e w4 ⟨rfl, hb4⟩
      go_wp2
      go_ret
      exact ⟨rfl, below_tr HB3.out hb4⟩
  refine core _ _ _ _ _ _ (fun W => (HA W).out) (fun W => (HV W).out) (fun W => (HF W).out) ?_
  rcases key with ⟨e1, e2, e3, e4⟩ | ⟨e1, e2, e3, e4⟩ | ⟨e1, e2, e3, e4, e5⟩ | ⟨e1, e2, e3, e4, e5⟩
  · exact .inl ⟨e1, e2, e3⟩
  · exact .inr (.inl ⟨e1, e2, e3⟩)
  · exact .inr (.inr (.inl ⟨e1, e2, e3, e4, e5⟩))
  · exact .inr (.inr (.inr ⟨e1, e2, e3, e4⟩))
end Go.Proofs.Ytcljgphipdbckaa
