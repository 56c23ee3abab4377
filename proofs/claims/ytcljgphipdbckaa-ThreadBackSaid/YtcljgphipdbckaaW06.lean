/- The walks of layer 6 (value) and of its reference. -/
import Derived.Test.YtcljgphipdbckaaK
import Derived.Test.YtcljgphipdbckaaP07
namespace Go.Proofs.Ytcljgphipdbckaa
set_option linter.unusedVariables false
set_option linter.unusedSimpArgs false
open Go.RowKit

theorem and3_word (V : Nat) (hV : V < 18446744073709551616) : bits .and .u64 (V : Int) 3 = ((V % 4 : Nat) : Int) := by
  rw [show (3 : Int) = ((3 : Nat) : Int) from rfl, u64_and_nat _ _ hV (by omega), nat_mask2]

/-- what a call that makes only new memory hands back -/
def Out (w : World) (v : Value) (e : Ending) (w' : World) : Prop := e = .returned v ∧ Below w.heap.size w w'
theorem Out.mk' {w w' : World} {v u : Value} (h : v = u) (hb : Below w.heap.size w w') : Out w u (.returned v) w' := ⟨by rw [h], hb⟩

theorem Out.mk2 {w w' : World} {k1 k2 : IntKind} {a a' b b' : Int} (h1 : a = a') (h2 : b = b') (hb : Below w.heap.size w w') : Out w (.tuple #[.int k1 a', .int k2 b']) (.returned (.tuple #[.int k1 a, .int k2 b])) w' := ⟨by rw [h1, h2], hb⟩
theorem val_eq {k k' x x' e e' : Int} (h1 : k = k') (h2 : x = x') (h3 : e = e') : (Value.tuple #[.agg #[.int .i64 k, .int .i64 x], .int .i64 e]) = .tuple #[.agg #[.int .i64 k', .int .i64 x'], .int .i64 e'] := by rw [h1, h2, h3]

theorem dec_zero : decK 0 = 0 ∧ decX 0 = 0 ∧ decE 0 = 0 := by
  have h : decB 0 = true := (decB_iff 0).2 (.inl rfl)
  unfold decK decX decE
  rw [h]; decide
theorem dec_imm (V : Nat) (hV : V < 18446744073709551616) (h : V % 4 = 1) : 1 = decK V ∧ wrap64 (V : Int) / 4 = decX V ∧ 0 = decE V := by
  have hb : decB (V : Int) = true := (decB_iff _).2 (.inr (.inl (by omega)))
  unfold decK decX decE
  rw [hb]
  simp only [if_true]
  refine ⟨by omega, ?_, by trivial⟩
  rw [if_pos (by omega)]
  unfold wrap64
  split <;> omega
theorem dec_imm_lo (V : Nat) (h : V % 4 = 1) (h2 : V / 4 < 2305843009213693952) : 1 = decK V ∧ ((V / 4 : Nat) : Int) = decX V ∧ 0 = decE V := by
  have hb : decB (V : Int) = true := (decB_iff _).2 (.inr (.inl (by omega)))
  unfold decK decX decE
  rw [hb]
  simp only [if_true]
  refine ⟨by omega, ?_, by trivial⟩
  rw [if_pos (by omega), if_pos (by omega)]
  omega
theorem dec_imm_hi (V : Nat) (h : V % 4 = 1) (h2 : ¬ V / 4 < 2305843009213693952) : 1 = decK V ∧ ((V / 4 : Nat) : Int) - 4611686018427387904 = decX V ∧ 0 = decE V := by
  have hb : decB (V : Int) = true := (decB_iff _).2 (.inr (.inl (by omega)))
  unfold decK decX decE
  rw [hb]
  simp only [if_true]
  refine ⟨by omega, ?_, by trivial⟩
  rw [if_pos (by omega), if_neg (by omega)]
  omega
theorem dec_ref (V : Nat) (h : V % 4 = 2) (h2 : V / 4 ≤ 1099511627776) : 2 = decK V ∧ ((V / 4 : Nat) : Int) = decX V ∧ 0 = decE V := by
  have hb : decB (V : Int) = true := (decB_iff _).2 (.inr (.inr ⟨by omega, by omega⟩))
  unfold decK decX decE
  rw [hb]
  simp only [if_true]
  refine ⟨by omega, ?_, by trivial⟩
  rw [if_neg (by omega)]
  omega
theorem dec_not (V : Nat) (h : V = 0 ∨ V % 4 = 1 ∨ V % 4 = 2 ∧ V / 4 ≤ 1099511627776 → False) : 0 = decK V ∧ 0 = decX V ∧ 3 = decE V := by
  have hb : decB (V : Int) = false := by
    cases hb : decB (V : Int) with
    | false => rfl
    | true => rw [decB_iff] at hb; exact (h (by omega)).elim
  unfold decK decX decE
  rw [hb]; simp

set_option maxRecDepth 100000 in
set_option maxHeartbeats 1600000 in
theorem vdec_any (w : Int) (W : World) (hw : U64 w) : Calls Try.prog 57 #[.int .u64 w] W (Out W (.tuple #[.agg #[.int .i64 (decK w), .int .i64 (decX w)], .int .i64 (decE w)])) := by
  obtain ⟨V, rfl, hV⟩ := hw.nat
  have ha := and3_word V hV
  have hr : V % 4 = 0 ∨ V % 4 = 1 ∨ V % 4 = 2 ∨ V % 4 = 3 := by omega
  have alc : ∀ o, Hid (Below W.heap.size W (W.alloc o)) := fun o => (Below.refl W.heap.size W).alloc (Nat.le_refl _) o
  rcases hr with h | h | h | h
  · rw [h] at ha
    by_cases h0 : V = 0
    · subst h0
      have HD := Lib.hid dec_zero
      clear hV hw h
      go_enter Try.func57, Try.ntmps57
      go_wp2
      exact bodyPost_ret (v := .tuple #[.agg #[.int .i64 0, .int .i64 0], .int .i64 0]) (by simp [results, Try.results57, go_sem]) rfl (Out.mk' (val_eq HD.out.1.symm HD.out.2.1.symm HD.out.2.2.symm) (alc _).out)
    · have HD := Lib.hid (dec_not V (by omega))
      have hb0 : ((V : Int) == 0) = false := by rw [beq_eq_false_iff_ne]; omega
      clear hV hw h h0
      go_enter Try.func57, Try.ntmps57
      go_wp2
      exact bodyPost_ret (v := .tuple #[.agg #[.int .i64 0, .int .i64 0], .int .i64 3]) (by simp [results, Try.results57, go_sem]) rfl (Out.mk' (val_eq HD.out.1 HD.out.2.1 HD.out.2.2) (alc _).out)
  · rw [h] at ha
    have HD := Lib.hid (dec_imm V hV h)
    clear hV hw h
    go_enter Try.func57, Try.ntmps57
    go_wp2
    exact bodyPost_ret (v := .tuple #[.agg #[.int .i64 1, .int .i64 (wrap64 (V : Int) / 4)], .int .i64 0]) (by simp [results, Try.results57, go_sem]) rfl (Out.mk' (val_eq HD.out.1 HD.out.2.1 HD.out.2.2) (alc _).out)
  · rw [h] at ha
    by_cases h1 : V / 4 ≤ 1099511627776
    · have HD := Lib.hid (dec_ref V h h1)
      have hV2 : (V : Int) ≤ 9223372036854775807 := by omega
      have hq : (V : Int) / 4 ≤ 1099511627776 := by omega
      clear hV hw h h1
      go_enter Try.func57, Try.ntmps57
      go_wp2
      exact bodyPost_ret (v := .tuple #[.agg #[.int .i64 2, .int .i64 ((V / 4 : Nat) : Int)], .int .i64 0]) (by simp [results, Try.results57, go_sem]) rfl (Out.mk' (val_eq HD.out.1 HD.out.2.1 HD.out.2.2) (alc _).out)
    · have HD := Lib.hid (dec_not V (by omega))
      have hq : ¬ (V : Int) / 4 ≤ 1099511627776 := by omega
      clear hV hw h h1
      go_enter Try.func57, Try.ntmps57
      go_wp2
      exact bodyPost_ret (v := .tuple #[.agg #[.int .i64 0, .int .i64 0], .int .i64 3]) (by simp [results, Try.results57, go_sem]) rfl (Out.mk' (val_eq HD.out.1 HD.out.2.1 HD.out.2.2) (alc _).out)
  · rw [h] at ha
    have HD := Lib.hid (dec_not V (by omega))
    clear hV hw h
    go_enter Try.func57, Try.ntmps57
    go_wp2
    exact bodyPost_ret (v := .tuple #[.agg #[.int .i64 0, .int .i64 0], .int .i64 3]) (by simp [results, Try.results57, go_sem]) rfl (Out.mk' (val_eq HD.out.1 HD.out.2.1 HD.out.2.2) (alc _).out)

set_option maxRecDepth 100000 in
set_option maxHeartbeats 1600000 in
theorem rdec_any (w : Int) (W : World) (hw : U64 w) : Calls Try.prog 110 #[.int .u64 w] W (Out W (.tuple #[.agg #[.int .i64 (decK w), .int .i64 (decX w)], .int .i64 (decE w)])) := by
  obtain ⟨V, rfl, hV⟩ := hw.nat
  have alc : ∀ o, Hid (Below W.heap.size W (W.alloc o)) := fun o => (Below.refl W.heap.size W).alloc (Nat.le_refl _) o
  by_cases h0 : V = 0
  · subst h0
    have HD := Lib.hid dec_zero
    clear hV hw
    go_enter Try.func110, Try.ntmps110
    go_wp2
    exact bodyPost_ret (v := .tuple #[.agg #[.int .i64 0, .int .i64 0], .int .i64 0]) (by simp [results, Try.results110, go_sem]) rfl (Out.mk' (val_eq HD.out.1.symm HD.out.2.1.symm HD.out.2.2.symm) (alc _).out)
  · have hb0 : ((V : Int) == 0) = false := by rw [beq_eq_false_iff_ne]; omega
    have hV1 : (V : Int) < 18446744073709551616 := by omega
    have hV0 : (0 : Int) ≤ (V : Int) := by omega
    by_cases h1 : V % 4 = 1
    · have hm : ((V : Int) % 4 == 1) = true := by rw [beq_iff_eq]; omega
      by_cases h2 : V / 4 < 2305843009213693952
      · have HD := Lib.hid (dec_imm_lo V h1 h2)
        have hq : (V : Int) / 4 < 2305843009213693952 := by omega
        clear hV hw h0 h1 h2
        go_enter Try.func110, Try.ntmps110
        go_wp2
        exact bodyPost_ret (v := .tuple #[.agg #[.int .i64 1, .int .i64 ((V / 4 : Nat) : Int)], .int .i64 0]) (by simp [results, Try.results110, go_sem]) rfl (Out.mk' (val_eq HD.out.1 HD.out.2.1 HD.out.2.2) (alc _).out)
      · have HD := Lib.hid (dec_imm_hi V h1 h2)
        have hq : ¬ (V : Int) / 4 < 2305843009213693952 := by omega
        have hq2 : (V : Int) / 4 ≤ 4611686018427387903 := by omega
        have hq3 : 0 ≤ (V : Int) / 4 := by omega
        clear hV hw h0 h1 h2 hV1
        go_enter Try.func110, Try.ntmps110
        go_wp2
        exact bodyPost_ret (v := .tuple #[.agg #[.int .i64 1, .int .i64 (-(4611686018427387904 - (V : Int) / 4))], .int .i64 0]) (by simp [results, Try.results110, go_sem]) rfl (Out.mk' (val_eq HD.out.1 (by rw [← HD.out.2.1]; omega) HD.out.2.2) (alc _).out)
    · have hm : ((V : Int) % 4 == 1) = false := by rw [beq_eq_false_iff_ne]; omega
      by_cases h2 : V % 4 = 2
      · have hm2 : ((V : Int) % 4 == 2) = true := by rw [beq_iff_eq]; omega
        by_cases h3 : V / 4 ≤ 1099511627776
        · have HD := Lib.hid (dec_ref V h2 h3)
          have hq : (V : Int) / 4 ≤ 1099511627776 := by omega
          clear hV hw h0 h1 h2 h3 hV1
          go_enter Try.func110, Try.ntmps110
          go_wp2
          exact bodyPost_ret (v := .tuple #[.agg #[.int .i64 2, .int .i64 ((V / 4 : Nat) : Int)], .int .i64 0]) (by simp [results, Try.results110, go_sem]) rfl (Out.mk' (val_eq HD.out.1 HD.out.2.1 HD.out.2.2) (alc _).out)
        · have HD := Lib.hid (dec_not V (by omega))
          have hq : ¬ (V : Int) / 4 ≤ 1099511627776 := by omega
          have hq2 : (V : Int) / 4 ≤ 4611686018427387903 := by omega
          clear hV hw h0 h1 h2 h3 hV1
          go_enter Try.func110, Try.ntmps110
          go_wp2
          exact bodyPost_ret (v := .tuple #[.agg #[.int .i64 0, .int .i64 0], .int .i64 3]) (by simp [results, Try.results110, go_sem]) rfl (Out.mk' (val_eq HD.out.1 HD.out.2.1 HD.out.2.2) (alc _).out)
      · have HD := Lib.hid (dec_not V (by omega))
        have hm2 : ((V : Int) % 4 == 2) = false := by rw [beq_eq_false_iff_ne]; omega
        clear hV hw h0 h1 h2 hV1
        go_enter Try.func110, Try.ntmps110
        go_wp2
        exact bodyPost_ret (v := .tuple #[.agg #[.int .i64 0, .int .i64 0], .int .i64 3]) (by simp [results, Try.results110, go_sem]) rfl (Out.mk' (val_eq HD.out.1 HD.out.2.1 HD.out.2.2) (alc _).out)

theorem ref_yes {w : Int} (h : refB w = true) : decE w = 0 ∧ decK w = 2 ∧ decX w = refV w := by
  have h2 := (refB_iff w).1 h
  have hb : decB w = true := (decB_iff w).2 (.inr (.inr h2))
  unfold decK decX decE refV
  rw [hb, h]
  simp only [if_true]
  refine ⟨by trivial, by omega, ?_⟩
  rw [if_neg (by omega)]
theorem ref_no {w : Int} (h : refB w = false) : refV w = 0 ∧ (decE w = 0 ∧ ¬ decK w = 2 ∨ ¬ decE w = 0 ∧ ¬ decK w = 2) := by
  have h2 : ¬ (w % 4 = 2 ∧ w / 4 ≤ 1099511627776) := fun e => by rw [(refB_iff w).2 e] at h; cases h
  unfold decK decE refV
  rw [h]
  refine ⟨by simp, ?_⟩
  cases hb : decB w with
  | true =>
    left
    rw [decB_iff] at hb
    simp only [if_true]
    refine ⟨by trivial, by omega⟩
  | false => right; simp

theorem ret2_ib {a b : Int} {p q : Bool} (h : a = b) (h2 : p = q) : (Value.tuple #[.int .i64 a, .bool p]) = .tuple #[.int .i64 b, .bool q] := by rw [h, h2]
/-- where a reference leads: value.Ref -/
theorem vref_any (w : Int) (W : World) (hw : U64 w) : Calls Try.prog 109 #[.int .u64 w] W (Out W (.tuple #[.int .i64 (refV w), .bool (refB w)])) := by
  have HD := Lib.hid (vdec_any w W hw)
  clear hw
  cases h : refB w with
  | true =>
    obtain ⟨e1, e2, e3⟩ := ref_yes h
    go_enter Try.func109, Try.ntmps109
    go_wp2_with fail
    refine HD.out.mono ?_
    rintro e w1 ⟨rfl, hb⟩
    rw [e1, e2, e3]
    have HB := Lib.hid hb
    clear hb e1 e2 e3 h HD
    go_wp2
    go_ret2
    exact ⟨rfl, HB.out.alloc HB.out.size _⟩
  | false =>
    obtain ⟨e0, e1⟩ := ref_no h
    rw [e0]
    rcases e1 with ⟨e1, e2⟩ | ⟨e1, e2⟩
    · have b2 : (decK w != 2) = true := by rw [bne_iff_ne]; exact e2
      go_enter Try.func109, Try.ntmps109
      go_wp2_with fail
      refine HD.out.mono ?_
      rintro e w1 ⟨rfl, hb⟩
      rw [e1]
      have HB := Lib.hid hb
      clear hb e1 e2 h HD e0
      go_wp2
      go_ret2
      exact ⟨rfl, HB.out.alloc HB.out.size _⟩
    · have b2 : (decE w != 0) = true := by rw [bne_iff_ne]; exact e1
      go_enter Try.func109, Try.ntmps109
      go_wp2_with fail
      refine HD.out.mono ?_
      rintro e w1 ⟨rfl, hb⟩
      have HB := Lib.hid hb
      clear hb e1 e2 h HD e0
      go_wp2
      go_ret2
      exact ⟨rfl, HB.out.alloc HB.out.size _⟩

set_option maxRecDepth 100000 in
set_option maxHeartbeats 1600000 in
/-- where a reference leads: the reference's Ref -/
theorem rref_any (w : Int) (W : World) (hw : U64 w) : Calls Try.prog 53 #[.int .u64 w] W (Out W (.tuple #[.int .i64 (refV w), .bool (refB w)])) := by
  have HD := Lib.hid (rdec_any w W hw)
  clear hw
  cases h : refB w with
  | true =>
    obtain ⟨e1, e2, e3⟩ := ref_yes h
    go_enter Try.func53, Try.ntmps53
    go_wp2_with fail
    refine HD.out.mono ?_
    rintro e w1 ⟨rfl, hb⟩
    rw [e1, e2, e3]
    have HB := Lib.hid hb
    clear hb e1 e2 e3 h HD
    go_wp2
    go_ret2
    exact ⟨rfl, HB.out.alloc HB.out.size _⟩
  | false =>
    obtain ⟨e0, e1⟩ := ref_no h
    rw [e0]
    have b2 : (decK w == 2) = false := by rw [beq_eq_false_iff_ne]; rcases e1 with e | e <;> exact e.2
    go_enter Try.func53, Try.ntmps53
    go_wp2_with fail
    refine HD.out.mono ?_
    rintro e w1 ⟨rfl, hb⟩
    have HB := Lib.hid hb
    clear hb e1 h HD e0
    go_wp2
    go_ret2
    exact ⟨rfl, HB.out.alloc HB.out.size _⟩

set_option maxRecDepth 100000 in
set_option maxHeartbeats 1600000 in
theorem forwarded_any (w : Int) (W : World) (hw : U64 w) : Calls Try.prog 52 #[.int .u64 w] W (Out W (.tuple #[.int .i64 (refV w), .bool (refB w)])) := by
  have HD := Lib.hid (vref_any w W hw)
  clear hw
  go_enter Try.func52, Try.ntmps52
  go_wp2_with (refine HD.out.mono ?_; rintro e w1 ⟨rfl, hb⟩)
  go_ret2
  exact ⟨rfl, hb⟩

theorem or_low (X b : Nat) (hX : X < 4611686018427387904) (hb : b < 4) : bits .or .u64 ((X : Int) * 4) (b : Int) = ((X * 4 + b : Nat) : Int) := by
  rw [show (X : Int) * 4 = ((X * 4 : Nat) : Int) by omega, u64_or_nat _ _ (by omega) (by omega), nat_join 2 (X * 4) b (by omega) (by omega)]
theorem valW_ref {x : Int} (h0 : 0 ≤ x) (h1 : x ≤ 1099511627776) : valW 2 x = x * 4 + 2 := by
  unfold valW; rw [valB_mk (.inr (.inr ⟨rfl, h0, h1⟩)), if_pos rfl]; omega

set_option maxRecDepth 100000 in
set_option maxHeartbeats 1600000 in
theorem venc_ref (x : Int) (W : World) : Calls Try.prog 107 #[.agg #[.int .i64 2, .int .i64 x]] W (Out W (.tuple #[.int .u64 (valW 2 x), .int .i64 (valE 2 x)])) := by
  have alc : ∀ o, Hid (Below W.heap.size W (W.alloc o)) := fun o => (Below.refl W.heap.size W).alloc (Nat.le_refl _) o
  have bad : ¬ (0 ≤ x ∧ x ≤ 1099511627776) → Hid (0 = valW 2 x ∧ 1 = valE 2 x) := fun h => by
    have hb : valB 2 x = false := valB_not (by omega)
    show _ ∧ _
    unfold valW valE; rw [hb]; simp
  by_cases h0 : 0 ≤ x
  · by_cases h1 : x ≤ 1099511627776
    · obtain ⟨X, rfl⟩ := Int.eq_ofNat_of_zero_le h0
      have hor := Lib.hid (or_low X 2 (by omega) (by decide))
      have hvw := Lib.hid (valW_ref h0 h1)
      have hve : Hid (0 = valE 2 (X : Int)) := by show _ = valE _ _; unfold valE; rw [valB_mk (.inr (.inr ⟨rfl, h0, h1⟩)), if_pos rfl]
      clear bad
      go_enter Try.func107, Try.ntmps107
      go_wp2
      go_ret2
      exact Out.mk2 (by rw [hvw.out]; exact hor.out) hve.out (alc _).out
    · have hz := bad (by omega)
      clear bad
      go_enter Try.func107, Try.ntmps107
      go_wp2
      go_ret2
      exact Out.mk2 hz.out.1 hz.out.2 (alc _).out
  · have hz := bad (by omega)
    clear bad
    go_enter Try.func107, Try.ntmps107
    go_wp2
    go_ret2
    exact Out.mk2 hz.out.1 hz.out.2 (alc _).out

set_option maxRecDepth 100000 in
set_option maxHeartbeats 1600000 in
theorem vmay_ref (x : Int) (W : World) : Calls Try.prog 130 #[.agg #[.int .i64 2, .int .i64 x]] W (Out W (.bool (valB 2 x))) := by
  have alc : ∀ o, Hid (Below W.heap.size W (W.alloc o)) := fun o => (Below.refl W.heap.size W).alloc (Nat.le_refl _) o
  have hy : Hid (∀ b, valB 2 x = b → Calls Try.prog 130 #[.agg #[.int .i64 2, .int .i64 x]] W (Out W (.bool b)) → Calls Try.prog 130 #[.agg #[.int .i64 2, .int .i64 x]] W (Out W (.bool (valB 2 x)))) := fun b h c => h ▸ c
  by_cases h0 : 0 ≤ x
  · by_cases h1 : x ≤ 1099511627776
    · refine hy.out true (valB_mk (by omega)) ?_
      clear hy
      go_enter Try.func130, Try.ntmps130
      go_wp2
      go_ret
      exact ⟨rfl, (alc _).out⟩
    · refine hy.out false (valB_not (by omega)) ?_
      clear hy
      go_enter Try.func130, Try.ntmps130
      go_wp2
      go_ret
      exact ⟨rfl, (alc _).out⟩
  · refine hy.out false (valB_not (by omega)) ?_
    clear hy
    go_enter Try.func130, Try.ntmps130
    go_wp2
    go_ret
    exact ⟨rfl, (alc _).out⟩

set_option maxRecDepth 100000 in
set_option maxHeartbeats 1600000 in
theorem renc_ref (x : Int) (W : World) : Calls Try.prog 108 #[.agg #[.int .i64 2, .int .i64 x]] W (Out W (.tuple #[.int .u64 (valW 2 x), .int .i64 (valE 2 x)])) := by
  have HM : Hid (∀ w, Calls Try.prog 130 #[.agg #[.int .i64 2, .int .i64 x]] w (Out w (.bool (valB 2 x)))) := fun w => vmay_ref x w
  cases hb : valB 2 x with
  | true =>
    rw [hb] at HM
    have hc := valB_cases hb
    have h0 : 0 ≤ x := by omega
    have h1 : x ≤ 1099511627776 := by omega
    have hvw := Lib.hid (valW_ref h0 h1)
    have hve : Hid (0 = valE 2 x) := by show _ = valE _ _; unfold valE; rw [hb, if_pos rfl]
    clear hb hc
    go_enter Try.func108, Try.ntmps108
    go_wp2_with fail
    refine (HM.out _).mono ?_
    rintro e w1 ⟨rfl, hb⟩
    have HB := Lib.hid (((Below.refl W.heap.size W).alloc (Nat.le_refl _) _).trans (hb.mono (by simp)))
    have hc0 := hb.cell (p := ⟨W.heap.size, 0, none⟩) (by simp)
    have hc1 := hb.cell (p := ⟨W.heap.size, 1, none⟩) (by simp)
    rw [World.cell?_alloc_new] at hc0 hc1
    clear hb
    go_wp2
    go_ret2
    exact Out.mk2 (by rw [hvw.out]; omega) hve.out HB.out
  | false =>
    rw [hb] at HM
    have hz : Hid (0 = valW 2 x ∧ 1 = valE 2 x) := by show _ ∧ _; unfold valW valE; rw [hb]; simp
    clear hb
    go_enter Try.func108, Try.ntmps108
    go_wp2_with fail
    refine (HM.out _).mono ?_
    rintro e w1 ⟨rfl, hb⟩
    have HB := Lib.hid (((Below.refl W.heap.size W).alloc (Nat.le_refl _) _).trans (hb.mono (by simp)))
    clear hb
    go_wp2
    go_ret2
    exact Out.mk2 hz.out.1 hz.out.2 HB.out

set_option maxRecDepth 100000 in
set_option maxHeartbeats 1600000 in
theorem forward_any (x : Int) (W : World) : Calls Try.prog 50 #[.int .i64 x] W (Out W (.tuple #[.int .u64 (valW 2 x), .int .i64 (valE 2 x)])) := by
  go_enter Try.func50, Try.ntmps50
  go_wp2_with (refine (venc_ref _ _).mono ?_; rintro e w1 ⟨rfl, hb⟩)
  go_ret2
  exact ⟨rfl, hb⟩
set_option maxRecDepth 100000 in
set_option maxHeartbeats 1600000 in
theorem rforward_any (x : Int) (W : World) : Calls Try.prog 51 #[.int .i64 x] W (Out W (.tuple #[.int .u64 (valW 2 x), .int .i64 (valE 2 x)])) := by
  go_enter Try.func51, Try.ntmps51
  go_wp2_with (refine (renc_ref _ _).mono ?_; rintro e w1 ⟨rfl, hb⟩)
  go_ret2
  exact ⟨rfl, hb⟩
end Go.Proofs.Ytcljgphipdbckaa
