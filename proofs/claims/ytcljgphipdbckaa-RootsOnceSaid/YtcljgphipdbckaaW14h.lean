/- The walks of layer 14 (roots), eighth part: Same and Ints, Used. -/
import Derived.Test.YtcljgphipdbckaaW14g
import Derived.Laws.StructEq
namespace Go.Proofs.Ytcljgphipdbckaa
set_option linter.unusedVariables false
set_option linter.unusedSimpArgs false
open Go.RowKit

def sameS (xs ys : List Slot) : Bool := decide (xs = ys)
theorem sameS_refl (xs : List Slot) : sameS xs xs = true := by simp [sameS]
theorem take_ne {xs ys : List Slot} {k : Nat} (h1 : k < xs.length) (h2 : k < ys.length) (h : slot xs k ≠ slot ys k) : sameS xs ys = false := by
  unfold sameS
  apply decide_eq_false
  rintro rfl
  exact h rfl
theorem run_neq_slot (w : World) (a b : Slot) : (binOp .neq 89 (.agg #[.bool a.used, .int .i64 a.gen, .int .u64 a.word]) (.agg #[.bool b.used, .int .i64 b.gen, .int .u64 b.word])).run Try.prog w = .ok (.bool (!decide (a = b))) w := by
  have hS : Try.prog.underlying 89 = some (.struct (Try.prog.fieldsOf 89)) := by kernel_rfl
  have hp : Try.prog.stoodInHeld 89 = false := by kernel_rfl
  obtain ⟨u, y, x⟩ := a
  obtain ⟨u', y', x'⟩ := b
  rw [run_neq_struct, show (10000 : Nat) = 9999 + 1 from rfl, run_equalIn_agg w 9999 89 _ _ hS hp]
  simp only [Program.fieldsOf, Try.underlying89]
  go_simp
  by_cases h1 : u = u' <;> by_cases h2 : y = y' <;> by_cases h3 : x = x' <;> simp [h1, h2, h3]
theorem run_neqG_slot (w : World) (a b : Operand) (xs ys : Array Value) : (eqGuard .neq 89 a b (.agg xs) (.agg ys)).run Try.prog w = .ok () w := run_eqGuard_agg w _ _ _ _ _ _ (by kernel_rfl)
theorem sameS_of {xs ys : List Slot} (hl : xs.length = ys.length) (h : ∀ j, j < xs.length → slot xs j = slot ys j) : sameS xs ys = true := by
  unfold sameS
  apply decide_eq_true
  apply List.ext_getElem hl
  intro j h1 h2
  rw [← slot_get xs j h1, ← slot_get ys j h2]; exact h j h1
theorem none_succS {xs ys : List Slot} {k : Nat} (hn : ∀ j, j < k → slot xs j = slot ys j) (h : slot xs k = slot ys k) : ∀ j, j < k + 1 → slot xs j = slot ys j := fun j hj => by
  rcases Nat.lt_or_ge j k with h1 | h1
  · exact hn j h1
  · obtain rfl : j = k := by omega
    exact h
set_option maxHeartbeats 800000 in
theorem sameS_any {w : World} {v u : Value} {xs ys : List Slot} (hv : Sw w v xs) (hu : Sw w u ys) : Calls Try.prog 67 #[v, u] w fun e w' => e = .returned (.bool (sameS xs ys)) ∧ ∃ k, w.drewN k = w' := by
  obtain ⟨⟨A, c, rfl, a1, a2, _⟩, _⟩ := id hv
  obtain ⟨⟨B, d, rfl, b1, b2, _⟩, _⟩ := id hu
  unfold maxLen at a2 b2
  by_cases hl : xs.length = ys.length
  · have hb : ((xs.length : Int) != (ys.length : Int)) = false := by simp [hl]
    have hl1 : xs.length ≤ ys.length := by omega
    have hl2 : ys.length ≤ xs.length := by omega
    have HL := Lib.hid hl
    have HV := Lib.hid hv
    have HU := Lib.hid hu
    clear hl hv hu
    go_enter Try.func67, Try.ntmps67
    go_wp2
    go_loopw [5] (fun i wr => ∃ k m : Nat, k ≤ xs.length ∧ i = .int .i64 (k : Nat) ∧ Hid (∀ j, j < k → slot xs j = slot ys j) ∧ wr = w.drewN m) (fun i _ => xs.length - (intOf i).toNat)
    case atStart => exact ⟨0, 0, by omega, rfl, fun j hj => absurd hj (by omega), rfl⟩
    case round =>
      obtain ⟨k, m, hk, rfl, ht, rfl⟩ := hrel
      by_cases hlt : k < xs.length
      · obtain ⟨b, o, rfl, hbl, hc⟩ := HV.out.at_ (by omega)
        obtain ⟨b', o', rfl, hbl', hc'⟩ := HU.out.at_ (by omega)
        obtain ⟨c0, c1, c2⟩ := hc k hlt
        obtain ⟨d0, d1, d2⟩ := hc' k (by omega)
        have hi0 : (0 : Int) ≤ (k : Int) := by omega
        have hi1 : (k : Int) < (xs.length : Int) := by omega
        have hi2 : (k : Int) < (ys.length : Int) := by omega
        have ex : slot xs k = ⟨(slot xs k).used, (slot xs k).gen, (slot xs k).word⟩ := rfl
        have ey : slot ys k = ⟨(slot ys k).used, (slot ys k).gen, (slot ys k).word⟩ := rfl
        have key := fun w => run_neq_slot w (slot xs k) (slot ys k)
        have hgu := fun (w : World) (a b : Operand) (xs ys : Array Value) => run_neqG_slot w a b xs ys
        have EX := Lib.hid ex
        have EY := Lib.hid ey
        clear hc hc' ex ey
        by_cases hxy : slot xs k = slot ys k
        · simp only [decide_eq_true hxy, Bool.not_true] at key
          have HXY := Lib.hid hxy
          clear hxy EX EY
          generalize (slot xs k).used = u0 at *
          generalize (slot xs k).gen = u1 at *
          generalize (slot xs k).word = u2 at *
          generalize (slot ys k).used = v0 at *
          generalize (slot ys k).gen = v1 at *
          generalize (slot ys k).word = v2 at *
          go_wp2
          go_quiet (fail)
          go_wp2
          go_roundw
          case rel => exact ⟨k + 1, _, by omega, by go_num, none_succS ht.out HXY.out, rfl⟩
          case measure => simp [intOf] <;> omega
        · simp only [decide_eq_false hxy, Bool.not_false] at key
          have HF := Lib.hid (take_ne hlt (by omega) hxy)
          clear hxy EX EY
          generalize (slot xs k).used = u0 at *
          generalize (slot xs k).gen = u1 at *
          generalize (slot xs k).word = u2 at *
          generalize (slot ys k).used = v0 at *
          generalize (slot ys k).gen = v1 at *
          generalize (slot ys k).word = v2 at *
          go_wp2
          go_quiet (fail)
          go_wp2
          go_ret
          exact ⟨by rw [HF.out]; rfl, _, by rw [World.drewN_drewN]⟩
      · obtain rfl : k = xs.length := by omega
        have HF := Lib.hid (sameS_of HL.out ht.out)
        go_wp2
        go_ret
        exact ⟨by rw [HF.out]; rfl, _, rfl⟩
  · have hb : ((xs.length : Int) != (ys.length : Int)) = true := by simp; omega
    have hf : sameS xs ys = false := by
      unfold sameS
      apply decide_eq_false
      intro e; exact hl (by rw [e])
    rw [hf]
    clear hl hv hu hf
    go_enter Try.func67, Try.ntmps67
    go_wp2
    go_ret
    exact ⟨rfl, 0, rfl⟩
end Go.Proofs.Ytcljgphipdbckaa
