/- The walks of layer 14 (roots), ninth part: Used, New, Ints. -/
import Derived.Test.YtcljgphipdbckaaM14c
import Derived.Test.YtcljgphipdbckaaW02d
namespace Go.Proofs.Ytcljgphipdbckaa
set_option linter.unusedVariables false
set_option linter.unusedSimpArgs false
open Go.RowKit

set_option maxHeartbeats 800000 in
theorem used_any {w : World} {v : Value} {ss : List Slot} (hv : Sw w v ss) : Calls Try.prog 70 #[v] w (Out w (.int .i64 (usedN ss : Nat))) := by
  obtain ⟨⟨A, c, rfl, a1, a2, _⟩, _⟩ := id hv
  unfold maxLen at a2
  have HV := Lib.hid hv
  clear hv
  go_enter Try.func70, Try.ntmps70
  go_wp2
  go_loopw [3, 8] (fun x i wr => ∃ (k U : Nat), k ≤ ss.length ∧ i = .int .i64 (k : Nat) ∧ x = .int .i64 (U : Nat) ∧ U ≤ k ∧ Hid (usedN (ss.take k) = U) ∧ Hid (Below w.heap.size w wr)) (fun _ i _ => ss.length - (intOf i).toNat)
  case atStart => exact ⟨0, 0, by omega, rfl, rfl, by omega, rfl, Below.refl _ _⟩
  case round =>
    obtain ⟨k, U, hk, rfl, rfl, hU, hu, hb⟩ := hrel
    by_cases hlt : k < ss.length
    · have HV2 := Lib.hid (HV.out.below hb.out)
      obtain ⟨b, o, rfl, hbl, hc⟩ := HV2.out.at_ (by omega)
      obtain ⟨c0, c1, c2⟩ := hc k hlt
      have hi0 : (0 : Int) ≤ (k : Int) := by omega
      have hi1 : (k : Int) < (ss.length : Int) := by omega
      have hs := usedN_succ ss k hlt
      rw [hu.out] at hs
      obtain ⟨su, hsu⟩ : ∃ su, su = (slot ss k).used := ⟨_, rfl⟩
      obtain ⟨sg, hsg⟩ : ∃ sg, sg = (slot ss k).gen := ⟨_, rfl⟩
      obtain ⟨sx, hsx⟩ : ∃ sx, sx = (slot ss k).word := ⟨_, rfl⟩
      rw [← hsu] at c0 hs
      rw [← hsg] at c1
      rw [← hsx] at c2
      clear hc hsu hsg hsx hu
      have HBa := Lib.hid (hb.out.alloc hb.out.size (.cells #[.bool su, .int .i64 sg, .int .u64 sx] 89))
      have HKa := Lib.hid (Blk.new wr 89 #[.bool su, .int .i64 sg, .int .u64 sx])
      cases su with
      | true =>
        have HS := Lib.hid hs
        clear hs
        go_wp2
        go_roundw
        case rel => exact ⟨k + 1, U + 1, by omega, by go_num, by go_num, by omega, by show usedN (ss.take (k + 1)) = _; rw [HS.out]; simp, HBa.out⟩
        case measure => simp [intOf] <;> omega
      | false =>
        have HS := Lib.hid hs
        clear hs
        go_wp2
        go_roundw
        case rel => exact ⟨k + 1, U, by omega, by go_num, rfl, by omega, by show usedN (ss.take (k + 1)) = _; rw [HS.out]; simp, HBa.out⟩
        case measure => simp [intOf] <;> omega
    · obtain rfl : k = ss.length := by omega
      go_wp2
      go_ret
      exact ⟨by rw [← hu.out, List.take_length]; rfl, hb.out⟩

set_option maxHeartbeats 800000 in
theorem rused_any {w : World} {v : Value} {ss : List Slot} (hv : Sw w v ss) : Calls Try.prog 71 #[v] w (Out w (.int .i64 (usedN ss : Nat))) := by
  obtain ⟨⟨A, c, rfl, a1, a2, _⟩, _⟩ := id hv
  unfold maxLen at a2
  have HV := Lib.hid hv
  clear hv
  go_enter Try.func71, Try.ntmps71
  go_wp2
  go_loopw [3, 4] (fun x i wr => ∃ (k U : Nat), k ≤ ss.length ∧ i = .int .i64 (k : Nat) ∧ x = .int .i64 (U : Nat) ∧ U ≤ k ∧ Hid (usedN (ss.take k) = U) ∧ Hid (Below w.heap.size w wr)) (fun _ i _ => ss.length - (intOf i).toNat)
  case atStart => exact ⟨0, 0, by omega, rfl, rfl, by omega, rfl, Below.refl _ _⟩
  case round =>
    obtain ⟨k, U, hk, rfl, rfl, hU, hu, hb⟩ := hrel
    by_cases hlt : k < ss.length
    · have HV2 := Lib.hid (HV.out.below hb.out)
      obtain ⟨b, o, rfl, hbl, hc⟩ := HV2.out.at_ (by omega)
      obtain ⟨c0, c1, c2⟩ := hc k hlt
      have hi0 : (0 : Int) ≤ (k : Int) := by omega
      have hi1 : (k : Int) < (ss.length : Int) := by omega
      have hs := usedN_succ ss k hlt
      rw [hu.out] at hs
      obtain ⟨su, hsu⟩ : ∃ su, su = (slot ss k).used := ⟨_, rfl⟩
      obtain ⟨sg, hsg⟩ : ∃ sg, sg = (slot ss k).gen := ⟨_, rfl⟩
      obtain ⟨sx, hsx⟩ : ∃ sx, sx = (slot ss k).word := ⟨_, rfl⟩
      rw [← hsu] at c0 hs
      rw [← hsg] at c1
      rw [← hsx] at c2
      clear hc hsu hsg hsx hu
      cases su with
      | true =>
        have HS := Lib.hid hs
        clear hs
        go_wp2
        go_roundw
        case rel => exact ⟨k + 1, U + 1, by omega, by go_num, by go_num, by omega, by show usedN (ss.take (k + 1)) = _; rw [HS.out]; simp, hb.out⟩
        case measure => simp [intOf] <;> omega
      | false =>
        have HS := Lib.hid hs
        clear hs
        go_wp2
        go_roundw
        case rel => exact ⟨k + 1, U, by omega, by go_num, rfl, by omega, by show usedN (ss.take (k + 1)) = _; rw [HS.out]; simp, hb.out⟩
        case measure => simp [intOf] <;> omega
    · obtain rfl : k = ss.length := by omega
      go_wp2
      go_ret
      exact ⟨by rw [← hu.out, List.take_length]; rfl, hb.out⟩

/-- n new slots -/
def zslots (n : Nat) : List Slot := List.replicate n Slot.zero
theorem zslots_length (n : Nat) : (zslots n).length = n := by simp [zslots]
theorem zslots_fit (n : Nat) : FitS (zslots n) := by
  intro x hx
  rw [List.eq_of_mem_replicate hx]
  exact ⟨⟨by decide, by decide⟩, by decide, by decide⟩
theorem sls_zeros (n : Nat) : sls (zslots n) = (List.range (n * 3)).map fun i => if i % 3 = 0 then Value.bool false else if i % 3 = 1 then Value.int .i64 0 else Value.int .u64 0 := by
  apply List.ext_getElem?
  intro i
  rcases Nat.lt_or_ge i (n * 3) with h | h
  · have hl : i / 3 < (zslots n).length := by rw [zslots_length]; omega
    have q := sls_get (zslots n) (i / 3) hl
    have z : slot (zslots n) (i / 3) = Slot.zero := slot_zeros n (i / 3)
    rw [z] at q
    rw [List.getElem?_map, List.getElem?_range h]
    have h3 : i % 3 = 0 ∨ i % 3 = 1 ∨ i % 3 = 2 := by omega
    rcases h3 with h3 | h3 | h3
    · rw [show i / 3 * 3 = i by omega] at q
      rw [q.1]; simp [h3, Slot.zero]
    · rw [show i / 3 * 3 + 1 = i by omega] at q
      rw [q.2.1]; simp [h3, Slot.zero]
    · rw [show i / 3 * 3 + 2 = i by omega] at q
      rw [q.2.2]; simp [h3, Slot.zero]
  · rw [List.getElem?_eq_none (by rw [sls_length, zslots_length]; exact h), List.getElem?_eq_none (by simp; omega)]
theorem made_slots (n : Nat) : (madeCells #[Value.bool false, Value.int .i64 0, Value.int .u64 0] (n * 3)).toList = sls (zslots n) := by
  rw [sls_zeros]
  apply List.ext_getElem?
  intro i
  rcases Nat.lt_or_ge i (n * 3) with h | h
  · have h3 : i % 3 = 0 ∨ i % 3 = 1 ∨ i % 3 = 2 := by omega
    rcases h3 with h3 | h3 | h3 <;> simp [madeCells, h, h3]
  · rw [List.getElem?_eq_none (by simp [madeCells]; omega), List.getElem?_eq_none (by simp; omega)]
attribute [irreducible] zslots
theorem run_make_slots (n : Nat) (hn : n ≤ 1000000) (w : World) :
    (Instr.makeSlice 73 (.int .i64 (n : Int)) (.int .i64 (n : Int))).run Try.prog w = .ok (.slice (some ⟨w.heap.size, 0, none⟩) n n) (w.alloc (.cells (madeCells #[.bool false, .int .i64 0, .int .u64 0] (n * 3)) 89)) := by
  obtain ⟨i0, hi, hz0, hz1, hz2⟩ := info_parts slot_info
  have hr := run_make (P := Try.prog) w 73 89 i0 _ Try.underlying73 hi hz0 .i64 .i64 n n (by omega) (by omega) (by rw [hz2]; omega) (by omega)
  simp only [Int.toNat_natCast, hz1] at hr
  exact hr
set_option maxHeartbeats 400000 in
theorem newS_bad (n : Int) (w : World) (h : n < 1 ∨ 1024 < n) : Calls Try.prog 68 #[.int .i64 n] w fun e w' => e = .returned (.tuple #[.slice none 0 0, .int .i64 1]) ∧ w = w' := by
  rcases h with h | h
  · go_enter Try.func68, Try.ntmps68
    go_wp2
    go_ret2
    exact ⟨rfl, rfl⟩
  · have h' : ¬ n < 1 := by omega
    go_enter Try.func68, Try.ntmps68
    go_wp2
    go_ret2
    exact ⟨rfl, rfl⟩
set_option maxHeartbeats 400000 in
theorem newS_any (n : Nat) (w : World) (h1 : 1 ≤ n) (h : n ≤ 1024) : Calls Try.prog 68 #[.int .i64 (n : Nat)] w (TabNew w (zslots n) 0) := by
  have hmk := fun w => run_make_slots n (by omega) w
  have hn1 : ¬ ((n : Int) < 1) := by omega
  have hn2 : (n : Int) ≤ 1024 := by omega
  have hown : (w.alloc (.cells (madeCells #[.bool false, .int .i64 0, .int .u64 0] (n * 3)) 89)).ownsRow w.heap.size 89 3 (.slice (some ⟨w.heap.size, 0, none⟩) n n) n (sls (zslots n)) := by
    rw [← made_slots]
    exact World.ownsRow_lit w _ n (Nat.le_refl _) (by simp only [maxLen]; omega) (by rw [size_madeCells])
  have HO := Lib.hid hown
  have HB := Lib.hid ((Below.refl w.heap.size w).alloc (Nat.le_refl _) (.cells (madeCells #[.bool false, .int .i64 0, .int .u64 0] (n * 3)) 89))
  have HL := Lib.hid (zslots_length n).symm
  clear hown h
  go_enter Try.func68, Try.ntmps68
  go_wp2
  go_ret2
  exact TabNew.own HL.out HO.out (zslots_fit n) HB.out

def sameI (xs ys : List Int) : Bool := decide (xs = ys)
theorem sameI_refl (xs : List Int) : sameI xs xs = true := by simp [sameI]
set_option maxHeartbeats 800000 in
theorem ints_any {w : World} {v u : Value} {xs ys : List Int} (hv : Iw w v xs) (hu : Iw w u ys) : Calls Try.prog 73 #[v, u] w fun e w' => e = .returned (.bool (sameI xs ys)) ∧ ∃ k, w.drewN k = w' := by
  obtain ⟨A, c, rfl, a1, a2, _⟩ := id hv
  obtain ⟨B, d, rfl, b1, b2, _⟩ := id hu
  unfold maxLen at a2 b2
  by_cases hl : xs.length = ys.length
  · have hb : ((xs.length : Int) != (ys.length : Int)) = false := by simp [hl]
    have hl1 : xs.length ≤ ys.length := by omega
    have hl2 : ys.length ≤ xs.length := by omega
    have HL := Lib.hid hl
    have HV := Lib.hid hv
    have HU := Lib.hid hu
    clear hl hv hu
    go_enter Try.func73, Try.ntmps73
    go_wp2
    go_loopw [5] (fun i wr => ∃ k m : Nat, k ≤ xs.length ∧ i = .int .i64 (k : Nat) ∧ Hid (xs.take k = ys.take k) ∧ wr = w.drewN m) (fun i _ => xs.length - (intOf i).toNat)
    case atStart => exact ⟨0, 0, by omega, rfl, rfl, rfl⟩
    case round =>
      obtain ⟨k, m, hk, rfl, ht, rfl⟩ := hrel
      by_cases hlt : k < xs.length
      · obtain ⟨b, o, rfl, _, hc⟩ := HV.out.at_ (by omega)
        obtain ⟨b', o', rfl, _, hc'⟩ := HU.out.at_ (by omega)
        have hx := hc k hlt
        have hy := hc' k (by omega)
        have hi0 : (0 : Int) ≤ (k : Int) := by omega
        have hi1 : (k : Int) < (xs.length : Int) := by omega
        have hi2 : (k : Int) < (ys.length : Int) := by omega
        have tx := take_getD_succ xs k hlt
        have ty := take_getD_succ ys k (by omega)
        obtain ⟨x, ex⟩ : ∃ x, x = xs.getD k 0 := ⟨_, rfl⟩
        obtain ⟨y, ey⟩ : ∃ y, y = ys.getD k 0 := ⟨_, rfl⟩
        rw [← ex] at hx tx
        rw [← ey] at hy ty
        have TX := Lib.hid tx
        have TY := Lib.hid ty
        clear hc hc' ex ey tx ty
        by_cases hxy : x = y
        · have hne : (x != y) = false := by simp [hxy]
          have HXY := Lib.hid hxy
          clear hxy
          go_wp2
          go_quiet (fail)
          go_wp2
          go_roundw
          case rel => exact ⟨k + 1, _, by omega, by go_num, by show xs.take (k + 1) = ys.take (k + 1); rw [TX.out, TY.out, ht.out, HXY.out], rfl⟩
          case measure => simp [intOf] <;> omega
        · have hne : (x != y) = true := by simpa using hxy
          have hf : sameI xs ys = false := by
            unfold sameI
            apply decide_eq_false
            intro e
            subst e
            have := TX.out.symm.trans TY.out
            have := List.append_cancel_left this
            simp at this
            exact hxy this
          have HF := Lib.hid hf
          clear hxy hf
          go_wp2
          go_quiet (fail)
          go_wp2
          go_ret
          exact ⟨by rw [HF.out]; rfl, _, by rw [World.drewN_drewN]⟩
      · obtain rfl : k = xs.length := by omega
        have hf : sameI xs ys = true := by
          unfold sameI
          apply decide_eq_true
          have := ht.out
          rwa [List.take_length, List.take_of_length_le (by omega)] at this
        have HF := Lib.hid hf
        clear hf
        go_wp2
        go_ret
        exact ⟨by rw [HF.out]; rfl, _, rfl⟩
  · have hb : ((xs.length : Int) != (ys.length : Int)) = true := by simp; omega
    have hf : sameI xs ys = false := by
      unfold sameI
      apply decide_eq_false
      intro e; exact hl (by rw [e])
    rw [hf]
    clear hl hv hu hf
    go_enter Try.func73, Try.ntmps73
    go_wp2
    go_ret
    exact ⟨rfl, 0, rfl⟩
end Go.Proofs.Ytcljgphipdbckaa
