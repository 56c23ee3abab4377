/- Layer 14's awake. -/
import Derived.Test.YtcljgphipdbckaaW14l
namespace Go.Proofs.Ytcljgphipdbckaa
set_option linter.unusedVariables false
set_option linter.unusedSimpArgs false
open Go.RowKit

theorem TabNew3.sw {w : World} {ts us : List Slot} {H E H' E' : Int} {e : Ending} {w' : World} (h : TabNew3 w ts H E e w') (h1 : ts = us) (h2 : H = H') (h3 : E = E') (hl : us.length = 1) : ∃ A c, e = .returned (.tuple #[.slice A 1 c, .int .i64 H', .int .i64 E']) ∧ Sw w' (.slice A 1 c) us ∧ Below w.heap.size w w' := by
  subst h1 h2 h3
  obtain ⟨A, c, rfl, ho, hf, hb⟩ := h
  have hs := Sw.of_own ho hf
  rw [hl] at hs ⊢
  exact ⟨A, c, rfl, hs, hb⟩
theorem TabNew.sw {w : World} {ts us : List Slot} {E E' : Int} {e : Ending} {w' : World} (h : TabNew w ts E e w') (h1 : ts = us) (h3 : E = E') (hl : us.length = 1) : ∃ A c, e = .returned (.tuple #[.slice A 1 c, .int .i64 E']) ∧ Sw w' (.slice A 1 c) us ∧ Below w.heap.size w w' := by
  subst h1 h3
  obtain ⟨A, c, rfl, ho, hf, hb⟩ := h
  have hs := Sw.of_own ho hf
  rw [hl] at hs ⊢
  exact ⟨A, c, rfl, hs, hb⟩
theorem few1 (s : Slot) : Few [s].length := by unfold Few; simp
def s0 : Slot := ⟨false, 0, 0⟩
def s1 : Slot := ⟨true, 0, 5⟩
def s2 : Slot := ⟨false, 1, 0⟩
def s3 : Slot := ⟨true, 1, 9⟩
def s4 : Slot := ⟨true, 1, 13⟩
theorem zslots_one : zslots 1 = [s0] := by unfold zslots; rfl
theorem f_put0 : putL [s0] 5 = [s1] ∧ putH [s0] = 0 ∧ putE [s0] = 0 := by decide +kernel
theorem f_put1 : putL [s1] 9 = [s1] ∧ putH [s1] = 0 ∧ putE [s1] = 8 := by decide +kernel
theorem f_get1 : getW [s1] 0 = 5 ∧ fndE [s1] 0 = 0 := by decide +kernel
theorem f_drop1 : dropL [s1] 0 = [s2] ∧ fndE [s1] 0 = 0 := by decide +kernel
theorem f_put2 : putL [s2] 9 = [s3] ∧ putH [s2] = 1024 ∧ putE [s2] = 0 := by decide +kernel
theorem f_get3 : getW [s3] 0 = 0 ∧ fndE [s3] 0 = 5 := by decide +kernel
theorem f_set3 : setL [s3] 1024 13 = [s4] ∧ fndE [s3] 1024 = 0 := by decide +kernel
theorem f_get4 : getW [s4] 1024 = 13 ∧ fndE [s4] 1024 = 0 := by decide +kernel
theorem f_used4 : usedN [s4] = 1 := by decide +kernel
theorem f_right4 : rightB [s4] 1 = true := by decide +kernel
theorem f_han4 : handlesL [s4] (min [s4].length 1024) = [1024] := by decide +kernel
theorem put1_any {w : World} {A : Option Addr} {c : Nat} {s : Slot} {us : List Slot} {H E : Int} (x : Int) (hv : Sw w (.slice A 1 c) [s]) (hx : U64 x) (h : putL [s] x = us ∧ putH [s] = H ∧ putE [s] = E) (hl : us.length = 1) :
    Calls Try.prog 59 #[.slice A 1 c, .int .u64 x] w fun e w' => ∃ A c, e = .returned (.tuple #[.slice A 1 c, .int .i64 H, .int .i64 E]) ∧ Sw w' (.slice A 1 c) us ∧ Below w.heap.size w w' :=
  (put_any (ss := [s]) x hv hx (few1 s)).mono fun e w' t => TabNew3.sw t h.1 h.2.1 h.2.2 hl
theorem get1_any {w : World} {A : Option Addr} {c : Nat} {s : Slot} {x E : Int} (h : Int) (hh : h ≤ 9223372036854775807) (hv : Sw w (.slice A 1 c) [s]) (hq : getW [s] h = x ∧ fndE [s] h = E) :
    Calls Try.prog 61 #[.slice A 1 c, .int .i64 h] w (Out w (.tuple #[.int .u64 x, .int .i64 E])) := by
  have := get_any (ss := [s]) h hh hv
  rw [hq.1, hq.2] at this
  exact this
theorem drop1_one {w : World} {A : Option Addr} {c : Nat} {s : Slot} {us : List Slot} {E : Int} (h : Int) (hh : h ≤ 9223372036854775807) (hv : Sw w (.slice A 1 c) [s]) (hq : dropL [s] h = us ∧ fndE [s] h = E) (hl : us.length = 1) :
    Calls Try.prog 65 #[.slice A 1 c, .int .i64 h] w fun e w' => ∃ A c, e = .returned (.tuple #[.slice A 1 c, .int .i64 E]) ∧ Sw w' (.slice A 1 c) us ∧ Below w.heap.size w w' :=
  (drop_any (ss := [s]) h hh hv (few1 s)).mono fun e w' t => TabNew.sw t hq.1 hq.2 hl
theorem set1_one {w : World} {A : Option Addr} {c : Nat} {s : Slot} {us : List Slot} {E : Int} (h x : Int) (hh : h ≤ 9223372036854775807) (hv : Sw w (.slice A 1 c) [s]) (hx : U64 x) (hq : setL [s] h x = us ∧ fndE [s] h = E) (hl : us.length = 1) :
    Calls Try.prog 63 #[.slice A 1 c, .int .i64 h, .int .u64 x] w fun e w' => ∃ A c, e = .returned (.tuple #[.slice A 1 c, .int .i64 E]) ∧ Sw w' (.slice A 1 c) us ∧ Below w.heap.size w w' :=
  (set_any (ss := [s]) h x hh hv hx (few1 s)).mono fun e w' t => TabNew.sw t hq.1 hq.2 hl

set_option maxRecDepth 100000 in
set_option maxHeartbeats 4000000 in
theorem awake14 (W : World) : Calls Try.prog 58 #[] W (Out W (.bool true)) := by
  have n1 := Lib.hid (newS_any 1 W (by omega) (by omega))
  go_enter Try.func58, Try.ntmps58
  go_wp2_with fail
  refine n1.out.mono ?_
  intro e w1 t
  obtain ⟨A0, c0, rfl, hs, hb⟩ := TabNew.sw t zslots_one rfl rfl
  have S0 := Lib.hid hs
  have B1 := Lib.hid hb
  clear hs hb t n1
  have k := Lib.hid (put1_any 5 S0.out ⟨by decide, by decide⟩ f_put0 rfl)
  clear S0
  go_wp2_with fail
  refine k.out.mono ?_
  rintro e w2 ⟨A1, c1, rfl, hs, hb⟩
  have B2 := Lib.hid (below_tr14 B1.out hb)
  have S1 := Lib.hid hs
  clear hs hb k B1
  have k := Lib.hid (put1_any 9 S1.out ⟨by decide, by decide⟩ f_put1 rfl)
  go_wp2_with fail
  refine k.out.mono ?_
  rintro e w3 ⟨A2, c2, rfl, _, hb⟩
  have B3 := Lib.hid (below_tr14 B2.out hb)
  have S1' := Lib.hid (S1.out.below hb)
  clear hb k B2 S1
  have k := Lib.hid (get1_any 0 (by decide) S1'.out f_get1)
  go_wp2_with fail
  refine k.out.mono ?_
  rintro e w4 ⟨rfl, hb⟩
  have B4 := Lib.hid (below_tr14 B3.out hb)
  have S1 := Lib.hid (S1'.out.below hb)
  clear hb k B3 S1'
  have k := Lib.hid (drop1_one 0 (by decide) S1.out f_drop1 rfl)
  clear S1
  go_wp2_with fail
  refine k.out.mono ?_
  rintro e w5 ⟨A3, c3, rfl, hs, hb⟩
  have B5 := Lib.hid (below_tr14 B4.out hb)
  have S2 := Lib.hid hs
  clear hs hb k B4
  have k := Lib.hid (put1_any 9 S2.out ⟨by decide, by decide⟩ f_put2 rfl)
  clear S2
  go_wp2_with fail
  refine k.out.mono ?_
  rintro e w6 ⟨A4, c4, rfl, hs, hb⟩
  have B6 := Lib.hid (below_tr14 B5.out hb)
  have S3 := Lib.hid hs
  clear hs hb k B5
  have k := Lib.hid (get1_any 0 (by decide) S3.out f_get3)
  go_wp2_with fail
  refine k.out.mono ?_
  rintro e w7 ⟨rfl, hb⟩
  have B7 := Lib.hid (below_tr14 B6.out hb)
  have S3' := Lib.hid (S3.out.below hb)
  clear hb k B6 S3
  have k := Lib.hid (set1_one 1024 13 (by decide) S3'.out ⟨by decide, by decide⟩ f_set3 rfl)
  clear S3'
  go_wp2_with fail
  refine k.out.mono ?_
  rintro e w8 ⟨A5, c5, rfl, hs, hb⟩
  have B8 := Lib.hid (below_tr14 B7.out hb)
  have S4 := Lib.hid hs
  clear hs hb k B7
  have k := Lib.hid (get1_any 1024 (by decide) S4.out f_get4)
  go_wp2_with fail
  refine k.out.mono ?_
  rintro e w9 ⟨rfl, hb⟩
  have B9 := Lib.hid (below_tr14 B8.out hb)
  have S5 := Lib.hid (S4.out.below hb)
  clear hb k B8 S4
  have k := Lib.hid (newS_bad 1025 w9 (by omega))
  go_wp2_with fail
  refine k.out.mono ?_
  rintro e w10 ⟨rfl, rfl⟩
  clear k
  have k := Lib.hid (used_any S5.out)
  rw [f_used4] at k
  go_wp2_with fail
  refine k.out.mono ?_
  rintro e w10 ⟨rfl, hb⟩
  have B10 := Lib.hid (below_tr14 B9.out hb)
  have S6 := Lib.hid (S5.out.below hb)
  clear hb k B9 S5
  have k := Lib.hid (right_any 1 S6.out)
  rw [f_right4] at k
  go_wp2_with fail
  refine k.out.mono ?_
  rintro e w11 ⟨rfl, hb⟩
  have B11 := Lib.hid (below_tr14 B10.out hb)
  have S7 := Lib.hid (S6.out.below hb)
  clear hb k B10 S6
  have k := Lib.hid (handles_any S7.out)
  rw [f_han4] at k
  go_wp2_with fail
  refine k.out.mono ?_
  rintro e w12 ⟨A6, c6, rfl, _, hb⟩
  have B12 := Lib.hid (below_tr14 B11.out hb)
  clear hb k B11 S7
  go_wp2
  go_ret
  exact ⟨rfl, B12.out⟩
end Go.Proofs.Ytcljgphipdbckaa
