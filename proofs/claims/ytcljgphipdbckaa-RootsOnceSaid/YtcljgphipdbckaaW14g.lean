/- The walks of layer 14 (roots), seventh part: Set and Drop. -/
import Derived.Test.YtcljgphipdbckaaW14f
namespace Go.Proofs.Ytcljgphipdbckaa
set_option linter.unusedVariables false
set_option linter.unusedSimpArgs false
open Go.RowKit

set_option maxHeartbeats 400000 in
theorem set1_any {w : World} {g K q : Nat} {x : Int} {v : Value} (hq : w.cell? ⟨q, 0, none⟩ = some (.int .u64 x)) (h2 : w.cell? ⟨g, K * 3 + 2, none⟩ = some v) (hf : w.frozen? ⟨g, K * 3 + 2, none⟩ = false) :
    Calls Try.prog 120 #[.pointer (some ⟨g, K * 3, none⟩), .pointer (some ⟨q, 0, none⟩)] w fun e w' => e = .returned (.tuple #[]) ∧ w' = w.setCell ⟨g, K * 3 + 2, none⟩ (.int .u64 x) := by
  go_enter Try.func120, Try.ntmps120
  go_wp2
  go_end0
  exact ⟨rfl, rfl⟩
set_option maxHeartbeats 400000 in
theorem drop1_any {w : World} {g K : Nat} {u : Bool} {y x : Int} (h0 : w.cell? ⟨g, K * 3, none⟩ = some (.bool u)) (h1 : w.cell? ⟨g, K * 3 + 1, none⟩ = some (.int .i64 y)) (h2 : w.cell? ⟨g, K * 3 + 2, none⟩ = some (.int .u64 x))
    (f0 : w.frozen? ⟨g, K * 3, none⟩ = false) (f1 : w.frozen? ⟨g, K * 3 + 1, none⟩ = false) (f2 : w.frozen? ⟨g, K * 3 + 2, none⟩ = false) (hy : IntKind.i64.wrap (y + 1) = y + 1) :
    Calls Try.prog 121 #[.pointer (some ⟨g, K * 3, none⟩)] w fun e w' => e = .returned (.tuple #[]) ∧ w' = ((w.setCell ⟨g, K * 3, none⟩ (.bool false)).setCell ⟨g, K * 3 + 1, none⟩ (.int .i64 (y + 1))).setCell ⟨g, K * 3 + 2, none⟩ (.int .u64 0) := by
  go_enter Try.func121, Try.ntmps121
  go_wp2
  go_end0
  exact ⟨rfl, rfl⟩

set_option maxHeartbeats 1600000 in
theorem change_set {w : World} {A : Option Addr} {ss : List Slot} {c : Nat} (h : Int) (x : Int) (q : Nat) (hh : h ≤ 9223372036854775807) (hv : Sw w (.slice A ss.length c) ss) (hx : U64 x) (hq : w.cell? ⟨q, 0, none⟩ = some (.int .u64 x)) (hn : Few ss.length) : Calls Try.prog 119 #[.slice A ss.length c, .int .i64 h, .func (.func 120) #[] #[.pointer (some ⟨q, 0, none⟩)]] w (TabNew w (setL ss h x) (fndE ss h)) := by
  have HCl := Lib.hid (cloneS_any hv hn)
  have hfit := hv.2.setL h x hx
  have HF := Lib.hid hv.2
  have HH := Lib.hid hh
  have HQ := Lib.hid hq
  have HQL := Lib.hid (World.block_lt_of_cell? _ _ hq)
  rcases rfnd_cases ss h with ⟨hf, e1, e2, e3⟩ | ⟨K, k1, hf, e1, e2, e3, e4⟩
  · have hg : setL ss h x = ss := by unfold setL; rw [hf]; rfl
    rw [hg, e3]
    have E2 := Lib.hid e2
    have E3 := Lib.hid e3
    clear hv hf e1 e2 e3 hg hfit hn hh hx hq
    go_enter Try.func119, Try.ntmps119
    go_wp2_with fail
    refine HCl.out.mono ?_
    rintro e w1 ⟨A1, c1, rfl, hown, hb⟩
    have hk := find_any h HH.out (Sw.of_own hown HF.out)
    rw [E2.out, E3.out] at hk
    have HK := Lib.hid hk
    have HO := Lib.hid hown
    have HB := Lib.hid hb
    clear hown hb hk
    go_wp2_with fail
    refine HK.out.mono ?_
    rintro e w2 ⟨rfl, hb2⟩
    have HB2 := Lib.hid (below_tr14 HB.out hb2)
    have HO2 := Lib.hid (HO.out.kept (row := none) ⟨hb2.os, hb2.tape, hb2.output, hb2.size, fun k hk _ => hb2.block k hk⟩ (by cases (Value.slice A1 ss.length c1).ownBlock <;> simp))
    clear hb2 HO
    go_wp2
    go_ret2
    exact TabNew.own rfl HO2.out HF.out HB2.out
  · have hg : setL ss h x = ss.set K { slot ss K with word := x } := by unfold setL; rw [hf, if_pos rfl, e2]; rfl
    have HFit := Lib.hid (hg ▸ hfit)
    rw [hg, e3]
    have E2 := Lib.hid e2
    have E3 := Lib.hid e3
    have hi0 : (0 : Int) ≤ (K : Int) := by omega
    have hi1 : (K : Int) < (ss.length : Int) := by omega
    have HGD := Lib.hid ((goodN_iff _).1 ((hit_iff _ _ _).1 e4).2.1)
    have HL : Hid (ss.length = (ss.set K { slot ss K with word := x }).length) := by simp [Hid]
    generalize hts : ss.set K { slot ss K with word := x } = ts at HL HFit ⊢
    have HTS := Lib.hid hts
    clear hv hf e1 e2 e3 hg hfit hn hh e4 hts hx hq
    go_enter Try.func119, Try.ntmps119
    go_wp2_with fail
    refine HCl.out.mono ?_
    rintro e w1 ⟨A1, c1, rfl, hown, hb⟩
    have hk := find_any h HH.out (Sw.of_own hown HF.out)
    rw [E2.out, E3.out] at hk
    have HK := Lib.hid hk
    have HO := Lib.hid hown
    have HB := Lib.hid hb
    clear hown hb hk
    go_wp2_with fail
    refine HK.out.mono ?_
    rintro e w2 ⟨rfl, hb2⟩
    have HB2 := Lib.hid (below_tr14 HB.out hb2)
    have hown := HO.out.kept (row := none) ⟨hb2.os, hb2.tape, hb2.output, hb2.size, fun k hk _ => hb2.block k hk⟩ (by cases (Value.slice A1 ss.length c1).ownBlock <;> simp)
    clear hb2 HO
    obtain ⟨g, cap, e, hg1, hg2⟩ := hown.form (by omega)
    injection e with e1 e2 e3
    subst e1 e3
    obtain ⟨⟨z0, z1, z2⟩, ⟨f0, f1, f2⟩, hB, hlt5⟩ := own_slot hown k1
    have HG := Lib.hid hg1
    have hst := Lib.hid (own_set2 hown k1 x)
    have HT := Lib.hid (set1_any (HB2.out.cell HQL.out |>.trans HQ.out) z2 f2)
    clear hown hB hlt5 hg1 hg2 z0 z1 z2 f0 f1 f2
    go_wp2_with fail
    refine HT.out.mono ?_
    rintro e w3 ⟨rfl, rfl⟩
    go_wp2
    go_ret2
    exact TabNew.own HL.out (by rw [← HTS.out]; exact hst.out) HFit.out (HB2.out.setCell HG.out _)

set_option maxHeartbeats 1600000 in
theorem change_drop {w : World} {A : Option Addr} {ss : List Slot} {c : Nat} (h : Int) (hh : h ≤ 9223372036854775807) (hv : Sw w (.slice A ss.length c) ss) (hn : Few ss.length) : Calls Try.prog 119 #[.slice A ss.length c, .int .i64 h, .func (.func 121) #[] #[]] w (TabNew w (dropL ss h) (fndE ss h)) := by
  have HCl := Lib.hid (cloneS_any hv hn)
  have hfit := hv.2.dropL h
  have HF := Lib.hid hv.2
  have HH := Lib.hid hh
  
  
  rcases rfnd_cases ss h with ⟨hf, e1, e2, e3⟩ | ⟨K, k1, hf, e1, e2, e3, e4⟩
  · have hg : dropL ss h = ss := by unfold dropL; rw [hf]; rfl
    rw [hg, e3]
    have E2 := Lib.hid e2
    have E3 := Lib.hid e3
    clear hv hf e1 e2 e3 hg hfit hn hh
    go_enter Try.func119, Try.ntmps119
    go_wp2_with fail
    refine HCl.out.mono ?_
    rintro e w1 ⟨A1, c1, rfl, hown, hb⟩
    have hk := find_any h HH.out (Sw.of_own hown HF.out)
    rw [E2.out, E3.out] at hk
    have HK := Lib.hid hk
    have HO := Lib.hid hown
    have HB := Lib.hid hb
    clear hown hb hk
    go_wp2_with fail
    refine HK.out.mono ?_
    rintro e w2 ⟨rfl, hb2⟩
    have HB2 := Lib.hid (below_tr14 HB.out hb2)
    have HO2 := Lib.hid (HO.out.kept (row := none) ⟨hb2.os, hb2.tape, hb2.output, hb2.size, fun k hk _ => hb2.block k hk⟩ (by cases (Value.slice A1 ss.length c1).ownBlock <;> simp))
    clear hb2 HO
    go_wp2
    go_ret2
    exact TabNew.own rfl HO2.out HF.out HB2.out
  · have hg : dropL ss h = ss.set K ⟨false, (slot ss K).gen + 1, 0⟩ := by unfold dropL; rw [hf, if_pos rfl, e2]; rfl
    have HFit := Lib.hid (hg ▸ hfit)
    rw [hg, e3]
    have E2 := Lib.hid e2
    have E3 := Lib.hid e3
    have hi0 : (0 : Int) ≤ (K : Int) := by omega
    have hi1 : (K : Int) < (ss.length : Int) := by omega
    have HGD := Lib.hid ((goodN_iff _).1 ((hit_iff _ _ _).1 e4).2.1)
    have HL : Hid (ss.length = (ss.set K ⟨false, (slot ss K).gen + 1, 0⟩).length) := by simp [Hid]
    generalize hts : ss.set K ⟨false, (slot ss K).gen + 1, 0⟩ = ts at HL HFit ⊢
    have HTS := Lib.hid hts
    clear hv hf e1 e2 e3 hg hfit hn hh e4 hts
    go_enter Try.func119, Try.ntmps119
    go_wp2_with fail
    refine HCl.out.mono ?_
    rintro e w1 ⟨A1, c1, rfl, hown, hb⟩
    have hk := find_any h HH.out (Sw.of_own hown HF.out)
    rw [E2.out, E3.out] at hk
    have HK := Lib.hid hk
    have HO := Lib.hid hown
    have HB := Lib.hid hb
    clear hown hb hk
    go_wp2_with fail
    refine HK.out.mono ?_
    rintro e w2 ⟨rfl, hb2⟩
    have HB2 := Lib.hid (below_tr14 HB.out hb2)
    have hown := HO.out.kept (row := none) ⟨hb2.os, hb2.tape, hb2.output, hb2.size, fun k hk _ => hb2.block k hk⟩ (by cases (Value.slice A1 ss.length c1).ownBlock <;> simp)
    clear hb2 HO
    obtain ⟨g, cap, e, hg1, hg2⟩ := hown.form (by omega)
    injection e with e1 e2 e3
    subst e1 e3
    obtain ⟨⟨z0, z1, z2⟩, ⟨f0, f1, f2⟩, hB, hlt5⟩ := own_slot hown k1
    have HG := Lib.hid hg1
    have hst := Lib.hid (own_set3 hown k1 false ((slot ss K).gen + 1) 0)
    have HT := Lib.hid (drop1_any z0 z1 z2 f0 f1 f2 (Go.IntWalk.i64_in _ (by have := HGD.out; omega)))
    clear hown hB hlt5 hg1 hg2 z0 z1 z2 f0 f1 f2
    go_wp2_with fail
    refine HT.out.mono ?_
    rintro e w3 ⟨rfl, rfl⟩
    go_wp2
    go_ret2
    exact TabNew.own HL.out (by rw [← HTS.out]; exact hst.out) HFit.out (((HB2.out.setCell HG.out _).setCell HG.out _).setCell HG.out _)

set_option maxHeartbeats 800000 in
theorem drop_any {w : World} {A : Option Addr} {ss : List Slot} {c : Nat} (h : Int) (hh : h ≤ 9223372036854775807) (hv : Sw w (.slice A ss.length c) ss) (hn : Few ss.length) : Calls Try.prog 65 #[.slice A ss.length c, .int .i64 h] w (TabNew w (dropL ss h) (fndE ss h)) := by
  have H := Lib.hid (change_drop h hh hv hn)
  clear hv hh hn
  go_enter Try.func65, Try.ntmps65
  go_wp2_with fail
  refine H.out.mono ?_
  rintro e w1 ⟨A1, c1, rfl, ho, hf, hb⟩
  have HO := Lib.hid ho
  have HF := Lib.hid hf
  have HB := Lib.hid hb
  clear ho hf hb
  go_wp2
  go_ret2
  exact ⟨A1, c1, rfl, HO.out, HF.out, HB.out⟩
theorem own_weaken {w : World} {B B' t n s : Nat} {v : Value} {xs : List Value} (h : w.ownsRow B t s v n xs) (hb : B' ≤ B) : w.ownsRow B' t s v n xs := by
  rcases h with ⟨h1, h2 | ⟨g, cap, cur, e, h3, h4⟩⟩
  · exact ⟨h1, .inl h2⟩
  · exact ⟨h1, .inr ⟨g, cap, cur, e, Nat.le_trans hb h3, h4⟩⟩
theorem TabNew.from {w w1 : World} {ts : List Slot} {E : Int} {e : Ending} {w' : World} (h : TabNew w1 ts E e w') (hb : Below w.heap.size w w1) : TabNew w ts E e w' := by
  obtain ⟨A, c, rfl, ho, hf, h2⟩ := h
  exact ⟨A, c, rfl, own_weaken ho hb.size, hf, below_tr14 hb h2⟩
set_option maxHeartbeats 800000 in
theorem set_any {w : World} {A : Option Addr} {ss : List Slot} {c : Nat} (h x : Int) (hh : h ≤ 9223372036854775807) (hv : Sw w (.slice A ss.length c) ss) (hx : U64 x) (hn : Few ss.length) : Calls Try.prog 63 #[.slice A ss.length c, .int .i64 h, .int .u64 x] w (TabNew w (setL ss h x) (fndE ss h)) := by
  have hb0 := (Below.refl w.heap.size w).alloc (Nat.le_refl _) (.cells #[.int .u64 x] 22)
  have H := Lib.hid (change_set (w := w.alloc (.cells #[.int .u64 x] 22)) h x w.heap.size hh (hv.below hb0) hx ((Blk.new w 22 #[.int .u64 x]).cell 0) hn)
  have HB0 := Lib.hid hb0
  clear hv hh hn hx hb0
  go_enter Try.func63, Try.ntmps63
  go_wp2_with fail
  refine H.out.mono ?_
  intro e w1 ht
  obtain ⟨A1, c1, rfl, ho, hf, hb⟩ := TabNew.from ht HB0.out
  have HO := Lib.hid ho
  have HF := Lib.hid hf
  have HB := Lib.hid hb
  clear ho hf hb ht
  go_wp2
  go_ret2
  exact ⟨A1, c1, rfl, HO.out, HF.out, HB.out⟩
end Go.Proofs.Ytcljgphipdbckaa
