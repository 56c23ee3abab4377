/- The walks of layer 12 (threads): head, Push, Pop. -/
import Derived.Test.YtcljgphipdbckaaL08
import Derived.Test.YtcljgphipdbckaaM03
import Derived.Deep.RegionWith
namespace Go.Proofs.Ytcljgphipdbckaa
set_option linter.unusedVariables false
set_option linter.unusedSimpArgs false
open Go.RowKit

theorem Recs.at2 {w : World} {A : Option Addr} {n c : Nat} {sp : Nat → Int × Int} (h : Recs w (.slice A n c) 2 n (fun k => [.int .i64 (sp k).1, .int .i64 (sp k).2])) (hn : 0 < n) : ∃ b o, A = some ⟨b, o, none⟩ ∧ b < w.heap.size ∧ ∀ k, k < n →
    w.cell? ⟨b, o + k * 2, none⟩ = some (.int .i64 (sp k).1) ∧ w.cell? ⟨b, o + k * 2 + 1, none⟩ = some (.int .i64 (sp k).2) := by
  obtain ⟨A', c', e, _, _, _, h5⟩ := h
  injection e with e1 e2 e3
  subst e1
  obtain ⟨b, o, rfl, hc⟩ := h5 hn
  exact ⟨b, o, rfl, World.block_lt_of_cell? _ _ ((hc 0 hn).2 0 _ rfl), fun k hk => ⟨(hc k hk).2 0 _ rfl, (hc k hk).2 1 _ rfl⟩⟩

set_option maxRecDepth 100000 in
set_option maxHeartbeats 3200000 in
/-- the header of the table's object number K -/
theorem thead_ar {w : World} {B p : Nat} {v : Value} {ws : List Int} {A : Option Addr} {n c : Nat} {sp : Nat → Int × Int} (K : Nat) (hK : K < n) (ha0 : -9223372036854775808 ≤ (sp K).1) (hal : ws.length ≤ 1000000) (h : Ar w B p v ws) (ht : Recs w (.slice A n c) 2 n (fun k => [.int .i64 (sp k).1, .int .i64 (sp k).2])) : Calls Try.prog 125 #[.pointer (some ⟨p, 0, none⟩), .slice A n c, .int .i64 (K : Nat)] w (Out w (.tuple #[.agg #[.int .i64 (oH ws (sp K).1).kind, .int .i64 (oH ws (sp K).1).fields, .int .i64 (oH ws (sp K).1).raws, .bool (oH ws (sp K).1).mark, .int .i64 (oH ws (sp K).1).cursor], .int .i64 (oE ws (sp K).1)])) := by
  have hb0 := (Below.refl w.heap.size w).alloc (Nat.le_refl _) (.cells #[.int .i64 0, .int .i64 0, .int .i64 0, .bool false, .int .i64 0] 59)
  have HB0 := Lib.hid hb0
  have HR0 := Lib.hid (Blk.new w 59 #[.int .i64 0, .int .i64 0, .int .i64 0, .bool false, .int .i64 0])
  have HK := Lib.hid (head_ar (sp K).1 ha0 hal (h.below hb0))
  obtain ⟨b, o, rfl, hbl, hc⟩ := ht.at2 (by omega)
  have c0 := (hb0.cell (p := ⟨b, o + K * 2, none⟩) hbl).trans (hc K hK).1
  have hk0 : (0 : Int) ≤ (K : Int) := by omega
  have hk1 : (K : Int) < (n : Int) := by omega
  generalize oH ws (sp K).1 = z at *
  generalize oE ws (sp K).1 = E at *
  generalize (sp K).1 = a at *
  clear hb0 h ht hc ha0 hal
  go_enter Try.func125, Try.ntmps125
  go_wp2_with fail
  refine HK.out.mono ?_
  rintro e w1 ⟨rfl, hb⟩
  have HR := Lib.hid (HR0.out.below hb HR0.out.lt)
  have HB := Lib.hid (below_tr HB0.out hb)
  have q0 := HR.out.cell 0
  have q1 := HR.out.cell 1
  have q2 := HR.out.cell 2
  have q3 := HR.out.cell 3
  have q4 := HR.out.cell 4
  have u0 := HR.out.frozen 0
  have u1 := HR.out.frozen 1
  have u2 := HR.out.frozen 2
  have u3 := HR.out.frozen 3
  have u4 := HR.out.frozen 4
  clear hb
  go_wp2
  exact bodyPost_ret (v := .tuple #[.agg #[.int .i64 z.kind, .int .i64 z.fields, .int .i64 z.raws, .bool z.mark, .int .i64 z.cursor], .int .i64 E]) (by simp [results, Try.results125, go_sem, q0, q1, q2, q3, q4]) rfl
    (Out.mk' rfl (((((HB.out.setCell (Nat.le_refl _) _).setCell (Nat.le_refl _) _).setCell (Nat.le_refl _) _).setCell (Nat.le_refl _) _).setCell (Nat.le_refl _) _))

/-- the words with another cursor in an object -/
def curL (ws : List Int) (a x : Int) : List Int := ws.set a.toNat (encI { oH ws a with cursor := x })
theorem ot_cur {ws : List Int} {a x : Int} (hf : AllU ws) (h0 : oE ws a = 0) (x0 : 0 ≤ x) (x1 : x ≤ 1048576) : oTE ws a { oH ws a with cursor := x } = 0 ∧ oTL ws a { oH ws a with cursor := x } = curL ws a x ∧ mayB { oH ws a with cursor := x } = true := by
  have hz := oE_zero hf h0
  have hm := (mayB_iff _).1 hz.2.2.1
  have hm2 : mayB { oH ws a with cursor := x } = true := by rw [mayB_iff]; exact ⟨hm.1, hm.2.1, hm.2.2.1, hm.2.2.2.1, hm.2.2.2.2.1, hm.2.2.2.2.2.1, x0, x1⟩
  have hs : sizeI (oH ws a) = sizeI { oH ws a with cursor := x } := by unfold sizeI; rw [hm2, hz.2.2.1]
  rcases ot_cases ws a { oH ws a with cursor := x } with ⟨h1, _⟩ | ⟨_, h1, _⟩ | ⟨_, _, h1, _⟩ | ⟨_, _, _, e1, e2⟩
  · exact absurd h0 h1
  · rw [hm2] at h1; cases h1
  · exact absurd hs h1
  · exact ⟨e1, e2, hm2⟩
set_option maxRecDepth 100000 in
set_option maxHeartbeats 6400000 in
theorem push_ok {w : World} {B p : Nat} {v : Value} {ws : List Int} {A : Option Addr} {n c : Nat} {sp : Nat → Int × Int} (K : Nat) (x : Int) (hK : K < n) (hn : n ≤ 1000000) (x0 : 0 ≤ x) (x1 : x ≤ 1048576) (ha0 : -9223372036854775808 ≤ (sp K).1) (hal : ws.length ≤ 1000000) (h0 : oE ws (sp K).1 = 0) (h : Ar w B p v ws) (ht : Recs w (.slice A n c) 2 n (fun k => [.int .i64 (sp k).1, .int .i64 (sp k).2])) :
    Calls Try.prog 85 #[.pointer (some ⟨p, 0, none⟩), .slice A n c, .int .i64 x, .int .i64 (K : Nat)] w fun e w' => e = .returned (.tuple #[.int .i64 ((K : Int) + 1), .int .i64 0]) ∧ Turned w B p v (curL ws (sp K).1 x) w' := by
  have k := thead_ar K hK ha0 hal h ht
  rw [h0] at k
  have HK := Lib.hid k
  have HC := Lib.hid (ot_cur h.fit h0 x0 x1)
  have HL := Lib.hid hal
  have HA0 := Lib.hid ha0
  have HA := Lib.hid h
  obtain ⟨b, o, rfl, hbl, hc⟩ := ht.at2 (by omega)
  have c0 := (hc K hK).1
  have hk0 : (0 : Int) ≤ (K : Int) := by omega
  have hk1 : (K : Int) < (n : Int) := by omega
  have hk5 : IntKind.i64.wrap ((K : Int) + 1) = (K : Int) + 1 := Go.IntWalk.i64_in _ (by omega)
  have hx0 : ¬ x < 0 := by omega
  have hx1 : ¬ 1048576 < x := by omega
  obtain ⟨a, hsa⟩ : ∃ a, a = (sp K).1 := ⟨_, rfl⟩
  rw [← hsa] at HK HC HA0 c0 ⊢
  obtain ⟨z, hz⟩ : ∃ z, z = oH ws a := ⟨_, rfl⟩
  rw [← hz] at HK HC
  clear k h ht hc h0 x0 x1 ha0 hal hsa hz hn
  go_enter Try.func85, Try.ntmps85
  go_wp2_with fail
  refine HK.out.mono ?_
  rintro e w1 ⟨rfl, hb⟩
  have hal : Below w1.heap.size w1 (w1.alloc (.cells #[.int .i64 z.kind, .int .i64 z.fields, .int .i64 z.raws, .bool z.mark, .int .i64 z.cursor] 59)) := (Below.refl _ _).alloc (Nat.le_refl _) _
  have HX := Lib.hid (Blk.new w1 59 #[.int .i64 z.kind, .int .i64 z.fields, .int .i64 z.raws, .bool z.mark, .int .i64 z.cursor])
  have HB0 := Lib.hid hb
  clear hb hal
  have q4 := HX.out.cell 4
  have u4 := HX.out.frozen 4
  go_wp2_with fail
  clear HX
  have HX := Lib.hid (Blk.new w1 59 #[.int .i64 z.kind, .int .i64 z.fields, .int .i64 z.raws, .bool z.mark, .int .i64 x])
  have HB := Lib.hid (below_tr HB0.out ((Below.refl _ _).alloc (Nat.le_refl _) (.cells #[.int .i64 z.kind, .int .i64 z.fields, .int .i64 z.raws, .bool z.mark, .int .i64 x] 59)))
  clear q4 u4
  have q0 := HX.out.cell 0
  have q1 := HX.out.cell 1
  have q2 := HX.out.cell 2
  have q3 := HX.out.cell 3
  have q4 := HX.out.cell 4
  have y0 := (HB.out.cell (p := ⟨b, o + K * 2, none⟩) hbl).trans c0
  have hset : ∀ w9, Below w.heap.size w w9 → Hid (Calls Try.prog 82 #[.pointer (some ⟨p, 0, none⟩), .int .i64 a, .agg #[.int .i64 z.kind, .int .i64 z.fields, .int .i64 z.raws, .bool z.mark, .int .i64 x]] w9 fun e w' => e = .returned (.int .i64 0) ∧ Turned w9 B p v (curL ws a x) w') := fun w9 hb9 => by
    have hk := sethead_ar a { z with cursor := x } HA0.out HL.out (HA.out.below hb9)
    rw [HC.out.1, HC.out.2.1] at hk
    exact hk
  clear HC HL HA0 HX
  generalize w1.alloc (.cells #[.int .i64 z.kind, .int .i64 z.fields, .int .i64 z.raws, .bool z.mark, .int .i64 x] 59) = w2 at *
  have HB9 : Hid (Below w.heap.size w w2.drew) := below_dr HB.out 1
  have hs9 := hset _ HB9.out
  clear hset
  go_region_with (go_at_call 82; refine hs9.out.mono ?_; rintro e w' ⟨rfl, ht⟩)
  all_goals
    go_wp2
    go_ret2
    exact ⟨rfl, turned_of HB9.out ht⟩

set_option maxRecDepth 100000 in
set_option maxHeartbeats 6400000 in
theorem pop_ok {w : World} {B p : Nat} {v : Value} {ws : List Int} {A : Option Addr} {n c : Nat} {sp : Nat → Int × Int} (K : Nat) (hK : K < n) (hn : n ≤ 1000000) (ha0 : -9223372036854775808 ≤ (sp K).1) (hal : ws.length ≤ 1000000) (h0 : oE ws (sp K).1 = 0) (h : Ar w B p v ws) (ht : Recs w (.slice A n c) 2 n (fun k => [.int .i64 (sp k).1, .int .i64 (sp k).2])) :
    Calls Try.prog 86 #[.pointer (some ⟨p, 0, none⟩), .slice A n c, .int .i64 ((K : Int) + 1)] w fun e w' => e = .returned (.tuple #[.int .i64 (oH ws (sp K).1).cursor, .int .i64 (K : Nat), .int .i64 0]) ∧ Turned w B p v (curL ws (sp K).1 0) w' := by
  have k := thead_ar K hK ha0 hal h ht
  rw [h0] at k
  have HK := Lib.hid k
  have HC := Lib.hid (ot_cur (x := 0) h.fit h0 (by omega) (by omega))
  have HL := Lib.hid hal
  have HA0 := Lib.hid ha0
  have HA := Lib.hid h
  obtain ⟨b, o, rfl, hbl, hc⟩ := ht.at2 (by omega)
  have c0 := (hc K hK).1
  have hk0 : (0 : Int) ≤ (K : Int) := by omega
  have hk1 : (K : Int) < (n : Int) := by omega
  have hk2 : ¬ ((K : Int) + 1 < 1) := by omega
  have hk3 : IntKind.i64.wrap ((K : Int) + 1 - 1) = (K : Int) := by rw [Go.IntWalk.i64_in _ (by omega)]; omega
  have hk4 : IntKind.i64.wrap (K : Int) = (K : Int) := Go.IntWalk.i64_in _ (by omega)
  obtain ⟨a, hsa⟩ : ∃ a, a = (sp K).1 := ⟨_, rfl⟩
  rw [← hsa] at HK HC HA0 c0 ⊢
  obtain ⟨z, hz⟩ : ∃ z, z = oH ws a := ⟨_, rfl⟩
  rw [← hz] at HK HC ⊢
  clear k h ht hc h0 ha0 hal hsa hz hn
  go_enter Try.func86, Try.ntmps86
  go_wp2_with fail
  refine HK.out.mono ?_
  rintro e w1 ⟨rfl, hb⟩
  have HX := Lib.hid (Blk.new w1 59 #[.int .i64 z.kind, .int .i64 z.fields, .int .i64 z.raws, .bool z.mark, .int .i64 z.cursor])
  have HB0 := Lib.hid hb
  clear hb
  have q4 := HX.out.cell 4
  have u4 := HX.out.frozen 4
  go_wp2_with fail
  clear HX
  have HX := Lib.hid (Blk.new w1 59 #[.int .i64 z.kind, .int .i64 z.fields, .int .i64 z.raws, .bool z.mark, .int .i64 0])
  have HB := Lib.hid (below_tr HB0.out ((Below.refl _ _).alloc (Nat.le_refl _) (.cells #[.int .i64 z.kind, .int .i64 z.fields, .int .i64 z.raws, .bool z.mark, .int .i64 0] 59)))
  clear q4 u4
  have q0 := HX.out.cell 0
  have q1 := HX.out.cell 1
  have q2 := HX.out.cell 2
  have q3 := HX.out.cell 3
  have q4 := HX.out.cell 4
  have y0 := (HB.out.cell (p := ⟨b, o + K * 2, none⟩) hbl).trans c0
  have hset : ∀ w9, Below w.heap.size w w9 → Hid (Calls Try.prog 82 #[.pointer (some ⟨p, 0, none⟩), .int .i64 a, .agg #[.int .i64 z.kind, .int .i64 z.fields, .int .i64 z.raws, .bool z.mark, .int .i64 0]] w9 fun e w' => e = .returned (.int .i64 0) ∧ Turned w9 B p v (curL ws a 0) w') := fun w9 hb9 => by
    have hk := sethead_ar a { z with cursor := 0 } HA0.out HL.out (HA.out.below hb9)
    rw [HC.out.1, HC.out.2.1] at hk
    exact hk
  clear HC HL HA0 HX
  generalize w1.alloc (.cells #[.int .i64 z.kind, .int .i64 z.fields, .int .i64 z.raws, .bool z.mark, .int .i64 0] 59) = w2 at *
  have HB9 : Hid (Below w.heap.size w w2.drew) := below_dr HB.out 1
  have hs9 := hset _ HB9.out
  clear hset
  go_region_with (go_at_call 82; refine hs9.out.mono ?_; rintro e w' ⟨rfl, ht⟩)
  all_goals
    go_wp2
    go_ret3
    exact ⟨rfl, turned_of HB9.out ht⟩

set_option maxHeartbeats 800000 in
theorem pop_none (v : Value) (A : Option Addr) (n c : Nat) (x : Int) (w : World) (hx : x < 1) : Calls Try.prog 86 #[v, .slice A n c, .int .i64 x] w fun e w' => e = .returned (.tuple #[.int .i64 0, .int .i64 0, .int .i64 2]) ∧ w = w' := by
  go_enter Try.func86, Try.ntmps86
  go_wp2
  go_ret3
  exact ⟨rfl, rfl⟩

end Go.Proofs.Ytcljgphipdbckaa
