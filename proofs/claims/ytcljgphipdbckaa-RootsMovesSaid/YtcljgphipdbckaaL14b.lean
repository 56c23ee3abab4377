/- The law RootsMoves. -/
import Derived.Test.YtcljgphipdbckaaL14
namespace Go.Proofs.Ytcljgphipdbckaa
set_option linter.unusedVariables false
set_option linter.unusedSimpArgs false
open Go.RowKit

set_option maxRecDepth 100000 in
set_option maxHeartbeats 8000000 in
theorem rootsMoves_short {W : World} {A : Option Addr} {ss : List Slot} {c : Nat} (h x : Int) (hh : h ≤ 9223372036854775807) (hx : U64 x) (hv : Sw W (.slice A ss.length c) ss) (hn : ss.length ≤ 1200) : Calls Try.prog 12 #[.slice A ss.length c, .int .i64 h, .int .u64 x] W (Out W (.bool true)) := by
  have HN : Hid (Few ss.length) := by show ss.length ≤ 1000000; omega
  have hn1 : (ss.length : Int) ≤ 1200 := by omega
  have HX := Lib.hid hx
  have HH := Lib.hid hh
  have V0 := Lib.hid hv
  have HF := Lib.hid hv.2
  obtain ⟨⟨A', c', e, a1, a2, _⟩, _⟩ := id hv
  simp only [Value.slice.injEq] at e
  obtain ⟨rfl, _, rfl⟩ := e
  unfold maxLen at a2
  clear hv hn hx hh
  go_enter Try.func12, Try.ntmps12
  go_wp2_with (at_builtin; refine wpList_clone_slots rfl (.tmp 31) (.tmp 32) rfl W rfl A ss.length c rfl ss V0.out HN.out ?_; intro A0 c0 w0 hown hb; have B0 := Lib.hid hb; have V0 := Lib.hid (V0.out.below hb); have OWN := Lib.hid (Sw.of_own hown HF.out); clear hown hb)
  have k := Lib.hid (put_any x OWN.out HX.out HN.out)
  go_wp2_with fail
  refine k.out.mono ?_
  rintro e w1 ⟨A1, c1, rfl, ho, hf, hb⟩
  have hs := Sw.of_own ho hf
  have B1 := Lib.hid (below_tr14 B0.out hb)
  have V0 := Lib.hid (V0.out.below hb)
  have OWN := Lib.hid (OWN.out.below hb)
  have R8 := Lib.hid hs
  clear hb hs k B0 ho hf
  have k := Lib.hid (rput_any x V0.out HX.out HN.out)
  go_wp2_with fail
  refine k.out.mono ?_
  rintro e w2 ⟨A2, c2, rfl, hs, hb⟩
  have B2 := Lib.hid (below_tr14 B1.out hb)
  have V0 := Lib.hid (V0.out.below hb)
  have OWN := Lib.hid (OWN.out.below hb)
  have R8 := Lib.hid (R8.out.below hb)
  have R11 := Lib.hid hs
  clear hb hs k B1
  have k := Lib.hid (get_any h HH.out OWN.out)
  go_wp2_with fail
  refine k.out.mono ?_
  rintro e w3 ⟨rfl, hb⟩
  have B3 := Lib.hid (below_tr14 B2.out hb)
  have V0 := Lib.hid (V0.out.below hb)
  have OWN := Lib.hid (OWN.out.below hb)
  have R8 := Lib.hid (R8.out.below hb)
  have R11 := Lib.hid (R11.out.below hb)
  clear hb k B2
  have k := Lib.hid (rget_any h V0.out)
  go_wp2_with fail
  refine k.out.mono ?_
  rintro e w4 ⟨rfl, hb⟩
  have B4 := Lib.hid (below_tr14 B3.out hb)
  have V0 := Lib.hid (V0.out.below hb)
  have OWN := Lib.hid (OWN.out.below hb)
  have R8 := Lib.hid (R8.out.below hb)
  have R11 := Lib.hid (R11.out.below hb)
  clear hb k B3
  have k := Lib.hid (set_any h x HH.out OWN.out HX.out HN.out)
  go_wp2_with fail
  refine k.out.mono ?_
  rintro e w5 ⟨A5, c5, rfl, ho, hf, hb⟩
  have hs := Sw.of_own ho hf
  have B5 := Lib.hid (below_tr14 B4.out hb)
  have V0 := Lib.hid (V0.out.below hb)
  have OWN := Lib.hid (OWN.out.below hb)
  have R8 := Lib.hid (R8.out.below hb)
  have R11 := Lib.hid (R11.out.below hb)
  have R18 := Lib.hid hs
  clear hb hs k B4 ho hf
  have k := Lib.hid (rset_any h x V0.out HX.out HN.out)
  go_wp2_with fail
  refine k.out.mono ?_
  rintro e w6 ⟨A6, c6, rfl, hs, hb⟩
  have B6 := Lib.hid (below_tr14 B5.out hb)
  have V0 := Lib.hid (V0.out.below hb)
  have OWN := Lib.hid (OWN.out.below hb)
  have R8 := Lib.hid (R8.out.below hb)
  have R11 := Lib.hid (R11.out.below hb)
  have R18 := Lib.hid (R18.out.below hb)
  have R20 := Lib.hid hs
  clear hb hs k B5
  have k := Lib.hid (drop_any h HH.out OWN.out HN.out)
  go_wp2_with fail
  refine k.out.mono ?_
  rintro e w7 ⟨A7, c7, rfl, ho, hf, hb⟩
  have hs := Sw.of_own ho hf
  have B7 := Lib.hid (below_tr14 B6.out hb)
  have V0 := Lib.hid (V0.out.below hb)
  have OWN := Lib.hid (OWN.out.below hb)
  have R8 := Lib.hid (R8.out.below hb)
  have R11 := Lib.hid (R11.out.below hb)
  have R18 := Lib.hid (R18.out.below hb)
  have R20 := Lib.hid (R20.out.below hb)
  have R22 := Lib.hid hs
  clear hb hs k B6 ho hf
  have k := Lib.hid (rdrop_any h V0.out HN.out)
  go_wp2_with fail
  refine k.out.mono ?_
  rintro e w8 ⟨A8, c8, rfl, hs, hb⟩
  have B8 := Lib.hid (below_tr14 B7.out hb)
  have V0 := Lib.hid (V0.out.below hb)
  have OWN := Lib.hid (OWN.out.below hb)
  have R8 := Lib.hid (R8.out.below hb)
  have R11 := Lib.hid (R11.out.below hb)
  have R18 := Lib.hid (R18.out.below hb)
  have R20 := Lib.hid (R20.out.below hb)
  have R22 := Lib.hid (R22.out.below hb)
  have R24 := Lib.hid hs
  clear hb hs k B7
  have k := Lib.hid (sameS_any R8.out R11.out)
  rw [sameS_refl] at k
  go_wp2_with fail
  refine k.out.mono ?_
  rintro e w9 ⟨rfl, q9, rfl⟩
  have B9 := Lib.hid (below_drewN (k := q9) B8.out)
  have V0 := Lib.hid (V0.out.drewN q9)
  have OWN := Lib.hid (OWN.out.drewN q9)
  have R8 := Lib.hid (R8.out.drewN q9)
  have R11 := Lib.hid (R11.out.drewN q9)
  have R18 := Lib.hid (R18.out.drewN q9)
  have R20 := Lib.hid (R20.out.drewN q9)
  have R22 := Lib.hid (R22.out.drewN q9)
  have R24 := Lib.hid (R24.out.drewN q9)
  clear k B8
  have k := Lib.hid (sameS_any R18.out R20.out)
  rw [sameS_refl] at k
  go_wp2_with fail
  refine k.out.mono ?_
  rintro e w10 ⟨rfl, q10, rfl⟩
  have B10 := Lib.hid (below_drewN (k := q10) B9.out)
  have V0 := Lib.hid (V0.out.drewN q10)
  have OWN := Lib.hid (OWN.out.drewN q10)
  have R8 := Lib.hid (R8.out.drewN q10)
  have R11 := Lib.hid (R11.out.drewN q10)
  have R18 := Lib.hid (R18.out.drewN q10)
  have R20 := Lib.hid (R20.out.drewN q10)
  have R22 := Lib.hid (R22.out.drewN q10)
  have R24 := Lib.hid (R24.out.drewN q10)
  clear k B9
  simp only [World.drewN_drewN] at B10 V0 OWN R8 R11 R18 R20 R22 R24
  have k := Lib.hid (sameS_any R22.out R24.out)
  rw [sameS_refl] at k
  go_wp2_with fail
  refine k.out.mono ?_
  rintro e w11 ⟨rfl, q11, rfl⟩
  have B11 := Lib.hid (below_drewN (k := q11) B10.out)
  have V0 := Lib.hid (V0.out.drewN q11)
  have OWN := Lib.hid (OWN.out.drewN q11)
  have R8 := Lib.hid (R8.out.drewN q11)
  have R11 := Lib.hid (R11.out.drewN q11)
  have R18 := Lib.hid (R18.out.drewN q11)
  have R20 := Lib.hid (R20.out.drewN q11)
  have R22 := Lib.hid (R22.out.drewN q11)
  have R24 := Lib.hid (R24.out.drewN q11)
  clear k B10
  simp only [World.drewN_drewN] at B11 V0 OWN R8 R11 R18 R20 R22 R24
  have k := Lib.hid (sameS_any OWN.out V0.out)
  rw [sameS_refl] at k
  go_wp2_with fail
  refine k.out.mono ?_
  rintro e w12 ⟨rfl, q12, rfl⟩
  have B12 := Lib.hid (below_drewN (k := q12) B11.out)
  have V0 := Lib.hid (V0.out.drewN q12)
  have OWN := Lib.hid (OWN.out.drewN q12)
  have R8 := Lib.hid (R8.out.drewN q12)
  have R11 := Lib.hid (R11.out.drewN q12)
  have R18 := Lib.hid (R18.out.drewN q12)
  have R20 := Lib.hid (R20.out.drewN q12)
  have R22 := Lib.hid (R22.out.drewN q12)
  have R24 := Lib.hid (R24.out.drewN q12)
  clear k B11
  simp only [World.drewN_drewN] at B12 V0 OWN R8 R11 R18 R20 R22 R24
  go_wp2_with fail
  refine (awake14 _).mono ?_
  rintro e w13 ⟨rfl, hb⟩
  have B := Lib.hid (below_tr14 B12.out hb)
  clear hb
  go_wp2
  go_ret
  exact ⟨rfl, B.out⟩
set_option maxRecDepth 100000 in
set_option maxHeartbeats 800000 in
theorem rootsMoves_long {W : World} (A : Option Addr) (n c : Nat) (h x : Int) (hn : 1200 < n) (h1 : n ≤ c) (h2 : c ≤ 9223372036854775807) : Calls Try.prog 12 #[.slice A n c, .int .i64 h, .int .u64 x] W (Out W (.bool true)) := by
  have H := Lib.hid (awake14 W)
  have hn1 : (1200 : Int) < (n : Int) := by omega
  go_enter Try.func12, Try.ntmps12
  go_wp2_with fail
  refine H.out.mono ?_
  rintro e w1 ⟨rfl, hb⟩
  have HB := Lib.hid hb
  clear hb
  go_wp2
  go_ret
  exact ⟨rfl, HB.out⟩
theorem rootsMoves_walk (v : Value) (h x : Int) (W : World) (hv : ∃ ss, Sw W v ss) (hh : h ≤ 9223372036854775807) (hx : U64 x) : Calls Try.prog 12 #[v, .int .i64 h, .int .u64 x] W fun e w' => e = .returned (.bool true) ∧ Below W.heap.size W w' := by
  obtain ⟨ss, hv⟩ := hv
  obtain ⟨⟨A, c, rfl, a1, a2, _⟩, _⟩ := id hv
  by_cases hn : ss.length ≤ 1200
  · exact rootsMoves_short h x hh hx hv hn
  · unfold maxLen at a2
    exact rootsMoves_long A ss.length c h x (by omega) a1 a2
end Go.Proofs.Ytcljgphipdbckaa
