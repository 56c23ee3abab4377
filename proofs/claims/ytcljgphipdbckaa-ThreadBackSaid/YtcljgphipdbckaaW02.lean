/- The walks of layer 2 (arena). -/
import Derived.Test.YtcljgphipdbckaaM02
import Derived.Test.YtcljgphipdbckaaP02
namespace Go.Proofs.Ytcljgphipdbckaa
open Go.RowKit

/-! ### nobody's arena -/
/-- an arena that is none: nil, or one that was never made -/
def NoAr (w : World) (v : Value) : Prop := v = .pointer none ∨ ∃ p, v = .pointer (some ⟨p, 0, none⟩) ∧ w.cell? ⟨p, 0, none⟩ = some (.bool false)

set_option maxHeartbeats 400000 in
theorem dead_none (v : Value) (w : World) (h : NoAr w v) : Calls Try.prog 103 #[v] w fun e w' => e = .returned (.bool true) ∧ w = w' := by
  rcases h with rfl | ⟨p, rfl, hc⟩
  · go_enter Try.func103, Try.ntmps103
    go_wp2
    go_ret
    exact ⟨rfl, rfl⟩
  · go_enter Try.func103, Try.ntmps103
    go_wp2
    go_ret
    exact ⟨rfl, rfl⟩

set_option maxHeartbeats 400000 in
theorem dead_ar {w : World} {B p : Nat} {v : Value} {ws : List Int} (h : Ar w B p v ws) : Calls Try.prog 103 #[.pointer (some ⟨p, 0, none⟩)] w fun e w' => e = .returned (.bool false) ∧ w = w' := by
  have h0 := h.cell0
  clear h
  go_enter Try.func103, Try.ntmps103
  go_wp2
  go_ret
  exact ⟨rfl, rfl⟩

set_option maxHeartbeats 400000 in
theorem len_none (v : Value) (w : World) (h : NoAr w v) : Calls Try.prog 44 #[v] w fun e w' => e = .returned (.int .i64 0) ∧ w = w' := by
  have H := Lib.hid (dead_none v w h)
  clear h
  go_enter Try.func44, Try.ntmps44
  go_wp2_with (refine H.out.mono ?_; rintro e w' ⟨rfl, rfl⟩)
  go_ret
  exact ⟨rfl, rfl⟩

set_option maxHeartbeats 400000 in
theorem len_ar {w : World} {B p : Nat} {v : Value} {ws : List Int} (h : Ar w B p v ws) : Calls Try.prog 44 #[.pointer (some ⟨p, 0, none⟩)] w fun e w' => e = .returned (.int .i64 ws.length) ∧ w = w' := by
  have H := Lib.hid (dead_ar h)
  have h1 := h.cell1
  obtain ⟨A, c, rfl, h2, h3, h4⟩ := h.form
  clear h h4
  go_enter Try.func44, Try.ntmps44
  go_wp2_with (refine H.out.mono ?_; rintro e w' ⟨rfl, rfl⟩)
  go_ret
  exact ⟨rfl, rfl⟩

set_option maxHeartbeats 400000 in
theorem at_none (v : Value) (i : Int) (w : World) (h : NoAr w v) : Calls Try.prog 100 #[v, .int .i64 i] w fun e w' => e = .returned (.int .i64 10) ∧ w = w' := by
  have H := Lib.hid (dead_none v w h)
  clear h
  go_enter Try.func100, Try.ntmps100
  go_wp2_with (refine H.out.mono ?_; rintro e w' ⟨rfl, rfl⟩)
  go_ret
  exact ⟨rfl, rfl⟩

theorem atE_yes {n : Nat} {i : Int} (h : inB n i = true) : atE n i = 0 := by simp [atE, h]
theorem atE_no {n : Nat} {i : Int} (h : inB n i = false) : atE n i = 2 := by simp [atE, h]
theorem rdV_yes {ws : List Int} {i : Int} (h : inB ws.length i = true) : rdV ws i = ws.getD i.toNat 0 := by simp [rdV, h]
theorem rdV_no {ws : List Int} {i : Int} (h : inB ws.length i = false) : rdV ws i = 0 := by simp [rdV, h]
theorem wrL_yes {ws : List Int} {i : Int} (x : Int) (h : inB ws.length i = true) : wrL ws i x = ws.set i.toNat x := by simp [wrL, h]
theorem wrL_no {ws : List Int} {i : Int} (x : Int) (h : inB ws.length i = false) : wrL ws i x = ws := by simp [wrL, h]

set_option maxHeartbeats 400000 in
theorem at_ar {w : World} {B p : Nat} {v : Value} {ws : List Int} (i : Int) (h : Ar w B p v ws) : Calls Try.prog 100 #[.pointer (some ⟨p, 0, none⟩), .int .i64 i] w fun e w' => e = .returned (.int .i64 (atE ws.length i)) ∧ w = w' := by
  have H := Lib.hid (dead_ar h)
  have h1 := h.cell1
  obtain ⟨A, c, rfl, h2, h3, h4⟩ := h.form
  clear h h4
  cases hb : inB ws.length i with
  | true =>
    obtain ⟨b0, b1⟩ := inB_yes hb
    rw [atE_yes hb]
    clear hb
    go_enter Try.func100, Try.ntmps100
    go_wp2_with (refine H.out.mono ?_; rintro e w' ⟨rfl, rfl⟩)
    go_ret
    exact ⟨rfl, rfl⟩
  | false =>
    have hb0 := inB_no hb
    rw [atE_no hb]
    clear hb
    by_cases hi : i < 0
    · clear hb0
      go_enter Try.func100, Try.ntmps100
      go_wp2_with (refine H.out.mono ?_; rintro e w' ⟨rfl, rfl⟩)
      go_ret
      exact ⟨rfl, rfl⟩
    · have hj : (ws.length : Int) ≤ i := by omega
      clear hb0
      go_enter Try.func100, Try.ntmps100
      go_wp2_with (refine H.out.mono ?_; rintro e w' ⟨rfl, rfl⟩)
      go_ret
      exact ⟨rfl, rfl⟩

set_option maxHeartbeats 400000 in
theorem read_none (v : Value) (i : Int) (w : World) (h : NoAr w v) : Calls Try.prog 36 #[v, .int .i64 i] w fun e w' => e = .returned (.tuple #[.int .u64 0, .int .i64 10]) ∧ w = w' := by
  have H := Lib.hid (at_none v i w h)
  clear h
  go_enter Try.func36, Try.ntmps36
  go_wp2_with (refine H.out.mono ?_; rintro e w' ⟨rfl, rfl⟩)
  go_ret2
  exact ⟨rfl, rfl⟩

set_option maxHeartbeats 400000 in
theorem read_ar {w : World} {B p : Nat} {v : Value} {ws : List Int} (i : Int) (h : Ar w B p v ws) : Calls Try.prog 36 #[.pointer (some ⟨p, 0, none⟩), .int .i64 i] w fun e w' => e = .returned (.tuple #[.int .u64 (rdV ws i), .int .i64 (atE ws.length i)]) ∧ w = w' := by
  have hat := at_ar i h
  have h1 := h.cell1
  cases hb : inB ws.length i with
  | true =>
    obtain ⟨b0, b1⟩ := inB_yes hb
    rw [atE_yes hb] at hat ⊢
    have H := Lib.hid hat
    obtain ⟨A, c, rfl, h2, h3, h4⟩ := h.form
    obtain ⟨k, rfl⟩ := Int.eq_ofNat_of_zero_le b0
    rcases h4 with ⟨_, h5, _⟩ | ⟨g, rfl, hg1, hg2⟩
    · subst h5; simp at b1; omega
    have hc := h.cellAt k (by omega)
    rw [rdV_yes hb, Int.toNat_natCast]
    clear hb h hat
    go_enter Try.func36, Try.ntmps36
    go_wp2_with (refine H.out.mono ?_; rintro e w' ⟨rfl, rfl⟩)
    go_ret2
    exact ⟨rfl, rfl⟩
  | false =>
    rw [atE_no hb] at hat ⊢
    have H := Lib.hid hat
    rw [rdV_no hb]
    clear hb h hat h1
    go_enter Try.func36, Try.ntmps36
    go_wp2_with (refine H.out.mono ?_; rintro e w' ⟨rfl, rfl⟩)
    go_ret2
    exact ⟨rfl, rfl⟩

set_option maxHeartbeats 400000 in
theorem write_none (v : Value) (i x : Int) (w : World) (h : NoAr w v) : Calls Try.prog 37 #[v, .int .i64 i, .int .u64 x] w fun e w' => e = .returned (.int .i64 10) ∧ w = w' := by
  have H := Lib.hid (at_none v i w h)
  clear h
  go_enter Try.func37, Try.ntmps37
  go_wp2_with (refine H.out.mono ?_; rintro e w' ⟨rfl, rfl⟩)
  go_ret
  exact ⟨rfl, rfl⟩

/-- an arena behind a call that may have turned its words, and nothing else that was there -/
def Turned (w : World) (B p : Nat) (v : Value) (ws : List Int) (w' : World) : Prop := Ar w' B p v ws ∧ w.grownBy w' v.ownBlock
theorem Turned.same {w : World} {B p : Nat} {v : Value} {ws : List Int} (h : Ar w B p v ws) : Turned w B p v ws w := ⟨h, World.grownBy.refl w _⟩

set_option maxHeartbeats 400000 in
theorem write_ar {w : World} {B p : Nat} {v : Value} {ws : List Int} (i x : Int) (h : Ar w B p v ws) (hx : U64 x) : Calls Try.prog 37 #[.pointer (some ⟨p, 0, none⟩), .int .i64 i, .int .u64 x] w fun e w' => e = .returned (.int .i64 (atE ws.length i)) ∧ Turned w B p v (wrL ws i x) w' := by
  have hat := at_ar i h
  have h1 := h.cell1
  cases hb : inB ws.length i with
  | true =>
    obtain ⟨b0, b1⟩ := inB_yes hb
    rw [atE_yes hb] at hat ⊢
    have H := Lib.hid hat
    obtain ⟨A, c, rfl, h2, h3, h4⟩ := h.form
    obtain ⟨k, rfl⟩ := Int.eq_ofNat_of_zero_le b0
    rcases h4 with ⟨_, h5, _⟩ | ⟨g, rfl, hg1, hg2⟩
    · subst h5; simp at b1; omega
    have hc := h.cellAt k (by omega)
    have hfr := h.frozenAt k
    rw [wrL_yes x hb, Int.toNat_natCast]
    have hst := Lib.hid (h.stored k hx)
    have HX := Lib.hid hx
    clear hb h hat hx
    go_enter Try.func37, Try.ntmps37
    go_wp2_with (refine H.out.mono ?_; rintro e w' ⟨rfl, rfl⟩)
    go_ret
    exact ⟨rfl, hst.out⟩
  | false =>
    rw [atE_no hb] at hat ⊢
    have H := Lib.hid hat
    rw [wrL_no x hb]
    have hs := Lib.hid (Turned.same h)
    clear hb h hat h1 hx
    go_enter Try.func37, Try.ntmps37
    go_wp2_with (refine H.out.mono ?_; rintro e w' ⟨rfl, rfl⟩)
    go_ret
    exact ⟨rfl, hs.out⟩
end Go.Proofs.Ytcljgphipdbckaa
