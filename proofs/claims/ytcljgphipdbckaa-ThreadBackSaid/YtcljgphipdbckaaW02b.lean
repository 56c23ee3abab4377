/- The walks of layer 2 (arena), second part: rows, Move, Fill. -/
import Derived.Test.YtcljgphipdbckaaW02
namespace Go.Proofs.Ytcljgphipdbckaa
open Go.RowKit

set_option maxHeartbeats 400000 in
theorem row_none (v : Value) (i n : Int) (w : World) (h : NoAr w v) : Calls Try.prog 101 #[v, .int .i64 i, .int .i64 n] w fun e w' => e = .returned (.tuple #[.slice none 0 0, .int .i64 10]) ∧ w = w' := by
  have H := Lib.hid (dead_none v w h)
  clear h
  go_enter Try.func101, Try.ntmps101
  go_wp2_with (refine H.out.mono ?_; rintro e w' ⟨rfl, rfl⟩)
  go_ret2
  exact ⟨rfl, rfl⟩

set_option maxHeartbeats 400000 in
theorem row_err {w : World} {B p : Nat} {v : Value} {ws : List Int} (i n : Int) (h : Ar w B p v ws) (he : ¬ rowE ws.length i n = 0) : Calls Try.prog 101 #[.pointer (some ⟨p, 0, none⟩), .int .i64 i, .int .i64 n] w fun e w' => e = .returned (.tuple #[.slice none 0 0, .int .i64 (rowE ws.length i n)]) ∧ w = w' := by
  have H := Lib.hid (dead_ar h)
  have h1 := h.cell1
  obtain ⟨A, c, rfl, h2, h3, h4⟩ := h.form
  clear h h4
  rcases rowE_cases ws.length i n with ⟨e, h0⟩ | ⟨e, h0, hb⟩ | ⟨e, _⟩
  · rw [e]; clear he e
    go_enter Try.func101, Try.ntmps101
    go_wp2_with (refine H.out.mono ?_; rintro e w' ⟨rfl, rfl⟩)
    go_ret2
    exact ⟨rfl, rfl⟩
  · rw [e]; clear he e
    unfold maxLen at h3
    by_cases b1 : i < 0
    · clear hb
      go_enter Try.func101, Try.ntmps101
      go_wp2_with (refine H.out.mono ?_; rintro e w' ⟨rfl, rfl⟩)
      go_ret2
      exact ⟨rfl, rfl⟩
    · by_cases b2 : (ws.length : Int) < i
      · clear hb
        go_enter Try.func101, Try.ntmps101
        go_wp2_with (refine H.out.mono ?_; rintro e w' ⟨rfl, rfl⟩)
        go_ret2
        exact ⟨rfl, rfl⟩
      · have b3 : (ws.length : Int) - i < n := by omega
        clear hb
        go_enter Try.func101, Try.ntmps101
        go_wp2_with (refine H.out.mono ?_; rintro e w' ⟨rfl, rfl⟩)
        go_ret2
        exact ⟨rfl, rfl⟩
  · exact absurd e he

set_option maxHeartbeats 400000 in
theorem row_some {w : World} {B p g c : Nat} {ws : List Int} (i n : Nat) (h : Ar w B p (.slice (some ⟨g, 0, none⟩) ws.length c) ws) (hn : 0 < n) (hi : i + n ≤ ws.length) : Calls Try.prog 101 #[.pointer (some ⟨p, 0, none⟩), .int .i64 i, .int .i64 n] w fun e w' => e = .returned (.tuple #[.slice (some ⟨g, i, none⟩) n n, .int .i64 0]) ∧ w = w' := by
  have H := Lib.hid (dead_ar h)
  have h1 := h.cell1
  obtain ⟨A, c, e, h2, h3, h4⟩ := h.form
  injection e with e1 e2 e3
  subst e1 e3
  unfold maxLen at h3
  clear h h4
  go_enter Try.func101, Try.ntmps101
  go_wp2_with (refine H.out.mono ?_; rintro e w' ⟨rfl, rfl⟩)
  go_ret2
  exact ⟨by rw [Nat.add_sub_cancel_left]; rfl, rfl⟩

set_option maxHeartbeats 400000 in
theorem row_empty {w : World} {B p c : Nat} {A : Option Addr} {ws : List Int} (i : Nat) (h : Ar w B p (.slice A ws.length c) ws) (hi : i ≤ ws.length) : Calls Try.prog 101 #[.pointer (some ⟨p, 0, none⟩), .int .i64 i, .int .i64 0] w fun e w' => e = .returned (.tuple #[.slice A 0 0, .int .i64 0]) ∧ w = w' := by
  have H := Lib.hid (dead_ar h)
  have h1 := h.cell1
  obtain ⟨A, c, e, h2, h3, h4⟩ := h.form
  injection e with e1 e2 e3
  subst e1 e3
  unfold maxLen at h3
  clear h h4
  go_enter Try.func101, Try.ntmps101
  go_wp2_with (refine H.out.mono ?_; rintro e w' ⟨rfl, rfl⟩)
  go_ret2
  exact ⟨rfl, rfl⟩

theorem grown_trans {a b c : World} {row : Option Nat} (h : a.grownBy b row) (k : b.grownBy c row) : a.grownBy c row :=
  ⟨k.os.trans h.os, k.tape.trans h.tape, k.output.trans h.output, Nat.le_trans h.size k.size, fun i hi hne => (k.block i (Nat.lt_of_lt_of_le hi h.size) hne).trans (h.block i hi hne)⟩

set_option maxHeartbeats 400000 in
theorem fill_none (v : Value) (i n x : Int) (w : World) (h : NoAr w v) : Calls Try.prog 40 #[v, .int .i64 i, .int .i64 n, .int .u64 x] w fun e w' => e = .returned (.int .i64 10) ∧ w = w' := by
  have H := Lib.hid (row_none v i n w h)
  clear h
  go_enter Try.func40, Try.ntmps40
  go_wp2_with (refine H.out.mono ?_; rintro e w' ⟨rfl, rfl⟩)
  go_loop [21] (fun i => i = .int .i64 0) (fun _ => 0)
  case atStart => rfl
  case round =>
    subst hrel
    go_wp2
    go_ret
    exact ⟨rfl, rfl⟩

set_option maxHeartbeats 400000 in
theorem fill_ar {w : World} {B p : Nat} {v : Value} {ws : List Int} (i n x : Int) (h : Ar w B p v ws) (hx : U64 x) : Calls Try.prog 40 #[.pointer (some ⟨p, 0, none⟩), .int .i64 i, .int .i64 n, .int .u64 x] w fun e w' => e = .returned (.int .i64 (rowE ws.length i n)) ∧ Turned w B p v (fillL ws i n x) w' := by
  by_cases he : rowE ws.length i n = 0
  · obtain ⟨a0, a1, a2, a3⟩ := rowE_zero he
    obtain ⟨N, rfl⟩ := Int.eq_ofNat_of_zero_le a0
    obtain ⟨I, rfl⟩ := Int.eq_ofNat_of_zero_le a1
    rw [fillL_ok x he, he, Int.toNat_natCast, Int.toNat_natCast]
    clear he
    rcases Nat.eq_zero_or_pos N with h0 | h0
    · subst h0
      rw [fillTo_zero]
      obtain ⟨A, c, rfl, h2, h3, h4⟩ := h.form
      have H := Lib.hid (row_empty I h (by omega))
      have hs := Lib.hid (Turned.same h)
      clear h h4
      go_enter Try.func40, Try.ntmps40
      go_wp2_with (refine H.out.mono ?_; rintro e w' ⟨rfl, rfl⟩)
      go_loop [21] (fun i => i = .int .i64 0) (fun _ => 0)
      case atStart => rfl
      case round =>
        subst hrel
        go_wp2
        go_ret
        exact ⟨rfl, hs.out⟩
    · obtain ⟨A, c, rfl, h2, h3, h4⟩ := h.form
      rcases h4 with ⟨_, h5, _⟩ | ⟨g, rfl, hg1, hg2⟩
      · subst h5; simp at a3; omega
      have H := Lib.hid (row_some I N h h0 (by omega))
      have HA := Lib.hid h
      have HX := Lib.hid hx
      unfold maxLen at h3
      clear h hx
      go_enter Try.func40, Try.ntmps40
      go_wp2_with (refine H.out.mono ?_; rintro e w' ⟨rfl, rfl⟩)
      clear H
      go_loopw [21] (fun i wr => ∃ k : Nat, k ≤ N ∧ i = .int .i64 (k : Nat) ∧ Hid (Ar wr B p (.slice (some ⟨g, 0, none⟩) ws.length c) (fillTo ws I x k)) ∧ Hid (w.grownBy wr (some g))) (fun i _ => N - (intOf i).toNat)
      case atStart => exact ⟨0, by omega, rfl, by rw [fillTo_zero]; exact HA, World.grownBy.refl w _⟩
      case round =>
        obtain ⟨k, hk, rfl, har, hgr⟩ := hrel
        by_cases hlt : k < N
        · have hc := har.out.cellAt' (I + k) (by rw [fillTo_length]; omega)
          have hfr := har.out.frozenAt' (I + k)
          have hst := Lib.hid (har.out.stored' (I + k) HX.out)
          go_wp2
          go_roundw
          case rel => exact ⟨k + 1, by omega, by go_num, by have := hst.out.1; rw [fillTo_succ]; exact this, grown_trans hgr.out hst.out.2⟩
          case measure => simp [intOf] <;> omega
        · obtain rfl : k = N := by omega
          go_wp2
          go_ret
          exact ⟨rfl, har.out, hgr.out⟩
  · have H := Lib.hid (row_err i n h he)
    have hs := Lib.hid (Turned.same h)
    rw [fillL_not x he]
    clear h he hx
    go_enter Try.func40, Try.ntmps40
    go_wp2_with (refine H.out.mono ?_; rintro e w' ⟨rfl, rfl⟩)
    go_loop [21] (fun i => i = .int .i64 0) (fun _ => 0)
    case atStart => rfl
    case round =>
      subst hrel
      go_wp2
      go_ret
      exact ⟨rfl, hs.out⟩
set_option maxHeartbeats 400000 in
theorem move_none (v : Value) (i j n : Int) (w : World) (h : NoAr w v) : Calls Try.prog 38 #[v, .int .i64 i, .int .i64 j, .int .i64 n] w fun e w' => e = .returned (.int .i64 10) ∧ w = w' := by
  have H := Lib.hid (row_none v i n w h)
  clear h
  go_enter Try.func38, Try.ntmps38
  go_wp2_with (refine H.out.mono ?_; rintro e w' ⟨rfl, rfl⟩)
  go_ret
  exact ⟨rfl, rfl⟩

theorem allU_moveTo {ws : List Int} (h : AllU ws) (a b : Nat) : ∀ k, AllU (moveTo ws a b k) := by
  intro k; induction k with
  | zero => rw [moveTo_zero]; exact h
  | succ k ih => rw [moveTo_succ]; exact ih.set _ (h.get _)
theorem allU_fillTo {ws : List Int} (h : AllU ws) (a : Nat) {x : Int} (hx : U64 x) : ∀ k, AllU (fillTo ws a x k) := by
  intro k; induction k with
  | zero => rw [fillTo_zero]; exact h
  | succ k ih => rw [fillTo_succ]; exact ih.set _ hx

theorem rowE_ne {m : Nat} {a n : Int} (h : ¬ rowE m a n = 0) : (rowE m a n != 0) = true := by rw [bne_iff_ne]; exact h

set_option maxHeartbeats 400000 in
theorem move_ar {w : World} {B p : Nat} {v : Value} {ws : List Int} (i j n : Int) (h : Ar w B p v ws) : Calls Try.prog 38 #[.pointer (some ⟨p, 0, none⟩), .int .i64 i, .int .i64 j, .int .i64 n] w fun e w' => e = .returned (.int .i64 (moveE ws.length i j n)) ∧ Turned w B p v (moveL ws i j n) w' := by
  by_cases he : rowE ws.length i n = 0
  · have hm : moveE ws.length i j n = rowE ws.length j n := by unfold moveE; rw [if_pos he]
    by_cases hj : rowE ws.length j n = 0
    · obtain ⟨a0, a1, a2, a3⟩ := rowE_zero he
      obtain ⟨_, b1, b2, b3⟩ := rowE_zero hj
      have hml := moveL_ok (show moveE ws.length i j n = 0 by rw [hm, hj])
      obtain ⟨N, rfl⟩ := Int.eq_ofNat_of_zero_le a0
      obtain ⟨I, rfl⟩ := Int.eq_ofNat_of_zero_le a1
      obtain ⟨J, rfl⟩ := Int.eq_ofNat_of_zero_le b1
      rw [hml, hm, hj, Int.toNat_natCast, Int.toNat_natCast, Int.toNat_natCast]
      clear hml hm hj he
      rcases Nat.eq_zero_or_pos N with h0 | h0
      · subst h0
        rw [moveTo_zero]
        obtain ⟨A, c, rfl, h2, h3, h4⟩ := h.form
        have H := Lib.hid (row_empty I h (by omega))
        have H2 := Lib.hid (row_empty J h (by omega))
        have hs := Lib.hid (Turned.same h)
        clear h h4
        go_enter Try.func38, Try.ntmps38
        go_wp2_with fail
        refine H.out.mono ?_
        rintro e w' ⟨rfl, rfl⟩
        go_wp2_with fail
        refine H2.out.mono ?_
        rintro e w' ⟨rfl, rfl⟩
        go_wp2_with (with_reducible refine wpList_copy_nothing rfl (.tmp 31) (.tmp 32) 35 35 rfl 22 Try.underlying35 ?k1 A A 0 0 0 0 ?k2 ?k3 ?k4 ?_)
        case k1 => kernel_rfl
        case k2 => rfl
        case k3 => rfl
        case k4 => rfl
        go_ret
        exact ⟨rfl, hs.out⟩
      · obtain ⟨A, c, rfl, h2, h3, h4⟩ := h.form
        rcases h4 with ⟨_, h5, _⟩ | ⟨g, rfl, hg1, hg2⟩
        · subst h5; simp at a3; omega
        obtain ⟨cur, hcg, hct, hcz⟩ := h.row_
        have H := Lib.hid (row_some I N h h0 (by omega))
        have H2 := Lib.hid (row_some J N h h0 (by omega))
        have hcl : (((wds ws).drop J).take N).length = N := by rw [List.length_take, List.length_drop, wds_length]; omega
        have hturn := Lib.hid (copy_turns h I J N (by omega) (by omega) (moveTo ws I J N) (moveTo_length _ _ _ _) (moveTo_splice ws I J N (by omega) (by omega)) (allU_moveTo h.fit _ _ _) cur hcg hct)
        have hsrc : ∀ q v, (((wds ws).drop J).take N)[q]? = some v → w.cell? ((⟨g, J, none⟩ : Addr).add q) = some v := by
          intro q v hq
          have hqN : q < N := by
            have := (List.getElem?_eq_some_iff.1 hq).1
            omega
          rw [List.getElem?_take_of_lt hqN, List.getElem?_drop, wds_get ws _ (by omega)] at hq
          have e : (⟨g, J, none⟩ : Addr).add q = ⟨g, J + q, none⟩ := by
            unfold Addr.add; split
            · rename_i hz; rw [hz]; simp
            · rfl
          rw [e, h.cellAt' (J + q) (by omega), hq]
        have h1 : ∀ v ∈ ((wds ws).drop J).take N, v.oneCell' = true := fun v hv => wds_one ws v (List.mem_of_mem_drop (List.mem_of_mem_take hv))
        obtain ⟨cs, hcs⟩ : ∃ cs, cs = ((wds ws).drop J).take N := ⟨_, rfl⟩
        rw [← hcs] at hcl hturn hsrc h1
        have HSRC := Lib.hid hsrc
        have HG := Lib.hid hcg
        have HL := Lib.hid hcl
        have H1 := Lib.hid h1
        clear h hcg hcs hcl hsrc h1 hct
        go_enter Try.func38, Try.ntmps38
        go_wp2_with fail
        refine H.out.mono ?_
        rintro e w' ⟨rfl, rfl⟩
        go_wp2_with fail
        refine H2.out.mono ?_
        rintro e w' ⟨rfl, rfl⟩
        go_wp2_with (with_reducible refine wpList_copy_own rfl (.tmp 31) (.tmp 32) 35 35 rfl 22 Try.underlying35 ?k1 g I N N ⟨g, J, none⟩ N N ?k2 ?k3 cur 22 HG.out cs ?c1 HSRC.out ?c2 H1.out ?_)
        case k1 => kernel_rfl
        case k2 => rfl
        case k3 => rfl
        case c1 => rw [HL.out]; simp
        case c2 => rw [HL.out]; omega
        go_ret
        refine ⟨rfl, ?_⟩
        rw [HL.out]
        exact hturn.out
    · have H := row_err j n h hj
      have hml := moveL_not (show ¬ moveE ws.length i j n = 0 by rw [hm]; exact hj)
      have hj0 := rowE_ne hj
      have hj1 : (rowE ws.length j n == 0) = false := by rw [beq_eq_false_iff_ne]; exact hj
      obtain ⟨a0, a1, a2, a3⟩ := rowE_zero he
      obtain ⟨N, rfl⟩ := Int.eq_ofNat_of_zero_le a0
      obtain ⟨I, rfl⟩ := Int.eq_ofNat_of_zero_le a1
      rw [hml, hm]
      obtain ⟨E, hE⟩ : ∃ E, E = rowE ws.length j (N : Int) := ⟨_, rfl⟩
      rw [← hE] at H hj0 hj1 ⊢
      have H2 := Lib.hid H
      have hs := Lib.hid (Turned.same h)
      have fst : ∃ rv, Calls Try.prog 101 #[.pointer (some ⟨p, 0, none⟩), .int .i64 (I : Nat), .int .i64 (N : Nat)] w fun e w' => e = .returned (.tuple #[rv, .int .i64 0]) ∧ w = w' := by
        obtain ⟨A, c, rfl, h2, h3, h4⟩ := h.form
        rcases Nat.eq_zero_or_pos N with h0 | h0
        · subst h0
          exact ⟨_, row_empty I h (by omega)⟩
        · rcases h4 with ⟨_, h5, _⟩ | ⟨g, rfl, hg1, hg2⟩
          · subst h5; simp at a3; omega
          exact ⟨_, row_some I N h h0 (by omega)⟩
      obtain ⟨rv, H0⟩ := fst
      have H1 := Lib.hid H0
      clear H0 H hE hml hm hj he h
      go_enter Try.func38, Try.ntmps38
      go_wp2_with fail
      refine H1.out.mono ?_
      rintro e w' ⟨rfl, rfl⟩
      go_wp2_with fail
      refine H2.out.mono ?_
      rintro e w' ⟨rfl, rfl⟩
      go_wp2
      go_ret
      exact ⟨rfl, hs.out⟩
  · have H := row_err i n h he
    have hm : moveE ws.length i j n = rowE ws.length i n := by unfold moveE; rw [if_neg he]
    have hml := moveL_not (show ¬ moveE ws.length i j n = 0 by rw [hm]; exact he)
    have hj0 := rowE_ne he
    rw [hml, hm]
    obtain ⟨E, hE⟩ : ∃ E, E = rowE ws.length i n := ⟨_, rfl⟩
    rw [← hE] at H hj0 ⊢
    have H2 := Lib.hid H
    have hs := Lib.hid (Turned.same h)
    clear H hE hml hm he h
    go_enter Try.func38, Try.ntmps38
    go_wp2_with (refine H2.out.mono ?_; rintro e w' ⟨rfl, rfl⟩)
    go_ret
    exact ⟨rfl, hs.out⟩
end Go.Proofs.Ytcljgphipdbckaa
