/- The walks of layer 8 (objects), second part: places, and what is read. -/
import Derived.Test.YtcljgphipdbckaaW08
import Derived.BigQuiet
namespace Go.Proofs.Ytcljgphipdbckaa
set_option linter.unusedVariables false
set_option linter.unusedSimpArgs false
open Go.RowKit

set_option maxRecDepth 100000 in
set_option maxHeartbeats 3200000 in
theorem place_core {w : World} {v : Value} (h : Hd) (a i E : Int) (raw : Bool) (hO : Calls Try.prog 76 #[v, .int .i64 a] w (Out w (.tuple #[.agg #[.int .i64 h.kind, .int .i64 h.fields, .int .i64 h.raws, .bool h.mark, .int .i64 h.cursor], .int .i64 E]))) (hE : E = 0 → 0 ≤ a ∧ a ≤ 1000000 ∧ mayB h = true) :
    Calls Try.prog 123 #[v, .int .i64 a, .int .i64 i, .bool raw] w (Out w (.tuple #[.int .i64 (plI h a i raw E), .int .i64 (plE h i raw E)])) := by
  have HO := Lib.hid hO
  clear hO
  rcases pl_cases h a i raw E with ⟨h0, e1, e2⟩ | ⟨h0, h1, e1, e2⟩ | ⟨h0, h1, h2, e1, e2⟩
  · rw [e1, e2]
    obtain ⟨kd, fl, rw, mk, cu⟩ := h
    have hne : (E != 0) = true := by simpa using h0
    clear h0 e1 e2 hE
    go_enter Try.func123, Try.ntmps123
    go_wp2_with fail
    refine HO.out.mono ?_
    rintro e w1 ⟨rfl, hb⟩
    have HZ := Lib.hid (Blk.new w1 59 #[.int .i64 kd, .int .i64 fl, .int .i64 rw, .bool mk, .int .i64 cu])
    have HB := Lib.hid ((hb.alloc hb.size (.cells #[.int .i64 kd, .int .i64 fl, .int .i64 rw, .bool mk, .int .i64 cu] 59)))
    clear hb
    go_wp2
    go_ret2
    exact Out.mk2 rfl rfl HB.out
  · rw [e1, e2]
    obtain ⟨x0, x1, x2⟩ := hE h0
    have hm := (mayB_iff h).1 x2
    subst h0
    obtain ⟨kd, fl, rw, mk, cu⟩ := h
    simp only at hm HO
    have v1 : IntKind.i64.wrap (a + 1) = a + 1 := Go.IntWalk.i64_in _ (by omega)
    have v2 : IntKind.i64.wrap (a + 1 + fl) = a + 1 + fl := Go.IntWalk.i64_in _ (by omega)
    clear e1 e2 hE x2 hm x0 x1
    cases raw with
    | true =>
      have h1 : i < 0 ∨ rw ≤ i := h1
      by_cases h3 : i < 0
      · clear h1
        go_enter Try.func123, Try.ntmps123
        go_wp2_with fail
        refine HO.out.mono ?_
        rintro e w1 ⟨rfl, hb⟩
        have HZ := Lib.hid (Blk.new w1 59 #[.int .i64 kd, .int .i64 fl, .int .i64 rw, .bool mk, .int .i64 cu])
        have HB := Lib.hid ((hb.alloc hb.size (.cells #[.int .i64 kd, .int .i64 fl, .int .i64 rw, .bool mk, .int .i64 cu] 59)))
        clear hb
        go_wp2
        go_quiet (fail)
        go_wp2
        go_quiet (fail)
        go_wp2
        go_ret2
        exact Out.mk2 rfl rfl (below_dr HB.out _)
      · have h4 : rw ≤ i := by omega
        clear h1
        go_enter Try.func123, Try.ntmps123
        go_wp2_with fail
        refine HO.out.mono ?_
        rintro e w1 ⟨rfl, hb⟩
        have HZ := Lib.hid (Blk.new w1 59 #[.int .i64 kd, .int .i64 fl, .int .i64 rw, .bool mk, .int .i64 cu])
        have HB := Lib.hid ((hb.alloc hb.size (.cells #[.int .i64 kd, .int .i64 fl, .int .i64 rw, .bool mk, .int .i64 cu] 59)))
        clear hb
        go_wp2
        go_quiet (fail)
        go_wp2
        go_quiet (fail)
        go_wp2
        go_ret2
        exact Out.mk2 rfl rfl (below_dr HB.out _)
    | false =>
      have h1 : i < 0 ∨ fl ≤ i := h1
      by_cases h3 : i < 0
      · clear h1
        go_enter Try.func123, Try.ntmps123
        go_wp2_with fail
        refine HO.out.mono ?_
        rintro e w1 ⟨rfl, hb⟩
        have HZ := Lib.hid (Blk.new w1 59 #[.int .i64 kd, .int .i64 fl, .int .i64 rw, .bool mk, .int .i64 cu])
        have HB := Lib.hid ((hb.alloc hb.size (.cells #[.int .i64 kd, .int .i64 fl, .int .i64 rw, .bool mk, .int .i64 cu] 59)))
        clear hb
        go_wp2
        go_quiet (fail)
        go_wp2
        go_ret2
        exact Out.mk2 rfl rfl (below_dr HB.out _)
      · have h4 : fl ≤ i := by omega
        clear h1
        go_enter Try.func123, Try.ntmps123
        go_wp2_with fail
        refine HO.out.mono ?_
        rintro e w1 ⟨rfl, hb⟩
        have HZ := Lib.hid (Blk.new w1 59 #[.int .i64 kd, .int .i64 fl, .int .i64 rw, .bool mk, .int .i64 cu])
        have HB := Lib.hid ((hb.alloc hb.size (.cells #[.int .i64 kd, .int .i64 fl, .int .i64 rw, .bool mk, .int .i64 cu] 59)))
        clear hb
        go_wp2
        go_quiet (fail)
        go_wp2
        go_ret2
        exact Out.mk2 rfl rfl (below_dr HB.out _)
  · rw [e1, e2]
    obtain ⟨x0, x1, x2⟩ := hE h0
    have hm := (mayB_iff h).1 x2
    subst h0
    obtain ⟨kd, fl, rw, mk, cu⟩ := h
    simp only at hm HO
    have h3 : ¬ i < 0 := by omega
    have v1 : IntKind.i64.wrap (a + 1) = a + 1 := Go.IntWalk.i64_in _ (by omega)
    have v2 : IntKind.i64.wrap (a + 1 + fl) = a + 1 + fl := Go.IntWalk.i64_in _ (by omega)
    cases raw with
    | true =>
      have h4 : ¬ rw ≤ i := by unfold manyH at h2; simp at h2; omega
      have v3 : IntKind.i64.wrap (a + 1 + fl + i) = a + 1 + fl + i := Go.IntWalk.i64_in _ (by omega)
      have hr : Hid (fromH ⟨kd, fl, rw, mk, cu⟩ a true + i = a + 1 + fl + i) := rfl
      rw [hr.out]
      clear e1 e2 hE x2 hm x0 x1 h1 h2
      go_enter Try.func123, Try.ntmps123
      go_wp2_with fail
      refine HO.out.mono ?_
      rintro e w1 ⟨rfl, hb⟩
      have HZ := Lib.hid (Blk.new w1 59 #[.int .i64 kd, .int .i64 fl, .int .i64 rw, .bool mk, .int .i64 cu])
      have HB := Lib.hid ((hb.alloc hb.size (.cells #[.int .i64 kd, .int .i64 fl, .int .i64 rw, .bool mk, .int .i64 cu] 59)))
      clear hb
      go_wp2
      go_quiet (fail)
      go_wp2
      go_quiet (fail)
      go_wp2
      go_ret2
      exact Out.mk2 rfl rfl (below_dr HB.out _)
    | false =>
      have h4 : ¬ fl ≤ i := by unfold manyH at h2; simp at h2; omega
      have v3 : IntKind.i64.wrap (a + 1 + i) = a + 1 + i := Go.IntWalk.i64_in _ (by omega)
      have hr : Hid (fromH ⟨kd, fl, rw, mk, cu⟩ a false + i = a + 1 + i) := by rw [Hid]; unfold fromH; simp
      rw [hr.out]
      clear e1 e2 hE x2 hm x0 x1 h1 h2
      go_enter Try.func123, Try.ntmps123
      go_wp2_with fail
      refine HO.out.mono ?_
      rintro e w1 ⟨rfl, hb⟩
      have HZ := Lib.hid (Blk.new w1 59 #[.int .i64 kd, .int .i64 fl, .int .i64 rw, .bool mk, .int .i64 cu])
      have HB := Lib.hid ((hb.alloc hb.size (.cells #[.int .i64 kd, .int .i64 fl, .int .i64 rw, .bool mk, .int .i64 cu] 59)))
      clear hb
      go_wp2
      go_quiet (fail)
      go_wp2
      go_ret2
      exact Out.mk2 rfl rfl (below_dr HB.out _)

set_option maxRecDepth 100000 in
set_option maxHeartbeats 3200000 in
theorem rplace_core {w : World} {v : Value} (h : Hd) (a i E : Int) (raw : Bool) (hO : Calls Try.prog 89 #[v, .int .i64 a] w (Out w (.tuple #[.agg #[.int .i64 h.kind, .int .i64 h.fields, .int .i64 h.raws, .bool h.mark, .int .i64 h.cursor], .int .i64 E]))) (hE : E = 0 → 0 ≤ a ∧ a ≤ 1000000 ∧ mayB h = true) :
    Calls Try.prog 129 #[v, .int .i64 a, .int .i64 i, .bool raw] w (Out w (.tuple #[.int .i64 (plI h a i raw E), .int .i64 (plE h i raw E)])) := by
  have HO := Lib.hid hO
  clear hO
  rcases pl_cases h a i raw E with ⟨h0, e1, e2⟩ | ⟨h0, h1, e1, e2⟩ | ⟨h0, h1, h2, e1, e2⟩
  · rw [e1, e2]
    obtain ⟨kd, fl, rw, mk, cu⟩ := h
    have hne : (E != 0) = true := by simpa using h0
    clear h0 e1 e2 hE
    go_enter Try.func129, Try.ntmps129
    go_wp2_with fail
    refine HO.out.mono ?_
    rintro e w1 ⟨rfl, hb⟩
    have HZ := Lib.hid (Blk.new w1 59 #[.int .i64 kd, .int .i64 fl, .int .i64 rw, .bool mk, .int .i64 cu])
    have HB := Lib.hid ((hb.alloc hb.size (.cells #[.int .i64 kd, .int .i64 fl, .int .i64 rw, .bool mk, .int .i64 cu] 59)))
    clear hb
    go_wp2
    go_ret2
    exact Out.mk2 rfl rfl HB.out
  · rw [e1, e2]
    obtain ⟨x0, x1, x2⟩ := hE h0
    have hm := (mayB_iff h).1 x2
    subst h0
    obtain ⟨kd, fl, rw, mk, cu⟩ := h
    simp only at hm HO
    have v1 : IntKind.i64.wrap (a + 1) = a + 1 := Go.IntWalk.i64_in _ (by omega)
    have v2 : IntKind.i64.wrap (a + 1 + fl) = a + 1 + fl := Go.IntWalk.i64_in _ (by omega)
    clear e1 e2 hE x2 hm x0 x1
    cases raw with
    | true =>
      have h1 : i < 0 ∨ rw ≤ i := h1
      by_cases h3 : i < 0
      · clear h1
        go_enter Try.func129, Try.ntmps129
        go_wp2_with fail
        refine HO.out.mono ?_
        rintro e w1 ⟨rfl, hb⟩
        have HZ := Lib.hid (Blk.new w1 59 #[.int .i64 kd, .int .i64 fl, .int .i64 rw, .bool mk, .int .i64 cu])
        have HB := Lib.hid ((hb.alloc hb.size (.cells #[.int .i64 kd, .int .i64 fl, .int .i64 rw, .bool mk, .int .i64 cu] 59)))
        clear hb
        go_wp2
        go_ret2
        exact Out.mk2 rfl rfl HB.out
      · have h4 : rw ≤ i := by omega
        clear h1
        go_enter Try.func129, Try.ntmps129
        go_wp2_with fail
        refine HO.out.mono ?_
        rintro e w1 ⟨rfl, hb⟩
        have HZ := Lib.hid (Blk.new w1 59 #[.int .i64 kd, .int .i64 fl, .int .i64 rw, .bool mk, .int .i64 cu])
        have HB := Lib.hid ((hb.alloc hb.size (.cells #[.int .i64 kd, .int .i64 fl, .int .i64 rw, .bool mk, .int .i64 cu] 59)))
        clear hb
        go_wp2
        go_ret2
        exact Out.mk2 rfl rfl HB.out
    | false =>
      have h1 : i < 0 ∨ fl ≤ i := h1
      by_cases h3 : i < 0
      · clear h1
        go_enter Try.func129, Try.ntmps129
        go_wp2_with fail
        refine HO.out.mono ?_
        rintro e w1 ⟨rfl, hb⟩
        have HZ := Lib.hid (Blk.new w1 59 #[.int .i64 kd, .int .i64 fl, .int .i64 rw, .bool mk, .int .i64 cu])
        have HB := Lib.hid ((hb.alloc hb.size (.cells #[.int .i64 kd, .int .i64 fl, .int .i64 rw, .bool mk, .int .i64 cu] 59)))
        clear hb
        go_wp2
        go_ret2
        exact Out.mk2 rfl rfl HB.out
      · have h4 : fl ≤ i := by omega
        clear h1
        go_enter Try.func129, Try.ntmps129
        go_wp2_with fail
        refine HO.out.mono ?_
        rintro e w1 ⟨rfl, hb⟩
        have HZ := Lib.hid (Blk.new w1 59 #[.int .i64 kd, .int .i64 fl, .int .i64 rw, .bool mk, .int .i64 cu])
        have HB := Lib.hid ((hb.alloc hb.size (.cells #[.int .i64 kd, .int .i64 fl, .int .i64 rw, .bool mk, .int .i64 cu] 59)))
        clear hb
        go_wp2
        go_ret2
        exact Out.mk2 rfl rfl HB.out
  · rw [e1, e2]
    obtain ⟨x0, x1, x2⟩ := hE h0
    have hm := (mayB_iff h).1 x2
    subst h0
    obtain ⟨kd, fl, rw, mk, cu⟩ := h
    simp only at hm HO
    have h3 : ¬ i < 0 := by omega
    have v1 : IntKind.i64.wrap (a + 1) = a + 1 := Go.IntWalk.i64_in _ (by omega)
    have v2 : IntKind.i64.wrap (a + 1 + fl) = a + 1 + fl := Go.IntWalk.i64_in _ (by omega)
    cases raw with
    | true =>
      have h4 : ¬ rw ≤ i := by unfold manyH at h2; simp at h2; omega
      have v3 : IntKind.i64.wrap (a + 1 + fl + i) = a + 1 + fl + i := Go.IntWalk.i64_in _ (by omega)
      have hr : Hid (fromH ⟨kd, fl, rw, mk, cu⟩ a true + i = a + 1 + fl + i) := rfl
      rw [hr.out]
      clear e1 e2 hE x2 hm x0 x1 h1 h2
      go_enter Try.func129, Try.ntmps129
      go_wp2_with fail
      refine HO.out.mono ?_
      rintro e w1 ⟨rfl, hb⟩
      have HZ := Lib.hid (Blk.new w1 59 #[.int .i64 kd, .int .i64 fl, .int .i64 rw, .bool mk, .int .i64 cu])
      have HB := Lib.hid ((hb.alloc hb.size (.cells #[.int .i64 kd, .int .i64 fl, .int .i64 rw, .bool mk, .int .i64 cu] 59)))
      clear hb
      go_wp2
      go_ret2
      exact Out.mk2 rfl rfl HB.out
    | false =>
      have h4 : ¬ fl ≤ i := by unfold manyH at h2; simp at h2; omega
      have v3 : IntKind.i64.wrap (a + 1 + i) = a + 1 + i := Go.IntWalk.i64_in _ (by omega)
      have hr : Hid (fromH ⟨kd, fl, rw, mk, cu⟩ a false + i = a + 1 + i) := by rw [Hid]; unfold fromH; simp
      rw [hr.out]
      clear e1 e2 hE x2 hm x0 x1 h1 h2
      go_enter Try.func129, Try.ntmps129
      go_wp2_with fail
      refine HO.out.mono ?_
      rintro e w1 ⟨rfl, hb⟩
      have HZ := Lib.hid (Blk.new w1 59 #[.int .i64 kd, .int .i64 fl, .int .i64 rw, .bool mk, .int .i64 cu])
      have HB := Lib.hid ((hb.alloc hb.size (.cells #[.int .i64 kd, .int .i64 fl, .int .i64 rw, .bool mk, .int .i64 cu] 59)))
      clear hb
      go_wp2
      go_ret2
      exact Out.mk2 rfl rfl HB.out

theorem oE_may {ws : List Int} {a : Int} (hf : AllU ws) (hal : ws.length ≤ 1000000) (h : oE ws a = 0) : 0 ≤ a ∧ a ≤ 1000000 ∧ mayB (oH ws a) = true := by
  have := oE_zero hf h
  exact ⟨this.1, by omega, this.2.2.1⟩
theorem place_ar {w : World} {B p : Nat} {v : Value} {ws : List Int} (a i : Int) (raw : Bool) (ha0 : -9223372036854775808 ≤ a) (hal : ws.length ≤ 1000000) (h : Ar w B p v ws) : Calls Try.prog 123 #[.pointer (some ⟨p, 0, none⟩), .int .i64 a, .int .i64 i, .bool raw] w (Out w (.tuple #[.int .i64 (oPI ws a i raw), .int .i64 (oPE ws a i raw)])) :=
  place_core (oH ws a) a i (oE ws a) raw (head_ar a ha0 hal h) (oE_may h.fit hal)
theorem place_no (v : Value) (w : World) (a i : Int) (raw : Bool) (h : NoAr w v) : Calls Try.prog 123 #[v, .int .i64 a, .int .i64 i, .bool raw] w (Out w (.tuple #[.int .i64 0, .int .i64 10])) := by
  have := place_core Hd.none_ a i 10 raw (head_no v w a h) (fun h => absurd h (by decide))
  exact this
theorem rplace_any {w : World} {A : Option Addr} {n c : Nat} {ws : List Int} (a i : Int) (raw : Bool) (hal : ws.length ≤ 1000000) (h : Rw w (.slice A n c) ws) : Calls Try.prog 129 #[.slice A n c, .int .i64 a, .int .i64 i, .bool raw] w (Out w (.tuple #[.int .i64 (oPI ws a i raw), .int .i64 (oPE ws a i raw)])) :=
  rplace_core (oH ws a) a i (oE ws a) raw (rhead_any a hal h) (oE_may h.fit hal)

set_option maxHeartbeats 1600000 in
/-- read, in an arena -/
theorem read8_ar {w : World} {B p : Nat} {v : Value} {ws : List Int} (a i : Int) (raw : Bool) (ha0 : -9223372036854775808 ≤ a) (hal : ws.length ≤ 1000000) (h : Ar w B p v ws) : Calls Try.prog 122 #[.pointer (some ⟨p, 0, none⟩), .int .i64 a, .int .i64 i, .bool raw] w (Out w (.tuple #[.int .u64 (oV ws a i raw), .int .i64 (oPE ws a i raw)])) := by
  have hp := place_ar a i raw ha0 hal h
  have HA := Lib.hid h
  by_cases h0 : oPE ws a i raw = 0
  · have hz := oP_zero h.fit h0
    have e : oV ws a i raw = rdV ws (oPI ws a i raw) := by unfold oV; rw [if_pos h0]
    have he := atE_yes hz.2.2.2.2.2
    rw [e, h0]
    rw [h0] at hp
    have HP := Lib.hid hp
    have HE := Lib.hid he
    clear h hp h0 hz e he
    generalize oPI ws a i raw = k at *
    go_enter Try.func122, Try.ntmps122
    go_wp2_with fail
    refine HP.out.mono ?_
    rintro e w1 ⟨rfl, hb⟩
    have hk := read_ar k (HA.out.below hb)
    rw [HE.out] at hk
    have HK := Lib.hid hk
    have HB := Lib.hid hb
    clear hk hb
    go_wp2_with fail
    refine HK.out.mono ?_
    rintro e w2 ⟨rfl, rfl⟩
    go_wp2
    go_ret2
    exact ⟨rfl, HB.out⟩
  · have e : oV ws a i raw = 0 := by unfold oV; rw [if_neg h0]
    have e2 : oPI ws a i raw = 0 := by
      rcases pl_cases (oH ws a) a i raw (oE ws a) with ⟨_, _, e⟩ | ⟨_, _, _, e⟩ | ⟨_, _, _, e3, _⟩
      · exact e
      · exact e
      · exact absurd e3 h0
    rw [e]
    rw [e2] at hp
    have HP := Lib.hid hp
    have hne : (oPE ws a i raw != 0) = true := by simpa using h0
    clear h hp e e2 h0
    generalize oPE ws a i raw = E at *
    go_enter Try.func122, Try.ntmps122
    go_wp2_with fail
    refine HP.out.mono ?_
    rintro e w1 ⟨rfl, hb⟩
    have HB := Lib.hid hb
    clear hb
    go_wp2
    go_ret2
    exact ⟨rfl, HB.out⟩
set_option maxHeartbeats 1600000 in
theorem read8_no (v : Value) (w : World) (a i : Int) (raw : Bool) (h : NoAr w v) : Calls Try.prog 122 #[v, .int .i64 a, .int .i64 i, .bool raw] w (Out w (.tuple #[.int .u64 0, .int .i64 10])) := by
  have HP := Lib.hid (place_no v w a i raw h)
  clear h
  go_enter Try.func122, Try.ntmps122
  go_wp2_with fail
  refine HP.out.mono ?_
  rintro e w1 ⟨rfl, hb⟩
  have HB := Lib.hid hb
  clear hb
  go_wp2
  go_ret2
  exact ⟨rfl, HB.out⟩
set_option maxHeartbeats 1600000 in
theorem rread8_any {w : World} {A : Option Addr} {n c : Nat} {ws : List Int} (a i : Int) (raw : Bool) (hal : ws.length ≤ 1000000) (h : Rw w (.slice A n c) ws) : Calls Try.prog 90 #[.slice A n c, .int .i64 a, .int .i64 i, .bool raw] w (Out w (.tuple #[.int .u64 (oV ws a i raw), .int .i64 (oPE ws a i raw)])) := by
  have hp := rplace_any a i raw hal h
  have HA := Lib.hid h
  have hln := h.len_
  subst hln
  have hcp := h.cap_
  unfold maxLen at hcp
  by_cases h0 : oPE ws a i raw = 0
  · have hz := oP_zero h.fit h0
    have hbb := inB_yes hz.2.2.2.2.2
    have e : oV ws a i raw = ws.getD (oPI ws a i raw).toNat 0 := by unfold oV; rw [if_pos h0, rdV_yes hz.2.2.2.2.2]
    rw [e, h0]
    rw [h0] at hp
    obtain ⟨K, hK⟩ := Int.eq_ofNat_of_zero_le hbb.1
    rw [hK] at hp hbb ⊢
    rw [Int.toNat_natCast]
    have HP := Lib.hid hp
    have hi1 : (K : Int) < (ws.length : Int) := by omega
    clear h hp h0 hz e hK
    go_enter Try.func90, Try.ntmps90
    go_wp2_with fail
    refine HP.out.mono ?_
    rintro e w1 ⟨rfl, hb⟩
    have HB := Lib.hid hb
    obtain ⟨b, o, rfl, hc⟩ := (HA.out.below hb).at_ (by omega)
    have hck := hc K (by omega)
    clear hb hc
    generalize ws.getD K 0 = x at *
    go_wp2
    go_ret2
    exact ⟨rfl, HB.out⟩
  · have e : oV ws a i raw = 0 := by unfold oV; rw [if_neg h0]
    have e2 : oPI ws a i raw = 0 := by
      rcases pl_cases (oH ws a) a i raw (oE ws a) with ⟨_, _, e⟩ | ⟨_, _, _, e⟩ | ⟨_, _, _, e3, _⟩
      · exact e
      · exact e
      · exact absurd e3 h0
    rw [e]
    rw [e2] at hp
    have HP := Lib.hid hp
    have hne : (oPE ws a i raw != 0) = true := by simpa using h0
    clear h hp e e2 h0
    generalize oPE ws a i raw = E at *
    go_enter Try.func90, Try.ntmps90
    go_wp2_with fail
    refine HP.out.mono ?_
    rintro e w1 ⟨rfl, hb⟩
    have HB := Lib.hid hb
    clear hb
    go_wp2
    go_ret2
    exact ⟨rfl, HB.out⟩

set_option maxHeartbeats 800000 in
theorem field_ar {w : World} {B p : Nat} {v : Value} {ws : List Int} (a i : Int) (ha0 : -9223372036854775808 ≤ a) (hal : ws.length ≤ 1000000) (h : Ar w B p v ws) : Calls Try.prog 77 #[.pointer (some ⟨p, 0, none⟩), .int .i64 a, .int .i64 i] w (Out w (.tuple #[.int .u64 (oV ws a i false), .int .i64 (oPE ws a i false)])) := by
  have HP := Lib.hid (read8_ar a i false ha0 hal h)
  clear h
  go_enter Try.func77, Try.ntmps77
  go_wp2_with fail
  refine HP.out.mono ?_
  rintro e w1 ⟨rfl, hb⟩
  have HB := Lib.hid hb
  clear hb
  go_wp2
  go_ret2
  exact ⟨rfl, HB.out⟩
set_option maxHeartbeats 800000 in
theorem field_no (v : Value) (w : World) (a i : Int) (h : NoAr w v) : Calls Try.prog 77 #[v, .int .i64 a, .int .i64 i] w (Out w (.tuple #[.int .u64 0, .int .i64 10])) := by
  have HP := Lib.hid (read8_no v w a i false h)
  clear h
  go_enter Try.func77, Try.ntmps77
  go_wp2_with fail
  refine HP.out.mono ?_
  rintro e w1 ⟨rfl, hb⟩
  have HB := Lib.hid hb
  clear hb
  go_wp2
  go_ret2
  exact ⟨rfl, HB.out⟩

set_option maxHeartbeats 800000 in
theorem raw8_ar {w : World} {B p : Nat} {v : Value} {ws : List Int} (a i : Int) (ha0 : -9223372036854775808 ≤ a) (hal : ws.length ≤ 1000000) (h : Ar w B p v ws) : Calls Try.prog 78 #[.pointer (some ⟨p, 0, none⟩), .int .i64 a, .int .i64 i] w (Out w (.tuple #[.int .u64 (oV ws a i true), .int .i64 (oPE ws a i true)])) := by
  have HP := Lib.hid (read8_ar a i true ha0 hal h)
  clear h
  go_enter Try.func78, Try.ntmps78
  go_wp2_with fail
  refine HP.out.mono ?_
  rintro e w1 ⟨rfl, hb⟩
  have HB := Lib.hid hb
  clear hb
  go_wp2
  go_ret2
  exact ⟨rfl, HB.out⟩
set_option maxHeartbeats 800000 in
theorem raw8_no (v : Value) (w : World) (a i : Int) (h : NoAr w v) : Calls Try.prog 78 #[v, .int .i64 a, .int .i64 i] w (Out w (.tuple #[.int .u64 0, .int .i64 10])) := by
  have HP := Lib.hid (read8_no v w a i true h)
  clear h
  go_enter Try.func78, Try.ntmps78
  go_wp2_with fail
  refine HP.out.mono ?_
  rintro e w1 ⟨rfl, hb⟩
  have HB := Lib.hid hb
  clear hb
  go_wp2
  go_ret2
  exact ⟨rfl, HB.out⟩

end Go.Proofs.Ytcljgphipdbckaa
