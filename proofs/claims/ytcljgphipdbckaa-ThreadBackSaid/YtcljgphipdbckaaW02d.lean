/- The walks of layer 2 (arena), fourth part: the reference. -/
import Derived.Test.YtcljgphipdbckaaW02c
namespace Go.Proofs.Ytcljgphipdbckaa
open Go.RowKit

/-- 'append([]uint64{}, l...)' -/
theorem wpList_clone_words {ops : Array Oper} {rest : List Oper} {o : Oper} {a : Act} {Q : Exit → Act → World → Prop} (hgd : o.guard = none) (s x : Operand)
    (ho : o.op = .call { callee := .builtin .append, args := #[s, x], argTypes := #[35, 35] }) (W : World) (hs : a.eval s = .slice (some ⟨W.heap.size, 0, none⟩) 0 0)
    (A : Option Addr) (n c : Nat) (hx : a.eval x = .slice A n c) (ws : List Int) (hr : Rw W (.slice A n c) ws) (hn : Few ws.length)
    (h : ∀ A' c' w', w'.ownsRow W.heap.size 22 1 (.slice A' n c') n (wds ws) → Below W.heap.size W w' → wpList Try.prog ops Q rest (a.put o.dst (.slice A' n c')) w') :
    wpList Try.prog ops Q (o :: rest) a (W.alloc (.cells #[] 22)) := by
  obtain ⟨i0, hi, hz0, hz1, hz2⟩ := info_parts u64_info
  obtain ⟨A0, c0, e, h1, h2, hR⟩ := hr.reads
  injection e with e1 e2 e3
  subst e1 e2 e3
  refine wpList_append_any _ hgd s x _ ho W.heap.size 22 i0 _ 1 8 Try.underlying35 hi hz0 hz1 hz2 rfl (by omega) (.slice (some ⟨W.heap.size, 0, none⟩) 0 0) 0 [] hs
    (World.ownsRow_made W #[] 0 (Nat.le_refl _) (Nat.zero_le _) rfl) W.heap.size A ws.length c (wds ws) hx (hR.alloc (Nat.le_refl _) _) (wds_one ws) hn.max hn.bytes (by simp) ?_
  intro v' w' hown hgr hat
  rw [Nat.zero_add, List.nil_append] at hown
  obtain ⟨A', c', rfl⟩ := own_slice hown
  exact h A' c' w' hown (((Below.refl _ _).alloc (Nat.le_refl _) _).grown hgr (by simp) (fun k hk => by simp [Value.ownBlock] at hk; omega))

/-- are so many words there? -/
def thereB (m a n : Int) : Bool := decide (0 ≤ a) && decide (a ≤ m) && decide (n ≤ m - a)
set_option maxHeartbeats 400000 in
theorem there_any (m a n : Int) (w : World) (hm : 0 ≤ m) (hm2 : m ≤ 9223372036854775807) :
    Calls Try.prog 102 #[.int .i64 m, .int .i64 a, .int .i64 n] w fun e w' => e = .returned (.bool (thereB m a n)) ∧ w = w' := by
  have hy : Hid (∀ b, thereB m a n = b → Calls Try.prog 102 #[.int .i64 m, .int .i64 a, .int .i64 n] w (fun e w' => e = .returned (.bool b) ∧ w = w') → Calls Try.prog 102 #[.int .i64 m, .int .i64 a, .int .i64 n] w fun e w' => e = .returned (.bool (thereB m a n)) ∧ w = w') :=
    fun b h c => h ▸ c
  by_cases h0 : 0 ≤ a
  · by_cases h1 : a ≤ m
    · by_cases h2 : n ≤ m - a
      · refine hy.out true (by simp [thereB, *]) ?_
        clear hy
        go_enter Try.func102, Try.ntmps102
        go_wp2
        go_ret
        exact ⟨rfl, rfl⟩
      · refine hy.out false (by simp [thereB, *]) ?_
        clear hy
        go_enter Try.func102, Try.ntmps102
        go_wp2
        go_ret
        exact ⟨rfl, rfl⟩
    · refine hy.out false (by simp [thereB, *]) ?_
      clear hy
      go_enter Try.func102, Try.ntmps102
      go_wp2
      go_ret
      exact ⟨rfl, rfl⟩
  · refine hy.out false (by simp [thereB, *]) ?_
    clear hy
    go_enter Try.func102, Try.ntmps102
    go_wp2
    go_ret
    exact ⟨rfl, rfl⟩
theorem there_yes {m : Nat} {a n : Int} (h : rowE m a n = 0) : thereB m a n = true := by
  obtain ⟨a0, a1, a2, a3⟩ := rowE_zero h
  simp [thereB]; omega
theorem there_no {m : Nat} {a n : Int} (h : ¬ n < 0) (he : ¬ rowE m a n = 0) : thereB m a n = false := by
  cases hb : thereB m a n with
  | false => rfl
  | true =>
    exfalso
    apply he
    simp [thereB] at hb
    exact rowE_ok (by omega) (by omega) (by omega)

/-- a list that a reference hands back: the one that came in, or a new one -/
def RefOut (w : World) (v : Value) (us ws : List Int) (E : Int) (e : Ending) (w' : World) : Prop :=
  ∃ A n c, e = .returned (.tuple #[.slice A n c, .int .i64 E]) ∧ Rw w' (.slice A n c) ws ∧ n = ws.length ∧ Below w.heap.size w w' ∧ (.slice A n c = v ∧ ws = us ∨ w'.ownsRow w.heap.size 22 1 (.slice A n c) n (wds ws))
theorem RefOut.same {w : World} {A : Option Addr} {n c : Nat} {ws : List Int} (E : Int) (h : Rw w (.slice A n c) ws) : RefOut w (.slice A n c) ws ws E (.returned (.tuple #[.slice A n c, .int .i64 E])) w := by
  refine ⟨A, n, c, rfl, h, ?_, Below.refl _ _, .inl ⟨rfl, rfl⟩⟩
  obtain ⟨⟨A', c', e, _⟩, _⟩ := h
  injection e
theorem RefOut.new_ {w w' : World} {v : Value} {A : Option Addr} {n c : Nat} {us ws : List Int} (E : Int) (hn : n = ws.length) (h : w'.ownsRow w.heap.size 22 1 (.slice A n c) n (wds ws)) (hf : AllU ws) (hb : Below w.heap.size w w') :
    RefOut w v us ws E (.returned (.tuple #[.slice A n c, .int .i64 E])) w' := by
  subst hn
  exact ⟨A, _, c, rfl, Rw.of_own h hf, rfl, hb, .inr h⟩
theorem Rw.len_ {w : World} {A : Option Addr} {n c : Nat} {ws : List Int} (h : Rw w (.slice A n c) ws) : n = ws.length := by
  obtain ⟨⟨A', c', e, _⟩, _⟩ := h
  injection e
theorem Rw.cap_ {w : World} {A : Option Addr} {n c : Nat} {ws : List Int} (h : Rw w (.slice A n c) ws) : n ≤ c ∧ c ≤ maxLen := by
  obtain ⟨⟨A', c', e, h1, h2, _⟩, _⟩ := h
  injection e with e1 e2 e3
  subst e2 e3
  exact ⟨h1, h2⟩

set_option maxHeartbeats 800000 in
theorem rfill_any {w : World} {v : Value} {ws : List Int} (i n x : Int) (h : Rw w v ws) (hn : Few ws.length) (hx : U64 x) : Calls Try.prog 41 #[v, .int .i64 i, .int .i64 n, .int .u64 x] w (RefOut w v ws (fillL ws i n x) (rowE ws.length i n)) := by
  obtain ⟨A, c, rfl, h1, h2, hr⟩ := h.reads
  clear hr
  have hm1 : (ws.length : Int) ≤ 1000000 := by unfold Few at hn; omega
  rcases rowE_cases ws.length i n with ⟨e, h0⟩ | ⟨e, h0, hb⟩ | ⟨e, b0, b1, b2, b3⟩
  · have hs := Lib.hid (RefOut.same 1 h)
    rw [fillL_not x (by rw [e]; decide), e]
    clear h hx e hn h2
    go_enter Try.func41, Try.ntmps41
    go_wp2
    go_ret2
    exact hs.out
  · have hs := Lib.hid (RefOut.same 2 h)
    have ht := there_any ws.length i n w (by omega) (by omega)
    rw [there_no h0 (by rw [e]; decide)] at ht
    have HT := Lib.hid ht
    rw [fillL_not x (by rw [e]; decide), e]
    clear h hx e hn h2 ht hb
    go_enter Try.func41, Try.ntmps41
    go_wp2_with (refine HT.out.mono ?_; rintro e w' ⟨rfl, rfl⟩)
    go_ret2
    exact hs.out
  · have ht := there_any ws.length i n w (by omega) (by omega)
    rw [there_yes e] at ht
    have HT := Lib.hid ht
    rw [fillL_ok x e, e]
    obtain ⟨N, rfl⟩ := Int.eq_ofNat_of_zero_le b0
    obtain ⟨I, rfl⟩ := Int.eq_ofNat_of_zero_le b1
    rw [Int.toNat_natCast, Int.toNat_natCast]
    have HH := Lib.hid h
    have HX := Lib.hid hx
    have HN := Lib.hid hn
    clear h hx e ht h2 hn
    go_enter Try.func41, Try.ntmps41
    go_wp2_with (first | (go_at_call 102; refine HT.out.mono ?_; rintro e w' ⟨rfl, rfl⟩) | (at_builtin; refine wpList_clone_words rfl (.tmp 22) (.tmp 23) rfl w rfl A ws.length c rfl ws HH.out HN.out ?_; intro A' c' w1 hown hb))
    clear HT
    have HO : Hid (w1.ownsRow w.heap.size 22 1 (.slice A' ws.length c') ws.length (wds (fillTo ws I x 0))) := by rw [fillTo_zero]; exact hown
    have HB := Lib.hid hb
    clear hown hb
    go_loopw [11] (fun i wr => ∃ k : Nat, k ≤ N ∧ i = .int .i64 (k : Nat) ∧ Hid (wr.ownsRow w.heap.size 22 1 (.slice A' ws.length c') ws.length (wds (fillTo ws I x k))) ∧ Hid (Below w.heap.size w wr)) (fun i _ => N - (intOf i).toNat)
    case atStart => exact ⟨0, by omega, rfl, HO, HB⟩
    case round =>
      obtain ⟨k, hk, rfl, ho, hb⟩ := hrel
      by_cases hlt : k < N
      · obtain ⟨g, cap, e, hg, hg2⟩ := ho.out.form (by omega)
        injection e with e1 e2 e3
        subst e1 e3
        have hc := ho.out.cellAt (I + k) (by omega)
        rw [wds_get _ _ (by rw [fillTo_length]; omega)] at hc
        have hfr := ho.out.frozenAt (I + k)
        have hst := Lib.hid (ho.out.stored (I + k) (.int .u64 x))
        have hg3 := Lib.hid hg
        clear hg hg2
        go_wp2
        go_roundw
        case rel => exact ⟨k + 1, by omega, by go_num, by have := hst.out.1; rw [wds_set] at this; rw [fillTo_succ]; exact this, hb.out.setCell hg3.out _⟩
        case measure => simp [intOf] <;> omega
      · obtain rfl : k = N := by omega
        go_wp2
        go_ret2
        exact RefOut.new_ 0 (by rw [fillTo_length]) ho.out (allU_fillTo HH.out.fit I HX.out _) hb.out

set_option maxHeartbeats 800000 in
theorem rmove_any {w : World} {v : Value} {ws : List Int} (i j n : Int) (h : Rw w v ws) (hn : Few ws.length) : Calls Try.prog 39 #[v, .int .i64 i, .int .i64 j, .int .i64 n] w (RefOut w v ws (moveL ws i j n) (moveE ws.length i j n)) := by
  obtain ⟨A, c, rfl, h1, h2, hr⟩ := h.reads
  clear hr
  have hm1 : (ws.length : Int) ≤ 1000000 := by unfold Few at hn; omega
  rcases rowE_cases ws.length i n with ⟨e, h0⟩ | ⟨e, h0, hb⟩ | ⟨e, b0, b1, b2, b3⟩
  · have hs := Lib.hid (RefOut.same 1 h)
    have hme : moveE ws.length i j n = 1 := by unfold moveE; rw [if_neg (by rw [e]; decide), e]
    rw [moveL_not (by rw [hme]; decide), hme]
    clear h e hn h2 hme
    go_enter Try.func39, Try.ntmps39
    go_wp2
    go_ret2
    exact hs.out
  · have hs := Lib.hid (RefOut.same 2 h)
    have ht := there_any ws.length i n w (by omega) (by omega)
    rw [there_no h0 (by rw [e]; decide)] at ht
    have HT := Lib.hid ht
    have hme : moveE ws.length i j n = 2 := by unfold moveE; rw [if_neg (by rw [e]; decide), e]
    rw [moveL_not (by rw [hme]; decide), hme]
    clear h e hn h2 ht hb hme
    go_enter Try.func39, Try.ntmps39
    go_wp2_with (refine HT.out.mono ?_; rintro e w' ⟨rfl, rfl⟩)
    go_ret2
    exact hs.out
  · have ht := there_any ws.length i n w (by omega) (by omega)
    rw [there_yes e] at ht
    have HT := Lib.hid ht
    have hme : moveE ws.length i j n = rowE ws.length j n := by unfold moveE; rw [if_pos e]
    by_cases e2 : rowE ws.length j n = 0
    · obtain ⟨_, c1, c2, c3⟩ := rowE_zero e2
      have ht2 := there_any ws.length j n w (by omega) (by omega)
      rw [there_yes e2] at ht2
      have HT2 := Lib.hid ht2
      rw [moveL_ok (by rw [hme, e2]), hme, e2]
      obtain ⟨N, rfl⟩ := Int.eq_ofNat_of_zero_le b0
      obtain ⟨I, rfl⟩ := Int.eq_ofNat_of_zero_le b1
      obtain ⟨J, rfl⟩ := Int.eq_ofNat_of_zero_le c1
      rw [Int.toNat_natCast, Int.toNat_natCast, Int.toNat_natCast]
      have HH := Lib.hid h
      have HN := Lib.hid hn
      clear h e ht h2 hn ht2 e2 hme
      go_enter Try.func39, Try.ntmps39
      go_wp2_with fail
      refine HT.out.mono ?_
      rintro e w' ⟨rfl, rfl⟩
      go_wp2_with fail
      refine HT2.out.mono ?_
      rintro e w' ⟨rfl, rfl⟩
      go_wp2_with (at_builtin; refine wpList_clone_words rfl (.tmp 30) (.tmp 31) rfl w rfl A ws.length c rfl ws HH.out HN.out ?_; intro A' c' w1 hown hb)
      clear HT HT2
      have HO : Hid (w1.ownsRow w.heap.size 22 1 (.slice A' ws.length c') ws.length (wds (moveTo ws I J 0))) := by rw [moveTo_zero]; exact hown
      have HB := Lib.hid hb
      clear hown hb
      go_loopw [11] (fun i wr => ∃ k : Nat, k ≤ N ∧ i = .int .i64 (k : Nat) ∧ Hid (wr.ownsRow w.heap.size 22 1 (.slice A' ws.length c') ws.length (wds (moveTo ws I J k))) ∧ Hid (Below w.heap.size w wr)) (fun i _ => N - (intOf i).toNat)
      case atStart => exact ⟨0, by omega, rfl, HO, HB⟩
      case round =>
        obtain ⟨k, hk, rfl, ho, hb⟩ := hrel
        by_cases hlt : k < N
        · obtain ⟨g, cap, e, hg, hg2⟩ := ho.out.form (by omega)
          injection e with e1 e2 e3
          subst e1 e3
          have hc := ho.out.cellAt (I + k) (by omega)
          rw [wds_get _ _ (by rw [moveTo_length]; omega)] at hc
          have hfr := ho.out.frozenAt (I + k)
          have hst := Lib.hid (ho.out.stored (I + k) (.int .u64 (ws.getD (J + k) 0)))
          obtain ⟨⟨A2, c2', e4, _, _, _, h3⟩, _⟩ := HH.out.below hb.out
          simp only [Value.slice.injEq] at e4
          obtain ⟨rfl, _, rfl⟩ := e4
          obtain ⟨b, o, rfl, hl⟩ := h3 (by omega)
          have hl2 := hl (J + k) (by omega)
          have hg3 := Lib.hid hg
          obtain ⟨y, hy⟩ : ∃ y, y = ws.getD (J + k) 0 := ⟨_, rfl⟩
          rw [← hy] at hl2 hst
          have HY := Lib.hid hy
          clear hg hg2 hl h3 hy
          go_wp2
          go_roundw
          case rel => exact ⟨k + 1, by omega, by go_num, by have := hst.out.1; rw [wds_set] at this; rw [moveTo_succ, ← HY.out]; exact this, hb.out.setCell hg3.out _⟩
          case measure => simp [intOf] <;> omega
        · obtain rfl : k = N := by omega
          go_wp2
          go_ret2
          exact RefOut.new_ 0 (by rw [moveTo_length]) ho.out (allU_moveTo HH.out.fit I J _) hb.out
    · have ht2 := there_any ws.length j n w (by omega) (by omega)
      rw [there_no (by omega) e2] at ht2
      have HT2 := Lib.hid ht2
      have e3 : rowE ws.length j n = 2 := by
        rcases rowE_cases ws.length j n with ⟨e, _⟩ | ⟨e, _⟩ | ⟨e, _⟩
        · omega
        · exact e
        · exact absurd e e2
      have hs := Lib.hid (RefOut.same 2 h)
      rw [moveL_not (by rw [hme]; exact e2), hme, e3]
      clear h e hn h2 ht ht2 hme e2 e3
      go_enter Try.func39, Try.ntmps39
      go_wp2_with fail
      refine HT.out.mono ?_
      rintro e w' ⟨rfl, rfl⟩
      go_wp2_with fail
      refine HT2.out.mono ?_
      rintro e w' ⟨rfl, rfl⟩
      go_wp2
      go_ret2
      exact hs.out
def sameB (xs ys : List Int) : Bool := decide (xs = ys)
theorem sameB_refl (xs : List Int) : sameB xs xs = true := by simp [sameB]

theorem take_getD_succ (xs : List Int) (k : Nat) (h : k < xs.length) : xs.take (k + 1) = xs.take k ++ [xs.getD k 0] := by
  rw [List.take_succ_eq_append_getElem h, List.getD_eq_getElem?_getD, List.getElem?_eq_getElem h]; rfl

theorem Rw.at_ {w : World} {A : Option Addr} {n c : Nat} {ws : List Int} (h : Rw w (.slice A n c) ws) (hn : 0 < n) : ∃ b o, A = some ⟨b, o, none⟩ ∧ ∀ k, k < n → w.cell? ⟨b, o + k, none⟩ = some (.int .u64 (ws.getD k 0)) := by
  have := h.len_
  subst this
  obtain ⟨⟨A', c', e, _, _, _, h3⟩, _⟩ := h
  simp only [Value.slice.injEq] at e
  obtain ⟨rfl, _, rfl⟩ := e
  exact h3 hn

set_option maxHeartbeats 800000 in
theorem same_any {w : World} {v u : Value} {xs ys : List Int} (hv : Rw w v xs) (hu : Rw w u ys) : Calls Try.prog 42 #[v, u] w fun e w' => e = .returned (.bool (sameB xs ys)) ∧ ∃ k, w.drewN k = w' := by
  obtain ⟨⟨A, c, rfl, a1, a2, _⟩, _⟩ := id hv
  obtain ⟨⟨B, d, rfl, b1, b2, _⟩, _⟩ := id hu
  unfold maxLen at a2 b2
  by_cases hl : xs.length = ys.length
  · have hb : ((xs.length : Int) != (ys.length : Int)) = false := by simp [hl]
    have hl1 : xs.length ≤ ys.length := by omega
    have hl2 : ys.length ≤ xs.length := by omega
    have HL := Lib.hid hl
    have HV := Lib.hid hv
    have HU := Lib.hid hu
    clear hl hv hu
    go_enter Try.func42, Try.ntmps42
    go_wp2
    go_loopw [5] (fun i wr => ∃ k m : Nat, k ≤ xs.length ∧ i = .int .i64 (k : Nat) ∧ Hid (xs.take k = ys.take k) ∧ wr = w.drewN m) (fun i _ => xs.length - (intOf i).toNat)
    case atStart => exact ⟨0, 0, by omega, rfl, rfl, rfl⟩
    case round =>
      obtain ⟨k, m, hk, rfl, ht, rfl⟩ := hrel
      by_cases hlt : k < xs.length
      · obtain ⟨b, o, rfl, hc⟩ := HV.out.at_ (by omega)
        obtain ⟨b', o', rfl, hc'⟩ := HU.out.at_ (by omega)
        have hx := hc k hlt
        have hy := hc' k (by omega)
        have hi0 : (0 : Int) ≤ (k : Int) := by omega
        have hi1 : (k : Int) < (xs.length : Int) := by omega
        have hi2 : (k : Int) < (ys.length : Int) := by omega
        have tx := take_getD_succ xs k hlt
        have ty := take_getD_succ ys k (by omega)
        obtain ⟨x, ex⟩ : ∃ x, x = xs.getD k 0 := ⟨_, rfl⟩
        obtain ⟨y, ey⟩ : ∃ y, y = ys.getD k 0 := ⟨_, rfl⟩
        rw [← ex] at hx tx
        rw [← ey] at hy ty
        have TX := Lib.hid tx
        have TY := Lib.hid ty
        clear hc hc' ex ey tx ty
        by_cases hxy : x = y
        · have hne : (x != y) = false := by simp [hxy]
          have HXY := Lib.hid hxy
          clear hxy
          go_wp2
          go_quiet (fail)
          go_wp2
          go_roundw
          case rel => exact ⟨k + 1, _, by omega, by go_num, by show xs.take (k + 1) = ys.take (k + 1); rw [TX.out, TY.out, ht.out, HXY.out], rfl⟩
          case measure => simp [intOf] <;> omega
        · have hne : (x != y) = true := by simpa using hxy
          have hf : sameB xs ys = false := by
            unfold sameB
            apply decide_eq_false
            intro e
            subst e
            have := TX.out.symm.trans TY.out
            have := List.append_cancel_left this
            simp at this
            exact hxy this
          have HF := Lib.hid hf
          clear hxy hf
          go_wp2
          go_quiet (fail)
          go_wp2
          go_ret
          exact ⟨by rw [HF.out]; rfl, _, by rw [World.drewN_drewN]⟩
      · obtain rfl : k = xs.length := by omega
        have hf : sameB xs ys = true := by
          unfold sameB
          apply decide_eq_true
          have := ht.out
          rwa [List.take_length, List.take_of_length_le (by omega)] at this
        have HF := Lib.hid hf
        clear hf
        go_wp2
        go_ret
        exact ⟨by rw [HF.out]; rfl, _, rfl⟩
  · have hb : ((xs.length : Int) != (ys.length : Int)) = true := by simp; omega
    have hf : sameB xs ys = false := by
      unfold sameB
      apply decide_eq_false
      intro e; exact hl (by rw [e])
    rw [hf]
    clear hl hv hu hf
    go_enter Try.func42, Try.ntmps42
    go_wp2
    go_ret
    exact ⟨rfl, 0, rfl⟩
end Go.Proofs.Ytcljgphipdbckaa
