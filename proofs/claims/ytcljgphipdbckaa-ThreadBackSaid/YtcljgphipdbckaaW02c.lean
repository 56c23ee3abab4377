/- The walks of layer 2 (arena), third part: Clone, Words, Of, New, and the reference. -/
import Derived.Test.YtcljgphipdbckaaW02b
namespace Go.Proofs.Ytcljgphipdbckaa
open Go.RowKit

theorem u64_info : (Try.prog.info? 22).map (fun i => (i.zero, i.size, i.bytes)) = some (some (.int .u64 0), 1, 8) := by kernel_rfl

/-- so few that no append of words is too great -/
def Few (n : Nat) : Prop := n ≤ 1000000
theorem Few.max {n : Nat} (h : Few n) : 0 + n ≤ maxLen := by unfold Few at h; simp only [maxLen]; omega
theorem Few.bytes {n : Nat} (h : Few n) : (0 + n) * 8 ≤ 140737488355328 := by unfold Few at h; omega

/-- a slice of words that a call made -/
def Fresh (w : World) (ws : List Int) (e : Ending) (w' : World) : Prop := ∃ A c, e = .returned (.slice A ws.length c) ∧ w'.ownsRow w.heap.size 22 1 (.slice A ws.length c) ws.length (wds ws) ∧ Below w.heap.size w w'
theorem own_slice {w : World} {B t n : Nat} {v : Value} {xs : List Value} (h : w.ownsRow B t 1 v n xs) : ∃ A c, v = .slice A n c := by
  rcases h.2 with ⟨rfl, rfl⟩ | ⟨g, cap, cur, rfl, _⟩
  · exact ⟨none, 0, rfl⟩
  · exact ⟨_, cap, rfl⟩
theorem Fresh.mk {w w' : World} {ws : List Int} {v : Value} (h : w'.ownsRow w.heap.size 22 1 v ws.length (wds ws)) (hb : Below w.heap.size w w') : Fresh w ws (.returned v) w' := by
  obtain ⟨A, c, rfl⟩ := own_slice h
  exact ⟨A, c, rfl, h, hb⟩

set_option maxHeartbeats 400000 in
theorem clone_any {w : World} {v : Value} {ws : List Int} (h : Rw w v ws) (hn : Few ws.length) : Calls Try.prog 99 #[v] w (Fresh w ws) := by
  obtain ⟨A, c, rfl, h1, h2, hr⟩ := h.reads
  obtain ⟨i0, hi, hz0, hz1, hz2⟩ := info_parts u64_info
  rcases A with _ | a
  · obtain ⟨h0, hc⟩ := h.nil_
    subst h0 hc
    have heq := fun w => Lib.run_eql_slice_nil (P := Try.prog) w 35 22 none 0 0 0 0 Try.underlying35
    clear h hr
    go_enter Try.func99, Try.ntmps99
    go_wp2
    go_ret
    exact Fresh.mk (World.ownsRow_nil _ _ _ _) (Below.refl _ _)
  · have heq := fun w => Lib.run_eql_slice_nil (P := Try.prog) w 35 22 (some a) ws.length c 0 0 Try.underlying35
    have h1c := wds_one ws
    have HR := Lib.hid hr
    have H1 := Lib.hid h1c
    have hm := Lib.hid hn.max
    have hb := Lib.hid hn.bytes
    have hz : Hid (0 ≤ maxLen) := Nat.zero_le _
    have hs : Hid (w.heap.size ≤ (w.alloc (.cells #[] 22)).heap.size) := by simp [Hid]
    clear h hr h1c h1 h2 hn
    go_enter Try.func99, Try.ntmps99
    go_wp2_with ((at_builtin; refine wpList_append_any _ rfl (.tmp 5) (.tmp 6) _ rfl w.heap.size 22 i0 _ 1 8 Try.underlying35 hi hz0 hz1 hz2 rfl (by omega) (.slice (some ⟨w.heap.size, 0, none⟩) 0 0) 0 [] rfl (World.ownsRow_made w #[] 0 (Nat.le_refl _) hz.out rfl) w.heap.size (some a) ws.length c (wds ws) rfl (HR.out.alloc (Nat.le_refl _) _) H1.out hm.out hb.out hs.out ?_; intro v1 w1 hown1 hg1 hat1))
    go_ret
    refine Fresh.mk (v := v1) ?_ ?_
    · have := hown1
      rw [Nat.zero_add, List.nil_append] at this
      exact this
    · exact ((Below.refl _ _).alloc (Nat.le_refl _) _).grown hg1 hs.out (fun k hk => by simp [Value.ownBlock] at hk; omega)

set_option maxHeartbeats 400000 in
theorem words_none (v : Value) (w : World) (h : NoAr w v) : Calls Try.prog 43 #[v] w fun e w' => e = .returned (.slice none 0 0) ∧ w = w' := by
  have H := Lib.hid (dead_none v w h)
  clear h
  go_enter Try.func43, Try.ntmps43
  go_wp2_with (refine H.out.mono ?_; rintro e w' ⟨rfl, rfl⟩)
  go_ret
  exact ⟨rfl, rfl⟩

set_option maxHeartbeats 400000 in
theorem words_ar {w : World} {B p : Nat} {v : Value} {ws : List Int} (h : Ar w B p v ws) (hn : Few ws.length) : Calls Try.prog 43 #[.pointer (some ⟨p, 0, none⟩)] w (Fresh w ws) := by
  have H := Lib.hid (dead_ar h)
  have H2 := Lib.hid (clone_any h.rw hn)
  have h1 := h.cell1
  clear h
  go_enter Try.func43, Try.ntmps43
  go_wp2_with (first | (go_at_call 103; refine H.out.mono ?_; rintro e w' ⟨rfl, rfl⟩) | (go_at_call 99; refine H2.out.mono ?_; rintro e w' ⟨A', c', rfl, hown, hb⟩))
  go_ret
  exact ⟨A', c', rfl, hown, hb⟩

/-- an arena that a call made -/
def MadeAr (w : World) (ws : List Int) (e : Ending) (w' : World) : Prop := ∃ p v, e = .returned (.tuple #[.pointer (some ⟨p, 0, none⟩), .int .i64 0]) ∧ Ar w' w.heap.size p v ws ∧ Below w.heap.size w w'

theorem Ar.boxed {w w1 : World} {v : Value} {ws : List Int} (hb : Below w.heap.size w w1) (hown : w1.ownsRow w.heap.size 22 1 v ws.length (wds ws)) (hf : AllU ws) :
    Ar (w1.alloc (.cells #[.bool true, v] 56)) w.heap.size w1.heap.size v ws ∧ Below w.heap.size w (w1.alloc (.cells #[.bool true, v] 56)) :=
  ⟨⟨hb.size, Blk.new _ _ _, hown.alloc _, hf⟩, hb.alloc hb.size _⟩

set_option maxHeartbeats 400000 in
theorem of_any {w : World} {v : Value} {ws : List Int} (h : Rw w v ws) (hn : ws.length ≤ 98304) : Calls Try.prog 35 #[v] w (MadeAr w ws) := by
  have H := Lib.hid (clone_any h (show ws.length ≤ 1000000 by omega))
  have hf := Lib.hid h.fit
  obtain ⟨A, c, rfl, h1, h2, hr⟩ := h.reads
  have hn2 : (ws.length : Int) ≤ 98304 := by omega
  clear hr h h1 h2 hn
  go_enter Try.func35, Try.ntmps35
  go_wp2_with fail
  refine H.out.mono ?_
  rintro e w1 ⟨A', c', rfl, hown, hb⟩
  have HB := Lib.hid (Ar.boxed hb hown hf.out)
  clear hown hb
  go_wp2
  go_ret2
  exact ⟨_, _, rfl, HB.out.1, HB.out.2⟩

/-- n words 0 -/
def zeros (n : Nat) : List Int := List.replicate n 0
theorem zeros_length (n : Nat) : (zeros n).length = n := by simp [zeros]
theorem zeros_fit (n : Nat) : AllU (zeros n) := by
  intro x hx
  rw [List.eq_of_mem_replicate hx]
  exact ⟨by decide, by decide⟩
theorem made_zeros (n : Nat) : (madeCells #[Value.int .u64 0] n).toList = wds (zeros n) := by
  apply List.ext_getElem?
  intro i
  by_cases h : i < n
  · simp [madeCells, wds, zeros, h, Nat.mod_one]
  · rw [List.getElem?_eq_none (by simp [madeCells]; omega), List.getElem?_eq_none (by rw [wds_length, zeros_length]; omega)]
attribute [irreducible] zeros

theorem run_make_words (n : Nat) (hn : n ≤ 1000000) (w : World) :
    (Instr.makeSlice 35 (.int .i64 (n : Int)) (.int .i64 (n : Int))).run Try.prog w = .ok (.slice (some ⟨w.heap.size, 0, none⟩) n n) (w.alloc (.cells (madeCells #[.int .u64 0] n) 22)) := by
  obtain ⟨i0, hi, hz0, hz1, hz2⟩ := info_parts u64_info
  have hr := run_make (P := Try.prog) w 35 22 i0 _ Try.underlying35 hi hz0 .i64 .i64 n n (by omega) (by omega) (by rw [hz2]; omega) (by omega)
  simp only [Int.toNat_natCast, hz1, Nat.mul_one] at hr
  exact hr

set_option maxHeartbeats 400000 in
theorem new_bad (n : Int) (w : World) (h : n < 0 ∨ 98304 < n) : Calls Try.prog 45 #[.int .i64 n] w fun e w' => e = .returned (.tuple #[.pointer none, .int .i64 1]) ∧ w = w' := by
  rcases h with h | h
  · go_enter Try.func45, Try.ntmps45
    go_wp2
    go_ret2
    exact ⟨rfl, rfl⟩
  · have h' : ¬ n < 0 := by omega
    go_enter Try.func45, Try.ntmps45
    go_wp2
    go_ret2
    exact ⟨rfl, rfl⟩

set_option maxHeartbeats 400000 in
theorem new_any (n : Nat) (w : World) (h : n ≤ 98304) : Calls Try.prog 45 #[.int .i64 (n : Nat)] w (MadeAr w (zeros n)) := by
  have hmk := fun w => run_make_words n (by omega) w
  have hn2 : (n : Int) ≤ 98304 := by omega
  have hown : (w.alloc (.cells (madeCells #[.int .u64 0] n) 22)).ownsRow w.heap.size 22 1 (.slice (some ⟨w.heap.size, 0, none⟩) n n) n (wds (zeros n)) := by
    rw [← made_zeros]
    exact World.ownsRow_lit w _ n (Nat.le_refl _) (by simp only [maxLen]; omega) (by rw [size_madeCells, Nat.mul_one])
  have hbx := Ar.boxed (ws := zeros n) ((Below.refl w.heap.size w).alloc (Nat.le_refl _) _) (by rw [zeros_length]; exact hown) (zeros_fit n)
  rw [show (w.alloc (.cells (madeCells #[.int .u64 0] n) 22)).heap.size = w.heap.size + 1 by simp] at hbx
  have HB := Lib.hid hbx
  clear hown h hbx
  go_enter Try.func45, Try.ntmps45
  go_wp2
  go_ret2
  exact ⟨_, _, rfl, HB.out.1, HB.out.2⟩
end Go.Proofs.Ytcljgphipdbckaa
