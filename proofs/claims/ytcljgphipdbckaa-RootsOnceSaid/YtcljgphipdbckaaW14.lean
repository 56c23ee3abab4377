/- The walks of layer 14 (roots): one slot, clone, find. -/
import Derived.Test.YtcljgphipdbckaaM14
import Derived.Test.YtcljgphipdbckaaW06
import Derived.Test.YtcljgphipdbckaaW02c
namespace Go.Proofs.Ytcljgphipdbckaa
set_option linter.unusedVariables false
set_option linter.unusedSimpArgs false
open Go.RowKit

def goodN (g : Int) : Bool := decide (0 ≤ g) && decide (g < 1099511627776)

set_option maxHeartbeats 800000 in
theorem good_any (u : Bool) (g x : Int) (W : World) : Calls Try.prog 115 #[.agg #[.bool u, .int .i64 g, .int .u64 x]] W (Out W (.bool (goodN g))) := by
  have alc := fun cs => Lib.hid ((Below.refl W.heap.size W).alloc (Nat.le_refl _) (.cells cs 89))
  have hy : Hid (∀ r, r = goodN g → Calls Try.prog 115 #[.agg #[.bool u, .int .i64 g, .int .u64 x]] W (Out W (.bool r)) → Calls Try.prog 115 #[.agg #[.bool u, .int .i64 g, .int .u64 x]] W (Out W (.bool (goodN g)))) := fun r e h => e ▸ h
  by_cases b0 : 0 ≤ g
  · by_cases b1 : g < 1099511627776
    · refine hy.out true (by unfold goodN; simp <;> omega) ?_
      clear hy
      go_enter Try.func115, Try.ntmps115
      go_wp2
      go_ret
      exact ⟨rfl, (alc _).out⟩
    · refine hy.out false (by unfold goodN; simp <;> omega) ?_
      clear hy
      go_enter Try.func115, Try.ntmps115
      go_wp2
      go_ret
      exact ⟨rfl, (alc _).out⟩
  · · refine hy.out false (by unfold goodN; simp <;> omega) ?_
      clear hy
      go_enter Try.func115, Try.ntmps115
      go_wp2
      go_ret
      exact ⟨rfl, (alc _).out⟩

set_option maxHeartbeats 800000 in
theorem rgood_any (u : Bool) (g x : Int) (W : World) : Calls Try.prog 116 #[.agg #[.bool u, .int .i64 g, .int .u64 x]] W (Out W (.bool (goodN g))) := by
  have alc := fun cs => Lib.hid ((Below.refl W.heap.size W).alloc (Nat.le_refl _) (.cells cs 89))
  have hy : Hid (∀ r, r = goodN g → Calls Try.prog 116 #[.agg #[.bool u, .int .i64 g, .int .u64 x]] W (Out W (.bool r)) → Calls Try.prog 116 #[.agg #[.bool u, .int .i64 g, .int .u64 x]] W (Out W (.bool (goodN g)))) := fun r e h => e ▸ h
  by_cases b0 : 0 ≤ g
  · by_cases b1 : g < 1099511627776
    · refine hy.out true (by unfold goodN; simp <;> omega) ?_
      clear hy
      go_enter Try.func116, Try.ntmps116
      go_wp2
      go_ret
      exact ⟨rfl, (alc _).out⟩
    · refine hy.out false (by unfold goodN; simp <;> omega) ?_
      clear hy
      go_enter Try.func116, Try.ntmps116
      go_wp2
      go_ret
      exact ⟨rfl, (alc _).out⟩
  · · refine hy.out false (by unfold goodN; simp <;> omega) ?_
      clear hy
      go_enter Try.func116, Try.ntmps116
      go_wp2
      go_ret
      exact ⟨rfl, (alc _).out⟩

theorem slot_info : (Try.prog.info? 89).map (fun i => (i.zero, i.size, i.bytes)) = some (some (.agg #[.bool false, .int .i64 0, .int .u64 0]), 3, 24) := by kernel_rfl

/-- a slice of slots that a call made -/
def FreshS (w : World) (ss : List Slot) (e : Ending) (w' : World) : Prop := ∃ A c, e = .returned (.slice A ss.length c) ∧ w'.ownsRow w.heap.size 89 3 (.slice A ss.length c) ss.length (sls ss) ∧ Below w.heap.size w w'
theorem own_slice3 {w : World} {B t n : Nat} {v : Value} {xs : List Value} (h : w.ownsRow B t 3 v n xs) : ∃ A c, v = .slice A n c := by
  rcases h.2 with ⟨rfl, rfl⟩ | ⟨g, cap, cur, rfl, _⟩
  · exact ⟨none, 0, rfl⟩
  · exact ⟨_, cap, rfl⟩
theorem FreshS.mk {w w' : World} {ss : List Slot} {v : Value} (h : w'.ownsRow w.heap.size 89 3 v ss.length (sls ss)) (hb : Below w.heap.size w w') : FreshS w ss (.returned v) w' := by
  obtain ⟨A, c, rfl⟩ := own_slice3 h
  exact ⟨A, c, rfl, h, hb⟩
theorem Few.bytes24 {n : Nat} (h : Few n) : (0 + n) * 24 ≤ 140737488355328 := by unfold Few at h; omega

set_option maxHeartbeats 400000 in
theorem cloneS_any {w : World} {v : Value} {ss : List Slot} (h : Sw w v ss) (hn : Few ss.length) : Calls Try.prog 111 #[v] w (FreshS w ss) := by
  obtain ⟨A, c, rfl, h1, h2, hr⟩ := h.reads
  obtain ⟨i0, hi, hz0, hz1, hz2⟩ := info_parts slot_info
  rcases A with _ | a
  · obtain ⟨h0, hc⟩ := h.nil_
    subst h0 hc
    have heq := fun w => Lib.run_eql_slice_nil (P := Try.prog) w 73 89 none 0 0 0 0 Try.underlying73
    clear h hr
    go_enter Try.func111, Try.ntmps111
    go_wp2
    go_ret
    exact FreshS.mk (World.ownsRow_nil _ _ _ _) (Below.refl _ _)
  · have heq := fun w => Lib.run_eql_slice_nil (P := Try.prog) w 73 89 (some a) ss.length c 0 0 Try.underlying73
    have h1c := sls_one ss
    have HR := Lib.hid hr
    have H1 := Lib.hid h1c
    have hm := Lib.hid hn.max
    have hb := Lib.hid hn.bytes24
    have hz : Hid (0 ≤ maxLen) := Nat.zero_le _
    have hs : Hid (w.heap.size ≤ (w.alloc (.cells #[] 89)).heap.size) := by simp [Hid]
    clear h hr h1c h1 h2 hn
    go_enter Try.func111, Try.ntmps111
    go_wp2_with ((at_builtin; refine wpList_append_any _ rfl (.tmp 5) (.tmp 6) _ rfl w.heap.size 89 i0 _ 3 24 Try.underlying73 hi hz0 hz1 hz2 rfl (by omega) (.slice (some ⟨w.heap.size, 0, none⟩) 0 0) 0 [] rfl (World.ownsRow_made w #[] 0 (Nat.le_refl _) hz.out rfl) w.heap.size (some a) ss.length c (sls ss) rfl (HR.out.alloc (Nat.le_refl _) _) H1.out hm.out hb.out hs.out ?_; intro v1 w1 hown1 hg1 hat1))
    go_ret
    refine FreshS.mk (v := v1) ?_ ?_
    · have := hown1
      rw [Nat.zero_add, List.nil_append] at this
      exact this
    · exact ((Below.refl _ _).alloc (Nat.le_refl _) _).grown hg1 hs.out (fun k hk => by simp [Value.ownBlock] at hk; omega)
end Go.Proofs.Ytcljgphipdbckaa
