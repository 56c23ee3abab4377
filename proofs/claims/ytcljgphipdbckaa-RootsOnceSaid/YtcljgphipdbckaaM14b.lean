/- Memory: tables of the call's own; what is handed back. -/
import Derived.Test.YtcljgphipdbckaaW14d
namespace Go.Proofs.Ytcljgphipdbckaa
set_option linter.unusedVariables false
set_option linter.unusedSimpArgs false
open Go.RowKit

theorem own_slot {w : World} {B g n c : Nat} {ss : List Slot} (h : w.ownsRow B 89 3 (.slice (some ⟨g, 0, none⟩) n c) n (sls ss)) {K : Nat} (hK : K < ss.length) :
    (w.cell? ⟨g, K * 3, none⟩ = some (.bool (slot ss K).used) ∧ w.cell? ⟨g, K * 3 + 1, none⟩ = some (.int .i64 (slot ss K).gen) ∧ w.cell? ⟨g, K * 3 + 2, none⟩ = some (.int .u64 (slot ss K).word)) ∧
    (w.frozen? ⟨g, K * 3, none⟩ = false ∧ w.frozen? ⟨g, K * 3 + 1, none⟩ = false ∧ w.frozen? ⟨g, K * 3 + 2, none⟩ = false) ∧ B ≤ g ∧ g < w.heap.size := by
  have hl := h.1
  rw [sls_length] at hl
  have hn : n = ss.length := by omega
  have q := sls_get ss K hK
  obtain ⟨g', cap, e, h1, h2⟩ := h.form (by omega)
  injection e with e1 e2 e3
  injection e1 with e1
  injection e1 with e1
  subst e1 e3
  refine ⟨⟨?_, ?_, ?_⟩, ⟨h.frozenAt _, h.frozenAt _, h.frozenAt _⟩, h1, h2⟩
  · rw [h.cellAt _ (by omega)]; exact q.1
  · rw [h.cellAt _ (by omega)]; exact q.2.1
  · rw [h.cellAt _ (by omega)]; exact q.2.2

theorem own_set0 {w : World} {B g n c : Nat} {ss : List Slot} (h : w.ownsRow B 89 3 (.slice (some ⟨g, 0, none⟩) n c) n (sls ss)) {K : Nat} (hK : K < ss.length) (x : Bool) :
    (w.setCell ⟨g, K * 3, none⟩ (.bool x)).ownsRow B 89 3 (.slice (some ⟨g, 0, none⟩) n c) n (sls (ss.set K { slot ss K with used := x })) := by
  have := (h.stored (K * 3) (.bool x)).1
  rwa [(sls_set ss K hK).1] at this
theorem own_set1 {w : World} {B g n c : Nat} {ss : List Slot} (h : w.ownsRow B 89 3 (.slice (some ⟨g, 0, none⟩) n c) n (sls ss)) {K : Nat} (hK : K < ss.length) (x : Int) :
    (w.setCell ⟨g, K * 3 + 1, none⟩ (.int .i64 x)).ownsRow B 89 3 (.slice (some ⟨g, 0, none⟩) n c) n (sls (ss.set K { slot ss K with gen := x })) := by
  have := (h.stored (K * 3 + 1) (.int .i64 x)).1
  rwa [(sls_set ss K hK).2.1] at this
theorem own_set2 {w : World} {B g n c : Nat} {ss : List Slot} (h : w.ownsRow B 89 3 (.slice (some ⟨g, 0, none⟩) n c) n (sls ss)) {K : Nat} (hK : K < ss.length) (x : Int) :
    (w.setCell ⟨g, K * 3 + 2, none⟩ (.int .u64 x)).ownsRow B 89 3 (.slice (some ⟨g, 0, none⟩) n c) n (sls (ss.set K { slot ss K with word := x })) := by
  have := (h.stored (K * 3 + 2) (.int .u64 x)).1
  rwa [(sls_set ss K hK).2.2] at this
theorem slot_set_same {ss : List Slot} {K : Nat} (hK : K < ss.length) (s : Slot) : slot (ss.set K s) K = s := by
  rw [slot_set ss K K s hK, if_pos rfl]
/-- all three cells of a slot -/
theorem own_set3 {w : World} {B g n c : Nat} {ss : List Slot} (h : w.ownsRow B 89 3 (.slice (some ⟨g, 0, none⟩) n c) n (sls ss)) {K : Nat} (hK : K < ss.length) (u : Bool) (y x : Int) :
    (((w.setCell ⟨g, K * 3, none⟩ (.bool u)).setCell ⟨g, K * 3 + 1, none⟩ (.int .i64 y)).setCell ⟨g, K * 3 + 2, none⟩ (.int .u64 x)).ownsRow B 89 3 (.slice (some ⟨g, 0, none⟩) n c) n (sls (ss.set K ⟨u, y, x⟩)) := by
  have h1 := own_set0 h hK u
  have h2 := own_set1 h1 (K := K) (by rw [set_len]; exact hK) y
  rw [slot_set_same hK, List.set_set] at h2
  have h3 := own_set2 h2 (K := K) (by rw [set_len]; exact hK) x
  rw [slot_set_same hK, List.set_set] at h3
  exact h3

/-- 'append([]api.Slot{}, l...)' -/
theorem wpList_clone_slots {ops : Array Oper} {rest : List Oper} {o : Oper} {a : Act} {Q : Exit → Act → World → Prop} (hgd : o.guard = none) (s x : Operand)
    (ho : o.op = .call { callee := .builtin .append, args := #[s, x], argTypes := #[73, 73] }) (W : World) (hs : a.eval s = .slice (some ⟨W.heap.size, 0, none⟩) 0 0)
    (A : Option Addr) (n c : Nat) (hx : a.eval x = .slice A n c) (ss : List Slot) (hr : Sw W (.slice A n c) ss) (hn : Few ss.length)
    (h : ∀ A' c' w', w'.ownsRow W.heap.size 89 3 (.slice A' n c') n (sls ss) → Below W.heap.size W w' → wpList Try.prog ops Q rest (a.put o.dst (.slice A' n c')) w') :
    wpList Try.prog ops Q (o :: rest) a (W.alloc (.cells #[] 89)) := by
  obtain ⟨i0, hi, hz0, hz1, hz2⟩ := info_parts slot_info
  obtain ⟨A0, c0, e, h1, h2, hR⟩ := hr.reads
  injection e with e1 e2 e3
  subst e1 e2 e3
  refine wpList_append_any _ hgd s x _ ho W.heap.size 89 i0 _ 3 24 Try.underlying73 hi hz0 hz1 hz2 rfl (by omega) (.slice (some ⟨W.heap.size, 0, none⟩) 0 0) 0 [] hs
    (World.ownsRow_made W #[] 0 (Nat.le_refl _) (Nat.zero_le _) rfl) W.heap.size A ss.length c (sls ss) hx (hR.alloc (Nat.le_refl _) _) (sls_one ss) hn.max hn.bytes24 (by simp) ?_
  intro v' w' hown hgr hat
  rw [Nat.zero_add, List.nil_append] at hown
  obtain ⟨A', c', rfl⟩ := own_slice3 hown
  exact h A' c' w' hown (((Below.refl _ _).alloc (Nat.le_refl _) _).grown hgr (by simp) (fun k hk => by simp [Value.ownBlock] at hk; omega))

/-- a table and an error -/
def TabOut (w : World) (ts : List Slot) (E : Int) (e : Ending) (w' : World) : Prop :=
  ∃ A c, e = .returned (.tuple #[.slice A ts.length c, .int .i64 E]) ∧ Sw w' (.slice A ts.length c) ts ∧ Below w.heap.size w w'
def TabOut3 (w : World) (ts : List Slot) (H E : Int) (e : Ending) (w' : World) : Prop :=
  ∃ A c, e = .returned (.tuple #[.slice A ts.length c, .int .i64 H, .int .i64 E]) ∧ Sw w' (.slice A ts.length c) ts ∧ Below w.heap.size w w'
/-- a new table and an error -/
def TabNew (w : World) (ts : List Slot) (E : Int) (e : Ending) (w' : World) : Prop :=
  ∃ A c, e = .returned (.tuple #[.slice A ts.length c, .int .i64 E]) ∧ w'.ownsRow w.heap.size 89 3 (.slice A ts.length c) ts.length (sls ts) ∧ FitS ts ∧ Below w.heap.size w w'
def TabNew3 (w : World) (ts : List Slot) (H E : Int) (e : Ending) (w' : World) : Prop :=
  ∃ A c, e = .returned (.tuple #[.slice A ts.length c, .int .i64 H, .int .i64 E]) ∧ w'.ownsRow w.heap.size 89 3 (.slice A ts.length c) ts.length (sls ts) ∧ FitS ts ∧ Below w.heap.size w w'
section
variable {w w' : World} {ts ss : List Slot} {E H : Int}
theorem TabOut.same {A : Option Addr} {c : Nat} (h : Sw w (.slice A ts.length c) ts) (hb : Below w.heap.size w w') : TabOut w ts E (.returned (.tuple #[.slice A ts.length c, .int .i64 E])) w' := ⟨A, c, rfl, h.below hb, hb⟩
theorem TabOut3.same {A : Option Addr} {c : Nat} (h : Sw w (.slice A ts.length c) ts) (hb : Below w.heap.size w w') : TabOut3 w ts H E (.returned (.tuple #[.slice A ts.length c, .int .i64 H, .int .i64 E])) w' := ⟨A, c, rfl, h.below hb, hb⟩
theorem TabOut.own {A : Option Addr} {n c B : Nat} (hn : n = ts.length) (h : w'.ownsRow B 89 3 (.slice A n c) n (sls ts)) (hf : FitS ts) (hb : Below w.heap.size w w') : TabOut w ts E (.returned (.tuple #[.slice A n c, .int .i64 E])) w' := by
  subst hn; exact ⟨A, c, rfl, Sw.of_own h hf, hb⟩
theorem TabOut3.own {A : Option Addr} {n c B : Nat} (hn : n = ts.length) (h : w'.ownsRow B 89 3 (.slice A n c) n (sls ts)) (hf : FitS ts) (hb : Below w.heap.size w w') : TabOut3 w ts H E (.returned (.tuple #[.slice A n c, .int .i64 H, .int .i64 E])) w' := by
  subst hn; exact ⟨A, c, rfl, Sw.of_own h hf, hb⟩
theorem TabNew.own {A : Option Addr} {n c : Nat} (hn : n = ts.length) (h : w'.ownsRow w.heap.size 89 3 (.slice A n c) n (sls ts)) (hf : FitS ts) (hb : Below w.heap.size w w') : TabNew w ts E (.returned (.tuple #[.slice A n c, .int .i64 E])) w' := by
  subst hn; exact ⟨A, c, rfl, h, hf, hb⟩
theorem TabNew3.own {A : Option Addr} {n c : Nat} (hn : n = ts.length) (h : w'.ownsRow w.heap.size 89 3 (.slice A n c) n (sls ts)) (hf : FitS ts) (hb : Below w.heap.size w w') : TabNew3 w ts H E (.returned (.tuple #[.slice A n c, .int .i64 H, .int .i64 E])) w' := by
  subst hn; exact ⟨A, c, rfl, h, hf, hb⟩
end
theorem FitS.setL {ss : List Slot} (h : FitS ss) (k x : Int) (hx : U64 x) : FitS (setL ss k x) := by
  unfold Go.Proofs.Ytcljgphipdbckaa.setL; split
  · exact h.set _ ⟨(h.at_ _).1, hx⟩
  · exact h
theorem FitS.dropL {ss : List Slot} (h : FitS ss) (k : Int) : FitS (dropL ss k) := by
  unfold Go.Proofs.Ytcljgphipdbckaa.dropL; split
  · rename_i hf
    obtain ⟨K, k1, k2, k3, k4⟩ := (fnd_iff _ _).1 hf
    have e : (fndI ss k).toNat = K := by rw [(fnd_yes hf).1]; omega
    have := (goodN_iff _).1 ((hit_iff _ _ _).1 k4).2.1
    rw [e]
    exact h.set _ ⟨⟨by show _ ≤ (slot ss K).gen + 1; omega, by show (slot ss K).gen + 1 ≤ _; omega⟩, by show (0:Int) ≤ 0; omega, by show (0:Int) < _; omega⟩
  · exact h
theorem FitS.putL {ss : List Slot} (h : FitS ss) (x : Int) (hx : U64 x) : FitS (putL ss x) := by
  unfold Go.Proofs.Ytcljgphipdbckaa.putL; split
  · exact h
  · exact h.set _ ⟨(h.at_ _).1, hx⟩
end Go.Proofs.Ytcljgphipdbckaa
