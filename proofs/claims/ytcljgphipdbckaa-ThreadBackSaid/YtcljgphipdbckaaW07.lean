/- The walks of layer 7 (head) and of its reference. -/
import Derived.Test.YtcljgphipdbckaaW06
import Derived.Test.YtcljgphipdbckaaW01
import Derived.Test.YtcljgphipdbckaaM02
namespace Go.Proofs.Ytcljgphipdbckaa
set_option linter.unusedVariables false
set_option linter.unusedSimpArgs false
open Go.RowKit

/-- a header as a value -/
def Hd.cells (h : Hd) : Array Value := #[.int .i64 h.kind, .int .i64 h.fields, .int .i64 h.raws, .bool h.mark, .int .i64 h.cursor]

theorem mk_true : mk true = 1 := rfl
theorem mk_false : mk false = 0 := rfl

set_option maxRecDepth 100000 in
set_option maxHeartbeats 1600000 in
theorem numbers_any (k f r : Int) (m : Bool) (c : Int) (W : World) : Calls Try.prog 104 #[.agg #[.int .i64 k, .int .i64 f, .int .i64 r, .bool m, .int .i64 c]] W (Out W (.agg #[.int .i64 (mk m), .int .i64 k, .int .i64 f, .int .i64 r, .int .i64 c])) := by
  have alc : ∀ o o', Hid (Below W.heap.size W ((W.alloc o).alloc o')) := fun o o' => ((Below.refl W.heap.size W).alloc (Nat.le_refl _) o).alloc (by simp) o'
  cases m with
  | true =>
    rw [mk_true]
    go_enter Try.func104, Try.ntmps104
    go_wp2
    exact bodyPost_ret (v := .agg #[.int .i64 1, .int .i64 k, .int .i64 f, .int .i64 r, .int .i64 c]) (by simp [results, Try.results104, go_sem]) rfl ⟨rfl, (alc _ _).out⟩
  | false =>
    rw [mk_false]
    go_enter Try.func104, Try.ntmps104
    go_wp2
    exact bodyPost_ret (v := .agg #[.int .i64 0, .int .i64 k, .int .i64 f, .int .i64 r, .int .i64 c]) (by simp [results, Try.results104, go_sem]) rfl ⟨rfl, (alc _ _).out⟩

set_option maxRecDepth 100000 in
set_option maxHeartbeats 1600000 in
theorem parts_any (W : World) : Calls Try.prog 105 #[] W (Out W (.agg #[.int .i64 2, .int .i64 1, .int .i64 1, .int .i64 3, .int .i64 5, .int .i64 31, .int .i64 8, .int .i64 16, .int .i64 4096, .int .i64 24, .int .i64 16, .int .i64 4096, .int .i64 40, .int .i64 24, .int .i64 1048576])) := by
  have alc : ∀ o, Hid (Below W.heap.size W (W.alloc o)) := fun o => (Below.refl W.heap.size W).alloc (Nat.le_refl _) o
  go_enter Try.func105, Try.ntmps105
  go_wp2
  exact bodyPost_ret (v := .agg #[.int .i64 2, .int .i64 1, .int .i64 1, .int .i64 3, .int .i64 5, .int .i64 31, .int .i64 8, .int .i64 16, .int .i64 4096, .int .i64 24, .int .i64 16, .int .i64 4096, .int .i64 40, .int .i64 24, .int .i64 1048576]) (by simp [results, Try.results105, go_sem]) rfl ⟨rfl, (alc _).out⟩

/-! ### the loop over the parts -/
def pat (k : Nat) : Nat := [2, 3, 8, 24, 40].getD k 0
def pn (k : Nat) : Nat := [1, 5, 16, 16, 24].getD k 0
def pm (k : Nat) : Nat := [1, 31, 4096, 4096, 1048576].getD k 0
def nm (h : Hd) (k : Nat) : Int := [mk h.mark, h.kind, h.fields, h.raws, h.cursor].getD k 0
/-- the word behind k parts -/
def accN (h : Hd) : Nat → Nat
  | 0 => 3
  | k + 1 => accN h k + (nm h k).toNat * 2 ^ pat k
def okTo (h : Hd) (k : Nat) : Prop := ∀ j, j < k → 0 ≤ nm h j ∧ nm h j ≤ pm j
theorem five {k : Nat} (h : k < 5) : k = 0 ∨ k = 1 ∨ k = 2 ∨ k = 3 ∨ k = 4 := by omega
theorem pat_bd {k : Nat} (h : k < 5) : pat k + pn k ≤ 64 ∧ 1 ≤ pn k ∧ pm k < 2 ^ pn k ∧ pm k ≤ 1048576 ∧ pat k < 64 := by
  rcases five h with rfl | rfl | rfl | rfl | rfl <;> decide
theorem accN_lt (h : Hd) (k : Nat) (hk : k < 5) (ho : okTo h k) : accN h k < 2 ^ pat k := by
  have a0 := fun hk => ho 0 hk
  have a1 := fun hk => ho 1 hk
  have a2 := fun hk => ho 2 hk
  have a3 := fun hk => ho 3 hk
  rcases five hk with rfl | rfl | rfl | rfl | rfl
  · simp only [accN, pat, List.getD_cons_zero]; decide
  · have b0 := a0 (by omega)
    simp only [accN, pat, pm, List.getD_cons_zero, List.getD_cons_succ] at b0 ⊢
    omega
  · have b0 := a0 (by omega)
    have b1 := a1 (by omega)
    simp only [accN, pat, pm, List.getD_cons_zero, List.getD_cons_succ] at b0 b1 ⊢
    omega
  · have b0 := a0 (by omega)
    have b1 := a1 (by omega)
    have b2 := a2 (by omega)
    simp only [accN, pat, pm, List.getD_cons_zero, List.getD_cons_succ] at b0 b1 b2 ⊢
    omega
  · have b0 := a0 (by omega)
    have b1 := a1 (by omega)
    have b2 := a2 (by omega)
    have b3 := a3 (by omega)
    simp only [accN, pat, pm, List.getD_cons_zero, List.getD_cons_succ] at b0 b1 b2 b3 ⊢
    omega
theorem okTo_may (h : Hd) : okTo h 5 ↔ mayB h = true := by
  rw [mayB_iff]
  have hm := mk_bd h.mark
  constructor
  · intro ho
    have b1 := ho 1 (by omega)
    have b2 := ho 2 (by omega)
    have b3 := ho 3 (by omega)
    have b4 := ho 4 (by omega)
    simp only [nm, pm, List.getD_cons_zero, List.getD_cons_succ] at b1 b2 b3 b4
    omega
  · intro ho j hj
    rcases five hj with rfl | rfl | rfl | rfl | rfl <;> simp only [nm, pm, List.getD_cons_zero, List.getD_cons_succ] <;> omega
theorem accN_last (h : Hd) (hm : mayB h = true) : ((accN h 5 : Nat) : Int) = encI h := by
  have h1 := (mayB_iff h).1 hm
  have h2 := mk_bd h.mark
  simp only [accN, nm, pat, List.getD_cons_zero, List.getD_cons_succ]
  unfold encI
  omega
theorem accN_step (h : Hd) (k : Nat) (hk : k < 5) (ho : okTo h (k + 1)) : putN (accN h k) (pat k) (pn k) (nm h k).toNat = accN h (k + 1) := by
  have hb := pat_bd hk
  have h1 := ho k (by omega)
  rw [putN_low _ _ _ _ (accN_lt h k hk fun j hj => ho j (by omega)) hb.1 (by omega)]
  rfl
theorem partB_pat {k : Nat} (h : k < 5) : partB (pat k : Nat) (pn k : Nat) = true := by
  rcases five h with rfl | rfl | rfl | rfl | rfl <;> decide
/-- Put at a part -/
theorem put_part (h : Hd) (k : Nat) (hk : k < 5) (ho : okTo h (k + 1)) (W : World) :
    Calls Try.prog 21 #[.int .u64 (accN h k : Nat), .int .i64 (pat k : Nat), .int .i64 (pn k : Nat), .int .u64 (nm h k)] W fun e W' => e = .returned (.tuple #[.int .u64 (accN h (k + 1) : Nat), .bool true]) ∧ ∃ n, W.drewN n = W' := by
  have hb := pat_bd hk
  have h1 := ho k (by omega)
  have hl := accN_lt h k hk fun j hj => ho j (by omega)
  have hlp := pow_lt64 hb.2.2.2.2
  have hpp : (pm k : Int) < ((2 ^ pn k : Nat) : Int) := by exact_mod_cast hb.2.2.1
  have := put_yes (accN h k : Nat) (pat k : Nat) (pn k : Nat) (nm h k) W (U64.of (by omega)) ⟨h1.1, by omega⟩ (partB_pat hk) (by rw [Int.toNat_natCast, cast_pow]; omega)
  rw [Int.toNat_natCast, Int.toNat_natCast, Int.toNat_natCast, accN_step h k hk ho] at this
  exact this
theorem part_index (k : Nat) (hk : k < 5) (w : World) : (Instr.index 129 (.agg #[.int .i64 2, .int .i64 1, .int .i64 1, .int .i64 3, .int .i64 5, .int .i64 31, .int .i64 8, .int .i64 16, .int .i64 4096, .int .i64 24, .int .i64 16, .int .i64 4096, .int .i64 40, .int .i64 24, .int .i64 1048576]) (.int .i64 (k : Nat))).run Try.prog w = .ok (.agg #[.int .i64 (pat k : Nat), .int .i64 (pn k : Nat), .int .i64 (pm k : Nat)]) w := by
  rcases five hk with rfl | rfl | rfl | rfl | rfl <;> kernel_rfl
theorem nm_get (h : Hd) (k : Nat) (hk : k < 5) : (#[Value.int .i64 (mk h.mark), .int .i64 h.kind, .int .i64 h.fields, .int .i64 h.raws, .int .i64 h.cursor] : Array Value)[k]? = some (.int .i64 (nm h k)) := by
  rcases five hk with rfl | rfl | rfl | rfl | rfl <;> rfl
attribute [irreducible] pat pn pm nm accN
end Go.Proofs.Ytcljgphipdbckaa
