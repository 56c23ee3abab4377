/- The walks of layer 7 (head), third part: Dec, Size. -/
import Derived.Test.YtcljgphipdbckaaW07b
namespace Go.Proofs.Ytcljgphipdbckaa
set_option linter.unusedVariables false
set_option linter.unusedSimpArgs false
open Go.RowKit

/-- five numbers, the first k of them known -/
def partA (f : Nat → Int) (k : Nat) : Array Value := ((List.range 5).map fun i => Value.int .i64 (if i < k then f i else 0)).toArray
theorem partA_size (f : Nat → Int) (k : Nat) : (partA f k).size = 5 := by simp [partA]
theorem partA_get (f : Nat → Int) (k i : Nat) (h : i < 5) : (partA f k)[i]? = some (.int .i64 (if i < k then f i else 0)) := by simp [partA, h]
theorem partA_zero (f : Nat → Int) : partA f 0 = #[.int .i64 0, .int .i64 0, .int .i64 0, .int .i64 0, .int .i64 0] := by simp [partA, List.range_succ]
theorem partA_step (f : Nat → Int) (k : Nat) : (partA f k).setIfInBounds k (.int .i64 (f k)) = partA f (k + 1) := by
  apply Array.ext
  · rw [Array.size_setIfInBounds, partA_size, partA_size]
  · intro i h1 h2
    rw [partA_size] at h2
    have e1 := partA_get f k i h2
    have e2 := partA_get f (k + 1) i h2
    have h3 : i < (partA f k).size := by rw [partA_size]; exact h2
    have h4 : i < (partA f (k + 1)).size := by rw [partA_size]; exact h2
    rw [Array.getElem?_eq_getElem h3, Option.some.injEq] at e1
    rw [Array.getElem?_eq_getElem h4, Option.some.injEq] at e2
    rw [Array.getElem_setIfInBounds, e2, e1]
    · by_cases e : k = i
      · rw [if_pos e, if_pos (by omega), e]
      · rw [if_neg e]
        by_cases h : i < k
        · rw [if_pos h, if_pos (by omega)]
        · rw [if_neg h, if_neg (by omega)]
    · exact h3

/-- the number that a word's part is -/
def pv (V k : Nat) : Int := ((getN V (pat k) (pn k) : Nat) : Int)
theorem pv_bits (V : Nat) (hV : V < 18446744073709551616) : bitsH (V : Int) = ⟨pv V 1, pv V 2, pv V 3, (pv V 0 == 1), pv V 4⟩ := by
  have e0 : pv V 0 = (V : Int) / 4 % 2 := by unfold pv getN pat pn; simp only [List.getD_cons_zero]; omega
  have e1 : pv V 1 = (V : Int) / 8 % 32 := by unfold pv getN pat pn; simp only [List.getD_cons_zero, List.getD_cons_succ]; omega
  have e2 : pv V 2 = (V : Int) / 256 % 65536 := by unfold pv getN pat pn; simp only [List.getD_cons_zero, List.getD_cons_succ]; omega
  have e3 : pv V 3 = (V : Int) / 16777216 % 65536 := by unfold pv getN pat pn; simp only [List.getD_cons_zero, List.getD_cons_succ]; omega
  have e4 : pv V 4 = (V : Int) / 1099511627776 := by unfold pv getN pat pn; simp only [List.getD_cons_zero, List.getD_cons_succ]; omega
  rw [e0, e1, e2, e3, e4]
  unfold bitsH
  rfl
theorem pv_bd (V k : Nat) (hk : k < 5) : 0 ≤ pv V k ∧ pv V k ≤ 16777215 := by
  have h1 := getN_lt' V (pat k) (pn k)
  have h2 : 2 ^ pn k ≤ 2 ^ 24 := Nat.pow_le_pow_right (by decide) (by rcases five hk with rfl | rfl | rfl | rfl | rfl <;> (unfold pn; decide))
  have h3 : (2 : Nat) ^ 24 = 16777216 := by decide
  unfold pv
  omega
theorem get_part (V k : Nat) (hV : V < 18446744073709551616) (hk : k < 5) (W : World) :
    Calls Try.prog 19 #[.int .u64 (V : Nat), .int .i64 (pat k : Nat), .int .i64 (pn k : Nat)] W fun e W' => e = .returned (.tuple #[.int .u64 (pv V k), .bool true]) ∧ ∃ n, W.drewN n = W' := by
  have := get_yes (V : Nat) (pat k : Nat) (pn k : Nat) W (U64.of hV) (partB_pat hk)
  simp only [Int.toNat_natCast] at this
  exact this
attribute [irreducible] partA pv
theorem hdH_yes {w : Int} (h : hdB w = true) : hdH w = bitsH w ∧ hdE w = 0 := by unfold hdH hdE; rw [h]; simp
theorem hdH_no {w : Int} (h : hdB w = false) : hdH w = Hd.none_ ∧ hdE w = 3 := by unfold hdH hdE; rw [h]; simp
theorem hd_cases (V : Nat) : hdB (V : Int) = true ∧ encE (bitsH V) = 0 ∧ encW (bitsH V) = V ∨ hdB (V : Int) = false ∧ encE (bitsH V) = 1 ∨ hdB (V : Int) = false ∧ encE (bitsH V) = 0 ∧ (encW (bitsH V) != (V : Int)) = true := by
  have hb := hdB_back (V : Int) (by omega)
  cases hm : mayB (bitsH (V : Int)) with
  | false =>
    right; left
    rw [hm] at hb
    exact ⟨by rw [hb]; rfl, by rw [← (enc_not hm).2]⟩
  | true =>
    rw [hm, Bool.true_and] at hb
    have h1 := enc_yes hm
    by_cases he : encI (bitsH (V : Int)) = V
    · left
      rw [decide_eq_true he] at hb
      exact ⟨hb, h1.2.symm, by rw [← h1.1, he]⟩
    · right; right
      rw [decide_eq_false he] at hb
      exact ⟨hb, h1.2.symm, by rw [← h1.1, bne_iff_ne]; exact he⟩
theorem hd_out {k f r c e : Int} {m : Bool} {h : Hd} {E : Int} (h1 : h = ⟨k, f, r, m, c⟩) (h2 : E = e) : (Value.tuple #[.agg #[.int .i64 k, .int .i64 f, .int .i64 r, .bool m, .int .i64 c], .int .i64 e]) = .tuple #[.agg h.cells, .int .i64 E] := by
  subst h1 h2; rfl

set_option maxRecDepth 100000 in
set_option maxHeartbeats 3200000 in
theorem hdec_any (w : Int) (W : World) (hw : U64 w) : Calls Try.prog 48 #[.int .u64 w] W (Out W (.tuple #[.agg (hdH w).cells, .int .i64 (hdE w)])) := by
  obtain ⟨V, rfl, hV⟩ := hw.nat
  have HP := fun w => Lib.hid (parts_any w)
  have HENC : Hid (∀ w, Calls Try.prog 46 #[.agg #[.int .i64 (pv V 1), .int .i64 (pv V 2), .int .i64 (pv V 3), .bool (pv V 0 == 1), .int .i64 (pv V 4)]] w (Out w (.tuple #[.int .u64 (encW (bitsH V)), .int .i64 (encE (bitsH V))]))) := fun w => by
    have := enc_core (bitsH V) w
    unfold Hd.cells at this
    rw [pv_bits V hV] at this ⊢
    exact this
  have HG : Hid (∀ k, k < 5 → ∀ W, Calls Try.prog 19 #[.int .u64 (V : Nat), .int .i64 (pat k : Nat), .int .i64 (pn k : Nat)] W fun e W' => e = .returned (.tuple #[.int .u64 (pv V k), .bool true]) ∧ ∃ n, W.drewN n = W') := fun k hk w => get_part V k hV hk w
  have HPV : Hid (∀ k, k < 5 → 0 ≤ pv V k ∧ pv V k ≤ 16777215) := fun k hk => pv_bd V k hk
  have HIX : Hid (∀ k, k < 5 → ∀ w, (Instr.index 129 (.agg #[.int .i64 2, .int .i64 1, .int .i64 1, .int .i64 3, .int .i64 5, .int .i64 31, .int .i64 8, .int .i64 16, .int .i64 4096, .int .i64 24, .int .i64 16, .int .i64 4096, .int .i64 40, .int .i64 24, .int .i64 1048576]) (.int .i64 (k : Nat))).run Try.prog w = .ok (.agg #[.int .i64 (pat k : Nat), .int .i64 (pn k : Nat), .int .i64 (pm k : Nat)]) w) := fun k hk w => part_index k hk w
  have HV := Lib.hid hV
  have HB0 := Lib.hid (((Below.refl W.heap.size W).alloc (Nat.le_refl _) (.cells #[.int .i64 0, .int .i64 0, .int .i64 0, .bool false, .int .i64 0] 59)).alloc (by simp) (.cells #[.int .i64 0, .int .i64 0, .int .i64 0, .int .i64 0, .int .i64 0] 125))
  have HR0 := Lib.hid ((Blk.new W 59 #[.int .i64 0, .int .i64 0, .int .i64 0, .bool false, .int .i64 0]).alloc (.cells #[.int .i64 0, .int .i64 0, .int .i64 0, .int .i64 0, .int .i64 0] 125))
  have hl0 := Blk.new (W.alloc (.cells #[.int .i64 0, .int .i64 0, .int .i64 0, .bool false, .int .i64 0] 59)) 125 #[.int .i64 0, .int .i64 0, .int .i64 0, .int .i64 0, .int .i64 0]
  rw [show (W.alloc (.cells #[.int .i64 0, .int .i64 0, .int .i64 0, .bool false, .int .i64 0] 59)).heap.size = W.heap.size + 1 by simp, ← partA_zero (pv V)] at hl0
  rw [← partA_zero (pv V)] at HB0 HR0
  have HL0 := Lib.hid hl0
  clear hV hw hl0
  go_enter Try.func48, Try.ntmps48
  go_wp2_with fail
  rw [← partA_zero (pv V)]
  refine (HP _).out.mono ?_
  rintro e w2 ⟨rfl, hb⟩
  have HL := Lib.hid (HL0.out.below hb HL0.out.lt)
  have HR := Lib.hid (HR0.out.below hb HR0.out.lt)
  have HB := Lib.hid (below_tr HB0.out hb)
  clear hb HP HL0 HB0 HR0
  go_wp2
  go_loopw [13] (fun i wr => ∃ k : Nat, k ≤ 5 ∧ i = .int .i64 (k : Nat) ∧ Hid (Blk wr (W.heap.size + 1) 125 (partA (pv V) k)) ∧ Hid (Blk wr W.heap.size 59 #[.int .i64 0, .int .i64 0, .int .i64 0, .bool false, .int .i64 0]) ∧ Hid (Below W.heap.size W wr)) (fun i _ => 5 - (intOf i).toNat)
  case atStart => exact ⟨0, by omega, rfl, HL, HR, HB⟩
  case round =>
    clear HL HB HR
    obtain ⟨k, hk, rfl, hl, hr, hb⟩ := hrel
    by_cases hlt : k < 5
    · have hix := HIX.out k hlt
      have HGK := Lib.hid (HG.out k hlt)
      have hpv := (HPV.out k hlt).1
      have hpv2 := (HPV.out k hlt).2
      have i0 : (0 : Int) ≤ (k : Int) := by omega
      have i1 : (k : Int) < 5 := by omega
      have hl2 := Lib.hid (hl.out.alloc (.cells #[.int .i64 (pat k : Nat), .int .i64 (pn k : Nat), .int .i64 (pm k : Nat)] 128))
      have hr2 := Lib.hid (hr.out.alloc (.cells #[.int .i64 (pat k : Nat), .int .i64 (pn k : Nat), .int .i64 (pm k : Nat)] 128))
      have hb2 := Lib.hid (hb.out.alloc hb.out.size (.cells #[.int .i64 (pat k : Nat), .int .i64 (pn k : Nat), .int .i64 (pm k : Nat)] 128))
      have q := hl.out.cell k
      rw [partA_get _ _ _ hlt, if_neg (by omega)] at q
      have qf := hl.out.frozen k
      have hlw := hl.out.lt
      go_wp2_with (go_at_call 19; refine (HGK.out _).mono ?_; rintro e w' ⟨rfl, n1, rfl⟩)
      go_roundw
      case rel => exact ⟨k + 1, by omega, by go_num, by have := (hl2.out.drewN n1).set_ k (.int .i64 (pv V k)); rw [partA_step] at this; exact this,
          (hr2.out.drewN n1).far (p := ⟨W.heap.size + 1, k, none⟩) (by show W.heap.size ≠ W.heap.size + 1; omega) _, (below_dr hb2.out n1).setCell (p := ⟨W.heap.size + 1, k, none⟩) (by show W.heap.size ≤ W.heap.size + 1; omega) _⟩
      case measure => simp [intOf] <;> omega
    · obtain rfl : k = 5 := by omega
      have q0 := hl.out.cell 0
      have q1 := hl.out.cell 1
      have q2 := hl.out.cell 2
      have q3 := hl.out.cell 3
      have q4 := hl.out.cell 4
      rw [partA_get _ _ _ (by omega), if_pos (by omega)] at q0 q1 q2 q3 q4
      have r0 := hr.out.frozen 0
      have r1 := hr.out.frozen 1
      have r2 := hr.out.frozen 2
      have r3 := hr.out.frozen 3
      have r4 := hr.out.frozen 4
      have HRS := Lib.hid (hr.out.alloc (.cells #[.int .i64 (pv V 1), .int .i64 (pv V 2), .int .i64 (pv V 3), .bool (pv V 0 == 1), .int .i64 (pv V 4)] 59))
      have HBS := Lib.hid (hb.out.alloc hb.out.size (.cells #[.int .i64 (pv V 1), .int .i64 (pv V 2), .int .i64 (pv V 3), .bool (pv V 0 == 1), .int .i64 (pv V 4)] 59))
      have HHS := Lib.hid (Blk.new wr 59 #[.int .i64 (pv V 1), .int .i64 (pv V 2), .int .i64 (pv V 3), .bool (pv V 0 == 1), .int .i64 (pv V 4)])
      clear hl hr hb
      go_wp2_with fail
      refine (HENC.out _).mono ?_
      rintro e w5 ⟨rfl, hb⟩
      have HR5 := Lib.hid (HRS.out.below hb HRS.out.lt)
      have HH5 := Lib.hid (HHS.out.below hb HHS.out.lt)
      have HB5 := Lib.hid (below_tr HBS.out hb)
      clear hb HRS HBS HHS
      have s0 := HH5.out.cell 0
      have s1 := HH5.out.cell 1
      have s2 := HH5.out.cell 2
      have s3 := HH5.out.cell 3
      have s4 := HH5.out.cell 4
      have t0 := HR5.out.cell 0
      have t1 := HR5.out.cell 1
      have t2 := HR5.out.cell 2
      have t3 := HR5.out.cell 3
      have t4 := HR5.out.cell 4
      have u0 := HR5.out.frozen 0
      have u1 := HR5.out.frozen 1
      have u2 := HR5.out.frozen 2
      have u3 := HR5.out.frozen 3
      have u4 := HR5.out.frozen 4
      clear q0 q1 q2 q3 q4 r0 r1 r2 r3 r4 HG HIX HPV HENC
      rcases hd_cases V with ⟨hB, e1, e2⟩ | ⟨hB, e1⟩ | ⟨hB, e1, e2⟩
      · have HO : Hid (hdH (V : Int) = ⟨pv V 1, pv V 2, pv V 3, (pv V 0 == 1), pv V 4⟩ ∧ hdE (V : Int) = 0) := by
          have := hdH_yes hB
          rw [pv_bits V HV.out] at this
          exact this
        rw [e1, e2]
        clear hB e1 e2
        go_wp2
        exact bodyPost_ret (v := .tuple #[.agg #[.int .i64 (pv V 1), .int .i64 (pv V 2), .int .i64 (pv V 3), .bool (pv V 0 == 1), .int .i64 (pv V 4)], .int .i64 0]) (by simp [results, Try.results48, go_sem, t0, t1, t2, t3, t4]) rfl
          (Out.mk' (hd_out HO.out.1 HO.out.2) (((((HB5.out.setCell (Nat.le_refl _) _).setCell (Nat.le_refl _) _).setCell (Nat.le_refl _) _).setCell (Nat.le_refl _) _).setCell (Nat.le_refl _) _))
      · have HO : Hid (hdH (V : Int) = ⟨0, 0, 0, false, 0⟩ ∧ hdE (V : Int) = 3) := hdH_no hB
        rw [e1]
        clear hB e1
        go_wp2
        exact bodyPost_ret (v := .tuple #[.agg #[.int .i64 0, .int .i64 0, .int .i64 0, .bool false, .int .i64 0], .int .i64 3]) (by simp [results, Try.results48, go_sem, t0, t1, t2, t3, t4]) rfl
          (Out.mk' (hd_out HO.out.1 HO.out.2) (((((HB5.out.setCell (Nat.le_refl _) _).setCell (Nat.le_refl _) _).setCell (Nat.le_refl _) _).setCell (Nat.le_refl _) _).setCell (Nat.le_refl _) _))
      · have HO : Hid (hdH (V : Int) = ⟨0, 0, 0, false, 0⟩ ∧ hdE (V : Int) = 3) := hdH_no hB
        rw [e1]
        clear hB e1
        go_wp2
        exact bodyPost_ret (v := .tuple #[.agg #[.int .i64 0, .int .i64 0, .int .i64 0, .bool false, .int .i64 0], .int .i64 3]) (by simp [results, Try.results48, go_sem, t0, t1, t2, t3, t4]) rfl
          (Out.mk' (hd_out HO.out.1 HO.out.2) (((((HB5.out.setCell (Nat.le_refl _) _).setCell (Nat.le_refl _) _).setCell (Nat.le_refl _) _).setCell (Nat.le_refl _) _).setCell (Nat.le_refl _) _))

set_option maxRecDepth 100000 in
set_option maxHeartbeats 3200000 in
theorem size_any (h : Hd) (W : World) : Calls Try.prog 54 #[.agg h.cells] W (Out W (.int .i64 (sizeI h))) := by
  have HE := fun w => Lib.hid (enc_core h w)
  unfold Hd.cells at HE ⊢
  have HN := Lib.hid (Blk.new W 59 #[.int .i64 h.kind, .int .i64 h.fields, .int .i64 h.raws, .bool h.mark, .int .i64 h.cursor])
  have HB0 := Lib.hid ((Below.refl W.heap.size W).alloc (Nat.le_refl _) (.cells #[.int .i64 h.kind, .int .i64 h.fields, .int .i64 h.raws, .bool h.mark, .int .i64 h.cursor] 59))
  cases hm : mayB h with
  | true =>
    have h1 := enc_yes hm
    rw [← h1.2] at HE
    have hb := (mayB_iff h).1 hm
    have hf0 : 0 ≤ h.fields := by omega
    have hf1 : h.fields ≤ 4096 := by omega
    have hr0 : 0 ≤ h.raws := by omega
    have hr1 : h.raws ≤ 4096 := by omega
    have hs : Hid (sizeI h = 1 + h.fields + h.raws) := by show sizeI h = _; unfold sizeI; rw [hm, if_pos rfl]
    clear h1 hb hm
    go_enter Try.func54, Try.ntmps54
    go_wp2_with fail
    refine (HE _).out.mono ?_
    rintro e w1 ⟨rfl, hb⟩
    have hB := HN.out.below hb HN.out.lt
    have c1 := hB.cell 1
    have c2 := hB.cell 2
    have HB := Lib.hid (below_tr HB0.out hb)
    clear hb hB HE HN HB0
    go_wp2
    go_ret
    exact Out.mk' (by rw [hs.out]; rfl) HB.out
  | false =>
    have h1 := enc_not hm
    rw [← h1.2] at HE
    have hs : Hid (sizeI h = 0) := by show sizeI h = _; unfold sizeI; rw [hm]; rfl
    clear h1 hm
    go_enter Try.func54, Try.ntmps54
    go_wp2_with fail
    refine (HE _).out.mono ?_
    rintro e w1 ⟨rfl, hb⟩
    have HB := Lib.hid (below_tr HB0.out hb)
    clear hb HE HN HB0
    go_wp2
    go_ret
    exact Out.mk' (by rw [hs.out]; rfl) HB.out
end Go.Proofs.Ytcljgphipdbckaa
