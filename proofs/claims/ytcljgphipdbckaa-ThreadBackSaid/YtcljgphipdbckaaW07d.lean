/- The walks of layer 7 (head), fourth part: the reference. -/
import Derived.Test.YtcljgphipdbckaaW07c
namespace Go.Proofs.Ytcljgphipdbckaa
set_option linter.unusedVariables false
set_option linter.unusedSimpArgs false
open Go.RowKit

set_option maxRecDepth 100000 in
set_option maxHeartbeats 3200000 in
theorem rmay_core (k f r : Int) (m : Bool) (c : Int) (W : World) : Calls Try.prog 106 #[.agg #[.int .i64 k, .int .i64 f, .int .i64 r, .bool m, .int .i64 c]] W (Out W (.bool (mayB ⟨k, f, r, m, c⟩))) := by
  have alc : ∀ o, Hid (Below W.heap.size W (W.alloc o)) := fun o => (Below.refl W.heap.size W).alloc (Nat.le_refl _) o
  have hy : Hid (∀ b, mayB ⟨k, f, r, m, c⟩ = b → Calls Try.prog 106 #[.agg #[.int .i64 k, .int .i64 f, .int .i64 r, .bool m, .int .i64 c]] W (Out W (.bool b)) → Calls Try.prog 106 #[.agg #[.int .i64 k, .int .i64 f, .int .i64 r, .bool m, .int .i64 c]] W (Out W (.bool (mayB ⟨k, f, r, m, c⟩)))) := fun b h c => h ▸ c
  by_cases a0 : 0 ≤ k
  ·
    by_cases a1 : k ≤ 31
    ·
      by_cases a2 : 0 ≤ f
      ·
        by_cases a3 : f ≤ 4096
        ·
          by_cases b0 : 0 ≤ r
          ·
            by_cases b1 : r ≤ 4096
            ·
              by_cases b2 : 0 ≤ c
              ·
                by_cases b3 : c ≤ 1048576
                ·
                  refine hy.out true (by rw [Bool.eq_iff_iff, mayB_iff]; simp <;> omega) ?_
                  clear hy
                  go_enter Try.func106, Try.ntmps106
                  go_wp2
                  go_ret
                  exact ⟨rfl, (alc _).out⟩
                ·
                  refine hy.out false (by rw [Bool.eq_iff_iff, mayB_iff]; simp <;> omega) ?_
                  clear hy
                  go_enter Try.func106, Try.ntmps106
                  go_wp2
                  go_ret
                  exact ⟨rfl, (alc _).out⟩
              ·
                refine hy.out false (by rw [Bool.eq_iff_iff, mayB_iff]; simp <;> omega) ?_
                clear hy
                go_enter Try.func106, Try.ntmps106
                go_wp2
                go_ret
                exact ⟨rfl, (alc _).out⟩
            ·
              refine hy.out false (by rw [Bool.eq_iff_iff, mayB_iff]; simp <;> omega) ?_
              clear hy
              go_enter Try.func106, Try.ntmps106
              go_wp2
              go_ret
              exact ⟨rfl, (alc _).out⟩
          ·
            refine hy.out false (by rw [Bool.eq_iff_iff, mayB_iff]; simp <;> omega) ?_
            clear hy
            go_enter Try.func106, Try.ntmps106
            go_wp2
            go_ret
            exact ⟨rfl, (alc _).out⟩
        ·
          refine hy.out false (by rw [Bool.eq_iff_iff, mayB_iff]; simp <;> omega) ?_
          clear hy
          go_enter Try.func106, Try.ntmps106
          go_wp2
          go_ret
          exact ⟨rfl, (alc _).out⟩
      ·
        refine hy.out false (by rw [Bool.eq_iff_iff, mayB_iff]; simp <;> omega) ?_
        clear hy
        go_enter Try.func106, Try.ntmps106
        go_wp2
        go_ret
        exact ⟨rfl, (alc _).out⟩
    ·
      refine hy.out false (by rw [Bool.eq_iff_iff, mayB_iff]; simp <;> omega) ?_
      clear hy
      go_enter Try.func106, Try.ntmps106
      go_wp2
      go_ret
      exact ⟨rfl, (alc _).out⟩
  ·
    refine hy.out false (by rw [Bool.eq_iff_iff, mayB_iff]; simp <;> omega) ?_
    clear hy
    go_enter Try.func106, Try.ntmps106
    go_wp2
    go_ret
    exact ⟨rfl, (alc _).out⟩

theorem rmay_any (h : Hd) (W : World) : Calls Try.prog 106 #[.agg h.cells] W (Out W (.bool (mayB h))) := rmay_core h.kind h.fields h.raws h.mark h.cursor W

set_option maxRecDepth 100000 in
set_option maxHeartbeats 3200000 in
theorem renc_any (h : Hd) (W : World) : Calls Try.prog 47 #[.agg h.cells] W (Out W (.tuple #[.int .u64 (encW h), .int .i64 (encE h)])) := by
  have HM := fun w => Lib.hid (rmay_any h w)
  unfold Hd.cells at HM ⊢
  have HN := Lib.hid (Blk.new W 59 #[.int .i64 h.kind, .int .i64 h.fields, .int .i64 h.raws, .bool h.mark, .int .i64 h.cursor])
  have HB0 := Lib.hid ((Below.refl W.heap.size W).alloc (Nat.le_refl _) (.cells #[.int .i64 h.kind, .int .i64 h.fields, .int .i64 h.raws, .bool h.mark, .int .i64 h.cursor] 59))
  cases hm : mayB h with
  | true =>
    rw [hm] at HM
    have hz := Lib.hid (enc_yes hm)
    obtain ⟨k0, k1, f0, f1, r0, r1, c0, c1⟩ := (mayB_iff h).1 hm
    have he : Hid (encI h = 3 + 4 * mk h.mark + 8 * h.kind + 256 * h.fields + 16777216 * h.raws + 1099511627776 * h.cursor) := by show encI h = _; unfold encI; rfl
    clear hm
    cases hmk : h.mark with
    | true =>
      rw [hmk] at HM HN HB0 he
      go_enter Try.func47, Try.ntmps47
      go_wp2_with fail
      refine (HM _).out.mono ?_
      rintro e w1 ⟨rfl, hb⟩
      have hB := HN.out.below hb HN.out.lt
      have q0 := hB.cell 0
      have q1 := hB.cell 1
      have q2 := hB.cell 2
      have q3 := hB.cell 3
      have q4 := hB.cell 4
      have HB := Lib.hid (below_tr HB0.out hb)
      clear hb hB HM HN HB0 hmk
      go_wp2
      go_ret2
      exact Out.mk2 (by rw [← hz.out.1, he.out, mk_true]; omega) hz.out.2 HB.out
    | false =>
      rw [hmk] at HM HN HB0 he
      go_enter Try.func47, Try.ntmps47
      go_wp2_with fail
      refine (HM _).out.mono ?_
      rintro e w1 ⟨rfl, hb⟩
      have hB := HN.out.below hb HN.out.lt
      have q0 := hB.cell 0
      have q1 := hB.cell 1
      have q2 := hB.cell 2
      have q3 := hB.cell 3
      have q4 := hB.cell 4
      have HB := Lib.hid (below_tr HB0.out hb)
      clear hb hB HM HN HB0 hmk
      go_wp2
      go_ret2
      exact Out.mk2 (by rw [← hz.out.1, he.out, mk_false]; omega) hz.out.2 HB.out
  | false =>
    rw [hm] at HM
    have hz := Lib.hid (enc_not hm)
    clear hm
    go_enter Try.func47, Try.ntmps47
    go_wp2_with fail
    refine (HM _).out.mono ?_
    rintro e w1 ⟨rfl, hb⟩
    have HB := Lib.hid (below_tr HB0.out hb)
    clear hb HM HN HB0
    go_wp2
    go_ret2
    exact Out.mk2 hz.out.1 hz.out.2 HB.out

set_option maxRecDepth 100000 in
set_option maxHeartbeats 3200000 in
theorem rsize_any (h : Hd) (W : World) : Calls Try.prog 55 #[.agg h.cells] W (Out W (.int .i64 (sizeI h))) := by
  have HM := fun w => Lib.hid (rmay_any h w)
  unfold Hd.cells at HM ⊢
  have HN := Lib.hid (Blk.new W 59 #[.int .i64 h.kind, .int .i64 h.fields, .int .i64 h.raws, .bool h.mark, .int .i64 h.cursor])
  have HB0 := Lib.hid ((Below.refl W.heap.size W).alloc (Nat.le_refl _) (.cells #[.int .i64 h.kind, .int .i64 h.fields, .int .i64 h.raws, .bool h.mark, .int .i64 h.cursor] 59))
  cases hm : mayB h with
  | true =>
    rw [hm] at HM
    obtain ⟨k0, k1, f0, f1, r0, r1, c0, c1⟩ := (mayB_iff h).1 hm
    have hs : Hid (sizeI h = 1 + h.fields + h.raws) := by show sizeI h = _; unfold sizeI; rw [hm, if_pos rfl]
    clear hm
    go_enter Try.func55, Try.ntmps55
    go_wp2_with fail
    refine (HM _).out.mono ?_
    rintro e w1 ⟨rfl, hb⟩
    have hB := HN.out.below hb HN.out.lt
    have q1 := hB.cell 1
    have q2 := hB.cell 2
    have HB := Lib.hid (below_tr HB0.out hb)
    clear hb hB HM HN HB0
    go_wp2
    go_ret
    exact Out.mk' (by rw [hs.out]; rfl) HB.out
  | false =>
    rw [hm] at HM
    have hs : Hid (sizeI h = 0) := by show sizeI h = _; unfold sizeI; rw [hm]; rfl
    clear hm
    go_enter Try.func55, Try.ntmps55
    go_wp2_with fail
    refine (HM _).out.mono ?_
    rintro e w1 ⟨rfl, hb⟩
    have HB := Lib.hid (below_tr HB0.out hb)
    clear hb HM HN HB0
    go_wp2
    go_ret
    exact Out.mk' (by rw [hs.out]; rfl) HB.out
set_option maxRecDepth 100000 in
set_option maxHeartbeats 3200000 in
theorem rhdec_any (w : Int) (W : World) (hw : U64 w) : Calls Try.prog 49 #[.int .u64 w] W (Out W (.tuple #[.agg (hdH w).cells, .int .i64 (hdE w)])) := by
  obtain ⟨V, rfl, hV⟩ := hw.nat
  have HM : Hid (∀ w, Calls Try.prog 106 #[.agg #[.int .i64 ((V : Int) / 8 % 32), .int .i64 ((V : Int) / 256 % 65536), .int .i64 ((V : Int) / 16777216 % 65536), .bool ((V : Int) / 4 % 2 == 1), .int .i64 ((V : Int) / 1099511627776)]] w (Out w (.bool (mayB (bitsH V))))) := fun w => by
    have := rmay_core ((V : Int) / 8 % 32) ((V : Int) / 256 % 65536) ((V : Int) / 16777216 % 65536) ((V : Int) / 4 % 2 == 1) ((V : Int) / 1099511627776) w
    unfold bitsH
    exact this
  have hbits : Hid (bitsH (V : Int) = ⟨(V : Int) / 8 % 32, (V : Int) / 256 % 65536, (V : Int) / 16777216 % 65536, ((V : Int) / 4 % 2 == 1), (V : Int) / 1099511627776⟩) := by show bitsH _ = _; unfold bitsH; rfl
  have d0 : 0 ≤ (V : Int) / 4 := by omega
  have d1 : (V : Int) / 4 ≤ 4611686018427387903 := by omega
  have d2 : 0 ≤ (V : Int) / 8 := by omega
  have d3 : (V : Int) / 8 ≤ 4611686018427387903 := by omega
  have d4 : 0 ≤ (V : Int) / 256 := by omega
  have d5 : (V : Int) / 256 ≤ 4611686018427387903 := by omega
  have d6 : 0 ≤ (V : Int) / 16777216 := by omega
  have d7 : (V : Int) / 16777216 ≤ 4611686018427387903 := by omega
  have d8 : 0 ≤ (V : Int) / 1099511627776 := by omega
  have d9 : (V : Int) / 1099511627776 ≤ 16777215 := by omega
  have d10 : (0 : Int) ≤ (V : Int) := by omega
  have HB0 := Lib.hid (((Below.refl W.heap.size W).alloc (Nat.le_refl _) (.cells #[.int .i64 0, .int .i64 0, .int .i64 0, .bool false, .int .i64 0] 59)).alloc (by simp) (.cells #[.int .i64 ((V : Int) / 8 % 32), .int .i64 ((V : Int) / 256 % 65536), .int .i64 ((V : Int) / 16777216 % 65536), .bool ((V : Int) / 4 % 2 == 1), .int .i64 ((V : Int) / 1099511627776)] 59))
  have HR0 := Lib.hid ((Blk.new W 59 #[.int .i64 0, .int .i64 0, .int .i64 0, .bool false, .int .i64 0]).alloc (.cells #[.int .i64 ((V : Int) / 8 % 32), .int .i64 ((V : Int) / 256 % 65536), .int .i64 ((V : Int) / 16777216 % 65536), .bool ((V : Int) / 4 % 2 == 1), .int .i64 ((V : Int) / 1099511627776)] 59))
  have hh0 := Blk.new (W.alloc (.cells #[.int .i64 0, .int .i64 0, .int .i64 0, .bool false, .int .i64 0] 59)) 59 #[.int .i64 ((V : Int) / 8 % 32), .int .i64 ((V : Int) / 256 % 65536), .int .i64 ((V : Int) / 16777216 % 65536), .bool ((V : Int) / 4 % 2 == 1), .int .i64 ((V : Int) / 1099511627776)]
  rw [show (W.alloc (.cells #[.int .i64 0, .int .i64 0, .int .i64 0, .bool false, .int .i64 0] 59)).heap.size = W.heap.size + 1 by simp] at hh0
  have HH0 := Lib.hid hh0
  clear hh0 hw
  by_cases ht : V % 4 = 3
  · have hb0 : ((V : Int) % 4 != 3) = false := by simp; omega
    have hd : Hid (hdB (V : Int) = mayB (bitsH V)) := by show hdB _ = _; unfold hdB; rw [decide_eq_true (by omega), Bool.true_and]
    clear ht hV
    go_enter Try.func49, Try.ntmps49
    go_wp2_with fail
    refine (HM.out _).mono ?_
    rintro e w5 ⟨rfl, hb⟩
    have HR5 := Lib.hid (HR0.out.below hb HR0.out.lt)
    have HH5 := Lib.hid (HH0.out.below hb HH0.out.lt)
    have HB5 := Lib.hid (below_tr HB0.out hb)
    clear hb HR0 HH0 HB0
    have s0 := HH5.out.cell 0
    have s1 := HH5.out.cell 1
    have s2 := HH5.out.cell 2
    have s3 := HH5.out.cell 3
    have s4 := HH5.out.cell 4
    have t0 := HR5.out.cell 0
    have t1 := HR5.out.cell 1
    have t2 := HR5.out.cell 2
    have t3 := HR5.out.cell 3
    have t4 := HR5.out.cell 4
    have u0 := HR5.out.frozen 0
    have u1 := HR5.out.frozen 1
    have u2 := HR5.out.frozen 2
    have u3 := HR5.out.frozen 3
    have u4 := HR5.out.frozen 4
    cases hm : mayB (bitsH (V : Int)) with
    | true =>
      have HO : Hid (hdH (V : Int) = ⟨(V : Int) / 8 % 32, (V : Int) / 256 % 65536, (V : Int) / 16777216 % 65536, ((V : Int) / 4 % 2 == 1), (V : Int) / 1099511627776⟩ ∧ hdE (V : Int) = 0) := by
        have := hdH_yes (hd.out.trans hm)
        rw [hbits.out] at this
        exact this
      clear hm HM d0 d1 d2 d3 d4 d5 d6 d7 d8 d9
      go_wp2
      exact bodyPost_ret (v := .tuple #[.agg #[.int .i64 ((V : Int) / 8 % 32), .int .i64 ((V : Int) / 256 % 65536), .int .i64 ((V : Int) / 16777216 % 65536), .bool ((V : Int) / 4 % 2 == 1), .int .i64 ((V : Int) / 1099511627776)], .int .i64 0]) (by simp [results, Try.results49, go_sem, t0, t1, t2, t3, t4]) rfl
        (Out.mk' (hd_out HO.out.1 HO.out.2) (((((HB5.out.setCell (Nat.le_refl _) _).setCell (Nat.le_refl _) _).setCell (Nat.le_refl _) _).setCell (Nat.le_refl _) _).setCell (Nat.le_refl _) _))
    | false =>
      have HO : Hid (hdH (V : Int) = ⟨0, 0, 0, false, 0⟩ ∧ hdE (V : Int) = 3) := hdH_no (hd.out.trans hm)
      clear hm HM d0 d1 d2 d3 d4 d5 d6 d7 d8 d9
      go_wp2
      exact bodyPost_ret (v := .tuple #[.agg #[.int .i64 0, .int .i64 0, .int .i64 0, .bool false, .int .i64 0], .int .i64 3]) (by simp [results, Try.results49, go_sem, t0, t1, t2, t3, t4]) rfl
        (Out.mk' (hd_out HO.out.1 HO.out.2) (((((HB5.out.setCell (Nat.le_refl _) _).setCell (Nat.le_refl _) _).setCell (Nat.le_refl _) _).setCell (Nat.le_refl _) _).setCell (Nat.le_refl _) _))
  · have hb0 : ((V : Int) % 4 != 3) = true := by simp; omega
    have HO : Hid (hdH (V : Int) = ⟨0, 0, 0, false, 0⟩ ∧ hdE (V : Int) = 3) := hdH_no (by unfold hdB; rw [decide_eq_false (by omega)]; rfl)
    clear ht hV HM hbits HR0 HH0
    go_enter Try.func49, Try.ntmps49
    go_wp2
    exact bodyPost_ret (v := .tuple #[.agg #[.int .i64 0, .int .i64 0, .int .i64 0, .bool false, .int .i64 0], .int .i64 3]) (by simp [results, Try.results49, go_sem]) rfl
      (Out.mk' (hd_out HO.out.1 HO.out.2) HB0.out)
end Go.Proofs.Ytcljgphipdbckaa
