/- The walk of ArenaMakes. -/
import Derived.Test.YtcljgphipdbckaaL02
namespace Go.Proofs.Ytcljgphipdbckaa
open Go.RowKit

set_option maxHeartbeats 1600000 in
theorem arenaMakes_bad (n : Int) (v : Value) (W : World) (hn : n < 0 ∨ 98304 < n) : Calls Try.prog 7 #[.int .i64 n, v] W fun e w' => e = .returned (.bool true) ∧ Below W.heap.size W w' := by
  have H := Lib.hid (new_bad n W hn)
  rcases hn with h | h
  · go_enter Try.func7, Try.ntmps7
    go_wp2_with (first | (go_at_call 45; refine H.out.mono ?_; rintro e w' ⟨rfl, rfl⟩) | (go_at_call 34; refine (awake02 _).mono ?_; rintro e w' ⟨rfl, hb2⟩))
    go_ret
    exact ⟨rfl, hb2⟩
  · have h' : ¬ n < 0 := by omega
    go_enter Try.func7, Try.ntmps7
    go_wp2_with (first | (go_at_call 45; refine H.out.mono ?_; rintro e w' ⟨rfl, rfl⟩) | (go_at_call 34; refine (awake02 _).mono ?_; rintro e w' ⟨rfl, hb2⟩))
    go_ret
    exact ⟨rfl, hb2⟩

set_option maxHeartbeats 1600000 in
theorem arenaMakes_long (n : Nat) (A : Option Addr) (m c : Nat) (W : World) (hn : n ≤ 98304) (hm : 200 < m) (hm2 : m ≤ 9223372036854775807) : Calls Try.prog 7 #[.int .i64 (n : Nat), .slice A m c] W fun e w' => e = .returned (.bool true) ∧ Below W.heap.size W w' := by
  have hz := Lib.hid (zeros_length n)
  have hn2 : (n : Int) ≤ 98304 := by omega
  have HN := Lib.hid hn
  clear hn
  go_enter Try.func7, Try.ntmps7
  go_wp2_with fail
  refine (new_any n _ HN.out).mono ?_
  intro e w1 hmk
  obtain ⟨p, v, rfl, HA, HB, _⟩ := hmk.open_ (Below.refl _ _) (Nat.le_refl _)
  clear hmk
  go_wp2_with (first | (go_at_call 44; refine (len_ar HA.out).mono ?_; rw [hz.out]; rintro e w' ⟨rfl, rfl⟩) | (go_at_call 34; refine (awake02 _).mono ?_; rintro e w' ⟨rfl, hb2⟩))
  go_ret
  exact ⟨rfl, HB.out.trans (hb2.mono HB.out.size)⟩

set_option maxHeartbeats 3200000 in
theorem arenaMakes_short (n : Nat) (v : Value) (ws : List Int) (W : World) (hn : n ≤ 98304) (hv : Rw W v ws) (hm : ws.length ≤ 200) : Calls Try.prog 7 #[.int .i64 (n : Nat), v] W fun e w' => e = .returned (.bool true) ∧ Below W.heap.size W w' := by
  obtain ⟨A, c, rfl, h1, h2, _⟩ := hv.reads
  have hz := Lib.hid (zeros_length n)
  have hn2 : (n : Int) ≤ 98304 := by omega
  have hm2 : (ws.length : Int) ≤ 200 := by omega
  have HF : Hid (Few ws.length) := by show _ ≤ _; omega
  have HN := Lib.hid hn
  have HV := Lib.hid hv
  clear hn hv h2
  go_enter Try.func7, Try.ntmps7
  go_wp2_with fail
  refine (new_any n _ HN.out).mono ?_
  intro e w1 hmk
  obtain ⟨p, v, rfl, HA, HB, _⟩ := hmk.open_ (Below.refl _ _) (Nat.le_refl _)
  have HV1 := Lib.hid (HV.out.below HB.out)
  clear hmk
  go_wp2_with (first | (go_at_call 44; refine (len_ar HA.out).mono ?_; rw [hz.out]; rintro e w' ⟨rfl, rfl⟩) | (at_builtin; refine wpList_clone_words rfl (.tmp 57) (.tmp 58) rfl w1 rfl A ws.length c rfl ws HV1.out HF.out ?_; intro A' c' w2 hown hb))
  have HO := Lib.hid hown
  have HR2 := Lib.hid (Rw.of_own hown HV.out.fit)
  have HB2 := Lib.hid (HB.out.trans (hb.mono HB.out.size))
  clear hown hb
  go_wp2_with fail
  refine (of_any HR2.out (by omega)).mono ?_
  rintro e w3 ⟨q, u, rfl, ha, hb⟩
  have HQ := Lib.hid ha
  have HB3 := Lib.hid (HB2.out.trans (hb.mono HB2.out.size))
  have HO3 : Hid (w3.ownsRow w1.heap.size 22 1 (.slice A' ws.length c') ws.length (wds ws)) := HO.out.kept ⟨hb.os, hb.tape, hb.output, hb.size, fun k hk _ => hb.block k hk⟩ (row := none) (by cases (Value.slice A' ws.length c').ownBlock <;> simp)
  have HLT : Hid (∀ g, (Value.slice A' ws.length c').ownBlock = some g → W.heap.size ≤ g ∧ g < w2.heap.size) := fun g hg => ⟨Nat.le_trans HB.out.size (HO.out.lt g hg).1, (HO.out.lt g hg).2⟩
  clear ha hb
  go_wp2
  go_loopw [10] (fun i wr => ∃ (k : Nat) (xs : List Int), k ≤ ws.length ∧ i = .int .i64 (k : Nat) ∧ Hid (xs.length = ws.length) ∧ Hid (wr.ownsRow w1.heap.size 22 1 (.slice A' ws.length c') ws.length (wds xs)) ∧ Hid (w3.grownBy wr (Value.slice A' ws.length c').ownBlock)) (fun i _ => ws.length - (intOf i).toNat)
  case atStart => exact ⟨0, ws, by omega, rfl, rfl, HO3, World.grownBy.refl _ _⟩
  case round =>
    obtain ⟨k, xs, hk, rfl, hxl, ho, hg⟩ := hrel
    by_cases hlt : k < ws.length
    · obtain ⟨g, cap, e, hg1, hg2⟩ := ho.out.form (by omega)
      injection e with e1 e2 e3
      subst e1 e3
      have hc := ho.out.cellAt k (by omega)
      rw [wds_get _ _ (by rw [hxl.out]; exact hlt)] at hc
      have hfr := ho.out.frozenAt k
      have hst := Lib.hid (fun y => ho.out.stored k (.int .u64 y))
      obtain ⟨y, hy⟩ : ∃ y, y = xs.getD k 0 := ⟨_, rfl⟩
      rw [← hy] at hc
      clear hg1 hg2 hy
      go_wp2
      go_roundw
      case rel =>
        have h2 := hst.out (IntKind.u64.wrap (y + 1))
        rw [wds_set] at h2
        exact ⟨k + 1, xs.set k (IntKind.u64.wrap (y + 1)), by omega, by go_num, by show _ = _; rw [List.length_set]; exact hxl.out, h2.1, grown_trans hg.out h2.2⟩
      case measure => simp [intOf] <;> omega
    · have HQ4 : Hid (Ar wr w2.heap.size q u ws) := HQ.out.kept hg.out (fun e => by
          have h := HLT.out _ e.symm
          have := HQ.out.base
          omega) (by
          cases hu : u.ownBlock with
          | none => exact .inl rfl
          | some g => right; intro e; have h := HLT.out _ e.symm; have := (HQ.out.own.lt g hu).1; omega)
      have HB4 : Hid (Below W.heap.size W wr) := HB3.out.grown hg.out HB3.out.size (fun g e => (HLT.out g e).1)
      have HV4 := Lib.hid (HV.out.below HB4.out)
      clear hg ho HO3 HQ HB3
      go_wp2_with fail
      refine (words_ar HQ4.out HF.out).mono ?_
      rintro e w5 ⟨A5, c5, rfl, hown, hb⟩
      have HO5 := Lib.hid hown
      have HR5 := Lib.hid (Rw.of_own hown HV.out.fit)
      have HB5 := Lib.hid (HB4.out.trans (hb.mono HB4.out.size))
      have HV5 := Lib.hid (HV.out.below HB5.out)
      have HQ5 := Lib.hid (HQ4.out.below hb)
      have HLT5 : Hid (∀ g, (Value.slice A5 ws.length c5).ownBlock = some g → wr.heap.size ≤ g) := fun g hg => (hown.lt g hg).1
      clear hown hb
      go_wp2_with fail
      refine (same_any HR5.out HV5.out).mono ?_
      rw [sameB_refl]
      rintro e w6 ⟨rfl, k6, rfl⟩
      go_wp2
      have HO6 : Hid ((w5.drewN k6).ownsRow wr.heap.size 22 1 (.slice A5 ws.length c5) ws.length (wds ws)) := HO5.out
      go_loopw [12] (fun i wq => ∃ (k : Nat) (xs : List Int), k ≤ ws.length ∧ i = .int .i64 (k : Nat) ∧ Hid (xs.length = ws.length) ∧ Hid (wq.ownsRow wr.heap.size 22 1 (.slice A5 ws.length c5) ws.length (wds xs)) ∧ Hid (w5.grownBy wq (Value.slice A5 ws.length c5).ownBlock)) (fun i _ => ws.length - (intOf i).toNat)
      case atStart => exact ⟨0, ws, by omega, rfl, rfl, HO6, ⟨rfl, rfl, rfl, Nat.le_refl _, fun _ _ _ => rfl⟩⟩
      case round =>
        obtain ⟨k, xs, hk, rfl, hxl, ho, hg⟩ := hrel
        by_cases hlt : k < ws.length
        · obtain ⟨g, cap, e, hg1, hg2⟩ := ho.out.form (by omega)
          injection e with e1 e2 e3
          subst e1 e3
          have hc := ho.out.cellAt k (by omega)
          rw [wds_get _ _ (by rw [hxl.out]; exact hlt)] at hc
          have hfr := ho.out.frozenAt k
          have hst := Lib.hid (fun y => ho.out.stored k (.int .u64 y))
          obtain ⟨y, hy⟩ : ∃ y, y = xs.getD k 0 := ⟨_, rfl⟩
          rw [← hy] at hc
          clear hg1 hg2 hy
          go_wp2
          go_roundw
          case rel =>
            have h2 := hst.out (IntKind.u64.wrap (y + 1))
            rw [wds_set] at h2
            exact ⟨k + 1, xs.set k (IntKind.u64.wrap (y + 1)), by omega, by go_num, by show _ = _; rw [List.length_set]; exact hxl.out, h2.1, grown_trans hg.out h2.2⟩
          case measure => simp [intOf] <;> omega
        · have HQ7 := Lib.hid (HQ5.out.kept hg.out (fun e => by
            have h := HLT5.out _ e.symm
            have := HQ4.out.lt
            omega) (by
            cases hu : u.ownBlock with
            | none => exact .inl rfl
            | some g => right; intro e; have h := HLT5.out _ e.symm; have := (HQ4.out.own.lt g hu).2; omega))
          have HB7 : Hid (Below W.heap.size W _) := HB5.out.grown hg.out HB5.out.size (fun g e => Nat.le_trans HB4.out.size (HLT5.out g e))
          clear hg ho HO6 HQ5 HQ4
          go_wp2_with fail
          refine (words_ar HQ7.out HF.out).mono ?_
          rintro e w8 ⟨A8, c8, rfl, hown, hb⟩
          have HR8 := Lib.hid (Rw.of_own hown HV.out.fit)
          have HB8 := Lib.hid (HB7.out.trans (hb.mono HB7.out.size))
          have HV8 := Lib.hid (HV.out.below HB8.out)
          clear hown hb
          go_wp2_with fail
          refine (same_any HR8.out HV8.out).mono ?_
          rw [sameB_refl]
          rintro e w9 ⟨rfl, k9, rfl⟩
          go_wp2_with fail
          refine (awake02 _).mono ?_
          rintro e w' ⟨rfl, hb2⟩
          go_wp2
          go_ret
          exact ⟨rfl, HB8.out.trans ((below_of_drewN hb2).mono HB8.out.size)⟩
theorem arenaMakes_walk (n : Int) (v : Value) (W : World) (hn : -9223372036854775808 ≤ n ∧ n ≤ 9223372036854775807) (hv : ∃ ws, Rw W v ws) : Calls Try.prog 7 #[.int .i64 n, v] W fun e w' => e = .returned (.bool true) ∧ Below W.heap.size W w' := by
  obtain ⟨ws, hv⟩ := hv
  by_cases h : n < 0 ∨ 98304 < n
  · exact arenaMakes_bad n v W h
  · obtain ⟨N, rfl⟩ := Int.eq_ofNat_of_zero_le (show 0 ≤ n by omega)
    by_cases hm : ws.length ≤ 200
    · exact arenaMakes_short N v ws W (by omega) hv hm
    · obtain ⟨A, c, rfl, h1, h2, _⟩ := hv.reads
      unfold maxLen at h2
      exact arenaMakes_long N A ws.length c W (by omega) (by omega) (by omega)
end Go.Proofs.Ytcljgphipdbckaa
