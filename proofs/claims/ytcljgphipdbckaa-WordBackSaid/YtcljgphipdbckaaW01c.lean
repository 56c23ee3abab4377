/- The walks of layer 1 (word), third part: digits. -/
import Derived.Test.YtcljgphipdbckaaW01b
import Derived.Test.YtcljgphipdbckaaP01h
namespace Go.Proofs.Ytcljgphipdbckaa
open Go.RowKit

set_option maxHeartbeats 400000 in
theorem hex_any (w : Int) (W : World) (hw : U64 w) :
    Calls Try.prog 32 #[.int .u64 w] W fun e w' => e = .returned (.string ⟨(hexL w.toNat).toArray⟩) ∧ Below W.heap.size W w' := by
  obtain ⟨V, rfl, hV⟩ := hw.nat
  clear hw
  go_enter Try.func32, Try.ntmps32
  go_wp2
  go_loopw [5] (fun i w' => ∃ k : Nat, k ≤ 16 ∧ i = .int .i64 (k : Nat) ∧ w' = W.alloc (.cells (hexA V k) 119)) (fun i _ => 16 - (intOf i).toNat)
  case atStart => exact ⟨0, by omega, rfl, by rw [hexA_zero]⟩
  case round =>
    obtain ⟨k, hk, rfl, rfl⟩ := hrel
    by_cases hlt : k < 16
    · have hA : (hexA V k)[k]? = some (.int .u8 0) := by rw [hexA_get V k k hlt, if_neg (by omega)]
      have hd := hex_and V k hV
      have hd2 := hexd_lt V k
      go_wp2
      go_roundw
      case rel =>
        exact ⟨k + 1, by omega, by go_num, by rw [hexA_step V k _ (by rw [← digS_get (hexd V k) hd2]; rfl)]⟩
      case measure => simp [intOf] <;> omega
    · obtain rfl : k = 16 := by omega
      have hcv := run_convert_bytes_back (P := Try.prog) (W.alloc (.cells (hexA V 16) 119)) 120 9 5 ⟨W.heap.size, 0, none⟩ 16 (hexL V) Try.underlying120 Try.underlying5 Try.underlying9 (fun j hj => by rw [hexL_get]; rw [hexL_length] at hj; rw [add0, World.cell?_alloc_new]; simpa [hj] using hexA_get V 16 j hj)
      rw [hexL_length] at hcv
      go_wp2
      go_ret
      exact ⟨rfl, (Below.refl _ _).alloc (Nat.le_refl _) _⟩

set_option maxHeartbeats 400000 in
theorem rhex_any (w : Int) (W : World) (hw : U64 w) :
    Calls Try.prog 33 #[.int .u64 w] W fun e w' => e = .returned (.string ⟨(hexL w.toNat).toArray⟩) ∧ W = w' := by
  obtain ⟨V, rfl, hV⟩ := hw.nat
  clear hw
  go_enter Try.func33, Try.ntmps33
  go_wp2
  go_loop [0, 3, 4] (fun u s i => ∃ k U : Nat, k ≤ 16 ∧ i = .int .i64 (k : Nat) ∧ u = .int .u64 (U : Nat) ∧ U < 18446744073709551616 ∧ Hid (U = V / 2 ^ (4 * k)) ∧ ∃ l : List UInt8, s = .string ⟨l.toArray⟩ ∧ Hid (l = (hexL V).drop (16 - k))) (fun _ _ i => 16 - (intOf i).toNat)
  case atStart => exact ⟨0, V, by omega, rfl, rfl, hV, by show V = _; simp, [], rfl, by show [] = _; rw [List.drop_of_length_le (by rw [hexL_length]; omega)]⟩
  case round =>
    obtain ⟨k, U, hk, rfl, rfl, hU, hu, l, rfl, hl⟩ := hrel
    by_cases hlt : k < 16
    · have hll : l.length ≤ 16 := by rw [hl.out, List.length_drop, hexL_length]; omega
      go_wp2
      go_round
      case rel =>
        refine ⟨k + 1, U / 16, by omega, by go_num, by go_num, by omega, by show U / 16 = _; rw [hu.out, next_hex], dg (U % 16) :: l, ?_, ?_⟩
        · exact congrArg Value.string (digS_extract (U % 16) (Nat.mod_lt _ (by decide)) l)
        · show dg (U % 16) :: l = _
          rw [hl.out, hexL_drop V k hlt, hu.out]
      case measure => simp [intOf] <;> omega
    · obtain rfl : k = 16 := by omega
      go_wp2
      go_ret
      exact ⟨by rw [hl.out]; simp, rfl⟩

/-! ### a word that is read -/
set_option maxHeartbeats 400000 in
theorem rread_any (s : ByteArray) (W : World) :
    Calls Try.prog 25 #[.string s] W fun e w' => e = .returned (.tuple #[.int .u64 (rdW s), .int .i64 (rdE s)]) ∧ W = w' := by
  by_cases hs : s.size = 16
  · have h1 : s.size ≤ 16 := by omega
    have h2 : 16 ≤ s.size := by omega
    have hrd : rdO s = readF s.data.toList 0 := by unfold rdO; rw [if_pos hs]
    have HR := Lib.hid hrd
    have hsb : ((s.size : Int) != 16) = false := by simp [hs]
    clear hrd hs
    go_enter Try.func25, Try.ntmps25
    go_wp2
    go_loop [4, 5] (fun u i => ∃ k U : Nat, k ≤ 16 ∧ i = .int .i64 (k : Nat) ∧ u = .int .u64 (U : Nat) ∧ U < 16 ^ k ∧ Hid (readF s.data.toList 0 = readF (s.data.toList.drop k) U)) (fun _ i => 16 - (intOf i).toNat)
    case atStart => exact ⟨0, 0, by omega, rfl, rfl, by omega, by show _ = _; simp⟩
    case round =>
      obtain ⟨k, U, hk, rfl, rfl, hU, hr⟩ := hrel
      by_cases hlt : k < 16
      · have hks : k < s.size := by omega
        have hstep := readF_drop s k hks U
        have hp := pow16 k hlt
        have hU2 : U < 1152921504606846976 := by omega
        have hb : (s[k]'hks).toNat < 256 := (s[k]'hks).toNat_lt
        have hpow : 16 ^ (k + 1) = 16 ^ k * 16 := Nat.pow_succ ..
        have HP := Lib.hid hpow
        clear hpow
        have goOn : ∀ d : Int, undig (s[k]'hks) = d → 0 ≤ d → d < 16 → ∃ U' : Nat, U' < 16 ^ (k + 1) ∧ (U' : Int) = U * 16 + d ∧ readF s.data.toList 0 = readF (s.data.toList.drop (k + 1)) U' := by
          intro d hd h0 h16
          refine ⟨U * 16 + d.toNat, by rw [HP.out]; omega, by omega, ?_⟩
          rw [hr.out, hstep, hd, if_neg (by omega)]
        have GO := Lib.hid goOn
        clear goOn
        by_cases c1 : 48 ≤ (s[k]'hks).toNat ∧ (s[k]'hks).toNat ≤ 57
        · obtain ⟨a1, a2⟩ := c1
          obtain ⟨U', g1, g2, g3⟩ := GO.out _ (undig_num a1 a2) (by omega) (by omega)
          have G2 := Lib.hid g2
          have G3 := Lib.hid g3
          clear g2 g3 hstep hU hp
          go_wp2
          go_round
          case rel => exact ⟨k + 1, U', by omega, by go_num, by rw [G2.out], g1, G3⟩
          case measure => simp [intOf] <;> omega
        · by_cases c2 : 97 ≤ (s[k]'hks).toNat ∧ (s[k]'hks).toNat ≤ 102
          · obtain ⟨a1, a2⟩ := c2
            obtain ⟨U', g1, g2, g3⟩ := GO.out _ (undig_let a1 a2) (by omega) (by omega)
            have G2 := Lib.hid g2
            have G3 := Lib.hid g3
            clear g2 g3 hstep hU hp
            go_wp2
            go_round
            case rel => exact ⟨k + 1, U', by omega, by go_num, by rw [G2.out]; go_num, g1, G3⟩
            case measure => simp [intOf] <;> omega
          · have hf := rd_none (s := s) (by rw [HR.out, hr.out, hstep, undig_none c1 c2]; rfl)
            have HF := Lib.hid hf
            clear hf hstep hU hp
            by_cases d1 : 48 ≤ (s[k]'hks).toNat
            · by_cases d2 : 97 ≤ (s[k]'hks).toNat
              all_goals
                go_wp2
                go_ret2
                exact ⟨by rw [HF.out.1, HF.out.2]; rfl, rfl⟩
            · go_wp2
              go_ret2
              exact ⟨by rw [HF.out.1, HF.out.2]; rfl, rfl⟩
      · obtain rfl : k = 16 := by omega
        have hf := rd_some (w := U) (by rw [HR.out, hr.out, readF_end s U h1])
        have HF := Lib.hid hf
        clear hf
        go_wp2
        go_ret2
        exact ⟨by rw [HF.out.1, HF.out.2]; rfl, rfl⟩
  · have hf := rd_none (s := s) (by unfold rdO; rw [if_neg hs])
    have HF := Lib.hid hf
    clear hf
    go_enter Try.func25, Try.ntmps25
    go_wp2
    go_ret2
    exact ⟨by rw [HF.out.1, HF.out.2]; rfl, rfl⟩
set_option maxHeartbeats 800000 in
theorem read_any (s : ByteArray) (W : World) :
    Calls Try.prog 24 #[.string s] W fun e w' => e = .returned (.tuple #[.int .u64 (rdW s), .int .i64 (rdE s)]) ∧ ∃ m, W.drewN m = w' := by
  by_cases hs : s.size = 16
  · have h1 : s.size ≤ 16 := by omega
    have h2 : 16 ≤ s.size := by omega
    have hrd : rdO s = readF s.data.toList 0 := by unfold rdO; rw [if_pos hs]
    have HR := Lib.hid hrd
    have hsb : ((s.size : Int) != 16) = false := by simp [hs]
    clear hrd hs
    go_enter Try.func24, Try.ntmps24
    go_wp2
    go_loopw [4, 13] (fun u i w' => ∃ k U m : Nat, k ≤ 16 ∧ i = .int .i64 (k : Nat) ∧ u = .int .u64 (U : Nat) ∧ U < 16 ^ k ∧ Hid (readF s.data.toList 0 = readF (s.data.toList.drop k) U) ∧ w' = W.drewN m) (fun _ i _ => 16 - (intOf i).toNat)
    case atStart => exact ⟨0, 0, 0, by omega, rfl, rfl, by omega, by show _ = _; simp, rfl⟩
    case round =>
      obtain ⟨k, U, m, hk, rfl, rfl, hU, hr, rfl⟩ := hrel
      by_cases hlt : k < 16
      · have hks : k < s.size := by omega
        have hstep := readF_drop s k hks U
        have hp := pow16 k hlt
        have hU2 : U < 1152921504606846976 := by omega
        have hbd := undig_bd (s[k]'hks)
        have hpow : 16 ^ (k + 1) = 16 ^ k * 16 := Nat.pow_succ ..
        have HP := Lib.hid hpow
        have HS := Lib.hid hstep
        have HU := Lib.hid hU
        clear hpow hstep hU hp
        go_wp2
        go_loopw [6, 16] (fun d j w' => ∃ q m' : Nat, q ≤ 16 ∧ j = .int .i64 (q : Nat) ∧ d = .int .i64 (dAt (s[k]'hks) q) ∧ w' = W.drewN m') (fun _ j _ => 16 - (intOf j).toNat)
        case atStart => exact ⟨0, m, by omega, rfl, by rw [dAt_zero], rfl⟩
        case round =>
          obtain ⟨q, m', hq, rfl, rfl, rfl⟩ := hrel
          by_cases hq2 : q < 16
          · by_cases hc : dg q = s[k]'hks
            · have hcmp := dig_beq q hq2 (s[k]'hks)
              rw [decide_eq_true hc] at hcmp
              have HD := Lib.hid (dAt_yes _ q hq2 hc)
              clear hc
              go_wp2
              go_quiet (fail)
              go_wp2
              go_roundw
              case rel => exact ⟨q + 1, _, by omega, by go_num, by rw [HD.out], rfl⟩
              case measure => simp [intOf] <;> omega
            · have hcmp := dig_beq q hq2 (s[k]'hks)
              rw [decide_eq_false hc] at hcmp
              have HD := Lib.hid (dAt_no _ q hq2 hc)
              clear hc
              go_wp2
              go_quiet (fail)
              go_wp2
              go_roundw
              case rel => exact ⟨q + 1, _, by omega, by go_num, by rw [HD.out], rfl⟩
              case measure => simp [intOf] <;> omega
          · obtain rfl : q = 16 := by omega
            have hl := dAt_last (s[k]'hks)
            by_cases hn : undig (s[k]'hks) < 0
            · have hf := rd_none (s := s) (by rw [HR.out, hr.out, HS.out, if_pos hn])
              have HF := Lib.hid hf
              clear hf
              go_wp2
              go_ret2
              exact ⟨by rw [HF.out.1, HF.out.2]; rfl, _, rfl⟩
            · obtain ⟨D, hD⟩ := Int.eq_ofNat_of_zero_le (show 0 ≤ undig (s[k]'hks) by omega)
              have hD16 : D < 16 := by omega
              have hor := Lib.hid (or_word U D hD16 (by omega))
              have hnext := Lib.hid (show readF s.data.toList 0 = readF (s.data.toList.drop (k + 1)) (U * 16 + D) by
                rw [hr.out, HS.out, if_neg hn, hD, Int.toNat_natCast])
              rw [hD] at hl
              clear hn hD
              go_wp2
              go_roundw
              case rel => exact ⟨k + 1, U * 16 + D, _, by omega, by go_num, by rw [hor.out], by have := HP.out; have := HU.out; omega, hnext, rfl⟩
              case measure => simp [intOf] <;> omega
      · obtain rfl : k = 16 := by omega
        have hf := rd_some (w := U) (by rw [HR.out, hr.out, readF_end s U h1])
        have HF := Lib.hid hf
        clear hf
        go_wp2
        go_ret2
        exact ⟨by rw [HF.out.1, HF.out.2]; rfl, _, rfl⟩
  · have hf := rd_none (s := s) (by unfold rdO; rw [if_neg hs])
    have HF := Lib.hid hf
    clear hf
    go_enter Try.func24, Try.ntmps24
    go_wp2
    go_ret2
    exact ⟨by rw [HF.out.1, HF.out.2]; rfl, 0, rfl⟩
end Go.Proofs.Ytcljgphipdbckaa
