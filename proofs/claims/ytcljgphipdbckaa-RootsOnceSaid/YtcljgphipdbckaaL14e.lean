/- The law RootsOnce. -/
import Derived.Test.YtcljgphipdbckaaL14d
namespace Go.Proofs.Ytcljgphipdbckaa
set_option linter.unusedVariables false
set_option linter.unusedSimpArgs false
open Go.RowKit

set_option maxRecDepth 100000 in
set_option maxHeartbeats 16000000 in
theorem rootsOnce_short {W : World} {A0 : Option Addr} {ss0 : List Slot} {c0 : Nat} {D : Option Addr} {ds : List Int} {cd : Nat} (hv : Sw W (.slice A0 ss0.length c0) ss0) (hdv : Iw W (.slice D ds.length cd) ds) (hn60 : ss0.length ≤ 60) (hd40 : ds.length ≤ 40) :
    Calls Try.prog 14 #[.slice A0 ss0.length c0, .slice D ds.length cd] W (Out W (.bool true)) := by
  have hR0 := right_any (ss0.length : Int) hv
  have HV := Lib.hid hv
  have HD := Lib.hid hdv
  obtain ⟨⟨A', c', e, a1, a2, _⟩, _⟩ := id hv
  simp only [Value.slice.injEq] at e
  obtain ⟨rfl, _, rfl⟩ := e
  obtain ⟨D', cd', e, d1, d2, _⟩ := id hdv
  simp only [Value.slice.injEq] at e
  obtain ⟨rfl, _, rfl⟩ := e
  unfold maxLen at a2 d2
  have HA0 : Hid (0 < ss0.length → ∀ g, (Value.slice A0 ss0.length c0).ownBlock = some g → g < W.heap.size) := by
    intro hpos g hg
    obtain ⟨b, o, rfl, hb, _⟩ := HV.out.at_ hpos
    simp [Value.ownBlock] at hg
    omega
  have HRM : Hid (rightB ss0 (ss0.length : Int) = true → (∀ k, k < ss0.length → mayS (slot ss0 k) = true) ∧ 1 ≤ ss0.length) := fun h => ⟨(right_may h).1, by have := (right_may h).2.2.1; omega⟩
  generalize hrb : rightB ss0 (ss0.length : Int) = rb at *
  generalize hn0 : ss0.length = n0 at *
  generalize hnd : ds.length = nd at *
  have HLEN := Lib.hid hn0
  have HDL := Lib.hid hnd
  clear hnd hrb hn0 hv hdv
  have n60 : (n0 : Int) ≤ 60 := by omega
  have d40 : (nd : Int) ≤ 40 := by omega
  cases rb with
  | false =>
    have k := Lib.hid hR0
    clear hR0
    go_enter Try.func14, Try.ntmps14
    go_wp2_with fail
    refine k.out.mono ?_
    rintro e w1 ⟨rfl, hb⟩
    have B1 := Lib.hid hb
    clear hb
    go_wp2_with fail
    refine (awake14 _).mono ?_
    rintro e wa ⟨rfl, hb⟩
    have B := Lib.hid (below_tr14 B1.out hb)
    clear hb
    go_wp2
    go_ret
    exact ⟨rfl, B.out⟩
  | true =>
    have k := Lib.hid hR0
    clear hR0
    obtain ⟨hmay, h1n⟩ := HRM.out rfl
    have HMAY := Lib.hid hmay
    clear hmay HRM
    go_enter Try.func14, Try.ntmps14
    go_wp2_with fail
    refine k.out.mono ?_
    rintro e w1 ⟨rfl, hb⟩
    have B1 := Lib.hid hb
    have HV1 := Lib.hid (HV.out.below hb)
    clear hb k
    go_wp2
    go_loopw [5] (fun i wr => ∃ k : Nat, k ≤ n0 ∧ i = .int .i64 (k : Nat) ∧ Hid (∀ j, j < k → (slot ss0 j).gen ≤ 549755813888) ∧ wr = w1) (fun i _ => n0 - (intOf i).toNat)
    case atStart => exact ⟨0, by omega, rfl, fun j hj => absurd hj (by omega), rfl⟩
    case round =>
      obtain ⟨k, hk, rfl, hgen, rfl⟩ := hrel
      by_cases hlt : k < n0
      · obtain ⟨b, o, rfl, hbl, hc⟩ := HV1.out.at_ (by rw [HLEN.out]; omega)
        obtain ⟨_, cc1, _⟩ := hc k (by rw [HLEN.out]; exact hlt)
        have hi0 : (0 : Int) ≤ (k : Int) := by omega
        have hi1 : (k : Int) < (n0 : Int) := by omega
        obtain ⟨sg, hsg⟩ : ∃ sg, sg = (slot ss0 k).gen := ⟨_, rfl⟩
        rw [← hsg] at cc1
        clear hc
        by_cases hbig : 549755813888 < sg
        · clear hsg
          go_wp2_with fail
          refine (awake14 _).mono ?_
          rintro e wa ⟨rfl, hb⟩
          have B := Lib.hid (below_tr14 B1.out hb)
          clear hb
          go_wp2
          go_ret
          exact ⟨rfl, B.out⟩
        · have HG : Hid (∀ j, j < k + 1 → (slot ss0 j).gen ≤ 549755813888) := by
            intro j hj
            rcases Nat.lt_or_ge j k with h1 | h1
            · exact hgen.out j h1
            · obtain rfl : j = k := by omega
              rw [← hsg]; omega
          clear hsg hgen
          go_wp2
          go_roundw
          case rel => exact ⟨k + 1, by omega, by go_num, HG, by first | rfl | trivial⟩
          case measure => simp [intOf] <;> omega
      · obtain rfl : k = n0 := by omega
        have hfine := Fine.start (ss := ss0) (fun j hj => HMAY.out j (by rw [← HLEN.out]; exact hj)) (fun j hj => hgen.out j (by rw [← HLEN.out]; exact hj)) HV.out.2
        have T0 : Hid (TS W wr 0 k 0 A0 c0 ss0 none 0 [] none 0 []) := ⟨hfine, HLEN.out, rfl, HV1.out, .inl (HA0.out (by omega)), World.ownsRow_nil _ _ _ _, World.ownsRow_nil _ _ _ _, B1.out⟩
        clear hfine hgen
        generalize hnn : k = n0 at *
        clear hnn
        go_wp2
        go_loopw [0, 6, 7, 8] (fun x0 x6 x7 i wr => ∃ (k nt : Nat) (A : Option Addr) (c : Nat) (ss : List Slot) (At : Option Addr) (ct : Nat) (ts : List Int) (Aa : Option Addr) (ca : Nat) (al : List Bool), k ≤ nd ∧ i = .int .i64 (k : Nat) ∧ x0 = .slice A n0 c ∧ x6 = .slice At nt ct ∧ x7 = .slice Aa nt ca ∧ nt ≤ k ∧ Hid (TS W wr k n0 nt A c ss At ct ts Aa ca al)) (fun _ _ _ i _ => nd - (intOf i).toNat)
        case atStart => exact ⟨0, 0, A0, c0, ss0, none, 0, [], none, 0, [], by omega, by first | rfl | trivial, by first | rfl | trivial, by first | rfl | trivial, by first | rfl | trivial, by omega, T0⟩
        case round =>
          clear T0 B1 HV1
          obtain ⟨k, nt, A, c, ss, At, ct, ts, Aa, ca, al, hk, rfl, rfl, rfl, rfl, hnt, T⟩ := hrel
          by_cases hlt : k < nd
          · have hk0 : (0 : Int) ≤ (k : Int) := by omega
            have hk1 : (k : Int) < (nd : Int) := by omega
            have hk40 : k < 40 := by omega
            obtain ⟨bd, od, eD, hbd, hcd⟩ := (HD.out.below T.out.below).at_ (by rw [HDL.out]; omega)
            have hd := hcd k (by rw [HDL.out]; exact hlt)
            subst eD
            clear hcd
            generalize hdi : ds.getD k 0 = di at *
            by_cases hpos : 0 ≤ di
            · obtain ⟨K, rfl⟩ := Int.eq_ofNat_of_zero_le hpos
              by_cases hKn : K < nt
              · -- drop
                have hK1 : (K : Int) < (nt : Int) := by omega
                obtain ⟨gt, eAt, hgt, ht⟩ := T.out.told_at hKn
                subst eAt
                have hG := Lib.hid (drop_once T.out (by omega) _ (T.out.hd_max (by omega) hKn))
                have HFD := Lib.hid (T.out.fine.drop hk40 K (by rw [T.out.tlen]; exact hKn)).1
                generalize hhx : ts.getD K 0 = hx at *
                have HHX := Lib.hid hhx
                clear hhx hpos
                go_wp2_with fail
                refine hG.out.mono ?_
                rintro e w1 ⟨A1, c1, rfl, ho, hb⟩
                have T2 := Lib.hid (T.out.step hb)
                have hd2 := (hb.cell (p := ⟨bd, od + k, none⟩) hbd).trans hd
                obtain ⟨ga, eAa, hga1, hga2, ha, hfz⟩ := T2.out.live_at hKn
                subst eAa
                have TD := Lib.hid (T2.out.drop hk40 hKn (by rw [HHX.out]; exact ho))
                rw [HHX.out] at TD
                clear ho hb hG hd T
                generalize hav : al.getD K false = av at *
                generalize hE : fndE ss hx = E at *
                have hne : (E == 0) = av := by rw [HFD.out]; by_cases h : E = 0 <;> simp [h]
                clear hav hE HFD
                go_wp2
                have T := TD
                clear TD T2 ha hfz hd2 hne
                go_loopw [17] (fun j wq => ∃ p : Nat, p ≤ nt ∧ j = .int .i64 (p : Nat) ∧ Hid (TS W wq (k + 1) n0 (nt) (A1) c1 (dropL ss hx) (some ⟨gt, 0, none⟩) ct (ts) (some ⟨ga, 0, none⟩) ca (al.set K false))) (fun j _ => nt - (intOf j).toNat)
                case atStart => exact ⟨0, by omega, rfl, T⟩
                case round =>
                  obtain ⟨p, hq, rfl, T⟩ := hrel
                  by_cases hql : p < nt
                  · have hq0 : (0 : Int) ≤ (p : Int) := by omega
                    have hq1 : (p : Int) < ((nt : Nat) : Int) := by omega
                    obtain ⟨gt, eAt, hgt, ht⟩ := T.out.told_at hql
                    have HE := Lib.hid eAt
                    have hG := Lib.hid (get_once T.out _ (T.out.hd_max (by omega) hql))
                    have hlv := T.out.fine.live p (by rw [T.out.tlen]; exact hql)
                    generalize hhy : (ts).getD p 0 = hy at *
                    generalize hga : getW (dropL ss hx) hy = gw at *
                    generalize hav : (al.set K false).getD p false = av at *
                    have eAt := (Option.some.inj eAt); injection eAt with eAt; subst eAt
                    cases hf : fndB (dropL ss hx) hy with
                    | true =>
                      have hE : fndE (dropL ss hx) hy = 0 := (fnd_yes hf).2
                      rw [hf] at hlv
                      subst hlv
                      rw [hE] at hG
                      clear hf hE
                      go_wp2_with fail
                      refine hG.out.mono ?_
                      rintro e wz ⟨rfl, hb⟩
                      have T2 := Lib.hid (T.out.step hb)
                      obtain ⟨ga, eAa, _, _, ha, _⟩ := T2.out.live_at hql
                      rw [hav] at ha
                      have eAa := (Option.some.inj eAa); injection eAa with eAa; subst eAa
                      clear hb T hG
                      go_wp2
                      go_roundw
                      case rel => exact ⟨p + 1, by omega, by go_num, T2⟩
                      case measure => simp [intOf] <;> omega
                    | false =>
                      have hE : fndE (dropL ss hx) hy = 5 := (fnd_no hf).2
                      rw [hf] at hlv
                      subst hlv
                      rw [hE] at hG
                      clear hf hE
                      go_wp2_with fail
                      refine hG.out.mono ?_
                      rintro e wz ⟨rfl, hb⟩
                      have T2 := Lib.hid (T.out.step hb)
                      obtain ⟨ga, eAa, _, _, ha, _⟩ := T2.out.live_at hql
                      rw [hav] at ha
                      have eAa := (Option.some.inj eAa); injection eAa with eAa; subst eAa
                      clear hb T hG
                      go_wp2
                      go_roundw
                      case rel => exact ⟨p + 1, by omega, by go_num, T2⟩
                      case measure => simp [intOf] <;> omega
                  · obtain rfl : p = nt := by omega
                    go_wp2
                    go_roundw
                    case rel => exact ⟨k + 1, p, A1, c1, dropL ss hx, some ⟨gt, 0, none⟩, ct, ts, some ⟨ga, 0, none⟩, ca, al.set K false, by omega, by go_num, rfl, rfl, rfl, by omega, T⟩
                    case measure => simp [intOf] <;> omega
              · -- no such
                have hK1 : ¬ ((K : Int) < (nt : Int)) := by omega
                have T := Lib.hid T.out.next
                go_wp2
                clear hd
                go_loopw [17] (fun j wq => ∃ p : Nat, p ≤ nt ∧ j = .int .i64 (p : Nat) ∧ Hid (TS W wq (k + 1) n0 (nt) (A) c (ss) (At) ct (ts) (Aa) ca (al))) (fun j _ => nt - (intOf j).toNat)
                case atStart => exact ⟨0, by omega, rfl, T⟩
                case round =>
                  obtain ⟨p, hq, rfl, T⟩ := hrel
                  by_cases hql : p < nt
                  · have hq0 : (0 : Int) ≤ (p : Int) := by omega
                    have hq1 : (p : Int) < ((nt : Nat) : Int) := by omega
                    obtain ⟨gt, eAt, hgt, ht⟩ := T.out.told_at hql
                    have HE := Lib.hid eAt
                    have hG := Lib.hid (get_once T.out _ (T.out.hd_max (by omega) hql))
                    have hlv := T.out.fine.live p (by rw [T.out.tlen]; exact hql)
                    generalize hhy : (ts).getD p 0 = hy at *
                    generalize hga : getW (ss) hy = gw at *
                    generalize hav : (al).getD p false = av at *
                    subst eAt
                    cases hf : fndB (ss) hy with
                    | true =>
                      have hE : fndE (ss) hy = 0 := (fnd_yes hf).2
                      rw [hf] at hlv
                      subst hlv
                      rw [hE] at hG
                      clear hf hE
                      go_wp2_with fail
                      refine hG.out.mono ?_
                      rintro e wz ⟨rfl, hb⟩
                      have T2 := Lib.hid (T.out.step hb)
                      obtain ⟨ga, eAa, _, _, ha, _⟩ := T2.out.live_at hql
                      rw [hav] at ha
                      subst eAa
                      clear hb T hG
                      go_wp2
                      go_roundw
                      case rel => exact ⟨p + 1, by omega, by go_num, T2⟩
                      case measure => simp [intOf] <;> omega
                    | false =>
                      have hE : fndE (ss) hy = 5 := (fnd_no hf).2
                      rw [hf] at hlv
                      subst hlv
                      rw [hE] at hG
                      clear hf hE
                      go_wp2_with fail
                      refine hG.out.mono ?_
                      rintro e wz ⟨rfl, hb⟩
                      have T2 := Lib.hid (T.out.step hb)
                      obtain ⟨ga, eAa, _, _, ha, _⟩ := T2.out.live_at hql
                      rw [hav] at ha
                      subst eAa
                      clear hb T hG
                      go_wp2
                      go_roundw
                      case rel => exact ⟨p + 1, by omega, by go_num, T2⟩
                      case measure => simp [intOf] <;> omega
                  · obtain rfl : p = nt := by omega
                    go_wp2
                    go_roundw
                    case rel => exact ⟨k + 1, p, A, c, ss, At, ct, ts, Aa, ca, al, by omega, by go_num, rfl, rfl, rfl, by omega, T⟩
                    case measure => simp [intOf] <;> omega
            · have wm : IntKind.i64.wrap (4 * (k : Int)) = 4 * (k : Int) := Go.IntWalk.i64_in _ (by omega)
              have wa : IntKind.i64.wrap (4 * (k : Int) + 1) = 4 * (k : Int) + 1 := Go.IntWalk.i64_in _ (by omega)
              have wu : IntKind.u64.wrap (4 * (k : Int) + 1) = 4 * (k : Int) + 1 := by rw [IntKind.wrap_u64]; omega
              have hG := Lib.hid (put_once T.out (by omega) (4 * (k : Int) + 1) ⟨by omega, by omega⟩)
              have HP := T.out.fine.put hk40 (by rw [T.out.len]; omega) (4 * (k : Int) + 1) rfl
              rw [T.out.len] at HP
              generalize hss' : putL ss (4 * (k : Int) + 1) = ss' at *
              generalize hH : putH ss = H at *
              rcases HP with ⟨hE, hu, hLL⟩ | ⟨hE, hu, hap, hfe, hge, hfine, hlo, hhi⟩
              · rw [hE] at hG
                have hu' : (decide (usedN ss < n0)) = false := by simpa using hu
                clear hE hLL
                go_wp2_with fail
                refine hG.out.mono ?_
                rintro e w1 ⟨A1, c1, rfl, ho, hb⟩
                have T := Lib.hid (T.out.step hb)
                clear hb ho hG
                have hU := Lib.hid (used_once T.out)
                generalize usedN ss = U at *
                go_wp2_with fail
                refine hU.out.mono ?_
                rintro e w2 ⟨rfl, hb⟩
                have T := Lib.hid (T.out.step hb).next
                clear hb hU
                go_wp2
                clear hd
                go_loopw [17] (fun j wq => ∃ p : Nat, p ≤ nt ∧ j = .int .i64 (p : Nat) ∧ Hid (TS W wq (k + 1) n0 (nt) (A) c (ss) (At) ct (ts) (Aa) ca (al))) (fun j _ => nt - (intOf j).toNat)
                case atStart => exact ⟨0, by omega, rfl, T⟩
                case round =>
                  obtain ⟨p, hq, rfl, T⟩ := hrel
                  by_cases hql : p < nt
                  · have hq0 : (0 : Int) ≤ (p : Int) := by omega
                    have hq1 : (p : Int) < ((nt : Nat) : Int) := by omega
                    obtain ⟨gt, eAt, hgt, ht⟩ := T.out.told_at hql
                    have HE := Lib.hid eAt
                    have hG := Lib.hid (get_once T.out _ (T.out.hd_max (by omega) hql))
                    have hlv := T.out.fine.live p (by rw [T.out.tlen]; exact hql)
                    generalize hhy : (ts).getD p 0 = hy at *
                    generalize hga : getW (ss) hy = gw at *
                    generalize hav : (al).getD p false = av at *
                    subst eAt
                    cases hf : fndB (ss) hy with
                    | true =>
                      have hE : fndE (ss) hy = 0 := (fnd_yes hf).2
                      rw [hf] at hlv
                      subst hlv
                      rw [hE] at hG
                      clear hf hE
                      go_wp2_with fail
                      refine hG.out.mono ?_
                      rintro e wz ⟨rfl, hb⟩
                      have T2 := Lib.hid (T.out.step hb)
                      obtain ⟨ga, eAa, _, _, ha, _⟩ := T2.out.live_at hql
                      rw [hav] at ha
                      subst eAa
                      clear hb T hG
                      go_wp2
                      go_roundw
                      case rel => exact ⟨p + 1, by omega, by go_num, T2⟩
                      case measure => simp [intOf] <;> omega
                    | false =>
                      have hE : fndE (ss) hy = 5 := (fnd_no hf).2
                      rw [hf] at hlv
                      subst hlv
                      rw [hE] at hG
                      clear hf hE
                      go_wp2_with fail
                      refine hG.out.mono ?_
                      rintro e wz ⟨rfl, hb⟩
                      have T2 := Lib.hid (T.out.step hb)
                      obtain ⟨ga, eAa, _, _, ha, _⟩ := T2.out.live_at hql
                      rw [hav] at ha
                      subst eAa
                      clear hb T hG
                      go_wp2
                      go_roundw
                      case rel => exact ⟨p + 1, by omega, by go_num, T2⟩
                      case measure => simp [intOf] <;> omega
                  · obtain rfl : p = nt := by omega
                    go_wp2
                    go_roundw
                    case rel => exact ⟨k + 1, p, A, c, ss, At, ct, ts, Aa, ca, al, by omega, by go_num, rfl, rfl, rfl, by omega, T⟩
                    case measure => simp [intOf] <;> omega
              · rw [hE] at hG
                have hu' : (decide (usedN ss < n0)) = true := by simpa using hu
                have HAP := Lib.hid hap
                have HFE := Lib.hid hfe
                have HGE := Lib.hid hge
                have HFI := Lib.hid hfine
                have HSL := Lib.hid (show ss'.length = n0 by rw [← hss', putL_len, T.out.len])
                clear hE hap hfe hge hfine
                go_wp2_with fail
                refine hG.out.mono ?_
                rintro e w1 ⟨A1, c1, rfl, ho, hb⟩
                have T := Lib.hid (T.out.step hb)
                have HO := Lib.hid ho
                clear hb ho hG
                have hU := Lib.hid (used_once T.out)
                generalize usedN ss = U at *
                go_wp2_with fail
                refine hU.out.mono ?_
                rintro e w2 ⟨rfl, hb⟩
                have T := Lib.hid (T.out.step hb)
                have HO := Lib.hid (HO.out.kept (row := none) (grown_none hb) (nb_none _))
                clear hb hU hd
                go_wp2
                go_loopw [14] (fun j wq => ∃ q : Nat, q ≤ nt ∧ j = .int .i64 (q : Nat) ∧ wq = w2) (fun j _ => nt - (intOf j).toNat)
                case atStart => exact ⟨0, by omega, rfl, rfl⟩
                case round =>
                  obtain ⟨q, hq, rfl, rfl⟩ := hrel
                  by_cases hql : q < nt
                  · have hq0 : (0 : Int) ≤ (q : Int) := by omega
                    have hq1 : (q : Int) < (nt : Int) := by omega
                    obtain ⟨gt, eAt, hgt, ht⟩ := T.out.told_at hql
                    subst eAt
                    have hne : ((ts.getD q 0) == H) = false := by have := HAP.out q (by rw [T.out.tlen]; exact hql); simpa using this
                    generalize ts.getD q 0 = hq9 at *
                    go_wp2
                    go_roundw
                    case rel => exact ⟨q + 1, by omega, by go_num, by first | rfl | trivial⟩
                    case measure => simp [intOf] <;> omega
                  · obtain rfl : q = nt := by omega
                    go_wp2_with (first | (at_builtin; refine wpList_append1 rfl (.tmp 128) (.tmp 130) 86 3 (.int .i64 0) 8 rfl Try.underlying86 i64_info rfl (by omega) _ W.heap.size q (.slice At q ct) (its ts) (.int .i64 H) rfl T.out.told rfl rfl (by omega) T.out.below.size ?_; intro At2 ct2 w3 hown3 hgr3 _; have L3 := Lib.hid (T.out.live_told hgr3); have O3 := Lib.hid hown3; have G3 := Lib.hid hgr3; have B3 := Lib.hid (below_grown T.out.below T.out.below.size T.out.told hgr3); clear hown3 hgr3) | (at_builtin; refine wpList_append1 rfl (.tmp 132) (.tmp 133) 90 4 (.bool false) 1 rfl Try.underlying90 bool_info rfl (by omega) _ W.heap.size q (.slice Aa q ca) (bls al) (.bool true) rfl L3.out rfl rfl (by omega) B3.out.size ?_; intro Aa2 ca2 w4 hown4 hgr4 _; have T4 := Lib.hid (T.out.put HSL.out HO.out HFI.out (by rw [← its_snoc]; exact O3.out) G3.out (by rw [← bls_snoc]; exact hown4) hgr4); clear hown4 hgr4))
                    have hG := Lib.hid (get_once T4.out H hhi)
                    rw [HGE.out, HFE.out] at hG
                    go_wp2_with fail
                    refine hG.out.mono ?_
                    rintro e w5 ⟨rfl, hb⟩
                    have T := Lib.hid (T4.out.step hb)
                    clear hb hG T4 O3 L3 G3 B3
                    go_wp2
                    go_loopw [17] (fun j wq => ∃ p : Nat, p ≤ q + 1 ∧ j = .int .i64 (p : Nat) ∧ Hid (TS W wq (k + 1) n0 (q + 1) (A1) c1 (ss') (At2) ct2 (ts ++ [H]) (Aa2) ca2 (al ++ [true]))) (fun j _ => q + 1 - (intOf j).toNat)
                    case atStart => exact ⟨0, by omega, rfl, T⟩
                    case round =>
                      obtain ⟨p, hq, rfl, T⟩ := hrel
                      by_cases hql : p < q + 1
                      · have hq0 : (0 : Int) ≤ (p : Int) := by omega
                        have hq1 : (p : Int) < ((q + 1 : Nat) : Int) := by omega
                        obtain ⟨gt, eAt, hgt, ht⟩ := T.out.told_at hql
                        have HE := Lib.hid eAt
                        have hG := Lib.hid (get_once T.out _ (T.out.hd_max (by omega) hql))
                        have hlv := T.out.fine.live p (by rw [T.out.tlen]; exact hql)
                        generalize hhy : (ts ++ [H]).getD p 0 = hy at *
                        generalize hga : getW (ss') hy = gw at *
                        generalize hav : (al ++ [true]).getD p false = av at *
                        subst eAt
                        cases hf : fndB (ss') hy with
                        | true =>
                          have hE : fndE (ss') hy = 0 := (fnd_yes hf).2
                          rw [hf] at hlv
                          subst hlv
                          rw [hE] at hG
                          clear hf hE
                          go_wp2_with fail
                          refine hG.out.mono ?_
                          rintro e wz ⟨rfl, hb⟩
                          have T2 := Lib.hid (T.out.step hb)
                          obtain ⟨ga, eAa, _, _, ha, _⟩ := T2.out.live_at hql
                          rw [hav] at ha
                          subst eAa
                          clear hb T hG
                          go_wp2
                          go_roundw
                          case rel => exact ⟨p + 1, by omega, by go_num, T2⟩
                          case measure => simp [intOf] <;> omega
                        | false =>
                          have hE : fndE (ss') hy = 5 := (fnd_no hf).2
                          rw [hf] at hlv
                          subst hlv
                          rw [hE] at hG
                          clear hf hE
                          go_wp2_with fail
                          refine hG.out.mono ?_
                          rintro e wz ⟨rfl, hb⟩
                          have T2 := Lib.hid (T.out.step hb)
                          obtain ⟨ga, eAa, _, _, ha, _⟩ := T2.out.live_at hql
                          rw [hav] at ha
                          subst eAa
                          clear hb T hG
                          go_wp2
                          go_roundw
                          case rel => exact ⟨p + 1, by omega, by go_num, T2⟩
                          case measure => simp [intOf] <;> omega
                      · obtain rfl : p = q + 1 := by omega
                        go_wp2
                        go_roundw
                        case rel => exact ⟨k + 1, q + 1, A1, c1, ss', At2, ct2, ts ++ [H], Aa2, ca2, al ++ [true], by omega, by go_num, rfl, rfl, rfl, by omega, T⟩
                        case measure => simp [intOf] <;> omega
          · obtain rfl : k = nd := by omega
            have hR := Lib.hid (right_once T.out (by omega) (by omega))
            go_wp2_with fail
            refine hR.out.mono ?_
            rintro e w1 ⟨rfl, hb⟩
            have T := Lib.hid (T.out.step hb)
            clear hb hR
            go_wp2_with fail
            refine (awake14 _).mono ?_
            rintro e w2 ⟨rfl, hb⟩
            have B := Lib.hid (below_tr14 T.out.below hb)
            clear hb
            go_wp2
            go_ret
            exact ⟨rfl, B.out⟩
set_option maxRecDepth 100000 in
set_option maxHeartbeats 800000 in
theorem rootsOnce_long {W : World} (A D : Option Addr) (n c nd cd : Nat) (h : 60 < n ∨ 40 < nd) (h1 : n ≤ c) (h2 : c ≤ 9223372036854775807) (d1 : nd ≤ cd) (d2 : cd ≤ 9223372036854775807) : Calls Try.prog 14 #[.slice A n c, .slice D nd cd] W (Out W (.bool true)) := by
  have H := Lib.hid (awake14 W)
  by_cases h0 : 60 < n
  · have hn1 : (60 : Int) < (n : Int) := by omega
    go_enter Try.func14, Try.ntmps14
    go_wp2_with fail
    refine H.out.mono ?_
    rintro e w1 ⟨rfl, hb⟩
    have HB := Lib.hid hb
    clear hb
    go_wp2
    go_ret
    exact ⟨rfl, HB.out⟩
  · have hn1 : ¬ ((60 : Int) < (n : Int)) := by omega
    have hn2 : (40 : Int) < (nd : Int) := by omega
    go_enter Try.func14, Try.ntmps14
    go_wp2_with fail
    refine H.out.mono ?_
    rintro e w1 ⟨rfl, hb⟩
    have HB := Lib.hid hb
    clear hb
    go_wp2
    go_ret
    exact ⟨rfl, HB.out⟩
theorem rootsOnce_walk (v u : Value) (W : World) (hv : ∃ ss, Sw W v ss) (hu : ∃ ds, Iw W u ds ∧ ∀ x ∈ ds, -9223372036854775808 ≤ x ∧ x ≤ 9223372036854775807) : Calls Try.prog 14 #[v, u] W fun e w' => e = .returned (.bool true) ∧ Below W.heap.size W w' := by
  obtain ⟨ss, hv⟩ := hv
  obtain ⟨ds, hu, _⟩ := hu
  obtain ⟨⟨A, c, rfl, a1, a2, _⟩, _⟩ := id hv
  obtain ⟨D, cd, rfl, d1, d2, _⟩ := id hu
  by_cases hn : ss.length ≤ 60 ∧ ds.length ≤ 40
  · exact rootsOnce_short hv hu hn.1 hn.2
  · unfold maxLen at a2 d2
    exact rootsOnce_long A D ss.length c ds.length cd (by omega) a1 a2 d1 d2
end Go.Proofs.Ytcljgphipdbckaa
