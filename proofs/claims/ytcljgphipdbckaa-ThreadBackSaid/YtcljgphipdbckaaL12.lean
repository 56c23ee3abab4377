/- The law ThreadBack, but for its awake. -/
import Derived.Test.YtcljgphipdbckaaM12
import Derived.Test.YtcljgphipdbckaaP12b
import Derived.Deep.Cut
namespace Go.Proofs.Ytcljgphipdbckaa
set_option linter.unusedVariables false
set_option linter.unusedSimpArgs false
open Go.RowKit

namespace T12
theorem own_blk_no {w : World} {B t s n g t2 : Nat} {v : Value} {xs : List Value} {cs : Array Value} (h : w.ownsRow B t s v n xs) (hk : Blk w g t2 cs) (hne : t ≠ t2) (e : some g = v.ownBlock) : False := own_blk_ne h hk hne e.symm
theorem sep_own {w w1 : World} {B p n c : Nat} {va : Value} {A : Option Addr} {ws us : List Int} (ho : w1.ownsRow w.heap.size 22 1 (.slice A n c) n (wds ws)) (ha : Ar w B p va us) : (Value.slice A n c).ownBlock = none ∨ (Value.slice A n c).ownBlock ≠ va.ownBlock := by
  cases hv : (Value.slice A n c).ownBlock with
  | none => exact .inl rfl
  | some g =>
    refine .inr fun e => ?_
    have h1 := (ho.lt g hv).1
    have h2 := (ha.own.lt g e.symm).2
    omega
theorem own_weaken {w : World} {B B' t n s : Nat} {v : Value} {xs : List Value} (h : w.ownsRow B t s v n xs) (hb : B' ≤ B) : w.ownsRow B' t s v n xs := by
  rcases h with ⟨h1, h2 | ⟨g, cap, cur, e, h3, h4⟩⟩
  · exact ⟨h1, .inl h2⟩
  · exact ⟨h1, .inr ⟨g, cap, cur, e, Nat.le_trans hb h3, h4⟩⟩
theorem made_bools (n : Nat) : (madeCells #[Value.bool false] n).toList = bls (List.replicate n false) := by
  apply List.ext_getElem?
  intro i
  by_cases h : i < n
  · simp [madeCells, bls, h, Nat.mod_one]
  · rw [List.getElem?_eq_none (by simp [madeCells]; omega), List.getElem?_eq_none (by simp [bls]; omega)]
theorem made_own (w : World) (n : Nat) (hn : n ≤ 1000000) : (w.alloc (.cells (madeCells #[.bool false] n) 4)).ownsRow w.heap.size 4 1 (.slice (some ⟨w.heap.size, 0, none⟩) n n) n (bls (List.replicate n false)) := by
  rw [← made_bools]
  exact World.ownsRow_lit w _ n (Nat.le_refl _) (by simp only [maxLen]; omega) (by rw [size_madeCells, Nat.mul_one])
theorem run_make_bools (n : Nat) (hn : n ≤ 1000000) (w : World) :
    (Instr.makeSlice 90 (.int .i64 (n : Int)) (.int .i64 (n : Int))).run Try.prog w = .ok (.slice (some ⟨w.heap.size, 0, none⟩) n n) (w.alloc (.cells (madeCells #[.bool false] n) 4)) := by
  obtain ⟨i0, hi, hz0, hz1, hz2⟩ := info_parts bool_info
  have hr := run_make (P := Try.prog) w 90 4 i0 _ Try.underlying90 hi hz0 .i64 .i64 n n (by omega) (by omega) (by rw [hz2]; omega) (by omega)
  simp only [Int.toNat_natCast, hz1, Nat.mul_one] at hr
  exact hr
theorem getD_bset (al : List Bool) (k j : Nat) (x : Bool) (hk : k < al.length) : (al.set k x).getD j false = if j = k then x else al.getD j false := by
  rw [List.getD_eq_getElem?_getD, List.getD_eq_getElem?_getD, List.getElem?_set]
  by_cases h : j = k
  · subst h; simp [hk]
  · rw [if_neg h, if_neg (by omega)]
end T12
def spf (s : List Int) (k : Nat) : Int × Int := ((atN s k : Nat), (szN s k : Nat))
theorem putL'_get2 {P0 : List Int} {k : Nat} {r : List Nat} {T : List Int} {j : Nat} (h : P0 = putL' r ++ ((k : Int) :: T)) (hj : r.length = j) : P0.getD j 0 = k := by
  rw [h, ← hj, List.getD_eq_getElem?_getD, List.getElem?_append_right (by rw [putL'_length]; omega), putL'_length]
  simp
open T12 (spl)

set_option maxRecDepth 100000 in
set_option maxHeartbeats 16000000 in
theorem threadBack_short (HAW : ∀ W, Calls Try.prog 84 #[] W (Out W (.bool true))) {W : World} {S O : Option Addr} {s ord : List Int} {cs co : Nat} (hs : T12.Iw W (.slice S s.length cs) s) (ho : T12.Iw W (.slice O ord.length co) ord) (hm : s.length ≤ 30) (hq : ord.length ≤ 30) :
    Calls Try.prog 16 #[.slice S s.length cs, .slice O ord.length co] W (Out W (.bool true)) := by
  have HS := Lib.hid hs
  have HO := Lib.hid ho
  have HAWh : ∀ W, Hid (Calls Try.prog 84 #[] W (Out W (.bool true))) := HAW
  have kn := Lib.hid (new_any 400 W (by decide))
  have HLZ := Lib.hid (laid_zeros s)
  generalize hsl : s.length = m at *
  generalize hol : ord.length = q at *
  have HSL := Lib.hid hsl
  have HOL := Lib.hid hol
  clear hsl hol HAW hs ho
  have hm1 : (m : Int) ≤ 30 := by omega
  have hq1 : (q : Int) ≤ 30 := by omega
  go_enter Try.func16, Try.ntmps16
  go_wp2_with fail
  refine kn.out.mono ?_
  intro e w0 hmk
  obtain ⟨p, va, rfl, HA, HB, _⟩ := hmk.open_ (Below.refl _ _) (Nat.le_refl _)
  generalize zeros 400 = zs at *
  clear hmk kn
  go_wp2
  go_loopw [7, 8, 9] (fun x7 x8 x9 wr => ∃ (k : Nat) (At : Option Addr) (ct : Nat) (ws : List Int), k ≤ m ∧ x9 = .int .i64 (k : Nat) ∧ x8 = .int .i64 (atN s k : Nat) ∧ x7 = .slice At k ct ∧ Hid (Laid s k ws) ∧ Hid (Ar wr W.heap.size p va ws) ∧ Hid (wr.ownsRow W.heap.size 99 2 (.slice At k ct) k (spl (spf s) k)) ∧ Hid (Below W.heap.size W wr)) (fun _ _ i _ => m - (intOf i).toNat)
  case atStart => exact ⟨0, none, 0, zs, by omega, rfl, rfl, rfl, HLZ, HA, World.ownsRow_nil _ _ _ _, HB⟩
  case round =>
    clear HA HB HLZ
    obtain ⟨k, At, ct, ws, hk, rfl, rfl, rfl, hL, ha, ht, hb⟩ := hrel
    by_cases hlt : k < m
    · have hk0 : (0 : Int) ≤ (k : Int) := by omega
      have hk1 : (k : Int) < (m : Int) := by omega
      have hk30 : k < 30 := by omega
      obtain ⟨b, o, eS, hbl, hc⟩ := (HS.out.below hb.out).at_ (by rw [HSL.out]; omega)
      have hck := hc k (by rw [HSL.out]; exact hlt)
      subst eS
      have hsz := szN_bd s k
      have hat := atN_le s k
      have hnx := hL.out.next hk30
      have kc := oput_ar (atN s k : Nat) (hdN s k 0) ha.out
      rw [hnx.1] at kc
      have HL2 := Lib.hid hnx.2
      have hats : atN s (k + 1) = atN s k + szN s k := rfl
      have HAT := Lib.hid hats
      have hmn := hsz.2.2
      have kc : Hid (Calls Try.prog 79 #[.pointer (some ⟨p, 0, none⟩), .int .i64 (atN s k : Nat), .agg #[.int .i64 (k : Nat), .int .i64 0, .int .i64 ((szN s k : Nat) - 1), .bool false, .int .i64 0]] wr fun e w' => e = .returned (.int .i64 0) ∧ Turned wr W.heap.size p va (oUL ws (atN s k : Nat) (hdN s k 0)) w') := kc
      have HSP : Hid (spl (spf s) k ++ [.int .i64 (atN s k : Nat), .int .i64 (szN s k : Nat)] = spl (spf s) (k + 1)) := rfl
      generalize oUL ws (atN s k : Nat) (hdN s k 0) = us at *
      generalize atN s k = a at *
      generalize hN : szN s k = N at *
      generalize s.getD k 0 = x at *
      clear hnx hL hats hN hc
      rcases (show (x < 1 ∧ N = 1) ∨ (1 ≤ x ∧ x ≤ 10 ∧ x = (N : Int)) ∨ (10 < x ∧ N = 10) by omega) with ⟨y1, y2⟩ | ⟨y1, y2, y3⟩ | ⟨y1, y2⟩
      · subst y2
        have kc : Hid (Calls Try.prog 79 #[.pointer (some ⟨p, 0, none⟩), .int .i64 (a : Nat), .agg #[.int .i64 (k : Nat), .int .i64 0, .int .i64 (0), .bool false, .int .i64 0]] wr fun e w' => e = .returned (.int .i64 0) ∧ Turned wr W.heap.size p va us w') := kc
        have hab : a ≤ 300 := by omega
        clear hmn hsz hat
        have z1 : ¬ (1 < x) := by omega
        have z2 : max x 1 = 1 := by omega
        go_wp2_with fail
        refine kc.out.mono ?_
        rintro e w1 ⟨rfl, htn⟩
        have HT := Lib.hid (ht.out.kept htn.2 (T12.own_ne ht.out ha.out.own (by decide)))
        obtain ⟨HA, HB⟩ := htn.open_ ha.out hb.out
        clear htn ht ha hb kc hck
        go_wp2_with (at_builtin; refine T12.wpList_append2 rfl (.tmp 56) (.tmp 60) 97 99 (.agg #[.int .i64 0, .int .i64 0]) 16 rfl Try.underlying97 T12.span_info rfl (by omega) w1 W.heap.size k (.slice At k ct) (T12.spl (spf s) k) (.int .i64 (a : Nat)) (.int .i64 (1)) rfl HT.out rfl rfl rfl (by omega) HB.out.size ?_; intro At2 ct2 w2 hown hgr _; have HT2 := Lib.hid hown; have HB2 := Lib.hid (T12.below_grown HB.out HB.out.size HT.out hgr); have HA2 := Lib.hid (HA.out.kept hgr (fun e => T12.own_blk_no HT.out HA.out.blk (by decide) e) (T12.own_ne HA.out.own HT.out (by decide))); clear hown hgr)
        go_roundw
        case rel => exact ⟨k + 1, At2, ct2, us, by omega, by go_num, by rw [HAT.out]; go_num, rfl, HL2, HA2, by rw [Hid, ← HSP.out]; exact HT2.out, HB2⟩
        case measure => simp [intOf] <;> omega
      · subst y3
        have kc : Hid (Calls Try.prog 79 #[.pointer (some ⟨p, 0, none⟩), .int .i64 (a : Nat), .agg #[.int .i64 (k : Nat), .int .i64 0, .int .i64 ((N : Int) - 1), .bool false, .int .i64 0]] wr fun e w' => e = .returned (.int .i64 0) ∧ Turned wr W.heap.size p va us w') := kc
        have hab : a ≤ 300 := by omega
        clear hmn hsz hat
        have z0 : (1 : Int) ≤ (N : Int) := by omega
        have z2 : max (N : Int) 1 = (N : Int) := by omega
        have z3 : min (N : Int) 10 = (N : Int) := by omega
        have z4 : (N : Int) ≤ 10 := by omega
        have z5 : IntKind.i64.wrap ((N : Int) - 1) = (N : Int) - 1 := Go.IntWalk.i64_in _ (by omega)
        go_wp2_with fail
        refine kc.out.mono ?_
        rintro e w1 ⟨rfl, htn⟩
        have HT := Lib.hid (ht.out.kept htn.2 (T12.own_ne ht.out ha.out.own (by decide)))
        obtain ⟨HA, HB⟩ := htn.open_ ha.out hb.out
        clear htn ht ha hb kc hck
        go_wp2_with (at_builtin; refine T12.wpList_append2 rfl (.tmp 56) (.tmp 60) 97 99 (.agg #[.int .i64 0, .int .i64 0]) 16 rfl Try.underlying97 T12.span_info rfl (by omega) w1 W.heap.size k (.slice At k ct) (T12.spl (spf s) k) (.int .i64 (a : Nat)) (.int .i64 ((N : Int))) rfl HT.out rfl rfl rfl (by omega) HB.out.size ?_; intro At2 ct2 w2 hown hgr _; have HT2 := Lib.hid hown; have HB2 := Lib.hid (T12.below_grown HB.out HB.out.size HT.out hgr); have HA2 := Lib.hid (HA.out.kept hgr (fun e => T12.own_blk_no HT.out HA.out.blk (by decide) e) (T12.own_ne HA.out.own HT.out (by decide))); clear hown hgr)
        go_roundw
        case rel => exact ⟨k + 1, At2, ct2, us, by omega, by go_num, by rw [HAT.out]; go_num, rfl, HL2, HA2, by rw [Hid, ← HSP.out]; exact HT2.out, HB2⟩
        case measure => simp [intOf] <;> omega
      · subst y2
        have kc : Hid (Calls Try.prog 79 #[.pointer (some ⟨p, 0, none⟩), .int .i64 (a : Nat), .agg #[.int .i64 (k : Nat), .int .i64 0, .int .i64 (9), .bool false, .int .i64 0]] wr fun e w' => e = .returned (.int .i64 0) ∧ Turned wr W.heap.size p va us w') := kc
        have hab : a ≤ 300 := by omega
        clear hmn hsz hat
        have z0 : (1 : Int) ≤ x := by omega
        have z2 : max x 1 = x := by omega
        have z3 : min x 10 = 10 := by omega
        go_wp2_with fail
        refine kc.out.mono ?_
        rintro e w1 ⟨rfl, htn⟩
        have HT := Lib.hid (ht.out.kept htn.2 (T12.own_ne ht.out ha.out.own (by decide)))
        obtain ⟨HA, HB⟩ := htn.open_ ha.out hb.out
        clear htn ht ha hb kc hck
        go_wp2_with (at_builtin; refine T12.wpList_append2 rfl (.tmp 56) (.tmp 60) 97 99 (.agg #[.int .i64 0, .int .i64 0]) 16 rfl Try.underlying97 T12.span_info rfl (by omega) w1 W.heap.size k (.slice At k ct) (T12.spl (spf s) k) (.int .i64 (a : Nat)) (.int .i64 (10)) rfl HT.out rfl rfl rfl (by omega) HB.out.size ?_; intro At2 ct2 w2 hown hgr _; have HT2 := Lib.hid hown; have HB2 := Lib.hid (T12.below_grown HB.out HB.out.size HT.out hgr); have HA2 := Lib.hid (HA.out.kept hgr (fun e => T12.own_blk_no HT.out HA.out.blk (by decide) e) (T12.own_ne HA.out.own HT.out (by decide))); clear hown hgr)
        go_roundw
        case rel => exact ⟨k + 1, At2, ct2, us, by omega, by go_num, by rw [HAT.out]; go_num, rfl, HL2, HA2, by rw [Hid, ← HSP.out]; exact HT2.out, HB2⟩
        case measure => simp [intOf] <;> omega
    · have hkm : m = k := by omega
      subst hkm
      clear hlt hk
      have hl400 := hL.out.len
      have kw := Lib.hid (words_ar ha.out (show ws.length ≤ 1000000 by omega))
      generalize ws = was at *
      clear hl400
      go_wp2_with fail
      refine kw.out.mono ?_
      rintro e w1 ⟨A1, c1, rfl, hown, hbw⟩
      have HSEP : Hid ((Value.slice A1 was.length c1).ownBlock = none ∨ (Value.slice A1 was.length c1).ownBlock ≠ va.ownBlock) := T12.sep_own hown ha.out
      have HA := Lib.hid (ha.out.below hbw)
      have HT := Lib.hid (ht.out.kept (row := none) (T12.grown_none hbw) (T12.nb_none _))
      have HWO := Lib.hid (T12.own_weaken hown hb.out.size)
      have HB := Lib.hid (below_tr hb.out hbw)
      clear hown hbw kw ha ht hb
      have hmk := fun w => T12.run_make_bools m (by omega) w
      have hal : Below w1.heap.size w1 (w1.alloc (.cells (madeCells #[.bool false] m) 4)) := (Below.refl _ _).alloc (Nat.le_refl _) _
      have HU := Lib.hid (T12.own_weaken (T12.made_own w1 m (by omega)) HB.out.size)
      have HA := Lib.hid (HA.out.below hal)
      have HT := Lib.hid (HT.out.kept (row := none) (T12.grown_none hal) (T12.nb_none _))
      have HWO := Lib.hid (HWO.out.kept (row := none) (T12.grown_none hal) (T12.nb_none _))
      have HB := Lib.hid (below_tr HB.out hal)
      clear hal
      obtain ⟨g0, hg0⟩ : ∃ g0, g0 = w1.heap.size := ⟨_, rfl⟩
      rw [← hg0] at HU
      go_wp2
      rw [← hg0]
      clear hmk hg0
      go_loopw [12, 13, 15] (fun x12 x13 x15 wr => ∃ (k n : Nat) (Ap : Option Addr) (cp : Nat) (R : List Nat) (us : List Bool), k ≤ q ∧ x15 = .int .i64 (k : Nat) ∧ x12 = .int .i64 (topR R) ∧ x13 = .slice Ap n cp ∧ n ≤ k ∧ Hid (okR m R ∧ n = R.length) ∧ Hid (Ar wr W.heap.size p va (wsR s was R)) ∧ Hid (wr.ownsRow W.heap.size 3 1 (.slice Ap n cp) n (T12.its (putL' R))) ∧ Hid (wr.ownsRow W.heap.size 4 1 (.slice (some ⟨g0, 0, none⟩) m m) m (T12.bls us)) ∧ Hid (us.length = m ∧ ∀ j, j < m → us.getD j false = decide (j ∈ R)) ∧ Hid (wr.ownsRow W.heap.size 99 2 (.slice At m ct) m (spl (spf s) m)) ∧ Hid (wr.ownsRow W.heap.size 22 1 (.slice A1 was.length c1) was.length (wds was)) ∧ Hid (Below W.heap.size W wr)) (fun _ _ i _ => q - (intOf i).toNat)
      case atStart => exact ⟨0, 0, none, 0, [], List.replicate m false, by omega, rfl, rfl, rfl, by omega, ⟨trivial, rfl⟩, HA, World.ownsRow_nil _ _ _ _, HU, ⟨by simp, fun j hj => by rw [List.getD_eq_getElem?_getD, List.getElem?_replicate]; split <;> simp⟩, HT, HWO, HB⟩
      case round =>
        clear HA HU HT HWO HB
        obtain ⟨k, n, Ap, cp, R, us, hk, rfl, rfl, rfl, hnk, hR, ha, hp, hu, hus, ht, hwo, hb⟩ := hrel
        by_cases hlt : k < q
        · have hk0 : (0 : Int) ≤ (k : Int) := by omega
          have hk1 : (k : Int) < (q : Int) := by omega
          obtain ⟨b, o, eO, hbl, hc⟩ := (HO.out.below hb.out).at_ (by rw [HOL.out]; omega)
          have hck := hc k (by rw [HOL.out]; exact hlt)
          subst eO
          generalize ord.getD k 0 = x at *
          clear hc
          by_cases hx0 : x < 0
          · go_wp2
            go_roundw
            case rel => exact ⟨k + 1, n, Ap, cp, R, us, by omega, by go_num, rfl, rfl, by omega, hR, ha, hp, hu, hus, ht, hwo, hb⟩
            case measure => simp [intOf] <;> omega
          · obtain ⟨K, rfl⟩ := Int.eq_ofNat_of_zero_le (show 0 ≤ x by omega)
            by_cases hKm : K < m
            · have hKi : (K : Int) < (m : Int) := by omega
              have hu0 := hu.out.cellAt K (by omega)
              rw [T12.bls_get _ _ (by rw [hus.out.1]; exact hKm), hus.out.2 K hKm] at hu0
              have hfz := hu.out.frozenAt K
              by_cases hin : K ∈ R
              · rw [decide_eq_true hin] at hu0
                clear hin hfz
                go_wp2
                go_roundw
                case rel => exact ⟨k + 1, n, Ap, cp, R, us, by omega, by go_num, rfl, rfl, by omega, hR, ha, hp, hu, hus, ht, hwo, hb⟩
                case measure => simp [intOf] <;> omega
              · rw [decide_eq_false hin] at hu0
                have HIN := Lib.hid hin
                have hst := hu.out.stored K (.bool true)
                have hgr := hst.2
                have hst1 := hst.1
                rw [T12.bls_set] at hst1
                have HU := Lib.hid hst1
                have hrow : ∀ {t s n : Nat} {v : Value} {xs : List Value}, wr.ownsRow W.heap.size t s v n xs → t ≠ 4 → (v.ownBlock = none ∨ v.ownBlock ≠ some g0) := fun h hne => T12.own_ne h hu.out hne
                have HP := Lib.hid (hp.out.kept hgr (hrow hp.out (by decide)))
                have HT := Lib.hid (ht.out.kept hgr (hrow ht.out (by decide)))
                have HWO := Lib.hid (hwo.out.kept hgr (hrow hwo.out (by decide)))
                have HA := Lib.hid (ha.out.kept hgr (fun e => T12.own_blk_no hu.out ha.out.blk (by decide) e) (hrow ha.out.own (by decide)))
                have HB := Lib.hid (hb.out.setCell (p := ⟨g0, K, none⟩) (hu.out.lt g0 rfl).1 (.bool true))
                have HUS : Hid ((us.set K true).length = m ∧ ∀ j, j < m → (us.set K true).getD j false = decide (j ∈ K :: R)) := ⟨by rw [List.length_set]; exact hus.out.1, fun j hj => by
                  rw [T12.getD_bset _ _ _ _ (by rw [hus.out.1]; exact hKm)]
                  by_cases hjk : j = K
                  · subst hjk; simp
                  · rw [if_neg hjk, hus.out.2 j hj]; simp [hjk]⟩
                have HR : Hid (okR m (K :: R) ∧ n + 1 = (K :: R).length) := ⟨⟨hKm, hin, hR.out.1⟩, by rw [hR.out.2]; rfl⟩
                have hor := hR.out.1
                clear hst hst1 hgr hin hrow hp ht hwo ha hb hu hus
                go_upto_region 24 with fail
                clear hu0 hfz hck
                generalize wr.setCell ⟨g0, K, none⟩ (.bool true) = w8 at *
                go_wp2_with (at_builtin; refine T12.wpList_append1 rfl (.tmp 97) (.tmp 99) 86 3 (.int .i64 0) 8 rfl Try.underlying86 T12.i64_info rfl (by omega) w8 W.heap.size n (.slice Ap n cp) (T12.its (putL' R)) (.int .i64 (K : Nat)) rfl HP.out rfl rfl (by omega) HB.out.size ?_; intro Ap2 cp2 w2 hown hgr2 _; have HP2 := Lib.hid hown; have HB2 := Lib.hid (T12.below_grown HB.out HB.out.size HP.out hgr2); have HA2 := Lib.hid (HA.out.kept hgr2 (fun e => T12.own_blk_no HP.out HA.out.blk (by decide) e) (T12.own_ne HA.out.own HP.out (by decide))); have HU2 := Lib.hid (HU.out.kept hgr2 (T12.own_ne HU.out HP.out (by decide))); have HT2 := Lib.hid (HT.out.kept hgr2 (T12.own_ne HT.out HP.out (by decide))); have HWO2 := Lib.hid (HWO.out.kept hgr2 (T12.own_ne HWO.out HP.out (by decide))); clear hown hgr2)
                have hpu := pushedR hL.out (by omega) R hor
                have htb := topR_bd hor
                have kc := push_ok (sp := spf s) K (topR R) hKm (by omega) htb.1 (by omega) (by show (-9223372036854775808 : Int) ≤ (atN s K : Nat); omega) (by rw [hpu.len]; omega) (headR hL.out (by omega) hor hKm HIN.out) HA2.out (T12.spl_recs HT2.out)
                have kc := Lib.hid kc
                clear hpu htb
                go_wp2_with fail
                refine kc.out.mono ?_
                rintro e w3 ⟨rfl, htn⟩
                have HP3 := Lib.hid (HP2.out.kept htn.2 (T12.own_ne HP2.out HA2.out.own (by decide)))
                have HU3 := Lib.hid (HU2.out.kept htn.2 (T12.own_ne HU2.out HA2.out.own (by decide)))
                have HT3 := Lib.hid (HT2.out.kept htn.2 (T12.own_ne HT2.out HA2.out.own (by decide)))
                have HWO3 := Lib.hid (HWO2.out.kept htn.2 HSEP.out)
                obtain ⟨HA3, HB3⟩ := htn.open_ HA2.out HB2.out
                clear htn kc
                go_wp2
                go_roundw
                case rel => exact ⟨k + 1, n + 1, Ap2, cp2, K :: R, us.set K true, by omega, by go_num, rfl, rfl, by omega, HR, HA3, by rw [Hid, putL'_cons, ← T12.its_snoc]; exact HP3.out, HU3, HUS, HT3, HWO3, HB3⟩
                case measure => simp [intOf] <;> omega
            · have hKi : ¬ ((K : Int) < (m : Int)) := by omega
              go_wp2
              go_roundw
              case rel => exact ⟨k + 1, n, Ap, cp, R, us, by omega, by go_num, rfl, rfl, by omega, hR, ha, hp, hu, hus, ht, hwo, hb⟩
              case measure => simp [intOf] <;> omega
        · have hkq : q = k := by omega
          subst hkq
          have hn30 : n ≤ 30 := by omega
          have hnw : IntKind.i64.wrap ((n : Int) - 1) = (n : Int) - 1 := Go.IntWalk.i64_in _ (by omega)
          obtain ⟨R0, hR0⟩ : ∃ R0, R0 = R := ⟨_, rfl⟩
          have HPL : Hid (putL' R0 = putL' R ++ []) := by rw [Hid, hR0]; simp
          have HPN : Hid ((putL' R0).length = n) := by rw [Hid, putL'_length, hR0]; exact hR.out.2.symm
          have HP0 : Hid (wr.ownsRow W.heap.size 3 1 (.slice Ap n cp) n (T12.its (putL' R0))) := by rw [hR0]; exact hp.out
          have HR0 : Hid (okR m R ∧ n = R.length) := hR
          generalize putL' R0 = P0 at *
          clear hu hus hp hR0 hR hlt hk
          go_wp2
          go_loopw [12, 19] (fun x12 x19 wr => ∃ (j : Nat) (R : List Nat) (T : List Int), j ≤ n ∧ x19 = .int .i64 ((j : Int) - 1) ∧ x12 = .int .i64 (topR R) ∧ Hid (okR m R ∧ j = R.length ∧ P0 = putL' R ++ T) ∧ Hid (Ar wr W.heap.size p va (wsR s was R)) ∧ Hid (wr.ownsRow W.heap.size 3 1 (.slice Ap n cp) n (T12.its P0)) ∧ Hid (wr.ownsRow W.heap.size 99 2 (.slice At m ct) m (spl (spf s) m)) ∧ Hid (wr.ownsRow W.heap.size 22 1 (.slice A1 was.length c1) was.length (wds was)) ∧ Hid (Below W.heap.size W wr)) (fun _ i _ => (intOf i + 1).toNat)
          case atStart => exact ⟨n, R, [], by omega, rfl, rfl, ⟨HR0.out.1, HR0.out.2, HPL.out⟩, ha, HP0, ht, hwo, hb⟩
          case round =>
            clear ha HP0 ht hwo hb HPL HR0 hnw
            obtain ⟨j, R, T, hjn, rfl, rfl, hR, ha, hp, ht, hwo, hb⟩ := hrel
            cases R with
            | cons K r =>
              obtain ⟨hok, hjl, hP⟩ := hR.out
              have hKm : K < m := hok.1
              have hjr : j = r.length + 1 := hjl
              have hPK := putL'_get hP
              have HR2 : Hid (okR m r ∧ P0 = putL' r ++ ((K : Int) :: T)) := ⟨hok.2.2, by rw [hP, putL'_cons]; simp⟩
              have hpp := popR hL.out (by omega) hok
              have hpu := pushedR hL.out (by omega) (K :: r) hok
              have kc := pop_ok (sp := spf s) K hKm (by omega) (by show (-9223372036854775808 : Int) ≤ (atN s K : Nat); omega) (by rw [hpu.len]; omega) hpp.1 ha.out (T12.spl_recs ht.out)
              rw [show (oH (wsR s was (K :: r)) (spf s K).1).cursor = topR r from hpp.2.1, show curL (wsR s was (K :: r)) (spf s K).1 0 = wsR s was r from hpp.2.2] at kc
              have kc := Lib.hid kc
              generalize hj' : r.length = j' at *
              subst hjr
              obtain ⟨gp, cap, e, hg1, hg2⟩ := hp.out.form (by omega)
              injection e with e1 e2 e3
              subst e1 e3
              have HJ := Lib.hid hj'
              have hj0 : (0 : Int) ≤ (j' : Int) := by omega
              have hj1 : (j' : Int) < (n : Int) := by omega
              have hj2 : IntKind.i64.wrap ((j' : Int) - 1) = (j' : Int) - 1 := Go.IntWalk.i64_in _ (by omega)
              have htop : topR (K :: r) = (K : Int) + 1 := rfl
              rw [htop]
              clear hok hjl hP hPK hpp hpu hR hj' hg1 hg2 htop
              go_wp2_with fail
              refine kc.out.mono ?_
              rintro e w3 ⟨rfl, htn⟩
              have HP3 := Lib.hid (hp.out.kept htn.2 (T12.own_ne hp.out ha.out.own (by decide)))
              have HT3 := Lib.hid (ht.out.kept htn.2 (T12.own_ne ht.out ha.out.own (by decide)))
              have HWO3 := Lib.hid (hwo.out.kept htn.2 HSEP.out)
              obtain ⟨HA3, HB3⟩ := htn.open_ ha.out hb.out
              have hcp := HP3.out.cellAt j' (by omega)
              rw [T12.its_get _ _ (by rw [HPN.out]; omega), putL'_get2 HR2.out.2 HJ.out] at hcp
              clear htn kc ha hp ht hwo hb
              go_wp2
              go_roundw
              case rel => exact ⟨j', r, (K : Int) :: T, by omega, by go_num, rfl, ⟨HR2.out.1, HJ.out.symm, HR2.out.2⟩, HA3, HP3, HT3, HWO3, HB3⟩
              case measure => simp [intOf] <;> omega
            | nil =>
              have hj0 : j = 0 := hR.out.2.1
              subst hj0
              have htop : topR [] = 0 := rfl
              have hws : wsR s was [] = was := rfl
              rw [htop]
              rw [hws] at ha
              have hl400 := hL.out.len
              have kw := Lib.hid (words_ar ha.out (show was.length ≤ 1000000 by omega))
              clear htop hws hl400
              go_wp2_with fail
              refine kw.out.mono ?_
              rintro e w4 ⟨A4, c4, rfl, hown, hb4⟩
              have HR4 := Lib.hid (Rw.of_own hown ha.out.fit)
              have HW4 := Lib.hid (Rw.of_own (hwo.out.kept (row := none) (T12.grown_none hb4) (T12.nb_none _)) ha.out.fit)
              have HB := Lib.hid (below_tr hb.out hb4)
              clear hown hb4 kw
              have kc := same_any HR4.out HW4.out
              rw [sameB_refl] at kc
              have kc := Lib.hid kc
              go_wp2_with fail
              refine kc.out.mono ?_
              rintro e w5 ⟨rfl, k5, rfl⟩
              go_wp2_with fail
              refine (HAWh _).out.mono ?_
              rintro e w6 ⟨rfl, hb6⟩
              have HB6 := Lib.hid (below_tr (below_dr HB.out k5) hb6)
              clear hb6
              go_wp2
              go_ret
              exact ⟨rfl, HB6.out⟩
end Go.Proofs.Ytcljgphipdbckaa
