/- Arguments that are slices of deeds with objects, opened. -/
import Derived.Test.YtcljgphipdbckaaM05
import Derived.Test.YtcljgphipdbckaaL08d
namespace Go.Proofs.Ytcljgphipdbckaa
set_option linter.unusedVariables false
set_option linter.unusedSimpArgs false
section
open Go.ChangeShapes Go.WideShapes Go.ChangeAt Go.RowKit Go.Deep
variable {H : Type} {enc : TypeId × Value → H} {w : World} {base : Nat} {d : DataW H} {p : List MemPlace} {v : Value}

set_option maxRecDepth 100000 in
theorem open_deeds8 {t e fi fh fb fu : TypeId} {s0 s1 s2 s3 s4 r0 r1 r2 r3 r4 : Field} (ht : Try.prog.underlying t = some (.slice e)) (he : Try.prog.underlying e = some (.struct #[s0, s1, s2, s3, s4])) (hh : Try.prog.underlying fh = some (.struct #[r0, r1, r2, r3, r4]))
    (t0 : s0.type = fi) (t1 : s1.type = fi) (t2 : s2.type = fi) (t3 : s3.type = fh) (t4 : s4.type = fu) (o0 : s0.offset = 0) (o1 : s1.offset = 1) (o2 : s2.offset = 2) (o3 : s3.offset = 3) (o4 : s4.offset = 8)
    (u0 : r0.type = fi) (u1 : r1.type = fi) (u2 : r2.type = fi) (u3 : r3.type = fb) (u4 : r4.type = fi) (p0 : r0.offset = 0) (p1 : r1.offset = 1) (p2 : r2.offset = 2) (p3 : r3.offset = 3) (p4 : r4.offset = 4)
    (hi : Try.prog.underlying fi = some (.int .i64)) (hb : Try.prog.underlying fb = some .bool) (hu : Try.prog.underlying fu = some (.int .u64))
    (ki : Try.prog.cellsOf fi = 1) (kb : Try.prog.cellsOf fb = 1) (ku : Try.prog.cellsOf fu = 1) (kh : Try.prog.cellsOf fh = 5) (hC : Try.prog.cellsOf e = 9)
    (hv : Value.okWide Try.prog w .any base t v) (h : DataW.Trod enc Try.prog w 0 (fun _ => true) true t v d p) : ∃ (n : Nat) (ds : Nat → Deed8), Recs w v 9 n (fun k => (ds k).cells) ∧ ∀ k, k < n → U64 (ds k).w ∧ -9223372036854775808 ≤ (ds k).at_ := by
  obtain ⟨a0, len, cap, rfl⟩ := okWide_slice ht hv
  obtain ⟨fuel, hf⟩ := h
  rcases open_slice ht hf with ⟨hcs, _⟩ | ⟨a, l, c, m, n, D, Pl, hcs, _, hl, hm, hmm, _, hi5⟩
  · simp [Value.cells] at hcs
    obtain ⟨rfl, rfl, rfl⟩ := hcs
    exact ⟨0, fun _ => ⟨0, 0, 0, Hd.none_, 0⟩, ⟨none, 0, rfl, by simp, by simp [maxLen], fun _ => rfl, by simp⟩, fun k hk => by omega⟩
  · simp [Value.cells] at hcs
    obtain ⟨rfl, rfl, rfl⟩ := hcs
    have hm' : m = cap := by simpa using hmm
    subst hm'
    have key : ∀ i, ∃ dd : Deed8, i < m → ((U64 dd.w ∧ -9223372036854775808 ≤ dd.at_) ∧ ∀ j u, dd.cells[j]? = some u → w.cell? (a.add (i * 9 + j)) = some u) := by
      intro i
      by_cases him : i < m
      · obtain ⟨cs', hc, ht'⟩ := hi5 i him
        rw [hC] at hc
        obtain ⟨ys, n', hn', hy, hlen, hyl, hff⟩ := DataW.trod_struct he ht'
        obtain ⟨_, hcl, hat⟩ := World.cells?_some hc
        match cs', hcl with
        | [c0, c1, c2, c3, c4, c5, c6, c7, c8], _ =>
          have z0 := hff 0 s0 rfl
          have z1 := hff 1 s1 rfl
          have z2 := hff 2 s2 rfl
          have z3 := hff 3 s3 rfl
          have z4 := hff 4 s4 rfl
          rw [o0, t0, ki] at z0
          rw [o1, t1, ki] at z1
          rw [o2, t2, ki] at z2
          rw [o3, t3, kh] at z3
          rw [o4, t4, ku] at z4
          simp only [List.drop_succ_cons, List.drop_zero, List.take_succ_cons, List.take_zero] at z0 z1 z2 z3 z4
          have y0 : ys[0]? = some (ys[0]'(by rw [hyl]; simp)) := List.getElem?_eq_getElem _
          have y1 : ys[1]? = some (ys[1]'(by rw [hyl]; simp)) := List.getElem?_eq_getElem _
          have y2 : ys[2]? = some (ys[2]'(by rw [hyl]; simp)) := List.getElem?_eq_getElem _
          have y3 : ys[3]? = some (ys[3]'(by rw [hyl]; simp)) := List.getElem?_eq_getElem _
          have y4 : ys[4]? = some (ys[4]'(by rw [hyl]; simp)) := List.getElem?_eq_getElem _
          obtain ⟨x0, e0, _, _⟩ := DataW.trod_int hi (z0.trans y0)
          obtain ⟨x1, e1, _, wf1⟩ := DataW.trod_int hi (z1.trans y1)
          obtain ⟨x2, e2, _, _⟩ := DataW.trod_int hi (z2.trans y2)
          obtain ⟨x4, e4, _, wf4⟩ := DataW.trod_int hu (z4.trans y4)
          obtain ⟨qs, m', hm9, hq, hqlen, hql, hgg⟩ := DataW.trod_struct hh (z3.trans y3)
          have g0 := hgg 0 r0 rfl
          have g1 := hgg 1 r1 rfl
          have g2 := hgg 2 r2 rfl
          have g3 := hgg 3 r3 rfl
          have g4 := hgg 4 r4 rfl
          rw [p0, u0, ki] at g0
          rw [p1, u1, ki] at g1
          rw [p2, u2, ki] at g2
          rw [p3, u3, kb] at g3
          rw [p4, u4, ki] at g4
          simp only [List.drop_succ_cons, List.drop_zero, List.take_succ_cons, List.take_zero] at g0 g1 g2 g3 g4
          have k0 : qs[0]? = some (qs[0]'(by rw [hql]; simp)) := List.getElem?_eq_getElem _
          have k1 : qs[1]? = some (qs[1]'(by rw [hql]; simp)) := List.getElem?_eq_getElem _
          have k2 : qs[2]? = some (qs[2]'(by rw [hql]; simp)) := List.getElem?_eq_getElem _
          have k3 : qs[3]? = some (qs[3]'(by rw [hql]; simp)) := List.getElem?_eq_getElem _
          have k4 : qs[4]? = some (qs[4]'(by rw [hql]; simp)) := List.getElem?_eq_getElem _
          obtain ⟨b0, f0, _, _⟩ := DataW.trod_int hi (g0.trans k0)
          obtain ⟨b1, f1, _, _⟩ := DataW.trod_int hi (g1.trans k1)
          obtain ⟨b2, f2, _, _⟩ := DataW.trod_int hi (g2.trans k2)
          obtain ⟨b3, f3, _⟩ := DataW.trod_bool hb (g3.trans k3)
          obtain ⟨b4, f4, _, _⟩ := DataW.trod_int hi (g4.trans k4)
          simp only [List.cons.injEq, and_true] at e0 e1 e2 e4 f0 f1 f2 f3 f4
          subst e0 e1 e2 e4 f0 f1 f2 f3 f4
          refine ⟨⟨x0, x1, x2, ⟨b0, b1, b2, b3, b4⟩, x4⟩, fun _ => ⟨⟨wf_u64 wf4, (wf_i64 wf1).1⟩, fun j u hj => ?_⟩⟩
          have hjl : j < 9 := by
            have := (List.getElem?_eq_some_iff.1 hj).1
            simpa [Deed8.cells] using this
          rw [← Go.Deep.add_add, hat j hjl]
          exact hj
      · exact ⟨⟨0, 0, 0, Hd.none_, 0⟩, fun h => absurd h him⟩
    obtain ⟨ds, hds⟩ := Classical.skolem.1 key
    refine ⟨len, ds, ⟨some a, m, rfl, hl, hm, by simp, fun hn => ?_⟩, fun k hk => (hds k (by omega)).1⟩
    obtain ⟨b, o, spot⟩ := a
    have h0 := (hds 0 (by omega)).2 0 _ rfl
    have hs : spot = none := by simpa [Addr.add] using World.cell?_spot h0
    subst hs
    refine ⟨b, o, rfl, fun k hk => ⟨rfl, fun j u hj => ?_⟩⟩
    have := (hds k (by omega)).2 j u hj
    rw [add_plain] at this
    rw [Nat.add_assoc]
    exact this
end
open Go.RowKit in
set_option maxRecDepth 100000 in
set_option maxHeartbeats 800000 in
theorem objectPlays_long (A : Option Addr) (n c : Nat) (D : Option Addr) (nd cd : Nat) (W : World) (h : 200 < n ∨ 40 < nd) (h1 : n ≤ c) (h2 : c ≤ 9223372036854775807) (d1 : nd ≤ cd) (d2 : cd ≤ 9223372036854775807) : Calls Try.prog 17 #[.slice A n c, .slice D nd cd] W (Out W (.bool true)) := by
  have H := Lib.hid (awake08 W)
  by_cases h0 : 200 < n
  · have hn1 : (200 : Int) < (n : Int) := by omega
    go_enter Try.func17, Try.ntmps17
    go_wp2_with fail
    refine H.out.mono ?_
    rintro e w1 ⟨rfl, hb⟩
    have HB := Lib.hid hb
    clear hb
    go_wp2
    go_ret
    exact ⟨rfl, HB.out⟩
  · have hn1 : ¬ ((200 : Int) < (n : Int)) := by omega
    have hn2 : (40 : Int) < (nd : Int) := by omega
    go_enter Try.func17, Try.ntmps17
    go_wp2_with fail
    refine H.out.mono ?_
    rintro e w1 ⟨rfl, hb⟩
    have HB := Lib.hid hb
    clear hb
    go_wp2
    go_ret
    exact ⟨rfl, HB.out⟩
open Go.RowKit in
theorem objectPlays_walk (v dv : Value) (W : World) (hv : ∃ ws, Rw W v ws) (hd : ∃ (n : Nat) (ds : Nat → Deed8), Recs W dv 9 n (fun k => (ds k).cells) ∧ ∀ k, k < n → U64 (ds k).w ∧ -9223372036854775808 ≤ (ds k).at_) :
    Calls Try.prog 17 #[v, dv] W fun e w' => e = .returned (.bool true) ∧ Below W.heap.size W w' := by
  obtain ⟨ws, hv⟩ := hv
  obtain ⟨n, ds, hd, hw⟩ := hd
  obtain ⟨A, c, rfl, h1, h2, _⟩ := hv.reads
  obtain ⟨D, cd, rfl, d1, d2, _⟩ := id hd
  by_cases h : ws.length ≤ 200 ∧ n ≤ 40
  · exact objectPlays_short hv hd hw h.1 h.2
  · unfold maxLen at h2 d2
    exact objectPlays_long A ws.length c D n cd W (by omega) (by omega) (by omega) (by omega) (by omega)
end Go.Proofs.Ytcljgphipdbckaa
