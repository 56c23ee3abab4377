/- Plain laws of layer 14: deeds one behind the other. -/
import Derived.Test.YtcljgphipdbckaaP14
namespace Go.Proofs.Ytcljgphipdbckaa
set_option linter.unusedVariables false
set_option linter.unusedSimpArgs false

/-- where a handle leads -/
def hJ (h : Int) : Nat := (h % 1024).toNat
/-- h was told of a slot -/
structure Tell (ss : List Slot) (h : Int) : Prop where
  pos : 0 ≤ h
  lt : hJ h < ss.length
  le : h / 1024 ≤ (slot ss (hJ h)).gen
  eq : h / 1024 = (slot ss (hJ h)).gen → (slot ss (hJ h)).used = true
theorem fnd_tell {ss : List Slot} {h : Int} (t : Tell ss h) (hg : (slot ss (hJ h)).gen < 1099511627776) : fndB ss h = decide ((slot ss (hJ h)).gen = h / 1024) := by
  have h0 := t.pos
  have h1 : (h % 1024).toNat < ss.length := t.lt
  have h2 := t.le
  have hgood : goodN (slot ss (hJ h)).gen = true := (goodN_iff _).2 ⟨by omega, hg⟩
  unfold fndB
  have e : (h % 1024).toNat = hJ h := rfl
  rw [e, hgood, decide_eq_true h0, decide_eq_true t.lt]
  by_cases hq : (slot ss (hJ h)).gen = h / 1024
  · rw [t.eq hq.symm]; simp
  · simp [hq]
theorem fnd_set_ne {ss : List Slot} {h : Int} {K : Nat} (s : Slot) (hK : K < ss.length) (hn : hJ h ≠ K) : fndB (ss.set K s) h = fndB ss h := by
  unfold fndB
  have e : (h % 1024).toNat = hJ h := rfl
  rw [e, slot_set _ _ _ _ hK, if_neg hn, set_len]
theorem Tell.set_ne {ss : List Slot} {h : Int} {K : Nat} (t : Tell ss h) (s : Slot) (hK : K < ss.length) (hn : hJ h ≠ K) : Tell (ss.set K s) h := by
  have e := slot_set ss K (hJ h) s hK
  rw [if_neg hn] at e
  exact ⟨t.pos, by rw [set_len]; exact t.lt, by rw [e]; exact t.le, by rw [e]; exact t.eq⟩

structure Fine (i : Nat) (ss : List Slot) (ts : List Int) (al : List Bool) : Prop where
  len : ts.length = al.length
  may : ∀ k, k < ss.length → mayS (slot ss k) = true
  gens : ∀ k, k < ss.length → 0 ≤ (slot ss k).gen ∧ (slot ss k).gen ≤ 549755813888 + i
  tell : ∀ k, k < ts.length → Tell ss (ts.getD k 0)
  live : ∀ k, k < ts.length → al.getD k false = fndB ss (ts.getD k 0)
  apart : ∀ j k, j < ts.length → k < ts.length → j ≠ k → ts.getD j 0 ≠ ts.getD k 0
  fit : FitS ss

theorem Fine.next {i : Nat} {ss : List Slot} {ts : List Int} {al : List Bool} (h : Fine i ss ts al) : Fine (i + 1) ss ts al :=
  ⟨h.len, h.may, fun k hk => by have := h.gens k hk; omega, h.tell, h.live, h.apart, h.fit⟩
theorem Fine.gen_lt {i : Nat} {ss : List Slot} {ts : List Int} {al : List Bool} (h : Fine i ss ts al) (hi : i ≤ 40) {k : Nat} (hk : k < ss.length) : (slot ss k).gen < 1099511627776 := by
  have := (h.gens k hk).2; omega
theorem mayS_iff (s : Slot) : mayS s = true ↔ decB s.word = true ∧ (goodN s.gen = true ∨ s.used = false ∧ s.gen = 1099511627776) ∧ (s.used = true ∨ s.word = 0) := by
  unfold mayS
  cases s.used <;> simp [and_assoc]
theorem getD_bset (al : List Bool) (k j : Nat) (x : Bool) (hk : k < al.length) : (al.set k x).getD j false = if j = k then x else al.getD j false := by
  rw [List.getD_eq_getElem?_getD, List.getD_eq_getElem?_getD, List.getElem?_set]
  by_cases h : j = k
  · subst h; simp [hk]
  · rw [if_neg h, if_neg (by omega)]
theorem getD_snoc {α : Type} (l : List α) (x d : α) (k : Nat) : (l ++ [x]).getD k d = if k = l.length then x else l.getD k d := by
  rw [List.getD_eq_getElem?_getD, List.getD_eq_getElem?_getD]
  rcases Nat.lt_trichotomy k l.length with h | h | h
  · rw [List.getElem?_append_left h, if_neg (by omega)]
  · subst h; simp
  · rw [List.getElem?_eq_none (by simp; omega), if_neg (by omega), List.getElem?_eq_none (by omega)]

theorem Fine.drop {i : Nat} {ss : List Slot} {ts : List Int} {al : List Bool} (h : Fine i ss ts al) (hi : i < 40) (k : Nat) (hk : k < ts.length) :
    (al.getD k false = decide (fndE ss (ts.getD k 0) = 0)) ∧ Fine (i + 1) (dropL ss (ts.getD k 0)) ts (al.set k false) := by
  have hl := h.len
  have hlive := h.live k hk
  cases hf : fndB ss (ts.getD k 0) with
  | false =>
    rw [hf] at hlive
    refine ⟨by rw [hlive, (fnd_no hf).2]; rfl, ?_⟩
    have e : dropL ss (ts.getD k 0) = ss := by unfold dropL; rw [hf]; rfl
    have e2 : al.set k false = al := by
      apply List.ext_getElem?
      intro j
      rw [List.getElem?_set]
      split
      · rename_i hj
        subst hj
        rw [if_pos (by omega), List.getElem?_eq_getElem (by omega)]
        rw [List.getD_eq_getElem?_getD, List.getElem?_eq_getElem (by omega)] at hlive
        rw [← hlive]; rfl
      · rfl
    rw [e, e2]; exact h.next
  | true =>
    rw [hf] at hlive
    refine ⟨by rw [hlive, (fnd_yes hf).2]; rfl, ?_⟩
    have t := h.tell k hk
    have K1 := t.lt
    have hK : (fndI ss (ts.getD k 0)).toNat = hJ (ts.getD k 0) := by rw [(fnd_yes hf).1]; rfl
    have e : dropL ss (ts.getD k 0) = ss.set (hJ (ts.getD k 0)) ⟨false, (slot ss (hJ (ts.getD k 0))).gen + 1, 0⟩ := by unfold dropL; rw [hf, hK]; rfl
    have hg := h.gens _ K1
    have hge : (slot ss (hJ (ts.getD k 0))).gen = ts.getD k 0 / 1024 := by
      have := fnd_tell t (by omega)
      rw [hf] at this
      simpa using this.symm
    rw [e]
    generalize hKK : hJ (ts.getD k 0) = K at *
    generalize hG : (slot ss K).gen = G at *
    have hsl := fun j => slot_set ss K j ⟨false, G + 1, 0⟩ K1
    have fn : ∀ j, j < ts.length → hJ (ts.getD j 0) = K → Tell (ss.set K ⟨false, G + 1, 0⟩) (ts.getD j 0) ∧ fndB (ss.set K ⟨false, G + 1, 0⟩) (ts.getD j 0) = false := by
      intro j hj hjK
      have tj := h.tell j hj
      have hle := tj.le
      rw [hjK, hG] at hle
      have t2 : Tell (ss.set K ⟨false, G + 1, 0⟩) (ts.getD j 0) := by
        refine ⟨tj.pos, by rw [set_len]; exact tj.lt, ?_, ?_⟩
        · rw [hjK, hsl, if_pos rfl]; show _ ≤ G + 1; omega
        · rw [hjK, hsl, if_pos rfl]; intro e; exfalso; have : ts.getD j 0 / 1024 = G + 1 := e; omega
      refine ⟨t2, ?_⟩
      rw [fnd_tell t2 (by rw [hjK, hsl, if_pos rfl]; show G + 1 < _; omega)]
      rw [hjK, hsl, if_pos rfl]
      exact decide_eq_false (fun e => by have : G + 1 = ts.getD j 0 / 1024 := e; omega)
    refine ⟨by rw [List.length_set]; exact hl, fun j hj => ?_, fun j hj => ?_, fun j hj => ?_, fun j hj => ?_, h.apart, h.fit.set K ⟨⟨by show _ ≤ G + 1; omega, by show G + 1 ≤ _; omega⟩, by show (0:Int) ≤ 0; omega, by show (0:Int) < _; omega⟩⟩
    · rw [set_len] at hj
      rw [hsl]
      split
      · rw [mayS_iff]
        exact ⟨(decB_iff 0).2 (.inl rfl), .inl ((goodN_iff _).2 ⟨by show 0 ≤ G + 1; omega, by show G + 1 < _; omega⟩), .inr rfl⟩
      · exact h.may j hj
    · rw [set_len] at hj
      rw [hsl]
      split
      · show 0 ≤ G + 1 ∧ G + 1 ≤ _
        omega
      · have := h.gens j hj; omega
    · by_cases hjK : hJ (ts.getD j 0) = K
      · exact (fn j hj hjK).1
      · exact (h.tell j hj).set_ne _ K1 hjK
    · rw [getD_bset _ _ _ _ (by omega)]
      by_cases hjk : j = k
      · rw [if_pos hjk]
        subst hjk
        exact (fn j hj hKK).2.symm
      · rw [if_neg hjk, h.live j hj]
        by_cases hjK : hJ (ts.getD j 0) = K
        · rw [(fn j hj hjK).2, fnd_tell (h.tell j hj) (by rw [hjK, hG]; omega)]
          rw [hjK, hG]
          apply decide_eq_false
          intro hq
          apply h.apart j k hj hk hjk
          have p1 := (h.tell j hj).pos
          have p2 := t.pos
          unfold hJ at hjK hKK
          omega
        · rw [fnd_set_ne _ K1 hjK]

theorem usedN_lt_of {ss : List Slot} {k : Nat} (hk : k < ss.length) (h : (slot ss k).used = false) : usedN ss < ss.length := by
  unfold usedN
  have h1 := List.countP_le_length (p := fun s : Slot => s.used) (l := ss)
  rcases Nat.lt_or_ge (ss.countP (·.used)) ss.length with h2 | h2
  · exact h2
  · have h3 : ss.countP (·.used) = ss.length := by omega
    have := List.countP_eq_length.1 h3 ss[k] (List.getElem_mem hk)
    rw [← slot_get ss k hk, h] at this
    cases this
theorem usedN_full {ss : List Slot} (h : ∀ k, k < ss.length → (slot ss k).used = true) : usedN ss = ss.length := by
  unfold usedN
  rw [List.countP_eq_length]
  intro s hs
  obtain ⟨k, hk, rfl⟩ := List.mem_iff_getElem.1 hs
  rw [← slot_get ss k hk]; exact h k hk

theorem Fine.put {i : Nat} {ss : List Slot} {ts : List Int} {al : List Bool} (h : Fine i ss ts al) (hi : i < 40) (hn : ss.length ≤ 60) (x : Int) (hx : x = 4 * i + 1) :
    (putE ss = 8 ∧ ¬ usedN ss < ss.length ∧ putL ss x = ss) ∨
    (putE ss = 0 ∧ usedN ss < ss.length ∧ (∀ k, k < ts.length → ts.getD k 0 ≠ putH ss) ∧ fndE (putL ss x) (putH ss) = 0 ∧ getW (putL ss x) (putH ss) = x ∧ Fine (i + 1) (putL ss x) (ts ++ [putH ss]) (al ++ [true]) ∧ -9223372036854775808 ≤ putH ss ∧ putH ss ≤ 9223372036854775807) := by
  rcases put_cases ss with ⟨e, hno, hL, hH, hE⟩ | ⟨K, k1, k2, e, hfr, hL, hH, hE⟩
  · refine .inl ⟨hE, ?_, hL x⟩
    rw [usedN_full fun k hk => ?_]
    · omega
    · have h1 := hno k hk (by omega)
      cases hu : (slot ss k).used with
      | true => rfl
      | false =>
        have h2 := (freeS_iff (slot ss k)).2 ⟨hu, (h.gens k hk).1, h.gen_lt (by omega) hk⟩
        rw [h1] at h2; cases h2
  · refine .inr ?_
    obtain ⟨f1, f2, f3⟩ := (freeS_iff _).1 hfr
    have hg := h.gens K k1
    rw [hL, hH]
    generalize hG : (slot ss K).gen = G at *
    have hJK : hJ ((K : Int) + 1024 * G) = K := by unfold hJ; omega
    have hdiv : ((K : Int) + 1024 * G) / 1024 = G := by omega
    have hsl := fun j => slot_set ss K j ⟨true, G, x⟩ k1
    have hne : ∀ k, k < ts.length → ts.getD k 0 ≠ (K : Int) + 1024 * G := by
      intro k hk e2
      have t := h.tell k hk
      rw [e2] at t
      have := t.eq (by rw [hJK, hdiv, hG])
      rw [hJK, f1] at this
      cases this
    have tn : Tell (ss.set K ⟨true, G, x⟩) ((K : Int) + 1024 * G) := by
      refine ⟨by omega, by rw [set_len, hJK]; exact k1, ?_, ?_⟩
      · rw [hJK, hsl, if_pos rfl, hdiv]; exact Int.le_refl _
      · rw [hJK, hsl, if_pos rfl]; intro _; rfl
    have fn : fndB (ss.set K ⟨true, G, x⟩) ((K : Int) + 1024 * G) = true := by
      rw [fnd_tell tn (by rw [hJK, hsl, if_pos rfl]; exact f3), hJK, hsl, if_pos rfl, hdiv]
      exact decide_eq_true rfl
    have old : ∀ j, j < ts.length → Tell (ss.set K ⟨true, G, x⟩) (ts.getD j 0) ∧ fndB (ss.set K ⟨true, G, x⟩) (ts.getD j 0) = fndB ss (ts.getD j 0) := by
      intro j hj
      have tj := h.tell j hj
      by_cases hjK : hJ (ts.getD j 0) = K
      · have hle := tj.le
        rw [hjK, hG] at hle
        have hlt : ts.getD j 0 / 1024 ≠ G := by
          intro e2
          have := tj.eq (by rw [hjK, hG]; exact e2)
          rw [hjK, f1] at this
          cases this
        have t2 : Tell (ss.set K ⟨true, G, x⟩) (ts.getD j 0) := by
          refine ⟨tj.pos, by rw [set_len]; exact tj.lt, ?_, ?_⟩
          · rw [hjK, hsl, if_pos rfl]; exact hle
          · rw [hjK, hsl, if_pos rfl]; intro _; rfl
        refine ⟨t2, ?_⟩
        rw [fnd_tell t2 (by rw [hjK, hsl, if_pos rfl]; exact f3), fnd_tell tj (by rw [hjK, hG]; exact f3)]
        rw [hjK, hsl, if_pos rfl, hG]
      · exact ⟨tj.set_ne _ k1 hjK, fnd_set_ne _ k1 hjK⟩
    refine ⟨hE, usedN_lt_of k1 f1, hne, (fnd_yes fn).2, ?_, ?_, by omega, by omega⟩
    · unfold getW
      rw [fn, (fnd_yes fn).1]
      have : (((K : Int) + 1024 * G) % 1024).toNat = K := hJK
      rw [if_pos rfl, this, hsl, if_pos rfl]
    · have hl := h.len
      refine ⟨by simp [hl], fun j hj => ?_, fun j hj => ?_, fun j hj => ?_, fun j hj => ?_, fun a b ha hb hab => ?_, h.fit.set K ⟨⟨by show _ ≤ G; omega, by show G ≤ _; omega⟩, by subst hx; constructor <;> (show _ ; simp only; omega)⟩⟩
      · rw [set_len] at hj
        rw [hsl]
        split
        · rw [mayS_iff]
          exact ⟨(decB_iff _).2 (.inr (.inl (by show x % 4 = 1; omega))), .inl ((goodN_iff _).2 ⟨f2, f3⟩), .inl rfl⟩
        · exact h.may j hj
      · rw [set_len] at hj
        rw [hsl]
        split
        · show 0 ≤ G ∧ G ≤ _
          omega
        · have := h.gens j hj; omega
      · rw [getD_snoc]
        split
        · exact tn
        · rename_i hjl
          simp at hj
          exact (old j (by omega)).1
      · rw [getD_snoc, getD_snoc, ← hl]
        split
        · exact fn.symm
        · rename_i hjl
          simp at hj
          rw [(old j (by omega)).2]; exact h.live j (by omega)
      · simp at ha hb
        rw [getD_snoc, getD_snoc]
        split
        · split
          · omega
          · exact fun e2 => hne b (by omega) e2.symm
        · split
          · exact hne a (by omega)
          · exact h.apart a b (by omega) (by omega) hab
theorem Fine.start {ss : List Slot} (h : ∀ k, k < ss.length → mayS (slot ss k) = true) (hg : ∀ k, k < ss.length → (slot ss k).gen ≤ 549755813888) (hf : FitS ss) : Fine 0 ss [] [] := by
  refine ⟨rfl, h, fun k hk => ⟨?_, by have := hg k hk; omega⟩, fun k hk => absurd hk (by simp), fun k hk => absurd hk (by simp), fun j k hj => absurd hj (by simp), hf⟩
  rcases ((mayS_iff _).1 (h k hk)).2.1 with h1 | h1
  · exact ((goodN_iff _).1 h1).1
  · omega
end Go.Proofs.Ytcljgphipdbckaa
