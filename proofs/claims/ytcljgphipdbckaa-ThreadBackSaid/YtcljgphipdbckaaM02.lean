/- Memory: slices of words that are read, rows of the call's own, arenas. -/
import Derived.Test.YtcljgphipdbckaaK
import Derived.Test.YtcljgphipdbckaaP01
import Derived.Below
import Derived.Laws.OwnMore
import Derived.Deep.AppendLies
import Derived.Deep.Draws
import Derived.Maps.AppendAt
import Derived.RegionTactic
import Derived.OwnWalk
import Derived.Laws.Rows
import Derived.Laws.CopyOwn
namespace Go.Proofs.Ytcljgphipdbckaa
open Go.RowKit

theorem block_of_add (a : Addr) (n : Nat) : (a.add n).block = a.block := by unfold Addr.add; split <;> rfl
theorem add_of_add (a : Addr) (i j : Nat) : (a.add i).add j = a.add (i + j) := by
  unfold Addr.add
  by_cases hi : i = 0 <;> by_cases hj : j = 0 <;> simp [hi, hj, Nat.add_assoc]

def Reads (w : World) (B size : Nat) (A : Option Addr) (n : Nat) (xs : List Value) : Prop :=
  xs.length = n * size ∧ (0 < n → ∃ ad, A = some ad ∧ ad.block < B ∧ ∀ j u, xs[j]? = some u → w.cell? (ad.add j) = some u)

section
variable {w w' : World} {B B' size n : Nat} {A : Option Addr} {xs : List Value}
theorem Reads.none_ : Reads w B size A 0 [] := ⟨by simp, fun h => absurd h (by omega)⟩
theorem Reads.at_ {k : Nat} (h : Reads w B 1 A n xs) (hk : k < n) : ∃ ad u, A = some ad ∧ ad.block < B ∧ xs[k]? = some u ∧ w.cell? (ad.add k) = some u := by
  obtain ⟨ad, e, hb, hc⟩ := h.2 (by omega)
  have hl : k < xs.length := by have := h.1; omega
  exact ⟨ad, xs[k], e, hb, List.getElem?_eq_getElem hl, hc k _ (List.getElem?_eq_getElem hl)⟩
theorem Reads.keep (h : Reads w B size A n xs) (hk : ∀ p : Addr, p.block < B → w'.cell? p = w.cell? p) : Reads w' B size A n xs :=
  ⟨h.1, fun hn => by
    obtain ⟨ad, e, hb, hc⟩ := h.2 hn
    exact ⟨ad, e, hb, fun j u hu => (hk _ (by rw [block_of_add]; exact hb)).trans (hc j u hu)⟩⟩
theorem Reads.more (h : Reads w B size A n xs) (hB : B ≤ B') : Reads w B' size A n xs :=
  ⟨h.1, fun hn => by
    obtain ⟨ad, e, hb, hc⟩ := h.2 hn
    exact ⟨ad, e, by omega, hc⟩⟩
theorem Reads.below (h : Reads w B size A n xs) (hb : Below B w w') : Reads w' B size A n xs := h.keep fun _ hp => hb.cell hp
theorem Reads.drew (h : Reads w B size A n xs) : Reads w.drew B size A n xs := h
theorem Reads.drewN (h : Reads w B size A n xs) (k : Nat) : Reads (w.drewN k) B size A n xs := h
theorem Reads.alloc (h : Reads w B size A n xs) (hB : B ≤ w.heap.size) (o : Obj) : Reads (w.alloc o) B size A n xs := h.keep fun p hp => World.cell?_alloc_lt w o p (by omega)
theorem Reads.setCell (h : Reads w B size A n xs) {p : Addr} (hB : B ≤ p.block) (u : Value) : Reads (w.setCell p u) B size A n xs :=
  h.keep fun q hq => World.cell?_setCell_other w p q u (fun e => by subst e; omega)
theorem Reads.grown (h : Reads w B size A n xs) {row : Option Nat} (hg : w.grownBy w' row) (hB : B ≤ w.heap.size) (hr : ∀ g, row = some g → B ≤ g) : Reads w' B size A n xs :=
  h.keep fun p hp => World.cell?_of_block (hg.block p.block (by omega) (fun e => by have := hr _ e.symm; omega))
theorem Reads.cut (h : Reads w B size A n xs) {k cap : Nat} (hk : k ≤ n) (hc : n ≤ cap) :
    Reads w B size (if cap = k then A else A.map (·.add (k * size))) (n - k) (xs.drop (k * size)) := by
  refine ⟨by rw [List.length_drop, h.1, Nat.sub_mul], fun hn => ?_⟩
  obtain ⟨ad, rfl, hb, hcell⟩ := h.2 (by omega)
  rw [if_neg (by omega)]
  refine ⟨ad.add (k * size), rfl, by rw [block_of_add]; exact hb, fun j u hu => ?_⟩
  rw [add_of_add]
  exact hcell _ u (by rw [← hu, List.getElem?_drop])
theorem Reads.of_own {base : Nat} {e : TypeId} {c : Nat} (h : w.ownsRow base e size (.slice A n c) n xs) : Reads w w.heap.size size A n xs := by
  refine ⟨h.1, fun hn => ?_⟩
  obtain ⟨g, cap, hv, _, hlt⟩ := h.form hn
  have hA : A = some ⟨g, 0, none⟩ := by injection hv
  subst hA
  exact ⟨_, rfl, hlt, h.cells (g := g) rfl⟩
end

def Blk (w : World) (g : Nat) (t : TypeId) (cs : Array Value) : Prop := w.heap[g]? = some (.cells cs t (0, 0))

section
variable {w w' : World} {g : Nat} {t : TypeId} {cs : Array Value}
theorem Blk.lt (h : Blk w g t cs) : g < w.heap.size := by
  rcases Nat.lt_or_ge g w.heap.size with hlt | hge
  · exact hlt
  · unfold Blk at h; rw [Array.getElem?_eq_none hge] at h; cases h
theorem Blk.cell (h : Blk w g t cs) (i : Nat) : w.cell? ⟨g, i, none⟩ = cs[i]? := cell_of_row w g i cs t (0, 0) h
theorem Blk.frozen (h : Blk w g t cs) (i : Nat) : w.frozen? ⟨g, i, none⟩ = false := by
  unfold Blk at h
  simp [World.frozen?, h]
theorem Blk.new (w : World) (t : TypeId) (cs : Array Value) : Blk (w.alloc (.cells cs t)) w.heap.size t cs := heap_alloc_new w _
theorem Blk.drew (h : Blk w g t cs) : Blk w.drew g t cs := h
theorem Blk.drewN (h : Blk w g t cs) (n : Nat) : Blk (w.drewN n) g t cs := h
theorem Blk.alloc (h : Blk w g t cs) (o : Obj) : Blk (w.alloc o) g t cs := (Below.heap_alloc w o g h.lt).trans h
theorem Blk.set_ (h : Blk w g t cs) (i : Nat) (u : Value) : Blk (w.setCell ⟨g, i, none⟩ u) g t (cs.setIfInBounds i u) := by
  unfold Blk at h ⊢
  simp [World.setCell, Array.getElem?_modify, h]
theorem Blk.far (h : Blk w g t cs) {p : Addr} (hp : g ≠ p.block) (u : Value) : Blk (w.setCell p u) g t cs := (Below.heap_setCell w p u g hp).trans h
theorem Blk.below {B : Nat} (h : Blk w g t cs) (hb : Below B w w') (hg : g < B) : Blk w' g t cs := (hb.block g hg).trans h
theorem Blk.grown {row : Option Nat} (h : Blk w g t cs) (hb : w.grownBy w' row) (hg : some g ≠ row) : Blk w' g t cs := (hb.block g h.lt hg).trans h
theorem Blk.ne_ {g' : Nat} {t' : TypeId} {cs' : Array Value} (h : Blk w g t cs) (h' : Blk w g' t' cs') (hne : t ≠ t') : g ≠ g' := by
  rintro rfl
  unfold Blk at h h'
  rw [h] at h'
  injection h' with h'
  injection h' with _ ht
  exact hne ht
theorem own_blk_ne {base : Nat} {e : TypeId} {size n : Nat} {v : Value} {xs : List Value} (h : w.ownsRow base e size v n xs) (hg : Blk w g t cs) (hne : e ≠ t) : v.ownBlock ≠ some g := by
  rcases h.2 with ⟨rfl, _⟩ | ⟨g', cap, cur, rfl, _, hh, _⟩
  · simp [Value.ownBlock]
  · intro he
    have : g' = g := by simpa [Value.ownBlock] using he
    subst this
    exact Blk.ne_ (t := e) hh hg hne rfl
end

section
variable {P : Program} (w : World)

theorem run_append_of_nil (base : Nat) (t ty e : TypeId) (i : TypeInfo) (size : Nat) (ht : P.underlying t = some (.slice e)) (hi : P.info? e = some i)
    (v : Value) (n : Nat) (xs : List Value) (hown : w.ownsRow base e size v n xs) (c : Nat) : (Builtin.append_ #[t, t] ty #[v, .slice none 0 c]).run P w = .ok v w := by
  rcases hown.2 with ⟨rfl, rfl⟩ | ⟨g, cap, cur, rfl, _, _, hnc, _⟩
  · simp [Builtin.append_, run_underlying ht, sizeOf, typeInfo, hi, Builtin.lenOf, Builtin.firstCells]
  · simp [Builtin.append_, run_underlying ht, sizeOf, typeInfo, hi, Builtin.lenOf, Builtin.firstCells, hnc, storeCells]

theorem run_append_any (base : Nat) (t ty e : TypeId) (i : TypeInfo) (z : Value) (size bytes : Nat) (ht : P.underlying t = some (.slice e)) (hi : P.info? e = some i) (hz : i.zero = some z)
    (hsize : i.size = size) (hby : i.bytes = bytes) (hzs : z.cells.size = size) (hsz : 0 < size)
    (v : Value) (n : Nat) (xs : List Value) (hown : w.ownsRow base e size v n xs)
    (B : Nat) (A : Option Addr) (m c : Nat) (news : List Value) (hr : Reads w B size A m news) (h1 : ∀ u ∈ news, u.oneCell' = true)
    (h63 : n + m ≤ maxLen) (hbytes : (n + m) * bytes ≤ 140737488355328) (hbase : base ≤ w.heap.size) :
    ∃ v' w', (Builtin.append_ #[t, t] ty #[v, .slice A m c]).run P w = .ok v' w' ∧ w'.ownsRow base e size v' (n + m) (xs ++ news) ∧ w.grownBy w' v.ownBlock ∧
      (v'.ownBlock = v.ownBlock ∨ v'.ownBlock = some w.heap.size) := by
  rcases A with _ | ad
  · have hm : m = 0 := by
      rcases Nat.eq_zero_or_pos m with h0 | h0
      · exact h0
      · obtain ⟨ad, h, _⟩ := hr.2 h0
        cases h
    subst hm
    have hn : news = [] := List.eq_nil_of_length_eq_zero (by simpa using hr.1)
    subst hn
    exact ⟨v, w, run_append_of_nil w base t ty e i size ht hi v n xs hown c, by simpa using hown, World.grownBy.refl w _, .inl rfl⟩
  · have hcells : ∀ j u, news[j]? = some u → w.cell? (ad.add j) = some u := by
      intro j u hu
      rcases Nat.eq_zero_or_pos m with h0 | h0
      · subst h0
        have hn : news = [] := List.eq_nil_of_length_eq_zero (by simpa using hr.1)
        subst hn
        simp at hu
      · obtain ⟨ad', h, _, hc⟩ := hr.2 h0
        injection h with h
        subst h
        exact hc j u hu
    obtain ⟨v', w', hrun, h2, h3, _, h5⟩ := run_append_own_at (P := P) w base t ty e i z size bytes ht hi hz hsize hby hzs hsz v n xs hown ad m c news hr.1 hcells h1 h63 hbytes hbase
    exact ⟨v', w', hrun, h2, h3, h5⟩

theorem wp_append_any {o : Oper} {a : Act} {K : Act → World → Prop} {Q : Exit → Act → World → Prop} (s x : Operand) (t : TypeId)
    (ho : o.op = .call { callee := .builtin .append, args := #[s, x], argTypes := #[t, t] })
    (base : Nat) (e : TypeId) (i : TypeInfo) (z : Value) (size bytes : Nat) (ht : P.underlying t = some (.slice e)) (hi : P.info? e = some i) (hz : i.zero = some z)
    (hsize : i.size = size) (hby : i.bytes = bytes) (hzs : z.cells.size = size) (hsz : 0 < size)
    (v : Value) (n : Nat) (xs : List Value) (hs : a.eval s = v) (hown : w.ownsRow base e size v n xs)
    (B : Nat) (A : Option Addr) (m c : Nat) (news : List Value) (hx : a.eval x = .slice A m c) (hr : Reads w B size A m news) (h1 : ∀ u ∈ news, u.oneCell' = true)
    (h63 : n + m ≤ maxLen) (hbytes : (n + m) * bytes ≤ 140737488355328) (hbase : base ≤ w.heap.size)
    (h : ∀ v' w', w'.ownsRow base e size v' (n + m) (xs ++ news) → w.grownBy w' v.ownBlock → (v'.ownBlock = v.ownBlock ∨ v'.ownBlock = some w.heap.size) → K (a.put o.dst v') w') : o.wp P a w K Q := by
  obtain ⟨v', w', hrun, h2, h3, h4⟩ := run_append_any (P := P) w base t o.type e i z size bytes ht hi hz hsize hby hzs hsz v n xs hown B A m c news hr h1 h63 hbytes hbase
  unfold Oper.wp execOp
  simp only [ho, resolve, invoke, builtin, Sem.run_bind, Sem.run_pure, Result.andThen_ok, List.map_toArray, List.map_cons, List.map_nil, hs, hx, hrun]
  exact h v' w' h2 h3 h4

theorem wpList_append_any {ops : Array Oper} {rest : List Oper} {o : Oper} {a : Act} {Q : Exit → Act → World → Prop} (hgd : o.guard = none) (s x : Operand) (t : TypeId)
    (ho : o.op = .call { callee := .builtin .append, args := #[s, x], argTypes := #[t, t] })
    (base : Nat) (e : TypeId) (i : TypeInfo) (z : Value) (size bytes : Nat) (ht : P.underlying t = some (.slice e)) (hi : P.info? e = some i) (hz : i.zero = some z)
    (hsize : i.size = size) (hby : i.bytes = bytes) (hzs : z.cells.size = size) (hsz : 0 < size)
    (v : Value) (n : Nat) (xs : List Value) (hs : a.eval s = v) (hown : w.ownsRow base e size v n xs)
    (B : Nat) (A : Option Addr) (m c : Nat) (news : List Value) (hx : a.eval x = .slice A m c) (hr : Reads w B size A m news) (h1 : ∀ u ∈ news, u.oneCell' = true)
    (h63 : n + m ≤ maxLen) (hbytes : (n + m) * bytes ≤ 140737488355328) (hbase : base ≤ w.heap.size)
    (h : ∀ v' w', w'.ownsRow base e size v' (n + m) (xs ++ news) → w.grownBy w' v.ownBlock → (v'.ownBlock = v.ownBlock ∨ v'.ownBlock = some w.heap.size) → wpList P ops Q rest (a.put o.dst v') w') : wpList P ops Q (o :: rest) a w :=
  wpList_plain hgd fun _ hK => wp_append_any w s x t ho base e i z size bytes ht hi hz hsize hby hzs hsz v n xs hs hown B A m c news hx hr h1 h63 hbytes hbase fun v' w' h2 h3 h4 => hK _ _ (h v' w' h2 h3 h4)

theorem step_append_any {ops : Array Oper} {o : Oper} {a : Act} {K : Act → World → Prop} {Q : Exit → Act → World → Prop} {E : Prop} (hgd : o.guard = none) (s x : Operand) (t : TypeId)
    (ho : o.op = .call { callee := .builtin .append, args := #[s, x], argTypes := #[t, t] })
    (base : Nat) (e : TypeId) (i : TypeInfo) (z : Value) (size bytes : Nat) (ht : P.underlying t = some (.slice e)) (hi : P.info? e = some i) (hz : i.zero = some z)
    (hsize : i.size = size) (hby : i.bytes = bytes) (hzs : z.cells.size = size) (hsz : 0 < size)
    (v : Value) (n : Nat) (xs : List Value) (hs : a.eval s = v) (hown : w.ownsRow base e size v n xs)
    (B : Nat) (A : Option Addr) (m c : Nat) (news : List Value) (hx : a.eval x = .slice A m c) (hr : Reads w B size A m news) (h1 : ∀ u ∈ news, u.oneCell' = true)
    (h63 : n + m ≤ maxLen) (hbytes : (n + m) * bytes ≤ 140737488355328) (hbase : base ≤ w.heap.size)
    (h : ∀ v' w', w'.ownsRow base e size v' (n + m) (xs ++ news) → w.grownBy w' v.ownBlock → (v'.ownBlock = v.ownBlock ∨ v'.ownBlock = some w.heap.size) → K (a.put o.dst v') w') :
    if Region.wanted o (yielded ops a.tmps) = true then Oper.wp P o a w K Q else E := by
  have hw : Region.wanted o (yielded ops a.tmps) = true := by simp [Region.wanted, hgd]
  rw [if_pos hw]
  exact wp_append_any w s x t ho base e i z size bytes ht hi hz hsize hby hzs hsz v n xs hs hown B A m c news hx hr h1 h63 hbytes hbase h
end

/-! ### slices of words -/
def wds (ws : List Int) : List Value := ws.map (Value.int .u64)
theorem wds_length (ws : List Int) : (wds ws).length = ws.length := by simp [wds]
theorem wds_get (ws : List Int) (k : Nat) (h : k < ws.length) : (wds ws)[k]? = some (.int .u64 (ws.getD k 0)) := by
  simp [wds, List.getD, List.getElem?_map, List.getElem?_eq_getElem h]
theorem wds_one (ws : List Int) : ∀ u ∈ wds ws, u.oneCell' = true := by
  intro u hu
  simp only [wds, List.mem_map] at hu
  obtain ⟨x, _, rfl⟩ := hu
  rfl
theorem wds_set (ws : List Int) (k : Nat) (x : Int) : (wds ws).set k (.int .u64 x) = wds (ws.set k x) := by
  simp [wds, List.map_set]
theorem wds_append (a b : List Int) : wds a ++ wds b = wds (a ++ b) := by simp [wds]
def AllU (ws : List Int) : Prop := ∀ x ∈ ws, U64 x
theorem AllU.get {ws : List Int} (h : AllU ws) (k : Nat) : U64 (ws.getD k 0) := by
  by_cases hk : k < ws.length
  · rw [List.getD_eq_getElem?_getD, List.getElem?_eq_getElem hk]
    exact h _ (List.getElem_mem hk)
  · rw [List.getD_eq_getElem?_getD, List.getElem?_eq_none (by omega)]
    exact ⟨by decide, by decide⟩
theorem AllU.set {ws : List Int} (h : AllU ws) (k : Nat) {x : Int} (hx : U64 x) : AllU (ws.set k x) := by
  intro y hy
  rcases List.mem_or_eq_of_mem_set hy with h1 | h1
  · exact h y h1
  · rw [h1]; exact hx
theorem AllU.nil : AllU [] := by intro x hx; cases hx

/-- a slice value that reads as words -/
structure Rw (w : World) (v : Value) (ws : List Int) : Prop where
  ex : ∃ A c, v = .slice A ws.length c ∧ ws.length ≤ c ∧ c ≤ maxLen ∧ (A = none → c = 0) ∧
    (0 < ws.length → ∃ b o, A = some ⟨b, o, none⟩ ∧ ∀ k, k < ws.length → w.cell? ⟨b, o + k, none⟩ = some (.int .u64 (ws.getD k 0)))
  fit : AllU ws

section
variable {w w' : World} {v : Value} {ws : List Int}
theorem Rw.reads (h : Rw w v ws) : ∃ A c, v = .slice A ws.length c ∧ ws.length ≤ c ∧ c ≤ maxLen ∧ Reads w w.heap.size 1 A ws.length (wds ws) := by
  obtain ⟨⟨A, c, rfl, h1, h2, _, h3⟩, _⟩ := h
  refine ⟨A, c, rfl, h1, h2, by simp [wds_length], fun hn => ?_⟩
  obtain ⟨b, o, rfl, hc⟩ := h3 hn
  refine ⟨_, rfl, World.block_lt_of_cell? _ _ (hc 0 hn), fun j u hu => ?_⟩
  have hj : j < ws.length := by
    have := (List.getElem?_eq_some_iff.1 hu).1
    simpa [wds_length] using this
  rw [wds_get ws j hj] at hu
  have e : (⟨b, o, none⟩ : Addr).add j = ⟨b, o + j, none⟩ := by
    unfold Addr.add; split
    · rename_i hz; rw [hz]; simp
    · rfl
  rw [e, hc j hj, hu]
theorem Rw.kept (h : Rw w v ws) {row : Option Nat} (hg : w.grownBy w' row) (hne : v.ownBlock = none ∨ v.ownBlock ≠ row) : Rw w' v ws := by
  obtain ⟨⟨A, c, rfl, h1, h2, h4, h3⟩, hf⟩ := h
  refine ⟨⟨A, c, rfl, h1, h2, h4, fun hn => ?_⟩, hf⟩
  obtain ⟨b, o, rfl, hc⟩ := h3 hn
  exact ⟨b, o, rfl, fun k hk => hg.cell (hc k hk) (by simpa [Value.ownBlock] using hne)⟩
theorem Rw.below (h : Rw w v ws) (hb : Below w.heap.size w w') : Rw w' v ws :=
  h.kept (row := none) ⟨hb.os, hb.tape, hb.output, hb.size, fun k hk _ => hb.block k hk⟩ (by cases v.ownBlock <;> simp)
theorem Rw.drewN (h : Rw w v ws) (n : Nat) : Rw (w.drewN n) v ws := ⟨h.ex, h.fit⟩
theorem Rw.nil_ {n c : Nat} (h : Rw w (.slice none n c) ws) : ws = [] ∧ c = 0 := by
  obtain ⟨⟨A', c', e, _, _, h4, h3⟩, _⟩ := h
  simp only [Value.slice.injEq] at e
  obtain ⟨e1, e2, e3⟩ := e
  subst e3
  refine ⟨?_, h4 e1.symm⟩
  rcases Nat.eq_zero_or_pos ws.length with h0 | h0
  · exact List.eq_nil_of_length_eq_zero h0
  · obtain ⟨b, o, e4, _⟩ := h3 h0
    rw [← e1] at e4; cases e4
theorem Rw.of_own {B : Nat} (h : w.ownsRow B 22 1 v ws.length (wds ws)) (hf : AllU ws) : Rw w v ws := by
  rcases h.2 with ⟨rfl, h0⟩ | ⟨g, cap, cur, rfl, hb, hg, hn, hc, hs, ht⟩
  · have : ws = [] := List.eq_nil_of_length_eq_zero h0
    subst this
    exact ⟨⟨none, 0, rfl, by simp, by simp [maxLen], fun _ => rfl, by simp⟩, hf⟩
  · refine ⟨⟨some ⟨g, 0, none⟩, cap, rfl, hn, hc, by simp, fun _ => ⟨g, 0, rfl, fun k hk => ?_⟩⟩, hf⟩
    rw [Nat.zero_add, cell_of_row w g k cur 22 (0, 0) hg]
    have := wds_get ws k hk
    rw [← ht, List.getElem?_take, if_pos (by omega)] at this
    simpa using this
end

/-- an arena that is made: its struct at block p, its words' slice v -/
structure Ar (w : World) (B p : Nat) (v : Value) (ws : List Int) : Prop where
  base : B ≤ p
  blk : Blk w p 56 #[.bool true, v]
  own : w.ownsRow B 22 1 v ws.length (wds ws)
  fit : AllU ws

section
variable {w w' : World} {B p : Nat} {v : Value} {ws : List Int}
theorem Ar.ne (h : Ar w B p v ws) : v.ownBlock ≠ some p := own_blk_ne h.own h.blk (by decide)
theorem Ar.kept (h : Ar w B p v ws) {row : Option Nat} (hg : w.grownBy w' row) (hp : some p ≠ row) (hne : v.ownBlock = none ∨ v.ownBlock ≠ row) : Ar w' B p v ws :=
  ⟨h.base, h.blk.grown hg hp, h.own.kept hg hne, h.fit⟩
theorem Ar.below (h : Ar w B p v ws) (hb : Below w.heap.size w w') : Ar w' B p v ws :=
  h.kept (row := none) ⟨hb.os, hb.tape, hb.output, hb.size, fun k hk _ => hb.block k hk⟩ (by simp) (by cases v.ownBlock <;> simp)
theorem Ar.drewN (h : Ar w B p v ws) (n : Nat) : Ar (w.drewN n) B p v ws := ⟨h.base, h.blk.drewN n, h.own, h.fit⟩
theorem Ar.cell0 (h : Ar w B p v ws) : w.cell? ⟨p, 0, none⟩ = some (.bool true) := h.blk.cell 0
theorem Ar.cell1 (h : Ar w B p v ws) : w.cell? ⟨p, 1, none⟩ = some v := h.blk.cell 1
theorem Ar.form (h : Ar w B p v ws) : ∃ A c, v = .slice A ws.length c ∧ ws.length ≤ c ∧ c ≤ maxLen ∧ (A = none ∧ ws = [] ∧ c = 0 ∨ ∃ g, A = some ⟨g, 0, none⟩ ∧ B ≤ g ∧ g < w.heap.size) := by
  rcases h.own.2 with ⟨rfl, h0⟩ | ⟨g, cap, cur, rfl, hb, hg, hn, hc, hs, ht⟩
  · have : ws = [] := List.eq_nil_of_length_eq_zero h0
    subst this
    exact ⟨none, 0, rfl, by simp, by simp [maxLen], .inl ⟨rfl, rfl, rfl⟩⟩
  · exact ⟨_, cap, rfl, hn, hc, .inr ⟨g, rfl, hb, (Array.getElem?_eq_some_iff.1 hg).1⟩⟩
theorem Ar.cellAt {g c : Nat} (h : Ar w B p (.slice (some ⟨g, 0, none⟩) ws.length c) ws) (k : Nat) (hk : k < ws.length) : w.cell? ⟨g, k, none⟩ = some (.int .u64 (ws.getD k 0)) := by
  rw [h.own.cellAt k (by omega), wds_get ws k hk]
theorem Ar.frozenAt {g c : Nat} (h : Ar w B p (.slice (some ⟨g, 0, none⟩) ws.length c) ws) (k : Nat) : w.frozen? ⟨g, k, none⟩ = false := h.own.frozenAt k
theorem Ar.stored {g c : Nat} (h : Ar w B p (.slice (some ⟨g, 0, none⟩) ws.length c) ws) (k : Nat) {x : Int} (hx : U64 x) :
    Ar (w.setCell ⟨g, k, none⟩ (.int .u64 x)) B p (.slice (some ⟨g, 0, none⟩) ws.length c) (ws.set k x) ∧ w.grownBy (w.setCell ⟨g, k, none⟩ (.int .u64 x)) (some g) := by
  have h1 := h.own.stored k (.int .u64 x)
  rw [wds_set] at h1
  refine ⟨⟨h.base, h.blk.far (by
    have := h.ne
    simp [Value.ownBlock] at this
    show p ≠ g
    omega) _, ?_, h.fit.set k hx⟩, h1.2⟩
  rw [List.length_set]
  exact h1.1
theorem Ar.len_ {A : Option Addr} {n c : Nat} (h : Ar w B p (.slice A n c) ws) : n = ws.length := by
  obtain ⟨A', c', e, _⟩ := h.form
  injection e
theorem Ar.cellAt' {g n c : Nat} (h : Ar w B p (.slice (some ⟨g, 0, none⟩) n c) ws) (k : Nat) (hk : k < ws.length) : w.cell? ⟨g, k, none⟩ = some (.int .u64 (ws.getD k 0)) := by
  have := h.len_; subst this; exact h.cellAt k hk
theorem Ar.frozenAt' {g n c : Nat} (h : Ar w B p (.slice (some ⟨g, 0, none⟩) n c) ws) (k : Nat) : w.frozen? ⟨g, k, none⟩ = false := by
  have := h.len_; subst this; exact h.frozenAt k
theorem Ar.stored' {g n c : Nat} (h : Ar w B p (.slice (some ⟨g, 0, none⟩) n c) ws) (k : Nat) {x : Int} (hx : U64 x) :
    Ar (w.setCell ⟨g, k, none⟩ (.int .u64 x)) B p (.slice (some ⟨g, 0, none⟩) n c) (ws.set k x) ∧ w.grownBy (w.setCell ⟨g, k, none⟩ (.int .u64 x)) (some g) := by
  have := h.len_; subst this; exact h.stored k hx
theorem Ar.rw (h : Ar w B p v ws) : Rw w v ws := Rw.of_own h.own h.fit
theorem Ar.lt (h : Ar w B p v ws) : p < w.heap.size := h.blk.lt
end

/-- what copy does within an arena's words -/
theorem copy_turns {w : World} {B p g N c : Nat} {ws : List Int} (h : Ar w B p (.slice (some ⟨g, 0, none⟩) N c) ws) (I J n : Nat) (hI : I + n ≤ ws.length) (hJ : J + n ≤ ws.length) (L : List Int) (hL : L.length = ws.length)
    (hs : L = ws.take I ++ ((ws.drop J).take n ++ ws.drop (I + n))) (hLU : AllU L) (cur : Array Value) (hg : w.heap[g]? = some (.cells cur 22 (0, 0))) (hcur : cur.toList.take ws.length = wds ws) :
    Ar (w.setRow g (cur.toList.take I ++ (((wds ws).drop J).take n ++ cur.toList.drop (I + n))).toArray) B p (.slice (some ⟨g, 0, none⟩) N c) L ∧ w.grownBy (w.setRow g (cur.toList.take I ++ (((wds ws).drop J).take n ++ cur.toList.drop (I + n))).toArray) (some g) := by
  have hlen := h.len_
  subst hlen
  have hne := h.ne
  simp [Value.ownBlock] at hne
  have hgr : w.grownBy (w.setRow g (cur.toList.take I ++ (((wds ws).drop J).take n ++ cur.toList.drop (I + n))).toArray) (some g) :=
    ⟨rfl, rfl, rfl, by simp [World.setRow], fun k _ hk => setRow_other w g k _ (fun e => hk (by rw [e]))⟩
  refine ⟨⟨h.base, h.blk.grown hgr (by simp; omega), ?_, hLU⟩, hgr⟩
  rcases h.own.2 with ⟨e, _⟩ | ⟨g', cap, cur', e, hb, hg', hn, hc, hsz, ht⟩
  · cases e
  · injection e with e1 e2 e3
    injection e1 with e1
    injection e1 with e1
    subst e1 e3
    rw [hg] at hg'
    injection hg' with hg'
    injection hg' with hg'
    subst hg'
    rw [Nat.mul_one] at hsz ht
    have hsz' : cur.toList.length = c := by simpa using hsz
    have hcl : (((wds ws).drop J).take n).length = n := by rw [List.length_take, List.length_drop, wds_length]; omega
    rw [hL]
    refine ⟨by rw [wds_length, hL, Nat.mul_one], .inr ⟨g, c, _, rfl, hb, setRow_heap w g cur _ 22 _ hg, hn, hc, ?_, ?_⟩⟩
    · rw [List.size_toArray, List.length_append, List.length_append, List.length_take, hcl, List.length_drop, hsz', Nat.mul_one]
      omega
    · rw [Nat.mul_one]
      show (cur.toList.take I ++ (((wds ws).drop J).take n ++ cur.toList.drop (I + n))).take ws.length = wds L
      have hw : wds L = (wds ws).take I ++ (((wds ws).drop J).take n ++ (wds ws).drop (I + n)) := by
        rw [hs]; simp [wds, List.map_append, List.map_take, List.map_drop]
      rw [hw]
      apply List.ext_getElem?
      intro i
      rw [List.getElem?_take]
      have hI' : (cur.toList.take I).length = I := by rw [List.length_take, hsz']; omega
      have hI2 : ((wds ws).take I).length = I := by rw [List.length_take, wds_length]; omega
      by_cases hi : i < ws.length
      · rw [if_pos hi]
        have hcw : cur.toList[i]? = (wds ws)[i]? := by rw [← hcur, List.getElem?_take_of_lt hi]
        by_cases h1 : i < I
        · rw [List.getElem?_append_left (by omega), List.getElem?_append_left (by omega), List.getElem?_take_of_lt h1, List.getElem?_take_of_lt h1, hcw]
        · have eL : (cur.toList.take I ++ (((wds ws).drop J).take n ++ cur.toList.drop (I + n)))[i]? = (((wds ws).drop J).take n ++ cur.toList.drop (I + n))[i - I]? := by
            rw [List.getElem?_append_right (by omega), hI']
          have eR : ((wds ws).take I ++ (((wds ws).drop J).take n ++ (wds ws).drop (I + n)))[i]? = (((wds ws).drop J).take n ++ (wds ws).drop (I + n))[i - I]? := by
            rw [List.getElem?_append_right (by omega), hI2]
          rw [eL, eR]
          by_cases h2 : i - I < n
          · rw [List.getElem?_append_left (by omega), List.getElem?_append_left (by omega)]
          · have fL : (((wds ws).drop J).take n ++ cur.toList.drop (I + n))[i - I]? = (cur.toList.drop (I + n))[i - I - n]? := by
              rw [List.getElem?_append_right (by omega), hcl]
            have fR : (((wds ws).drop J).take n ++ (wds ws).drop (I + n))[i - I]? = ((wds ws).drop (I + n))[i - I - n]? := by
              rw [List.getElem?_append_right (by omega), hcl]
            rw [fL, fR, List.getElem?_drop, List.getElem?_drop, show I + n + (i - I - n) = i by omega, hcw]
      · rw [if_neg hi]
        symm
        apply List.getElem?_eq_none
        rw [List.length_append, List.length_append, hI2, hcl, List.length_drop, wds_length]
        omega
theorem Ar.row_ {w : World} {B p g N c : Nat} {ws : List Int} (h : Ar w B p (.slice (some ⟨g, 0, none⟩) N c) ws) : ∃ cur : Array Value, w.heap[g]? = some (.cells cur 22 (0, 0)) ∧ cur.toList.take ws.length = wds ws ∧ ws.length ≤ cur.size := by
  rcases h.own.2 with ⟨e, _⟩ | ⟨g', cap, cur', e, hb, hg', hn, hc, hsz, ht⟩
  · cases e
  · injection e with e1 e2 e3
    injection e1 with e1
    injection e1 with e1
    subst e1 e3
    exact ⟨cur', hg', by simpa using ht, by rw [hsz]; omega⟩
end Go.Proofs.Ytcljgphipdbckaa
