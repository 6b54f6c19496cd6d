/- Of the following, one behind the other: A general step from a walk to a law's row: if a law's call returns true and leaves all old memory as it was, then the row's end holds: the result reads as true, each argument reads as before. No program in sight. Conditions: the parameter types can be read as data and no variable is listed in the specification. Words for memory: a slice that reads as a list; a block that is known whole; an append onto a row of the call's own, whatever the source. Only some blocks, of those that were there, may have changed. No program in sight. Forests in plain Lean: who is whose parent, rows of children, free places; preorder; what Add, Drop, Prune do. No program in sight. Forests in plain Lean: Add, Drop, Prune leave a forest. No program in sight. The places of a forest, as the program keeps them, in plain Lean: what join does; that Add, Drop, Prune do on the places what they do on the forest. No program in sight. The places of a forest, in plain Lean: that Drop and Prune do on the places what they do on the forest. No program in sight. The places of a forest, in plain Lean: that Drop and Prune do on the places what they do on the forest. No program in sight. -/
import Derived.WalkKit
import Derived.ProofKit
import Derived.OpenShut
import Derived.Below
import Derived.Laws.OwnMore
import Derived.Deep.AppendLies
import Derived.Deep.Draws
import Derived.Laws.Rows
import Derived.Maps.AppendAt
import Derived.RegionTactic
import Derived.OwnWalk
import Derived.Lib.Hide
/- A general step from a walk to a law's row: if a law's call returns true and leaves all old memory as it was, then the row's end holds: the result reads as true, each argument reads as before. No program in sight. Conditions: the parameter types can be read as data and no variable is listed in the specification. -/
namespace Go.Proofs.Ytbknmfegckeogaa
open Go.ChangeShapes Go.WideShapes Go.ChangeAt Go.RowKit

theorem trodAll_below {H : Type} {enc : TypeId × Value → H} {P : Program} (hl : laidOutB P = true) {W W' : World} (hb : Below W.heap.size W W') :
    ∀ (ts : List TypeId) (vs : List Value) (ds : List (DataW H)) (ps : List MemPlace), (∀ t ∈ ts, P.readableRec t = true ∧ t < P.types.size) →
      DataW.TrodAll enc P W 0 (fun _ => true) true ts vs ds ps → (∀ x ∈ ps, x.block < W.heap.size) →
      DataW.TrodAll enc P W' 0 (fun b => decide (b < W.heap.size)) true ts vs ds ps
  | [], vs, ds, ps, _, h, _ => by
    obtain ⟨rfl, rfl, rfl⟩ := trodAll_nil h
    exact trodAll_mk0
  | t :: ts, vs, ds, ps, hr, h, hlt => by
    obtain ⟨v, vs', d, ds', p, q, rfl, rfl, rfl, h0, h1⟩ := trodAll_cons h
    refine trodAll_cons_mk ?_ ?_
    · exact Below.trod hl (hr t (by simp)).1 (hr t (by simp)).2 h0 hb (fun x hx => hlt x (List.mem_append_left _ hx))
    · exact trodAll_below hl hb ts vs' ds' q (fun t ht => hr t (by simp [ht])) h1 (fun x hx => hlt x (List.mem_append_right _ hx))

theorem law_post {H : Type} {enc : TypeId × Value → H} {P : Program} {fn : Func} {s : ChangeSpec} {W W' : World} {args : Array Value} {ds gs : List (DataW H)} {before : List MemPlace} {B : TypeId}
    (hW : DataW.Whole enc P fn.params.toList s.vars false W args.toList ds gs before)
    (hl : laidOutB P = true) (hrd : ∀ t ∈ fn.params.toList, P.readableRec t = true ∧ t < P.types.size)
    (hvars : s.vars = []) (hres : fn.resultTypes = #[B]) (hB : P.underlying B = some .bool)
    (hsr : (s.fn H (ds ++ [])).results = [.lit (.bool true)]) (hsa : (s.fn H (ds ++ [])).args = ds) (hsv : (s.fn H (ds ++ [])).vars = [])
    (hb : Below W.heap.size W W') : s.post enc P fn false true false false W args (.bool true) W' := by
  have hW' := hW
  obtain ⟨p, q, hA, hV, rfl, _, _⟩ := hW
  rw [hvars] at hV
  obtain ⟨rfl, rfl⟩ := trodVars_none hV
  have hlt : ∀ x ∈ p, x.block < W.heap.size := fun x hx => by
    have := hW'.lt x (List.mem_append_left _ hx)
    simpa using this
  refine ⟨ds, [], _, [], p, [], hW', ?_, ?_, ?_, hb.frame _, fun h => by cases h⟩
  · rw [hsr, hres]
    exact trodAll_cons_mk (p := []) (p' := []) (shut_bool hB _) trodAll_mk0
  · rw [hsa]
    exact trodAll_below hl hb _ _ _ _ hrd hA hlt
  · rw [hsv, hvars]
    rfl
end Go.Proofs.Ytbknmfegckeogaa

/- Words for memory: a slice that reads as a list; a block that is known whole; an append onto a row of the call's own, whatever the source. -/
namespace Go.Proofs.Ytbknmfegckeogaa
open Go.RowKit

theorem block_of_add (a : Addr) (n : Nat) : (a.add n).block = a.block := by unfold Addr.add; split <;> rfl
theorem add_of_add (a : Addr) (i j : Nat) : (a.add i).add j = a.add (i + j) := by
  unfold Addr.add
  by_cases hi : i = 0 <;> by_cases hj : j = 0 <;> simp [hi, hj, Nat.add_assoc]

def Reads (w : World) (B size : Nat) (A : Option Addr) (n : Nat) (xs : List Value) : Prop :=
  xs.length = n * size ∧ (0 < n → ∃ ad, A = some ad ∧ ad.block < B ∧ ∀ j u, xs[j]? = some u → w.cell? (ad.add j) = some u)

section
variable {w w' : World} {B B' size n : Nat} {A : Option Addr} {xs : List Value}
theorem Reads.none_ : Reads w B size A 0 [] := ⟨by simp, fun h => absurd h (by omega)⟩
theorem Reads.at_ {k : Nat} (h : Reads w B 1 A n xs) (hk : k < n) : ∃ ad u, A = some ad ∧ ad.block < B ∧ xs[k]? = some u ∧ w.cell? (ad.add k) = some u := by
  obtain ⟨ad, e, hb, hc⟩ := h.2 (by omega)
  have hl : k < xs.length := by have := h.1; omega
  exact ⟨ad, xs[k], e, hb, List.getElem?_eq_getElem hl, hc k _ (List.getElem?_eq_getElem hl)⟩
theorem Reads.keep (h : Reads w B size A n xs) (hk : ∀ p : Addr, p.block < B → w'.cell? p = w.cell? p) : Reads w' B size A n xs :=
  ⟨h.1, fun hn => by
    obtain ⟨ad, e, hb, hc⟩ := h.2 hn
    exact ⟨ad, e, hb, fun j u hu => (hk _ (by rw [block_of_add]; exact hb)).trans (hc j u hu)⟩⟩
theorem Reads.more (h : Reads w B size A n xs) (hB : B ≤ B') : Reads w B' size A n xs :=
  ⟨h.1, fun hn => by
    obtain ⟨ad, e, hb, hc⟩ := h.2 hn
    exact ⟨ad, e, by omega, hc⟩⟩
theorem Reads.below (h : Reads w B size A n xs) (hb : Below B w w') : Reads w' B size A n xs := h.keep fun _ hp => hb.cell hp
theorem Reads.drew (h : Reads w B size A n xs) : Reads w.drew B size A n xs := h
theorem Reads.drewN (h : Reads w B size A n xs) (k : Nat) : Reads (w.drewN k) B size A n xs := h
theorem Reads.alloc (h : Reads w B size A n xs) (hB : B ≤ w.heap.size) (o : Obj) : Reads (w.alloc o) B size A n xs := h.keep fun p hp => World.cell?_alloc_lt w o p (by omega)
theorem Reads.setCell (h : Reads w B size A n xs) {p : Addr} (hB : B ≤ p.block) (u : Value) : Reads (w.setCell p u) B size A n xs :=
  h.keep fun q hq => World.cell?_setCell_other w p q u (fun e => by subst e; omega)
theorem Reads.grown (h : Reads w B size A n xs) {row : Option Nat} (hg : w.grownBy w' row) (hB : B ≤ w.heap.size) (hr : ∀ g, row = some g → B ≤ g) : Reads w' B size A n xs :=
  h.keep fun p hp => World.cell?_of_block (hg.block p.block (by omega) (fun e => by have := hr _ e.symm; omega))
theorem Reads.cut (h : Reads w B size A n xs) {k cap : Nat} (hk : k ≤ n) (hc : n ≤ cap) :
    Reads w B size (if cap = k then A else A.map (·.add (k * size))) (n - k) (xs.drop (k * size)) := by
  refine ⟨by rw [List.length_drop, h.1, Nat.sub_mul], fun hn => ?_⟩
  obtain ⟨ad, rfl, hb, hcell⟩ := h.2 (by omega)
  rw [if_neg (by omega)]
  refine ⟨ad.add (k * size), rfl, by rw [block_of_add]; exact hb, fun j u hu => ?_⟩
  rw [add_of_add]
  exact hcell _ u (by rw [← hu, List.getElem?_drop])
theorem Reads.of_own {base : Nat} {e : TypeId} {c : Nat} (h : w.ownsRow base e size (.slice A n c) n xs) : Reads w w.heap.size size A n xs := by
  refine ⟨h.1, fun hn => ?_⟩
  obtain ⟨g, cap, hv, _, hlt⟩ := h.form hn
  have hA : A = some ⟨g, 0, none⟩ := by injection hv
  subst hA
  exact ⟨_, rfl, hlt, h.cells (g := g) rfl⟩
end

def Blk (w : World) (g : Nat) (t : TypeId) (cs : Array Value) : Prop := w.heap[g]? = some (.cells cs t (0, 0))

section
variable {w w' : World} {g : Nat} {t : TypeId} {cs : Array Value}
theorem Blk.lt (h : Blk w g t cs) : g < w.heap.size := by
  rcases Nat.lt_or_ge g w.heap.size with hlt | hge
  · exact hlt
  · unfold Blk at h; rw [Array.getElem?_eq_none hge] at h; cases h
theorem Blk.cell (h : Blk w g t cs) (i : Nat) : w.cell? ⟨g, i, none⟩ = cs[i]? := cell_of_row w g i cs t (0, 0) h
theorem Blk.frozen (h : Blk w g t cs) (i : Nat) : w.frozen? ⟨g, i, none⟩ = false := by
  unfold Blk at h
  simp [World.frozen?, h]
theorem Blk.new (w : World) (t : TypeId) (cs : Array Value) : Blk (w.alloc (.cells cs t)) w.heap.size t cs := heap_alloc_new w _
theorem Blk.drew (h : Blk w g t cs) : Blk w.drew g t cs := h
theorem Blk.drewN (h : Blk w g t cs) (n : Nat) : Blk (w.drewN n) g t cs := h
theorem Blk.alloc (h : Blk w g t cs) (o : Obj) : Blk (w.alloc o) g t cs := (Below.heap_alloc w o g h.lt).trans h
theorem Blk.set_ (h : Blk w g t cs) (i : Nat) (u : Value) : Blk (w.setCell ⟨g, i, none⟩ u) g t (cs.setIfInBounds i u) := by
  unfold Blk at h ⊢
  simp [World.setCell, Array.getElem?_modify, h]
theorem Blk.far (h : Blk w g t cs) {p : Addr} (hp : g ≠ p.block) (u : Value) : Blk (w.setCell p u) g t cs := (Below.heap_setCell w p u g hp).trans h
theorem Blk.below {B : Nat} (h : Blk w g t cs) (hb : Below B w w') (hg : g < B) : Blk w' g t cs := (hb.block g hg).trans h
theorem Blk.grown {row : Option Nat} (h : Blk w g t cs) (hb : w.grownBy w' row) (hg : some g ≠ row) : Blk w' g t cs := (hb.block g h.lt hg).trans h
theorem Blk.ne_ {g' : Nat} {t' : TypeId} {cs' : Array Value} (h : Blk w g t cs) (h' : Blk w g' t' cs') (hne : t ≠ t') : g ≠ g' := by
  rintro rfl
  unfold Blk at h h'
  rw [h] at h'
  injection h' with h'
  injection h' with _ ht
  exact hne ht
theorem own_blk_ne {base : Nat} {e : TypeId} {size n : Nat} {v : Value} {xs : List Value} (h : w.ownsRow base e size v n xs) (hg : Blk w g t cs) (hne : e ≠ t) : v.ownBlock ≠ some g := by
  rcases h.2 with ⟨rfl, _⟩ | ⟨g', cap, cur, rfl, _, hh, _⟩
  · simp [Value.ownBlock]
  · intro he
    have : g' = g := by simpa [Value.ownBlock] using he
    subst this
    exact Blk.ne_ (t := e) hh hg hne rfl
end

section
variable {P : Program} (w : World)

theorem run_append_of_nil (base : Nat) (t ty e : TypeId) (i : TypeInfo) (size : Nat) (ht : P.underlying t = some (.slice e)) (hi : P.info? e = some i)
    (v : Value) (n : Nat) (xs : List Value) (hown : w.ownsRow base e size v n xs) (c : Nat) : (Builtin.append_ #[t, t] ty #[v, .slice none 0 c]).run P w = .ok v w := by
  rcases hown.2 with ⟨rfl, rfl⟩ | ⟨g, cap, cur, rfl, _, _, hnc, _⟩
  · simp [Builtin.append_, run_underlying ht, sizeOf, typeInfo, hi, Builtin.lenOf, Builtin.firstCells]
  · simp [Builtin.append_, run_underlying ht, sizeOf, typeInfo, hi, Builtin.lenOf, Builtin.firstCells, hnc, storeCells]

theorem run_append_any (base : Nat) (t ty e : TypeId) (i : TypeInfo) (z : Value) (size bytes : Nat) (ht : P.underlying t = some (.slice e)) (hi : P.info? e = some i) (hz : i.zero = some z)
    (hsize : i.size = size) (hby : i.bytes = bytes) (hzs : z.cells.size = size) (hsz : 0 < size)
    (v : Value) (n : Nat) (xs : List Value) (hown : w.ownsRow base e size v n xs)
    (B : Nat) (A : Option Addr) (m c : Nat) (news : List Value) (hr : Reads w B size A m news) (h1 : ∀ u ∈ news, u.oneCell' = true)
    (h63 : n + m ≤ maxLen) (hbytes : (n + m) * bytes ≤ 140737488355328) (hbase : base ≤ w.heap.size) :
    ∃ v' w', (Builtin.append_ #[t, t] ty #[v, .slice A m c]).run P w = .ok v' w' ∧ w'.ownsRow base e size v' (n + m) (xs ++ news) ∧ w.grownBy w' v.ownBlock ∧
      (v'.ownBlock = v.ownBlock ∨ v'.ownBlock = some w.heap.size) := by
  rcases A with _ | ad
  · have hm : m = 0 := by
      rcases Nat.eq_zero_or_pos m with h0 | h0
      · exact h0
      · obtain ⟨ad, h, _⟩ := hr.2 h0
        cases h
    subst hm
    have hn : news = [] := List.eq_nil_of_length_eq_zero (by simpa using hr.1)
    subst hn
    exact ⟨v, w, run_append_of_nil w base t ty e i size ht hi v n xs hown c, by simpa using hown, World.grownBy.refl w _, .inl rfl⟩
  · have hcells : ∀ j u, news[j]? = some u → w.cell? (ad.add j) = some u := by
      intro j u hu
      rcases Nat.eq_zero_or_pos m with h0 | h0
      · subst h0
        have hn : news = [] := List.eq_nil_of_length_eq_zero (by simpa using hr.1)
        subst hn
        simp at hu
      · obtain ⟨ad', h, _, hc⟩ := hr.2 h0
        injection h with h
        subst h
        exact hc j u hu
    obtain ⟨v', w', hrun, h2, h3, _, h5⟩ := run_append_own_at (P := P) w base t ty e i z size bytes ht hi hz hsize hby hzs hsz v n xs hown ad m c news hr.1 hcells h1 h63 hbytes hbase
    exact ⟨v', w', hrun, h2, h3, h5⟩

theorem wp_append_any {o : Oper} {a : Act} {K : Act → World → Prop} {Q : Exit → Act → World → Prop} (s x : Operand) (t : TypeId)
    (ho : o.op = .call { callee := .builtin .append, args := #[s, x], argTypes := #[t, t] })
    (base : Nat) (e : TypeId) (i : TypeInfo) (z : Value) (size bytes : Nat) (ht : P.underlying t = some (.slice e)) (hi : P.info? e = some i) (hz : i.zero = some z)
    (hsize : i.size = size) (hby : i.bytes = bytes) (hzs : z.cells.size = size) (hsz : 0 < size)
    (v : Value) (n : Nat) (xs : List Value) (hs : a.eval s = v) (hown : w.ownsRow base e size v n xs)
    (B : Nat) (A : Option Addr) (m c : Nat) (news : List Value) (hx : a.eval x = .slice A m c) (hr : Reads w B size A m news) (h1 : ∀ u ∈ news, u.oneCell' = true)
    (h63 : n + m ≤ maxLen) (hbytes : (n + m) * bytes ≤ 140737488355328) (hbase : base ≤ w.heap.size)
    (h : ∀ v' w', w'.ownsRow base e size v' (n + m) (xs ++ news) → w.grownBy w' v.ownBlock → (v'.ownBlock = v.ownBlock ∨ v'.ownBlock = some w.heap.size) → K (a.put o.dst v') w') : o.wp P a w K Q := by
  obtain ⟨v', w', hrun, h2, h3, h4⟩ := run_append_any (P := P) w base t o.type e i z size bytes ht hi hz hsize hby hzs hsz v n xs hown B A m c news hr h1 h63 hbytes hbase
  unfold Oper.wp execOp
  simp only [ho, resolve, invoke, builtin, Sem.run_bind, Sem.run_pure, Result.andThen_ok, List.map_toArray, List.map_cons, List.map_nil, hs, hx, hrun]
  exact h v' w' h2 h3 h4

theorem wpList_append_any {ops : Array Oper} {rest : List Oper} {o : Oper} {a : Act} {Q : Exit → Act → World → Prop} (hgd : o.guard = none) (s x : Operand) (t : TypeId)
    (ho : o.op = .call { callee := .builtin .append, args := #[s, x], argTypes := #[t, t] })
    (base : Nat) (e : TypeId) (i : TypeInfo) (z : Value) (size bytes : Nat) (ht : P.underlying t = some (.slice e)) (hi : P.info? e = some i) (hz : i.zero = some z)
    (hsize : i.size = size) (hby : i.bytes = bytes) (hzs : z.cells.size = size) (hsz : 0 < size)
    (v : Value) (n : Nat) (xs : List Value) (hs : a.eval s = v) (hown : w.ownsRow base e size v n xs)
    (B : Nat) (A : Option Addr) (m c : Nat) (news : List Value) (hx : a.eval x = .slice A m c) (hr : Reads w B size A m news) (h1 : ∀ u ∈ news, u.oneCell' = true)
    (h63 : n + m ≤ maxLen) (hbytes : (n + m) * bytes ≤ 140737488355328) (hbase : base ≤ w.heap.size)
    (h : ∀ v' w', w'.ownsRow base e size v' (n + m) (xs ++ news) → w.grownBy w' v.ownBlock → (v'.ownBlock = v.ownBlock ∨ v'.ownBlock = some w.heap.size) → wpList P ops Q rest (a.put o.dst v') w') : wpList P ops Q (o :: rest) a w :=
  wpList_plain hgd fun _ hK => wp_append_any w s x t ho base e i z size bytes ht hi hz hsize hby hzs hsz v n xs hs hown B A m c news hx hr h1 h63 hbytes hbase fun v' w' h2 h3 h4 => hK _ _ (h v' w' h2 h3 h4)

theorem step_append_any {ops : Array Oper} {o : Oper} {a : Act} {K : Act → World → Prop} {Q : Exit → Act → World → Prop} {E : Prop} (hgd : o.guard = none) (s x : Operand) (t : TypeId)
    (ho : o.op = .call { callee := .builtin .append, args := #[s, x], argTypes := #[t, t] })
    (base : Nat) (e : TypeId) (i : TypeInfo) (z : Value) (size bytes : Nat) (ht : P.underlying t = some (.slice e)) (hi : P.info? e = some i) (hz : i.zero = some z)
    (hsize : i.size = size) (hby : i.bytes = bytes) (hzs : z.cells.size = size) (hsz : 0 < size)
    (v : Value) (n : Nat) (xs : List Value) (hs : a.eval s = v) (hown : w.ownsRow base e size v n xs)
    (B : Nat) (A : Option Addr) (m c : Nat) (news : List Value) (hx : a.eval x = .slice A m c) (hr : Reads w B size A m news) (h1 : ∀ u ∈ news, u.oneCell' = true)
    (h63 : n + m ≤ maxLen) (hbytes : (n + m) * bytes ≤ 140737488355328) (hbase : base ≤ w.heap.size)
    (h : ∀ v' w', w'.ownsRow base e size v' (n + m) (xs ++ news) → w.grownBy w' v.ownBlock → (v'.ownBlock = v.ownBlock ∨ v'.ownBlock = some w.heap.size) → K (a.put o.dst v') w') :
    if Region.wanted o (yielded ops a.tmps) = true then Oper.wp P o a w K Q else E := by
  have hw : Region.wanted o (yielded ops a.tmps) = true := by simp [Region.wanted, hgd]
  rw [if_pos hw]
  exact wp_append_any w s x t ho base e i z size bytes ht hi hz hsize hby hzs hsz v n xs hs hown B A m c news hx hr h1 h63 hbytes hbase h
end

end Go.Proofs.Ytbknmfegckeogaa

/- Only some blocks, of those that were there, may have changed. No program in sight. -/
namespace Go.Proofs.Ytbknmfegckeogaa
open Go.RowKit
set_option linter.unusedVariables false

structure Apart (S : Nat → Prop) (w w' : World) : Prop where
  os : w'.os = w.os
  tape : w'.tape = w.tape
  output : w'.output = w.output
  size : w.heap.size ≤ w'.heap.size
  block : ∀ k, k < w.heap.size → ¬ S k → w'.heap[k]? = w.heap[k]?
theorem Apart.below {S : Nat → Prop} {w w' : World} (h : Apart S w w') {B : Nat} (hB : B ≤ w.heap.size) (hS : ∀ k, S k → B ≤ k) : Below B w w' :=
  ⟨h.os, h.tape, h.output, h.size, fun k hk => h.block k (by omega) (fun hs => by have := hS k hs; omega)⟩
theorem Apart.of_below {S : Nat → Prop} {w w' : World} (h : Below w.heap.size w w') : Apart S w w' := ⟨h.os, h.tape, h.output, h.size, fun k hk _ => h.block k hk⟩
theorem Apart.refl (S : Nat → Prop) (w : World) : Apart S w w := ⟨rfl, rfl, rfl, Nat.le_refl _, fun _ _ _ => rfl⟩
theorem Apart.trans {S S' : Nat → Prop} {a b c : World} (h : Apart S a b) (k : Apart S' b c) (hS : ∀ k, k < a.heap.size → S' k → S k) : Apart S a c :=
  ⟨k.os.trans h.os, k.tape.trans h.tape, k.output.trans h.output, Nat.le_trans h.size k.size, fun i hi hs => (k.block i (Nat.lt_of_lt_of_le hi h.size) (fun hs' => hs (hS i hi hs'))).trans (h.block i hi hs)⟩
theorem Apart.setCell {S : Nat → Prop} {a w : World} (h : Apart S a w) {p : Addr} (hp : S p.block ∨ a.heap.size ≤ p.block) (u : Value) : Apart S a (w.setCell p u) :=
  ⟨h.os, h.tape, h.output, by simpa [World.setCell] using h.size, fun k hk hs => (Below.heap_setCell w p u k (fun e => by
    subst e
    rcases hp with hp | hp
    · exact hs hp
    · omega)).trans (h.block k hk hs)⟩
theorem Apart.drew {S : Nat → Prop} {a w : World} (h : Apart S a w) : Apart S a w.drew := ⟨h.os, h.tape, h.output, h.size, h.block⟩
theorem Apart.drewN {S : Nat → Prop} {a w : World} (h : Apart S a w) (n : Nat) : Apart S a (w.drewN n) := ⟨h.os, h.tape, h.output, h.size, h.block⟩
theorem Apart.alloc {S : Nat → Prop} {a w : World} (h : Apart S a w) (o : Obj) : Apart S a (w.alloc o) :=
  ⟨h.os, h.tape, h.output, by have := h.size; simp; omega, fun k hk hs => (Below.heap_alloc _ _ _ (by have := h.size; omega)).trans (h.block k hk hs)⟩
theorem Apart.grown {S : Nat → Prop} {a w w' : World} {row : Option Nat} (h : Apart S a w) (hg : w.grownBy w' row) (hr : ∀ r, row = some r → S r ∨ a.heap.size ≤ r) : Apart S a w' :=
  ⟨hg.os.trans h.os, hg.tape.trans h.tape, hg.output.trans h.output, Nat.le_trans h.size hg.size, fun k hk hs => (hg.block k (by have := h.size; omega) (fun e => by
    rcases hr k e.symm with hq | hq
    · exact hs hq
    · omega)).trans (h.block k hk hs)⟩
theorem Apart.mono {S S' : Nat → Prop} {a w : World} (h : Apart S a w) (hS : ∀ k, S k → S' k) : Apart S' a w := ⟨h.os, h.tape, h.output, h.size, fun k hk hs => h.block k hk (fun hk' => hs (hS k hk'))⟩
end Go.Proofs.Ytbknmfegckeogaa

/- Forests in plain Lean: who is whose parent, rows of children, free places; preorder; what Add, Drop, Prune do. No program in sight. -/
namespace Go.Proofs.Ytbknmfegckeogaa
set_option linter.unusedVariables false

/-- The first of a row, or none. -/
def hd : List Nat → Int
  | [] => -1
  | x :: _ => (x : Int)
/-- The last of a row, or, of none, another one. -/
def lastOr (a : Int) : List Nat → Int
  | [] => a
  | x :: r => lastOr (x : Int) r
/-- Who comes behind one in a row. -/
def nxt (i : Nat) : List Nat → Int
  | [] => -1
  | x :: r => if x = i then hd r else nxt i r
/-- Who comes ahead of one in a row, behind another one. -/
def prvF (a : Int) (i : Nat) : List Nat → Int
  | [] => -1
  | x :: r => if x = i then a else prvF (x : Int) i r
def prv (i : Nat) (l : List Nat) : Int := prvF (-1) i l

theorem lastOr_append (a : Int) (l r : List Nat) : lastOr a (l ++ r) = lastOr (lastOr a l) r := by
  induction l generalizing a with
  | nil => rfl
  | cons x l ih => exact ih _
theorem lastOr_snoc (a : Int) (l : List Nat) (x : Nat) : lastOr a (l ++ [x]) = x := by rw [lastOr_append]; rfl
theorem hd_append (l r : List Nat) : hd (l ++ r) = if l = [] then hd r else hd l := by
  cases l <;> simp [hd]
theorem nxt_append_left {i : Nat} : ∀ {l : List Nat} (r : List Nat), i ∉ l → nxt i (l ++ r) = nxt i r
  | [], r, _ => rfl
  | x :: l, r, h => by
    have h1 : x ≠ i := fun e => h (by simp [e])
    have h2 : i ∉ l := fun e => h (by simp [e])
    simp only [List.cons_append, nxt, if_neg h1]
    exact nxt_append_left r h2
theorem nxt_at {i : Nat} {l : List Nat} (r : List Nat) (h : i ∉ l) : nxt i (l ++ i :: r) = hd r := by
  rw [nxt_append_left _ h]
  simp [nxt]
theorem prvF_append_left {i : Nat} : ∀ {l : List Nat} (a : Int) (r : List Nat), i ∉ l → prvF a i (l ++ r) = prvF (lastOr a l) i r
  | [], a, r, _ => rfl
  | x :: l, a, r, h => by
    have h1 : x ≠ i := fun e => h (by simp [e])
    have h2 : i ∉ l := fun e => h (by simp [e])
    simp only [List.cons_append, prvF, if_neg h1, lastOr]
    exact prvF_append_left _ r h2
theorem prv_at {i : Nat} {l : List Nat} (r : List Nat) (h : i ∉ l) : prv i (l ++ i :: r) = lastOr (-1) l := by
  unfold prv
  rw [prvF_append_left _ _ h]
  simp [prvF]
theorem split_at {i : Nat} {l : List Nat} (h : i ∈ l) (hn : l.Nodup) : ∃ a b, l = a ++ i :: b ∧ i ∉ a ∧ i ∉ b := by
  obtain ⟨a, b, rfl⟩ := List.append_of_mem h
  rw [List.nodup_append] at hn
  refine ⟨a, b, rfl, fun ha => hn.2.2 i ha i (by simp) rfl, ?_⟩
  have := hn.2.1
  rw [List.nodup_cons] at this
  exact this.1
theorem prvF_mem_tail {i : Nat} : ∀ {l : List Nat} (a b : Int), i ∈ l → l.head? ≠ some i → prvF a i l = prvF b i l
  | [], a, b, h, _ => by simp at h
  | x :: l, a, b, h, hh => by
    have hx : x ≠ i := fun e => hh (by simp [e])
    simp [prvF, hx]

/-- A forest. -/
structure Fo where
  n : Nat
  there : Nat → Bool
  par : Nat → Int
  kids : Int → List Nat
  free : List Nat

structure WF (F : Fo) : Prop where
  kin : ∀ p i, i ∈ F.kids p ↔ (F.there i = true ∧ F.par i = p)
  nd : ∀ p, (F.kids p).Nodup
  up : ∀ i, F.there i = true → F.par i = -1 ∨ ∃ j : Nat, F.par i = (j : Int) ∧ F.there j = true
  lt : ∀ i, F.there i = true → i < F.n
  fr : ∀ i, i ∈ F.free ↔ (i < F.n ∧ F.there i = false)
  fnd : F.free.Nodup
  ht : ∃ h : Nat → Nat, ∀ i j : Nat, F.there i = true → F.par i = (j : Int) → h i < h j

theorem WF.kids_nil {F : Fo} (h : WF F) {j : Nat} (hj : F.there j = false) : F.kids (j : Int) = [] := by
  apply List.eq_nil_iff_forall_not_mem.2
  intro i hi
  obtain ⟨h1, h2⟩ := (h.kin _ _).1 hi
  rcases h.up i h1 with e | ⟨k, e, hk⟩
  · omega
  · have : k = j := by omega
    subst this
    rw [hj] at hk
    cases hk
theorem WF.kids_low {F : Fo} (h : WF F) {p : Int} (hp : p < -1) : F.kids p = [] := by
  apply List.eq_nil_iff_forall_not_mem.2
  intro i hi
  obtain ⟨h1, h2⟩ := (h.kin _ _).1 hi
  rcases h.up i h1 with e | ⟨k, e, hk⟩ <;> omega
theorem WF.kid_lt {F : Fo} (h : WF F) {p : Int} {i : Nat} (hi : i ∈ F.kids p) : i < F.n := h.lt i ((h.kin p i).1 hi).1
theorem WF.not_self {F : Fo} (h : WF F) {i : Nat} (hi : F.there i = true) : F.par i ≠ (i : Int) := fun e => by
  obtain ⟨g, hg⟩ := h.ht
  have := hg i i hi e
  omega

/-- Preorder. -/
inductive Flat (F : Fo) : List Nat → List Nat → Prop
  | nil : Flat F [] []
  | cons {i : Nat} {r a b : List Nat} : Flat F (F.kids (i : Int)) a → Flat F r b → Flat F (i :: r) (i :: (a ++ b))

theorem Flat.uniq {F : Fo} {l a b : List Nat} (h : Flat F l a) : Flat F l b → a = b := by
  induction h generalizing b with
  | nil => intro k; cases k; rfl
  | cons h1 h2 ih1 ih2 =>
    intro k
    cases k with
    | cons k1 k2 => rw [ih1 k1, ih2 k2]
theorem Flat.append {F : Fo} {l a r b : List Nat} (h : Flat F l a) (k : Flat F r b) : Flat F (l ++ r) (a ++ b) := by
  induction h with
  | nil => exact k
  | cons h1 h2 ih1 ih2 =>
    have := Flat.cons h1 ih2
    simpa [List.append_assoc] using this
theorem flat_ex {F : Fo} (h : WF F) (l : List Nat) (hl : ∀ i ∈ l, F.there i = true) : ∃ a, Flat F l a := by
  obtain ⟨g, hg⟩ := h.ht
  have key : ∀ (m : Nat) (l : List Nat), (∀ i ∈ l, F.there i = true ∧ g i < m) → ∃ a, Flat F l a := by
    intro m
    induction m with
    | zero =>
      intro l hl
      cases l with
      | nil => exact ⟨[], .nil⟩
      | cons x l => have := (hl x (by simp)).2; omega
    | succ m ih =>
      intro l
      induction l with
      | nil => intro _; exact ⟨[], .nil⟩
      | cons x l ihl =>
        intro hl
        obtain ⟨b, hb⟩ := ihl fun i hi => hl i (by simp [hi])
        obtain ⟨a, ha⟩ := ih (F.kids (x : Int)) fun i hi => by
          obtain ⟨h1, h2⟩ := (h.kin _ _).1 hi
          have h3 := hg i x h1 h2
          have h4 := (hl x (by simp)).2
          exact ⟨h1, by omega⟩
        exact ⟨_, .cons ha hb⟩
  have hb : ∃ m, ∀ i ∈ l, g i < m := by
    clear hl
    induction l with
    | nil => exact ⟨0, by simp⟩
    | cons x l ih =>
      obtain ⟨m, hm⟩ := ih
      exact ⟨max m (g x + 1), fun i hi => by
        rcases List.mem_cons.1 hi with rfl | hi
        · omega
        · have := hm i hi; omega⟩
  obtain ⟨m, hm⟩ := hb
  exact key m l fun i hi => ⟨hl i hi, hm i hi⟩

/-- Is the one above the other one? -/
inductive Above (F : Fo) (j : Nat) : Nat → Prop
  | kid {i : Nat} : F.there i = true → F.par i = (j : Int) → Above F j i
  | up {i k : Nat} : F.there i = true → F.par i = (k : Int) → Above F j k → Above F j i

theorem Above.there {F : Fo} {j i : Nat} (h : Above F j i) : F.there i = true := by cases h <;> assumption
theorem Above.trans {F : Fo} {a b c : Nat} (h : Above F b c) (k : Above F a b) : Above F a c := by
  induction h with
  | kid h1 h2 => exact .up h1 h2 k
  | up h1 h2 _ ih => exact .up h1 h2 ih
theorem above_ht {F : Fo} {j i : Nat} (h : Above F j i) {g : Nat → Nat} (hg : ∀ i j : Nat, F.there i = true → F.par i = (j : Int) → g i < g j) : g i < g j := by
  induction h with
  | kid h1 h2 => exact hg _ _ h1 h2
  | up h1 h2 _ ih => have := hg _ _ h1 h2; omega

theorem Flat.mem {F : Fo} (hF : WF F) {l a : List Nat} (h : Flat F l a) : ∀ x, x ∈ a ↔ (x ∈ l ∨ ∃ y ∈ l, Above F y x) := by
  induction h with
  | nil => intro x; simp
  | @cons i r a b h1 h2 ih1 ih2 =>
    intro x
    simp only [List.mem_cons, List.mem_append]
    rw [ih1, ih2]
    constructor
    · rintro (rfl | (hx | ⟨y, hy, hyx⟩) | (hx | ⟨y, hy, hyx⟩))
      · exact .inl (.inl rfl)
      · obtain ⟨k1, k2⟩ := (hF.kin _ _).1 hx
        exact .inr ⟨i, .inl rfl, .kid k1 k2⟩
      · obtain ⟨k1, k2⟩ := (hF.kin _ _).1 hy
        exact .inr ⟨i, .inl rfl, hyx.trans (.kid k1 k2)⟩
      · exact .inl (.inr hx)
      · exact .inr ⟨y, .inr hy, hyx⟩
    · rintro ((rfl | hx) | ⟨y, (rfl | hy), hyx⟩)
      · exact .inl rfl
      · exact .inr (.inr (.inl hx))
      · refine .inr (.inl ?_)
        have hk : ∀ {x}, Above F y x → x ∈ F.kids (y : Int) ∨ ∃ z ∈ F.kids (y : Int), Above F z x := by
          intro x hh
          induction hh with
          | kid k1 k2 => exact .inl ((hF.kin _ _).2 ⟨k1, k2⟩)
          | @up u v k1 k2 k3 ih =>
            rcases ih with hv | ⟨z, hz, hzv⟩
            · exact .inr ⟨v, hv, .kid k1 k2⟩
            · exact .inr ⟨z, hz, .up k1 k2 hzv⟩
        exact hk hyx
      · exact .inr (.inr (.inr ⟨y, hy, hyx⟩))

/-- Who are a node's descendants: they are those that it is above of. -/
theorem desc_mem {F : Fo} (hF : WF F) {j : Nat} {a : List Nat} (h : Flat F (F.kids (j : Int)) a) (x : Nat) : x ∈ a ↔ Above F j x := by
  rw [h.mem hF]
  constructor
  · rintro (hx | ⟨y, hy, hyx⟩)
    · obtain ⟨k1, k2⟩ := (hF.kin _ _).1 hx
      exact .kid k1 k2
    · obtain ⟨k1, k2⟩ := (hF.kin _ _).1 hy
      exact hyx.trans (.kid k1 k2)
  · intro hh
    induction hh with
    | kid k1 k2 => exact .inl ((hF.kin _ _).2 ⟨k1, k2⟩)
    | @up u v k1 k2 k3 ih =>
      rcases ih with hv | ⟨z, hz, hzv⟩
      · exact .inr ⟨v, hv, .kid k1 k2⟩
      · exact .inr ⟨z, hz, .up k1 k2 hzv⟩
end Go.Proofs.Ytbknmfegckeogaa

/- Forests in plain Lean: Add, Drop, Prune leave a forest. No program in sight. -/
namespace Go.Proofs.Ytbknmfegckeogaa
set_option linter.unusedVariables false

/-- A node comes, as the first child of p (-1: as the first root). -/
def Fo.add (F : Fo) (p : Int) (x : Nat) : Fo :=
  { n := F.n, there := fun i => if i = x then true else F.there i, par := fun i => if i = x then p else F.par i, kids := fun q => if q = p then x :: F.kids p else F.kids q, free := F.free.dropLast }
/-- A node goes; its children are its parent's. -/
def Fo.drop (F : Fo) (x : Nat) : Fo :=
  { n := F.n, there := fun i => if i = x then false else F.there i, par := fun i => if F.there i = true ∧ F.par i = (x : Int) then F.par x else F.par i,
    kids := fun q => if q = F.par x then (F.kids (F.par x)).flatMap (fun i => if i = x then F.kids (x : Int) else [i]) else if q = (x : Int) then [] else F.kids q, free := F.free ++ [x] }
/-- Descendants go. -/
def Fo.prune (F : Fo) (x : Nat) (ds : List Nat) : Fo :=
  { n := F.n, there := fun i => F.there i && !(ds.contains i), par := F.par, kids := fun q => if q = (x : Int) then [] else if ds.any (fun d => decide (q = (d : Int))) then [] else F.kids q, free := F.free ++ ds }

/-- May one be a parent? -/
def Fo.ok (F : Fo) (p : Int) : Prop := p = -1 ∨ ∃ j : Nat, p = (j : Int) ∧ F.there j = true

theorem last_mem {l : List Nat} {x : Nat} (h : l.getLast? = some x) : x ∈ l := List.mem_of_getLast? h
theorem last_split {l : List Nat} {x : Nat} (h : l.getLast? = some x) : l = l.dropLast ++ [x] := by
  rw [List.getLast?_eq_some_iff] at h
  obtain ⟨ys, rfl⟩ := h
  simp

theorem WF.add {F : Fo} (h : WF F) {p : Int} (hp : F.ok p) {x : Nat} (hx : F.free.getLast? = some x) : WF (F.add p x) := by
  obtain ⟨hxn, hxt⟩ := (h.fr x).1 (last_mem hx)
  have hsp := last_split hx
  have hfnd := h.fnd
  rw [hsp, List.nodup_append] at hfnd
  have hpx : p ≠ (x : Int) := by
    rcases hp with rfl | ⟨j, rfl, hj⟩
    · omega
    · intro e
      have : j = x := by omega
      subst this
      rw [hxt] at hj
      cases hj
  have hnx : ∀ i, F.there i = true → i ≠ x := fun i hi e => by subst e; rw [hxt] at hi; cases hi
  have hkx : ∀ q, x ∉ F.kids q := fun q hq => hnx x ((h.kin _ _).1 hq).1 rfl
  refine ⟨fun q i => ?_, fun q => ?_, fun i hi => ?_, fun i hi => ?_, fun i => ?_, hfnd.1, ?_⟩
  · simp only [Fo.add]
    by_cases hq : q = p
    · subst hq
      rw [if_pos rfl, List.mem_cons]
      by_cases hi : i = x
      · simp [hi]
      · simp only [hi, false_or, if_false]
        exact h.kin _ _
    · rw [if_neg hq]
      by_cases hi : i = x
      · subst hi
        simp only [if_true, true_and]
        exact ⟨fun e => (hkx _ e).elim, fun e => (hq e.symm).elim⟩
      · simp only [hi, if_false]
        exact h.kin _ _
  · simp only [Fo.add]
    split
    · exact List.nodup_cons.2 ⟨hkx _, h.nd _⟩
    · exact h.nd _
  · simp only [Fo.add] at hi ⊢
    by_cases hix : i = x
    · rw [if_pos hix]
      rcases hp with rfl | ⟨j, rfl, hj⟩
      · exact .inl rfl
      · exact .inr ⟨j, rfl, by rw [if_neg (hnx j hj)]; exact hj⟩
    · rw [if_neg hix] at hi ⊢
      rcases h.up i hi with e | ⟨j, e, hj⟩
      · exact .inl e
      · exact .inr ⟨j, e, by rw [if_neg (hnx j hj)]; exact hj⟩
  · simp only [Fo.add] at hi ⊢
    by_cases hix : i = x
    · subst hix; exact hxn
    · rw [if_neg hix] at hi
      exact h.lt i hi
  · simp only [Fo.add]
    have h1 := h.fr i
    rw [hsp, List.mem_append, List.mem_singleton] at h1
    by_cases hix : i = x
    · subst hix
      simp only [if_true]
      exact ⟨fun e => (hfnd.2.2 i e i (by simp) rfl).elim, fun e => by cases e.2⟩
    · rw [if_neg hix]
      rw [← h1]
      simp [hix]
  · obtain ⟨g, hg⟩ := h.ht
    refine ⟨fun i => if i = x then 0 else g i + 1, fun i j hi he => ?_⟩
    simp only [Fo.add] at hi he ⊢
    by_cases hix : i = x
    · rw [if_pos hix] at he
      have hjx : j ≠ x := fun e => hpx (by rw [he, e])
      rw [if_pos hix, if_neg hjx]
      omega
    · rw [if_neg hix] at hi he
      have hjx : j ≠ x := by
        rcases h.up i hi with e | ⟨k, e, hk⟩
        · omega
        · have : k = j := by omega
          subst this
          exact hnx k hk
      rw [if_neg hix, if_neg hjx]
      have := hg i j hi he
      omega

theorem flatMap_split {x : Nat} {a b ks : List Nat} (ha : x ∉ a) (hb : x ∉ b) : (a ++ x :: b).flatMap (fun i => if i = x then ks else [i]) = a ++ ks ++ b := by
  have one : ∀ l : List Nat, x ∉ l → l.flatMap (fun i => if i = x then ks else [i]) = l := by
    intro l
    induction l with
    | nil => intro _; rfl
    | cons y l ih =>
      intro h
      have h1 : y ≠ x := fun e => h (by simp [e])
      rw [List.flatMap_cons, if_neg h1, ih fun e => h (by simp [e])]
      rfl
  rw [List.flatMap_append, List.flatMap_cons, if_pos rfl, one a ha, one b hb, List.append_assoc]

theorem WF.drop {F : Fo} (h : WF F) {x : Nat} (hx : F.there x = true) : WF (F.drop x) := by
  have hns := h.not_self hx
  have hxk : x ∈ F.kids (F.par x) := (h.kin _ _).2 ⟨hx, rfl⟩
  obtain ⟨a, b, hab, ha, hb⟩ := split_at hxk (h.nd _)
  have hk : (F.drop x).kids (F.par x) = a ++ F.kids (x : Int) ++ b := by
    simp only [Fo.drop, if_true]
    rw [hab, flatMap_split ha hb]
  have hdis : ∀ i, i ∈ F.kids (x : Int) → i ∉ F.kids (F.par x) := fun i hi hi2 => hns (((h.kin _ _).1 hi2).2.symm.trans ((h.kin _ _).1 hi).2)
  have hxx : x ∉ F.kids (x : Int) := fun e => hns ((h.kin _ _).1 e).2
  refine ⟨fun q i => ?_, fun q => ?_, fun i hi => ?_, fun i hi => ?_, fun i => ?_, ?_, ?_⟩
  · by_cases hq : q = F.par x
    · subst hq
      rw [hk, List.mem_append, List.mem_append]
      simp only [Fo.drop]
      have h1 := h.kin (F.par x) i
      rw [hab, List.mem_append, List.mem_cons] at h1
      have h2 := h.kin (x : Int) i
      constructor
      · rintro ((hi | hi) | hi)
        · have h3 := h1.1 (.inl hi)
          have hix : i ≠ x := fun e => ha (e ▸ hi)
          rw [if_neg hix, if_neg (fun e => hns (h3.2.symm.trans e.2))]
          exact h3
        · have h3 := h2.1 hi
          have hix : i ≠ x := fun e => hxx (e ▸ hi)
          rw [if_neg hix, if_pos h3]
          exact ⟨h3.1, rfl⟩
        · have h3 := h1.1 (.inr (.inr hi))
          have hix : i ≠ x := fun e => hb (e ▸ hi)
          rw [if_neg hix, if_neg (fun e => hns (h3.2.symm.trans e.2))]
          exact h3
      · rintro ⟨h3, h4⟩
        by_cases hix : i = x
        · rw [if_pos hix] at h3; cases h3
        · rw [if_neg hix] at h3
          by_cases hp : F.there i = true ∧ F.par i = (x : Int)
          · exact .inl (.inr (h2.2 hp))
          · rw [if_neg hp] at h4
            rcases h1.2 ⟨h3, h4⟩ with e | e | e
            · exact .inl (.inl e)
            · exact (hix e).elim
            · exact .inr e
    · simp only [Fo.drop, if_neg hq]
      by_cases hqx : q = (x : Int)
      · rw [if_pos hqx]
        constructor
        · intro e; cases e
        · rintro ⟨h3, h4⟩
          by_cases hix : i = x
          · rw [if_pos hix] at h3; cases h3
          · rw [if_neg hix] at h3
            by_cases hp : F.there i = true ∧ F.par i = (x : Int)
            · rw [if_pos hp] at h4
              exact (hq h4.symm).elim
            · rw [if_neg hp] at h4
              exact (hp ⟨h3, h4.trans hqx⟩).elim
      · rw [if_neg hqx, h.kin]
        constructor
        · rintro ⟨h3, h4⟩
          have hix : i ≠ x := fun e => hq (by rw [← h4, e])
          rw [if_neg hix, if_neg (fun e => hqx (h4.symm.trans e.2))]
          exact ⟨h3, h4⟩
        · rintro ⟨h3, h4⟩
          by_cases hix : i = x
          · rw [if_pos hix] at h3; cases h3
          · rw [if_neg hix] at h3
            by_cases hp : F.there i = true ∧ F.par i = (x : Int)
            · rw [if_pos hp] at h4
              exact (hq h4.symm).elim
            · rw [if_neg hp] at h4
              exact ⟨h3, h4⟩
  · by_cases hq : q = F.par x
    · subst hq
      rw [hk]
      have hnd := h.nd (F.par x)
      rw [hab] at hnd
      rw [List.nodup_append] at hnd
      obtain ⟨n1, n2, n3⟩ := hnd
      rw [List.nodup_cons] at n2
      have hd1 : ∀ i ∈ F.kids (x : Int), i ∉ a := fun i hi e => hdis i hi (by rw [hab]; simp [e])
      have hd2 : ∀ i ∈ F.kids (x : Int), i ∉ b := fun i hi e => hdis i hi (by rw [hab]; simp [e])
      rw [List.nodup_append, List.nodup_append]
      refine ⟨⟨n1, h.nd _, fun u hu v hv e => hd1 v hv (e ▸ hu)⟩, n2.2, fun u hu v hv e => ?_⟩
      rcases List.mem_append.1 hu with hu | hu
      · exact n3 u hu v (by simp [hv]) e
      · exact hd2 u hu (e ▸ hv)
    · simp only [Fo.drop, if_neg hq]
      split
      · exact List.nodup_nil
      · exact h.nd _
  · simp only [Fo.drop] at hi ⊢
    by_cases hix : i = x
    · rw [if_pos hix] at hi; cases hi
    · rw [if_neg hix] at hi
      by_cases hp : F.there i = true ∧ F.par i = (x : Int)
      · rw [if_pos hp]
        rcases h.up x hx with e | ⟨j, e, hj⟩
        · exact .inl e
        · exact .inr ⟨j, e, by rw [if_neg (fun ee => hns (by rw [e, ee]))]; exact hj⟩
      · rw [if_neg hp]
        rcases h.up i hi with e | ⟨j, e, hj⟩
        · exact .inl e
        · exact .inr ⟨j, e, by rw [if_neg (fun ee => hp ⟨hi, by rw [e, ee]⟩)]; exact hj⟩
  · simp only [Fo.drop] at hi ⊢
    by_cases hix : i = x
    · rw [if_pos hix] at hi; cases hi
    · rw [if_neg hix] at hi
      exact h.lt i hi
  · simp only [Fo.drop, List.mem_append, List.mem_singleton]
    rw [h.fr]
    by_cases hix : i = x
    · subst hix
      simp [h.lt i hx]
    · simp [hix]
  · simp only [Fo.drop]
    rw [List.nodup_append]
    refine ⟨h.fnd, by simp, fun u hu v hv e => ?_⟩
    rw [List.mem_singleton] at hv
    subst hv
    subst e
    have := ((h.fr u).1 hu).2
    rw [hx] at this
    cases this
  · obtain ⟨g, hg⟩ := h.ht
    refine ⟨g, fun i j hi he => ?_⟩
    simp only [Fo.drop] at hi he
    by_cases hix : i = x
    · rw [if_pos hix] at hi; cases hi
    · rw [if_neg hix] at hi
      by_cases hp : F.there i = true ∧ F.par i = (x : Int)
      · rw [if_pos hp] at he
        have h1 := hg i x hi hp.2
        have h2 := hg x j hx he
        omega
      · rw [if_neg hp] at he
        exact hg i j hi he

theorem above_comp {F : Fo} {i j x : Nat} (h : Above F i x) (k : Above F j x) : i = j ∨ Above F i j ∨ Above F j i := by
  induction h with
  | kid h1 h2 =>
    cases k with
    | kid k1 k2 => exact .inl (by omega)
    | @up _ v k1 k2 k3 =>
      have : v = i := by omega
      subst this
      exact .inr (.inr k3)
  | @up u v h1 h2 h3 ih =>
    cases k with
    | kid k1 k2 =>
      have : v = j := by omega
      subst this
      exact .inr (.inl h3)
    | @up _ v' k1 k2 k3 =>
      have : v' = v := by omega
      subst this
      exact ih k3
theorem sib_above {F : Fo} (hF : WF F) {p : Int} {i j : Nat} (hi : i ∈ F.kids p) (hj : j ∈ F.kids p) : ¬ Above F i j := by
  obtain ⟨i1, i2⟩ := (hF.kin _ _).1 hi
  obtain ⟨j1, j2⟩ := (hF.kin _ _).1 hj
  obtain ⟨g, hg⟩ := hF.ht
  intro h
  cases h with
  | kid h1 h2 => exact hF.not_self i1 (by rw [i2, ← j2, h2])
  | @up _ v h1 h2 h3 =>
    have h4 := above_ht h3 hg
    have h5 := hg i v i1 (by rw [i2, ← j2, h2])
    omega

theorem Flat.nodup {F : Fo} (hF : WF F) {l a : List Nat} (h : Flat F l a) : ∀ p, (∀ i ∈ l, i ∈ F.kids p) → l.Nodup → a.Nodup := by
  induction h with
  | nil => intro _ _ _; exact List.nodup_nil
  | @cons i r a b h1 h2 ih1 ih2 =>
    intro p hl hn
    rw [List.nodup_cons] at hn
    have hip := hl i (by simp)
    have ha := ih1 (i : Int) (fun _ hh => hh) (hF.nd _)
    have hb := ih2 p (fun j hj => hl j (by simp [hj])) hn.2
    obtain ⟨g, hg⟩ := hF.ht
    have haa : ∀ x, x ∈ a → Above F i x := fun x hx => (desc_mem hF h1 x).1 hx
    have hbb : ∀ x, x ∈ b → x ∈ r ∨ ∃ y ∈ r, Above F y x := fun x hx => (h2.mem hF x).1 hx
    have hdj : ∀ x, Above F i x → x ∉ b := fun x hx hxb => by
      rcases hbb x hxb with hr | ⟨y, hy, hyx⟩
      · exact sib_above hF hip (hl x (by simp [hr])) hx
      · rcases above_comp hx hyx with e | e | e
        · subst e; exact hn.1 hy
        · exact sib_above hF hip (hl y (by simp [hy])) e
        · exact sib_above hF (hl y (by simp [hy])) hip e
    rw [List.nodup_cons]
    refine ⟨fun hm => ?_, ?_⟩
    · rcases List.mem_append.1 hm with hm | hm
      · have := above_ht (haa i hm) hg
        omega
      · rcases hbb i hm with hr | ⟨y, hy, hyx⟩
        · exact hn.1 hr
        · exact sib_above hF (hl y (by simp [hy])) hip hyx
    · rw [List.nodup_append]
      exact ⟨ha, hb, fun u hu v hv e => hdj u (haa u hu) (e ▸ hv)⟩

theorem WF.prune {F : Fo} (h : WF F) {x : Nat} (hx : F.there x = true) {ds : List Nat} (hd : Flat F (F.kids (x : Int)) ds) : WF (F.prune x ds) := by
  have hm := desc_mem h hd
  have hnd := hd.nodup h (x : Int) (fun _ hh => hh) (h.nd _)
  have hdt : ∀ d, d ∈ ds → F.there d = true := fun d hd' => ((hm d).1 hd').there
  have hany : ∀ q : Int, (ds.any (fun d => decide (q = (d : Int)))) = true ↔ ∃ d ∈ ds, q = (d : Int) := by intro q; simp
  refine ⟨fun q i => ?_, fun q => ?_, fun i hi => ?_, fun i hi => ?_, fun i => ?_, ?_, ?_⟩
  · simp only [Fo.prune, Bool.and_eq_true, Bool.not_eq_true', List.contains_eq_mem, decide_eq_false_iff_not]
    by_cases hq : q = (x : Int)
    · rw [if_pos hq]
      constructor
      · intro e; cases e
      · rintro ⟨⟨h1, h2⟩, h3⟩
        exact (h2 ((hm i).2 (.kid h1 (h3.trans hq)))).elim
    · rw [if_neg hq]
      by_cases ha : (ds.any (fun d => decide (q = (d : Int)))) = true
      · rw [if_pos ha]
        obtain ⟨d, hd', rfl⟩ := (hany _).1 ha
        constructor
        · intro e; cases e
        · rintro ⟨⟨h1, h2⟩, h3⟩
          exact (h2 ((hm i).2 (.up h1 h3 ((hm d).1 hd')))).elim
      · rw [if_neg ha, h.kin]
        constructor
        · rintro ⟨h1, h2⟩
          refine ⟨⟨h1, fun hi => ?_⟩, h2⟩
          cases (hm i).1 hi with
          | kid k1 k2 => exact hq (by rw [← h2, k2])
          | @up _ v k1 k2 k3 => exact ha ((hany _).2 ⟨v, (hm v).2 k3, by rw [← h2, k2]⟩)
        · rintro ⟨⟨h1, _⟩, h3⟩
          exact ⟨h1, h3⟩
  · simp only [Fo.prune]
    split
    · exact List.nodup_nil
    · split
      · exact List.nodup_nil
      · exact h.nd _
  · simp only [Fo.prune, Bool.and_eq_true, Bool.not_eq_true', List.contains_eq_mem, decide_eq_false_iff_not] at hi ⊢
    rcases h.up i hi.1 with e | ⟨j, e, hj⟩
    · exact .inl e
    · exact .inr ⟨j, e, hj, fun hjd => hi.2 ((hm i).2 (.up hi.1 e ((hm j).1 hjd)))⟩
  · simp only [Fo.prune, Bool.and_eq_true] at hi ⊢
    exact h.lt i hi.1
  · simp only [Fo.prune, List.mem_append]
    rw [h.fr]
    by_cases hi : i ∈ ds
    · have := hdt i hi
      simp [hi, h.lt i this]
    · simp [hi]
  · simp only [Fo.prune]
    rw [List.nodup_append]
    refine ⟨h.fnd, hnd, fun u hu v hv e => ?_⟩
    subst e
    have := ((h.fr u).1 hu).2
    rw [hdt u hv] at this
    cases this
  · obtain ⟨g, hg⟩ := h.ht
    refine ⟨g, fun i j hi he => ?_⟩
    simp only [Fo.prune, Bool.and_eq_true] at hi he
    exact hg i j hi.1 he
end Go.Proofs.Ytbknmfegckeogaa

/- The places of a forest, as the program keeps them, in plain Lean: what join does; that Add, Drop, Prune do on the places what they do on the forest. No program in sight. -/
namespace Go.Proofs.Ytbknmfegckeogaa
set_option linter.unusedVariables false
set_option linter.unusedSimpArgs false

/-- A place. -/
structure Nd where
  t : Bool
  u : Int
  d : Int
  l : Int
  r : Int
def Nd.zero : Nd := ⟨false, 0, 0, 0, 0⟩
/-- What is at a place. -/
def Fo.nod (F : Fo) (i : Nat) : Nd := if F.there i = true then ⟨true, F.par i, hd (F.kids (i : Int)), prv i (F.kids (F.par i)), nxt i (F.kids (F.par i))⟩ else Nd.zero

/-- All places, and the first root. -/
structure Raw where
  M : Nat → Nd
  first : Int
def setN (M : Nat → Nd) (i : Nat) (x : Nd) : Nat → Nd := fun k => if k = i then x else M k
theorem setN_same (M : Nat → Nd) (i : Nat) (x : Nd) : setN M i x i = x := by simp [setN]
theorem setN_other (M : Nat → Nd) {i k : Nat} (x : Nd) (h : k ≠ i) : setN M i x k = M k := by simp [setN, h]
def Raw.head (R : Raw) (p : Int) : Int := if p < 0 then R.first else (R.M p.toNat).d
def Raw.setHead (R : Raw) (p v : Int) : Raw := if p < 0 then { R with first := v } else { R with M := setN R.M p.toNat { R.M p.toNat with d := v } }
def Raw.setR (R : Raw) (a : Nat) (v : Int) : Raw := { R with M := setN R.M a { R.M a with r := v } }
def Raw.setL (R : Raw) (a : Nat) (v : Int) : Raw := { R with M := setN R.M a { R.M a with l := v } }
def Raw.setU (R : Raw) (a : Nat) (v : Int) : Raw := { R with M := setN R.M a { R.M a with u := v } }
def Raw.setD (R : Raw) (a : Nat) (v : Int) : Raw := { R with M := setN R.M a { R.M a with d := v } }
def Raw.put (R : Raw) (a : Nat) (x : Nd) : Raw := { R with M := setN R.M a x }
def Raw.join (R : Raw) (p a b : Int) : Raw :=
  let R1 := if a = -1 then R.setHead p b else R.setR a.toNat b
  if b = -1 then R1 else R1.setL b.toNat a
/-- Drop's loop over children. -/
def dropL (p : Int) : Raw → Int → List Nat → Raw
  | R, _, [] => R
  | R, last, c :: K => dropL p ((R.setU c p).join p last (c : Int)) (c : Int) K

/-- The places are a forest's. -/
structure Rep (R : Raw) (F : Fo) : Prop where
  at_ : ∀ i, i < F.n → R.M i = F.nod i
  first : R.first = hd (F.kids (-1))

theorem Rep.head {R : Raw} {F : Fo} (h : Rep R F) (hF : WF F) {p : Int} (hp : F.ok p) : R.head p = hd (F.kids p) := by
  rcases hp with rfl | ⟨j, rfl, hj⟩
  · simp [Raw.head, h.first]
  · have hj0 : ¬ ((j : Nat) : Int) < 0 := by omega
    simp [Raw.head, hj0, h.at_ j (hF.lt j hj), Fo.nod, hj]

theorem hd_cons (x : Nat) (l : List Nat) : hd (x :: l) = x := rfl

theorem rep_add {R : Raw} {F : Fo} (h : Rep R F) (hF : WF F) {p : Int} (hp : F.ok p) {x : Nat} (hx : F.free.getLast? = some x) :
    Rep (((R.put x ⟨true, p, -1, -1, -1⟩).join p (-1) (x : Int)).join p (x : Int) (R.head p)) (F.add p x) := by
  rw [h.head hF hp]
  obtain ⟨hxn, hxt⟩ := (hF.fr x).1 (last_mem hx)
  have hnx : ∀ i, F.there i = true → i ≠ x := fun i hi e => by subst e; rw [hxt] at hi; cases hi
  have hkx : F.kids (x : Int) = [] := hF.kids_nil hxt
  have hpx : p ≠ (x : Int) := by
    rcases hp with rfl | ⟨j, rfl, hj⟩
    · omega
    · have := hnx j hj; omega
  have hrow : ∀ i ∈ F.kids p, F.there i = true ∧ F.par i = p := fun i hi => (hF.kin _ _).1 hi
  -- what is at each place behind it
  have hrec : ∀ i, (F.add p x).nod i = if i = x then ⟨true, p, -1, -1, hd (F.kids p)⟩ else if F.there i = true then
      ⟨true, F.par i, if (i : Int) = p then (x : Int) else hd (F.kids (i : Int)), if (F.kids p).head? = some i then (x : Int) else prv i (F.kids (F.par i)), nxt i (F.kids (F.par i))⟩ else Nd.zero := by
    intro i
    unfold Fo.nod
    simp only [Fo.add]
    by_cases hix : i = x
    · subst hix
      simp only [if_true]
      rw [if_neg (fun e => hpx e.symm), hkx]
      simp [hd, prv, prvF, nxt]
    · simp only [hix, if_false]
      by_cases hi : F.there i = true
      · rw [if_pos hi, if_pos hi]
        congr 1
        · split
          · rfl
          · rfl
        · by_cases hq : F.par i = p
          · rw [if_pos hq, hq]
            have hik : i ∈ F.kids p := (hF.kin _ _).2 ⟨hi, hq⟩
            have hxi : ¬ x = i := fun e => hix e.symm
            have e1 : prv i (x :: F.kids p) = prvF (x : Int) i (F.kids p) := by
              unfold prv
              simp [prvF, hxi]
            rw [e1]
            by_cases hh : (F.kids p).head? = some i
            · rw [if_pos hh]
              cases hk : F.kids p with
              | nil => rw [hk] at hh; cases hh
              | cons y r =>
                rw [hk] at hh
                have : y = i := by simpa using hh
                simp [prvF, this]
            · rw [if_neg hh]
              exact prvF_mem_tail _ _ hik hh
          · rw [if_neg hq, if_neg]
            intro hh
            exact hq (hrow i (List.mem_of_mem_head? hh)).2
        · by_cases hq : F.par i = p
          · rw [if_pos hq, hq]
            have hxi : ¬ x = i := fun e => hix e.symm
            simp [nxt, hxi]
          · rw [if_neg hq]
      · rw [if_neg hi, if_neg hi]
  have hR : ∀ i, i < F.n → R.M i = F.nod i := h.at_
  have hxT : ((x : Nat) : Int).toNat = x := by omega
  have hx1 : ((x : Nat) : Int) ≠ -1 := by omega
  refine ⟨fun i hi => ?_, ?_⟩
  · rw [hrec]
    have hi' : i < F.n := hi
    have hri := hR i hi'
    unfold Fo.nod at hri
    have hcase : F.kids p = [] ∨ ∃ y r, F.kids p = y :: r := by
      cases F.kids p with
      | nil => exact .inl rfl
      | cons y r => exact .inr ⟨y, r, rfl⟩
    rcases hcase with hk | ⟨y, r, hk⟩
    · have hv : hd (F.kids p) = -1 := by rw [hk]; rfl
      have hh : (F.kids p).head? = none := by rw [hk]; rfl
      rw [hv, hh]
      simp only [Raw.join, if_true, if_neg hx1, hxT]
      rcases hp with rfl | ⟨j, rfl, hj⟩
      · simp only [Raw.setHead, show (-1 : Int) < 0 by omega, if_true, Raw.setL, Raw.setR, Raw.put]
        by_cases hix : i = x
        · subst hix
          simp [setN]
        · have hip : (i : Int) ≠ -1 := by omega
          simp [setN, hix, hri, hip]
      · have hjx := hnx j hj
        have hxj : ¬ x = j := fun e => hjx e.symm
        have hj0 : ¬ ((j : Nat) : Int) < 0 := by omega
        have hjT : ((j : Nat) : Int).toNat = j := by omega
        simp only [Raw.setHead, hj0, if_false, hjT, Raw.setL, Raw.setR, Raw.put]
        by_cases hix : i = x
        · subst hix
          simp [setN, hxj, hjx]
        · by_cases hij : i = j
          · subst hij
            simp [setN, hix, hri, hj]
          · have hij' : (i : Int) ≠ (j : Int) := by omega
            simp [setN, hix, hij, hri, hij']
    · have hv : hd (F.kids p) = y := by rw [hk]; rfl
      have hh : (F.kids p).head? = some y := by rw [hk]; rfl
      have hy := hrow y (by rw [hk]; simp)
      have hyx := hnx y hy.1
      have hxy : ¬ x = y := fun e => hyx e.symm
      have hyT : ((y : Nat) : Int).toNat = y := by omega
      have hy1 : ((y : Nat) : Int) ≠ -1 := by omega
      rw [hv, hh]
      simp only [Raw.join, if_true, if_neg hx1, if_neg hy1, hxT, hyT, Option.some.injEq]
      rcases hp with rfl | ⟨j, rfl, hj⟩
      · simp only [Raw.setHead, show (-1 : Int) < 0 by omega, if_true, Raw.setL, Raw.setR, Raw.put]
        by_cases hix : i = x
        · subst hix
          simp [setN, hxy, hyx]
        · have hip : (i : Int) ≠ -1 := by omega
          by_cases hiy : i = y
          · subst hiy
            simp [setN, hix, hri, hip, hy.1]
          · have hiy' : ¬ y = i := fun e => hiy e.symm
            simp [setN, hix, hri, hip, hiy, hiy']
      · have hjx := hnx j hj
        have hxj : ¬ x = j := fun e => hjx e.symm
        have hj0 : ¬ ((j : Nat) : Int) < 0 := by omega
        have hjT : ((j : Nat) : Int).toNat = j := by omega
        have hyj : y ≠ j := fun e => hF.not_self hy.1 (by rw [hy.2, e])
        have hjy : ¬ j = y := fun e => hyj e.symm
        simp only [Raw.setHead, hj0, if_false, hjT, Raw.setL, Raw.setR, Raw.put]
        by_cases hix : i = x
        · subst hix
          simp [setN, hxy, hxj, hyx, hjx]
        · by_cases hiy : i = y
          · subst hiy
            have hij' : (i : Int) ≠ (j : Int) := by omega
            simp [setN, hix, hri, hy.1, hyj, hij']
          · have hiy' : ¬ y = i := fun e => hiy e.symm
            by_cases hij : i = j
            · subst hij
              simp [setN, hix, hri, hiy, hiy', hj]
            · have hij' : (i : Int) ≠ (j : Int) := by omega
              simp [setN, hix, hri, hiy, hiy', hij, hij']
  · simp only [Fo.add]
    have hf := h.first
    by_cases hy1 : hd (F.kids p) = -1
    · rcases hp with rfl | ⟨j, rfl, hj⟩
      · simp [Raw.join, hy1, hx1, Raw.setHead, Raw.setL, Raw.setR, Raw.put, hd_cons]
      · have hj0 : ¬ ((j : Nat) : Int) < 0 := by omega
        have hj1 : ¬ (-1 : Int) = (j : Int) := by omega
        simp [Raw.join, hy1, hx1, Raw.setHead, Raw.setL, Raw.setR, Raw.put, hj0, hj1, hf]
    · rcases hp with rfl | ⟨j, rfl, hj⟩
      · simp [Raw.join, hy1, hx1, Raw.setHead, Raw.setL, Raw.setR, Raw.put, hd_cons]
      · have hj0 : ¬ ((j : Nat) : Int) < 0 := by omega
        have hj1 : ¬ (-1 : Int) = (j : Int) := by omega
        simp [Raw.join, hy1, hx1, Raw.setHead, Raw.setL, Raw.setR, Raw.put, hj0, hj1, hf]
end Go.Proofs.Ytbknmfegckeogaa

/- The places of a forest, in plain Lean: that Drop and Prune do on the places what they do on the forest. No program in sight. -/
namespace Go.Proofs.Ytbknmfegckeogaa
set_option linter.unusedVariables false
set_option linter.unusedSimpArgs false

theorem hd_neg {l : List Nat} : hd l = -1 ↔ l = [] := by
  cases l with
  | nil => simp [hd]
  | cons x l =>
    simp [hd]
theorem nxt_not_mem {i : Nat} : ∀ {l : List Nat}, i ∉ l → nxt i l = -1
  | [], _ => rfl
  | x :: l, h => by
    have h1 : ¬ x = i := fun e => h (by simp [e])
    simp only [nxt, if_neg h1]
    exact nxt_not_mem fun e => h (by simp [e])

theorem join_first (R : Raw) (p a b : Int) : (R.join p a b).first = if a = -1 ∧ p < 0 then b else R.first := by
  unfold Raw.join
  by_cases ha : a = -1
  · by_cases hp : p < 0
    · simp [ha, hp, Raw.setHead]
      split <;> rfl
    · simp [ha, hp, Raw.setHead]
      split <;> rfl
  · simp [ha]
    split <;> rfl

/-- What join leaves at a place. -/
theorem join_at (R : Raw) {p a b : Int} (i : Nat) (ha : a = -1 ∨ 0 ≤ a) (hb : b = -1 ∨ 0 ≤ b) (hab : a ≠ b ∨ a = -1) (hpb : p ≠ b ∨ p < 0) :
    (R.join p a b).M i = ⟨(R.M i).t, (R.M i).u, if a = -1 ∧ 0 ≤ p ∧ (i : Int) = p then b else (R.M i).d, if b ≠ -1 ∧ (i : Int) = b then a else (R.M i).l, if a ≠ -1 ∧ (i : Int) = a then b else (R.M i).r⟩ := by
  unfold Raw.join
  have hbT : b ≠ -1 → ((b.toNat : Nat) : Int) = b := fun h => by omega
  have haT : a ≠ -1 → ((a.toNat : Nat) : Int) = a := fun h => by omega
  by_cases h1 : a = -1
  · by_cases h2 : b = -1
    · by_cases h3 : p < 0
      · have h3' : ¬ (0 ≤ p) := by omega
        simp [h1, h2, Raw.setHead, h3, h3']
      · have h3' : 0 ≤ p := by omega
        simp only [h1, h2, if_true, Raw.setHead, h3, if_false, true_and, h3', ne_eq, not_true, false_and]
        by_cases h4 : (i : Int) = p
        · have : i = p.toNat := by omega
          subst this
          simp [setN, h4]
        · have : i ≠ p.toNat := by omega
          simp [setN, h4, this]
    · have hb' := hbT h2
      by_cases h3 : p < 0
      · have h3' : ¬ (0 ≤ p) := by omega
        simp only [h1, h2, if_true, if_false, Raw.setHead, h3, Raw.setL, true_and, h3', false_and, and_false, ne_eq, not_true, not_false_eq_true]
        by_cases h4 : (i : Int) = b
        · have : i = b.toNat := by omega
          subst this
          simp [setN, hb']
        · have : i ≠ b.toNat := by omega
          simp [setN, h4, this]
      · have h3' : 0 ≤ p := by omega
        have hpb' : p ≠ b := by omega
        have hne : b.toNat ≠ p.toNat := by omega
        have hne' : p.toNat ≠ b.toNat := fun e => hne e.symm
        simp only [h1, h2, if_true, if_false, Raw.setHead, h3, Raw.setL, true_and, h3', ne_eq, not_true, not_false_eq_true, false_and]
        by_cases h4 : (i : Int) = b
        · have hi : i = b.toNat := by omega
          have h5 : ¬ (i : Int) = p := by omega
          have h6 : i ≠ p.toNat := by omega
          rw [hi]
          simp [setN, hb', hne]
          intro e
          omega
        · have hi : i ≠ b.toNat := by omega
          by_cases h5 : (i : Int) = p
          · have h6 : i = p.toNat := by omega
            have hpT : ((p.toNat : Nat) : Int) = p := by omega
            rw [h6]
            simp [setN, hne', hpT, hpb']
          · have h6 : i ≠ p.toNat := by omega
            simp [setN, h4, hi, h5, h6]
  · have ha' := haT h1
    by_cases h2 : b = -1
    · simp only [h1, h2, if_false, if_true, Raw.setR, false_and, ne_eq, not_true, not_false_eq_true, true_and]
      by_cases h4 : (i : Int) = a
      · have : i = a.toNat := by omega
        subst this
        simp [setN, ha']
      · have : i ≠ a.toNat := by omega
        simp [setN, h4, this]
    · have hb' := hbT h2
      have hab' : a ≠ b := by omega
      have hne : b.toNat ≠ a.toNat := by omega
      have hne' : a.toNat ≠ b.toNat := fun e => hne e.symm
      simp only [h1, h2, if_false, Raw.setR, Raw.setL, false_and, ne_eq, not_false_eq_true, true_and]
      by_cases h4 : (i : Int) = b
      · have hi : i = b.toNat := by omega
        have h5 : ¬ (i : Int) = a := by omega
        have h6 : i ≠ a.toNat := by omega
        rw [hi]
        simp [setN, hb', hne]
        intro e
        omega
      · have hi : i ≠ b.toNat := by omega
        by_cases h5 : (i : Int) = a
        · have h6 : i = a.toNat := by omega
          rw [h6]
          simp [setN, hne', ha', hab']
        · have h6 : i ≠ a.toNat := by omega
          simp [setN, h4, hi, h5, h6]
end Go.Proofs.Ytbknmfegckeogaa

/- The places of a forest, in plain Lean: that Drop and Prune do on the places what they do on the forest. No program in sight. -/
namespace Go.Proofs.Ytbknmfegckeogaa
set_option linter.unusedVariables false
set_option linter.unusedSimpArgs false

theorem lastOr_cases (l : List Nat) : l = [] ∨ ∃ z ∈ l, ∀ a, lastOr a l = (z : Int) := by
  induction l with
  | nil => exact .inl rfl
  | cons x l ih =>
    right
    rcases ih with rfl | ⟨z, hz, h⟩
    · exact ⟨x, by simp, fun a => rfl⟩
    · exact ⟨z, by simp [hz], fun a => h _⟩
theorem hd_cases (l : List Nat) : l = [] ∨ ∃ z ∈ l, hd l = (z : Int) := by
  cases l with
  | nil => exact .inl rfl
  | cons x l => exact .inr ⟨x, by simp, rfl⟩

theorem setU_at (R : Raw) (c i : Nat) (p : Int) : (R.setU c p).M i = if i = c then ⟨(R.M i).t, p, (R.M i).d, (R.M i).l, (R.M i).r⟩ else R.M i := by
  unfold Raw.setU setN
  by_cases h : i = c
  · subst h; simp
  · simp [h]

theorem dropL_first (p : Int) : ∀ (K : List Nat) (R : Raw) (last : Int), (dropL p R last K).first = if last = -1 ∧ K ≠ [] ∧ p < 0 then hd K else R.first
  | [], R, last => by simp [dropL]
  | c :: K, R, last => by
    rw [dropL, dropL_first p K, join_first]
    have hc : ((c : Nat) : Int) ≠ -1 := by omega
    rw [if_neg (fun e => hc e.1)]
    simp only [ne_eq, reduceCtorEq, not_false_eq_true, true_and, hd_cons]
    rfl

theorem dropL_at (p : Int) (hp : p = -1 ∨ 0 ≤ p) : ∀ (K : List Nat) (R : Raw) (last : Int) (i : Nat), (last = -1 ∨ 0 ≤ last) → (∀ c ∈ K, (c : Int) ≠ last) → (∀ c ∈ K, (c : Int) ≠ p) → K.Nodup →
    (dropL p R last K).M i = if i ∈ K then ⟨(R.M i).t, p, (R.M i).d, prvF last i K, if nxt i K = -1 then (R.M i).r else nxt i K⟩
      else ⟨(R.M i).t, (R.M i).u, if last = -1 ∧ K ≠ [] ∧ 0 ≤ p ∧ (i : Int) = p then hd K else (R.M i).d, (R.M i).l, if K ≠ [] ∧ last ≠ -1 ∧ (i : Int) = last then hd K else (R.M i).r⟩
  | [], R, last, i, _, _, _, _ => by simp [dropL]
  | c :: K, R, last, i, hl, hcl, hcp, hn => by
    rw [List.nodup_cons] at hn
    have hc1 : ((c : Nat) : Int) ≠ -1 := by omega
    have hcl' := hcl c (by simp)
    have hcp' := hcp c (by simp)
    have hdc : ∀ e ∈ K, ((e : Nat) : Int) ≠ (c : Int) := fun e he ee => by
      have : e = c := by omega
      exact hn.1 (this ▸ he)
    rw [dropL, dropL_at p hp K _ (c : Int) i (.inr (by omega)) hdc (fun e he => hcp e (by simp [he])) hn.2]
    have hj := join_at (R.setU c p) (p := p) (a := last) (b := (c : Int)) i hl (.inr (by omega)) (.inl (fun e => hcl' e.symm)) (.inl (fun e => hcp' e.symm))
    rw [hj, setU_at]
    by_cases hic : i = c
    · subst hic
      have hiK : i ∉ K := hn.1
      have h1 : ¬ ((i : Nat) : Int) = p := hcp'
      have h2 : ¬ ((i : Nat) : Int) = last := hcl'
      simp only [hiK, if_false, List.mem_cons, true_or, if_true, hc1, false_and, h1, h2, and_false, ne_eq, not_false_eq_true, true_and, and_true, prvF, nxt]
      congr 1
      by_cases hK : K = []
      · subst hK
        simp [hd]
      · have : hd K ≠ -1 := fun e => hK (hd_neg.1 e)
        simp [hK, this]
    · have hic' : ¬ (i : Int) = (c : Int) := by omega
      have hci : ¬ c = i := fun e => hic e.symm
      by_cases hiK : i ∈ K
      · have h1 : ¬ ((i : Nat) : Int) = p := hcp i (by simp [hiK])
        have h2 : ¬ ((i : Nat) : Int) = last := hcl i (by simp [hiK])
        simp only [hiK, if_true, List.mem_cons, or_true, hic, if_false, hic', and_false, h1, h2, prvF, nxt, if_neg hci]
      · simp only [hiK, if_false, List.mem_cons, hic, or_self, hic', and_false, hc1, false_and, ne_eq, not_false_eq_true, true_and, reduceCtorEq, hd_cons]
end Go.Proofs.Ytbknmfegckeogaa
