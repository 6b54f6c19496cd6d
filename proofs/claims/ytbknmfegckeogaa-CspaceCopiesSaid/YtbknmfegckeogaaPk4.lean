/- Of the following, one behind the other: Maps with whatever keys, as relations between keys and values: look-up, a store in its two steps, delete, a clone. No program in sight. -/
import Derived.WalkKit
import Derived.Below
import Derived.Lib.Hide
import Derived.Maps.Keyed
import Derived.MapKept
import Derived.OwnWalk
/- Maps with whatever keys, as relations between keys and values: look-up, a store in its two steps, delete, a clone. No program in sight. -/
namespace Go.Proofs.Ytbknmfegckeogaa
open Go.RowKit Go.MapKept Go.Maps
open Go.ChangeMaps (setBlock)
set_option linter.unusedVariables false
set_option linter.unusedSimpArgs false

/-- Block m is a map; its entries are just R's, so many. -/
def MapR (P : Program) (k : TypeId) (w : World) (m : Nat) (R : Value → Value → Prop) (n : Nat) : Prop :=
  ∃ es clock, w.heap[m]? = some (.map es clock) ∧ Stamped es clock ∧ (∀ e ∈ es.toList, ∃ l, keyOf P k e.key = some l) ∧ (∀ x y, R x y ↔ ∃ e ∈ es.toList, e.key = x ∧ e.val = y) ∧ es.size = n
/-- The same, but for the key x, whose entry is the one of stamp c. -/
def MapE (P : Program) (k : TypeId) (w : World) (m : Nat) (x : Value) (c : Nat) (R : Value → Value → Prop) (n : Nat) : Prop :=
  ∃ es clock, w.heap[m]? = some (.map es clock) ∧ Stamped es clock ∧ (∀ e ∈ es.toList, ∃ l, keyOf P k e.key = some l) ∧ (∀ a, a ≠ x → ∀ y, R a y ↔ ∃ e ∈ es.toList, e.key = a ∧ e.val = y) ∧ (∃ e ∈ es.toList, e.key = x ∧ e.born = c) ∧ es.size = n
section
variable {P : Program} {k : TypeId} {w w' : World} {m n : Nat} {R R' : Value → Value → Prop}
theorem MapR.lt (h : MapR P k w m R n) : m < w.heap.size := by
  obtain ⟨es, c, h1, _⟩ := h
  exact (Array.getElem?_eq_some_iff.1 h1).1
theorem MapR.block (h : MapR P k w m R n) (hb : w'.heap[m]? = w.heap[m]?) : MapR P k w' m R n := by
  obtain ⟨es, c, h1, h2⟩ := h
  exact ⟨es, c, hb.trans h1, h2⟩
theorem MapE.block {x : Value} {c : Nat} (h : MapE P k w m x c R n) (hb : w'.heap[m]? = w.heap[m]?) : MapE P k w' m x c R n := by
  obtain ⟨es, c, h1, h2⟩ := h
  exact ⟨es, c, hb.trans h1, h2⟩
theorem MapE.lt {x : Value} {c : Nat} (h : MapE P k w m x c R n) : m < w.heap.size := by
  obtain ⟨es, c, h1, _⟩ := h
  exact (Array.getElem?_eq_some_iff.1 h1).1
theorem MapR.ext (h : MapR P k w m R n) (he : ∀ x y, R' x y ↔ R x y) : MapR P k w m R' n := by
  obtain ⟨es, c, h1, h2, h3, h4, h5⟩ := h
  exact ⟨es, c, h1, h2, h3, fun x y => (he x y).trans (h4 x y), h5⟩
theorem MapR.new (w : World) (k : TypeId) : MapR P k (w.alloc (.map #[] 0)) w.heap.size (fun _ _ => False) 0 :=
  ⟨#[], 0, heap_alloc_new w _, stamped_empty 0, fun e he => by simp at he, fun x y => by simp, rfl⟩
theorem same_key {es : Array MapEntry} {clock : Nat} (hs : Stamped es clock) {a b : MapEntry} (ha : a ∈ es.toList) (hb : b ∈ es.toList) (h : a.key = b.key) : a = b := by
  have hn := hs.2.2
  revert ha hb hn
  generalize es.toList = L
  intro ha hb hn
  induction L with
  | nil => cases ha
  | cons x L ih =>
    rw [List.map_cons, List.nodup_cons] at hn
    rcases List.mem_cons.1 ha with h1 | h1
    · rcases List.mem_cons.1 hb with h2 | h2
      · rw [h1, h2]
      · exact absurd (by rw [← h1, h]; exact List.mem_map_of_mem h2) hn.1
    · rcases List.mem_cons.1 hb with h2 | h2
      · exact absurd (by rw [← h2, ← h]; exact List.mem_map_of_mem h1) hn.1
      · exact ih h1 h2 hn.2
theorem same_born {es : Array MapEntry} {clock : Nat} (hs : Stamped es clock) {a b : MapEntry} (ha : a ∈ es.toList) (hb : b ∈ es.toList) (h : a.born = b.born) : a = b := by
  have hn := hs.2.1
  revert ha hb hn
  generalize es.toList = L
  intro ha hb hn
  induction L with
  | nil => cases ha
  | cons x L ih =>
    rw [List.map_cons, List.nodup_cons] at hn
    rcases List.mem_cons.1 ha with h1 | h1
    · rcases List.mem_cons.1 hb with h2 | h2
      · rw [h1, h2]
      · exact absurd (by rw [← h1, h]; exact List.mem_map_of_mem h2) hn.1
    · rcases List.mem_cons.1 hb with h2 | h2
      · exact absurd (by rw [← h2, ← h]; exact List.mem_map_of_mem h1) hn.1
      · exact ih h1 h2 hn.2
theorem MapR.uniq (h : MapR P k w m R n) {x y y' : Value} (h1 : R x y) (h2 : R x y') : y = y' := by
  obtain ⟨es, c, _, hs, _, hR, _⟩ := h
  obtain ⟨a, ha, ha1, ha2⟩ := (hR x y).1 h1
  obtain ⟨b, hb, hb1, hb2⟩ := (hR x y').1 h2
  rw [← ha2, ← hb2, same_key hs ha hb (ha1.trans hb1.symm)]

theorem nodup_of_map {α β : Type} (f : α → β) {L : List α} (h : (L.map f).Nodup) : L.Nodup := by
  induction L with
  | nil => exact List.nodup_nil
  | cons a L ih =>
    rw [List.map_cons, List.nodup_cons] at h
    exact List.nodup_cons.2 ⟨fun hh => h.1 (List.mem_map_of_mem hh), ih h.2⟩
/-! Look-up. -/
variable {t e : TypeId}
theorem run_lookup_yes (K : Keyed P k) (ht : P.underlying t = some (.map k e)) (h : MapR P k w m R n) {x y : Value} {lx : Lit} (hx : keyOf P k x = some lx) (hy : R x y) (ok : Bool) :
    (Instr.lookup t (.map (some m)) x ok).run P w = .ok (if ok then .tuple #[y, .bool true] else y) w := by
  obtain ⟨es, c, h1, hs, hk, hR, _⟩ := h
  obtain ⟨a, ha, ha1, ha2⟩ := (hR x y).1 hy
  rcases K.find w hx es.toList hk with ⟨_, h3⟩ | ⟨j, b, h2, h3, h4⟩
  · exact absurd ha1 (h3 a ha)
  · have hb : b ∈ es.toList := List.mem_of_getElem? h3
    have : a = b := same_key hs ha hb (ha1.trans h4.symm)
    subst this
    simp only [Instr.lookup, Sem.run_bind, run_underlying ht, Result.andThen_ok, MapKept.run_getObj_map h1, Sem.run_pure, K.check w _ hx, h2, ha2]
theorem run_lookup_no (K : Keyed P k) (ht : P.underlying t = some (.map k e)) (h : MapR P k w m R n) {x z : Value} {lx : Lit} (hx : keyOf P k x = some lx) (hn : ∀ y, ¬ R x y) (hz : (zeroValue e).run P w = .ok z w) (ok : Bool) :
    (Instr.lookup t (.map (some m)) x ok).run P w = .ok (if ok then .tuple #[z, .bool false] else z) w := by
  obtain ⟨es, c, h1, hs, hk, hR, _⟩ := h
  rcases K.find w hx es.toList hk with ⟨h2, _⟩ | ⟨j, b, h2, h3, h4⟩
  · simp only [Instr.lookup, Sem.run_bind, run_underlying ht, Result.andThen_ok, MapKept.run_getObj_map h1, Sem.run_pure, K.check w _ hx, h2, hz]
  · exact absurd ((hR x b.val).2 ⟨b, List.mem_of_getElem? h3, h4, rfl⟩) (hn _)

/-! A store, in its two steps. -/
theorem grown_set {es : Array MapEntry} {c : Nat} (h1 : w.heap[m]? = some (.map es c)) (o : Obj) : w.grownBy (setBlock w m o) (some m) :=
  ⟨rfl, rfl, rfl, by simp [setBlock], fun q hq hne => by
    have hqm : m ≠ q := fun e => hne (by rw [e])
    simp [setBlock, hqm]⟩
theorem set_at {es : Array MapEntry} {c : Nat} (h1 : w.heap[m]? = some (.map es c)) (o : Obj) : (setBlock w m o).heap[m]? = some o := (heap_set h1).1
theorem run_entry_new (K : Keyed P k) (ht : P.underlying t = some (.map k e)) (h : MapR P k w m R n) {x z : Value} {lx : Lit} (hx : keyOf P k x = some lx) (hn : ∀ y, ¬ R x y) (hz : (zeroValue e).run P w = .ok z w) :
    ∃ (c : Nat) (w' : World), (Instr.mapEntry t (.map (some m)) x).run P w = .ok (.tuple #[z, goInt c]) w' ∧ MapE P k w' m x c R (n + 1) ∧ w.grownBy w' (some m) ∧ w'.heap.size = w.heap.size := by
  obtain ⟨es, c, h1, hs, hk, hR, h5⟩ := h
  rcases K.find w hx es.toList hk with ⟨h2, h3⟩ | ⟨j, b, h2, h3, h4⟩
  · refine ⟨c, setBlock w m (.map (es.push { key := x, val := z, born := c }) (c + 1)), ?_, ⟨_, _, set_at h1 _, stamped_push hs h3, ?_, ?_, ?_, by simp [h5]⟩, grown_set h1 _, by simp [setBlock]⟩
    · simp [Instr.mapEntry, run_underlying ht, MapKept.run_getObj_map h1, K.check w false hx, h2, hz, MapKept.run_setObj_map _ h1, Result.andThen, setBlock]
    · intro a ha
      simp only [Array.toList_push, List.mem_append, List.mem_singleton] at ha
      rcases ha with ha | rfl
      · exact hk a ha
      · exact ⟨lx, hx⟩
    · intro a hax y
      rw [hR]
      simp only [Array.toList_push, List.mem_append, List.mem_singleton]
      constructor
      · rintro ⟨b, hb, hb2⟩
        exact ⟨b, .inl hb, hb2⟩
      · rintro ⟨b, hb | rfl, hb2, hb3⟩
        · exact ⟨b, hb, hb2, hb3⟩
        · exact absurd hb2.symm hax
    · exact ⟨{ key := x, val := z, born := c }, by simp, rfl, rfl⟩
  · exact absurd ((hR x b.val).2 ⟨b, List.mem_of_getElem? h3, h4, rfl⟩) (hn _)
theorem run_entry_old (K : Keyed P k) (ht : P.underlying t = some (.map k e)) (h : MapR P k w m R n) {x y : Value} {lx : Lit} (hx : keyOf P k x = some lx) (hy : R x y) :
    ∃ (c : Nat) (w' : World), (Instr.mapEntry t (.map (some m)) x).run P w = .ok (.tuple #[y, goInt c]) w' ∧ MapE P k w' m x c R n ∧ w.grownBy w' (some m) ∧ w'.heap.size = w.heap.size := by
  obtain ⟨es, c, h1, hs, hk, hR, h5⟩ := h
  obtain ⟨a, ha, ha1, ha2⟩ := (hR x y).1 hy
  rcases K.find w hx es.toList hk with ⟨_, h3⟩ | ⟨j, b, h2, h3, h4⟩
  · exact absurd ha1 (h3 a ha)
  · have hb : b ∈ es.toList := List.mem_of_getElem? h3
    have : a = b := same_key hs ha hb (ha1.trans h4.symm)
    subst this
    have hj : es[j]? = some a := by simpa using h3
    have hmod : es.modify j (fun e => { e with key := x }) = es := by
      apply Array.ext_getElem?
      intro i
      rw [Array.getElem?_modify]
      by_cases hij : j = i
      · subst hij
        rw [if_pos rfl, hj, Option.map_some, ← ha1]
      · rw [if_neg hij]
    refine ⟨a.born, setBlock w m (.map es c), ?_, ⟨_, _, set_at h1 _, hs, hk, fun a' _ y' => hR a' y', ⟨a, ha, ha1, rfl⟩, h5⟩, grown_set h1 _, by simp [setBlock]⟩
    simp [Instr.mapEntry, run_underlying ht, MapKept.run_getObj_map h1, K.check w false hx, h2, hj, ha1, K.stays w hx, MapKept.run_setObj_map _ h1, Result.andThen, setBlock, hmod, ha2]
theorem findIdx_born {es : Array MapEntry} {clock : Nat} (hs : Stamped es clock) {a : MapEntry} (ha : a ∈ es.toList) : ∃ i, es.findIdx? (fun e => (e.born : Int) == (a.born : Int)) = some i ∧ es[i]? = some a := by
  cases hf : es.findIdx? (fun e => (e.born : Int) == (a.born : Int)) with
  | none =>
    rw [Array.findIdx?_eq_none_iff] at hf
    have := hf a (by simpa using ha)
    simp at this
  | some i =>
    rw [Array.findIdx?_eq_some_iff_getElem] at hf
    obtain ⟨hi, hp, _⟩ := hf
    refine ⟨i, rfl, ?_⟩
    have hb : es[i] ∈ es.toList := by simp
    have : es[i].born = a.born := by
      have h9 := hp
      simp at h9
      omega
    rw [Array.getElem?_eq_getElem hi, same_born hs hb ha this]
theorem run_estore {x v : Value} {c : Nat} (h : MapE P k w m x c R n) (t : TypeId) (hR1 : ∀ y, R' x y ↔ y = v) (hR2 : ∀ a, a ≠ x → ∀ y, R' a y ↔ R a y) :
    ∃ w', (Instr.entryStore t (.map (some m)) (goInt c) v).run P w = .ok () w' ∧ MapR P k w' m R' n ∧ w.grownBy w' (some m) ∧ w'.heap.size = w.heap.size := by
  obtain ⟨es, clock, h1, hs, hk, hR, ⟨a, ha, ha1, ha2⟩, h5⟩ := h
  obtain ⟨i, hi, hia⟩ := findIdx_born hs ha
  have hset : (es.modify i (fun e => { e with val := v })).toList = es.toList.set i { a with val := v } := by
    apply List.ext_getElem?
    intro j
    rw [Array.getElem?_toList, Array.getElem?_modify, List.getElem?_set]
    by_cases hij : i = j
    · subst hij
      have hlt : i < es.toList.length := by simpa using (Array.getElem?_eq_some_iff.1 hia).1
      have hlt2 : i < es.size := by simpa using hlt
      have hge : es[i]'hlt2 = a := (Array.getElem?_eq_some_iff.1 hia).2
      simp [hlt2, hge]
    · simp [hij]
  have hil : i < es.toList.length := by simpa using (Array.getElem?_eq_some_iff.1 hia).1
  have hgi : es.toList[i] = a := by
    have := (Array.getElem?_eq_some_iff.1 hia).2
    simpa using this
  have hmem : ∀ b, b ∈ (es.modify i (fun e => { e with val := v })).toList ↔ b = { a with val := v } ∨ (b ∈ es.toList ∧ b ≠ a) := by
    intro b
    rw [hset]
    constructor
    · intro hb
      obtain ⟨j, hj, e⟩ := List.getElem_of_mem hb
      rw [List.getElem_set] at e
      split at e
      · exact .inl e.symm
      · rename_i hij
        refine .inr ⟨e ▸ List.getElem_mem (by simpa using hj), fun hba => ?_⟩
        subst hba
        have hnd : es.toList.Nodup := nodup_of_map _ hs.2.1
        have hj' : j < es.toList.length := by simpa using hj
        have := (List.getElem_inj (h₀ := hil) (h₁ := hj') hnd).1 (by rw [hgi, e])
        exact hij this
    · rintro (rfl | ⟨hb, hba⟩)
      · exact List.mem_iff_getElem.2 ⟨i, by simpa using hil, by simp⟩
      · obtain ⟨j, hj, e⟩ := List.getElem_of_mem hb
        have hij : i ≠ j := fun h => hba (by subst h; rw [← e, hgi])
        exact List.mem_iff_getElem.2 ⟨j, by simpa using hj, by rw [List.getElem_set_ne hij]; exact e⟩
  refine ⟨setBlock w m (.map (es.modify i fun e => { e with val := v }) clock), ?_, ⟨_, _, set_at h1 _, stamped_modify hs _ _ (fun _ _ => rfl) (fun _ _ _ => rfl), ?_, ?_, by simp [h5]⟩, grown_set h1 _, by simp [setBlock]⟩
  · rw [← ha2]
    simp [Instr.entryStore, MapKept.run_getObj_map h1, asInt, asIntOf, goInt, hi, MapKept.run_setObj_map _ h1, Result.andThen, setBlock]
  · intro b hb
    rcases (hmem b).1 hb with rfl | ⟨hb, _⟩
    · exact hk a ha
    · exact hk b hb
  · intro x' y
    by_cases hx : x' = x
    · subst hx
      rw [hR1]
      constructor
      · rintro rfl
        exact ⟨_, (hmem _).2 (.inl rfl), ha1, rfl⟩
      · rintro ⟨b, hb, hb1, hb2⟩
        rcases (hmem b).1 hb with rfl | ⟨hb, hba⟩
        · exact hb2.symm
        · exact absurd (same_key hs hb ha (hb1.trans ha1.symm)) hba
    · rw [hR2 x' hx, hR x' hx]
      constructor
      · rintro ⟨b, hb, hb1, hb2⟩
        refine ⟨b, (hmem b).2 (.inr ⟨hb, fun e => hx ?_⟩), hb1, hb2⟩
        rw [← hb1, e, ha1]
      · rintro ⟨b, hb, hb1, hb2⟩
        rcases (hmem b).1 hb with rfl | ⟨hb, hba⟩
        · exact absurd (hb1.symm.trans ha1) hx
        · exact ⟨b, hb, hb1, hb2⟩

/-! Delete. -/
theorem run_delete (K : Keyed P k) (ht : P.underlying t = some (.map k e)) (h : MapR P k w m R n) (ty : TypeId) {x y : Value} {lx : Lit} (hx : keyOf P k x = some lx) (hy : R x y) (hR1 : ∀ y, ¬ R' x y) (hR2 : ∀ a, a ≠ x → ∀ y, R' a y ↔ R a y) :
    ∃ w', (Builtin.delete_ #[t, k] ty #[.map (some m), x]).run P w = .ok (.tuple #[]) w' ∧ MapR P k w' m R' (n - 1) ∧ w.grownBy w' (some m) ∧ w'.heap.size = w.heap.size := by
  obtain ⟨es, c, h1, hs, hk, hR, h5⟩ := h
  obtain ⟨a, ha, ha1, ha2⟩ := (hR x y).1 hy
  rcases K.find w hx es.toList hk with ⟨_, h3⟩ | ⟨j, b, h2, h3, h4⟩
  · exact absurd ha1 (h3 a ha)
  · have hb : b ∈ es.toList := List.mem_of_getElem? h3
    have : a = b := same_key hs ha hb (ha1.trans h4.symm)
    subst this
    have hjl : j < es.size := by simpa using (List.getElem?_eq_some_iff.1 h3).1
    have hnd : es.toList.Nodup := nodup_of_map _ hs.2.1
    have hmem : ∀ b, b ∈ (es.eraseIdxIfInBounds j).toList ↔ b ∈ es.toList ∧ b ≠ a := by
      intro b
      have e1 : (es.eraseIdxIfInBounds j).toList = es.toList.eraseIdx j := by
        unfold Array.eraseIdxIfInBounds
        rw [dif_pos hjl, Array.toList_eraseIdx]
      rw [e1]
      have hgj : es.toList[j]'(by simpa using hjl) = a := (List.getElem?_eq_some_iff.1 h3).2
      constructor
      · intro hbm
        refine ⟨(List.eraseIdx_sublist _ _).subset hbm, fun e => ?_⟩
        obtain ⟨i, hne, hi⟩ := List.mem_eraseIdx_iff_getElem?.1 hbm
        rw [e] at hi
        have hil := (List.getElem?_eq_some_iff.1 hi).1
        have hie := (List.getElem?_eq_some_iff.1 hi).2
        exact hne ((List.getElem_inj (h₀ := hil) (h₁ := by simpa using hjl) hnd).1 (hie.trans hgj.symm))
      · rintro ⟨hbm, hba⟩
        obtain ⟨i, hi⟩ := List.mem_iff_getElem?.1 hbm
        refine List.mem_eraseIdx_iff_getElem?.2 ⟨i, fun e => hba ?_, hi⟩
        subst e
        rw [h3] at hi
        exact (Option.some.inj hi).symm
    refine ⟨setBlock w m (.map (es.eraseIdxIfInBounds j) c), ?_, ⟨_, _, set_at h1 _, stamped_erase hs j, fun b hb => hk b ((hmem b).1 hb).1, ?_, ?_⟩, grown_set h1 _, by simp [setBlock]⟩
    · simp [Builtin.delete_, run_underlying ht, MapKept.run_getObj_map h1, K.check w _ hx, h2, MapKept.run_setObj_map _ h1, Result.andThen, setBlock]
    · intro x' y'
      by_cases hxx : x' = x
      · subst hxx
        constructor
        · intro hh
          exact absurd hh (hR1 y')
        · rintro ⟨b, hb, hb1, _⟩
          obtain ⟨hb2, hb3⟩ := (hmem b).1 hb
          exact absurd (same_key hs hb2 ha (hb1.trans ha1.symm)) hb3
      · rw [hR2 x' hxx, hR]
        constructor
        · rintro ⟨b, hb, hb1, hb2⟩
          exact ⟨b, (hmem b).2 ⟨hb, fun e => hxx (by rw [← hb1, e, ha1])⟩, hb1, hb2⟩
        · rintro ⟨b, hb, hb1, hb2⟩
          exact ⟨b, ((hmem b).1 hb).1, hb1, hb2⟩
    · unfold Array.eraseIdxIfInBounds
      rw [dif_pos hjl]
      simp [h5]

/-! A clone. -/
theorem run_clone (h : MapR P k w m R n) (t : TypeId) : ∃ w', (Extern.MapsClone.clone #[.iface t (.map (some m))]).run P w = .ok (.iface t (.map (some w.heap.size))) w' ∧ MapR P k w' w.heap.size R n ∧ Below w.heap.size w w' ∧ w'.heap.size = w.heap.size + 1 := by
  obtain ⟨es, c, h1, hs, hk, hR, h5⟩ := h
  refine ⟨w.alloc (.map es c), ?_, ⟨es, c, heap_alloc_new w _, hs, hk, hR, h5⟩, (Below.refl _ _).alloc (Nat.le_refl _) _, by simp⟩
  have e : Extern.MapsClone.clone #[.iface t (.map (some m))] = (getObj m >>= fun o => match o with
      | .map entries clock => (newObj (.map entries clock) >>= fun n => pure (.iface t (.map (some n))))
      | _ => stuck "maps.clone: a map expected") := rfl
  rw [e]
  simp [MapKept.run_getObj_map h1, Result.andThen]
end
end Go.Proofs.Ytbknmfegckeogaa
