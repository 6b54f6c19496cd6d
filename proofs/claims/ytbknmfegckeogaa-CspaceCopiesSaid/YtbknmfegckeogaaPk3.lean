/- Of the following, one behind the other: Capability tables in plain Lean: what is where, derived from which one, on a forest's nodes; what each act makes of them. No program in sight. -/
import Derived.Test.YtbknmfegckeogaaPk1
import Derived.Test.YtbknmfegckeogaaPk2
/- Capability tables in plain Lean: what is where, derived from which one, on a forest's nodes; what each act makes of them. No program in sight. -/
namespace Go.Proofs.Ytbknmfegckeogaa
set_option linter.unusedVariables false
set_option linter.unusedSimpArgs false

/-- A capability: kind, index, generation, rights. -/
structure Cp where
  k : Int
  i : Int
  n : Int
  r : Int
/-- A capability in a slot: its name, that of the one above it (0: none), its node, where it is, what it is. -/
structure En where
  id : Nat
  up : Nat
  nd : Nat
  g : Int
  s : Int
  c : Cp
/-- Tables: how many goroutines, how many slots, the nodes, what is where, how many came ever. -/
structure Sp where
  gs : Int
  sl : Int
  F : Fo
  L : List En
  came : Nat

def En.isAt (e : En) (g s : Int) : Bool := decide (e.g = g) && decide (e.s = s)
def fnd (L : List En) (g s : Int) : Option En := L.find? fun e => e.isAt g s
def byId (L : List En) (k : Nat) : Option En := L.find? fun e => e.id == k
/-- Are rights among others? -/
def amongI (a b : Int) : Bool := among a.toNat b.toNat
theorem among_trans {a b c : Nat} (h1 : among a b = true) (h2 : among b c = true) : among a c = true := by
  unfold among at *
  rw [List.all_eq_true] at *
  intro k hk
  have e1 := h1 k hk
  have e2 := h2 k hk
  cases h : bitB a k <;> cases h' : bitB b k <;> simp_all
theorem amongI_trans {a b c : Int} (h1 : amongI a b = true) (h2 : amongI b c = true) : amongI a c = true := among_trans h1 h2
/-- May a capability be? -/
def mayC (c : Cp) : Bool := decide (1 ≤ c.k) && decide (c.k ≤ 3) && decide (0 ≤ c.i) && decide (0 < c.n)
/-- It may be, and its rights are rights. -/
def okC (c : Cp) : Prop := mayC c = true ∧ 0 ≤ c.r ∧ c.r < 256
/-- Is there such a slot? -/
def Sp.there (S : Sp) (g s : Int) : Bool := decide (0 ≤ g) && decide (g < S.gs) && decide (0 ≤ s) && decide (s < S.sl)
def Sp.full (S : Sp) (g s : Int) : Int := if S.there g s = true then (if (fnd S.L g s).isSome then 0 else 10) else 9
def Sp.freeE (S : Sp) (g s : Int) : Int := if S.there g s = true then (if (fnd S.L g s).isSome then 14 else 0) else 9

structure J (S : Sp) : Prop where
  wf : WF S.F
  nd : (S.L.map En.nd).Nodup
  thr : ∀ i, S.F.there i = true ↔ ∃ e ∈ S.L, e.nd = i
  idn : (S.L.map En.id).Nodup
  idp : ∀ e ∈ S.L, 0 < e.id ∧ e.id ≤ S.came
  pl : (S.L.map fun e => (e.g, e.s)).Nodup
  rng : ∀ e ∈ S.L, S.there e.g e.s = true
  up : ∀ e ∈ S.L, (e.up = 0 ∧ S.F.par e.nd = -1) ∨ ∃ p ∈ S.L, e.up = p.id ∧ S.F.par e.nd = (p.nd : Int)
  rts : ∀ e ∈ S.L, ∀ p ∈ S.L, e.up = p.id → amongI e.c.r p.c.r = true
  okc : ∀ e ∈ S.L, okC e.c
  lt : ∀ e ∈ S.L, e.up < e.id

theorem map_inj {α β : Type} {f : α → β} : ∀ {L : List α}, (L.map f).Nodup → ∀ {a b : α}, a ∈ L → b ∈ L → f a = f b → a = b
  | [], _, a, b, ha, _, _ => by cases ha
  | x :: L, h, a, b, ha, hb, hf => by
    rw [List.map_cons, List.nodup_cons] at h
    rcases List.mem_cons.1 ha with ha1 | ha1
    · rcases List.mem_cons.1 hb with hb1 | hb1
      · rw [ha1, hb1]
      · exact absurd (by rw [← ha1, hf]; exact List.mem_map_of_mem hb1) h.1
    · rcases List.mem_cons.1 hb with hb1 | hb1
      · exact absurd (by rw [← hb1, ← hf]; exact List.mem_map_of_mem ha1) h.1
      · exact map_inj h.2 ha1 hb1 hf
theorem isAt_iff (e : En) (g s : Int) : e.isAt g s = true ↔ e.g = g ∧ e.s = s := by simp [En.isAt]
theorem fnd_mem {L : List En} {g s : Int} {e : En} (h : fnd L g s = some e) : e ∈ L ∧ e.g = g ∧ e.s = s := by
  unfold fnd at h
  have h2 := List.find?_some h
  exact ⟨List.mem_of_find?_eq_some h, (isAt_iff e g s).1 h2⟩
theorem fnd_none {L : List En} {g s : Int} (h : fnd L g s = none) : ∀ e ∈ L, ¬ (e.g = g ∧ e.s = s) := by
  unfold fnd at h
  rw [List.find?_eq_none] at h
  intro e he hh
  exact h e he ((isAt_iff _ _ _).2 hh)
theorem byId_mem {L : List En} {k : Nat} {e : En} (h : byId L k = some e) : e ∈ L ∧ e.id = k := by
  unfold byId at h
  exact ⟨List.mem_of_find?_eq_some h, by simpa using List.find?_some h⟩
theorem byId_none {L : List En} {k : Nat} (h : byId L k = none) : ∀ e ∈ L, ¬ e.id = k := by
  unfold byId at h
  rw [List.find?_eq_none] at h
  intro e he hh
  exact h e he (by simpa using hh)
section
variable {S : Sp}
theorem J.same_nd (h : J S) {a b : En} (ha : a ∈ S.L) (hb : b ∈ S.L) (e : a.nd = b.nd) : a = b := map_inj h.nd ha hb e
theorem J.same_id (h : J S) {a b : En} (ha : a ∈ S.L) (hb : b ∈ S.L) (e : a.id = b.id) : a = b := map_inj h.idn ha hb e
theorem J.same_pl (h : J S) {a b : En} (ha : a ∈ S.L) (hb : b ∈ S.L) (e1 : a.g = b.g) (e2 : a.s = b.s) : a = b := map_inj h.pl ha hb (by rw [e1, e2])
theorem J.fnd_of (h : J S) {e : En} (he : e ∈ S.L) : fnd S.L e.g e.s = some e := by
  cases hf : fnd S.L e.g e.s with
  | none => exact absurd ⟨rfl, rfl⟩ (fnd_none hf e he)
  | some a =>
    obtain ⟨h1, h2, h3⟩ := fnd_mem hf
    rw [h.same_pl h1 he h2 h3]
theorem J.byId_of (h : J S) {e : En} (he : e ∈ S.L) : byId S.L e.id = some e := by
  cases hf : byId S.L e.id with
  | none => exact absurd rfl (byId_none hf e he)
  | some a =>
    obtain ⟨h1, h2⟩ := byId_mem hf
    rw [h.same_id h1 he h2]
theorem J.there_of (h : J S) {e : En} (he : e ∈ S.L) : S.F.there e.nd = true := (h.thr _).2 ⟨e, he, rfl⟩
theorem J.id0 (h : J S) : byId S.L 0 = none := by
  cases hf : byId S.L 0 with
  | none => rfl
  | some a =>
    obtain ⟨h1, h2⟩ := byId_mem hf
    have := (h.idp a h1).1
    omega
/-- The one above, by the forest. -/
theorem J.par_of (h : J S) {e : En} (he : e ∈ S.L) : (byId S.L e.up = none ∧ S.F.par e.nd = -1) ∨ ∃ p, p ∈ S.L ∧ byId S.L e.up = some p ∧ S.F.par e.nd = (p.nd : Int) := by
  rcases h.up e he with ⟨h1, h2⟩ | ⟨p, hp, h1, h2⟩
  · exact .inl ⟨by rw [h1]; exact h.id0, h2⟩
  · exact .inr ⟨p, hp, by rw [h1]; exact h.byId_of hp, h2⟩
theorem J.count (h : J S) : S.L.length + S.F.free.length = S.F.n := by
  have hp : (S.L.map En.nd ++ S.F.free).Perm (List.range S.F.n) := by
    rw [List.perm_ext_iff_of_nodup]
    · intro i
      rw [List.mem_append, List.mem_range, List.mem_map, h.wf.fr, ← h.thr]
      constructor
      · rintro (hi | hi)
        · exact h.wf.lt i hi
        · exact hi.1
      · intro hi
        cases ht : S.F.there i
        · exact .inr ⟨hi, rfl⟩
        · exact .inl rfl
    · rw [List.nodup_append]
      refine ⟨h.nd, h.wf.fnd, fun a ha b hb e => ?_⟩
      subst e
      have h1 := (h.thr a).2 (List.mem_map.1 ha)
      have h2 := ((h.wf.fr a).1 hb).2
      rw [h1] at h2
      cases h2
    · exact List.nodup_range
  have := hp.length_eq
  simpa using this
theorem J.free_ne (h : J S) (hl : S.L.length < S.F.n) : ∃ x, S.F.free.getLast? = some x := by
  have := h.count
  cases hf : S.F.free.getLast? with
  | some x => exact ⟨x, rfl⟩
  | none =>
    rw [List.getLast?_eq_none_iff] at hf
    rw [hf] at this
    simp at this
    omega
theorem J.free_nil (h : J S) (hl : ¬ S.L.length < S.F.n) : S.F.free = [] := by
  have := h.count
  exact List.length_eq_zero_iff.1 (by omega)
end

/-! One comes. -/
def Sp.put (S : Sp) (up : Nat) (pn : Int) (x : Nat) (g s : Int) (c : Cp) : Sp :=
  { S with F := S.F.add pn x, L := S.L ++ [⟨S.came + 1, up, x, g, s, c⟩], came := S.came + 1 }
theorem J.put {S : Sp} (h : J S) {x : Nat} (hx : S.F.free.getLast? = some x) {up : Nat} {pn : Int} {g s : Int} {c : Cp}
    (hup : (up = 0 ∧ pn = -1) ∨ ∃ p ∈ S.L, up = p.id ∧ pn = (p.nd : Int) ∧ amongI c.r p.c.r = true) (hf : S.freeE g s = 0) (hc : okC c) : J (S.put up pn x g s c) := by
  obtain ⟨hxn, hxt⟩ := (h.wf.fr x).1 (last_mem hx)
  have hnx : ∀ e ∈ S.L, e.nd ≠ x := fun e he hh => by
    have := h.there_of he
    rw [hh, hxt] at this
    cases this
  have hok : S.F.ok pn := by
    rcases hup with ⟨_, e⟩ | ⟨p, hp, _, e, _⟩
    · exact .inl e
    · exact .inr ⟨p.nd, e, h.there_of hp⟩
  have hfr : S.there g s = true ∧ fnd S.L g s = none := by
    unfold Sp.freeE at hf
    split at hf
    · rename_i h1
      split at hf
      · cases hf
      · rename_i h2
        exact ⟨h1, by simpa using h2⟩
    · cases hf
  have hmem : ∀ e, e ∈ (S.put up pn x g s c).L ↔ e ∈ S.L ∨ e = ⟨S.came + 1, up, x, g, s, c⟩ := fun e => by simp [Sp.put]
  refine ⟨h.wf.add hok hx, ?_, fun i => ?_, ?_, fun e he => ?_, ?_, fun e he => ?_, fun e he => ?_, fun e he p hp => ?_, fun e he => ?_, fun e he => ?_⟩
  · show ((S.L ++ [_]).map En.nd).Nodup
    rw [List.map_append, List.nodup_append]
    refine ⟨h.nd, by simp, fun a ha b hb => ?_⟩
    obtain ⟨e, he, rfl⟩ := List.mem_map.1 ha
    simp at hb
    subst hb
    exact hnx e he
  · show (if i = x then true else S.F.there i) = true ↔ _
    simp only [hmem]
    by_cases hi : i = x
    · subst hi
      simp only [if_true, true_iff]
      exact ⟨_, .inr rfl, rfl⟩
    · rw [if_neg hi, h.thr]
      constructor
      · rintro ⟨e, he, rfl⟩
        exact ⟨e, .inl he, rfl⟩
      · rintro ⟨e, he | rfl, h2⟩
        · exact ⟨e, he, h2⟩
        · exact absurd h2.symm hi
  · show ((S.L ++ [_]).map En.id).Nodup
    rw [List.map_append, List.nodup_append]
    refine ⟨h.idn, by simp, fun a ha b hb => ?_⟩
    obtain ⟨e, he, rfl⟩ := List.mem_map.1 ha
    simp at hb
    subst hb
    have := (h.idp e he).2
    omega
  · show 0 < e.id ∧ e.id ≤ S.came + 1
    rcases (hmem e).1 he with he | rfl
    · have := h.idp e he
      omega
    · exact ⟨Nat.succ_pos _, Nat.le_refl _⟩
  · show ((S.L ++ [_]).map fun e : En => (e.g, e.s)).Nodup
    rw [List.map_append, List.nodup_append]
    refine ⟨h.pl, by simp, fun a ha b hb => ?_⟩
    obtain ⟨e, he, rfl⟩ := List.mem_map.1 ha
    simp at hb
    subst hb
    intro hh
    injection hh with h1 h2
    exact fnd_none hfr.2 e he ⟨h1, h2⟩
  · rcases (hmem e).1 he with he | rfl
    · exact h.rng e he
    · exact hfr.1
  · show (e.up = 0 ∧ (if e.nd = x then pn else S.F.par e.nd) = -1) ∨ ∃ p ∈ (S.put up pn x g s c).L, e.up = p.id ∧ (if e.nd = x then pn else S.F.par e.nd) = (p.nd : Int)
    rcases (hmem e).1 he with he | rfl
    · rw [if_neg (hnx e he)]
      rcases h.up e he with h1 | ⟨p, hp, h1⟩
      · exact .inl h1
      · exact .inr ⟨p, (hmem p).2 (.inl hp), h1⟩
    · rw [if_pos rfl]
      rcases hup with h1 | ⟨p, hp, h1, h2, _⟩
      · exact .inl h1
      · exact .inr ⟨p, (hmem p).2 (.inl hp), h1, h2⟩
  · intro hep
    have upo : ∀ e ∈ S.L, e.up ≤ S.came := fun e he => by
      rcases h.up e he with ⟨h1, _⟩ | ⟨p, hp, h1, _⟩
      · omega
      · have := (h.idp p hp).2
        omega
    rcases (hmem p).1 hp with hp | rfl
    · rcases (hmem e).1 he with he | rfl
      · exact h.rts e he p hp hep
      · rcases hup with ⟨h1, _⟩ | ⟨q, hq, h1, _, h3⟩
        · have := (h.idp p hp).1
          simp only at hep
          omega
        · have : q = p := h.same_id hq hp (h1.symm.trans hep)
          subst this
          exact h3
    · rcases (hmem e).1 he with he | rfl
      · have := upo e he
        simp only at hep
        omega
      · simp only at hep
        rcases hup with ⟨h1, _⟩ | ⟨q, hq, h1, _, h3⟩
        · omega
        · have := (h.idp q hq).2
          omega
  · rcases (hmem e).1 he with he | rfl
    · exact h.okc e he
    · exact hc
  · rcases (hmem e).1 he with he | rfl
    · exact h.lt e he
    · show up < S.came + 1
      rcases hup with ⟨h1, _⟩ | ⟨q, hq, h1, _⟩
      · omega
      · have := (h.idp q hq).2
        omega

/-! One moves. -/
def Sp.move (S : Sp) (g s to : Int) : Sp := { S with L := S.L.map fun e => if e.isAt g s = true then { e with s := to } else e }
theorem map_field {α β : Type} {f : α → β} {m : α → α} (hm : ∀ a, f (m a) = f a) (L : List α) : (L.map m).map f = L.map f := by
  rw [List.map_map]
  exact List.map_congr_left fun a _ => hm a
theorem J.move {S : Sp} (h : J S) {g s to : Int} (hf : S.freeE g to = 0) : J (S.move g s to) := by
  have hfr : S.there g to = true ∧ fnd S.L g to = none := by
    unfold Sp.freeE at hf
    split at hf
    · rename_i h1
      split at hf
      · cases hf
      · rename_i h2
        exact ⟨h1, by simpa using h2⟩
    · cases hf
  let m : En → En := fun e => if e.isAt g s = true then { e with s := to } else e
  have m1 : ∀ e, (m e).id = e.id := fun e => by simp only [m]; split <;> rfl
  have m2 : ∀ e, (m e).up = e.up := fun e => by simp only [m]; split <;> rfl
  have m3 : ∀ e, (m e).nd = e.nd := fun e => by simp only [m]; split <;> rfl
  have m4 : ∀ e, (m e).g = e.g := fun e => by simp only [m]; split <;> rfl
  have m5 : ∀ e, (m e).c = e.c := fun e => by simp only [m]; split <;> rfl
  have hmem : ∀ e, e ∈ (S.move g s to).L ↔ ∃ a ∈ S.L, m a = e := fun e => List.mem_map
  refine ⟨h.wf, ?_, fun i => ?_, ?_, fun e he => ?_, ?_, fun e he => ?_, fun e he => ?_, fun e he p hp => ?_, fun e he => ?_, fun e he => ?_⟩
  · show ((S.L.map m).map En.nd).Nodup
    rw [map_field m3]
    exact h.nd
  · show S.F.there i = true ↔ _
    rw [h.thr]
    constructor
    · rintro ⟨e, he, rfl⟩
      exact ⟨m e, (hmem _).2 ⟨e, he, rfl⟩, m3 e⟩
    · rintro ⟨e, he, rfl⟩
      obtain ⟨a, ha, rfl⟩ := (hmem _).1 he
      exact ⟨a, ha, (m3 a).symm⟩
  · show ((S.L.map m).map En.id).Nodup
    rw [map_field m1]
    exact h.idn
  · obtain ⟨a, ha, rfl⟩ := (hmem _).1 he
    rw [m1]
    exact h.idp a ha
  · show ((S.L.map m).map fun e : En => (e.g, e.s)).Nodup
    rw [List.map_map]
    have hn := h.pl
    have hL : ∀ e ∈ S.L, ¬ (e.g = g ∧ e.s = to) := fnd_none hfr.2
    clear hmem
    revert hn hL
    generalize S.L = L
    intro hn hL
    induction L with
    | nil => simp
    | cons a L ih =>
      rw [List.map_cons, List.nodup_cons] at hn ⊢
      refine ⟨?_, ih hn.2 fun e he => hL e (List.mem_cons_of_mem _ he)⟩
      intro hm
      obtain ⟨b, hb, hab⟩ := List.mem_map.1 hm
      simp only [Function.comp, m] at hab
      by_cases ha : a.isAt g s = true
      · rw [if_pos ha] at hab
        have ha' := (isAt_iff _ _ _).1 ha
        by_cases hb' : b.isAt g s = true
        · have hb'' := (isAt_iff _ _ _).1 hb'
          exact hn.1 (List.mem_map.2 ⟨b, hb, by rw [ha'.1, ha'.2, hb''.1, hb''.2]⟩)
        · rw [if_neg hb'] at hab
          injection hab with h1 h2
          simp only at h1 h2
          exact hL b (List.mem_cons_of_mem _ hb) ⟨by rw [h1, ha'.1], h2⟩
      · rw [if_neg ha] at hab
        by_cases hb' : b.isAt g s = true
        · have hb'' := (isAt_iff _ _ _).1 hb'
          rw [if_pos hb'] at hab
          injection hab with h1 h2
          simp only at h1 h2
          exact hL a (List.mem_cons_self ..) ⟨by rw [← h1, hb''.1], h2.symm⟩
        · rw [if_neg hb'] at hab
          exact hn.1 (List.mem_map.2 ⟨b, hb, hab⟩)
  · obtain ⟨a, ha, rfl⟩ := (hmem _).1 he
    have hr := h.rng a ha
    show S.there (m a).g (m a).s = true
    by_cases hat : a.isAt g s = true
    · have e1 : m a = { a with s := to } := if_pos hat
      rw [e1]
      have := ((isAt_iff _ _ _).1 hat).1
      show S.there a.g to = true
      rw [this]
      exact hfr.1
    · have e1 : m a = a := if_neg hat
      rw [e1]
      exact hr
  · obtain ⟨a, ha, rfl⟩ := (hmem _).1 he
    rw [m2, m3]
    rcases h.up a ha with h1 | ⟨p, hp, h1, h2⟩
    · exact .inl h1
    · exact .inr ⟨m p, (hmem _).2 ⟨p, hp, rfl⟩, by rw [m1]; exact h1, by rw [m3]; exact h2⟩
  · obtain ⟨a, ha, rfl⟩ := (hmem _).1 he
    obtain ⟨b, hb, rfl⟩ := (hmem _).1 hp
    rw [m2, m1, m5, m5]
    exact h.rts a ha b hb
  · obtain ⟨a, ha, rfl⟩ := (hmem _).1 he
    rw [m5]
    exact h.okc a ha
  · obtain ⟨a, ha, rfl⟩ := (hmem _).1 he
    rw [m1, m2]
    exact h.lt a ha

/-! One goes; what was derived from it is derived from the one above it. -/
def Sp.del (S : Sp) (x : En) : Sp := { S with F := S.F.drop x.nd, L := (S.L.filter fun e => !(e.id == x.id)).map fun y => if y.up = x.id then { y with up := x.up } else y }
theorem J.del {S : Sp} (h : J S) {x : En} (hx : x ∈ S.L) : J (S.del x) := by
  let m : En → En := fun y => if y.up = x.id then { y with up := x.up } else y
  have m1 : ∀ e, (m e).id = e.id := fun e => by simp only [m]; split <;> rfl
  have m3 : ∀ e, (m e).nd = e.nd := fun e => by simp only [m]; split <;> rfl
  have m4 : ∀ e, (m e).g = e.g := fun e => by simp only [m]; split <;> rfl
  have m5 : ∀ e, (m e).c = e.c := fun e => by simp only [m]; split <;> rfl
  have m6 : ∀ e, (m e).s = e.s := fun e => by simp only [m]; split <;> rfl
  have hmem : ∀ e, e ∈ (S.del x).L ↔ ∃ a, (a ∈ S.L ∧ a.id ≠ x.id) ∧ m a = e := fun e => by
    show e ∈ List.map m _ ↔ _
    rw [List.mem_map]
    simp only [List.mem_filter, Bool.not_eq_true', beq_eq_false_iff_ne]
  have hne : ∀ a ∈ S.L, a.id ≠ x.id → a.nd ≠ x.nd := fun a ha hh e => hh (by rw [h.same_nd ha hx e])
  have hsub : List.Sublist (S.L.filter fun e => !(e.id == x.id)) S.L := List.filter_sublist
  have hself : ∀ a ∈ S.L, a.up ≠ a.id := fun a ha e => by
    rcases h.up a ha with ⟨h1, _⟩ | ⟨p, hp, h1, h2⟩
    · have := (h.idp a ha).1
      omega
    · have : p = a := h.same_id hp ha (h1.symm.trans e)
      subst this
      exact h.wf.not_self (h.there_of hp) h2
  refine ⟨h.wf.drop (h.there_of hx), ?_, fun i => ?_, ?_, fun e he => ?_, ?_, fun e he => ?_, fun e he => ?_, fun e he p hp => ?_, fun e he => ?_, fun e he => ?_⟩
  · show ((List.map m _).map En.nd).Nodup
    rw [map_field m3]
    exact h.nd.sublist (hsub.map _)
  · show (S.F.drop x.nd).there i = true ↔ _
    rw [drop_there, h.thr]
    constructor
    · rintro ⟨⟨e, he, rfl⟩, hi⟩
      exact ⟨m e, (hmem _).2 ⟨e, ⟨he, fun hh => hi (by rw [h.same_id he hx hh])⟩, rfl⟩, m3 e⟩
    · rintro ⟨e, he, rfl⟩
      obtain ⟨a, ⟨ha, hh⟩, rfl⟩ := (hmem _).1 he
      exact ⟨⟨a, ha, (m3 a).symm⟩, by rw [m3]; exact hne a ha hh⟩
  · show ((List.map m _).map En.id).Nodup
    rw [map_field m1]
    exact h.idn.sublist (hsub.map _)
  · obtain ⟨a, ⟨ha, hh⟩, rfl⟩ := (hmem _).1 he
    rw [m1]
    exact h.idp a ha
  · show ((List.map m _).map fun e : En => (e.g, e.s)).Nodup
    rw [map_field (f := fun e : En => (e.g, e.s)) (fun a => by rw [m4, m6])]
    exact h.pl.sublist (hsub.map _)
  · obtain ⟨a, ⟨ha, hh⟩, rfl⟩ := (hmem _).1 he
    rw [m4, m6]
    exact h.rng a ha
  · obtain ⟨a, ⟨ha, hh⟩, rfl⟩ := (hmem _).1 he
    rw [m3]
    show _ ∨ ∃ p ∈ (S.del x).L, (m a).up = p.id ∧ (S.F.drop x.nd).par a.nd = (p.nd : Int)
    have hp0 : (S.del x).F.par a.nd = skipP S.F x.nd (S.F.par a.nd) := drop_par (h.there_of ha)
    have hp1 : (S.F.drop x.nd).par a.nd = skipP S.F x.nd (S.F.par a.nd) := hp0
    rw [hp0, hp1]
    unfold skipP
    by_cases hax : a.up = x.id
    · have e1 : m a = { a with up := x.up } := if_pos hax
      have e2 : S.F.par a.nd = (x.nd : Int) := by
        rcases h.up a ha with ⟨h1, _⟩ | ⟨p, hp, h1, h2⟩
        · have := (h.idp x hx).1
          omega
        · rw [h2, h.same_id hp hx (h1.symm.trans hax)]
      rw [if_pos e2, e1]
      rcases h.up x hx with h1 | ⟨p, hp, h1, h2⟩
      · exact .inl h1
      · have hpx : p.id ≠ x.id := fun e => hself x hx (by rw [h1, e])
        exact .inr ⟨m p, (hmem _).2 ⟨p, ⟨hp, hpx⟩, rfl⟩, by rw [m1]; exact h1, by rw [m3]; exact h2⟩
    · have e1 : m a = a := if_neg hax
      rw [e1]
      rcases h.up a ha with ⟨h1, h2⟩ | ⟨p, hp, h1, h2⟩
      · rw [if_neg (by omega)]
        exact .inl ⟨h1, h2⟩
      · have hpx : p.id ≠ x.id := fun e => hax (by rw [h1, e])
        have hpn := hne p hp hpx
        rw [if_neg (by omega)]
        exact .inr ⟨m p, (hmem _).2 ⟨p, ⟨hp, hpx⟩, rfl⟩, by rw [m1]; exact h1, by rw [m3]; exact h2⟩
  · obtain ⟨a, ⟨ha, hh⟩, rfl⟩ := (hmem _).1 he
    obtain ⟨b, ⟨hb, hh'⟩, rfl⟩ := (hmem _).1 hp
    rw [m1, m5, m5]
    intro hep
    by_cases hax : a.up = x.id
    · have e1 : m a = { a with up := x.up } := if_pos hax
      rw [e1] at hep
      exact amongI_trans (h.rts a ha x hx hax) (h.rts x hx b hb hep)
    · have e1 : m a = a := if_neg hax
      rw [e1] at hep
      exact h.rts a ha b hb hep
  · obtain ⟨a, ⟨ha, hh⟩, rfl⟩ := (hmem _).1 he
    rw [m5]
    exact h.okc a ha
  · obtain ⟨a, ⟨ha, hh⟩, rfl⟩ := (hmem _).1 he
    rw [m1]
    by_cases hax : a.up = x.id
    · have e1 : m a = { a with up := x.up } := if_pos hax
      rw [e1]
      have h1 := h.lt a ha
      have h2 := h.lt x hx
      show x.up < a.id
      omega
    · have e1 : m a = a := if_neg hax
      rw [e1]
      exact h.lt a ha

/-! All that were derived from one go. -/
def Sp.rev (S : Sp) (x : En) (ds : List Nat) : Sp := { S with F := S.F.prune x.nd ds, L := S.L.filter fun e => !(ds.contains e.nd) }
theorem J.rev {S : Sp} (h : J S) {x : En} (hx : x ∈ S.L) {ds : List Nat} (hd : Flat S.F (S.F.kids (x.nd : Int)) ds) : J (S.rev x ds) := by
  have hmem : ∀ e, e ∈ (S.rev x ds).L ↔ e ∈ S.L ∧ e.nd ∉ ds := fun e => by
    show e ∈ List.filter _ _ ↔ _
    rw [List.mem_filter]
    simp
  have hsub : List.Sublist (S.rev x ds).L S.L := List.filter_sublist
  have hmd := fun y => desc_mem h.wf hd y
  refine ⟨h.wf.prune (h.there_of hx) hd, h.nd.sublist (hsub.map _), fun i => ?_, h.idn.sublist (hsub.map _), fun e he => h.idp e ((hmem e).1 he).1, h.pl.sublist (hsub.map _), fun e he => h.rng e ((hmem e).1 he).1, fun e he => ?_, fun e he p hp => h.rts e ((hmem e).1 he).1 p ((hmem p).1 hp).1, fun e he => h.okc e ((hmem e).1 he).1, fun e he => h.lt e ((hmem e).1 he).1⟩
  · show (S.F.there i && !(ds.contains i)) = true ↔ _
    rw [Bool.and_eq_true, h.thr]
    constructor
    · rintro ⟨⟨e, he, rfl⟩, hi⟩
      exact ⟨e, (hmem e).2 ⟨he, by simpa using hi⟩, rfl⟩
    · rintro ⟨e, he, rfl⟩
      obtain ⟨h1, h2⟩ := (hmem e).1 he
      exact ⟨⟨e, h1, rfl⟩, by simpa using h2⟩
  · obtain ⟨h1, h2⟩ := (hmem e).1 he
    show (e.up = 0 ∧ S.F.par e.nd = -1) ∨ ∃ p ∈ (S.rev x ds).L, e.up = p.id ∧ S.F.par e.nd = (p.nd : Int)
    rcases h.up e h1 with h3 | ⟨p, hp, h3, h4⟩
    · exact .inl h3
    · refine .inr ⟨p, (hmem p).2 ⟨hp, fun hpd => h2 ?_⟩, h3, h4⟩
      rw [hmd] at hpd ⊢
      exact .up (h.there_of h1) h4 hpd
/-- How many went. -/
theorem J.gone {S : Sp} (h : J S) {x : En} (hx : x ∈ S.L) {ds : List Nat} (hd : Flat S.F (S.F.kids (x.nd : Int)) ds) : (S.rev x ds).L.length + ds.length = S.L.length := by
  have h1 := h.count
  have h2 := (h.rev hx hd).count
  have h3 : (S.rev x ds).F.free.length = S.F.free.length + ds.length := by
    show (S.F.free ++ ds).length = _
    rw [List.length_append]
  have h4 : (S.rev x ds).F.n = S.F.n := rfl
  omega

/-! Who is above whom, by names. -/
def abvR (L : List En) (id : Nat) : Nat → En → Bool
  | 0, _ => false
  | f + 1, x => if x.up = 0 then false else if x.up = id then true else abvR L id f ((byId L x.up).getD x)
def Sp.abv (S : Sp) (id : Nat) (x : En) : Bool := abvR S.L id (S.L.length + 1) x
theorem filter_len_lt {α : Type} {p q : α → Bool} {L : List α} {a : α} (ha : a ∈ L) (hpq : ∀ b, p b = true → q b = true) (hp : p a = false) (hq : q a = true) : (L.filter p).length < (L.filter q).length := by
  induction L with
  | nil => cases ha
  | cons b L ih =>
    have hle : (L.filter p).length ≤ (L.filter q).length := by
      clear ih ha
      induction L with
      | nil => simp
      | cons c L ih =>
        simp only [List.filter_cons]
        cases h1 : p c
        · cases h2 : q c <;> simp <;> omega
        · rw [hpq c h1]
          simp
          omega
    simp only [List.filter_cons]
    rcases List.mem_cons.1 ha with rfl | ha
    · rw [hp, hq]
      simp
      omega
    · have := ih ha
      cases h1 : p b
      · cases h2 : q b <;> simp <;> omega
      · rw [hpq b h1]
        simp
        omega
theorem abvR_iff {S : Sp} (h : J S) {p : En} (hp : p ∈ S.L) : ∀ (f : Nat) (e : En), e ∈ S.L → (S.L.filter fun y => decide (y.id < e.id)).length < f → (abvR S.L p.id f e = true ↔ Above S.F p.nd e.nd)
  | 0, e, he, hf => by omega
  | f + 1, e, he, hf => by
    unfold abvR
    rcases h.up e he with ⟨h1, h2⟩ | ⟨q, hq, h1, h2⟩
    · rw [if_pos h1]
      simp only [Bool.false_eq_true, false_iff]
      intro hA
      cases hA with
      | kid _ k2 => omega
      | up _ k2 _ => omega
    · have hq0 := (h.idp q hq).1
      rw [if_neg (by omega)]
      by_cases hqp : q.id = p.id
      · have : q = p := h.same_id hq hp hqp
        subst this
        rw [if_pos h1]
        simp only [true_iff]
        exact .kid (h.there_of he) h2
      · rw [if_neg (by omega), h1, h.byId_of hq]
        simp only [Option.getD_some]
        have hqe : q.id < e.id := by have := h.lt e he; omega
        have hl := filter_len_lt (p := fun y => decide (y.id < q.id)) (q := fun y => decide (y.id < e.id)) hq (fun b hb => by simp at hb ⊢; omega) (by simp) (by simpa using hqe)
        rw [abvR_iff h hp f q hq (by omega)]
        constructor
        · exact fun hA => .up (h.there_of he) h2 hA
        · intro hA
          cases hA with
          | kid _ k2 =>
            have : q.nd = p.nd := by omega
            exact absurd (by rw [h.same_nd hq hp this]) hqp
          | @up i k _ k2 k3 =>
            have : k = q.nd := by omega
            exact this ▸ k3
theorem J.abv {S : Sp} (h : J S) {p e : En} (hp : p ∈ S.L) (he : e ∈ S.L) : S.abv p.id e = true ↔ Above S.F p.nd e.nd :=
  abvR_iff h hp _ e he (by have := List.length_filter_le (fun y : En => decide (y.id < e.id)) S.L; omega)
end Go.Proofs.Ytbknmfegckeogaa
