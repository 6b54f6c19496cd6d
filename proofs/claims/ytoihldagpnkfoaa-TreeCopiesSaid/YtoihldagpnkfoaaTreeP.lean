/- Forests in plain Lean: who is whose parent, rows of children, free places; preorder; what Add, Drop, Prune do. No program in sight. -/
import Derived.WalkKit
import Derived.Lib.Hide
namespace Go.Proofs.Ytoihldagpnkfoaa
set_option linter.unusedVariables false

/-- The first of a row, or none. -/
def hd : List Nat → Int
  | [] => -1
  | x :: _ => (x : Int)
/-- The last of a row, or, of none, another one. -/
def lastOr (a : Int) : List Nat → Int
  | [] => a
  | x :: r => lastOr (x : Int) r
/-- Who comes behind one in a row. -/
def nxt (i : Nat) : List Nat → Int
  | [] => -1
  | x :: r => if x = i then hd r else nxt i r
/-- Who comes ahead of one in a row, behind another one. -/
def prvF (a : Int) (i : Nat) : List Nat → Int
  | [] => -1
  | x :: r => if x = i then a else prvF (x : Int) i r
def prv (i : Nat) (l : List Nat) : Int := prvF (-1) i l

theorem lastOr_append (a : Int) (l r : List Nat) : lastOr a (l ++ r) = lastOr (lastOr a l) r := by
  induction l generalizing a with
  | nil => rfl
  | cons x l ih => exact ih _
theorem lastOr_snoc (a : Int) (l : List Nat) (x : Nat) : lastOr a (l ++ [x]) = x := by rw [lastOr_append]; rfl
theorem hd_append (l r : List Nat) : hd (l ++ r) = if l = [] then hd r else hd l := by
  cases l <;> simp [hd]
theorem nxt_append_left {i : Nat} : ∀ {l : List Nat} (r : List Nat), i ∉ l → nxt i (l ++ r) = nxt i r
  | [], r, _ => rfl
  | x :: l, r, h => by
    have h1 : x ≠ i := fun e => h (by simp [e])
    have h2 : i ∉ l := fun e => h (by simp [e])
    simp only [List.cons_append, nxt, if_neg h1]
    exact nxt_append_left r h2
theorem nxt_at {i : Nat} {l : List Nat} (r : List Nat) (h : i ∉ l) : nxt i (l ++ i :: r) = hd r := by
  rw [nxt_append_left _ h]
  simp [nxt]
theorem prvF_append_left {i : Nat} : ∀ {l : List Nat} (a : Int) (r : List Nat), i ∉ l → prvF a i (l ++ r) = prvF (lastOr a l) i r
  | [], a, r, _ => rfl
  | x :: l, a, r, h => by
    have h1 : x ≠ i := fun e => h (by simp [e])
    have h2 : i ∉ l := fun e => h (by simp [e])
    simp only [List.cons_append, prvF, if_neg h1, lastOr]
    exact prvF_append_left _ r h2
theorem prv_at {i : Nat} {l : List Nat} (r : List Nat) (h : i ∉ l) : prv i (l ++ i :: r) = lastOr (-1) l := by
  unfold prv
  rw [prvF_append_left _ _ h]
  simp [prvF]
theorem split_at {i : Nat} {l : List Nat} (h : i ∈ l) (hn : l.Nodup) : ∃ a b, l = a ++ i :: b ∧ i ∉ a ∧ i ∉ b := by
  obtain ⟨a, b, rfl⟩ := List.append_of_mem h
  rw [List.nodup_append] at hn
  refine ⟨a, b, rfl, fun ha => hn.2.2 i ha i (by simp) rfl, ?_⟩
  have := hn.2.1
  rw [List.nodup_cons] at this
  exact this.1
theorem prvF_mem_tail {i : Nat} : ∀ {l : List Nat} (a b : Int), i ∈ l → l.head? ≠ some i → prvF a i l = prvF b i l
  | [], a, b, h, _ => by simp at h
  | x :: l, a, b, h, hh => by
    have hx : x ≠ i := fun e => hh (by simp [e])
    simp [prvF, hx]

/-- A forest. -/
structure Fo where
  n : Nat
  there : Nat → Bool
  par : Nat → Int
  kids : Int → List Nat
  free : List Nat

structure WF (F : Fo) : Prop where
  kin : ∀ p i, i ∈ F.kids p ↔ (F.there i = true ∧ F.par i = p)
  nd : ∀ p, (F.kids p).Nodup
  up : ∀ i, F.there i = true → F.par i = -1 ∨ ∃ j : Nat, F.par i = (j : Int) ∧ F.there j = true
  lt : ∀ i, F.there i = true → i < F.n
  fr : ∀ i, i ∈ F.free ↔ (i < F.n ∧ F.there i = false)
  fnd : F.free.Nodup
  ht : ∃ h : Nat → Nat, ∀ i j : Nat, F.there i = true → F.par i = (j : Int) → h i < h j

theorem WF.kids_nil {F : Fo} (h : WF F) {j : Nat} (hj : F.there j = false) : F.kids (j : Int) = [] := by
  apply List.eq_nil_iff_forall_not_mem.2
  intro i hi
  obtain ⟨h1, h2⟩ := (h.kin _ _).1 hi
  rcases h.up i h1 with e | ⟨k, e, hk⟩
  · omega
  · have : k = j := by omega
    subst this
    rw [hj] at hk
    cases hk
theorem WF.kids_low {F : Fo} (h : WF F) {p : Int} (hp : p < -1) : F.kids p = [] := by
  apply List.eq_nil_iff_forall_not_mem.2
  intro i hi
  obtain ⟨h1, h2⟩ := (h.kin _ _).1 hi
  rcases h.up i h1 with e | ⟨k, e, hk⟩ <;> omega
theorem WF.kid_lt {F : Fo} (h : WF F) {p : Int} {i : Nat} (hi : i ∈ F.kids p) : i < F.n := h.lt i ((h.kin p i).1 hi).1
theorem WF.not_self {F : Fo} (h : WF F) {i : Nat} (hi : F.there i = true) : F.par i ≠ (i : Int) := fun e => by
  obtain ⟨g, hg⟩ := h.ht
  have := hg i i hi e
  omega

/-- Preorder. -/
inductive Flat (F : Fo) : List Nat → List Nat → Prop
  | nil : Flat F [] []
  | cons {i : Nat} {r a b : List Nat} : Flat F (F.kids (i : Int)) a → Flat F r b → Flat F (i :: r) (i :: (a ++ b))

theorem Flat.uniq {F : Fo} {l a b : List Nat} (h : Flat F l a) : Flat F l b → a = b := by
  induction h generalizing b with
  | nil => intro k; cases k; rfl
  | cons h1 h2 ih1 ih2 =>
    intro k
    cases k with
    | cons k1 k2 => rw [ih1 k1, ih2 k2]
theorem Flat.append {F : Fo} {l a r b : List Nat} (h : Flat F l a) (k : Flat F r b) : Flat F (l ++ r) (a ++ b) := by
  induction h with
  | nil => exact k
  | cons h1 h2 ih1 ih2 =>
    have := Flat.cons h1 ih2
    simpa [List.append_assoc] using this
theorem flat_ex {F : Fo} (h : WF F) (l : List Nat) (hl : ∀ i ∈ l, F.there i = true) : ∃ a, Flat F l a := by
  obtain ⟨g, hg⟩ := h.ht
  have key : ∀ (m : Nat) (l : List Nat), (∀ i ∈ l, F.there i = true ∧ g i < m) → ∃ a, Flat F l a := by
    intro m
    induction m with
    | zero =>
      intro l hl
      cases l with
      | nil => exact ⟨[], .nil⟩
      | cons x l => have := (hl x (by simp)).2; omega
    | succ m ih =>
      intro l
      induction l with
      | nil => intro _; exact ⟨[], .nil⟩
      | cons x l ihl =>
        intro hl
        obtain ⟨b, hb⟩ := ihl fun i hi => hl i (by simp [hi])
        obtain ⟨a, ha⟩ := ih (F.kids (x : Int)) fun i hi => by
          obtain ⟨h1, h2⟩ := (h.kin _ _).1 hi
          have h3 := hg i x h1 h2
          have h4 := (hl x (by simp)).2
          exact ⟨h1, by omega⟩
        exact ⟨_, .cons ha hb⟩
  have hb : ∃ m, ∀ i ∈ l, g i < m := by
    clear hl
    induction l with
    | nil => exact ⟨0, by simp⟩
    | cons x l ih =>
      obtain ⟨m, hm⟩ := ih
      exact ⟨max m (g x + 1), fun i hi => by
        rcases List.mem_cons.1 hi with rfl | hi
        · omega
        · have := hm i hi; omega⟩
  obtain ⟨m, hm⟩ := hb
  exact key m l fun i hi => ⟨hl i hi, hm i hi⟩

/-- Is the one above the other one? -/
inductive Above (F : Fo) (j : Nat) : Nat → Prop
  | kid {i : Nat} : F.there i = true → F.par i = (j : Int) → Above F j i
  | up {i k : Nat} : F.there i = true → F.par i = (k : Int) → Above F j k → Above F j i

theorem Above.there {F : Fo} {j i : Nat} (h : Above F j i) : F.there i = true := by cases h <;> assumption
theorem Above.trans {F : Fo} {a b c : Nat} (h : Above F b c) (k : Above F a b) : Above F a c := by
  induction h with
  | kid h1 h2 => exact .up h1 h2 k
  | up h1 h2 _ ih => exact .up h1 h2 ih
theorem above_ht {F : Fo} {j i : Nat} (h : Above F j i) {g : Nat → Nat} (hg : ∀ i j : Nat, F.there i = true → F.par i = (j : Int) → g i < g j) : g i < g j := by
  induction h with
  | kid h1 h2 => exact hg _ _ h1 h2
  | up h1 h2 _ ih => have := hg _ _ h1 h2; omega

theorem Flat.mem {F : Fo} (hF : WF F) {l a : List Nat} (h : Flat F l a) : ∀ x, x ∈ a ↔ (x ∈ l ∨ ∃ y ∈ l, Above F y x) := by
  induction h with
  | nil => intro x; simp
  | @cons i r a b h1 h2 ih1 ih2 =>
    intro x
    simp only [List.mem_cons, List.mem_append]
    rw [ih1, ih2]
    constructor
    · rintro (rfl | (hx | ⟨y, hy, hyx⟩) | (hx | ⟨y, hy, hyx⟩))
      · exact .inl (.inl rfl)
      · obtain ⟨k1, k2⟩ := (hF.kin _ _).1 hx
        exact .inr ⟨i, .inl rfl, .kid k1 k2⟩
      · obtain ⟨k1, k2⟩ := (hF.kin _ _).1 hy
        exact .inr ⟨i, .inl rfl, hyx.trans (.kid k1 k2)⟩
      · exact .inl (.inr hx)
      · exact .inr ⟨y, .inr hy, hyx⟩
    · rintro ((rfl | hx) | ⟨y, (rfl | hy), hyx⟩)
      · exact .inl rfl
      · exact .inr (.inr (.inl hx))
      · refine .inr (.inl ?_)
        have hk : ∀ {x}, Above F y x → x ∈ F.kids (y : Int) ∨ ∃ z ∈ F.kids (y : Int), Above F z x := by
          intro x hh
          induction hh with
          | kid k1 k2 => exact .inl ((hF.kin _ _).2 ⟨k1, k2⟩)
          | @up u v k1 k2 k3 ih =>
            rcases ih with hv | ⟨z, hz, hzv⟩
            · exact .inr ⟨v, hv, .kid k1 k2⟩
            · exact .inr ⟨z, hz, .up k1 k2 hzv⟩
        exact hk hyx
      · exact .inr (.inr (.inr ⟨y, hy, hyx⟩))

/-- Who are a node's descendants: they are those that it is above of. -/
theorem desc_mem {F : Fo} (hF : WF F) {j : Nat} {a : List Nat} (h : Flat F (F.kids (j : Int)) a) (x : Nat) : x ∈ a ↔ Above F j x := by
  rw [h.mem hF]
  constructor
  · rintro (hx | ⟨y, hy, hyx⟩)
    · obtain ⟨k1, k2⟩ := (hF.kin _ _).1 hx
      exact .kid k1 k2
    · obtain ⟨k1, k2⟩ := (hF.kin _ _).1 hy
      exact hyx.trans (.kid k1 k2)
  · intro hh
    induction hh with
    | kid k1 k2 => exact .inl ((hF.kin _ _).2 ⟨k1, k2⟩)
    | @up u v k1 k2 k3 ih =>
      rcases ih with hv | ⟨z, hz, hzv⟩
      · exact .inr ⟨v, hv, .kid k1 k2⟩
      · exact .inr ⟨z, hz, .up k1 k2 hzv⟩
end Go.Proofs.Ytoihldagpnkfoaa
