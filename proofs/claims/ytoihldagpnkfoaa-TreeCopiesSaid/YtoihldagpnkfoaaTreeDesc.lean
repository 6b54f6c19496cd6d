/- The walk in preorder with links alone, plain: what is still to come at a place. No program in sight. -/
import Derived.Test.YtoihldagpnkfoaaTreeU
namespace Go.Proofs.Ytoihldagpnkfoaa
set_option linter.unusedVariables false
set_option linter.unusedSimpArgs false

/-- What comes behind all that is under i, in the walk over what is under x. -/
inductive After (F : Fo) (x : Nat) : Nat → List Nat → Prop
  | top : After F x x []
  | up {i j : Nat} {pre s a b : List Nat} : i ≠ x → F.there i = true → F.there j = true → F.par i = (j : Int) → F.kids (j : Int) = pre ++ i :: s → Flat F s a → After F x j b → After F x i (a ++ b)

theorem flat_cons {F : Fo} {k : Nat} {s a : List Nat} (h : Flat F (k :: s) a) : ∃ c d, a = k :: (c ++ d) ∧ Flat F (F.kids (k : Int)) c ∧ Flat F s d := by
  cases h with
  | cons h1 h2 => exact ⟨_, _, rfl, h1, h2⟩
theorem flat_nil {F : Fo} {a : List Nat} (h : Flat F [] a) : a = [] := by
  cases h
  rfl

/-- The walk stands at a place, all ahead of what is under it printed: the rest is t. -/
def At (F : Fo) (x i : Nat) (t : List Nat) : Prop := F.there i = true ∧ ∃ a b, Flat F (F.kids (i : Int)) a ∧ After F x i b ∧ t = a ++ b

theorem at_start {F : Fo} {x : Nat} (hx : F.there x = true) {a : List Nat} (h : Flat F (F.kids (x : Int)) a) : At F x x a := ⟨hx, a, [], h, .top, by simp⟩
/-- Down: to the first child. -/
theorem at_down {F : Fo} (hF : WF F) {x i : Nat} {t : List Nat} (h : At F x i t) {k : Nat} {s : List Nat} (hk : F.kids (i : Int) = k :: s) (hx : k ≠ x) : ∃ t', t = k :: t' ∧ At F x k t' := by
  obtain ⟨hi, a, b, ha, hb, rfl⟩ := h
  rw [hk] at ha
  obtain ⟨c, d, rfl, hc, hd⟩ := flat_cons ha
  obtain ⟨h1, h2⟩ := (hF.kin (i : Int) k).1 (by rw [hk]; simp)
  exact ⟨c ++ d ++ b, by simp, h1, c, d ++ b, hc, .up (pre := []) hx h1 hi h2 (by rw [hk]; rfl) hd hb, by simp⟩
/-- No child: what is to come is what comes behind. -/
theorem at_leaf {F : Fo} {x i : Nat} {t : List Nat} (h : At F x i t) (hk : F.kids (i : Int) = []) : After F x i t := by
  obtain ⟨hi, a, b, ha, hb, rfl⟩ := h
  rw [hk] at ha
  rw [flat_nil ha]
  exact hb
theorem after_top {F : Fo} {x : Nat} {t : List Nat} (h : After F x x t) : t = [] := by
  cases h with
  | top => rfl
  | up hx => exact absurd rfl hx
/-- No sibling behind: up. -/
theorem after_up {F : Fo} (hF : WF F) {x i : Nat} {t : List Nat} (h : After F x i t) (hix : i ≠ x) (hn : nxt i (F.kids (F.par i)) = -1) : ∃ j : Nat, F.par i = (j : Int) ∧ F.there i = true ∧ F.there j = true ∧ After F x j t := by
  cases h with
  | top => exact absurd rfl hix
  | @up _ j pre s a b hx hi hj hp hk hs hb =>
    have hnd := hF.nd (j : Int)
    rw [hk] at hnd
    have hpre : i ∉ pre := fun hm => (List.nodup_append.1 hnd).2.2 i hm i (by simp) rfl
    rw [hp, hk, nxt_at s hpre] at hn
    have hs0 : s = [] := hd_neg.1 hn
    subst hs0
    rw [flat_nil hs]
    exact ⟨j, hp, hi, hj, hb⟩
/-- A sibling behind: on to it. -/
theorem after_next {F : Fo} (hF : WF F) {x i : Nat} {t : List Nat} (h : After F x i t) (hix : i ≠ x) (hn : nxt i (F.kids (F.par i)) ≠ -1) : ∃ (k : Nat) (t' : List Nat), nxt i (F.kids (F.par i)) = (k : Int) ∧ t = k :: t' ∧ (k ≠ x → At F x k t') := by
  cases h with
  | top => exact absurd rfl hix
  | @up _ j pre s a b hx hi hj hp hk hs hb =>
    have hnd := hF.nd (j : Int)
    rw [hk] at hnd
    have hpre : i ∉ pre := fun hm => (List.nodup_append.1 hnd).2.2 i hm i (by simp) rfl
    rw [hp, hk, nxt_at s hpre] at hn ⊢
    rcases s with _ | ⟨k, s⟩
    · exact absurd rfl hn
    · obtain ⟨c, d, rfl, hc, hd⟩ := flat_cons hs
      obtain ⟨h1, h2⟩ := (hF.kin (j : Int) k).1 (by rw [hk]; simp)
      exact ⟨k, c ++ d ++ b, rfl, by simp, fun hkx => ⟨h1, c, d ++ b, hc, .up (pre := pre ++ [i]) hkx h1 hj h2 (by rw [hk]; simp) hd hb, by simp⟩⟩

/-- Where something is still to come, the place is x's, or under it. -/
theorem after_above {F : Fo} {x i : Nat} {t : List Nat} (h : After F x i t) : i = x ∨ Above F x i := by
  induction h with
  | top => exact .inl rfl
  | up hx hi hj hp hk hs hb ih =>
    rcases ih with rfl | ih
    · exact .inr (.kid hi hp)
    · exact .inr (.up hi hp ih)
theorem kid_ne {F : Fo} (hF : WF F) {x j k : Nat} (h : j = x ∨ Above F x j) (hk : F.there k = true) (hp : F.par k = (j : Int)) : k ≠ x := by
  obtain ⟨g, hg⟩ := hF.ht
  have h1 := hg k j hk hp
  rcases h with rfl | h
  · rintro rfl; omega
  · have h2 := above_ht h hg
    rintro rfl
    omega
theorem at_down' {F : Fo} (hF : WF F) {x i : Nat} {t : List Nat} (h : At F x i t) {k : Nat} {s : List Nat} (hk : F.kids (i : Int) = k :: s) : ∃ t', t = k :: t' ∧ At F x k t' := by
  have h0 := h
  obtain ⟨hi, a, b, ha, hb, _⟩ := h0
  obtain ⟨h1, h2⟩ := (hF.kin (i : Int) k).1 (by rw [hk]; simp)
  exact at_down hF h hk (kid_ne hF (after_above hb) h1 h2)
theorem after_next' {F : Fo} (hF : WF F) {x i : Nat} {t : List Nat} (h : After F x i t) (hix : i ≠ x) (hn : nxt i (F.kids (F.par i)) ≠ -1) : ∃ (k : Nat) (t' : List Nat), nxt i (F.kids (F.par i)) = (k : Int) ∧ t = k :: t' ∧ At F x k t' := by
  have h0 := h
  obtain ⟨k, t', e1, e2, e3⟩ := after_next hF h hix hn
  refine ⟨k, t', e1, e2, e3 ?_⟩
  cases h0 with
  | top => exact absurd rfl hix
  | @up _ j pre s a b hx hi hj hp hk hs hb =>
    have hnd := hF.nd (j : Int)
    rw [hk] at hnd
    have hpre : i ∉ pre := fun hm => (List.nodup_append.1 hnd).2.2 i hm i (by simp) rfl
    rw [hp, hk, nxt_at s hpre] at e1
    rcases s with _ | ⟨q, s⟩
    · simp [hd] at e1
    · have : q = k := by simp [hd] at e1; omega
      subst this
      obtain ⟨h1, h2⟩ := (hF.kin (j : Int) q).1 (by rw [hk]; simp)
      exact kid_ne hF (after_above hb) h1 h2
end Go.Proofs.Ytoihldagpnkfoaa
