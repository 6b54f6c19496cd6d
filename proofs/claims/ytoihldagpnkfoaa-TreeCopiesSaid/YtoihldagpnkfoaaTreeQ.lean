/- Forests in plain Lean: Add, Drop, Prune leave a forest. No program in sight. -/
import Derived.Test.YtoihldagpnkfoaaTreeP
namespace Go.Proofs.Ytoihldagpnkfoaa
set_option linter.unusedVariables false

/-- A node comes, as the first child of p (-1: as the first root). -/
def Fo.add (F : Fo) (p : Int) (x : Nat) : Fo :=
  { n := F.n, there := fun i => if i = x then true else F.there i, par := fun i => if i = x then p else F.par i, kids := fun q => if q = p then x :: F.kids p else F.kids q, free := F.free.dropLast }
/-- A node goes; its children are its parent's. -/
def Fo.drop (F : Fo) (x : Nat) : Fo :=
  { n := F.n, there := fun i => if i = x then false else F.there i, par := fun i => if F.there i = true ∧ F.par i = (x : Int) then F.par x else F.par i,
    kids := fun q => if q = F.par x then (F.kids (F.par x)).flatMap (fun i => if i = x then F.kids (x : Int) else [i]) else if q = (x : Int) then [] else F.kids q, free := F.free ++ [x] }
/-- Descendants go. -/
def Fo.prune (F : Fo) (x : Nat) (ds : List Nat) : Fo :=
  { n := F.n, there := fun i => F.there i && !(ds.contains i), par := F.par, kids := fun q => if q = (x : Int) then [] else if ds.any (fun d => decide (q = (d : Int))) then [] else F.kids q, free := F.free ++ ds }

/-- May one be a parent? -/
def Fo.ok (F : Fo) (p : Int) : Prop := p = -1 ∨ ∃ j : Nat, p = (j : Int) ∧ F.there j = true

theorem last_mem {l : List Nat} {x : Nat} (h : l.getLast? = some x) : x ∈ l := List.mem_of_getLast? h
theorem last_split {l : List Nat} {x : Nat} (h : l.getLast? = some x) : l = l.dropLast ++ [x] := by
  rw [List.getLast?_eq_some_iff] at h
  obtain ⟨ys, rfl⟩ := h
  simp

theorem WF.add {F : Fo} (h : WF F) {p : Int} (hp : F.ok p) {x : Nat} (hx : F.free.getLast? = some x) : WF (F.add p x) := by
  obtain ⟨hxn, hxt⟩ := (h.fr x).1 (last_mem hx)
  have hsp := last_split hx
  have hfnd := h.fnd
  rw [hsp, List.nodup_append] at hfnd
  have hpx : p ≠ (x : Int) := by
    rcases hp with rfl | ⟨j, rfl, hj⟩
    · omega
    · intro e
      have : j = x := by omega
      subst this
      rw [hxt] at hj
      cases hj
  have hnx : ∀ i, F.there i = true → i ≠ x := fun i hi e => by subst e; rw [hxt] at hi; cases hi
  have hkx : ∀ q, x ∉ F.kids q := fun q hq => hnx x ((h.kin _ _).1 hq).1 rfl
  refine ⟨fun q i => ?_, fun q => ?_, fun i hi => ?_, fun i hi => ?_, fun i => ?_, hfnd.1, ?_⟩
  · simp only [Fo.add]
    by_cases hq : q = p
    · subst hq
      rw [if_pos rfl, List.mem_cons]
      by_cases hi : i = x
      · simp [hi]
      · simp only [hi, false_or, if_false]
        exact h.kin _ _
    · rw [if_neg hq]
      by_cases hi : i = x
      · subst hi
        simp only [if_true, true_and]
        exact ⟨fun e => (hkx _ e).elim, fun e => (hq e.symm).elim⟩
      · simp only [hi, if_false]
        exact h.kin _ _
  · simp only [Fo.add]
    split
    · exact List.nodup_cons.2 ⟨hkx _, h.nd _⟩
    · exact h.nd _
  · simp only [Fo.add] at hi ⊢
    by_cases hix : i = x
    · rw [if_pos hix]
      rcases hp with rfl | ⟨j, rfl, hj⟩
      · exact .inl rfl
      · exact .inr ⟨j, rfl, by rw [if_neg (hnx j hj)]; exact hj⟩
    · rw [if_neg hix] at hi ⊢
      rcases h.up i hi with e | ⟨j, e, hj⟩
      · exact .inl e
      · exact .inr ⟨j, e, by rw [if_neg (hnx j hj)]; exact hj⟩
  · simp only [Fo.add] at hi ⊢
    by_cases hix : i = x
    · subst hix; exact hxn
    · rw [if_neg hix] at hi
      exact h.lt i hi
  · simp only [Fo.add]
    have h1 := h.fr i
    rw [hsp, List.mem_append, List.mem_singleton] at h1
    by_cases hix : i = x
    · subst hix
      simp only [if_true]
      exact ⟨fun e => (hfnd.2.2 i e i (by simp) rfl).elim, fun e => by cases e.2⟩
    · rw [if_neg hix]
      rw [← h1]
      simp [hix]
  · obtain ⟨g, hg⟩ := h.ht
    refine ⟨fun i => if i = x then 0 else g i + 1, fun i j hi he => ?_⟩
    simp only [Fo.add] at hi he ⊢
    by_cases hix : i = x
    · rw [if_pos hix] at he
      have hjx : j ≠ x := fun e => hpx (by rw [he, e])
      rw [if_pos hix, if_neg hjx]
      omega
    · rw [if_neg hix] at hi he
      have hjx : j ≠ x := by
        rcases h.up i hi with e | ⟨k, e, hk⟩
        · omega
        · have : k = j := by omega
          subst this
          exact hnx k hk
      rw [if_neg hix, if_neg hjx]
      have := hg i j hi he
      omega

theorem flatMap_split {x : Nat} {a b ks : List Nat} (ha : x ∉ a) (hb : x ∉ b) : (a ++ x :: b).flatMap (fun i => if i = x then ks else [i]) = a ++ ks ++ b := by
  have one : ∀ l : List Nat, x ∉ l → l.flatMap (fun i => if i = x then ks else [i]) = l := by
    intro l
    induction l with
    | nil => intro _; rfl
    | cons y l ih =>
      intro h
      have h1 : y ≠ x := fun e => h (by simp [e])
      rw [List.flatMap_cons, if_neg h1, ih fun e => h (by simp [e])]
      rfl
  rw [List.flatMap_append, List.flatMap_cons, if_pos rfl, one a ha, one b hb, List.append_assoc]

theorem WF.drop {F : Fo} (h : WF F) {x : Nat} (hx : F.there x = true) : WF (F.drop x) := by
  have hns := h.not_self hx
  have hxk : x ∈ F.kids (F.par x) := (h.kin _ _).2 ⟨hx, rfl⟩
  obtain ⟨a, b, hab, ha, hb⟩ := split_at hxk (h.nd _)
  have hk : (F.drop x).kids (F.par x) = a ++ F.kids (x : Int) ++ b := by
    simp only [Fo.drop, if_true]
    rw [hab, flatMap_split ha hb]
  have hdis : ∀ i, i ∈ F.kids (x : Int) → i ∉ F.kids (F.par x) := fun i hi hi2 => hns (((h.kin _ _).1 hi2).2.symm.trans ((h.kin _ _).1 hi).2)
  have hxx : x ∉ F.kids (x : Int) := fun e => hns ((h.kin _ _).1 e).2
  refine ⟨fun q i => ?_, fun q => ?_, fun i hi => ?_, fun i hi => ?_, fun i => ?_, ?_, ?_⟩
  · by_cases hq : q = F.par x
    · subst hq
      rw [hk, List.mem_append, List.mem_append]
      simp only [Fo.drop]
      have h1 := h.kin (F.par x) i
      rw [hab, List.mem_append, List.mem_cons] at h1
      have h2 := h.kin (x : Int) i
      constructor
      · rintro ((hi | hi) | hi)
        · have h3 := h1.1 (.inl hi)
          have hix : i ≠ x := fun e => ha (e ▸ hi)
          rw [if_neg hix, if_neg (fun e => hns (h3.2.symm.trans e.2))]
          exact h3
        · have h3 := h2.1 hi
          have hix : i ≠ x := fun e => hxx (e ▸ hi)
          rw [if_neg hix, if_pos h3]
          exact ⟨h3.1, rfl⟩
        · have h3 := h1.1 (.inr (.inr hi))
          have hix : i ≠ x := fun e => hb (e ▸ hi)
          rw [if_neg hix, if_neg (fun e => hns (h3.2.symm.trans e.2))]
          exact h3
      · rintro ⟨h3, h4⟩
        by_cases hix : i = x
        · rw [if_pos hix] at h3; cases h3
        · rw [if_neg hix] at h3
          by_cases hp : F.there i = true ∧ F.par i = (x : Int)
          · exact .inl (.inr (h2.2 hp))
          · rw [if_neg hp] at h4
            rcases h1.2 ⟨h3, h4⟩ with e | e | e
            · exact .inl (.inl e)
            · exact (hix e).elim
            · exact .inr e
    · simp only [Fo.drop, if_neg hq]
      by_cases hqx : q = (x : Int)
      · rw [if_pos hqx]
        constructor
        · intro e; cases e
        · rintro ⟨h3, h4⟩
          by_cases hix : i = x
          · rw [if_pos hix] at h3; cases h3
          · rw [if_neg hix] at h3
            by_cases hp : F.there i = true ∧ F.par i = (x : Int)
            · rw [if_pos hp] at h4
              exact (hq h4.symm).elim
            · rw [if_neg hp] at h4
              exact (hp ⟨h3, h4.trans hqx⟩).elim
      · rw [if_neg hqx, h.kin]
        constructor
        · rintro ⟨h3, h4⟩
          have hix : i ≠ x := fun e => hq (by rw [← h4, e])
          rw [if_neg hix, if_neg (fun e => hqx (h4.symm.trans e.2))]
          exact ⟨h3, h4⟩
        · rintro ⟨h3, h4⟩
          by_cases hix : i = x
          · rw [if_pos hix] at h3; cases h3
          · rw [if_neg hix] at h3
            by_cases hp : F.there i = true ∧ F.par i = (x : Int)
            · rw [if_pos hp] at h4
              exact (hq h4.symm).elim
            · rw [if_neg hp] at h4
              exact ⟨h3, h4⟩
  · by_cases hq : q = F.par x
    · subst hq
      rw [hk]
      have hnd := h.nd (F.par x)
      rw [hab] at hnd
      rw [List.nodup_append] at hnd
      obtain ⟨n1, n2, n3⟩ := hnd
      rw [List.nodup_cons] at n2
      have hd1 : ∀ i ∈ F.kids (x : Int), i ∉ a := fun i hi e => hdis i hi (by rw [hab]; simp [e])
      have hd2 : ∀ i ∈ F.kids (x : Int), i ∉ b := fun i hi e => hdis i hi (by rw [hab]; simp [e])
      rw [List.nodup_append, List.nodup_append]
      refine ⟨⟨n1, h.nd _, fun u hu v hv e => hd1 v hv (e ▸ hu)⟩, n2.2, fun u hu v hv e => ?_⟩
      rcases List.mem_append.1 hu with hu | hu
      · exact n3 u hu v (by simp [hv]) e
      · exact hd2 u hu (e ▸ hv)
    · simp only [Fo.drop, if_neg hq]
      split
      · exact List.nodup_nil
      · exact h.nd _
  · simp only [Fo.drop] at hi ⊢
    by_cases hix : i = x
    · rw [if_pos hix] at hi; cases hi
    · rw [if_neg hix] at hi
      by_cases hp : F.there i = true ∧ F.par i = (x : Int)
      · rw [if_pos hp]
        rcases h.up x hx with e | ⟨j, e, hj⟩
        · exact .inl e
        · exact .inr ⟨j, e, by rw [if_neg (fun ee => hns (by rw [e, ee]))]; exact hj⟩
      · rw [if_neg hp]
        rcases h.up i hi with e | ⟨j, e, hj⟩
        · exact .inl e
        · exact .inr ⟨j, e, by rw [if_neg (fun ee => hp ⟨hi, by rw [e, ee]⟩)]; exact hj⟩
  · simp only [Fo.drop] at hi ⊢
    by_cases hix : i = x
    · rw [if_pos hix] at hi; cases hi
    · rw [if_neg hix] at hi
      exact h.lt i hi
  · simp only [Fo.drop, List.mem_append, List.mem_singleton]
    rw [h.fr]
    by_cases hix : i = x
    · subst hix
      simp [h.lt i hx]
    · simp [hix]
  · simp only [Fo.drop]
    rw [List.nodup_append]
    refine ⟨h.fnd, by simp, fun u hu v hv e => ?_⟩
    rw [List.mem_singleton] at hv
    subst hv
    subst e
    have := ((h.fr u).1 hu).2
    rw [hx] at this
    cases this
  · obtain ⟨g, hg⟩ := h.ht
    refine ⟨g, fun i j hi he => ?_⟩
    simp only [Fo.drop] at hi he
    by_cases hix : i = x
    · rw [if_pos hix] at hi; cases hi
    · rw [if_neg hix] at hi
      by_cases hp : F.there i = true ∧ F.par i = (x : Int)
      · rw [if_pos hp] at he
        have h1 := hg i x hi hp.2
        have h2 := hg x j hx he
        omega
      · rw [if_neg hp] at he
        exact hg i j hi he

theorem above_comp {F : Fo} {i j x : Nat} (h : Above F i x) (k : Above F j x) : i = j ∨ Above F i j ∨ Above F j i := by
  induction h with
  | kid h1 h2 =>
    cases k with
    | kid k1 k2 => exact .inl (by omega)
    | @up _ v k1 k2 k3 =>
      have : v = i := by omega
      subst this
      exact .inr (.inr k3)
  | @up u v h1 h2 h3 ih =>
    cases k with
    | kid k1 k2 =>
      have : v = j := by omega
      subst this
      exact .inr (.inl h3)
    | @up _ v' k1 k2 k3 =>
      have : v' = v := by omega
      subst this
      exact ih k3
theorem sib_above {F : Fo} (hF : WF F) {p : Int} {i j : Nat} (hi : i ∈ F.kids p) (hj : j ∈ F.kids p) : ¬ Above F i j := by
  obtain ⟨i1, i2⟩ := (hF.kin _ _).1 hi
  obtain ⟨j1, j2⟩ := (hF.kin _ _).1 hj
  obtain ⟨g, hg⟩ := hF.ht
  intro h
  cases h with
  | kid h1 h2 => exact hF.not_self i1 (by rw [i2, ← j2, h2])
  | @up _ v h1 h2 h3 =>
    have h4 := above_ht h3 hg
    have h5 := hg i v i1 (by rw [i2, ← j2, h2])
    omega

theorem Flat.nodup {F : Fo} (hF : WF F) {l a : List Nat} (h : Flat F l a) : ∀ p, (∀ i ∈ l, i ∈ F.kids p) → l.Nodup → a.Nodup := by
  induction h with
  | nil => intro _ _ _; exact List.nodup_nil
  | @cons i r a b h1 h2 ih1 ih2 =>
    intro p hl hn
    rw [List.nodup_cons] at hn
    have hip := hl i (by simp)
    have ha := ih1 (i : Int) (fun _ hh => hh) (hF.nd _)
    have hb := ih2 p (fun j hj => hl j (by simp [hj])) hn.2
    obtain ⟨g, hg⟩ := hF.ht
    have haa : ∀ x, x ∈ a → Above F i x := fun x hx => (desc_mem hF h1 x).1 hx
    have hbb : ∀ x, x ∈ b → x ∈ r ∨ ∃ y ∈ r, Above F y x := fun x hx => (h2.mem hF x).1 hx
    have hdj : ∀ x, Above F i x → x ∉ b := fun x hx hxb => by
      rcases hbb x hxb with hr | ⟨y, hy, hyx⟩
      · exact sib_above hF hip (hl x (by simp [hr])) hx
      · rcases above_comp hx hyx with e | e | e
        · subst e; exact hn.1 hy
        · exact sib_above hF hip (hl y (by simp [hy])) e
        · exact sib_above hF (hl y (by simp [hy])) hip e
    rw [List.nodup_cons]
    refine ⟨fun hm => ?_, ?_⟩
    · rcases List.mem_append.1 hm with hm | hm
      · have := above_ht (haa i hm) hg
        omega
      · rcases hbb i hm with hr | ⟨y, hy, hyx⟩
        · exact hn.1 hr
        · exact sib_above hF (hl y (by simp [hy])) hip hyx
    · rw [List.nodup_append]
      exact ⟨ha, hb, fun u hu v hv e => hdj u (haa u hu) (e ▸ hv)⟩

theorem WF.prune {F : Fo} (h : WF F) {x : Nat} (hx : F.there x = true) {ds : List Nat} (hd : Flat F (F.kids (x : Int)) ds) : WF (F.prune x ds) := by
  have hm := desc_mem h hd
  have hnd := hd.nodup h (x : Int) (fun _ hh => hh) (h.nd _)
  have hdt : ∀ d, d ∈ ds → F.there d = true := fun d hd' => ((hm d).1 hd').there
  have hany : ∀ q : Int, (ds.any (fun d => decide (q = (d : Int)))) = true ↔ ∃ d ∈ ds, q = (d : Int) := by intro q; simp
  refine ⟨fun q i => ?_, fun q => ?_, fun i hi => ?_, fun i hi => ?_, fun i => ?_, ?_, ?_⟩
  · simp only [Fo.prune, Bool.and_eq_true, Bool.not_eq_true', List.contains_eq_mem, decide_eq_false_iff_not]
    by_cases hq : q = (x : Int)
    · rw [if_pos hq]
      constructor
      · intro e; cases e
      · rintro ⟨⟨h1, h2⟩, h3⟩
        exact (h2 ((hm i).2 (.kid h1 (h3.trans hq)))).elim
    · rw [if_neg hq]
      by_cases ha : (ds.any (fun d => decide (q = (d : Int)))) = true
      · rw [if_pos ha]
        obtain ⟨d, hd', rfl⟩ := (hany _).1 ha
        constructor
        · intro e; cases e
        · rintro ⟨⟨h1, h2⟩, h3⟩
          exact (h2 ((hm i).2 (.up h1 h3 ((hm d).1 hd')))).elim
      · rw [if_neg ha, h.kin]
        constructor
        · rintro ⟨h1, h2⟩
          refine ⟨⟨h1, fun hi => ?_⟩, h2⟩
          cases (hm i).1 hi with
          | kid k1 k2 => exact hq (by rw [← h2, k2])
          | @up _ v k1 k2 k3 => exact ha ((hany _).2 ⟨v, (hm v).2 k3, by rw [← h2, k2]⟩)
        · rintro ⟨⟨h1, _⟩, h3⟩
          exact ⟨h1, h3⟩
  · simp only [Fo.prune]
    split
    · exact List.nodup_nil
    · split
      · exact List.nodup_nil
      · exact h.nd _
  · simp only [Fo.prune, Bool.and_eq_true, Bool.not_eq_true', List.contains_eq_mem, decide_eq_false_iff_not] at hi ⊢
    rcases h.up i hi.1 with e | ⟨j, e, hj⟩
    · exact .inl e
    · exact .inr ⟨j, e, hj, fun hjd => hi.2 ((hm i).2 (.up hi.1 e ((hm j).1 hjd)))⟩
  · simp only [Fo.prune, Bool.and_eq_true] at hi ⊢
    exact h.lt i hi.1
  · simp only [Fo.prune, List.mem_append]
    rw [h.fr]
    by_cases hi : i ∈ ds
    · have := hdt i hi
      simp [hi, h.lt i this]
    · simp [hi]
  · simp only [Fo.prune]
    rw [List.nodup_append]
    refine ⟨h.fnd, hnd, fun u hu v hv e => ?_⟩
    subst e
    have := ((h.fr u).1 hu).2
    rw [hdt u hv] at this
    cases this
  · obtain ⟨g, hg⟩ := h.ht
    refine ⟨g, fun i j hi he => ?_⟩
    simp only [Fo.prune, Bool.and_eq_true] at hi he
    exact hg i j hi.1 he
end Go.Proofs.Ytoihldagpnkfoaa
