/- Of the following, one behind the other: The places of a forest, in plain Lean: that Drop and Prune do on the places what they do on the forest. No program in sight. A forest's places in memory; what becomes of them by stores. No program walked. Small functions of the program's forest, by walks: nothing, Has, head, join, check, Size, Parent. Condition: the forest has 1 to 4096 places. join of the program's forest, by walks. Conditions: the forest has 1 to 4096 places; what is joined lies in it, or is none. Rows of the call's own: what stays, how it reads. No program walked. Rows of the program's forest: row, Children, Roots, Parent, by walks. Condition: the places are a forest's. Children, Roots, Parent of the program's forest, by walks. Condition: the places are a forest's. Under of the program's forest, by a walk. Condition: the places are a forest's. The walk in preorder with links alone, plain: what is still to come at a place. No program in sight. When two forests are alike; who is under whom behind Drop and Prune; a forest that is one row of nodes: plain. No program in sight. -/
import Derived.Test.YtbknmfegckeogaaPk0
import Derived.Test.YtbknmfegckeogaaRows
import Derived.WalkKit
import Derived.WalkSpells
import Derived.WalkLawsBesides
import Derived.LoopTactic
import Derived.LoopN
import Derived.Deep.Upon
/- The places of a forest, in plain Lean: that Drop and Prune do on the places what they do on the forest. No program in sight. -/
namespace Go.Proofs.Ytbknmfegckeogaa
set_option linter.unusedVariables false
set_option linter.unusedSimpArgs false

theorem lastOr_ne {i : Nat} {l : List Nat} (h : i ∉ l) : lastOr (i : Int) l = (i : Int) ↔ l = [] := by
  rcases lastOr_cases l with rfl | ⟨z, hz, hh⟩
  · simp [lastOr]
  · rw [hh]
    constructor
    · intro e
      have : z = i := by omega
      exact (h (this ▸ hz)).elim
    · rintro rfl
      simp at hz
theorem ne_of_not_mem {i z : Nat} {l : List Nat} (h : i ∉ l) (hz : z ∈ l) : (i : Int) ≠ (z : Int) := fun e => h (by
  have : i = z := by omega
  exact this ▸ hz)

theorem Nd.ext5 {a b c d e a' b' c' d' e'} (h1 : a = a') (h2 : b = b') (h3 : c = c') (h4 : d = d') (h5 : e = e') : (⟨a, b, c, d, e⟩ : Nd) = ⟨a', b', c', d', e'⟩ := by rw [h1, h2, h3, h4, h5]

theorem rep_drop {R : Raw} {F : Fo} (h : Rep R F) (hF : WF F) {x : Nat} (hx : F.there x = true) :
    Rep (((dropL (F.par x) R (prv x (F.kids (F.par x))) (F.kids (x : Int))).join (F.par x) (lastOr (prv x (F.kids (F.par x))) (F.kids (x : Int))) (nxt x (F.kids (F.par x)))).put x Nd.zero) (F.drop x) := by
  obtain ⟨p, hp⟩ : ∃ p, p = F.par x := ⟨_, rfl⟩
  obtain ⟨K, hK⟩ : ∃ K, K = F.kids (x : Int) := ⟨_, rfl⟩
  have hns := hF.not_self hx
  have hxk : x ∈ F.kids (F.par x) := (hF.kin _ _).2 ⟨hx, rfl⟩
  obtain ⟨a, b, hab, ha, hb⟩ := split_at hxk (hF.nd _)
  have hlast0 : prv x (F.kids (F.par x)) = lastOr (-1) a := by rw [hab]; exact prv_at _ ha
  have hrt0 : nxt x (F.kids (F.par x)) = hd b := by rw [hab]; exact nxt_at _ ha
  rw [hlast0, hrt0, ← hK, ← hp]
  rw [← hp] at hns hab hxk
  have hrow : ∀ i, i ∈ a ∨ i ∈ b → F.there i = true ∧ F.par i = p ∧ i ≠ x := fun i hi => by
    have hm : i ∈ F.kids p := by
      rw [hab]
      rcases hi with hi | hi <;> simp [hi]
    obtain ⟨h1, h2⟩ := (hF.kin _ _).1 hm
    refine ⟨h1, h2, fun e => ?_⟩
    subst e
    rcases hi with hi | hi
    · exact ha hi
    · exact hb hi
  have hkid : ∀ i, i ∈ K ↔ F.there i = true ∧ F.par i = (x : Int) := fun i => by rw [hK]; exact hF.kin _ _
  have hnd := hF.nd p
  rw [hab, List.nodup_append] at hnd
  obtain ⟨na, nb0, nab⟩ := hnd
  rw [List.nodup_cons] at nb0
  have nK : K.Nodup := by rw [hK]; exact hF.nd _
  have hdab : ∀ i ∈ a, i ∉ b := fun i hi hi2 => nab i hi i (by simp [hi2]) rfl
  have hdKa : ∀ i ∈ K, i ∉ a := fun i hi hi2 => hns ((hrow i (.inl hi2)).2.1.symm.trans ((hkid i).1 hi).2)
  have hdKb : ∀ i ∈ K, i ∉ b := fun i hi hi2 => hns ((hrow i (.inr hi2)).2.1.symm.trans ((hkid i).1 hi).2)
  have hKx : x ∉ K := fun e => hns (by rw [hp]; exact ((hkid x).1 e).2)
  have hpK : ∀ c ∈ K, ((c : Nat) : Int) ≠ p := fun c hc e => by
    obtain ⟨g, hg⟩ := hF.ht
    obtain ⟨h1, h2⟩ := (hkid c).1 hc
    have h3 := hg c x h1 h2
    have h4 := hg x c hx (by rw [← hp, e])
    omega
  have hpp : p = -1 ∨ 0 ≤ p := by
    rcases hF.up x hx with e | ⟨j, e, _⟩
    · left; rw [hp, e]
    · right; rw [hp, e]; omega
  have hl0 : lastOr (-1) a = -1 ∨ 0 ≤ lastOr (-1) a := by
    rcases lastOr_cases a with rfl | ⟨z, _, hh⟩
    · exact .inl rfl
    · right; rw [hh]; omega
  have hl0K : ∀ c ∈ K, ((c : Nat) : Int) ≠ lastOr (-1) a := fun c hc => by
    rcases lastOr_cases a with rfl | ⟨z, hz, hh⟩
    · simp only [lastOr]; omega
    · rw [hh]; exact ne_of_not_mem (hdKa c hc) hz
  have hat := fun i => dropL_at p hpp K R (lastOr (-1) a) i hl0 hl0K hpK nK
  have hlE : lastOr (lastOr (-1) a) K = -1 ∨ 0 ≤ lastOr (lastOr (-1) a) K := by
    rcases lastOr_cases K with e | ⟨z, _, hh⟩
    · rw [e]; exact hl0
    · right; rw [hh]; omega
  have hrt : hd b = -1 ∨ 0 ≤ hd b := by
    rcases hd_cases b with rfl | ⟨z, _, hh⟩
    · exact .inl rfl
    · right; rw [hh]; omega
  have hEr : lastOr (lastOr (-1) a) K ≠ hd b ∨ lastOr (lastOr (-1) a) K = -1 := by
    rcases lastOr_cases K with e | ⟨z, hz, hh⟩
    · rw [e]
      simp only [lastOr]
      rcases lastOr_cases a with rfl | ⟨z, hz, hh⟩
      · exact .inr rfl
      · left
        rw [hh]
        rcases hd_cases b with rfl | ⟨y, hy, hh2⟩
        · simp only [hd]; omega
        · rw [hh2]; exact ne_of_not_mem (hdab z hz) hy
    · left
      rw [hh]
      rcases hd_cases b with rfl | ⟨y, hy, hh2⟩
      · simp only [hd]; omega
      · rw [hh2]; exact ne_of_not_mem (hdKb z hz) hy
  have hpr : p ≠ hd b ∨ p < 0 := by
    rcases hd_cases b with rfl | ⟨y, hy, hh2⟩
    · simp only [hd]; omega
    · left
      rw [hh2]
      intro e
      have := hrow y (.inr hy)
      exact hF.not_self this.1 (by rw [this.2.1, e])
  have hkd : (F.drop x).kids p = a ++ K ++ b := by
    simp only [Fo.drop, ← hp, if_true]
    rw [hab, flatMap_split ha hb, hK]
  have hhd : hd (a ++ K ++ b) = if lastOr (lastOr (-1) a) K = -1 then hd b else if lastOr (-1) a = -1 ∧ K ≠ [] then hd K else hd (a ++ x :: b) := by
    rcases lastOr_cases a with rfl | ⟨z, hz, hh⟩
    · rcases lastOr_cases K with e | ⟨y, hy, hh2⟩
      · simp [e, lastOr]
      · have hne : K ≠ [] := fun e => by rw [e] at hy; simp at hy
        have hy1 : ¬ ((y : Nat) : Int) = -1 := by omega
        simp [lastOr, hh2, hne, hd_append, hy1]
    · have hne : a ≠ [] := fun e => by rw [e] at hz; simp at hz
      have hz1 : ¬ ((z : Nat) : Int) = -1 := by omega
      have hE : ¬ lastOr (lastOr (-1) a) K = -1 := by
        rcases lastOr_cases K with e | ⟨y, hy, hh2⟩
        · rw [e]; simp only [lastOr, hh]; exact hz1
        · rw [hh2]; omega
      rw [if_neg hE, if_neg (fun e => hz1 (by rw [← hh (-1)]; exact e.1))]
      simp [hd_append, hne]
  refine ⟨fun i hi => ?_, ?_⟩
  · have hi' : i < F.n := hi
    by_cases hix : i = x
    · subst hix
      simp [Raw.put, setN, Fo.nod, Fo.drop]
    · have hput : ∀ R' : Raw, (R'.put x Nd.zero).M i = R'.M i := fun R' => by simp [Raw.put, setN, hix]
      rw [hput, join_at _ i hlE hrt hEr hpr, hat i]
      have hri := h.at_ i hi'
      unfold Fo.nod at hri
      by_cases hti : F.there i = true
      · rw [if_pos hti] at hri
        have hdn : (F.drop x).there i = true := by simp [Fo.drop, hix, hti]
        unfold Fo.nod
        rw [if_pos hdn]
        have hix' : ¬ ((i : Nat) : Int) = (x : Int) := by omega
        have hdk : hd ((F.drop x).kids (i : Int)) = if (i : Int) = p then hd (a ++ K ++ b) else hd (F.kids (i : Int)) := by
          by_cases e : (i : Int) = p
          · rw [if_pos e, e, hkd]
          · rw [if_neg e]
            simp only [Fo.drop, ← hp, if_neg e, if_neg hix']
        have hpar : (F.drop x).par i = if F.par i = (x : Int) then p else F.par i := by
          simp only [Fo.drop, hti, true_and, ← hp]
        rw [hdk, hpar]
        by_cases hiK : i ∈ K
        · -- a child
          have hpi := ((hkid i).1 hiK).2
          obtain ⟨k1, k2, hk, hk1, hk2⟩ := split_at hiK nK
          have hip := hpK i hiK
          have hnb := hdKb i hiK
          have hna := hdKa i hiK
          rw [if_pos hpi, hkd]
          simp only [hiK, if_true, hri, if_neg hip, hip, and_false, if_false]
          have hrt1 : ¬ ((i : Nat) : Int) = hd b := by
            rcases hd_cases b with e | ⟨y, hy, hh2⟩
            · rw [e]; simp only [hd]; omega
            · rw [hh2]; exact ne_of_not_mem hnb hy
          simp only [hrt1, and_false, if_false]
          have e1 : prvF (lastOr (-1) a) i K = lastOr (lastOr (-1) a) k1 := by
            rw [hk, prvF_append_left _ _ hk1]
            simp [prvF]
          have e2 : nxt i K = hd k2 := by rw [hk]; exact nxt_at _ hk1
          have e3 : lastOr (lastOr (-1) a) K = lastOr (i : Int) k2 := by rw [hk, lastOr_append]; rfl
          have e4 : a ++ K ++ b = (a ++ k1) ++ i :: (k2 ++ b) := by rw [hk]; simp
          have hni : i ∉ a ++ k1 := by simp [hna, hk1]
          have e5 : nxt i (F.kids (F.par i)) = hd k2 := by rw [hpi, ← hK, e2]
          refine Nd.ext5 rfl rfl rfl ?_ ?_
          · rw [e1, e4, prv_at _ hni, lastOr_append]
          · rw [e2, e3, e4, nxt_at _ hni, e5]
            have hEne : lastOr (i : Int) k2 ≠ -1 := by
              rcases lastOr_cases k2 with e | ⟨z, _, hh⟩
              · rw [e]; simp only [lastOr]; omega
              · rw [hh]; omega
            by_cases hk20 : k2 = []
            · subst hk20
              simp [lastOr]
            · have h1 : ¬ ((i : Nat) : Int) = lastOr (i : Int) k2 := fun e => hk20 ((lastOr_ne hk2).1 e.symm)
              have h2 : hd k2 ≠ -1 := fun e => hk20 (hd_neg.1 e)
              simp only [h1, and_false, if_false, h2, hd_append, hk20]
        · have hpi : ¬ F.par i = (x : Int) := fun e => hiK ((hkid i).2 ⟨hti, e⟩)
          rw [if_neg hpi]
          simp only [hiK, if_false, hri]
          by_cases hpi2 : F.par i = p
          · -- in the row of the one that goes
            have hip : ¬ ((i : Nat) : Int) = p := fun e => hF.not_self hti (by rw [hpi2, e])
            have him : i ∈ F.kids p := (hF.kin _ _).2 ⟨hti, hpi2⟩
            rw [hpi2, hkd]
            simp only [if_neg hip, hip, and_false, if_false]
            rw [hab] at him ⊢
            rcases List.mem_append.1 him with hia | hib
            · obtain ⟨a1, a2, ha', ha1, ha2⟩ := split_at hia na
              have hnb := hdab i hia
              have hrt1 : ¬ ((i : Nat) : Int) = hd b := by
                rcases hd_cases b with e | ⟨y, hy, hh2⟩
                · rw [e]; simp only [hd]; omega
                · rw [hh2]; exact ne_of_not_mem hnb hy
              simp only [hrt1, and_false, if_false]
              have e1 : a ++ x :: b = a1 ++ i :: (a2 ++ x :: b) := by rw [ha']; simp
              have e2 : a ++ K ++ b = a1 ++ i :: (a2 ++ K ++ b) := by rw [ha']; simp
              have e3 : lastOr (-1) a = lastOr (i : Int) a2 := by rw [ha', lastOr_append]; rfl
              refine Nd.ext5 rfl rfl rfl ?_ ?_
              · rw [e1, e2, prv_at _ ha1, prv_at _ ha1]
              · rw [e1, e2, nxt_at _ ha1, nxt_at _ ha1, e3]
                by_cases ha20 : a2 = []
                · subst ha20
                  have hi1 : ((i : Nat) : Int) ≠ -1 := by omega
                  rcases lastOr_cases K with e | ⟨z, hz, hh⟩
                  · simp [e, lastOr, hi1, hd_append]
                  · have hKne : K ≠ [] := fun e => by rw [e] at hz; simp at hz
                    have hiz := ne_of_not_mem hiK hz
                    simp [lastOr, hh, hi1, hKne, hiz, hd_append]
                · have h1 : ¬ ((i : Nat) : Int) = lastOr (i : Int) a2 := fun e => ha20 ((lastOr_ne ha2).1 e.symm)
                  have h2 : ¬ ((i : Nat) : Int) = lastOr (lastOr (i : Int) a2) K := by
                    rcases lastOr_cases K with e | ⟨z, hz, hh⟩
                    · rw [e]; exact h1
                    · rw [hh]; exact ne_of_not_mem hiK hz
                  simp [h1, h2, hd_append, ha20]
            · have hib' : i ∈ b := by
                rcases List.mem_cons.1 hib with e | e
                · exact absurd e hix
                · exact e
              obtain ⟨b1, b2, hb', hb1, hb2⟩ := split_at hib' nb0.2
              have hna : i ∉ a := fun e => hdab i e hib'
              have hl1 : ¬ ((i : Nat) : Int) = lastOr (-1) a := by
                rcases lastOr_cases a with e | ⟨z, hz, hh⟩
                · rw [e]; simp only [lastOr]; omega
                · rw [hh]; exact ne_of_not_mem hna hz
              have hl2 : ¬ ((i : Nat) : Int) = lastOr (lastOr (-1) a) K := by
                rcases lastOr_cases K with e | ⟨z, hz, hh⟩
                · rw [e]; exact hl1
                · rw [hh]; exact ne_of_not_mem hiK hz
              simp only [hl1, hl2, and_false, if_false]
              have e1 : a ++ x :: b = (a ++ x :: b1) ++ i :: b2 := by rw [hb']; simp
              have e2 : a ++ K ++ b = (a ++ K ++ b1) ++ i :: b2 := by rw [hb']; simp
              have hn1 : i ∉ a ++ x :: b1 := by simp [hna, hix, hb1]
              have hn2 : i ∉ a ++ K ++ b1 := by simp [hna, hiK, hb1]
              refine Nd.ext5 rfl rfl rfl ?_ ?_
              · rw [e1, e2, prv_at _ hn1, prv_at _ hn2, hb']
                rcases lastOr_cases b1 with e | ⟨z, hz, hh⟩
                · subst e
                  have hi1 : ((i : Nat) : Int) ≠ -1 := by omega
                  simp [hd, hi1, lastOr_append, lastOr]
                · have hne : b1 ≠ [] := fun e => by rw [e] at hz; simp at hz
                  have hhb : ¬ ((i : Nat) : Int) = hd (b1 ++ i :: b2) := by
                    rw [hd_append, if_neg hne]
                    rcases hd_cases b1 with e | ⟨y, hy, hh2⟩
                    · exact absurd e hne
                    · rw [hh2]; exact ne_of_not_mem hb1 hy
                  simp only [hhb, and_false, if_false]
                  have q1 : lastOr (-1) (a ++ x :: b1) = (z : Int) := by rw [lastOr_append]; exact hh _
                  have q2 : lastOr (-1) (a ++ K ++ b1) = (z : Int) := by rw [lastOr_append]; exact hh _
                  rw [q1, q2]
              · rw [e1, e2, nxt_at _ hn1, nxt_at _ hn2]
          · -- elsewhere
            have hna : i ∉ a := fun e => hpi2 (hrow i (.inl e)).2.1
            have hnb : i ∉ b := fun e => hpi2 (hrow i (.inr e)).2.1
            have hl1 : ¬ ((i : Nat) : Int) = lastOr (-1) a := by
              rcases lastOr_cases a with e | ⟨z, hz, hh⟩
              · rw [e]; simp only [lastOr]; omega
              · rw [hh]; exact ne_of_not_mem hna hz
            have hl2 : ¬ ((i : Nat) : Int) = lastOr (lastOr (-1) a) K := by
              rcases lastOr_cases K with e | ⟨z, hz, hh⟩
              · rw [e]; exact hl1
              · rw [hh]; exact ne_of_not_mem hiK hz
            have hrt1 : ¬ ((i : Nat) : Int) = hd b := by
              rcases hd_cases b with e | ⟨y, hy, hh2⟩
              · rw [e]; simp only [hd]; omega
              · rw [hh2]; exact ne_of_not_mem hnb hy
            have hkk : (F.drop x).kids (F.par i) = F.kids (F.par i) := by
              simp only [Fo.drop, ← hp, if_neg hpi2, if_neg hpi]
            simp only [hl1, hl2, hrt1, and_false, if_false, hkk]
            refine Nd.ext5 rfl rfl ?_ rfl rfl
            by_cases hip : ((i : Nat) : Int) = p
            · have hp0 : 0 ≤ p := by omega
              rw [if_pos hip, hhd]
              simp only [hip, hp0, and_true, true_and]
              by_cases hE : lastOr (lastOr (-1) a) K = -1
              · simp [hE]
              · simp only [hE, if_false]
                by_cases hq : lastOr (-1) a = -1 ∧ K ≠ []
                · simp [hq]
                · rw [if_neg hq, if_neg hq, hab]
            · simp [hip]
      · rw [if_neg hti] at hri
        have hdn : ¬ (F.drop x).there i = true := by simp [Fo.drop, hix, hti]
        unfold Fo.nod
        rw [if_neg hdn]
        have hiK : i ∉ K := fun e => hti ((hkid i).1 e).1
        have hna : i ∉ a := fun e => hti (hrow i (.inl e)).1
        have hnb : i ∉ b := fun e => hti (hrow i (.inr e)).1
        have hl1 : ¬ ((i : Nat) : Int) = lastOr (-1) a := by
          rcases lastOr_cases a with e | ⟨z, hz, hh⟩
          · rw [e]; simp only [lastOr]; omega
          · rw [hh]; exact ne_of_not_mem hna hz
        have hl2 : ¬ ((i : Nat) : Int) = lastOr (lastOr (-1) a) K := by
          rcases lastOr_cases K with e | ⟨z, hz, hh⟩
          · rw [e]; exact hl1
          · rw [hh]; exact ne_of_not_mem hiK hz
        have hrt1 : ¬ ((i : Nat) : Int) = hd b := by
          rcases hd_cases b with e | ⟨y, hy, hh2⟩
          · rw [e]; simp only [hd]; omega
          · rw [hh2]; exact ne_of_not_mem hnb hy
        have hip : ¬ ((i : Nat) : Int) = p := fun e => by
          rcases hF.up x hx with q | ⟨j, q, hj⟩
          · rw [← hp] at q; omega
          · have : j = i := by rw [← hp] at q; omega
            exact hti (this ▸ hj)
        simp [hiK, hl1, hl2, hrt1, hip, hri]
  · have e0 : ∀ R' : Raw, (R'.put x Nd.zero).first = R'.first := fun R' => rfl
    rw [e0, join_first, dropL_first]
    by_cases hp1 : p = -1
    · have hp0 : p < 0 := by omega
      have hf := h.first
      have e1 : (F.drop x).kids (-1) = a ++ K ++ b := by rw [← hp1]; exact hkd
      rw [e1, hhd]
      simp only [hp0, and_true]
      have e2 : F.kids (-1) = a ++ x :: b := by rw [← hp1]; exact hab
      rw [hf, e2]
    · have hp0 : ¬ p < 0 := by omega
      have hm1 : ¬ (-1 : Int) = p := fun e => hp1 e.symm
      have hm2 : ¬ (-1 : Int) = (x : Int) := by omega
      simp only [hp0, and_false, if_false, Fo.drop, ← hp, if_neg hm1, if_neg hm2]
      exact h.first

/-- All of some go. -/
def goneL (R : Raw) (ds : List Nat) : Raw := ds.foldl (fun R d => R.put d Nd.zero) R
theorem goneL_at : ∀ (ds : List Nat) (R : Raw) (i : Nat), (goneL R ds).M i = if i ∈ ds then Nd.zero else R.M i
  | [], R, i => by simp [goneL]
  | d :: ds, R, i => by
    have := goneL_at ds (R.put d Nd.zero) i
    unfold goneL at this ⊢
    rw [List.foldl_cons, this]
    by_cases h1 : i ∈ ds
    · simp [h1]
    · by_cases h2 : i = d
      · simp [h1, h2, Raw.put, setN]
      · simp [h1, h2, Raw.put, setN]
theorem goneL_first : ∀ (ds : List Nat) (R : Raw), (goneL R ds).first = R.first
  | [], R => rfl
  | d :: ds, R => by
    have := goneL_first ds (R.put d Nd.zero)
    unfold goneL at this ⊢
    rw [List.foldl_cons, this]
    rfl

theorem rep_prune {R : Raw} {F : Fo} (h : Rep R F) (hF : WF F) {x : Nat} (hx : F.there x = true) {ds : List Nat} (hd' : Flat F (F.kids (x : Int)) ds) :
    Rep ((goneL R ds).setD x (-1)) (F.prune x ds) := by
  have hm := desc_mem hF hd'
  have hxd : x ∉ ds := fun e => by
    obtain ⟨g, hg⟩ := hF.ht
    have := above_ht ((hm x).1 e) hg
    omega
  have hany : ∀ q : Int, (ds.any (fun d => decide (q = (d : Int)))) = true ↔ ∃ d ∈ ds, q = (d : Int) := by intro q; simp
  refine ⟨fun i hi => ?_, ?_⟩
  · have hi' : i < F.n := hi
    have hri := h.at_ i hi'
    have hD : ((goneL R ds).setD x (-1)).M i = if i = x then { (goneL R ds).M x with d := -1 } else (goneL R ds).M i := by
      unfold Raw.setD setN
      by_cases e : i = x
      · simp [e]
      · simp [e]
    rw [hD]
    by_cases hid : i ∈ ds
    · have hix : ¬ i = x := fun e => hxd (e ▸ hid)
      rw [if_neg hix, goneL_at, if_pos hid]
      unfold Fo.nod
      simp [Fo.prune, hid]
    · by_cases hti : F.there i = true
      · have hn : (F.prune x ds).nod i = ⟨true, F.par i, if i = x then -1 else hd (F.kids (i : Int)), prv i (F.kids (F.par i)), nxt i (F.kids (F.par i))⟩ := by
          have h1 : (F.prune x ds).there i = true := by simp [Fo.prune, hti, hid]
          have h2 : ¬ F.par i = (x : Int) := fun e => hid ((hm i).2 (.kid hti e))
          have h3 : ¬ (ds.any (fun d => decide (F.par i = (d : Int)))) = true := fun e => by
            obtain ⟨d, hdd, e⟩ := (hany _).1 e
            exact hid ((hm i).2 (.up hti e ((hm d).1 hdd)))
          have h4 : ¬ (ds.any (fun d => decide ((i : Int) = (d : Int)))) = true := fun e => by
            obtain ⟨d, hdd, e⟩ := (hany _).1 e
            have : d = i := by omega
            exact hid (this ▸ hdd)
          unfold Fo.nod
          rw [if_pos h1]
          simp only [Fo.prune, if_neg h2, if_neg h3, if_neg h4]
          by_cases hix : i = x
          · subst hix
            simp [hd]
          · have : ¬ ((i : Nat) : Int) = (x : Int) := by omega
            simp [hix, this]
        rw [hn]
        unfold Fo.nod at hri
        rw [if_pos hti] at hri
        by_cases hix : i = x
        · subst hix
          simp [goneL_at, hxd, hri]
        · simp [goneL_at, hid, hri, hix]
      · have hix : ¬ i = x := fun e => hti (e ▸ hx)
        rw [if_neg hix, goneL_at, if_neg hid, hri]
        unfold Fo.nod
        have h1 : ¬ (F.prune x ds).there i = true := by simp [Fo.prune, hti]
        rw [if_neg hti, if_neg h1]
  · have e1 : ((goneL R ds).setD x (-1)).first = R.first := goneL_first ds R
    rw [e1, h.first]
    have h2 : ¬ (-1 : Int) = (x : Int) := by omega
    have h3 : ¬ (ds.any (fun d => decide ((-1 : Int) = (d : Int)))) = true := fun e => by
      obtain ⟨d, hdd, e⟩ := (hany _).1 e
      omega
    simp only [Fo.prune, if_neg h2, if_neg h3]
end Go.Proofs.Ytbknmfegckeogaa

/- A forest's places in memory; what becomes of them by stores. No program walked. -/
namespace Go.Proofs.Ytbknmfegckeogaa
open Go.RowKit
set_option linter.unusedVariables false

/-- A place lies in memory. -/
structure NdAt (w : World) (g o : Nat) (x : Nd) : Prop where
  c0 : w.cell? ⟨g, o, none⟩ = some (.bool x.t)
  c1 : w.cell? ⟨g, o + 1, none⟩ = some (.int .i64 x.u)
  c2 : w.cell? ⟨g, o + 2, none⟩ = some (.int .i64 x.d)
  c3 : w.cell? ⟨g, o + 3, none⟩ = some (.int .i64 x.l)
  c4 : w.cell? ⟨g, o + 4, none⟩ = some (.int .i64 x.r)
theorem NdAt.block {w w' : World} {g o : Nat} {x : Nd} (h : NdAt w g o x) (hb : w'.heap[g]? = w.heap[g]?) : NdAt w' g o x :=
  ⟨(World.cell?_of_block (w := w) (a := ⟨g, o, none⟩) hb).trans h.c0, (World.cell?_of_block (w := w) (a := ⟨g, o + 1, none⟩) hb).trans h.c1, (World.cell?_of_block (w := w) (a := ⟨g, o + 2, none⟩) hb).trans h.c2, (World.cell?_of_block (w := w) (a := ⟨g, o + 3, none⟩) hb).trans h.c3, (World.cell?_of_block (w := w) (a := ⟨g, o + 4, none⟩) hb).trans h.c4⟩
theorem cell_off (w : World) (g o k : Nat) (u : Value) (h : k ≠ o) : (w.setCell ⟨g, o, none⟩ u).cell? ⟨g, k, none⟩ = w.cell? ⟨g, k, none⟩ :=
  World.cell?_setCell_other _ _ _ _ (fun e => h (by injection e with _ e2; exact e2.symm))
theorem NdAt.other {w : World} {g i k : Nat} {x : Nd} (h : NdAt w g (i * 5) x) (j : Nat) (hj : j < 5) (hik : i ≠ k) (u : Value) : NdAt (w.setCell ⟨g, k * 5 + j, none⟩ u) g (i * 5) x :=
  ⟨(cell_off w g _ _ u (by omega)).trans h.c0, (cell_off w g _ _ u (by omega)).trans h.c1, (cell_off w g _ _ u (by omega)).trans h.c2, (cell_off w g _ _ u (by omega)).trans h.c3, (cell_off w g _ _ u (by omega)).trans h.c4⟩
theorem NdAt.setU {w : World} {g o : Nat} {x : Nd} (h : NdAt w g o x) (v : Int) : NdAt (w.setCell ⟨g, o + 1, none⟩ (.int .i64 v)) g o { x with u := v } :=
  ⟨(cell_off w g _ _ _ (by omega)).trans h.c0, World.cell?_setCell_same _ _ _ h.c1, (cell_off w g _ _ _ (by omega)).trans h.c2, (cell_off w g _ _ _ (by omega)).trans h.c3, (cell_off w g _ _ _ (by omega)).trans h.c4⟩
theorem NdAt.setD {w : World} {g o : Nat} {x : Nd} (h : NdAt w g o x) (v : Int) : NdAt (w.setCell ⟨g, o + 2, none⟩ (.int .i64 v)) g o { x with d := v } :=
  ⟨(cell_off w g _ _ _ (by omega)).trans h.c0, (cell_off w g _ _ _ (by omega)).trans h.c1, World.cell?_setCell_same _ _ _ h.c2, (cell_off w g _ _ _ (by omega)).trans h.c3, (cell_off w g _ _ _ (by omega)).trans h.c4⟩
theorem NdAt.setL {w : World} {g o : Nat} {x : Nd} (h : NdAt w g o x) (v : Int) : NdAt (w.setCell ⟨g, o + 3, none⟩ (.int .i64 v)) g o { x with l := v } :=
  ⟨(cell_off w g _ _ _ (by omega)).trans h.c0, (cell_off w g _ _ _ (by omega)).trans h.c1, (cell_off w g _ _ _ (by omega)).trans h.c2, World.cell?_setCell_same _ _ _ h.c3, (cell_off w g _ _ _ (by omega)).trans h.c4⟩
theorem NdAt.setR {w : World} {g o : Nat} {x : Nd} (h : NdAt w g o x) (v : Int) : NdAt (w.setCell ⟨g, o + 4, none⟩ (.int .i64 v)) g o { x with r := v } :=
  ⟨(cell_off w g _ _ _ (by omega)).trans h.c0, (cell_off w g _ _ _ (by omega)).trans h.c1, (cell_off w g _ _ _ (by omega)).trans h.c2, (cell_off w g _ _ _ (by omega)).trans h.c3, World.cell?_setCell_same _ _ _ h.c4⟩

/-- The program's forest in memory: n places in block lb. -/
structure PF (w : World) (f lb n lc : Nat) (R : Raw) (fv : Value) : Prop where
  head : Blk w f 119 #[.slice (some ⟨lb, 0, none⟩) n lc, .int .i64 R.first, fv]
  at_ : ∀ i, i < n → NdAt w lb (i * 5) (R.M i)
  fr : ∀ o, w.frozen? ⟨lb, o, none⟩ = false
  ne : lb ≠ f
  lt : lb < w.heap.size
  n1 : 1 ≤ n
  n2 : n ≤ 4096

/-- The blocks of its own. -/
def own2 (f lb : Nat) (k : Nat) : Prop := k = f ∨ k = lb

section
variable {w w' : World} {f lb n lc : Nat} {R : Raw} {fv : Value}
theorem PF.keep (h : PF w f lb n lc R fv) (h1 : w'.heap[f]? = w.heap[f]?) (h2 : w'.heap[lb]? = w.heap[lb]?) (hs : w.heap.size ≤ w'.heap.size) : PF w' f lb n lc R fv :=
  ⟨h1.trans h.head, fun i hi => (h.at_ i hi).block h2, fun o => (World.frozen?_of_block (w := w) (a := ⟨lb, o, none⟩) h2).trans (h.fr o), h.ne, Nat.lt_of_lt_of_le h.lt hs, h.n1, h.n2⟩
theorem PF.below (h : PF w f lb n lc R fv) (hb : Below w.heap.size w w') : PF w' f lb n lc R fv := h.keep (hb.block f h.head.lt) (hb.block lb h.lt) hb.size
theorem PF.drewN (h : PF w f lb n lc R fv) (k : Nat) : PF (w.drewN k) f lb n lc R fv := h.keep rfl rfl (Nat.le_refl _)
theorem PF.size_set (p : Addr) (u : Value) : (w.setCell p u).heap.size = w.heap.size := by simp [World.setCell]

theorem PF.store (h : PF w f lb n lc R fv) (a j : Nat) (u : Value) (x : Nd) (hj : j < 5) (ha : a < n) (hx : NdAt (w.setCell ⟨lb, a * 5 + j, none⟩ u) lb (a * 5) x) :
    PF (w.setCell ⟨lb, a * 5 + j, none⟩ u) f lb n lc (R.put a x) fv := by
  refine ⟨(Below.heap_setCell _ _ _ _ h.ne.symm).trans h.head, fun i hi => ?_, fun o => by rw [World.frozen?_setCell]; exact h.fr o, h.ne, by rw [PF.size_set]; exact h.lt, h.n1, h.n2⟩
  unfold Raw.put setN
  by_cases e : i = a
  · subst e
    simpa using hx
  · simp only [e, if_false]
    exact (h.at_ i hi).other j hj e u
theorem PF.setU (h : PF w f lb n lc R fv) (a : Nat) (ha : a < n) (v : Int) : PF (w.setCell ⟨lb, a * 5 + 1, none⟩ (.int .i64 v)) f lb n lc (R.setU a v) fv := h.store a 1 _ _ (by omega) ha ((h.at_ a ha).setU v)
theorem PF.setD (h : PF w f lb n lc R fv) (a : Nat) (ha : a < n) (v : Int) : PF (w.setCell ⟨lb, a * 5 + 2, none⟩ (.int .i64 v)) f lb n lc (R.setD a v) fv := h.store a 2 _ _ (by omega) ha ((h.at_ a ha).setD v)
theorem PF.setL (h : PF w f lb n lc R fv) (a : Nat) (ha : a < n) (v : Int) : PF (w.setCell ⟨lb, a * 5 + 3, none⟩ (.int .i64 v)) f lb n lc (R.setL a v) fv := h.store a 3 _ _ (by omega) ha ((h.at_ a ha).setL v)
theorem PF.setR (h : PF w f lb n lc R fv) (a : Nat) (ha : a < n) (v : Int) : PF (w.setCell ⟨lb, a * 5 + 4, none⟩ (.int .i64 v)) f lb n lc (R.setR a v) fv := h.store a 4 _ _ (by omega) ha ((h.at_ a ha).setR v)
theorem PF.setFirst (h : PF w f lb n lc R fv) (v : Int) : PF (w.setCell ⟨f, 1, none⟩ (.int .i64 v)) f lb n lc { R with first := v } fv := by
  refine ⟨?_, fun i hi => (h.at_ i hi).block (Below.heap_setCell _ _ _ _ h.ne), fun o => by rw [World.frozen?_setCell]; exact h.fr o, h.ne, by rw [PF.size_set]; exact h.lt, h.n1, h.n2⟩
  exact h.head.set_ 1 (.int .i64 v)
theorem PF.setFree (h : PF w f lb n lc R fv) (v : Value) : PF (w.setCell ⟨f, 2, none⟩ v) f lb n lc R v := by
  refine ⟨?_, fun i hi => (h.at_ i hi).block (Below.heap_setCell _ _ _ _ h.ne), fun o => by rw [World.frozen?_setCell]; exact h.fr o, h.ne, by rw [PF.size_set]; exact h.lt, h.n1, h.n2⟩
  exact h.head.set_ 2 v
theorem PF.cells (h : PF w f lb n lc R fv) : w.cell? ⟨f, 0, none⟩ = some (.slice (some ⟨lb, 0, none⟩) n lc) ∧ w.cell? ⟨f, 1, none⟩ = some (.int .i64 R.first) ∧ w.cell? ⟨f, 2, none⟩ = some fv ∧ (∀ o, w.frozen? ⟨f, o, none⟩ = false) := by
  refine ⟨?_, ?_, ?_, fun o => h.head.frozen o⟩
  · exact h.head.cell 0
  · exact h.head.cell 1
  · exact h.head.cell 2
end
end Go.Proofs.Ytbknmfegckeogaa

/- Small functions of the program's forest, by walks: nothing, Has, head, join, check, Size, Parent. Condition: the forest has 1 to 4096 places. -/
namespace Go.Proofs.Ytbknmfegckeogaa
open Go.RowKit
set_option linter.unusedVariables false
set_option linter.unusedSimpArgs false

theorem ret_bool {a b : Bool} (h : a = b) : Ending.returned (.bool a) = .returned (.bool b) := by rw [h]

set_option maxRecDepth 100000 in
set_option maxHeartbeats 400000 in
theorem nothing_is {w : World} {f lb n lc : Nat} {R : Raw} {fv : Value} (h : PF w f lb n lc R fv) : Calls Try.prog 81 #[.pointer (some ⟨f, 0, none⟩)] w fun e w' => e = .returned (.bool false) ∧ w = w' := by
  obtain ⟨c0, _, _, _⟩ := h.cells
  have hn := h.n1
  have hn2 := h.n2
  have hz : ((n : Int) == 0) = false := by simp; omega
  clear h
  go_enter Try.func81, Try.ntmps81
  go_wp2
  go_ret
  exact ⟨rfl, rfl⟩

/-- Is a node there? -/
def hasR (n : Nat) (R : Raw) (x : Int) : Bool := decide (0 ≤ x) && (decide (x < (n : Int)) && (R.M x.toNat).t)

set_option maxRecDepth 100000 in
set_option maxHeartbeats 1000000 in
theorem has_is {w : World} {f lb n lc : Nat} {R : Raw} {fv : Value} (h : PF w f lb n lc R fv) (x : Int) : Calls Try.prog 80 #[.pointer (some ⟨f, 0, none⟩), .int .i64 x] w fun e w' => e = .returned (.bool (hasR n R x)) ∧ w = w' := by
  have CN := nothing_is h
  obtain ⟨c0, _, _, _⟩ := h.cells
  have hn := h.n1
  have hn2 := h.n2
  by_cases h0 : 0 ≤ x
  · by_cases hlt : x < (n : Int)
    · obtain ⟨k, rfl⟩ := Int.eq_ofNat_of_zero_le h0
      have hk : k < n := by omega
      have d0 := (h.at_ k hk).c0
      have hr : hasR n R (k : Int) = (R.M k).t := by simp [hasR, hk]
      rw [hr]
      have e1 : decide ((0 : Int) ≤ (k : Int)) = true := by simp
      have e2 : decide ((k : Int) < (n : Int)) = true := by simpa using hlt
      generalize (R.M k).t = b at *
      clear h hr
      go_enter Try.func80, Try.ntmps80
      go_wp2_with (go_at_call 81; refine CN.mono ?_; rintro e w' ⟨rfl, rfl⟩)
      go_ret
      exact ⟨rfl, rfl⟩
    · have hr : hasR n R x = false := by simp [hasR, hlt]
      rw [hr]
      have e1 : decide ((0 : Int) ≤ x) = true := by simpa using h0
      have e2 : decide (x < (n : Int)) = false := by simpa using hlt
      clear h hr
      go_enter Try.func80, Try.ntmps80
      go_wp2_with (go_at_call 81; refine CN.mono ?_; rintro e w' ⟨rfl, rfl⟩)
      go_ret
      exact ⟨rfl, rfl⟩
  · have hr : hasR n R x = false := by simp [hasR, h0]
    rw [hr]
    have e1 : decide ((0 : Int) ≤ x) = false := by simpa using h0
    clear h hr
    go_enter Try.func80, Try.ntmps80
    go_wp2_with (go_at_call 81; refine CN.mono ?_; rintro e w' ⟨rfl, rfl⟩)
    go_ret
    exact ⟨rfl, rfl⟩

/-- Where a row begins. -/
def headA (f lb : Nat) (p : Int) : Addr := if p < 0 then ⟨f, 1, none⟩ else ⟨lb, p.toNat * 5 + 2, none⟩

set_option maxRecDepth 100000 in
set_option maxHeartbeats 400000 in
theorem head_is {w : World} {f lb n lc : Nat} {R : Raw} {fv : Value} (h : PF w f lb n lc R fv) (p : Int) (hp : p < (n : Int)) : Calls Try.prog 90 #[.pointer (some ⟨f, 0, none⟩), .int .i64 p] w fun e w' => e = .returned (.pointer (some (headA f lb p))) ∧ w = w' := by
  obtain ⟨c0, _, _, _⟩ := h.cells
  have hn2 := h.n2
  unfold headA
  by_cases h0 : p < 0
  · rw [if_pos h0]
    clear h
    go_enter Try.func90, Try.ntmps90
    go_wp2
    go_ret
    exact ⟨rfl, rfl⟩
  · rw [if_neg h0]
    obtain ⟨k, rfl⟩ := Int.eq_ofNat_of_zero_le (show 0 ≤ p by omega)
    have hk : k < n := by omega
    rw [Int.toNat_natCast]
    clear h
    go_enter Try.func90, Try.ntmps90
    go_wp2
    go_ret
    exact ⟨rfl, rfl⟩

theorem head_cell {w : World} {f lb n lc : Nat} {R : Raw} {fv : Value} (h : PF w f lb n lc R fv) (p : Int) (hp : p < (n : Int)) : w.cell? (headA f lb p) = some (.int .i64 (R.head p)) ∧ w.frozen? (headA f lb p) = false := by
  unfold headA Raw.head
  by_cases h0 : p < 0
  · rw [if_pos h0, if_pos h0]
    exact ⟨h.cells.2.1, h.cells.2.2.2 1⟩
  · rw [if_neg h0, if_neg h0]
    exact ⟨(h.at_ p.toNat (by omega)).c2, h.fr _⟩
theorem head_set {w : World} {f lb n lc : Nat} {R : Raw} {fv : Value} (h : PF w f lb n lc R fv) (p v : Int) (hp : p < (n : Int)) : PF (w.setCell (headA f lb p) (.int .i64 v)) f lb n lc (R.setHead p v) fv := by
  unfold headA Raw.setHead
  by_cases h0 : p < 0
  · rw [if_pos h0, if_pos h0]
    exact h.setFirst v
  · rw [if_neg h0, if_neg h0]
    exact h.setD p.toNat (by omega) v
theorem head_own (f lb : Nat) (p : Int) : own2 f lb (headA f lb p).block := by
  unfold headA
  by_cases h0 : p < 0
  · rw [if_pos h0]; exact .inl rfl
  · rw [if_neg h0]; exact .inr rfl
end Go.Proofs.Ytbknmfegckeogaa

/- join of the program's forest, by walks. Conditions: the forest has 1 to 4096 places; what is joined lies in it, or is none. -/
namespace Go.Proofs.Ytbknmfegckeogaa
open Go.RowKit
set_option linter.unusedVariables false
set_option linter.unusedSimpArgs false

theorem Raw.join_n (R : Raw) (p b : Int) : R.join p (-1) b = if b = -1 then R.setHead p b else (R.setHead p b).setL b.toNat (-1) := by simp [Raw.join]
theorem Raw.join_s (R : Raw) (p b : Int) (k : Nat) : R.join p (k : Int) b = if b = -1 then R.setR k b else (R.setR k b).setL b.toNat (k : Int) := by
  have h : ¬ ((k : Nat) : Int) = -1 := by omega
  simp [Raw.join, h]

set_option maxRecDepth 100000 in
set_option maxHeartbeats 1000000 in
theorem join_nn {w : World} {f lb n lc : Nat} {R : Raw} {fv : Value} (h : PF w f lb n lc R fv) (p : Int) (hp : p < (n : Int)) :
    Calls Try.prog 89 #[.pointer (some ⟨f, 0, none⟩), .int .i64 p, .int .i64 (-1), .int .i64 (-1)] w fun e w' => (∃ v, e = .returned v) ∧ PF w' f lb n lc (R.join p (-1) (-1)) fv ∧ Apart (own2 f lb) w w' := by
  have CH := head_is h p hp
  obtain ⟨hc, hf⟩ := head_cell h p hp
  have H1 := Lib.hid (head_set h p (-1) hp)
  have HO := Lib.hid (head_own f lb p)
  rw [Raw.join_n, if_pos rfl]
  generalize headA f lb p = ad at *
  clear h
  go_enter Try.func89, Try.ntmps89
  go_wp2_with (go_at_call 90; refine CH.mono ?_; rintro e w' ⟨rfl, rfl⟩)
  go_end0
  exact ⟨⟨_, rfl⟩, H1.out, (Apart.refl _ w).setCell (.inl HO.out) _⟩

set_option maxRecDepth 100000 in
set_option maxHeartbeats 1000000 in
theorem join_ns {w : World} {f lb n lc : Nat} {R : Raw} {fv : Value} (h : PF w f lb n lc R fv) (p : Int) (hp : p < (n : Int)) (b : Nat) (hb : b < n) :
    Calls Try.prog 89 #[.pointer (some ⟨f, 0, none⟩), .int .i64 p, .int .i64 (-1), .int .i64 b] w fun e w' => (∃ v, e = .returned v) ∧ PF w' f lb n lc (R.join p (-1) b) fv ∧ Apart (own2 f lb) w w' := by
  have CH := head_is h p hp
  obtain ⟨hc, hf⟩ := head_cell h p hp
  have h1 := head_set h p b hp
  have hn2 := h.n2
  have hbT : ((b : Nat) : Int).toNat = b := by omega
  have hbn : ¬ ((b : Nat) : Int) = -1 := by omega
  have h2 := h1.setL b hb (-1)
  have d0 := h1.cells.1
  have d3 := (h1.at_ b hb).c3
  have df := h1.fr (b * 5 + 3)
  have hbz : ((b : Int) != -1) = true := by simp
  have H2 := Lib.hid h2
  have HO := Lib.hid (head_own f lb p)
  rw [Raw.join_n, if_neg hbn, hbT]
  generalize headA f lb p = ad at *
  clear h h1 h2 hbT hbn
  go_enter Try.func89, Try.ntmps89
  go_wp2_with (go_at_call 90; refine CH.mono ?_; rintro e w' ⟨rfl, rfl⟩)
  go_end0
  exact ⟨⟨_, rfl⟩, H2.out, ((Apart.refl _ w).setCell (.inl HO.out) _).setCell (p := ⟨lb, b * 5 + 3, none⟩) (.inl (.inr rfl)) _⟩

set_option maxRecDepth 100000 in
set_option maxHeartbeats 1000000 in
theorem join_sn {w : World} {f lb n lc : Nat} {R : Raw} {fv : Value} (h : PF w f lb n lc R fv) (p : Int) (a : Nat) (ha : a < n) :
    Calls Try.prog 89 #[.pointer (some ⟨f, 0, none⟩), .int .i64 p, .int .i64 a, .int .i64 (-1)] w fun e w' => (∃ v, e = .returned v) ∧ PF w' f lb n lc (R.join p a (-1)) fv ∧ Apart (own2 f lb) w w' := by
  have hn2 := h.n2
  have d0 := h.cells.1
  have d4 := (h.at_ a ha).c4
  have df := h.fr (a * 5 + 4)
  have haz : ((a : Int) == -1) = false := by simp
  have H1 := Lib.hid (h.setR a ha (-1))
  rw [Raw.join_s, if_pos rfl]
  clear h
  go_enter Try.func89, Try.ntmps89
  go_wp2
  go_end0
  exact ⟨⟨_, rfl⟩, H1.out, (Apart.refl _ w).setCell (p := ⟨lb, a * 5 + 4, none⟩) (.inl (.inr rfl)) _⟩

set_option maxRecDepth 100000 in
set_option maxHeartbeats 1000000 in
theorem join_ss {w : World} {f lb n lc : Nat} {R : Raw} {fv : Value} (h : PF w f lb n lc R fv) (p : Int) (a b : Nat) (ha : a < n) (hb : b < n) :
    Calls Try.prog 89 #[.pointer (some ⟨f, 0, none⟩), .int .i64 p, .int .i64 a, .int .i64 b] w fun e w' => (∃ v, e = .returned v) ∧ PF w' f lb n lc (R.join p a b) fv ∧ Apart (own2 f lb) w w' := by
  have hn2 := h.n2
  have d0 := h.cells.1
  have d4 := (h.at_ a ha).c4
  have df := h.fr (a * 5 + 4)
  have haz : ((a : Int) == -1) = false := by simp
  have hbz : ((b : Int) != -1) = true := by simp
  have h1 := h.setR a ha b
  have hbT : ((b : Nat) : Int).toNat = b := by omega
  have hbn : ¬ ((b : Nat) : Int) = -1 := by omega
  have H2 := Lib.hid (h1.setL b hb a)
  have d0' := h1.cells.1
  have d3' := (h1.at_ b hb).c3
  have df' := h1.fr (b * 5 + 3)
  rw [Raw.join_s, if_neg hbn, hbT]
  clear h h1 hbT hbn
  go_enter Try.func89, Try.ntmps89
  go_wp2
  go_end0
  exact ⟨⟨_, rfl⟩, H2.out, ((Apart.refl _ w).setCell (p := ⟨lb, a * 5 + 4, none⟩) (.inl (.inr rfl)) _).setCell (p := ⟨lb, b * 5 + 3, none⟩) (.inl (.inr rfl)) _⟩

/-- A place, or none. -/
def inF (n : Nat) (a : Int) : Prop := a = -1 ∨ ∃ k : Nat, a = (k : Int) ∧ k < n
theorem join_is {w : World} {f lb n lc : Nat} {R : Raw} {fv : Value} (h : PF w f lb n lc R fv) (p a b : Int) (hp : p < (n : Int)) (ha : inF n a) (hb : inF n b) :
    Calls Try.prog 89 #[.pointer (some ⟨f, 0, none⟩), .int .i64 p, .int .i64 a, .int .i64 b] w fun e w' => (∃ v, e = .returned v) ∧ PF w' f lb n lc (R.join p a b) fv ∧ Apart (own2 f lb) w w' := by
  rcases ha with rfl | ⟨k, rfl, hk⟩ <;> rcases hb with rfl | ⟨j, rfl, hj⟩
  · exact join_nn h p hp
  · exact join_ns h p hp j hj
  · exact join_sn h p k hk
  · exact join_ss h p k j hk hj

set_option maxRecDepth 100000 in
set_option maxHeartbeats 400000 in
theorem check_is {w : World} {f lb n lc : Nat} {R : Raw} {fv : Value} (h : PF w f lb n lc R fv) (x : Int) : Calls Try.prog 85 #[.pointer (some ⟨f, 0, none⟩), .int .i64 x] w fun e w' => e = .returned (.int .i64 (if hasR n R x then 0 else 4)) ∧ w = w' := by
  have CN := nothing_is h
  have CH := has_is h x
  clear h
  cases hb : hasR n R x
  all_goals
    rw [hb] at CH
    clear hb
    go_enter Try.func85, Try.ntmps85
    go_wp2_with (first | (go_at_call 81; refine CN.mono ?_; rintro e w' ⟨rfl, rfl⟩) | (go_at_call 80; refine CH.mono ?_; rintro e w' ⟨rfl, rfl⟩))
    go_ret
    exact ⟨rfl, rfl⟩

end Go.Proofs.Ytbknmfegckeogaa

/- Rows of the call's own: what stays, how it reads. No program walked. -/
namespace Go.Proofs.Ytbknmfegckeogaa
open Go.RowKit
set_option linter.unusedVariables false

theorem own_slice {w : World} {base : Nat} {e : TypeId} {size n : Nat} {v : Value} {xs : List Value} (h : w.ownsRow base e size v n xs) : ∃ A cap, v = .slice A n cap := by
  rcases h.2 with ⟨rfl, rfl⟩ | ⟨g, cap, cur, rfl, _⟩
  · exact ⟨none, 0, rfl⟩
  · exact ⟨_, cap, rfl⟩
theorem below_own {w w' : World} {base : Nat} {e : TypeId} {size : Nat} {v : Value} {n : Nat} {xs : List Value} (h : w.ownsRow base e size v n xs) (hb : Below w.heap.size w w') : w'.ownsRow base e size v n xs := by
  refine ⟨h.1, ?_⟩
  rcases h.2 with hn | ⟨g, cap, cur, hv, hbg, hg, rest⟩
  · exact .inl hn
  · exact .inr ⟨g, cap, cur, hv, hbg, (hb.block g (Array.getElem?_eq_some_iff.1 hg).1).trans hg, rest⟩
theorem own_mono {w : World} {B B' : Nat} {e : TypeId} {size : Nat} {v : Value} {n : Nat} {xs : List Value} (h : w.ownsRow B e size v n xs) (hB : B' ≤ B) : w.ownsRow B' e size v n xs := by
  refine ⟨h.1, ?_⟩
  rcases h.2 with hn | ⟨g, cap, cur, hv, hbg, hg, rest⟩
  · exact .inl hn
  · exact .inr ⟨g, cap, cur, hv, Nat.le_trans hB hbg, hg, rest⟩
theorem own_cap {w : World} {B : Nat} {e : TypeId} {size : Nat} {A : Option Addr} {n c : Nat} {xs : List Value} (h : w.ownsRow B e size (.slice A n c) n xs) : n ≤ c ∧ c ≤ maxLen := by
  rcases h.2 with ⟨hn, h0⟩ | ⟨g, cap, cur, hv, hbg, hg, h1, h2, rest⟩
  · injection hn with _ _ hc
    subst hc
    subst h0
    exact ⟨Nat.le_refl _, Nat.zero_le _⟩
  · injection hv with _ _ hc
    subst hc
    exact ⟨h1, h2⟩
theorem own_apart {S : Nat → Prop} {w w' : World} {B : Nat} {e : TypeId} {size : Nat} {v : Value} {n : Nat} {xs : List Value} (h : w.ownsRow B e size v n xs) (hA : Apart S w w') (hS : ∀ k, v.ownBlock = some k → ¬ S k) : w'.ownsRow B e size v n xs := by
  refine ⟨h.1, ?_⟩
  rcases h.2 with hn | ⟨g, cap, cur, hv, hbg, hg, rest⟩
  · exact .inl hn
  · exact .inr ⟨g, cap, cur, hv, hbg, (hA.block g (Array.getElem?_eq_some_iff.1 hg).1 (hS g (by rw [hv]; rfl))).trans hg, rest⟩
theorem own_form {w : World} {B : Nat} {e : TypeId} {size : Nat} {O : Option Addr} {n c : Nat} {xs : List Value} (h : w.ownsRow B e size (.slice O n c) n xs) (hn : 0 < n) : ∃ g, O = some ⟨g, 0, none⟩ := by
  rcases h.2 with ⟨hv, h0⟩ | ⟨g, cap, cur, hv, _⟩
  · omega
  · injection hv with hO
    exact ⟨g, hO⟩
theorem infoInt : (Try.prog.info? 3).map (fun i => (i.zero, i.size, i.bytes)) = some (some (.int .i64 0), 1, 8) := by kernel_rfl

/-- Whole numbers as values. -/
def intV (L : List Int) : List Value := L.map fun x => Value.int .i64 x
theorem intV_len (L : List Int) : (intV L).length = L.length := by simp [intV]
theorem intV_one (L : List Int) : ∀ u ∈ intV L, u.oneCell' = true := by
  intro u hu
  obtain ⟨x, _, rfl⟩ := List.mem_map.1 hu
  rfl
theorem intV_app (a b : List Int) : intV (a ++ b) = intV a ++ intV b := by simp [intV]
/-- A slice of whole numbers. -/
def Ints (w : World) (B : Nat) (A : Option Addr) (L : List Int) : Prop := Reads w B 1 A L.length (intV L)
theorem Ints.at_ {w : World} {B : Nat} {A : Option Addr} {L : List Int} (h : Ints w B A L) {k : Nat} (hk : k < L.length) : ∃ ad : Addr, A = some ad ∧ ad.block < B ∧ w.cell? (ad.add k) = some (.int .i64 (L[k]'hk)) := by
  obtain ⟨ad, u, e, hb, hu, hc⟩ := Reads.at_ h hk
  have hu' : u = .int .i64 (L[k]'hk) := by
    rw [intV, List.getElem?_map, List.getElem?_eq_getElem hk] at hu
    simpa using hu.symm
  exact ⟨ad, e, hb, hu' ▸ hc⟩
theorem Ints.drewN {w : World} {B : Nat} {A : Option Addr} {L : List Int} (h : Ints w B A L) (k : Nat) : Ints (w.drewN k) B A L := Reads.drewN h k
theorem Ints.below {w w' : World} {B : Nat} {A : Option Addr} {L : List Int} (h : Ints w B A L) (hb : Below B w w') : Ints w' B A L := Reads.below h hb
theorem Ints.more {w : World} {B B' : Nat} {A : Option Addr} {L : List Int} (h : Ints w B A L) (hB : B ≤ B') : Ints w B' A L := Reads.more h hB
theorem reads_one_ (W : World) (g : Int) : Reads (W.alloc (.cells #[.int .i64 g] 3)) (W.heap.size + 1) 1 (some ⟨W.heap.size, 0, none⟩) 1 [.int .i64 g] :=
  ⟨rfl, fun _ => ⟨_, rfl, by simp, fun j u hu => by
    rcases j with _ | j
    · simp at hu
      subst hu
      exact (Blk.new W 3 #[.int .i64 g]).cell 0
    · simp at hu⟩⟩
/-- Natural numbers as whole ones. -/
def nats (l : List Nat) : List Int := l.map fun (x : Nat) => (x : Int)
theorem nats_len (l : List Nat) : (nats l).length = l.length := by simp [nats]
theorem nats_snoc (l : List Nat) (x : Nat) : nats (l ++ [x]) = nats l ++ [(x : Int)] := by simp [nats]
end Go.Proofs.Ytbknmfegckeogaa

/- Rows of the program's forest: row, Children, Roots, Parent, by walks. Condition: the places are a forest's. -/
namespace Go.Proofs.Ytbknmfegckeogaa
open Go.RowKit
set_option linter.unusedVariables false
set_option linter.unusedSimpArgs false

/-- The places are linked as a row is. -/
def Linked (R : Raw) (n : Nat) (K : List Nat) : Prop := (∀ i ∈ K, i < n) ∧ ∀ a i b, K = a ++ i :: b → (R.M i).r = hd b

end Go.Proofs.Ytbknmfegckeogaa

/- Children, Roots, Parent of the program's forest, by walks. Condition: the places are a forest's. -/
namespace Go.Proofs.Ytbknmfegckeogaa
open Go.RowKit
set_option linter.unusedVariables false
set_option linter.unusedSimpArgs false

theorem nodup_le : ∀ (n : Nat) (L : List Nat), L.Nodup → (∀ i ∈ L, i < n) → L.length ≤ n
  | 0, L, _, h => by
    cases L with
    | nil => exact Nat.le_refl _
    | cons x l => exact absurd (h x (by simp)) (Nat.not_lt_zero _)
  | n + 1, L, hd, h => by
    have h1 := nodup_le n (L.erase n) (hd.erase n) (fun i hi => by
      have h2 := h i (List.mem_of_mem_erase hi)
      have h3 : i ≠ n := fun e => by subst e; exact absurd hi hd.not_mem_erase
      omega)
    have h4 := List.length_erase_le (a := n) (l := L)
    by_cases hm : n ∈ L
    · have := List.length_erase_of_mem hm
      omega
    · rw [List.erase_of_not_mem hm] at h1
      omega

theorem linked_rep {R : Raw} {F : Fo} (h : Rep R F) (hF : WF F) (p : Int) : Linked R F.n (F.kids p) := by
  refine ⟨fun i hi => hF.lt i ((hF.kin p i).1 hi).1, fun a i b e => ?_⟩
  have hi : i ∈ F.kids p := by rw [e]; simp
  obtain ⟨ht, hp⟩ := (hF.kin p i).1 hi
  rw [h.at_ i (hF.lt i ht)]
  have hnd := hF.nd p
  rw [e] at hnd
  have hia : i ∉ a := fun hm => (List.nodup_append.1 hnd).2.2 i hm i (by simp) rfl
  have e2 : (F.nod i).r = nxt i (F.kids (F.par i)) := by simp [Fo.nod, ht]
  rw [e2, hp, e, nxt_at b hia]
theorem kids_le {F : Fo} (hF : WF F) (p : Int) : (F.kids p).length ≤ F.n := nodup_le _ _ (hF.nd p) fun i hi => hF.lt i ((hF.kin p i).1 hi).1

/-- Is a node in the forest? -/
def Fo.has (F : Fo) (x : Int) : Bool := decide (0 ≤ x) && F.there x.toNat
theorem has_rep {R : Raw} {F : Fo} (h : Rep R F) (hF : WF F) (x : Int) : hasR F.n R x = F.has x := by
  unfold hasR Fo.has
  by_cases h0 : 0 ≤ x
  · by_cases h1 : x < (F.n : Int)
    · rw [h.at_ x.toNat (by omega)]
      cases ht : F.there x.toNat <;> simp [h0, h1, Fo.nod, ht, Nd.zero]
    · have : F.there x.toNat = false := by
        cases ht : F.there x.toNat
        · rfl
        · exact absurd (hF.lt _ ht) (by omega)
      simp [h1, this]
  · simp [h0]
theorem has_nat {F : Fo} {x : Int} (h : F.has x = true) : ∃ k : Nat, x = (k : Int) ∧ F.there k = true := by
  unfold Fo.has at h
  simp at h
  exact ⟨x.toNat, by omega, h.2⟩
theorem has_not {F : Fo} (hF : WF F) {x : Int} (h : F.has x = false) : F.kids x = [] ∨ x = -1 := by
  by_cases e : x = -1
  · exact .inr e
  · refine .inl (List.eq_nil_iff_forall_not_mem.2 fun i hi => ?_)
    obtain ⟨h1, h2⟩ := (hF.kin _ _).1 hi
    rcases hF.up i h1 with e1 | ⟨k, e1, hk⟩
    · exact e (h2.symm.trans e1)
    · rw [← h2, e1] at h
      simp [Fo.has, hk] at h

/-- The parent's answer. -/
def Fo.up? (F : Fo) (x : Int) : Int × Bool := if F.has x = true ∧ F.par x.toNat ≠ -1 then (F.par x.toNat, true) else (0, false)

set_option maxRecDepth 100000 in
set_option maxHeartbeats 1000000 in
theorem parent_is {w : World} {f lb lc : Nat} {R : Raw} {fv : Value} {F : Fo} (h : PF w f lb F.n lc R fv) (hR : Rep R F) (hF : WF F) (x : Int) :
    Calls Try.prog 49 #[.pointer (some ⟨f, 0, none⟩), .int .i64 x] w fun e w' => e = .returned (.tuple #[.int .i64 (F.up? x).1, .bool (F.up? x).2]) ∧ w = w' := by
  have CH := has_is h x
  rw [has_rep hR hF] at CH
  have d0 := h.cells.1
  have hn2 := h.n2
  by_cases hx : F.has x = true
  · rw [hx] at CH
    obtain ⟨k, rfl, hk⟩ := has_nat hx
    have hkn := hF.lt k hk
    have d1 := (h.at_ k hkn).c1
    rw [hR.at_ k hkn] at d1
    have e2 : (F.nod k).u = F.par k := by simp [Fo.nod, hk]
    rw [e2] at d1
    have hT : ((k : Nat) : Int).toNat = k := by omega
    by_cases hu : F.par k = -1
    · have e3 : F.up? (k : Int) = (0, false) := by simp [Fo.up?, hT, hu]
      rw [e3]
      rw [hu] at d1
      clear h hR hF e2 hT hx e3
      go_enter Try.func49, Try.ntmps49
      go_wp2_with (go_at_call 80; refine CH.mono ?_; rintro e w' ⟨rfl, rfl⟩)
      go_ret2
      exact ⟨rfl, rfl⟩
    · have e3 : F.up? (k : Int) = (F.par k, true) := by simp [Fo.up?, hT, hu, hx]
      rw [e3]
      have hu' : (F.par k == -1) = false := by simpa using hu
      generalize F.par k = z at *
      clear h hR hF e2 hT hx e3 hu
      go_enter Try.func49, Try.ntmps49
      go_wp2_with (go_at_call 80; refine CH.mono ?_; rintro e w' ⟨rfl, rfl⟩)
      go_ret2
      exact ⟨rfl, rfl⟩
  · have hx' : F.has x = false := by simpa using hx
    rw [hx'] at CH
    have e3 : F.up? x = (0, false) := by simp [Fo.up?, hx']
    rw [e3]
    clear h hR hF e3 hx
    go_enter Try.func49, Try.ntmps49
    go_wp2_with (go_at_call 80; refine CH.mono ?_; rintro e w' ⟨rfl, rfl⟩)
    go_ret2
    exact ⟨rfl, rfl⟩
end Go.Proofs.Ytbknmfegckeogaa

/- Under of the program's forest, by a walk. Condition: the places are a forest's. -/
namespace Go.Proofs.Ytbknmfegckeogaa
open Go.RowKit
set_option linter.unusedVariables false
set_option linter.unusedSimpArgs false

/-- One comes to y by going up, the place itself counted in. -/
inductive Up (F : Fo) (y : Nat) : Int → Prop
  | here : Up F y (y : Int)
  | step {i : Nat} : Up F y (F.par i) → Up F y (i : Int)

theorem up_none {F : Fo} {y : Nat} : ¬ Up F y (-1) := by
  intro h
  generalize hz : (-1 : Int) = z at h
  cases h <;> omega
theorem up_step {F : Fo} {y i : Nat} (h : i ≠ y) : Up F y (i : Int) ↔ Up F y (F.par i) := by
  constructor
  · intro hu
    generalize hz : ((i : Nat) : Int) = z at hu
    cases hu with
    | here => omega
    | @step k hk =>
      have : k = i := by omega
      subst this
      exact hk
  · exact fun hu => .step hu
theorem bounded (h : Nat → Nat) : ∀ n : Nat, ∃ H, ∀ i, i < n → h i ≤ H
  | 0 => ⟨0, fun i hi => absurd hi (Nat.not_lt_zero _)⟩
  | n + 1 => by
    obtain ⟨H, hH⟩ := bounded h n
    refine ⟨max H (h n), fun i hi => ?_⟩
    by_cases e : i = n
    · subst e; omega
    · have := hH i (by omega); omega
/-- How far it may still go up. -/
def climbs (h : Nat → Nat) (H : Nat) (v : Value) : Nat := match v with | .int _ z => if z < 0 then 0 else H + 1 - h z.toNat | _ => 0

end Go.Proofs.Ytbknmfegckeogaa

/- The walk in preorder with links alone, plain: what is still to come at a place. No program in sight. -/
namespace Go.Proofs.Ytbknmfegckeogaa
set_option linter.unusedVariables false
set_option linter.unusedSimpArgs false

/-- What comes behind all that is under i, in the walk over what is under x. -/
inductive After (F : Fo) (x : Nat) : Nat → List Nat → Prop
  | top : After F x x []
  | up {i j : Nat} {pre s a b : List Nat} : i ≠ x → F.there i = true → F.there j = true → F.par i = (j : Int) → F.kids (j : Int) = pre ++ i :: s → Flat F s a → After F x j b → After F x i (a ++ b)

theorem flat_cons {F : Fo} {k : Nat} {s a : List Nat} (h : Flat F (k :: s) a) : ∃ c d, a = k :: (c ++ d) ∧ Flat F (F.kids (k : Int)) c ∧ Flat F s d := by
  cases h with
  | cons h1 h2 => exact ⟨_, _, rfl, h1, h2⟩
theorem flat_nil {F : Fo} {a : List Nat} (h : Flat F [] a) : a = [] := by
  cases h
  rfl

/-- The walk stands at a place, all ahead of what is under it printed: the rest is t. -/
def At (F : Fo) (x i : Nat) (t : List Nat) : Prop := F.there i = true ∧ ∃ a b, Flat F (F.kids (i : Int)) a ∧ After F x i b ∧ t = a ++ b

theorem at_start {F : Fo} {x : Nat} (hx : F.there x = true) {a : List Nat} (h : Flat F (F.kids (x : Int)) a) : At F x x a := ⟨hx, a, [], h, .top, by simp⟩
/-- Down: to the first child. -/
theorem at_down {F : Fo} (hF : WF F) {x i : Nat} {t : List Nat} (h : At F x i t) {k : Nat} {s : List Nat} (hk : F.kids (i : Int) = k :: s) (hx : k ≠ x) : ∃ t', t = k :: t' ∧ At F x k t' := by
  obtain ⟨hi, a, b, ha, hb, rfl⟩ := h
  rw [hk] at ha
  obtain ⟨c, d, rfl, hc, hd⟩ := flat_cons ha
  obtain ⟨h1, h2⟩ := (hF.kin (i : Int) k).1 (by rw [hk]; simp)
  exact ⟨c ++ d ++ b, by simp, h1, c, d ++ b, hc, .up (pre := []) hx h1 hi h2 (by rw [hk]; rfl) hd hb, by simp⟩
/-- No child: what is to come is what comes behind. -/
theorem at_leaf {F : Fo} {x i : Nat} {t : List Nat} (h : At F x i t) (hk : F.kids (i : Int) = []) : After F x i t := by
  obtain ⟨hi, a, b, ha, hb, rfl⟩ := h
  rw [hk] at ha
  rw [flat_nil ha]
  exact hb
theorem after_top {F : Fo} {x : Nat} {t : List Nat} (h : After F x x t) : t = [] := by
  cases h with
  | top => rfl
  | up hx => exact absurd rfl hx
/-- No sibling behind: up. -/
theorem after_up {F : Fo} (hF : WF F) {x i : Nat} {t : List Nat} (h : After F x i t) (hix : i ≠ x) (hn : nxt i (F.kids (F.par i)) = -1) : ∃ j : Nat, F.par i = (j : Int) ∧ F.there i = true ∧ F.there j = true ∧ After F x j t := by
  cases h with
  | top => exact absurd rfl hix
  | @up _ j pre s a b hx hi hj hp hk hs hb =>
    have hnd := hF.nd (j : Int)
    rw [hk] at hnd
    have hpre : i ∉ pre := fun hm => (List.nodup_append.1 hnd).2.2 i hm i (by simp) rfl
    rw [hp, hk, nxt_at s hpre] at hn
    have hs0 : s = [] := hd_neg.1 hn
    subst hs0
    rw [flat_nil hs]
    exact ⟨j, hp, hi, hj, hb⟩
/-- A sibling behind: on to it. -/
theorem after_next {F : Fo} (hF : WF F) {x i : Nat} {t : List Nat} (h : After F x i t) (hix : i ≠ x) (hn : nxt i (F.kids (F.par i)) ≠ -1) : ∃ (k : Nat) (t' : List Nat), nxt i (F.kids (F.par i)) = (k : Int) ∧ t = k :: t' ∧ (k ≠ x → At F x k t') := by
  cases h with
  | top => exact absurd rfl hix
  | @up _ j pre s a b hx hi hj hp hk hs hb =>
    have hnd := hF.nd (j : Int)
    rw [hk] at hnd
    have hpre : i ∉ pre := fun hm => (List.nodup_append.1 hnd).2.2 i hm i (by simp) rfl
    rw [hp, hk, nxt_at s hpre] at hn ⊢
    rcases s with _ | ⟨k, s⟩
    · exact absurd rfl hn
    · obtain ⟨c, d, rfl, hc, hd⟩ := flat_cons hs
      obtain ⟨h1, h2⟩ := (hF.kin (j : Int) k).1 (by rw [hk]; simp)
      exact ⟨k, c ++ d ++ b, rfl, by simp, fun hkx => ⟨h1, c, d ++ b, hc, .up (pre := pre ++ [i]) hkx h1 hj h2 (by rw [hk]; simp) hd hb, by simp⟩⟩

/-- Where something is still to come, the place is x's, or under it. -/
theorem after_above {F : Fo} {x i : Nat} {t : List Nat} (h : After F x i t) : i = x ∨ Above F x i := by
  induction h with
  | top => exact .inl rfl
  | up hx hi hj hp hk hs hb ih =>
    rcases ih with rfl | ih
    · exact .inr (.kid hi hp)
    · exact .inr (.up hi hp ih)
theorem kid_ne {F : Fo} (hF : WF F) {x j k : Nat} (h : j = x ∨ Above F x j) (hk : F.there k = true) (hp : F.par k = (j : Int)) : k ≠ x := by
  obtain ⟨g, hg⟩ := hF.ht
  have h1 := hg k j hk hp
  rcases h with rfl | h
  · rintro rfl; omega
  · have h2 := above_ht h hg
    rintro rfl
    omega
theorem at_down' {F : Fo} (hF : WF F) {x i : Nat} {t : List Nat} (h : At F x i t) {k : Nat} {s : List Nat} (hk : F.kids (i : Int) = k :: s) : ∃ t', t = k :: t' ∧ At F x k t' := by
  have h0 := h
  obtain ⟨hi, a, b, ha, hb, _⟩ := h0
  obtain ⟨h1, h2⟩ := (hF.kin (i : Int) k).1 (by rw [hk]; simp)
  exact at_down hF h hk (kid_ne hF (after_above hb) h1 h2)
theorem after_next' {F : Fo} (hF : WF F) {x i : Nat} {t : List Nat} (h : After F x i t) (hix : i ≠ x) (hn : nxt i (F.kids (F.par i)) ≠ -1) : ∃ (k : Nat) (t' : List Nat), nxt i (F.kids (F.par i)) = (k : Int) ∧ t = k :: t' ∧ At F x k t' := by
  have h0 := h
  obtain ⟨k, t', e1, e2, e3⟩ := after_next hF h hix hn
  refine ⟨k, t', e1, e2, e3 ?_⟩
  cases h0 with
  | top => exact absurd rfl hix
  | @up _ j pre s a b hx hi hj hp hk hs hb =>
    have hnd := hF.nd (j : Int)
    rw [hk] at hnd
    have hpre : i ∉ pre := fun hm => (List.nodup_append.1 hnd).2.2 i hm i (by simp) rfl
    rw [hp, hk, nxt_at s hpre] at e1
    rcases s with _ | ⟨q, s⟩
    · simp [hd] at e1
    · have : q = k := by simp [hd] at e1; omega
      subst this
      obtain ⟨h1, h2⟩ := (hF.kin (j : Int) q).1 (by rw [hk]; simp)
      exact kid_ne hF (after_above hb) h1 h2
end Go.Proofs.Ytbknmfegckeogaa

/- When two forests are alike; who is under whom behind Drop and Prune; a forest that is one row of nodes: plain. No program in sight. -/
namespace Go.Proofs.Ytbknmfegckeogaa
set_option linter.unusedVariables false
set_option linter.unusedSimpArgs false

/-- Linked alike: the same row. -/
theorem linked_ext (r : Nat → Int) : ∀ (K1 K2 : List Nat), (∀ a i b, K1 = a ++ i :: b → r i = hd b) → (∀ a i b, K2 = a ++ i :: b → r i = hd b) → hd K1 = hd K2 → K1 = K2
  | [], K2, _, _, h => (hd_neg.1 h.symm).symm
  | x :: K1, K2, h1, h2, h => by
    rcases K2 with _ | ⟨y, K2⟩
    · simp [hd] at h
    · have hxy : x = y := by simp [hd] at h; omega
      subst hxy
      have e1 := h1 [] x K1 rfl
      have e2 := h2 [] x K2 rfl
      rw [linked_ext r K1 K2 (fun a i b e => h1 (x :: a) i b (by rw [e]; rfl)) (fun a i b e => h2 (x :: a) i b (by rw [e]; rfl)) (e1.symm.trans e2)]

/-- Both forests have the same. -/
def Alike (F G : Fo) : Prop := F.kids (-1) = G.kids (-1) ∧ ∀ i, i < F.n → F.there i = G.there i ∧ (F.there i = true → F.par i = G.par i) ∧ F.kids (i : Int) = G.kids (i : Int)

theorem alike_iff {R R' : Raw} {F G : Fo} (h : Rep R F) (k : Rep R' G) (hF : WF F) (hG : WF G) (hn : F.n = G.n) : (R.first = R'.first ∧ ∀ i, i < F.n → R.M i = R'.M i) ↔ Alike F G := by
  constructor
  · rintro ⟨h1, h2⟩
    have hk : Rep R G := ⟨fun i hi => (h2 i (by omega)).trans (k.at_ i hi), h1.trans k.first⟩
    have row : ∀ p, hd (F.kids p) = hd (G.kids p) → F.kids p = G.kids p := fun p e => linked_ext _ _ _ (linked_rep h hF p).2 (linked_rep hk hG p).2 e
    refine ⟨row _ (h.first.symm.trans hk.first), fun i hi => ?_⟩
    have e : F.nod i = G.nod i := (h.at_ i hi).symm.trans (hk.at_ i (by omega))
    unfold Fo.nod at e
    by_cases ht : F.there i = true
    · by_cases hg : G.there i = true
      · rw [if_pos ht, if_pos hg] at e
        injection e with _ e1 e2 _ _
        exact ⟨by rw [ht, hg], fun _ => e1, row _ e2⟩
      · rw [if_pos ht, if_neg hg] at e
        injection e with e0
        cases e0
    · by_cases hg : G.there i = true
      · rw [if_neg ht, if_pos hg] at e
        injection e with e0
        cases e0
      · have ht' : F.there i = false := by simpa using ht
        have hg' : G.there i = false := by simpa using hg
        exact ⟨by rw [ht', hg'], fun e => absurd e ht, by rw [hF.kids_nil ht', hG.kids_nil hg']⟩
  · rintro ⟨h1, h2⟩
    refine ⟨by rw [h.first, k.first, h1], fun i hi => ?_⟩
    rw [h.at_ i hi, k.at_ i (by omega)]
    obtain ⟨e1, e2, e3⟩ := h2 i hi
    unfold Fo.nod
    by_cases ht : F.there i = true
    · have hg : G.there i = true := by rw [← e1]; exact ht
      have e4 := e2 ht
      have e5 : F.kids (F.par i) = G.kids (F.par i) := by
        rcases hF.up i ht with e | ⟨j, e, hj⟩
        · rw [e]; exact h1
        · rw [e]; exact (h2 j (hF.lt j hj)).2.2
      rw [if_pos ht, if_pos hg, ← e4, e3, e5]
    · have hg : ¬ G.there i = true := by rw [← e1]; exact ht
      rw [if_neg ht, if_neg hg]

theorem up_above {F : Fo} (hF : WF F) {y x : Nat} (hx : F.there x = true) : Up F y (F.par x) ↔ Above F y x := by
  constructor
  · intro h
    generalize hz : F.par x = z at h
    induction h generalizing x with
    | here => exact .kid hx hz
    | @step i hu ih =>
      have hi : F.there i = true := by
        rcases hF.up x hx with e | ⟨j, e, hj⟩
        · omega
        · have : j = i := by omega
          exact this ▸ hj
      exact .up hx hz (ih hi rfl)
  · intro h
    induction h with
    | kid h1 h2 => rw [h2]; exact .here
    | up h1 h2 h3 ih => rw [h2]; exact .step (ih h3.there)

/-- Behind Drop who is under whom is as it was. -/
def skipP (F : Fo) (x : Nat) (c : Int) : Int := if c = (x : Int) then F.par x else c
theorem drop_par {F : Fo} {x i : Nat} (hi : F.there i = true) : (F.drop x).par i = skipP F x (F.par i) := by
  unfold Fo.drop skipP
  by_cases h : F.par i = (x : Int)
  · simp [hi, h]
  · simp [h]
theorem skip_par {F : Fo} (hF : WF F) {x : Nat} (hx : F.there x = true) : skipP F x (F.par x) = F.par x := by
  unfold skipP
  rw [if_neg (hF.not_self hx)]
theorem up_drop_to {F : Fo} (hF : WF F) {x k : Nat} (hx : F.there x = true) (hk : k ≠ x) {c : Int} (h : Up F k c) : F.ok c → Up (F.drop x) k (skipP F x c) := by
  induction h with
  | here =>
    intro _
    unfold skipP
    rw [if_neg (by omega)]
    exact .here
  | @step i hu ih =>
    intro hc
    have hi : F.there i = true := by
      rcases hc with e | ⟨j, e, hj⟩
      · omega
      · have : j = i := by omega
        exact this ▸ hj
    have h1 := ih (hF.up i hi)
    by_cases hix : i = x
    · subst hix
      rw [skip_par hF hi] at h1
      unfold skipP
      rw [if_pos rfl]
      exact h1
    · have e : skipP F x (i : Int) = (i : Int) := by unfold skipP; rw [if_neg (by omega)]
      rw [e]
      refine .step ?_
      rw [drop_par hi]
      exact h1
theorem up_drop_from {F : Fo} (hF : WF F) {x k : Nat} (hx : F.there x = true) {c : Int} (h : Up (F.drop x) k c) : F.ok c → c ≠ (x : Int) → Up F k c := by
  induction h with
  | here => intro _ _; exact .here
  | @step i hu ih =>
    intro hc hcx
    have hi : F.there i = true := by
      rcases hc with e | ⟨j, e, hj⟩
      · omega
      · have : j = i := by omega
        exact this ▸ hj
    rw [drop_par hi] at ih
    refine .step ?_
    by_cases hp : F.par i = (x : Int)
    · have e : skipP F x (F.par i) = F.par x := by unfold skipP; rw [if_pos hp]
      rw [e] at ih
      have h1 := ih (hF.up x hx) (hF.not_self hx)
      rw [hp]
      exact .step h1
    · have e : skipP F x (F.par i) = F.par i := by unfold skipP; rw [if_neg hp]
      rw [e] at ih
      exact ih (hF.up i hi) hp
theorem up_drop {F : Fo} (hF : WF F) {x k i : Nat} (hx : F.there x = true) (hk : k ≠ x) (hi : F.there i = true) : Up (F.drop x) k ((F.drop x).par i) ↔ Up F k (F.par i) := by
  rw [drop_par hi]
  constructor
  · intro h
    by_cases hp : F.par i = (x : Int)
    · have e : skipP F x (F.par i) = F.par x := by unfold skipP; rw [if_pos hp]
      rw [e] at h
      rw [hp]
      exact .step (up_drop_from hF hx h (hF.up x hx) (hF.not_self hx))
    · have e : skipP F x (F.par i) = F.par i := by unfold skipP; rw [if_neg hp]
      rw [e] at h
      exact up_drop_from hF hx h (hF.up i hi) hp
  · exact fun h => up_drop_to hF hx hk h (hF.up i hi)
theorem drop_there (F : Fo) (x i : Nat) : (F.drop x).there i = true ↔ (F.there i = true ∧ i ≠ x) := by
  unfold Fo.drop
  by_cases h : i = x <;> simp [h]

theorem prune_there (F : Fo) (x i : Nat) (ds : List Nat) : (F.prune x ds).there i = (F.there i && !(ds.contains i)) := rfl
theorem prune_kids {F : Fo} {x i : Nat} {ds : List Nat} (hx : i ≠ x) (hi : i ∉ ds) : (F.prune x ds).kids (i : Int) = F.kids (i : Int) := by
  unfold Fo.prune
  have h1 : ¬ (i : Int) = (x : Int) := by omega
  have h2 : ds.any (fun d => decide ((i : Int) = (d : Int))) = false := by
    rw [List.any_eq_false]
    intro d hd
    simp only [decide_eq_true_eq]
    intro e
    have : i = d := by omega
    exact hi (this ▸ hd)
  simp only [h1, if_false, h2, Bool.false_eq_true]
theorem prune_roots (F : Fo) (x : Nat) (ds : List Nat) : (F.prune x ds).kids (-1) = F.kids (-1) := by
  unfold Fo.prune
  have h1 : ¬ (-1 : Int) = (x : Int) := by omega
  have h2 : ds.any (fun d => decide ((-1 : Int) = (d : Int))) = false := by
    rw [List.any_eq_false]
    intro d hd
    simp only [decide_eq_true_eq]
    omega
  simp only [h1, if_false, h2, Bool.false_eq_true]
theorem prune_kids_x (F : Fo) (x : Nat) (ds : List Nat) : (F.prune x ds).kids (x : Int) = [] := by simp [Fo.prune]

/-- A forest of one row of nodes, each the child of the one ahead: k of n. -/
def chain (n k : Nat) : Fo :=
  { n := n, there := fun i => decide (i < k), par := fun i => if i < k then (i : Int) - 1 else -1, kids := fun q => if -1 ≤ q ∧ q + 1 < (k : Int) then [(q + 1).toNat] else [], free := (List.range' k (n - k)).reverse }
theorem chain_kids (n k : Nat) (j : Nat) (h : j + 1 < k) : (chain n k).kids (j : Int) = [j + 1] := by
  unfold chain
  have h1 : (-1 : Int) ≤ (j : Int) ∧ (j : Int) + 1 < (k : Int) := by omega
  simp only [h1, and_self, if_true]
  have : ((j : Int) + 1).toNat = j + 1 := by omega
  rw [this]
theorem chain_end (n k : Nat) (j : Nat) (h : k ≤ j + 1) : (chain n k).kids (j : Int) = [] := by
  unfold chain
  have h1 : ¬ ((-1 : Int) ≤ (j : Int) ∧ (j : Int) + 1 < (k : Int)) := by omega
  simp only [h1, if_false]
theorem range'_last (k m : Nat) : (List.range' k (m + 1)).reverse.getLast? = some k := by
  rw [List.range'_succ, List.reverse_cons, List.getLast?_concat]
theorem chain_last {n k : Nat} (h : k < n) : (chain n k).free.getLast? = some k := by
  unfold chain
  obtain ⟨m, rfl⟩ : ∃ m, n = k + 1 + m := ⟨n - (k + 1), by omega⟩
  simp only [show k + 1 + m - k = m + 1 by omega]
  exact range'_last k m
theorem Fo.ext5 {F G : Fo} (h1 : F.n = G.n) (h2 : ∀ i, F.there i = G.there i) (h3 : ∀ i, F.par i = G.par i) (h4 : ∀ q, F.kids q = G.kids q) (h5 : F.free = G.free) : F = G := by
  obtain ⟨a, b, c, d, e⟩ := F
  obtain ⟨a', b', c', d', e'⟩ := G
  simp only at h1 h2 h3 h4 h5
  rw [h1, funext h2, funext h3, funext h4, h5]
theorem chain_add {n k : Nat} (h : k < n) : (chain n k).add ((k : Int) - 1) k = chain n (k + 1) := by
  apply Fo.ext5
  · rfl
  · intro i
    simp only [Fo.add, chain]
    by_cases e : i = k
    · subst e; simp
    · simp only [e, if_false]
      congr 1
      exact propext (by omega)
  · intro i
    simp only [Fo.add, chain]
    by_cases e : i = k
    · subst e; simp
    · have : (i < k + 1) ↔ (i < k) := by omega
      simp only [e, if_false, this]
  · intro q
    simp only [Fo.add, chain]
    by_cases e : q = (k : Int) - 1
    · subst e
      have h1 : ¬ ((-1 : Int) ≤ (k : Int) - 1 ∧ (k : Int) - 1 + 1 < (k : Int)) := by omega
      have h2 : ((-1 : Int) ≤ (k : Int) - 1 ∧ (k : Int) - 1 + 1 < ((k + 1 : Nat) : Int)) := by omega
      have h3 : ((k : Int) - 1 + 1).toNat = k := by omega
      rw [if_pos rfl, if_neg h1, if_pos h2, h3]
    · have : ((-1 : Int) ≤ q ∧ q + 1 < ((k + 1 : Nat) : Int)) ↔ ((-1 : Int) ≤ q ∧ q + 1 < (k : Int)) := by omega
      simp only [e, if_false, this]
  · simp only [Fo.add, chain]
    obtain ⟨m, rfl⟩ : ∃ m, n = k + 1 + m := ⟨n - (k + 1), by omega⟩
    rw [show k + 1 + m - k = m + 1 by omega, show k + 1 + m - (k + 1) = m by omega, List.range'_succ, List.reverse_cons, List.dropLast_concat]
theorem chain_flat (n k : Nat) : ∀ (m j : Nat), j + 1 + m = k → Flat (chain n k) ((chain n k).kids (j : Int)) (List.range' (j + 1) m)
  | 0, j, h => by rw [chain_end n k j (by omega)]; exact .nil
  | m + 1, j, h => by
    rw [chain_kids n k j (by omega), List.range'_succ]
    have h1 := chain_flat n k m (j + 1) (by omega)
    have h2 := Flat.cons (i := j + 1) (r := []) h1 .nil
    simpa using h2
theorem wf_empty (n : Nat) : WF (chain n 0) := by
  refine ⟨fun p i => ?_, fun p => ?_, fun i h => ?_, fun i h => ?_, fun i => ?_, ?_, ⟨fun _ => 0, fun i j h => ?_⟩⟩
  · have : ¬ ((-1 : Int) ≤ p ∧ p + 1 < ((0 : Nat) : Int)) := by omega
    simp [chain]
    omega
  · have : ¬ ((-1 : Int) ≤ p ∧ p + 1 < ((0 : Nat) : Int)) := by omega
    simp only [chain, this, if_false]
    exact List.nodup_nil
  · simp [chain] at h
  · simp [chain] at h
  · simp [chain, List.mem_range']
  · exact (List.reverse_perm _).nodup_iff.2 List.nodup_range'
  · simp [chain] at h
def Raw.none_ : Raw := ⟨fun _ => Nd.zero, -1⟩
theorem rep_empty (n : Nat) : Rep Raw.none_ (chain n 0) := by
  refine ⟨fun i _ => ?_, ?_⟩
  · simp [Raw.none_, Fo.nod, chain]
  · simp [Raw.none_, chain, hd]
theorem chain_ok (n k : Nat) : (chain n k).ok ((k : Int) - 1) := by
  rcases k with _ | k
  · exact .inl (by simp)
  · exact .inr ⟨k, by simp, by simp [chain]⟩
theorem wf_chain (n : Nat) : ∀ k, k ≤ n → WF (chain n k)
  | 0, _ => wf_empty n
  | k + 1, h => by
    rw [← chain_add (show k < n by omega)]
    exact (wf_chain n k (by omega)).add (chain_ok n k) (chain_last (by omega))
end Go.Proofs.Ytbknmfegckeogaa
