/- The places of a forest, in plain Lean: that Drop and Prune do on the places what they do on the forest. No program in sight. -/
import Derived.Test.YtoihldagpnkfoaaTreeT
namespace Go.Proofs.Ytoihldagpnkfoaa
set_option linter.unusedVariables false
set_option linter.unusedSimpArgs false

theorem lastOr_ne {i : Nat} {l : List Nat} (h : i ∉ l) : lastOr (i : Int) l = (i : Int) ↔ l = [] := by
  rcases lastOr_cases l with rfl | ⟨z, hz, hh⟩
  · simp [lastOr]
  · rw [hh]
    constructor
    · intro e
      have : z = i := by omega
      exact (h (this ▸ hz)).elim
    · rintro rfl
      simp at hz
theorem ne_of_not_mem {i z : Nat} {l : List Nat} (h : i ∉ l) (hz : z ∈ l) : (i : Int) ≠ (z : Int) := fun e => h (by
  have : i = z := by omega
  exact this ▸ hz)

theorem Nd.ext5 {a b c d e a' b' c' d' e'} (h1 : a = a') (h2 : b = b') (h3 : c = c') (h4 : d = d') (h5 : e = e') : (⟨a, b, c, d, e⟩ : Nd) = ⟨a', b', c', d', e'⟩ := by rw [h1, h2, h3, h4, h5]

theorem rep_drop {R : Raw} {F : Fo} (h : Rep R F) (hF : WF F) {x : Nat} (hx : F.there x = true) :
    Rep (((dropL (F.par x) R (prv x (F.kids (F.par x))) (F.kids (x : Int))).join (F.par x) (lastOr (prv x (F.kids (F.par x))) (F.kids (x : Int))) (nxt x (F.kids (F.par x)))).put x Nd.zero) (F.drop x) := by
  obtain ⟨p, hp⟩ : ∃ p, p = F.par x := ⟨_, rfl⟩
  obtain ⟨K, hK⟩ : ∃ K, K = F.kids (x : Int) := ⟨_, rfl⟩
  have hns := hF.not_self hx
  have hxk : x ∈ F.kids (F.par x) := (hF.kin _ _).2 ⟨hx, rfl⟩
  obtain ⟨a, b, hab, ha, hb⟩ := split_at hxk (hF.nd _)
  have hlast0 : prv x (F.kids (F.par x)) = lastOr (-1) a := by rw [hab]; exact prv_at _ ha
  have hrt0 : nxt x (F.kids (F.par x)) = hd b := by rw [hab]; exact nxt_at _ ha
  rw [hlast0, hrt0, ← hK, ← hp]
  rw [← hp] at hns hab hxk
  have hrow : ∀ i, i ∈ a ∨ i ∈ b → F.there i = true ∧ F.par i = p ∧ i ≠ x := fun i hi => by
    have hm : i ∈ F.kids p := by
      rw [hab]
      rcases hi with hi | hi <;> simp [hi]
    obtain ⟨h1, h2⟩ := (hF.kin _ _).1 hm
    refine ⟨h1, h2, fun e => ?_⟩
    subst e
    rcases hi with hi | hi
    · exact ha hi
    · exact hb hi
  have hkid : ∀ i, i ∈ K ↔ F.there i = true ∧ F.par i = (x : Int) := fun i => by rw [hK]; exact hF.kin _ _
  have hnd := hF.nd p
  rw [hab, List.nodup_append] at hnd
  obtain ⟨na, nb0, nab⟩ := hnd
  rw [List.nodup_cons] at nb0
  have nK : K.Nodup := by rw [hK]; exact hF.nd _
  have hdab : ∀ i ∈ a, i ∉ b := fun i hi hi2 => nab i hi i (by simp [hi2]) rfl
  have hdKa : ∀ i ∈ K, i ∉ a := fun i hi hi2 => hns ((hrow i (.inl hi2)).2.1.symm.trans ((hkid i).1 hi).2)
  have hdKb : ∀ i ∈ K, i ∉ b := fun i hi hi2 => hns ((hrow i (.inr hi2)).2.1.symm.trans ((hkid i).1 hi).2)
  have hKx : x ∉ K := fun e => hns (by rw [hp]; exact ((hkid x).1 e).2)
  have hpK : ∀ c ∈ K, ((c : Nat) : Int) ≠ p := fun c hc e => by
    obtain ⟨g, hg⟩ := hF.ht
    obtain ⟨h1, h2⟩ := (hkid c).1 hc
    have h3 := hg c x h1 h2
    have h4 := hg x c hx (by rw [← hp, e])
    omega
  have hpp : p = -1 ∨ 0 ≤ p := by
    rcases hF.up x hx with e | ⟨j, e, _⟩
    · left; rw [hp, e]
    · right; rw [hp, e]; omega
  have hl0 : lastOr (-1) a = -1 ∨ 0 ≤ lastOr (-1) a := by
    rcases lastOr_cases a with rfl | ⟨z, _, hh⟩
    · exact .inl rfl
    · right; rw [hh]; omega
  have hl0K : ∀ c ∈ K, ((c : Nat) : Int) ≠ lastOr (-1) a := fun c hc => by
    rcases lastOr_cases a with rfl | ⟨z, hz, hh⟩
    · simp only [lastOr]; omega
    · rw [hh]; exact ne_of_not_mem (hdKa c hc) hz
  have hat := fun i => dropL_at p hpp K R (lastOr (-1) a) i hl0 hl0K hpK nK
  have hlE : lastOr (lastOr (-1) a) K = -1 ∨ 0 ≤ lastOr (lastOr (-1) a) K := by
    rcases lastOr_cases K with e | ⟨z, _, hh⟩
    · rw [e]; exact hl0
    · right; rw [hh]; omega
  have hrt : hd b = -1 ∨ 0 ≤ hd b := by
    rcases hd_cases b with rfl | ⟨z, _, hh⟩
    · exact .inl rfl
    · right; rw [hh]; omega
  have hEr : lastOr (lastOr (-1) a) K ≠ hd b ∨ lastOr (lastOr (-1) a) K = -1 := by
    rcases lastOr_cases K with e | ⟨z, hz, hh⟩
    · rw [e]
      simp only [lastOr]
      rcases lastOr_cases a with rfl | ⟨z, hz, hh⟩
      · exact .inr rfl
      · left
        rw [hh]
        rcases hd_cases b with rfl | ⟨y, hy, hh2⟩
        · simp only [hd]; omega
        · rw [hh2]; exact ne_of_not_mem (hdab z hz) hy
    · left
      rw [hh]
      rcases hd_cases b with rfl | ⟨y, hy, hh2⟩
      · simp only [hd]; omega
      · rw [hh2]; exact ne_of_not_mem (hdKb z hz) hy
  have hpr : p ≠ hd b ∨ p < 0 := by
    rcases hd_cases b with rfl | ⟨y, hy, hh2⟩
    · simp only [hd]; omega
    · left
      rw [hh2]
      intro e
      have := hrow y (.inr hy)
      exact hF.not_self this.1 (by rw [this.2.1, e])
  have hkd : (F.drop x).kids p = a ++ K ++ b := by
    simp only [Fo.drop, ← hp, if_true]
    rw [hab, flatMap_split ha hb, hK]
  have hhd : hd (a ++ K ++ b) = if lastOr (lastOr (-1) a) K = -1 then hd b else if lastOr (-1) a = -1 ∧ K ≠ [] then hd K else hd (a ++ x :: b) := by
    rcases lastOr_cases a with rfl | ⟨z, hz, hh⟩
    · rcases lastOr_cases K with e | ⟨y, hy, hh2⟩
      · simp [e, lastOr]
      · have hne : K ≠ [] := fun e => by rw [e] at hy; simp at hy
        have hy1 : ¬ ((y : Nat) : Int) = -1 := by omega
        simp [lastOr, hh2, hne, hd_append, hy1]
    · have hne : a ≠ [] := fun e => by rw [e] at hz; simp at hz
      have hz1 : ¬ ((z : Nat) : Int) = -1 := by omega
      have hE : ¬ lastOr (lastOr (-1) a) K = -1 := by
        rcases lastOr_cases K with e | ⟨y, hy, hh2⟩
        · rw [e]; simp only [lastOr, hh]; exact hz1
        · rw [hh2]; omega
      rw [if_neg hE, if_neg (fun e => hz1 (by rw [← hh (-1)]; exact e.1))]
      simp [hd_append, hne]
  refine ⟨fun i hi => ?_, ?_⟩
  · have hi' : i < F.n := hi
    by_cases hix : i = x
    · subst hix
      simp [Raw.put, setN, Fo.nod, Fo.drop]
    · have hput : ∀ R' : Raw, (R'.put x Nd.zero).M i = R'.M i := fun R' => by simp [Raw.put, setN, hix]
      rw [hput, join_at _ i hlE hrt hEr hpr, hat i]
      have hri := h.at_ i hi'
      unfold Fo.nod at hri
      by_cases hti : F.there i = true
      · rw [if_pos hti] at hri
        have hdn : (F.drop x).there i = true := by simp [Fo.drop, hix, hti]
        unfold Fo.nod
        rw [if_pos hdn]
        have hix' : ¬ ((i : Nat) : Int) = (x : Int) := by omega
        have hdk : hd ((F.drop x).kids (i : Int)) = if (i : Int) = p then hd (a ++ K ++ b) else hd (F.kids (i : Int)) := by
          by_cases e : (i : Int) = p
          · rw [if_pos e, e, hkd]
          · rw [if_neg e]
            simp only [Fo.drop, ← hp, if_neg e, if_neg hix']
        have hpar : (F.drop x).par i = if F.par i = (x : Int) then p else F.par i := by
          simp only [Fo.drop, hti, true_and, ← hp]
        rw [hdk, hpar]
        by_cases hiK : i ∈ K
        · -- a child
          have hpi := ((hkid i).1 hiK).2
          obtain ⟨k1, k2, hk, hk1, hk2⟩ := split_at hiK nK
          have hip := hpK i hiK
          have hnb := hdKb i hiK
          have hna := hdKa i hiK
          rw [if_pos hpi, hkd]
          simp only [hiK, if_true, hri, if_neg hip, hip, and_false, if_false]
          have hrt1 : ¬ ((i : Nat) : Int) = hd b := by
            rcases hd_cases b with e | ⟨y, hy, hh2⟩
            · rw [e]; simp only [hd]; omega
            · rw [hh2]; exact ne_of_not_mem hnb hy
          simp only [hrt1, and_false, if_false]
          have e1 : prvF (lastOr (-1) a) i K = lastOr (lastOr (-1) a) k1 := by
            rw [hk, prvF_append_left _ _ hk1]
            simp [prvF]
          have e2 : nxt i K = hd k2 := by rw [hk]; exact nxt_at _ hk1
          have e3 : lastOr (lastOr (-1) a) K = lastOr (i : Int) k2 := by rw [hk, lastOr_append]; rfl
          have e4 : a ++ K ++ b = (a ++ k1) ++ i :: (k2 ++ b) := by rw [hk]; simp
          have hni : i ∉ a ++ k1 := by simp [hna, hk1]
          have e5 : nxt i (F.kids (F.par i)) = hd k2 := by rw [hpi, ← hK, e2]
          refine Nd.ext5 rfl rfl rfl ?_ ?_
          · rw [e1, e4, prv_at _ hni, lastOr_append]
          · rw [e2, e3, e4, nxt_at _ hni, e5]
            have hEne : lastOr (i : Int) k2 ≠ -1 := by
              rcases lastOr_cases k2 with e | ⟨z, _, hh⟩
              · rw [e]; simp only [lastOr]; omega
              · rw [hh]; omega
            by_cases hk20 : k2 = []
            · subst hk20
              simp [lastOr]
            · have h1 : ¬ ((i : Nat) : Int) = lastOr (i : Int) k2 := fun e => hk20 ((lastOr_ne hk2).1 e.symm)
              have h2 : hd k2 ≠ -1 := fun e => hk20 (hd_neg.1 e)
              simp only [h1, and_false, if_false, h2, hd_append, hk20]
        · have hpi : ¬ F.par i = (x : Int) := fun e => hiK ((hkid i).2 ⟨hti, e⟩)
          rw [if_neg hpi]
          simp only [hiK, if_false, hri]
          by_cases hpi2 : F.par i = p
          · -- in the row of the one that goes
            have hip : ¬ ((i : Nat) : Int) = p := fun e => hF.not_self hti (by rw [hpi2, e])
            have him : i ∈ F.kids p := (hF.kin _ _).2 ⟨hti, hpi2⟩
            rw [hpi2, hkd]
            simp only [if_neg hip, hip, and_false, if_false]
            rw [hab] at him ⊢
            rcases List.mem_append.1 him with hia | hib
            · obtain ⟨a1, a2, ha', ha1, ha2⟩ := split_at hia na
              have hnb := hdab i hia
              have hrt1 : ¬ ((i : Nat) : Int) = hd b := by
                rcases hd_cases b with e | ⟨y, hy, hh2⟩
                · rw [e]; simp only [hd]; omega
                · rw [hh2]; exact ne_of_not_mem hnb hy
              simp only [hrt1, and_false, if_false]
              have e1 : a ++ x :: b = a1 ++ i :: (a2 ++ x :: b) := by rw [ha']; simp
              have e2 : a ++ K ++ b = a1 ++ i :: (a2 ++ K ++ b) := by rw [ha']; simp
              have e3 : lastOr (-1) a = lastOr (i : Int) a2 := by rw [ha', lastOr_append]; rfl
              refine Nd.ext5 rfl rfl rfl ?_ ?_
              · rw [e1, e2, prv_at _ ha1, prv_at _ ha1]
              · rw [e1, e2, nxt_at _ ha1, nxt_at _ ha1, e3]
                by_cases ha20 : a2 = []
                · subst ha20
                  have hi1 : ((i : Nat) : Int) ≠ -1 := by omega
                  rcases lastOr_cases K with e | ⟨z, hz, hh⟩
                  · simp [e, lastOr, hi1, hd_append]
                  · have hKne : K ≠ [] := fun e => by rw [e] at hz; simp at hz
                    have hiz := ne_of_not_mem hiK hz
                    simp [lastOr, hh, hi1, hKne, hiz, hd_append]
                · have h1 : ¬ ((i : Nat) : Int) = lastOr (i : Int) a2 := fun e => ha20 ((lastOr_ne ha2).1 e.symm)
                  have h2 : ¬ ((i : Nat) : Int) = lastOr (lastOr (i : Int) a2) K := by
                    rcases lastOr_cases K with e | ⟨z, hz, hh⟩
                    · rw [e]; exact h1
                    · rw [hh]; exact ne_of_not_mem hiK hz
                  simp [h1, h2, hd_append, ha20]
            · have hib' : i ∈ b := by
                rcases List.mem_cons.1 hib with e | e
                · exact absurd e hix
                · exact e
              obtain ⟨b1, b2, hb', hb1, hb2⟩ := split_at hib' nb0.2
              have hna : i ∉ a := fun e => hdab i e hib'
              have hl1 : ¬ ((i : Nat) : Int) = lastOr (-1) a := by
                rcases lastOr_cases a with e | ⟨z, hz, hh⟩
                · rw [e]; simp only [lastOr]; omega
                · rw [hh]; exact ne_of_not_mem hna hz
              have hl2 : ¬ ((i : Nat) : Int) = lastOr (lastOr (-1) a) K := by
                rcases lastOr_cases K with e | ⟨z, hz, hh⟩
                · rw [e]; exact hl1
                · rw [hh]; exact ne_of_not_mem hiK hz
              simp only [hl1, hl2, and_false, if_false]
              have e1 : a ++ x :: b = (a ++ x :: b1) ++ i :: b2 := by rw [hb']; simp
              have e2 : a ++ K ++ b = (a ++ K ++ b1) ++ i :: b2 := by rw [hb']; simp
              have hn1 : i ∉ a ++ x :: b1 := by simp [hna, hix, hb1]
              have hn2 : i ∉ a ++ K ++ b1 := by simp [hna, hiK, hb1]
              refine Nd.ext5 rfl rfl rfl ?_ ?_
              · rw [e1, e2, prv_at _ hn1, prv_at _ hn2, hb']
                rcases lastOr_cases b1 with e | ⟨z, hz, hh⟩
                · subst e
                  have hi1 : ((i : Nat) : Int) ≠ -1 := by omega
                  simp [hd, hi1, lastOr_append, lastOr]
                · have hne : b1 ≠ [] := fun e => by rw [e] at hz; simp at hz
                  have hhb : ¬ ((i : Nat) : Int) = hd (b1 ++ i :: b2) := by
                    rw [hd_append, if_neg hne]
                    rcases hd_cases b1 with e | ⟨y, hy, hh2⟩
                    · exact absurd e hne
                    · rw [hh2]; exact ne_of_not_mem hb1 hy
                  simp only [hhb, and_false, if_false]
                  have q1 : lastOr (-1) (a ++ x :: b1) = (z : Int) := by rw [lastOr_append]; exact hh _
                  have q2 : lastOr (-1) (a ++ K ++ b1) = (z : Int) := by rw [lastOr_append]; exact hh _
                  rw [q1, q2]
              · rw [e1, e2, nxt_at _ hn1, nxt_at _ hn2]
          · -- elsewhere
            have hna : i ∉ a := fun e => hpi2 (hrow i (.inl e)).2.1
            have hnb : i ∉ b := fun e => hpi2 (hrow i (.inr e)).2.1
            have hl1 : ¬ ((i : Nat) : Int) = lastOr (-1) a := by
              rcases lastOr_cases a with e | ⟨z, hz, hh⟩
              · rw [e]; simp only [lastOr]; omega
              · rw [hh]; exact ne_of_not_mem hna hz
            have hl2 : ¬ ((i : Nat) : Int) = lastOr (lastOr (-1) a) K := by
              rcases lastOr_cases K with e | ⟨z, hz, hh⟩
              · rw [e]; exact hl1
              · rw [hh]; exact ne_of_not_mem hiK hz
            have hrt1 : ¬ ((i : Nat) : Int) = hd b := by
              rcases hd_cases b with e | ⟨y, hy, hh2⟩
              · rw [e]; simp only [hd]; omega
              · rw [hh2]; exact ne_of_not_mem hnb hy
            have hkk : (F.drop x).kids (F.par i) = F.kids (F.par i) := by
              simp only [Fo.drop, ← hp, if_neg hpi2, if_neg hpi]
            simp only [hl1, hl2, hrt1, and_false, if_false, hkk]
            refine Nd.ext5 rfl rfl ?_ rfl rfl
            by_cases hip : ((i : Nat) : Int) = p
            · have hp0 : 0 ≤ p := by omega
              rw [if_pos hip, hhd]
              simp only [hip, hp0, and_true, true_and]
              by_cases hE : lastOr (lastOr (-1) a) K = -1
              · simp [hE]
              · simp only [hE, if_false]
                by_cases hq : lastOr (-1) a = -1 ∧ K ≠ []
                · simp [hq]
                · rw [if_neg hq, if_neg hq, hab]
            · simp [hip]
      · rw [if_neg hti] at hri
        have hdn : ¬ (F.drop x).there i = true := by simp [Fo.drop, hix, hti]
        unfold Fo.nod
        rw [if_neg hdn]
        have hiK : i ∉ K := fun e => hti ((hkid i).1 e).1
        have hna : i ∉ a := fun e => hti (hrow i (.inl e)).1
        have hnb : i ∉ b := fun e => hti (hrow i (.inr e)).1
        have hl1 : ¬ ((i : Nat) : Int) = lastOr (-1) a := by
          rcases lastOr_cases a with e | ⟨z, hz, hh⟩
          · rw [e]; simp only [lastOr]; omega
          · rw [hh]; exact ne_of_not_mem hna hz
        have hl2 : ¬ ((i : Nat) : Int) = lastOr (lastOr (-1) a) K := by
          rcases lastOr_cases K with e | ⟨z, hz, hh⟩
          · rw [e]; exact hl1
          · rw [hh]; exact ne_of_not_mem hiK hz
        have hrt1 : ¬ ((i : Nat) : Int) = hd b := by
          rcases hd_cases b with e | ⟨y, hy, hh2⟩
          · rw [e]; simp only [hd]; omega
          · rw [hh2]; exact ne_of_not_mem hnb hy
        have hip : ¬ ((i : Nat) : Int) = p := fun e => by
          rcases hF.up x hx with q | ⟨j, q, hj⟩
          · rw [← hp] at q; omega
          · have : j = i := by rw [← hp] at q; omega
            exact hti (this ▸ hj)
        simp [hiK, hl1, hl2, hrt1, hip, hri]
  · have e0 : ∀ R' : Raw, (R'.put x Nd.zero).first = R'.first := fun R' => rfl
    rw [e0, join_first, dropL_first]
    by_cases hp1 : p = -1
    · have hp0 : p < 0 := by omega
      have hf := h.first
      have e1 : (F.drop x).kids (-1) = a ++ K ++ b := by rw [← hp1]; exact hkd
      rw [e1, hhd]
      simp only [hp0, and_true]
      have e2 : F.kids (-1) = a ++ x :: b := by rw [← hp1]; exact hab
      rw [hf, e2]
    · have hp0 : ¬ p < 0 := by omega
      have hm1 : ¬ (-1 : Int) = p := fun e => hp1 e.symm
      have hm2 : ¬ (-1 : Int) = (x : Int) := by omega
      simp only [hp0, and_false, if_false, Fo.drop, ← hp, if_neg hm1, if_neg hm2]
      exact h.first

/-- All of some go. -/
def goneL (R : Raw) (ds : List Nat) : Raw := ds.foldl (fun R d => R.put d Nd.zero) R
theorem goneL_at : ∀ (ds : List Nat) (R : Raw) (i : Nat), (goneL R ds).M i = if i ∈ ds then Nd.zero else R.M i
  | [], R, i => by simp [goneL]
  | d :: ds, R, i => by
    have := goneL_at ds (R.put d Nd.zero) i
    unfold goneL at this ⊢
    rw [List.foldl_cons, this]
    by_cases h1 : i ∈ ds
    · simp [h1]
    · by_cases h2 : i = d
      · simp [h1, h2, Raw.put, setN]
      · simp [h1, h2, Raw.put, setN]
theorem goneL_first : ∀ (ds : List Nat) (R : Raw), (goneL R ds).first = R.first
  | [], R => rfl
  | d :: ds, R => by
    have := goneL_first ds (R.put d Nd.zero)
    unfold goneL at this ⊢
    rw [List.foldl_cons, this]
    rfl

theorem rep_prune {R : Raw} {F : Fo} (h : Rep R F) (hF : WF F) {x : Nat} (hx : F.there x = true) {ds : List Nat} (hd' : Flat F (F.kids (x : Int)) ds) :
    Rep ((goneL R ds).setD x (-1)) (F.prune x ds) := by
  have hm := desc_mem hF hd'
  have hxd : x ∉ ds := fun e => by
    obtain ⟨g, hg⟩ := hF.ht
    have := above_ht ((hm x).1 e) hg
    omega
  have hany : ∀ q : Int, (ds.any (fun d => decide (q = (d : Int)))) = true ↔ ∃ d ∈ ds, q = (d : Int) := by intro q; simp
  refine ⟨fun i hi => ?_, ?_⟩
  · have hi' : i < F.n := hi
    have hri := h.at_ i hi'
    have hD : ((goneL R ds).setD x (-1)).M i = if i = x then { (goneL R ds).M x with d := -1 } else (goneL R ds).M i := by
      unfold Raw.setD setN
      by_cases e : i = x
      · simp [e]
      · simp [e]
    rw [hD]
    by_cases hid : i ∈ ds
    · have hix : ¬ i = x := fun e => hxd (e ▸ hid)
      rw [if_neg hix, goneL_at, if_pos hid]
      unfold Fo.nod
      simp [Fo.prune, hid]
    · by_cases hti : F.there i = true
      · have hn : (F.prune x ds).nod i = ⟨true, F.par i, if i = x then -1 else hd (F.kids (i : Int)), prv i (F.kids (F.par i)), nxt i (F.kids (F.par i))⟩ := by
          have h1 : (F.prune x ds).there i = true := by simp [Fo.prune, hti, hid]
          have h2 : ¬ F.par i = (x : Int) := fun e => hid ((hm i).2 (.kid hti e))
          have h3 : ¬ (ds.any (fun d => decide (F.par i = (d : Int)))) = true := fun e => by
            obtain ⟨d, hdd, e⟩ := (hany _).1 e
            exact hid ((hm i).2 (.up hti e ((hm d).1 hdd)))
          have h4 : ¬ (ds.any (fun d => decide ((i : Int) = (d : Int)))) = true := fun e => by
            obtain ⟨d, hdd, e⟩ := (hany _).1 e
            have : d = i := by omega
            exact hid (this ▸ hdd)
          unfold Fo.nod
          rw [if_pos h1]
          simp only [Fo.prune, if_neg h2, if_neg h3, if_neg h4]
          by_cases hix : i = x
          · subst hix
            simp [hd]
          · have : ¬ ((i : Nat) : Int) = (x : Int) := by omega
            simp [hix, this]
        rw [hn]
        unfold Fo.nod at hri
        rw [if_pos hti] at hri
        by_cases hix : i = x
        · subst hix
          simp [goneL_at, hxd, hri]
        · simp [goneL_at, hid, hri, hix]
      · have hix : ¬ i = x := fun e => hti (e ▸ hx)
        rw [if_neg hix, goneL_at, if_neg hid, hri]
        unfold Fo.nod
        have h1 : ¬ (F.prune x ds).there i = true := by simp [Fo.prune, hti]
        rw [if_neg hti, if_neg h1]
  · have e1 : ((goneL R ds).setD x (-1)).first = R.first := goneL_first ds R
    rw [e1, h.first]
    have h2 : ¬ (-1 : Int) = (x : Int) := by omega
    have h3 : ¬ (ds.any (fun d => decide ((-1 : Int) = (d : Int)))) = true := fun e => by
      obtain ⟨d, hdd, e⟩ := (hany _).1 e
      omega
    simp only [Fo.prune, if_neg h2, if_neg h3]
end Go.Proofs.Ytoihldagpnkfoaa
