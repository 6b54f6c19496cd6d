/- When two forests are alike; who is under whom behind Drop and Prune; a forest that is one row of nodes: plain. No program in sight. -/
import Derived.Test.YtoihldagpnkfoaaTreeUnder
import Derived.Test.YtoihldagpnkfoaaTreeDesc
namespace Go.Proofs.Ytoihldagpnkfoaa
set_option linter.unusedVariables false
set_option linter.unusedSimpArgs false

/-- Linked alike: the same row. -/
theorem linked_ext (r : Nat → Int) : ∀ (K1 K2 : List Nat), (∀ a i b, K1 = a ++ i :: b → r i = hd b) → (∀ a i b, K2 = a ++ i :: b → r i = hd b) → hd K1 = hd K2 → K1 = K2
  | [], K2, _, _, h => (hd_neg.1 h.symm).symm
  | x :: K1, K2, h1, h2, h => by
    rcases K2 with _ | ⟨y, K2⟩
    · simp [hd] at h
    · have hxy : x = y := by simp [hd] at h; omega
      subst hxy
      have e1 := h1 [] x K1 rfl
      have e2 := h2 [] x K2 rfl
      rw [linked_ext r K1 K2 (fun a i b e => h1 (x :: a) i b (by rw [e]; rfl)) (fun a i b e => h2 (x :: a) i b (by rw [e]; rfl)) (e1.symm.trans e2)]

/-- Both forests have the same. -/
def Alike (F G : Fo) : Prop := F.kids (-1) = G.kids (-1) ∧ ∀ i, i < F.n → F.there i = G.there i ∧ (F.there i = true → F.par i = G.par i) ∧ F.kids (i : Int) = G.kids (i : Int)

theorem alike_iff {R R' : Raw} {F G : Fo} (h : Rep R F) (k : Rep R' G) (hF : WF F) (hG : WF G) (hn : F.n = G.n) : (R.first = R'.first ∧ ∀ i, i < F.n → R.M i = R'.M i) ↔ Alike F G := by
  constructor
  · rintro ⟨h1, h2⟩
    have hk : Rep R G := ⟨fun i hi => (h2 i (by omega)).trans (k.at_ i hi), h1.trans k.first⟩
    have row : ∀ p, hd (F.kids p) = hd (G.kids p) → F.kids p = G.kids p := fun p e => linked_ext _ _ _ (linked_rep h hF p).2 (linked_rep hk hG p).2 e
    refine ⟨row _ (h.first.symm.trans hk.first), fun i hi => ?_⟩
    have e : F.nod i = G.nod i := (h.at_ i hi).symm.trans (hk.at_ i (by omega))
    unfold Fo.nod at e
    by_cases ht : F.there i = true
    · by_cases hg : G.there i = true
      · rw [if_pos ht, if_pos hg] at e
        injection e with _ e1 e2 _ _
        exact ⟨by rw [ht, hg], fun _ => e1, row _ e2⟩
      · rw [if_pos ht, if_neg hg] at e
        injection e with e0
        cases e0
    · by_cases hg : G.there i = true
      · rw [if_neg ht, if_pos hg] at e
        injection e with e0
        cases e0
      · have ht' : F.there i = false := by simpa using ht
        have hg' : G.there i = false := by simpa using hg
        exact ⟨by rw [ht', hg'], fun e => absurd e ht, by rw [hF.kids_nil ht', hG.kids_nil hg']⟩
  · rintro ⟨h1, h2⟩
    refine ⟨by rw [h.first, k.first, h1], fun i hi => ?_⟩
    rw [h.at_ i hi, k.at_ i (by omega)]
    obtain ⟨e1, e2, e3⟩ := h2 i hi
    unfold Fo.nod
    by_cases ht : F.there i = true
    · have hg : G.there i = true := by rw [← e1]; exact ht
      have e4 := e2 ht
      have e5 : F.kids (F.par i) = G.kids (F.par i) := by
        rcases hF.up i ht with e | ⟨j, e, hj⟩
        · rw [e]; exact h1
        · rw [e]; exact (h2 j (hF.lt j hj)).2.2
      rw [if_pos ht, if_pos hg, ← e4, e3, e5]
    · have hg : ¬ G.there i = true := by rw [← e1]; exact ht
      rw [if_neg ht, if_neg hg]

theorem up_above {F : Fo} (hF : WF F) {y x : Nat} (hx : F.there x = true) : Up F y (F.par x) ↔ Above F y x := by
  constructor
  · intro h
    generalize hz : F.par x = z at h
    induction h generalizing x with
    | here => exact .kid hx hz
    | @step i hu ih =>
      have hi : F.there i = true := by
        rcases hF.up x hx with e | ⟨j, e, hj⟩
        · omega
        · have : j = i := by omega
          exact this ▸ hj
      exact .up hx hz (ih hi rfl)
  · intro h
    induction h with
    | kid h1 h2 => rw [h2]; exact .here
    | up h1 h2 h3 ih => rw [h2]; exact .step (ih h3.there)

/-- Behind Drop who is under whom is as it was. -/
def skipP (F : Fo) (x : Nat) (c : Int) : Int := if c = (x : Int) then F.par x else c
theorem drop_par {F : Fo} {x i : Nat} (hi : F.there i = true) : (F.drop x).par i = skipP F x (F.par i) := by
  unfold Fo.drop skipP
  by_cases h : F.par i = (x : Int)
  · simp [hi, h]
  · simp [h]
theorem skip_par {F : Fo} (hF : WF F) {x : Nat} (hx : F.there x = true) : skipP F x (F.par x) = F.par x := by
  unfold skipP
  rw [if_neg (hF.not_self hx)]
theorem up_drop_to {F : Fo} (hF : WF F) {x k : Nat} (hx : F.there x = true) (hk : k ≠ x) {c : Int} (h : Up F k c) : F.ok c → Up (F.drop x) k (skipP F x c) := by
  induction h with
  | here =>
    intro _
    unfold skipP
    rw [if_neg (by omega)]
    exact .here
  | @step i hu ih =>
    intro hc
    have hi : F.there i = true := by
      rcases hc with e | ⟨j, e, hj⟩
      · omega
      · have : j = i := by omega
        exact this ▸ hj
    have h1 := ih (hF.up i hi)
    by_cases hix : i = x
    · subst hix
      rw [skip_par hF hi] at h1
      unfold skipP
      rw [if_pos rfl]
      exact h1
    · have e : skipP F x (i : Int) = (i : Int) := by unfold skipP; rw [if_neg (by omega)]
      rw [e]
      refine .step ?_
      rw [drop_par hi]
      exact h1
theorem up_drop_from {F : Fo} (hF : WF F) {x k : Nat} (hx : F.there x = true) {c : Int} (h : Up (F.drop x) k c) : F.ok c → c ≠ (x : Int) → Up F k c := by
  induction h with
  | here => intro _ _; exact .here
  | @step i hu ih =>
    intro hc hcx
    have hi : F.there i = true := by
      rcases hc with e | ⟨j, e, hj⟩
      · omega
      · have : j = i := by omega
        exact this ▸ hj
    rw [drop_par hi] at ih
    refine .step ?_
    by_cases hp : F.par i = (x : Int)
    · have e : skipP F x (F.par i) = F.par x := by unfold skipP; rw [if_pos hp]
      rw [e] at ih
      have h1 := ih (hF.up x hx) (hF.not_self hx)
      rw [hp]
      exact .step h1
    · have e : skipP F x (F.par i) = F.par i := by unfold skipP; rw [if_neg hp]
      rw [e] at ih
      exact ih (hF.up i hi) hp
theorem up_drop {F : Fo} (hF : WF F) {x k i : Nat} (hx : F.there x = true) (hk : k ≠ x) (hi : F.there i = true) : Up (F.drop x) k ((F.drop x).par i) ↔ Up F k (F.par i) := by
  rw [drop_par hi]
  constructor
  · intro h
    by_cases hp : F.par i = (x : Int)
    · have e : skipP F x (F.par i) = F.par x := by unfold skipP; rw [if_pos hp]
      rw [e] at h
      rw [hp]
      exact .step (up_drop_from hF hx h (hF.up x hx) (hF.not_self hx))
    · have e : skipP F x (F.par i) = F.par i := by unfold skipP; rw [if_neg hp]
      rw [e] at h
      exact up_drop_from hF hx h (hF.up i hi) hp
  · exact fun h => up_drop_to hF hx hk h (hF.up i hi)
theorem drop_there (F : Fo) (x i : Nat) : (F.drop x).there i = true ↔ (F.there i = true ∧ i ≠ x) := by
  unfold Fo.drop
  by_cases h : i = x <;> simp [h]

theorem prune_there (F : Fo) (x i : Nat) (ds : List Nat) : (F.prune x ds).there i = (F.there i && !(ds.contains i)) := rfl
theorem prune_kids {F : Fo} {x i : Nat} {ds : List Nat} (hx : i ≠ x) (hi : i ∉ ds) : (F.prune x ds).kids (i : Int) = F.kids (i : Int) := by
  unfold Fo.prune
  have h1 : ¬ (i : Int) = (x : Int) := by omega
  have h2 : ds.any (fun d => decide ((i : Int) = (d : Int))) = false := by
    rw [List.any_eq_false]
    intro d hd
    simp only [decide_eq_true_eq]
    intro e
    have : i = d := by omega
    exact hi (this ▸ hd)
  simp only [h1, if_false, h2, Bool.false_eq_true]
theorem prune_roots (F : Fo) (x : Nat) (ds : List Nat) : (F.prune x ds).kids (-1) = F.kids (-1) := by
  unfold Fo.prune
  have h1 : ¬ (-1 : Int) = (x : Int) := by omega
  have h2 : ds.any (fun d => decide ((-1 : Int) = (d : Int))) = false := by
    rw [List.any_eq_false]
    intro d hd
    simp only [decide_eq_true_eq]
    omega
  simp only [h1, if_false, h2, Bool.false_eq_true]
theorem prune_kids_x (F : Fo) (x : Nat) (ds : List Nat) : (F.prune x ds).kids (x : Int) = [] := by simp [Fo.prune]

/-- A forest of one row of nodes, each the child of the one ahead: k of n. -/
def chain (n k : Nat) : Fo :=
  { n := n, there := fun i => decide (i < k), par := fun i => if i < k then (i : Int) - 1 else -1, kids := fun q => if -1 ≤ q ∧ q + 1 < (k : Int) then [(q + 1).toNat] else [], free := (List.range' k (n - k)).reverse }
theorem chain_kids (n k : Nat) (j : Nat) (h : j + 1 < k) : (chain n k).kids (j : Int) = [j + 1] := by
  unfold chain
  have h1 : (-1 : Int) ≤ (j : Int) ∧ (j : Int) + 1 < (k : Int) := by omega
  simp only [h1, and_self, if_true]
  have : ((j : Int) + 1).toNat = j + 1 := by omega
  rw [this]
theorem chain_end (n k : Nat) (j : Nat) (h : k ≤ j + 1) : (chain n k).kids (j : Int) = [] := by
  unfold chain
  have h1 : ¬ ((-1 : Int) ≤ (j : Int) ∧ (j : Int) + 1 < (k : Int)) := by omega
  simp only [h1, if_false]
theorem range'_last (k m : Nat) : (List.range' k (m + 1)).reverse.getLast? = some k := by
  rw [List.range'_succ, List.reverse_cons, List.getLast?_concat]
theorem chain_last {n k : Nat} (h : k < n) : (chain n k).free.getLast? = some k := by
  unfold chain
  obtain ⟨m, rfl⟩ : ∃ m, n = k + 1 + m := ⟨n - (k + 1), by omega⟩
  simp only [show k + 1 + m - k = m + 1 by omega]
  exact range'_last k m
theorem Fo.ext5 {F G : Fo} (h1 : F.n = G.n) (h2 : ∀ i, F.there i = G.there i) (h3 : ∀ i, F.par i = G.par i) (h4 : ∀ q, F.kids q = G.kids q) (h5 : F.free = G.free) : F = G := by
  obtain ⟨a, b, c, d, e⟩ := F
  obtain ⟨a', b', c', d', e'⟩ := G
  simp only at h1 h2 h3 h4 h5
  rw [h1, funext h2, funext h3, funext h4, h5]
theorem chain_add {n k : Nat} (h : k < n) : (chain n k).add ((k : Int) - 1) k = chain n (k + 1) := by
  apply Fo.ext5
  · rfl
  · intro i
    simp only [Fo.add, chain]
    by_cases e : i = k
    · subst e; simp
    · simp only [e, if_false]
      congr 1
      exact propext (by omega)
  · intro i
    simp only [Fo.add, chain]
    by_cases e : i = k
    · subst e; simp
    · have : (i < k + 1) ↔ (i < k) := by omega
      simp only [e, if_false, this]
  · intro q
    simp only [Fo.add, chain]
    by_cases e : q = (k : Int) - 1
    · subst e
      have h1 : ¬ ((-1 : Int) ≤ (k : Int) - 1 ∧ (k : Int) - 1 + 1 < (k : Int)) := by omega
      have h2 : ((-1 : Int) ≤ (k : Int) - 1 ∧ (k : Int) - 1 + 1 < ((k + 1 : Nat) : Int)) := by omega
      have h3 : ((k : Int) - 1 + 1).toNat = k := by omega
      rw [if_pos rfl, if_neg h1, if_pos h2, h3]
    · have : ((-1 : Int) ≤ q ∧ q + 1 < ((k + 1 : Nat) : Int)) ↔ ((-1 : Int) ≤ q ∧ q + 1 < (k : Int)) := by omega
      simp only [e, if_false, this]
  · simp only [Fo.add, chain]
    obtain ⟨m, rfl⟩ : ∃ m, n = k + 1 + m := ⟨n - (k + 1), by omega⟩
    rw [show k + 1 + m - k = m + 1 by omega, show k + 1 + m - (k + 1) = m by omega, List.range'_succ, List.reverse_cons, List.dropLast_concat]
theorem chain_flat (n k : Nat) : ∀ (m j : Nat), j + 1 + m = k → Flat (chain n k) ((chain n k).kids (j : Int)) (List.range' (j + 1) m)
  | 0, j, h => by rw [chain_end n k j (by omega)]; exact .nil
  | m + 1, j, h => by
    rw [chain_kids n k j (by omega), List.range'_succ]
    have h1 := chain_flat n k m (j + 1) (by omega)
    have h2 := Flat.cons (i := j + 1) (r := []) h1 .nil
    simpa using h2
theorem wf_empty (n : Nat) : WF (chain n 0) := by
  refine ⟨fun p i => ?_, fun p => ?_, fun i h => ?_, fun i h => ?_, fun i => ?_, ?_, ⟨fun _ => 0, fun i j h => ?_⟩⟩
  · have : ¬ ((-1 : Int) ≤ p ∧ p + 1 < ((0 : Nat) : Int)) := by omega
    simp [chain]
    omega
  · have : ¬ ((-1 : Int) ≤ p ∧ p + 1 < ((0 : Nat) : Int)) := by omega
    simp only [chain, this, if_false]
    exact List.nodup_nil
  · simp [chain] at h
  · simp [chain] at h
  · simp [chain, List.mem_range']
  · exact (List.reverse_perm _).nodup_iff.2 List.nodup_range'
  · simp [chain] at h
def Raw.none_ : Raw := ⟨fun _ => Nd.zero, -1⟩
theorem rep_empty (n : Nat) : Rep Raw.none_ (chain n 0) := by
  refine ⟨fun i _ => ?_, ?_⟩
  · simp [Raw.none_, Fo.nod, chain]
  · simp [Raw.none_, chain, hd]
theorem chain_ok (n k : Nat) : (chain n k).ok ((k : Int) - 1) := by
  rcases k with _ | k
  · exact .inl (by simp)
  · exact .inr ⟨k, by simp, by simp [chain]⟩
theorem wf_chain (n : Nat) : ∀ k, k ≤ n → WF (chain n k)
  | 0, _ => wf_empty n
  | k + 1, h => by
    rw [← chain_add (show k < n by omega)]
    exact (wf_chain n k (by omega)).add (chain_ok n k) (chain_last (by omega))
end Go.Proofs.Ytoihldagpnkfoaa
