/- The reference's places stand for a forest; what Add, Drop, Prune do on them: plain. No program in sight. -/
import Derived.Test.YtoihldagpnkfoaaTreeQM
namespace Go.Proofs.Ytoihldagpnkfoaa
set_option linter.unusedVariables false
set_option linter.unusedSimpArgs false

structure QRep (Q : Qw) (F : Fo) : Prop where
  t : ∀ i, i < F.n → (Q.M i).t = F.there i
  p : ∀ i, i < F.n → (Q.M i).p = if F.there i = true then F.par i else -1
  K : ∀ i, i < F.n → (Q.M i).K = F.kids (i : Int)
  rt : Q.rt.K = F.kids (-1)
  ord : F.free.Pairwise (fun i j => (Q.M i).fr < (Q.M j).fr)
  le : ∀ i ∈ F.free, (Q.M i).fr ≤ Q.T

def newQ (p : Int) : Qd := ⟨true, p, none, 0, [], 0⟩
def zeroQ (T : Int) : Qd := ⟨false, -1, none, 0, [], T⟩
theorem QRep.row {Q : Qw} {F : Fo} (h : QRep Q F) (hF : WF F) {p : Int} (hp : F.ok p) : (Q.row p).K = F.kids p := by
  rcases hp with rfl | ⟨j, rfl, hj⟩
  · simp [Qw.row, h.rt]
  · have : ¬ ((j : Nat) : Int) < 0 := by omega
    simp only [Qw.row, this, if_false, Int.toNat_natCast]
    exact h.K j (hF.lt j hj)

/-- What is at a place behind a row was set. -/
theorem setRow_M (Q : Qw) (p : Int) (r : Rw) (i : Nat) : ((Q.setRow p r).M i).t = (Q.M i).t ∧ ((Q.setRow p r).M i).p = (Q.M i).p ∧ ((Q.setRow p r).M i).fr = (Q.M i).fr ∧ ((Q.setRow p r).M i).K = if (i : Int) = p then r.K else (Q.M i).K := by
  unfold Qw.setRow
  by_cases hp : p < 0
  · have : ¬ (i : Int) = p := by omega
    simp only [hp, if_true, this, if_false, and_self]
  · simp only [hp, if_false, Qw.setK, Qw.put, setQ]
    by_cases e : i = p.toNat
    · have : (i : Int) = p := by omega
      rw [if_pos e, if_pos this, e]
      exact ⟨rfl, rfl, rfl, rfl⟩
    · have : ¬ (i : Int) = p := by omega
      rw [if_neg e, if_neg this]
      exact ⟨rfl, rfl, rfl, rfl⟩
theorem setRow_rt (Q : Qw) (p : Int) (r : Rw) : (Q.setRow p r).rt.K = (if p < 0 then r.K else Q.rt.K) ∧ (Q.setRow p r).T = Q.T := by
  unfold Qw.setRow
  by_cases hp : p < 0 <;> simp [hp, Qw.setK, Qw.put]
theorem put_M (Q : Qw) (a : Nat) (x : Qd) (i : Nat) : (Q.put a x).M i = if i = a then x else Q.M i := rfl

theorem qrep_add {Q : Qw} {F : Fo} (h : QRep Q F) (hF : WF F) {p : Int} (hp : F.ok p) {x : Nat} (hx : F.free.getLast? = some x) {r : Rw} (hr : r.K = x :: F.kids p) : QRep ((Q.put x (newQ p)).setRow p r) (F.add p x) := by
  obtain ⟨hxn, hxt⟩ := (hF.fr x).1 (last_mem hx)
  have hsp := last_split hx
  have hfnd := hF.fnd
  rw [hsp, List.nodup_append] at hfnd
  have hnx : ∀ i ∈ F.free.dropLast, i ≠ x := fun i hi e => hfnd.2.2 i hi x (by simp) e
  have hkx : F.kids (x : Int) = [] := hF.kids_nil hxt
  have hpx : ¬ (x : Int) = p := by
    rcases hp with rfl | ⟨j, rfl, hj⟩
    · omega
    · intro e
      have : x = j := by omega
      rw [this, hj] at hxt
      cases hxt
  have hfr : ∀ i ∈ F.free.dropLast, (((Q.put x (newQ p)).setRow p r).M i).fr = (Q.M i).fr := fun i hi => by
    rw [(setRow_M _ _ _ i).2.2.1, put_M, if_neg (hnx i hi)]
  refine ⟨fun i hi => ?_, fun i hi => ?_, fun i hi => ?_, ?_, ?_, fun i hi => ?_⟩
  · rw [(setRow_M _ _ _ i).1, put_M]
    simp only [Fo.add]
    by_cases e : i = x
    · simp [e, newQ]
    · simp only [e, if_false]
      exact h.t i hi
  · rw [(setRow_M _ _ _ i).2.1, put_M]
    simp only [Fo.add]
    by_cases e : i = x
    · simp [e, newQ]
    · simp only [e, if_false]
      exact h.p i hi
  · rw [(setRow_M _ _ _ i).2.2.2, put_M]
    simp only [Fo.add]
    by_cases ep : (i : Int) = p
    · simp only [ep, if_true]
      exact hr
    · simp only [ep, if_false]
      by_cases e : i = x
      · rw [if_pos e, e, hkx]; rfl
      · rw [if_neg e]
        exact h.K i hi
  · rw [(setRow_rt _ _ _).1]
    simp only [Fo.add]
    rcases hp with rfl | ⟨j, rfl, hj⟩
    · simp [hr]
    · have h1 : ¬ ((j : Nat) : Int) < 0 := by omega
      have h2 : ¬ (-1 : Int) = (j : Int) := by omega
      simp only [h1, if_false, h2]
      exact h.rt
  · have h1 : F.free.dropLast.Pairwise (fun i j => (Q.M i).fr < (Q.M j).fr) := by
      have h2 := h.ord
      rw [hsp, List.pairwise_append] at h2
      exact h2.1
    simp only [Fo.add]
    exact h1.imp_of_mem fun {a b} ha hb hab => by
      rw [hfr a ha, hfr b hb]
      exact hab
  · simp only [Fo.add] at hi
    rw [hfr i hi, (setRow_rt _ _ _).2]
    exact h.le i (by rw [hsp]; simp [hi])

/-- A place is freed. -/
def Qw.free (Q : Qw) (x : Nat) : Qw := ({ Q with T := Q.T + 1 } : Qw).put x (zeroQ (Q.T + 1))
def freeL (Q : Qw) (ds : List Nat) : Qw := ds.foldl Qw.free Q
theorem freeL_all : ∀ (ds : List Nat) (Q : Qw), ds.Nodup → (∀ i, i ∉ ds → (freeL Q ds).M i = Q.M i) ∧ (∀ i ∈ ds, ∃ e, (freeL Q ds).M i = zeroQ e ∧ Q.T < e ∧ e ≤ Q.T + ds.length) ∧ ds.Pairwise (fun i j => ((freeL Q ds).M i).fr < ((freeL Q ds).M j).fr) ∧ (freeL Q ds).T = Q.T + ds.length ∧ (freeL Q ds).rt = Q.rt
  | [], Q, _ => ⟨fun _ _ => rfl, fun i hi => by simp at hi, List.Pairwise.nil, by simp [freeL], rfl⟩
  | d :: ds, Q, hn => by
    rw [List.nodup_cons] at hn
    obtain ⟨h1, h2, h3, h4, h5⟩ := freeL_all ds (Q.free d) hn.2
    have e : freeL Q (d :: ds) = freeL (Q.free d) ds := rfl
    rw [e]
    have hd : (freeL (Q.free d) ds).M d = zeroQ (Q.T + 1) := by
      rw [h1 d hn.1]
      simp [Qw.free, Qw.put, setQ]
    have hT : (Q.free d).T = Q.T + 1 := rfl
    refine ⟨fun i hi => ?_, fun i hi => ?_, ?_, ?_, h5⟩
    · simp only [List.mem_cons, not_or] at hi
      rw [h1 i hi.2]
      simp [Qw.free, Qw.put, setQ, hi.1]
    · rcases List.mem_cons.1 hi with rfl | hi
      · exact ⟨_, hd, by omega, by simp only [List.length_cons]; omega⟩
      · obtain ⟨e, h6, h7, h8⟩ := h2 i hi
        refine ⟨e, h6, by omega, ?_⟩
        simp only [List.length_cons]
        omega
    · rw [List.pairwise_cons]
      refine ⟨fun i hi => ?_, h3⟩
      obtain ⟨e, h6, h7, h8⟩ := h2 i hi
      rw [hd, h6]
      show Q.T + 1 < e
      omega
    · rw [h4, hT]
      simp only [List.length_cons]
      omega

theorem qrep_prune {Q : Qw} {F : Fo} (h : QRep Q F) (hF : WF F) {x : Nat} (hx : F.there x = true) {ds : List Nat} (hd : Flat F (F.kids (x : Int)) ds) : QRep ((freeL Q ds).setK x ⟨none, 0, []⟩) (F.prune x ds) := by
  have hm := desc_mem hF hd
  have hnd := hd.nodup hF (x : Int) (fun _ hh => hh) (hF.nd _)
  have hdt : ∀ d, d ∈ ds → F.there d = true := fun d hd' => ((hm d).1 hd').there
  have hxd : x ∉ ds := fun e => by
    obtain ⟨g, hg⟩ := hF.ht
    have := above_ht ((hm x).1 e) hg
    omega
  obtain ⟨h1, h2, h3, h4, h5⟩ := freeL_all ds Q hnd
  have hM : ∀ i, ((freeL Q ds).setK x ⟨none, 0, []⟩).M i = if i = x then { Q.M x with A := none, c := 0, K := [] } else (freeL Q ds).M i := fun i => by
    simp only [Qw.setK, put_M, h1 x hxd]
  have hfd : ∀ i ∈ F.free, i ≠ x ∧ i ∉ ds := fun i hi => by
    have hi' := ((hF.fr i).1 hi).2
    refine ⟨fun e => ?_, fun e => ?_⟩
    · subst e; rw [hx] at hi'; cases hi'
    · rw [hdt i e] at hi'; cases hi'
  have hdx : ∀ d ∈ ds, d ≠ x := fun d hd' e => hxd (e ▸ hd')
  have hany : ∀ q : Int, (ds.any (fun d => decide (q = (d : Int)))) = true ↔ ∃ d ∈ ds, q = (d : Int) := by intro q; simp
  refine ⟨fun i hi => ?_, fun i hi => ?_, fun i hi => ?_, ?_, ?_, fun i hi => ?_⟩
  · rw [hM]
    simp only [Fo.prune]
    by_cases e : i = x
    · subst e
      simp [h.t i hi, hxd]
    · rw [if_neg e]
      by_cases ed : i ∈ ds
      · obtain ⟨z, hz, _⟩ := h2 i ed
        simp [hz, zeroQ, ed]
      · rw [h1 i ed, h.t i hi]
        simp [ed]
  · rw [hM]
    simp only [Fo.prune]
    by_cases e : i = x
    · subst e
      simp [h.p i hi, hxd, hx]
    · rw [if_neg e]
      by_cases ed : i ∈ ds
      · obtain ⟨z, hz, _⟩ := h2 i ed
        simp [hz, zeroQ, ed]
      · rw [h1 i ed, h.p i hi]
        simp [ed]
  · rw [hM]
    simp only [Fo.prune]
    by_cases e : i = x
    · subst e
      simp
    · have e' : ¬ (i : Int) = (x : Int) := by omega
      rw [if_neg e, if_neg e']
      by_cases ed : i ∈ ds
      · obtain ⟨z, hz, _⟩ := h2 i ed
        have : ds.any (fun d => decide ((i : Int) = (d : Int))) = true := (hany _).2 ⟨i, ed, rfl⟩
        simp only [hz, zeroQ, this, if_true]
      · have : ¬ ds.any (fun d => decide ((i : Int) = (d : Int))) = true := fun hh => by
          obtain ⟨d, hd', e2⟩ := (hany _).1 hh
          have : i = d := by omega
          exact ed (this ▸ hd')
        rw [if_neg this, h1 i ed, h.K i hi]
  · simp only [Fo.prune]
    have e' : ¬ (-1 : Int) = (x : Int) := by omega
    have : ¬ ds.any (fun d => decide ((-1 : Int) = (d : Int))) = true := fun hh => by
      obtain ⟨d, hd', e2⟩ := (hany _).1 hh
      omega
    rw [if_neg e', if_neg this]
    show (freeL Q ds).rt.K = _
    rw [h5]
    exact h.rt
  · simp only [Fo.prune]
    rw [List.pairwise_append]
    refine ⟨h.ord.imp_of_mem fun {a b} ha hb hab => ?_, h3.imp_of_mem fun {a b} ha hb hab => ?_, fun a ha b hb => ?_⟩
    · rw [hM, hM, if_neg (hfd a ha).1, if_neg (hfd b hb).1, h1 a (hfd a ha).2, h1 b (hfd b hb).2]
      exact hab
    · rw [hM, hM, if_neg (hdx a ha), if_neg (hdx b hb)]
      exact hab
    · obtain ⟨z, hz, hz1, _⟩ := h2 b hb
      rw [hM, hM, if_neg (hfd a ha).1, if_neg (hdx b hb), h1 a (hfd a ha).2, hz]
      have := h.le a ha
      show _ < z
      omega
  · simp only [Fo.prune] at hi
    show _ ≤ (freeL Q ds).T
    rw [h4, hM]
    rcases List.mem_append.1 hi with hi | hi
    · rw [if_neg (hfd i hi).1, h1 i (hfd i hi).2]
      have := h.le i hi
      omega
    · obtain ⟨z, hz, _, hz2⟩ := h2 i hi
      rw [if_neg (hdx i hi), hz]
      exact hz2

/-- The parents of some set. -/
def setPs (Q : Qw) (K : List Nat) (v : Int) : Qw := K.foldl (fun Q k => Q.setP k v) Q
theorem setPs_all (v : Int) : ∀ (K : List Nat) (Q : Qw), (∀ i, (setPs Q K v).M i = if i ∈ K then { Q.M i with p := v } else Q.M i) ∧ (setPs Q K v).T = Q.T ∧ (setPs Q K v).rt = Q.rt
  | [], Q => ⟨fun i => by simp [setPs], rfl, rfl⟩
  | k :: K, Q => by
    obtain ⟨h1, h2, h3⟩ := setPs_all v K (Q.setP k v)
    have e : setPs Q (k :: K) v = setPs (Q.setP k v) K v := rfl
    rw [e]
    refine ⟨fun i => ?_, h2, h3⟩
    rw [h1]
    simp only [Qw.setP, put_M]
    by_cases e1 : i = k
    · subst e1
      by_cases e2 : i ∈ K <;> simp [e2]
    · by_cases e2 : i ∈ K <;> simp [e1, e2]

theorem qrep_drop {Q : Qw} {F : Fo} (h : QRep Q F) (hF : WF F) {x : Nat} (hx : F.there x = true) {r : Rw} (hr : r.K = (F.kids (F.par x)).flatMap (fun i => if i = x then F.kids (x : Int) else [i])) :
    QRep (((setPs Q (F.kids (x : Int)) (F.par x)).setRow (F.par x) r).free x) (F.drop x) := by
  obtain ⟨h1, h2, h3⟩ := setPs_all (F.par x) (F.kids (x : Int)) Q
  have hns := hF.not_self hx
  have hmem : ∀ i, i ∈ F.kids (x : Int) ↔ (F.there i = true ∧ F.par i = (x : Int)) := fun i => hF.kin _ _
  have hM : ∀ i, (((setPs Q (F.kids (x : Int)) (F.par x)).setRow (F.par x) r).free x).M i = if i = x then zeroQ (Q.T + 1) else ((setPs Q (F.kids (x : Int)) (F.par x)).setRow (F.par x) r).M i := fun i => by
    simp only [Qw.free, put_M, (setRow_rt _ _ _).2, h2]
  have hT : (((setPs Q (F.kids (x : Int)) (F.par x)).setRow (F.par x) r).free x).T = Q.T + 1 := by
    show ((setPs Q (F.kids (x : Int)) (F.par x)).setRow (F.par x) r).T + 1 = _
    rw [(setRow_rt _ _ _).2, h2]
  have hfr : ∀ i ∈ F.free, i ≠ x ∧ (((setPs Q (F.kids (x : Int)) (F.par x)).setRow (F.par x) r).M i).fr = (Q.M i).fr := fun i hi => by
    have hi' := ((hF.fr i).1 hi).2
    refine ⟨fun e => (by subst e; rw [hx] at hi'; cases hi'), ?_⟩
    rw [(setRow_M _ _ _ i).2.2.1, h1]
    by_cases e : i ∈ F.kids (x : Int) <;> simp [e]
  refine ⟨fun i hi => ?_, fun i hi => ?_, fun i hi => ?_, ?_, ?_, fun i hi => ?_⟩
  · rw [hM]
    simp only [Fo.drop]
    by_cases e : i = x
    · simp [e, zeroQ]
    · rw [if_neg e, if_neg e, (setRow_M _ _ _ i).1, h1]
      by_cases e2 : i ∈ F.kids (x : Int) <;> simp [e2, h.t i hi]
  · rw [hM]
    simp only [Fo.drop]
    by_cases e : i = x
    · simp [e, zeroQ]
    · rw [if_neg e, (setRow_M _ _ _ i).2.1, h1]
      simp only [e, if_false]
      by_cases e2 : i ∈ F.kids (x : Int)
      · obtain ⟨k1, k2⟩ := (hmem i).1 e2
        simp [e2, k1, k2]
      · have e3 : ¬ (F.there i = true ∧ F.par i = (x : Int)) := fun hh => e2 ((hmem i).2 hh)
        rw [if_neg e2, if_neg e3]
        exact h.p i hi
  · rw [hM]
    simp only [Fo.drop]
    by_cases e : i = x
    · subst e
      simp [zeroQ, Ne.symm hns]
    · have e' : ¬ (i : Int) = (x : Int) := by omega
      rw [if_neg e, (setRow_M _ _ _ i).2.2.2, if_neg e']
      by_cases ep : (i : Int) = F.par x
      · rw [if_pos ep, if_pos ep, hr]
      · rw [if_neg ep, if_neg ep, h1]
        by_cases e2 : i ∈ F.kids (x : Int) <;> simp [e2, h.K i hi]
  · show ((setPs Q (F.kids (x : Int)) (F.par x)).setRow (F.par x) r).rt.K = _
    rw [(setRow_rt _ _ _).1, h3]
    simp only [Fo.drop]
    have e' : ¬ (-1 : Int) = (x : Int) := by omega
    rw [if_neg e']
    rcases hF.up x hx with e | ⟨j, e, hj⟩
    · have : (-1 : Int) < 0 := by omega
      rw [e, if_pos this, if_pos rfl, hr, e]
    · have k1 : ¬ ((j : Nat) : Int) < 0 := by omega
      have k2 : ¬ (-1 : Int) = (j : Int) := by omega
      rw [e, if_neg k1, if_neg k2]
      exact h.rt
  · simp only [Fo.drop]
    rw [List.pairwise_append]
    refine ⟨h.ord.imp_of_mem fun {a b} ha hb hab => ?_, by simp, fun a ha b hb => ?_⟩
    · rw [hM, hM, if_neg (hfr a ha).1, if_neg (hfr b hb).1, (hfr a ha).2, (hfr b hb).2]
      exact hab
    · have : b = x := by simpa using hb
      subst this
      rw [hM, hM, if_neg (hfr a ha).1, if_pos rfl, (hfr a ha).2]
      have := h.le a ha
      show _ < Q.T + 1
      omega
  · rw [hT, hM]
    simp only [Fo.drop] at hi
    rcases List.mem_append.1 hi with hi | hi
    · rw [if_neg (hfr i hi).1, (hfr i hi).2]
      have := h.le i hi
      omega
    · have : i = x := by simpa using hi
      rw [if_pos this]
      exact Int.le_refl _

/-- The last free place is the one that was freed last. -/
theorem last_max {Q : Qw} {F : Fo} (h : QRep Q F) (hF : WF F) {x : Nat} (hx : F.free.getLast? = some x) (i : Nat) (hi : i < F.n) (ht : F.there i = false) : i = x ∨ (Q.M i).fr < (Q.M x).fr := by
  have hm : i ∈ F.free := (hF.fr i).2 ⟨hi, ht⟩
  have hsp := last_split hx
  have ho := h.ord
  rw [hsp, List.pairwise_append] at ho
  rw [hsp] at hm
  rcases List.mem_append.1 hm with hm | hm
  · exact .inr (ho.2.2 i hm x (by simp))
  · exact .inl (by simpa using hm)
end Go.Proofs.Ytoihldagpnkfoaa
