/- Of the following, one behind the other: The reference's places stand for a forest; what Add, Drop, Prune do on them: plain. No program in sight. The program's forest and the reference's, side by side: both are of one forest, on blocks of their own. No program walked. Drop and Prune of the program's forest, whole, by walks. Condition: the places are a forest's. New of the program's forest, by a walk: 1 to 4096 places, all free; none of another size. Copy of the program's forest, by a walk: the same places on memory of its own. Condition: the places are a forest's. Copy and Same of the program's forest, by walks. Condition: the places are a forest's. Same of the program's forest, by a walk: true just if both have the same places. Condition: both are there, of one size. The program's forest by its forest alone: each function's contract in these words; much, by walks. Capability tables in memory: the space's block, its forest, its three maps; the keys; what is looked up. No program walked. -/
import Derived.Test.YtbknmfegckeogaaPk5
import Derived.Deep.RegionHeld3
import Derived.Deep.QuietTactic
import Derived.BigQuiet
import Derived.Laws.StructEq
import Derived.ChangeKeysEq
import Derived.Test.YtbknmfegckeogaaPk3
import Derived.Test.YtbknmfegckeogaaPk4
import Derived.WideKeyArr
/- The reference's places stand for a forest; what Add, Drop, Prune do on them: plain. No program in sight. -/
namespace Go.Proofs.Ytbknmfegckeogaa
set_option linter.unusedVariables false
set_option linter.unusedSimpArgs false

structure QRep (Q : Qw) (F : Fo) : Prop where
  t : ∀ i, i < F.n → (Q.M i).t = F.there i
  p : ∀ i, i < F.n → (Q.M i).p = if F.there i = true then F.par i else -1
  K : ∀ i, i < F.n → (Q.M i).K = F.kids (i : Int)
  rt : Q.rt.K = F.kids (-1)
  ord : F.free.Pairwise (fun i j => (Q.M i).fr < (Q.M j).fr)
  le : ∀ i ∈ F.free, (Q.M i).fr ≤ Q.T

def newQ (p : Int) : Qd := ⟨true, p, none, 0, [], 0⟩
def zeroQ (T : Int) : Qd := ⟨false, -1, none, 0, [], T⟩
theorem QRep.row {Q : Qw} {F : Fo} (h : QRep Q F) (hF : WF F) {p : Int} (hp : F.ok p) : (Q.row p).K = F.kids p := by
  rcases hp with rfl | ⟨j, rfl, hj⟩
  · simp [Qw.row, h.rt]
  · have : ¬ ((j : Nat) : Int) < 0 := by omega
    simp only [Qw.row, this, if_false, Int.toNat_natCast]
    exact h.K j (hF.lt j hj)

/-- What is at a place behind a row was set. -/
theorem setRow_M (Q : Qw) (p : Int) (r : Rw) (i : Nat) : ((Q.setRow p r).M i).t = (Q.M i).t ∧ ((Q.setRow p r).M i).p = (Q.M i).p ∧ ((Q.setRow p r).M i).fr = (Q.M i).fr ∧ ((Q.setRow p r).M i).K = if (i : Int) = p then r.K else (Q.M i).K := by
  unfold Qw.setRow
  by_cases hp : p < 0
  · have : ¬ (i : Int) = p := by omega
    simp only [hp, if_true, this, if_false, and_self]
  · simp only [hp, if_false, Qw.setK, Qw.put, setQ]
    by_cases e : i = p.toNat
    · have : (i : Int) = p := by omega
      rw [if_pos e, if_pos this, e]
      exact ⟨rfl, rfl, rfl, rfl⟩
    · have : ¬ (i : Int) = p := by omega
      rw [if_neg e, if_neg this]
      exact ⟨rfl, rfl, rfl, rfl⟩
theorem setRow_rt (Q : Qw) (p : Int) (r : Rw) : (Q.setRow p r).rt.K = (if p < 0 then r.K else Q.rt.K) ∧ (Q.setRow p r).T = Q.T := by
  unfold Qw.setRow
  by_cases hp : p < 0 <;> simp [hp, Qw.setK, Qw.put]
theorem put_M (Q : Qw) (a : Nat) (x : Qd) (i : Nat) : (Q.put a x).M i = if i = a then x else Q.M i := rfl

theorem qrep_add {Q : Qw} {F : Fo} (h : QRep Q F) (hF : WF F) {p : Int} (hp : F.ok p) {x : Nat} (hx : F.free.getLast? = some x) {r : Rw} (hr : r.K = x :: F.kids p) : QRep ((Q.put x (newQ p)).setRow p r) (F.add p x) := by
  obtain ⟨hxn, hxt⟩ := (hF.fr x).1 (last_mem hx)
  have hsp := last_split hx
  have hfnd := hF.fnd
  rw [hsp, List.nodup_append] at hfnd
  have hnx : ∀ i ∈ F.free.dropLast, i ≠ x := fun i hi e => hfnd.2.2 i hi x (by simp) e
  have hkx : F.kids (x : Int) = [] := hF.kids_nil hxt
  have hpx : ¬ (x : Int) = p := by
    rcases hp with rfl | ⟨j, rfl, hj⟩
    · omega
    · intro e
      have : x = j := by omega
      rw [this, hj] at hxt
      cases hxt
  have hfr : ∀ i ∈ F.free.dropLast, (((Q.put x (newQ p)).setRow p r).M i).fr = (Q.M i).fr := fun i hi => by
    rw [(setRow_M _ _ _ i).2.2.1, put_M, if_neg (hnx i hi)]
  refine ⟨fun i hi => ?_, fun i hi => ?_, fun i hi => ?_, ?_, ?_, fun i hi => ?_⟩
  · rw [(setRow_M _ _ _ i).1, put_M]
    simp only [Fo.add]
    by_cases e : i = x
    · simp [e, newQ]
    · simp only [e, if_false]
      exact h.t i hi
  · rw [(setRow_M _ _ _ i).2.1, put_M]
    simp only [Fo.add]
    by_cases e : i = x
    · simp [e, newQ]
    · simp only [e, if_false]
      exact h.p i hi
  · rw [(setRow_M _ _ _ i).2.2.2, put_M]
    simp only [Fo.add]
    by_cases ep : (i : Int) = p
    · simp only [ep, if_true]
      exact hr
    · simp only [ep, if_false]
      by_cases e : i = x
      · rw [if_pos e, e, hkx]; rfl
      · rw [if_neg e]
        exact h.K i hi
  · rw [(setRow_rt _ _ _).1]
    simp only [Fo.add]
    rcases hp with rfl | ⟨j, rfl, hj⟩
    · simp [hr]
    · have h1 : ¬ ((j : Nat) : Int) < 0 := by omega
      have h2 : ¬ (-1 : Int) = (j : Int) := by omega
      simp only [h1, if_false, h2]
      exact h.rt
  · have h1 : F.free.dropLast.Pairwise (fun i j => (Q.M i).fr < (Q.M j).fr) := by
      have h2 := h.ord
      rw [hsp, List.pairwise_append] at h2
      exact h2.1
    simp only [Fo.add]
    exact h1.imp_of_mem fun {a b} ha hb hab => by
      rw [hfr a ha, hfr b hb]
      exact hab
  · simp only [Fo.add] at hi
    rw [hfr i hi, (setRow_rt _ _ _).2]
    exact h.le i (by rw [hsp]; simp [hi])

/-- A place is freed. -/
def Qw.free (Q : Qw) (x : Nat) : Qw := ({ Q with T := Q.T + 1 } : Qw).put x (zeroQ (Q.T + 1))
def freeL (Q : Qw) (ds : List Nat) : Qw := ds.foldl Qw.free Q
theorem freeL_all : ∀ (ds : List Nat) (Q : Qw), ds.Nodup → (∀ i, i ∉ ds → (freeL Q ds).M i = Q.M i) ∧ (∀ i ∈ ds, ∃ e, (freeL Q ds).M i = zeroQ e ∧ Q.T < e ∧ e ≤ Q.T + ds.length) ∧ ds.Pairwise (fun i j => ((freeL Q ds).M i).fr < ((freeL Q ds).M j).fr) ∧ (freeL Q ds).T = Q.T + ds.length ∧ (freeL Q ds).rt = Q.rt
  | [], Q, _ => ⟨fun _ _ => rfl, fun i hi => by simp at hi, List.Pairwise.nil, by simp [freeL], rfl⟩
  | d :: ds, Q, hn => by
    rw [List.nodup_cons] at hn
    obtain ⟨h1, h2, h3, h4, h5⟩ := freeL_all ds (Q.free d) hn.2
    have e : freeL Q (d :: ds) = freeL (Q.free d) ds := rfl
    rw [e]
    have hd : (freeL (Q.free d) ds).M d = zeroQ (Q.T + 1) := by
      rw [h1 d hn.1]
      simp [Qw.free, Qw.put, setQ]
    have hT : (Q.free d).T = Q.T + 1 := rfl
    refine ⟨fun i hi => ?_, fun i hi => ?_, ?_, ?_, h5⟩
    · simp only [List.mem_cons, not_or] at hi
      rw [h1 i hi.2]
      simp [Qw.free, Qw.put, setQ, hi.1]
    · rcases List.mem_cons.1 hi with rfl | hi
      · exact ⟨_, hd, by omega, by simp only [List.length_cons]; omega⟩
      · obtain ⟨e, h6, h7, h8⟩ := h2 i hi
        refine ⟨e, h6, by omega, ?_⟩
        simp only [List.length_cons]
        omega
    · rw [List.pairwise_cons]
      refine ⟨fun i hi => ?_, h3⟩
      obtain ⟨e, h6, h7, h8⟩ := h2 i hi
      rw [hd, h6]
      show Q.T + 1 < e
      omega
    · rw [h4, hT]
      simp only [List.length_cons]
      omega

theorem qrep_prune {Q : Qw} {F : Fo} (h : QRep Q F) (hF : WF F) {x : Nat} (hx : F.there x = true) {ds : List Nat} (hd : Flat F (F.kids (x : Int)) ds) : QRep ((freeL Q ds).setK x ⟨none, 0, []⟩) (F.prune x ds) := by
  have hm := desc_mem hF hd
  have hnd := hd.nodup hF (x : Int) (fun _ hh => hh) (hF.nd _)
  have hdt : ∀ d, d ∈ ds → F.there d = true := fun d hd' => ((hm d).1 hd').there
  have hxd : x ∉ ds := fun e => by
    obtain ⟨g, hg⟩ := hF.ht
    have := above_ht ((hm x).1 e) hg
    omega
  obtain ⟨h1, h2, h3, h4, h5⟩ := freeL_all ds Q hnd
  have hM : ∀ i, ((freeL Q ds).setK x ⟨none, 0, []⟩).M i = if i = x then { Q.M x with A := none, c := 0, K := [] } else (freeL Q ds).M i := fun i => by
    simp only [Qw.setK, put_M, h1 x hxd]
  have hfd : ∀ i ∈ F.free, i ≠ x ∧ i ∉ ds := fun i hi => by
    have hi' := ((hF.fr i).1 hi).2
    refine ⟨fun e => ?_, fun e => ?_⟩
    · subst e; rw [hx] at hi'; cases hi'
    · rw [hdt i e] at hi'; cases hi'
  have hdx : ∀ d ∈ ds, d ≠ x := fun d hd' e => hxd (e ▸ hd')
  have hany : ∀ q : Int, (ds.any (fun d => decide (q = (d : Int)))) = true ↔ ∃ d ∈ ds, q = (d : Int) := by intro q; simp
  refine ⟨fun i hi => ?_, fun i hi => ?_, fun i hi => ?_, ?_, ?_, fun i hi => ?_⟩
  · rw [hM]
    simp only [Fo.prune]
    by_cases e : i = x
    · subst e
      simp [h.t i hi, hxd]
    · rw [if_neg e]
      by_cases ed : i ∈ ds
      · obtain ⟨z, hz, _⟩ := h2 i ed
        simp [hz, zeroQ, ed]
      · rw [h1 i ed, h.t i hi]
        simp [ed]
  · rw [hM]
    simp only [Fo.prune]
    by_cases e : i = x
    · subst e
      simp [h.p i hi, hxd, hx]
    · rw [if_neg e]
      by_cases ed : i ∈ ds
      · obtain ⟨z, hz, _⟩ := h2 i ed
        simp [hz, zeroQ, ed]
      · rw [h1 i ed, h.p i hi]
        simp [ed]
  · rw [hM]
    simp only [Fo.prune]
    by_cases e : i = x
    · subst e
      simp
    · have e' : ¬ (i : Int) = (x : Int) := by omega
      rw [if_neg e, if_neg e']
      by_cases ed : i ∈ ds
      · obtain ⟨z, hz, _⟩ := h2 i ed
        have : ds.any (fun d => decide ((i : Int) = (d : Int))) = true := (hany _).2 ⟨i, ed, rfl⟩
        simp only [hz, zeroQ, this, if_true]
      · have : ¬ ds.any (fun d => decide ((i : Int) = (d : Int))) = true := fun hh => by
          obtain ⟨d, hd', e2⟩ := (hany _).1 hh
          have : i = d := by omega
          exact ed (this ▸ hd')
        rw [if_neg this, h1 i ed, h.K i hi]
  · simp only [Fo.prune]
    have e' : ¬ (-1 : Int) = (x : Int) := by omega
    have : ¬ ds.any (fun d => decide ((-1 : Int) = (d : Int))) = true := fun hh => by
      obtain ⟨d, hd', e2⟩ := (hany _).1 hh
      omega
    rw [if_neg e', if_neg this]
    show (freeL Q ds).rt.K = _
    rw [h5]
    exact h.rt
  · simp only [Fo.prune]
    rw [List.pairwise_append]
    refine ⟨h.ord.imp_of_mem fun {a b} ha hb hab => ?_, h3.imp_of_mem fun {a b} ha hb hab => ?_, fun a ha b hb => ?_⟩
    · rw [hM, hM, if_neg (hfd a ha).1, if_neg (hfd b hb).1, h1 a (hfd a ha).2, h1 b (hfd b hb).2]
      exact hab
    · rw [hM, hM, if_neg (hdx a ha), if_neg (hdx b hb)]
      exact hab
    · obtain ⟨z, hz, hz1, _⟩ := h2 b hb
      rw [hM, hM, if_neg (hfd a ha).1, if_neg (hdx b hb), h1 a (hfd a ha).2, hz]
      have := h.le a ha
      show _ < z
      omega
  · simp only [Fo.prune] at hi
    show _ ≤ (freeL Q ds).T
    rw [h4, hM]
    rcases List.mem_append.1 hi with hi | hi
    · rw [if_neg (hfd i hi).1, h1 i (hfd i hi).2]
      have := h.le i hi
      omega
    · obtain ⟨z, hz, _, hz2⟩ := h2 i hi
      rw [if_neg (hdx i hi), hz]
      exact hz2

/-- The parents of some set. -/
def setPs (Q : Qw) (K : List Nat) (v : Int) : Qw := K.foldl (fun Q k => Q.setP k v) Q
theorem setPs_all (v : Int) : ∀ (K : List Nat) (Q : Qw), (∀ i, (setPs Q K v).M i = if i ∈ K then { Q.M i with p := v } else Q.M i) ∧ (setPs Q K v).T = Q.T ∧ (setPs Q K v).rt = Q.rt
  | [], Q => ⟨fun i => by simp [setPs], rfl, rfl⟩
  | k :: K, Q => by
    obtain ⟨h1, h2, h3⟩ := setPs_all v K (Q.setP k v)
    have e : setPs Q (k :: K) v = setPs (Q.setP k v) K v := rfl
    rw [e]
    refine ⟨fun i => ?_, h2, h3⟩
    rw [h1]
    simp only [Qw.setP, put_M]
    by_cases e1 : i = k
    · subst e1
      by_cases e2 : i ∈ K <;> simp [e2]
    · by_cases e2 : i ∈ K <;> simp [e1, e2]

theorem qrep_drop {Q : Qw} {F : Fo} (h : QRep Q F) (hF : WF F) {x : Nat} (hx : F.there x = true) {r : Rw} (hr : r.K = (F.kids (F.par x)).flatMap (fun i => if i = x then F.kids (x : Int) else [i])) :
    QRep (((setPs Q (F.kids (x : Int)) (F.par x)).setRow (F.par x) r).free x) (F.drop x) := by
  obtain ⟨h1, h2, h3⟩ := setPs_all (F.par x) (F.kids (x : Int)) Q
  have hns := hF.not_self hx
  have hmem : ∀ i, i ∈ F.kids (x : Int) ↔ (F.there i = true ∧ F.par i = (x : Int)) := fun i => hF.kin _ _
  have hM : ∀ i, (((setPs Q (F.kids (x : Int)) (F.par x)).setRow (F.par x) r).free x).M i = if i = x then zeroQ (Q.T + 1) else ((setPs Q (F.kids (x : Int)) (F.par x)).setRow (F.par x) r).M i := fun i => by
    simp only [Qw.free, put_M, (setRow_rt _ _ _).2, h2]
  have hT : (((setPs Q (F.kids (x : Int)) (F.par x)).setRow (F.par x) r).free x).T = Q.T + 1 := by
    show ((setPs Q (F.kids (x : Int)) (F.par x)).setRow (F.par x) r).T + 1 = _
    rw [(setRow_rt _ _ _).2, h2]
  have hfr : ∀ i ∈ F.free, i ≠ x ∧ (((setPs Q (F.kids (x : Int)) (F.par x)).setRow (F.par x) r).M i).fr = (Q.M i).fr := fun i hi => by
    have hi' := ((hF.fr i).1 hi).2
    refine ⟨fun e => (by subst e; rw [hx] at hi'; cases hi'), ?_⟩
    rw [(setRow_M _ _ _ i).2.2.1, h1]
    by_cases e : i ∈ F.kids (x : Int) <;> simp [e]
  refine ⟨fun i hi => ?_, fun i hi => ?_, fun i hi => ?_, ?_, ?_, fun i hi => ?_⟩
  · rw [hM]
    simp only [Fo.drop]
    by_cases e : i = x
    · simp [e, zeroQ]
    · rw [if_neg e, if_neg e, (setRow_M _ _ _ i).1, h1]
      by_cases e2 : i ∈ F.kids (x : Int) <;> simp [e2, h.t i hi]
  · rw [hM]
    simp only [Fo.drop]
    by_cases e : i = x
    · simp [e, zeroQ]
    · rw [if_neg e, (setRow_M _ _ _ i).2.1, h1]
      simp only [e, if_false]
      by_cases e2 : i ∈ F.kids (x : Int)
      · obtain ⟨k1, k2⟩ := (hmem i).1 e2
        simp [e2, k1, k2]
      · have e3 : ¬ (F.there i = true ∧ F.par i = (x : Int)) := fun hh => e2 ((hmem i).2 hh)
        rw [if_neg e2, if_neg e3]
        exact h.p i hi
  · rw [hM]
    simp only [Fo.drop]
    by_cases e : i = x
    · subst e
      simp [zeroQ, Ne.symm hns]
    · have e' : ¬ (i : Int) = (x : Int) := by omega
      rw [if_neg e, (setRow_M _ _ _ i).2.2.2, if_neg e']
      by_cases ep : (i : Int) = F.par x
      · rw [if_pos ep, if_pos ep, hr]
      · rw [if_neg ep, if_neg ep, h1]
        by_cases e2 : i ∈ F.kids (x : Int) <;> simp [e2, h.K i hi]
  · show ((setPs Q (F.kids (x : Int)) (F.par x)).setRow (F.par x) r).rt.K = _
    rw [(setRow_rt _ _ _).1, h3]
    simp only [Fo.drop]
    have e' : ¬ (-1 : Int) = (x : Int) := by omega
    rw [if_neg e']
    rcases hF.up x hx with e | ⟨j, e, hj⟩
    · have : (-1 : Int) < 0 := by omega
      rw [e, if_pos this, if_pos rfl, hr, e]
    · have k1 : ¬ ((j : Nat) : Int) < 0 := by omega
      have k2 : ¬ (-1 : Int) = (j : Int) := by omega
      rw [e, if_neg k1, if_neg k2]
      exact h.rt
  · simp only [Fo.drop]
    rw [List.pairwise_append]
    refine ⟨h.ord.imp_of_mem fun {a b} ha hb hab => ?_, by simp, fun a ha b hb => ?_⟩
    · rw [hM, hM, if_neg (hfr a ha).1, if_neg (hfr b hb).1, (hfr a ha).2, (hfr b hb).2]
      exact hab
    · have : b = x := by simpa using hb
      subst this
      rw [hM, hM, if_neg (hfr a ha).1, if_pos rfl, (hfr a ha).2]
      have := h.le a ha
      show _ < Q.T + 1
      omega
  · rw [hT, hM]
    simp only [Fo.drop] at hi
    rcases List.mem_append.1 hi with hi | hi
    · rw [if_neg (hfr i hi).1, (hfr i hi).2]
      have := h.le i hi
      omega
    · have : i = x := by simpa using hi
      rw [if_pos this]
      exact Int.le_refl _

/-- The last free place is the one that was freed last. -/
theorem last_max {Q : Qw} {F : Fo} (h : QRep Q F) (hF : WF F) {x : Nat} (hx : F.free.getLast? = some x) (i : Nat) (hi : i < F.n) (ht : F.there i = false) : i = x ∨ (Q.M i).fr < (Q.M x).fr := by
  have hm : i ∈ F.free := (hF.fr i).2 ⟨hi, ht⟩
  have hsp := last_split hx
  have ho := h.ord
  rw [hsp, List.pairwise_append] at ho
  rw [hsp] at hm
  rcases List.mem_append.1 hm with hm | hm
  · exact .inr (ho.2.2 i hm x (by simp))
  · exact .inl (by simpa using hm)
end Go.Proofs.Ytbknmfegckeogaa

/- The program's forest and the reference's, side by side: both are of one forest, on blocks of their own. No program walked. -/
namespace Go.Proofs.Ytbknmfegckeogaa
open Go.RowKit
set_option linter.unusedVariables false
set_option linter.unusedSimpArgs false

/-- The program's forest is F. -/
structure Prg (w : World) (f lb : Nat) (v : Value) (F : Fo) : Prop where
  ps : ∃ lc R, PS w f lb F.n lc R v (nats F.free) ∧ Rep R F
  wf : WF F
theorem own3_lt {w : World} {f lb : Nat} {v : Value} {F : Fo} (h : Prg w f lb v F) {k : Nat} (hk : own3 f lb v k) : k < w.heap.size := by
  obtain ⟨lc, R, hp, hr⟩ := h.ps
  rcases hk with rfl | rfl | hk
  · exact hp.pf.head.lt
  · exact hp.pf.lt
  · exact hp.cut.lt k hk
theorem Prg.keep {w w' : World} {f lb : Nat} {v : Value} {F : Fo} (h : Prg w f lb v F) (hk : ∀ k, own3 f lb v k → w'.heap[k]? = w.heap[k]?) (hs : w.heap.size ≤ w'.heap.size) : Prg w' f lb v F := by
  obtain ⟨lc, R, hp, hr⟩ := h.ps
  exact ⟨⟨lc, R, ⟨hp.pf.keep (hk f (.inl rfl)) (hk lb (.inr (.inl rfl))) hs, hp.cut.keep fun k hh => hk k (.inr (.inr hh)), hp.nf, hp.nl⟩, hr⟩, h.wf⟩
theorem Prg.apart {S : Nat → Prop} {w w' : World} {f lb : Nat} {v : Value} {F : Fo} (h : Prg w f lb v F) (ha : Apart S w w') (hS : ∀ k, own3 f lb v k → ¬ S k) : Prg w' f lb v F :=
  h.keep (fun k hk => ha.block k (own3_lt h hk) (hS k hk)) ha.size
theorem Prg.below {w w' : World} {f lb : Nat} {v : Value} {F : Fo} (h : Prg w f lb v F) (hb : Below w.heap.size w w') : Prg w' f lb v F := h.keep (fun k hk => hb.block k (own3_lt h hk)) hb.size
/-- The blocks that are written to. -/
def jm (f lb g qb : Nat) (v : Value) (k : Nat) : Prop := own3 f lb v k ∨ own2 g qb k
/-- All blocks. -/
def jf (f lb g qb n : Nat) (v : Value) (Q : Qw) (k : Nat) : Prop := own3 f lb v k ∨ qfoot g qb n Q k
theorem jm_jf {f lb g qb n : Nat} {v : Value} {Q : Qw} {k : Nat} (h : jm f lb g qb v k) : jf f lb g qb n v Q k := by
  rcases h with h | h
  · exact .inl h
  · exact .inr (.inl h)
section
variable {w w' : World} {B f lb g qb : Nat} {v : Value} {Q : Qw} {F : Fo} {T : Nat}
end
end Go.Proofs.Ytbknmfegckeogaa

/- Drop and Prune of the program's forest, whole, by walks. Condition: the places are a forest's. -/
namespace Go.Proofs.Ytbknmfegckeogaa
open Go.RowKit
set_option linter.unusedVariables false
set_option linter.unusedSimpArgs false

theorem free_le {F : Fo} (hF : WF F) : F.free.length ≤ F.n := nodup_le _ _ hF.fnd fun i hi => ((hF.fr i).1 hi).1
theorem drop_is {w : World} {f lb : Nat} {v : Value} {F : Fo} (h : Prg w f lb v F) (x : Nat) (hx : F.there x = true) :
    Calls Try.prog 76 #[.pointer (some ⟨f, 0, none⟩), .int .i64 x] w fun e w' => e = .returned (.int .i64 0) ∧ ∃ v', Prg w' f lb v' (F.drop x) ∧ Fresh w v v' ∧ Apart (own3 f lb v) w w' := by
  obtain ⟨lc, R, hp, hR⟩ := h.ps
  have hF := h.wf
  have hxn := hF.lt x hx
  have hM := hR.at_ x hxn
  have e : F.nod x = ⟨true, F.par x, hd (F.kids (x : Int)), prv x (F.kids (F.par x)), nxt x (F.kids (F.par x))⟩ := by simp [Fo.nod, hx]
  have hn2 := hp.pf.n2
  have hxk : x ∈ F.kids (F.par x) := (hF.kin _ _).2 ⟨hx, rfl⟩
  obtain ⟨a, b, hab, ha, hb⟩ := split_at hxk (hF.nd _)
  have hprv : prv x (F.kids (F.par x)) = lastOr (-1) a := by rw [hab, prv_at b ha]
  have hnxt : nxt x (F.kids (F.par x)) = hd b := by rw [hab, nxt_at b ha]
  have hkn : ∀ p, ∀ i ∈ F.kids p, i < F.n := fun p i hi => hF.lt i ((hF.kin _ _).1 hi).1
  have hpar : F.par x = -1 ∨ (0 ≤ F.par x ∧ F.par x < (F.n : Int)) := by
    rcases hF.up x hx with e | ⟨j, e, hj⟩
    · exact .inl e
    · have := hF.lt j hj
      exact .inr (by omega)
  have hpv : prv x (F.kids (F.par x)) = -1 ∨ ∃ z ∈ F.kids (F.par x), prv x (F.kids (F.par x)) = (z : Int) := by
    rw [hprv]
    rcases lastOr_cases a with rfl | ⟨z, hz, hh⟩
    · exact .inl rfl
    · exact .inr ⟨z, by rw [hab]; simp [hz], hh _⟩
  obtain ⟨g, hg⟩ := hF.ht
  have main := drop_loop hp x hxn (F.kids (x : Int)) (by rw [nats_len]; exact Nat.le_trans (free_le hF) hn2) _ (hM.trans e) rfl rfl (hkn _) hpar
    (by
      rcases hpv with e | ⟨z, hz, e⟩
      · exact .inl e
      · have := hkn _ z hz
        refine .inr ?_
        show 0 ≤ prv x (F.kids (F.par x)) ∧ prv x (F.kids (F.par x)) < (F.n : Int)
        rw [e]
        omega)
    (by
      show inF F.n (nxt x (F.kids (F.par x)))
      rw [hnxt]
      exact hd_in fun i hi => hkn (F.par x) i (by rw [hab]; simp [hi]))
    (fun i hi => by
      show (i : Int) ≠ prv x (F.kids (F.par x))
      intro e2
      rcases hpv with e | ⟨z, hz, e⟩
      · omega
      · have : i = z := by omega
        subst this
        have h1 := ((hF.kin _ _).1 hi).2
        have h2 := ((hF.kin _ _).1 hz).2
        exact hF.not_self hx (by omega))
    (fun i hi => by
      show (i : Int) ≠ F.par x
      intro e2
      obtain ⟨k1, k2⟩ := (hF.kin _ _).1 hi
      have h1 := hg i x k1 k2
      have h2 := hg x i hx e2.symm
      omega)
    (hF.nd _) (fun c i d e2 => (linked_rep hR hF (x : Int)).2 c i d e2)
  refine main.mono ?_
  rintro e w' ⟨rfl, v', h', hf, ha'⟩
  refine ⟨rfl, v', ⟨⟨lc, _, ?_, rep_drop hR hF hx⟩, hF.drop hx⟩, hf, ha'⟩
  have : nats (F.drop x).free = nats F.free ++ [(x : Int)] := by simp [Fo.drop, nats]
  rw [this]
  exact h'
theorem prg_drop_no {w : World} {f lb : Nat} {v : Value} {F : Fo} (h : Prg w f lb v F) (x : Int) (hx : F.has x = false) :
    Calls Try.prog 76 #[.pointer (some ⟨f, 0, none⟩), .int .i64 x] w fun e w' => e = .returned (.int .i64 4) ∧ w = w' := by
  obtain ⟨lc, R, hp, hR⟩ := h.ps
  exact drop_no hp.pf x (by rw [has_rep hR h.wf]; exact hx)

theorem prune_no {w : World} {f lb : Nat} {v : Value} {F : Fo} (h : Prg w f lb v F) (x : Int) (hx : F.has x = false) :
    Calls Try.prog 57 #[.pointer (some ⟨f, 0, none⟩), .int .i64 x] w fun e w' => e = .returned (.tuple #[.slice none 0 0, .int .i64 4]) ∧ w = w' := by
  obtain ⟨lc, R, hp, hR⟩ := h.ps
  have CK := check_is hp.pf x
  rw [has_rep hR h.wf, hx] at CK
  clear hp hR h hx
  go_enter Try.func57, Try.ntmps57
  go_wp2_with (go_at_call 85; refine CK.mono ?_; rintro e w' ⟨rfl, rfl⟩)
  go_ret2
  exact ⟨rfl, rfl⟩

/-- The world at the head of Prune's loop. -/
def PruneAt (w w1 : World) (f lb lc : Nat) (v : Value) (R : Raw) (F : Fo) (ds : List Nat) (i : Value) (wr : World) : Prop :=
  ∃ (k : Nat) (v' : Value), k ≤ ds.length ∧ i = .int .i64 k ∧ PS wr f lb F.n lc (goneL R (ds.take k)) v' (nats (F.free ++ ds.take k)) ∧ Fresh w1 v v' ∧ Apart (own3 f lb v) w1 wr
theorem goneL_snoc (R : Raw) (ds : List Nat) (d : Nat) : goneL R (ds ++ [d]) = (goneL R ds).put d Nd.zero := by simp [goneL]

set_option maxRecDepth 100000 in
set_option maxHeartbeats 4000000 in
theorem prune_is {w : World} {f lb : Nat} {v : Value} {F : Fo} (h : Prg w f lb v F) (x : Nat) (hx : F.there x = true) {ds : List Nat} (hfl : Flat F (F.kids (x : Int)) ds) :
    Calls Try.prog 57 #[.pointer (some ⟨f, 0, none⟩), .int .i64 x] w fun e w' => ∃ A cap, e = .returned (.tuple #[.slice A ds.length cap, .int .i64 0]) ∧ w'.ownsRow w.heap.size 3 1 (.slice A ds.length cap) ds.length (intV (nats ds)) ∧ ∃ v', Prg w' f lb v' (F.prune x ds) ∧ Fresh w v v' ∧ Apart (own3 f lb v) w w' ∧ (∀ k, (Value.slice A ds.length cap).ownBlock = some k → v'.ownBlock ≠ some k) := by
  obtain ⟨lc, R, hp, hR⟩ := h.ps
  have hF := h.wf
  have hxn := hF.lt x hx
  have hn2 := hp.pf.n2
  have CK := check_is hp.pf x
  rw [has_rep hR hF, show F.has (x : Int) = true by simp [Fo.has, hx]] at CK
  have CD := desc_is hp.pf hR hF x hx hfl
  have hm := desc_mem hF hfl
  have hdn : ∀ d ∈ ds, d < F.n := fun d hd => hF.lt d ((hm d).1 hd).there
  have hwp := hF.prune hx hfl
  have hfp := free_le hwp
  have hfin : (F.prune x ds).free = F.free ++ ds := rfl
  rw [hfin, List.length_append] at hfp
  have hfn : (F.prune x ds).n = F.n := rfl
  rw [hfn] at hfp
  have hrp := rep_prune hR hF hx hfl
  have HRP := Lib.hid (And.intro hrp hwp)
  have HD := Lib.hid hdn
  have HPS := Lib.hid hp
  have HLT := Lib.hid (fun k (hk : own3 f lb v k) => own3_lt h hk)
  clear hp hR hF hm hdn hfl hwp hfin hfn hrp h hx
  go_enter Try.func57, Try.ntmps57
  go_wp2_with (first | (go_at_call 85; refine CK.mono ?_; rintro e w' ⟨rfl, rfl⟩) | (go_at_call 60; refine CD.mono ?_; rintro e w1 ⟨⟨A, cap, rfl, hown⟩, hb1⟩; (have HO := Lib.hid hown); (have HB1 := Lib.hid hb1); clear hown hb1))
  go_loopw [21] (fun i wr => PruneAt w w1 f lb lc v R F ds i wr) (fun i _ => ds.length - (intOf i).toNat)
  case atStart => exact ⟨0, v, Nat.zero_le _, rfl, by simpa [goneL] using (⟨HPS.out.pf.below HB1.out, HPS.out.cut.below HB1.out, HPS.out.nf, HPS.out.nl⟩ : PS w1 f lb F.n lc R v (nats F.free)), fun r hr => .inl hr, Apart.refl _ _⟩
  case round =>
    obtain ⟨k, v', hk, rfl, hps, hfr, hap⟩ := hrel
    have hOr : wr.ownsRow w.heap.size 3 1 (.slice A ds.length cap) ds.length (intV (nats ds)) := own_apart HO.out hap (fun b e hb => by
      have h1 := (HO.out.lt b e).1
      have h2 := HLT.out b hb
      omega)
    have HOR := Lib.hid hOr
    have HAP := Lib.hid hap
    have HFR := Lib.hid hfr
    by_cases hlt : k < ds.length
    · obtain ⟨b, rfl⟩ := own_form hOr (by omega)
      have hcell := hOr.cellAt k (by omega)
      have hkn : k < (nats ds).length := by rw [nats_len]; exact hlt
      rw [intV, List.getElem?_map, List.getElem?_eq_getElem hkn] at hcell
      have hkd : (nats ds)[k] = ((ds[k] : Nat) : Int) := by simp [nats]
      rw [hkd] at hcell
      simp only [Option.map_some] at hcell
      have hdk : ds[k] < F.n := HD.out _ (List.getElem_mem hlt)
      have htk : ds.take (k + 1) = ds.take k ++ [ds[k]] := List.take_succ_eq_append_getElem hlt
      have hLk : (nats (F.free ++ ds.take k)).length ≤ 4096 := by rw [nats_len, List.length_append, List.length_take]; omega
      have CG := gone_is hps ds[k] hdk hLk
      rw [← goneL_snoc, ← htk] at CG
      have hfl2 : nats (F.free ++ ds.take k) ++ [((ds[k] : Nat) : Int)] = nats (F.free ++ ds.take (k + 1)) := by rw [htk, ← List.append_assoc, nats_snoc]
      rw [hfl2] at CG
      have hsz := Nat.le_trans HB1.out.size hap.size
      have hsz1 := hap.size
      generalize ds[k] = d at *
      have e0 := hps.pf.cells.1
      clear hps hOr hap hfr hkd htk hfl2 hkn
      go_wp2_with (go_at_call 86; refine CG.mono ?_; rintro e w5 ⟨⟨z3, rfl⟩, v5, h5, f5, a5⟩; (have HF5 := Lib.hid (And.intro h5 (And.intro f5 a5))); clear h5 f5 a5 hcell)
      go_roundw
      case rel =>
        obtain ⟨h5, f5, a5⟩ := HF5.out
        exact ⟨k + 1, v5, by omega, by go_num, h5, fun r hr => by
          rcases f5 r hr with e | e
          · exact HFR.out r e
          · exact .inr (by omega), HAP.out.trans a5 (fun q hq hk => by
            rcases hk with e | e | e
            · exact .inl e
            · exact .inr (.inl e)
            · rcases HFR.out q e with e | e
              · exact .inr (.inr e)
              · omega)⟩
      case measure => simp [intOf]; omega
    · have hkl : k = ds.length := by omega
      subst hkl
      rw [List.take_length] at hps
      have e0 := hps.pf.cells.1
      have e2 := (hps.pf.at_ x hxn).c2
      have ef := hps.pf.fr (x * 5 + 2)
      have q := hps.pf.setD x hxn (-1)
      have HQ := Lib.hid (And.intro q (And.intro hps.cut (And.intro hps.nf hps.nl)))
      clear hps hOr hap hfr q
      go_wp2
      go_ret2
      obtain ⟨q, qc, qf, ql⟩ := HQ.out
      have hne : ∀ j, (Value.slice A ds.length cap).ownBlock = some j → j ≠ lb := fun j e e2 => by
        have h1 := (HO.out.lt j e).1
        have h2 := HPS.out.pf.lt
        omega
      refine ⟨A, cap, rfl, own_apart HOR.out ((Apart.refl (fun k => k = lb) wr).setCell (p := ⟨lb, x * 5 + 2, none⟩) (.inl rfl) _) (fun j e => hne j e), v', ⟨⟨lc, _, ⟨q, qc.keep fun j e => Below.heap_setCell _ ⟨lb, x * 5 + 2, none⟩ _ j (fun e2 => ql (by rw [e, e2])), qf, ql⟩, HRP.out.1⟩, HRP.out.2⟩, fun r hr => (HFR.out r hr).imp id (fun e => Nat.le_trans HB1.out.size e), ?_, fun j e e2 => ?_⟩
      rotate_left
      · have h1 := HO.out.lt j e
        rcases HFR.out j e2 with e3 | e3
        · have h2 := HLT.out j (.inr (.inr e3)); omega
        · omega
      exact ((Apart.of_below HB1.out).trans HAP.out (fun j _ hj => hj)).setCell (p := ⟨lb, x * 5 + 2, none⟩) (.inl (.inr (.inl rfl))) _
end Go.Proofs.Ytbknmfegckeogaa

/- New of the program's forest, by a walk: 1 to 4096 places, all free; none of another size. -/
namespace Go.Proofs.Ytbknmfegckeogaa
open Go.RowKit
set_option linter.unusedVariables false
set_option linter.unusedSimpArgs false

theorem infoNode : (Try.prog.info? 116).map (fun i => (i.zero, i.size, i.bytes)) = some (some (.agg #[.bool false, .int .i64 0, .int .i64 0, .int .i64 0, .int .i64 0]), 5, 40) := by kernel_rfl

set_option maxRecDepth 100000 in
set_option maxHeartbeats 400000 in
theorem new_no (n : Int) (w : World) (h : n < 1 ∨ 4096 < n) : Calls Try.prog 50 #[.int .i64 n] w fun e w' => e = .returned (.tuple #[.pointer none, .int .i64 2]) ∧ w = w' := by
  have hcase : n < 1 ∨ (¬ n < 1 ∧ 4096 < n) := by omega
  clear h
  rcases hcase with h | ⟨h, h2⟩
  all_goals
    go_enter Try.func50, Try.ntmps50
    go_wp2
    go_ret2
    exact ⟨rfl, rfl⟩

/-- The world at the head of New's loop. -/
def NewAt (w : World) (f lb n : Nat) (i : Value) (wr : World) : Prop :=
  ∃ (k : Nat) (v : Value), k ≤ n ∧ i = .int .i64 k ∧ PS wr f lb n n Raw.none_ v (nats (List.range' (n - k) k).reverse) ∧ (∀ b, v.ownBlock = some b → w.heap.size ≤ b) ∧ Below w.heap.size w wr
theorem new_list {n k : Nat} (h : k < n) : nats (List.range' (n - (k + 1)) (k + 1)).reverse = nats (List.range' (n - k) k).reverse ++ [(n : Int) - 1 - k] := by
  rw [List.range'_succ, List.reverse_cons, nats_snoc, show n - (k + 1) + 1 = n - k by omega]
  congr 2
  omega

set_option maxRecDepth 100000 in
set_option maxHeartbeats 4000000 in
theorem new_is (n : Nat) (w : World) (h1 : 1 ≤ n) (h2 : n ≤ 4096) :
    Calls Try.prog 50 #[.int .i64 n] w fun e w' => ∃ f lb v, e = .returned (.tuple #[.pointer (some ⟨f, 0, none⟩), .int .i64 0]) ∧ Prg w' f lb v (chain n 0) ∧ (∀ k, own3 f lb v k → w.heap.size ≤ k) ∧ Below w.heap.size w w' := by
  obtain ⟨i0, hi0, hz0, hz1, hz2⟩ := info_parts infoInt
  obtain ⟨j0, hj0, hy0, hy1, hy2⟩ := info_parts infoNode
  go_enter Try.func50, Try.ntmps50
  go_wp2_with (at_make; refine wpList_make_full _ rfl _ _ 117 rfl w.heap.size 116 j0 (.agg #[.bool false, .int .i64 0, .int .i64 0, .int .i64 0, .int .i64 0]) 5 Try.underlying117 hj0 hy0 hy1 .i64 .i64 n n n rfl rfl rfl rfl (by rw [hy2]; omega) (by unfold maxLen; omega) (Nat.le_refl _) ?_; intro w1 hown1 hg1)
  have hz : w.heap.size < w1.heap.size := by
    rcases hown1.2 with ⟨hv, _⟩ | ⟨g, cap, cur, hv, _, hg, _⟩
    · cases hv
    · have hgg : g = w.heap.size := by injection hv with hv1; injection hv1 with hv2; injection hv2 with hv3; exact hv3.symm
      subst hgg
      exact (Array.getElem?_eq_some_iff.1 hg).1
  have hb1 : Below w.heap.size w w1 := (Below.refl _ w).grown hg1 (Nat.le_refl _) (fun k e => by cases e)
  have hb2 : Below w1.heap.size w1 (w1.alloc (.cells #[.slice (some ⟨w.heap.size, 0, none⟩) n n, .int .i64 (-1), .slice none 0 0] 119)) := (Below.refl _ w1).alloc (Nat.le_refl _) _
  have hblk := Blk.new w1 119 #[.slice (some ⟨w.heap.size, 0, none⟩) n n, .int .i64 (-1), .slice none 0 0]
  have hs2 : (w1.alloc (.cells #[.slice (some ⟨w.heap.size, 0, none⟩) n n, .int .i64 (-1), .slice none 0 0] 119)).heap.size = w1.heap.size + 1 := by simp
  obtain ⟨w2, hw2⟩ : ∃ w2, w2 = w1.alloc (.cells #[.slice (some ⟨w.heap.size, 0, none⟩) n n, .int .i64 (-1), .slice none 0 0] 119) := ⟨_, rfl⟩
  rw [← hw2] at hb2 hblk hs2
  have hps : PS w2 w1.heap.size w.heap.size n n Raw.none_ (.slice none 0 0) [] := by
    have hc := hown1.cells (g := w.heap.size) rfl
    have hadd : ∀ j, (⟨w.heap.size, 0, none⟩ : Addr).add j = ⟨w.heap.size, j, none⟩ := fun j => by unfold Addr.add; split <;> simp_all
    have key : ∀ i, i < n → ∀ j u, j < 5 → (#[Value.bool false, .int .i64 0, .int .i64 0, .int .i64 0, .int .i64 0] : Array Value)[j]? = some u → w1.cell? ⟨w.heap.size, i * 5 + j, none⟩ = some u := by
      intro i hi j u hj hu
      have q := hc (i * 5 + j) u ?_
      · rw [hadd] at q; exact q
      · simp only [madeCells, Value.cells, Array.toList_map, List.getElem?_map]
        rw [show (Array.range (n * 5)).toList[i * 5 + j]? = some (i * 5 + j) from by rw [Array.toList_range, List.getElem?_range (by omega)]]
        have e : (i * 5 + j) % 5 = j := by omega
        simp only [Option.map_some, Option.some.injEq]
        rw [show (#[Value.bool false, .int .i64 0, .int .i64 0, .int .i64 0, .int .i64 0] : Array Value).size = 5 from rfl, e]
        simp only [getElem!_def, hu]
    refine ⟨⟨hblk, fun i hi => ?_, fun o => ?_, by omega, by omega, h1, h2⟩, Cut.nil _, by simp [Value.ownBlock], by simp [Value.ownBlock]⟩
    · exact (⟨key i hi 0 _ (by omega) rfl, key i hi 1 _ (by omega) rfl, key i hi 2 _ (by omega) rfl, key i hi 3 _ (by omega) rfl, key i hi 4 _ (by omega) rfl⟩ : NdAt w1 w.heap.size (i * 5) Nd.zero).block (hb2.block _ hz)
    · rcases hown1.2 with ⟨hv, _⟩ | ⟨g, cap, cur, hv, _, hg, _⟩
      · cases hv
      · have hgg : g = w.heap.size := by injection hv with hv1; injection hv1 with hv2; injection hv2 with hv3; exact hv3.symm
        subst hgg
        rw [World.frozen?_of_block (w := w1) (hb2.block _ hz)]
        simp [World.frozen?, hg]
  have e0 := hps.pf.cells.1
  have HPS := Lib.hid hps
  have HB2 := Lib.hid (hb1.trans (hb2.mono (Nat.le_of_lt hz)))
  have hfz : w.heap.size ≤ w1.heap.size := Nat.le_of_lt hz
  generalize w1.heap.size = f at *
  rw [← hw2]
  clear hown1 hg1 hb1 hb2 hblk hps hz hs2 hw2
  go_loopw [21] (fun i wr => NewAt w f w.heap.size n i wr) (fun i _ => n - (intOf i).toNat)
  case atStart => exact ⟨0, _, Nat.zero_le _, rfl, HPS.out, (fun b e => by cases e), HB2.out⟩
  case round =>
    obtain ⟨k, v, hk, rfl, hps, hv, hbr⟩ := hrel
    have HBR := Lib.hid hbr
    by_cases hlt : k < n
    · obtain ⟨A, cap, rfl⟩ := hps.cut.slice
      have hll : (nats (List.range' (n - k) k).reverse).length = k := by rw [nats_len]; simp
      have hnl := new_list hlt
      have HNL := Lib.hid hnl
      have g0 := hps.pf.cells.1
      have g2 := hps.pf.cells.2.2.1
      have gf := hps.pf.cells.2.2.2
      obtain ⟨L, hL⟩ : ∃ L, L = nats (List.range' (n - k) k).reverse := ⟨_, rfl⟩
      rw [← hL] at hps g2 hll hv
      have HV := Lib.hid hv
      have HL := Lib.hid (And.intro hL hll)
      have HQ := Lib.hid (And.intro hps.pf (And.intro hps.cut (And.intro hps.nf hps.nl)))
      have hL' := Lib.hid (show L.length < 1000000 by omega)
      clear hps hv hbr hll hnl hL
      go_wp2_with (at_builtin; refine wpList_append_cut _ rfl (.tmp 28) (.tmp 33) 99 rfl i0 rfl hi0 hz0 hz1 hz2 (.slice A L.length cap) L rfl (HQ.out.2.1.keep fun r hr => Below.heap_alloc _ _ r (HQ.out.2.1.lt r hr)) ⟨wr.heap.size, 0, none⟩ 1 ((n : Int) - 1 - k) rfl ((Blk.new wr 3 #[.int .i64 ((n : Int) - 1 - k)]).cell 0) hL'.out ?_; intro v' w7 hcut hgrow hat; obtain ⟨A7, c7, rfl⟩ := hcut.slice; (have q7 := (HQ.out.1.alloc_ (.cells #[.int .i64 ((n : Int) - 1 - k)] 3)).grown_ hgrow HQ.out.2.2.1 HQ.out.2.2.2); clear g0 g2 gf; (have g0 := q7.cells.1); (have g2 := q7.cells.2.2.1); (have gf := q7.cells.2.2.2); (have H7 := Lib.hid (And.intro q7 (And.intro hcut (And.intro hgrow hat)))); clear q7 hcut hgrow hat)
      go_roundw
      case rel =>
        obtain ⟨q7, hcut, hgrow, hat⟩ := H7.out
        have hl7 : (L ++ [(n : Int) - 1 - k]).length = L.length + 1 := by simp
        rw [hl7] at hcut hat
        have hb7 : Below w.heap.size w w7 := (HBR.out.alloc HBR.out.size (.cells #[.int .i64 ((n : Int) - 1 - k)] 3)).grown hgrow (by have := HBR.out.size; simp; omega) HV.out
        have hn7 : ∀ b, (Value.slice A7 (L.length + 1) c7).ownBlock = some b → w.heap.size ≤ b ∧ b ≠ f ∧ b ≠ w.heap.size := fun b e => by
          have hlf := HQ.out.1.head.lt
          have hlb := HQ.out.1.lt
          have hbs := HBR.out.size
          rcases hat with e2 | e2
          · rw [e2] at e
            exact ⟨HV.out b e, fun e3 => HQ.out.2.2.1 (by rw [e, e3]), fun e3 => HQ.out.2.2.2 (by rw [e, e3])⟩
          · rw [e2] at e
            simp at e
            omega
        refine ⟨k + 1, _, by omega, by go_num, ⟨q7.setFree _, ?_, fun e => (hn7 _ e).2.1 rfl, fun e => (hn7 _ e).2.2 rfl⟩, fun b e => (hn7 b e).1, hb7.setCell (p := ⟨f, 2, none⟩) ?_ _⟩
        · rw [HNL.out, ← HL.out.1]
          exact hcut.keep fun r hr => Below.heap_setCell _ ⟨f, 2, none⟩ _ r (fun e => (hn7 r hr).2.1 e)
        · exact hfz
      case measure => simp [intOf]; omega
    · have hkl : k = n := by omega
      subst hkl
      have HQ := Lib.hid hps
      have HV := Lib.hid hv
      clear hps hv hbr
      go_wp2
      go_ret2
      refine ⟨f, w.heap.size, v, rfl, ⟨⟨k, _, ?_, rep_empty k⟩, wf_empty k⟩, ?_, HBR.out⟩
      · have := HQ.out
        simpa [chain] using this
      · rintro b (e | e | e)
        · rw [e]; exact hfz
        · omega
        · exact HV.out b e
end Go.Proofs.Ytbknmfegckeogaa

/- Copy of the program's forest, by a walk: the same places on memory of its own. Condition: the places are a forest's. -/
namespace Go.Proofs.Ytbknmfegckeogaa
open Go.RowKit
set_option linter.unusedVariables false
set_option linter.unusedSimpArgs false

def Nd.vs (x : Nd) : List Value := [.bool x.t, .int .i64 x.u, .int .i64 x.d, .int .i64 x.l, .int .i64 x.r]
/-- All places' cells. -/
def Raw.vs (R : Raw) (n : Nat) : List Value := (List.range n).flatMap fun i => (R.M i).vs
theorem vs_len (R : Raw) : ∀ n, (R.vs n).length = n * 5
  | 0 => rfl
  | n + 1 => by
    have := vs_len R n
    unfold Raw.vs at this ⊢
    rw [List.range_succ, List.flatMap_append, List.length_append, this]
    simp [Nd.vs]
    omega
theorem vs_at (R : Raw) : ∀ (n i j : Nat), i < n → j < 5 → (R.vs n)[i * 5 + j]? = (R.M i).vs[j]?
  | 0, i, j, h, _ => absurd h (Nat.not_lt_zero _)
  | n + 1, i, j, h, hj => by
    have e : R.vs (n + 1) = R.vs n ++ (R.M n).vs := by
      unfold Raw.vs
      rw [List.range_succ, List.flatMap_append]
      simp
    rw [e]
    by_cases hi : i < n
    · rw [List.getElem?_append_left (by rw [vs_len]; omega)]
      exact vs_at R n i j hi hj
    · have : i = n := by omega
      subst this
      rw [List.getElem?_append_right (by rw [vs_len]; omega), vs_len, show i * 5 + j - i * 5 = j by omega]
theorem vs_one (R : Raw) (n : Nat) : ∀ u ∈ R.vs n, u.oneCell' = true := by
  intro u hu
  obtain ⟨i, _, hi⟩ := List.mem_flatMap.1 hu
  simp only [Nd.vs, List.mem_cons, List.not_mem_nil, or_false] at hi
  rcases hi with rfl | rfl | rfl | rfl | rfl <;> rfl
theorem reads_places {w : World} {f lb n lc : Nat} {R : Raw} {fv : Value} (h : PF w f lb n lc R fv) : Reads w w.heap.size 5 (some ⟨lb, 0, none⟩) n (R.vs n) := by
  refine ⟨vs_len R n, fun _ => ⟨_, rfl, h.lt, fun j u hu => ?_⟩⟩
  have hadd : (⟨lb, 0, none⟩ : Addr).add j = ⟨lb, j, none⟩ := by unfold Addr.add; split <;> simp_all
  rw [hadd]
  have hj : j < n * 5 := by
    rcases Nat.lt_or_ge j (n * 5) with h1 | h1
    · exact h1
    · rw [List.getElem?_eq_none (by rw [vs_len]; exact h1)] at hu; cases hu
  have hi : j / 5 < n := by omega
  have e : j = j / 5 * 5 + j % 5 := by omega
  have hq := vs_at R n (j / 5) (j % 5) hi (Nat.mod_lt _ (by omega))
  rw [← e, hu] at hq
  obtain ⟨c0, c1, c2, c3, c4⟩ := h.at_ (j / 5) hi
  rw [e]
  have hm : j % 5 = 0 ∨ j % 5 = 1 ∨ j % 5 = 2 ∨ j % 5 = 3 ∨ j % 5 = 4 := by omega
  rcases hm with hm | hm | hm | hm | hm <;> rw [hm] at hq ⊢ <;> simp only [Nd.vs, List.getElem?_cons_zero, List.getElem?_cons_succ, Option.some.injEq] at hq <;> subst hq <;> assumption

set_option maxRecDepth 100000 in
set_option maxHeartbeats 1000000 in
theorem cloneN_is (ad : Addr) (B m c : Nat) (xs : List Value) (w : World) (h : Reads w B 5 (some ad) m xs) (hB : B ≤ w.heap.size) (h1 : ∀ u ∈ xs, u.oneCell' = true) (hm : m ≤ 4096) :
    Calls Try.prog 82 #[.slice (some ad) m c] w fun e w' => ∃ v, e = .returned v ∧ w'.ownsRow w.heap.size 116 5 v m xs ∧ Below w.heap.size w w' := by
  obtain ⟨i0, hi, hz0, hz1, hz2⟩ := info_parts infoNode
  have hnil : ∀ w', (binOp .eql 117 (.slice (some ad) m c) (.slice none 0 0)).run Try.prog w' = .ok (.bool false) w' := fun w' => by
    rw [Lib.run_eql_slice_nil w' _ _ _ _ _ _ _ Try.underlying117]; rfl
  go_enter Try.func82, Try.ntmps82
  have hown0 : (w.alloc (.cells #[] 116)).ownsRow w.heap.size 116 5 (.slice (some ⟨w.heap.size, 0, none⟩) 0 0) 0 [] := ⟨rfl, .inr ⟨_, 0, #[], rfl, Nat.le_refl _, heap_alloc_new w _, Nat.le_refl _, by unfold maxLen; omega, rfl, rfl⟩⟩
  go_wp2_with (at_builtin; refine wpList_append_any _ rfl (.tmp 5) (.tmp 6) 117 rfl w.heap.size 116 i0 _ 5 40 Try.underlying117 hi hz0 hz1 hz2 rfl (by decide) (.slice (some ⟨w.heap.size, 0, none⟩) 0 0) 0 [] rfl hown0 B (some ad) m c xs rfl (h.alloc hB _) h1 (by unfold maxLen; omega) (by omega) (by simp) ?_; intro v1 w1 hown1 hg1 hat1)
  go_ret
  refine ⟨_, rfl, by simpa using hown1, ((Below.refl _ w).alloc (Nat.le_refl _) _).grown hg1 (by simp) (fun k e => ?_)⟩
  have : w.heap.size = k := by simpa [Value.ownBlock] using e
  omega

set_option maxRecDepth 100000 in
set_option maxHeartbeats 1000000 in
theorem cloneI_some (ad : Addr) (m c : Nat) (L : List Int) (w : World) (h : Reads w w.heap.size 1 (some ad) m (intV L)) (hm : m ≤ 4096) :
    Calls Try.prog 83 #[.slice (some ad) m c] w fun e w' => ∃ v, e = .returned v ∧ w'.ownsRow w.heap.size 3 1 v m (intV L) ∧ Below w.heap.size w w' := by
  obtain ⟨i0, hi, hz0, hz1, hz2⟩ := info_parts infoInt
  have hnil : ∀ w', (binOp .eql 99 (.slice (some ad) m c) (.slice none 0 0)).run Try.prog w' = .ok (.bool false) w' := fun w' => by
    rw [Lib.run_eql_slice_nil w' _ _ _ _ _ _ _ Try.underlying99]; rfl
  go_enter Try.func83, Try.ntmps83
  have hown0 : (w.alloc (.cells #[] 3)).ownsRow w.heap.size 3 1 (.slice (some ⟨w.heap.size, 0, none⟩) 0 0) 0 [] := ⟨rfl, .inr ⟨_, 0, #[], rfl, Nat.le_refl _, heap_alloc_new w _, Nat.le_refl _, by unfold maxLen; omega, rfl, rfl⟩⟩
  go_wp2_with (at_builtin; refine wpList_append_any _ rfl (.tmp 5) (.tmp 6) 99 rfl w.heap.size 3 i0 _ 1 8 Try.underlying99 hi hz0 hz1 hz2 rfl (by decide) (.slice (some ⟨w.heap.size, 0, none⟩) 0 0) 0 [] rfl hown0 w.heap.size (some ad) m c (intV L) rfl (h.alloc (Nat.le_refl _) _) (intV_one L) (by unfold maxLen; omega) (by omega) (by simp) ?_; intro v1 w1 hown1 hg1 hat1)
  go_ret
  refine ⟨_, rfl, by simpa using hown1, ((Below.refl _ w).alloc (Nat.le_refl _) _).grown hg1 (by simp) (fun k e => ?_)⟩
  have : w.heap.size = k := by simpa [Value.ownBlock] using e
  omega
theorem cloneI_nil (w : World) : Calls Try.prog 83 #[.slice none 0 0] w fun e w' => e = .returned (.slice none 0 0) ∧ w = w' := by
  have hnil : ∀ w', (binOp .eql 99 (.slice none 0 0) (.slice none 0 0)).run Try.prog w' = .ok (.bool true) w' := fun w' => by
    rw [Lib.run_eql_slice_nil w' _ _ _ _ _ _ _ Try.underlying99]; rfl
  go_enter Try.func83, Try.ntmps83
  go_wp2_with fail
  go_ret
  exact ⟨rfl, rfl⟩
theorem Cut.reads {w : World} {A : Option Addr} {n c : Nat} {L : List Int} (h : Cut w (.slice A n c) L) : n = L.length ∧ Reads w w.heap.size 1 A n (intV L) ∧ (A = none → n = 0 ∧ c = 0 ∧ L = []) := by
  rcases h with ⟨hv, rfl⟩ | ⟨g, cap, cur, hv, hg, h1, h2, h3, h4⟩
  · injection hv with e1 e2 e3
    subst e1 e2 e3
    exact ⟨rfl, Reads.none_, fun _ => ⟨rfl, rfl, rfl⟩⟩
  · injection hv with e1 e2 e3
    subst e1 e2 e3
    refine ⟨rfl, ⟨by rw [intV_len]; omega, fun _ => ⟨_, rfl, hg.lt, fun j u hu => ?_⟩⟩, fun e => by cases e⟩
    have hadd : (⟨g, 0, none⟩ : Addr).add j = ⟨g, j, none⟩ := by unfold Addr.add; split <;> simp_all
    rw [hadd, hg.cell j]
    rw [← h4, List.getElem?_take] at hu
    split at hu
    · simpa using hu
    · cases hu
theorem cloneI_is (A : Option Addr) (n c : Nat) (L : List Int) (w : World) (h : Cut w (.slice A n c) L) (hm : n ≤ 4096) :
    Calls Try.prog 83 #[.slice A n c] w fun e w' => ∃ v, e = .returned v ∧ w'.ownsRow w.heap.size 3 1 v n (intV L) ∧ Below w.heap.size w w' := by
  obtain ⟨h1, h2, h3⟩ := h.reads
  rcases A with _ | ad
  · obtain ⟨rfl, rfl, rfl⟩ := h3 rfl
    exact (cloneI_nil w).mono fun e w' ⟨he, hw⟩ => ⟨_, he, World.ownsRow_nil _ _ _ _, by rw [← hw]; exact Below.refl _ _⟩
  · exact cloneI_some ad n c L w h2 hm
end Go.Proofs.Ytbknmfegckeogaa

/- Copy and Same of the program's forest, by walks. Condition: the places are a forest's. -/
namespace Go.Proofs.Ytbknmfegckeogaa
open Go.RowKit
set_option linter.unusedVariables false
set_option linter.unusedSimpArgs false

/-- A clone of all places. -/
def NewN (w : World) (R : Raw) (n g c : Nat) (W : World) : Prop := Below w.heap.size w W ∧ w.heap.size ≤ g ∧ g < W.heap.size ∧ W.ownsRow w.heap.size 116 5 (.slice (some ⟨g, 0, none⟩) n c) n (R.vs n)
/-- A clone of the free numbers. -/
def NewI (w : World) (L : List Int) (v : Value) (W : World) : Prop := Below w.heap.size w W ∧ (∀ b, v.ownBlock = some b → w.heap.size ≤ b ∧ b < W.heap.size) ∧ W.ownsRow w.heap.size 3 1 v L.length (intV L)
theorem NewN.below {w W W' : World} {R : Raw} {n g c : Nat} (h : NewN w R n g c W) (hb : Below W.heap.size W W') : NewN w R n g c W' :=
  ⟨h.1.trans (hb.mono h.1.size), h.2.1, Nat.lt_of_lt_of_le h.2.2.1 hb.size, below_own h.2.2.2 hb⟩
theorem NewI.below {w W W' : World} {L : List Int} {v : Value} (h : NewI w L v W) (hb : Below W.heap.size W W') : NewI w L v W' :=
  ⟨h.1.trans (hb.mono h.1.size), fun b e => ⟨(h.2.1 b e).1, Nat.lt_of_lt_of_le (h.2.1 b e).2 hb.size⟩, below_own h.2.2 hb⟩

theorem Nd.vs_at (x : Nd) : x.vs[0]? = some (.bool x.t) ∧ x.vs[1]? = some (.int .i64 x.u) ∧ x.vs[2]? = some (.int .i64 x.d) ∧ x.vs[3]? = some (.int .i64 x.l) ∧ x.vs[4]? = some (.int .i64 x.r) := ⟨rfl, rfl, rfl, rfl, rfl⟩
/-- The two clones and the new block are a forest. -/
theorem copy_fin {w W : World} {f lb n lc g c : Nat} {R : Raw} {fv v : Value} {L : List Int} (h : PF w f lb n lc R fv) (hN : NewN w R n g c W) (hI : NewI w L v W) :
    PS (W.alloc (.cells #[.slice (some ⟨g, 0, none⟩) n c, .int .i64 R.first, v] 119)) W.heap.size g n c R v L := by
  obtain ⟨_, hg1, hg2, hown⟩ := hN
  obtain ⟨_, hi, howni⟩ := hI
  have hb : Below W.heap.size W (W.alloc (.cells #[.slice (some ⟨g, 0, none⟩) n c, .int .i64 R.first, v] 119)) := (Below.refl _ W).alloc (Nat.le_refl _) _
  have hadd : ∀ j, (⟨g, 0, none⟩ : Addr).add j = ⟨g, j, none⟩ := fun j => by unfold Addr.add; split <;> simp_all
  have hc := hown.cells (g := g) rfl
  have key : ∀ i, i < n → ∀ j u, j < 5 → (R.M i).vs[j]? = some u → W.cell? ⟨g, i * 5 + j, none⟩ = some u := by
    intro i hi j u hj hu
    have q := hc (i * 5 + j) u (by rw [vs_at R n i j hi hj]; exact hu)
    rw [hadd] at q
    exact q
  refine ⟨⟨Blk.new W _ _, fun i hi' => ?_, fun o => ?_, by omega, by simp; omega, h.n1, h.n2⟩, Cut.own (below_own howni hb), fun e => ?_, fun e => ?_⟩
  · obtain ⟨q0, q1, q2, q3, q4⟩ := Nd.vs_at (R.M i)
    exact (⟨key i hi' 0 _ (by omega) q0, key i hi' 1 _ (by omega) q1, key i hi' 2 _ (by omega) q2, key i hi' 3 _ (by omega) q3, key i hi' 4 _ (by omega) q4⟩ : NdAt W g (i * 5) (R.M i)).block (hb.block _ hg2)
  · rw [World.frozen?_of_block (w := W) (hb.block _ hg2)]
    rcases hown.2 with ⟨hv, _⟩ | ⟨g', cap, cur, hv, _, hg, _⟩
    · cases hv
    · have hgg : g' = g := by injection hv with hv1; injection hv1 with hv2; injection hv2 with hv3; exact hv3.symm
      subst hgg
      simp [World.frozen?, hg]
  · have := hi _ e
    omega
  · rcases hown.2 with ⟨hv, _⟩ | ⟨g', cap, cur, hv, _, hg, _⟩
    · cases hv
    · have hgg : g' = g := by injection hv with hv1; injection hv1 with hv2; injection hv2 with hv3; exact hv3.symm
      subst hgg
      exact own_blk_ne (t := 116) (cs := cur) howni hg (by decide) e

set_option maxRecDepth 100000 in
set_option maxHeartbeats 4000000 in
theorem copy_ps {w : World} {f lb n lc : Nat} {R : Raw} {v : Value} {L : List Int} (h : PS w f lb n lc R v L) (hL : L.length ≤ 4096) :
    Calls Try.prog 53 #[.pointer (some ⟨f, 0, none⟩)] w fun e w' => ∃ f' lb' lc' v', e = .returned (.pointer (some ⟨f', 0, none⟩)) ∧ PS w' f' lb' n lc' R v' L ∧ (∀ k, own3 f' lb' v' k → w.heap.size ≤ k) ∧ Below w.heap.size w w' := by
  obtain ⟨A, cap, rfl⟩ := h.cut.slice
  have hpf := h.pf
  have CN := nothing_is hpf
  obtain ⟨d0, d1, d2, _⟩ := hpf.cells
  have hn1 := hpf.n1
  have hn2 := hpf.n2
  have hff := hpf.head.lt
  have CC : ∀ W, Below w.heap.size w W → Calls Try.prog 82 #[.slice (some ⟨lb, 0, none⟩) n lc] W fun e W' => (∃ g c, e = .returned (.slice (some ⟨g, 0, none⟩) n c) ∧ NewN w R n g c W') ∧ Below W.heap.size W W' := by
    intro W hW
    refine (cloneN_is ⟨lb, 0, none⟩ W.heap.size n lc (R.vs n) W (reads_places (hpf.below hW)) (Nat.le_refl _) (vs_one R n) hn2).mono ?_
    rintro e W' ⟨v, rfl, ho, hb⟩
    obtain ⟨g, c, rfl, hg1, hg2⟩ := ho.form hn1
    exact ⟨⟨g, c, rfl, hW.trans (hb.mono hW.size), by have := hW.size; omega, hg2, own_mono ho hW.size⟩, hb⟩
  have CI : ∀ W, Below w.heap.size w W → Calls Try.prog 83 #[.slice A L.length cap] W fun e W' => (∃ A' c, e = .returned (.slice A' L.length c) ∧ NewI w L (.slice A' L.length c) W') ∧ Below W.heap.size W W' := by
    intro W hW
    refine (cloneI_is A L.length cap L W (h.cut.below hW) hL).mono ?_
    rintro e W' ⟨v, rfl, ho, hb⟩
    obtain ⟨A', c, rfl⟩ := own_slice ho
    exact ⟨⟨A', c, rfl, hW.trans (hb.mono hW.size), fun b e => by have := ho.lt b e; have := hW.size; omega, own_mono ho hW.size⟩, hb⟩
  have hcell : ∀ W, Below w.heap.size w W → W.cell? ⟨f, 0, none⟩ = some (.slice (some ⟨lb, 0, none⟩) n lc) ∧ W.cell? ⟨f, 1, none⟩ = some (.int .i64 R.first) ∧ W.cell? ⟨f, 2, none⟩ = some (.slice A L.length cap) := fun W hW => ⟨(hpf.below hW).cells.1, (hpf.below hW).cells.2.1, (hpf.below hW).cells.2.2.1⟩
  have HCL := Lib.hid hcell
  have HCC := Lib.hid CC
  have HCI := Lib.hid CI
  have HPF := Lib.hid hpf
  obtain ⟨fi, hfi⟩ : ∃ fi, fi = R.first := ⟨_, rfl⟩
  have HFI := Lib.hid hfi
  rw [← hfi] at d1 HCL
  clear hfi
  clear h hpf CC CI hcell
  go_enter Try.func53, Try.ntmps53
  go_wp2_with (go_at_call 81; refine CN.mono ?_; rintro e w' ⟨rfl, rfl⟩)
  go_region_held3 (fun w' => w'.cell? ⟨f, 0, none⟩ = some (.slice (some ⟨lb, 0, none⟩) n lc) ∧ w'.cell? ⟨f, 1, none⟩ = some (.int .i64 fi) ∧ w'.cell? ⟨f, 2, none⟩ = some (.slice A L.length cap)) (go_keep) (first
    | (go_at_call 82; (have := HNI); (refine (HCC.out _ HNI.out.1).mono ?_; rintro e w3 ⟨⟨g, c, rfl, hnn⟩, hb3⟩; (have HNI3 := Lib.hid (HNI.out.below hb3)); (obtain ⟨hx0, hx1, hx2⟩ := HCL.out w3 hnn.1); (have HNN := Lib.hid hnn); clear hnn hb3))
    | (go_at_call 82; (refine (HCC.out _ ((Below.refl w.heap.size w).drew)).mono ?_; rintro e w2 ⟨⟨g, c, rfl, hnn⟩, hb2⟩; (obtain ⟨hx0, hx1, hx2⟩ := HCL.out w2 hnn.1); (have HNN := Lib.hid hnn); clear hnn hb2))
    | (go_at_call 83; (have := HNN); (refine (HCI.out _ HNN.out.1).mono ?_; rintro e w3 ⟨⟨A', c', rfl, hni⟩, hb3⟩; (have HNN3 := Lib.hid (HNN.out.below hb3)); (obtain ⟨hx0, hx1, hx2⟩ := HCL.out w3 hni.1); (have HNI := Lib.hid hni); clear hni hb3))
    | (go_at_call 83; (refine (HCI.out _ ((Below.refl w.heap.size w).drew)).mono ?_; rintro e w2 ⟨⟨A', c', rfl, hni⟩, hb2⟩; (obtain ⟨hx0, hx1, hx2⟩ := HCL.out w2 hni.1); (have HNI := Lib.hid hni); clear hni hb2)))
  all_goals
    go_wp2
    go_ret
    have hN : ∃ W, NewN w R n g c W ∧ NewI w L (.slice A' L.length c') W := by
      first
        | exact ⟨_, HNN.out, HNI3.out⟩
        | exact ⟨_, HNN3.out, HNI.out⟩
    first
      | (have hq := copy_fin HPF.out HNN.out HNI3.out
         rw [← HFI.out] at hq
         refine ⟨_, g, c, _, rfl, hq, ?_, HNN.out.1.alloc HNN.out.1.size _⟩
         rintro k (e | e | e)
         · rw [e]; exact HNN.out.1.size
         · rw [e]; exact HNN.out.2.1
         · exact (HNI3.out.2.1 k e).1)
      | (have hq := copy_fin HPF.out HNN3.out HNI.out
         rw [← HFI.out] at hq
         refine ⟨_, g, c, _, rfl, hq, ?_, HNI.out.1.alloc HNI.out.1.size _⟩
         rintro k (e | e | e)
         · rw [e]; exact HNI.out.1.size
         · rw [e]; exact HNN3.out.2.1
         · exact (HNI.out.2.1 k e).1)

theorem copy_is {w : World} {f lb : Nat} {v : Value} {F : Fo} (h : Prg w f lb v F) :
    Calls Try.prog 53 #[.pointer (some ⟨f, 0, none⟩)] w fun e w' => ∃ f' lb' v', e = .returned (.pointer (some ⟨f', 0, none⟩)) ∧ Prg w' f' lb' v' F ∧ (∀ k, own3 f' lb' v' k → w.heap.size ≤ k) ∧ Below w.heap.size w w' := by
  obtain ⟨lc, R, hp, hR⟩ := h.ps
  refine (copy_ps hp (by rw [nats_len]; exact Nat.le_trans (free_le h.wf) hp.pf.n2)).mono ?_
  rintro e w' ⟨f', lb', lc', v', he, h1, h2, h3⟩
  exact ⟨f', lb', v', he, ⟨⟨lc', R, h1, hR⟩, h.wf⟩, h2, h3⟩

/-- Two places the same. -/
def ndB (a b : Nd) : Bool := (a.t == b.t) && (a.u == b.u) && (a.d == b.d) && (a.l == b.l) && (a.r == b.r)
theorem ndB_iff (a b : Nd) : ndB a b = true ↔ a = b := by
  obtain ⟨a0, a1, a2, a3, a4⟩ := a
  obtain ⟨b0, b1, b2, b3, b4⟩ := b
  simp [ndB, and_assoc]
theorem ftNode : (Try.prog.fieldsOf 116).toList = [⟨"there", 4, 0, false, "", "helmsman/tree", 0⟩, ⟨"up", 3, 1, false, "", "helmsman/tree", 8⟩, ⟨"down", 3, 2, false, "", "helmsman/tree", 16⟩, ⟨"left", 3, 3, false, "", "helmsman/tree", 24⟩, ⟨"right", 3, 4, false, "", "helmsman/tree", 32⟩] := by kernel_rfl
theorem uNode : Try.prog.underlying 116 = some (.struct (Try.prog.fieldsOf 116)) := by kernel_rfl
theorem sNode : Try.prog.stoodInHeld 116 = false := by kernel_rfl
theorem uInt : Try.prog.underlying 3 = some (.int .i64) := by kernel_rfl
theorem uBool : Try.prog.underlying 4 = some .bool := by kernel_rfl
theorem part_i {P : Program} {e : TypeId} {k : IntKind} {xs : Array Value} {off : Nat} {v : Value} (w : World) (hu : P.underlying e = some (.int k)) (hx : xs[off]? = some v) : (part e xs off).run P w = .ok v w := by
  simp [part, isAgg, run_underlying hu, hx]
theorem part_b {P : Program} {e : TypeId} {xs : Array Value} {off : Nat} {v : Value} (w : World) (hu : P.underlying e = some .bool) (hx : xs[off]? = some v) : (part e xs off).run P w = .ok v w := by
  simp [part, isAgg, run_underlying hu, hx]
theorem eq_i {P : Program} {k k' : IntKind} {t : TypeId} (d : Nat) (hu : P.underlying t = some (.int k')) (w : World) (a b : Int) : (Op.equalIn (d + 1) t (.int k a) (.int k b)).run P w = .ok (a == b) w := run_equalIn_int w d t k k' a b hu
theorem eq_b {P : Program} {t : TypeId} (d : Nat) (hu : P.underlying t = some .bool) (w : World) (a b : Bool) : (Op.equalIn (d + 1) t (.bool a) (.bool b)).run P w = .ok (a == b) w := by
  simp [Op.equalIn, run_underlying hu]
theorem run_node (d : Nat) (a b : Nd) (w : World) : (Op.equalIn (d + 2) 116 (.agg a.cs) (.agg b.cs)).run Try.prog w = .ok (ndB a b) w := by
  rw [run_equalIn_agg w (d + 1) _ _ _ uNode sNode, ftNode]
  simp only [Op.eqFields, ne_eq, String.reduceEq, not_false_eq_true, if_true, Sem.run_bind, Sem.run_ite, Sem.run_pure, part_b (P := Try.prog) w uBool (xs := a.cs) (off := 0) (v := .bool a.t) rfl, part_b (P := Try.prog) w uBool (xs := b.cs) (off := 0) (v := .bool b.t) rfl,
    part_i (P := Try.prog) w uInt (xs := a.cs) (off := 1) (v := .int .i64 a.u) rfl, part_i (P := Try.prog) w uInt (xs := b.cs) (off := 1) (v := .int .i64 b.u) rfl,
    part_i (P := Try.prog) w uInt (xs := a.cs) (off := 2) (v := .int .i64 a.d) rfl, part_i (P := Try.prog) w uInt (xs := b.cs) (off := 2) (v := .int .i64 b.d) rfl,
    part_i (P := Try.prog) w uInt (xs := a.cs) (off := 3) (v := .int .i64 a.l) rfl, part_i (P := Try.prog) w uInt (xs := b.cs) (off := 3) (v := .int .i64 b.l) rfl,
    part_i (P := Try.prog) w uInt (xs := a.cs) (off := 4) (v := .int .i64 a.r) rfl, part_i (P := Try.prog) w uInt (xs := b.cs) (off := 4) (v := .int .i64 b.r) rfl,
    eq_i (P := Try.prog) (k := .i64) d uInt w, eq_b (P := Try.prog) d uBool w, Result.andThen_ok]
  unfold ndB
  cases (a.t == b.t) <;> cases (a.u == b.u) <;> cases (a.d == b.d) <;> cases (a.l == b.l) <;> cases (a.r == b.r) <;> simp
theorem node_neq (a b : Nd) (w : World) : (binOp .neq 116 (.agg a.cs) (.agg b.cs)).run Try.prog w = .ok (.bool (!ndB a b)) w := by
  rw [run_neq_struct, run_node 9998, Result.andThen_ok]
end Go.Proofs.Ytbknmfegckeogaa

/- Same of the program's forest, by a walk: true just if both have the same places. Condition: both are there, of one size. -/
namespace Go.Proofs.Ytbknmfegckeogaa
open Go.RowKit
set_option linter.unusedVariables false
set_option linter.unusedSimpArgs false

theorem below_drewN (w : World) (B n : Nat) : Below B w (w.drewN n) := ⟨rfl, rfl, rfl, Nat.le_refl _, fun _ _ => rfl⟩
/-- The same places. -/
def SameR (n : Nat) (R R' : Raw) : Prop := R.first = R'.first ∧ ∀ i, i < n → R.M i = R'.M i
/-- What Same answers. -/
def SamePost (w : World) (n : Nat) (R R' : Raw) (e : Ending) (w' : World) : Prop := (∃ b, e = .returned (.bool b) ∧ (b = true ↔ SameR n R R')) ∧ Below w.heap.size w w'
theorem same_yes {w w' : World} {n : Nat} {R R' : Raw} (h : SameR n R R') (hb : Below w.heap.size w w') : SamePost w n R R' (.returned (.bool true)) w' := ⟨⟨true, rfl, by simp [h]⟩, hb⟩
theorem same_not {w w' : World} {n : Nat} {R R' : Raw} (h : ¬ SameR n R R') (hb : Below w.heap.size w w') : SamePost w n R R' (.returned (.bool false)) w' := ⟨⟨false, rfl, by simp [h]⟩, hb⟩

end Go.Proofs.Ytbknmfegckeogaa

/- The program's forest by its forest alone: each function's contract in these words; much, by walks. -/
namespace Go.Proofs.Ytbknmfegckeogaa
open Go.RowKit
set_option linter.unusedVariables false
set_option linter.unusedSimpArgs false

set_option maxRecDepth 100000 in
set_option maxHeartbeats 1000000 in
theorem desc_no {w : World} {f lb : Nat} {v : Value} {F : Fo} (h : Prg w f lb v F) (x : Int) (hx : F.has x = false) :
    Calls Try.prog 60 #[.pointer (some ⟨f, 0, none⟩), .int .i64 x] w fun e w' => e = .returned (.slice none 0 0) ∧ w = w' := by
  obtain ⟨lc, R, hp, hR⟩ := h.ps
  have CX := has_is hp.pf x
  rw [has_rep hR h.wf, hx] at CX
  clear hp hR h hx
  go_enter Try.func60, Try.ntmps60
  go_wp2_with fail
  go_step3
  go_wp2_with (go_at_call 80; refine CX.mono ?_; rintro e w' ⟨rfl, rfl⟩)
  try rw [Exit.noGoto_ret]
  go_ret
  exact ⟨rfl, rfl⟩

section
variable {w : World} {f lb : Nat} {v : Value} {F : Fo}
theorem prg_has (h : Prg w f lb v F) (x : Int) : Calls Try.prog 80 #[.pointer (some ⟨f, 0, none⟩), .int .i64 x] w fun e w' => e = .returned (.bool (F.has x)) ∧ w = w' := by
  obtain ⟨lc, R, hp, hR⟩ := h.ps
  have := has_is hp.pf x
  rwa [has_rep hR h.wf] at this
theorem prg_parent (h : Prg w f lb v F) (x : Int) : Calls Try.prog 49 #[.pointer (some ⟨f, 0, none⟩), .int .i64 x] w fun e w' => e = .returned (.tuple #[.int .i64 (F.up? x).1, .bool (F.up? x).2]) ∧ w = w' := by
  obtain ⟨lc, R, hp, hR⟩ := h.ps
  exact parent_is hp.pf hR h.wf x
/-- A row of the call's own. -/
def RowPost (w : World) (K : List Nat) (e : Ending) (w' : World) : Prop := (∃ A cap, e = .returned (.slice A K.length cap) ∧ w'.ownsRow w.heap.size 3 1 (.slice A K.length cap) K.length (intV (nats K))) ∧ Below w.heap.size w w'
theorem prg_desc (h : Prg w f lb v F) (x : Nat) (hx : F.there x = true) {ds : List Nat} (hd : Flat F (F.kids (x : Int)) ds) : Calls Try.prog 60 #[.pointer (some ⟨f, 0, none⟩), .int .i64 x] w (RowPost w ds) := by
  obtain ⟨lc, R, hp, hR⟩ := h.ps
  exact desc_is hp.pf hR h.wf x hx hd
/-- Is the one under the other one? -/
def Fo.under (F : Fo) (x y : Int) : Prop := F.has x = true ∧ F.has y = true ∧ Above F y.toNat x.toNat
theorem prg_add (h : Prg w f lb v F) {x : Nat} (hx : F.free.getLast? = some x) (p : Int) (hp : 0 ≤ p → F.has p = true) :
    Calls Try.prog 88 #[.pointer (some ⟨f, 0, none⟩), .int .i64 p] w fun e w' => e = .returned (.tuple #[.int .i64 x, .int .i64 0]) ∧ ∃ v', Prg w' f lb v' (F.add (norm p) x) ∧ Fresh w v v' ∧ Apart (own3 f lb v) w w' := by
  obtain ⟨lc, R, hps, hR⟩ := h.ps
  have hok : F.ok (norm p) := by
    unfold norm
    by_cases h0 : p < 0
    · rw [if_pos h0]; exact .inl rfl
    · rw [if_neg h0]
      obtain ⟨j, rfl, hj⟩ := has_nat (hp (by omega))
      exact .inr ⟨j, rfl, hj⟩
  refine (add_is hps hR h.wf hx p hp).mono ?_
  rintro e w' ⟨he, R', v', h1, h2, h3, h4⟩
  exact ⟨he, v', ⟨⟨lc, R', h1, h2⟩, h.wf.add hok hx⟩, h3, h4⟩
theorem prg_add_no (h : Prg w f lb v F) (p : Int) (h0 : 0 ≤ p) (hp : F.has p = false) : Calls Try.prog 88 #[.pointer (some ⟨f, 0, none⟩), .int .i64 p] w fun e w' => e = .returned (.tuple #[.int .i64 0, .int .i64 4]) ∧ w = w' := by
  obtain ⟨lc, R, hps, hR⟩ := h.ps
  exact add_no hps.pf p h0 (by rw [has_rep hR h.wf]; exact hp)
theorem prg_add_full (h : Prg w f lb v F) (p : Int) (hf : F.free = []) (hp : 0 ≤ p → F.has p = true) : Calls Try.prog 88 #[.pointer (some ⟨f, 0, none⟩), .int .i64 p] w fun e w' => e = .returned (.tuple #[.int .i64 0, .int .i64 3]) ∧ w = w' := by
  obtain ⟨lc, R, hps, hR⟩ := h.ps
  obtain ⟨A, cap, rfl⟩ := hps.cut.slice
  have hl : (nats F.free).length = 0 := by rw [hf]; rfl
  have h1 := hps.pf
  rw [hl] at h1
  exact add_full h1 p (fun h0 => by rw [has_rep hR h.wf]; exact hp h0)
end

/-- Is there more than is gone through here? -/
def Much (s : Int) (l m : Nat) : Prop := 24 < s ∨ s < 1 ∨ m < l
end Go.Proofs.Ytbknmfegckeogaa

/- Capability tables in memory: the space's block, its forest, its three maps; the keys; what is looked up. No program walked. -/
namespace Go.Proofs.Ytbknmfegckeogaa
open Go.RowKit Go.Maps
set_option linter.unusedVariables false
set_option linter.unusedSimpArgs false

def spotV (g s : Int) : Value := .agg #[.int .i64 g, .int .i64 s]
def capV (c : Cp) : Value := .agg #[.int .i64 c.k, .int .i64 c.i, .int .u64 c.n, .int .u8 c.r]
theorem spotArr : WideMaps.ArrKey Try.prog 91 3 2 := ⟨by kernel_rfl, by kernel_rfl, by kernel_rfl, by kernel_rfl⟩
theorem spotKeyed : Keyed Try.prog 91 := Keyed.of_law spotArr.law
theorem intKeyed : Keyed Try.prog 3 := int_keyed Try.underlying3
theorem pos_of (n : Nat) (h : decide (0 < n) = true) : ∃ m, n = m + 1 := ⟨n - 1, by have := of_decide_eq_true h; omega⟩
theorem typesPos : ∃ m, Try.prog.types.size = m + 1 := pos_of _ (by kernel_rfl)
theorem key_spot {g s : Int} (hg : (Lit.int .i64 g).wf = true) (hs : (Lit.int .i64 s).wf = true) : keyOf Try.prog 91 (spotV g s) = some (.string (keyBytes [.int .i64 g, .int .i64 s])) := by
  obtain ⟨m, hm⟩ := typesPos
  have hk := spotArr.keyType typesPos
  have hf : (spotV g s).formed Try.prog 91 = true := by
    unfold Value.formed spotV
    simp only [spotArr.hu, spotArr.size]
    rfl
  have one : ∀ z : Int, (Lit.int .i64 z).wf = true → Try.prog.keyLits (m + 1) 3 [.int .i64 z] = some [.int .i64 z] := by
    intro z hz
    unfold Program.keyLits
    simp only [Try.underlying3, hz, and_self, if_true]
  have hl : Try.prog.keyLits (m + 1 + 1) 91 [.int .i64 g, .int .i64 s] = some [.int .i64 g, .int .i64 s] := by
    unfold Program.keyLits
    simp only [spotArr.hu, spotArr.size, spotArr.one, List.length_cons, List.length_nil, if_true]
    simp [List.range_succ, one g hg, one s hs]
  unfold keyOf
  rw [spotArr.hu]
  simp only [hk, hf, Bool.and_self, if_true]
  rw [hm]
  show (Try.prog.keyLits (m + 1 + 1) 91 [.int .i64 g, .int .i64 s]).map _ = _
  rw [hl]
  rfl
theorem key_int {z : Int} (hz : (Lit.int .i64 z).wf = true) : keyOf Try.prog 3 (.int .i64 z) = some (.int .i64 z) := keyOf_int_mk Try.underlying3 hz
theorem wf_small {z : Int} (h0 : -1000000 ≤ z) (h1 : z ≤ 1000000) : (Lit.int .i64 z).wf = true := by
  simp [Lit.wf, IntKind.min, IntKind.max, IntKind.signed, IntKind.bits]
  omega

/-- What the three maps have. -/
def inR (L : List En) (x y : Value) : Prop := ∃ e ∈ L, x = spotV e.g e.s ∧ y = .int .i64 (e.nd : Int)
def atR (L : List En) (x y : Value) : Prop := ∃ e ∈ L, x = .int .i64 (e.nd : Int) ∧ y = spotV e.g e.s
def capR (L : List En) (x y : Value) : Prop := ∃ e ∈ L, x = .int .i64 (e.nd : Int) ∧ y = capV e.c
/-- Where a space lies. -/
structure Ad where
  b : Nat
  f : Nat
  lb : Nat
  mi : Nat
  ma : Nat
  mc : Nat
  v : Value
def Ad.own (A : Ad) (k : Nat) : Prop := own3 A.f A.lb A.v k ∨ k = A.b ∨ k = A.mi ∨ k = A.ma ∨ k = A.mc
def Ad.cs (A : Ad) (S : Sp) : Array Value := #[.int .i64 S.gs, .int .i64 S.sl, .int .i64 (S.F.n : Int), .pointer (some ⟨A.f, 0, none⟩), .map (some A.mi), .map (some A.ma), .map (some A.mc)]
structure SpAt (w : World) (A : Ad) (S : Sp) : Prop where
  head : Blk w A.b 74 (A.cs S)
  prg : Prg w A.f A.lb A.v S.F
  mi : MapR Try.prog 91 w A.mi (inR S.L) S.L.length
  ma : MapR Try.prog 3 w A.ma (atR S.L) S.L.length
  mc : MapR Try.prog 3 w A.mc (capR S.L) S.L.length
  sep : ∀ k, own3 A.f A.lb A.v k → k ≠ A.b ∧ k ≠ A.mi ∧ k ≠ A.ma ∧ k ≠ A.mc
  sb : A.b ≠ A.mi ∧ A.b ≠ A.ma ∧ A.b ≠ A.mc
  sm : A.mi ≠ A.ma ∧ A.mi ≠ A.mc ∧ A.ma ≠ A.mc
/-- How large it may be. -/
structure Lim (S : Sp) : Prop where
  gs : 1 ≤ S.gs ∧ S.gs ≤ 64
  sl : 1 ≤ S.sl ∧ S.sl ≤ 32
  n : 1 ≤ S.F.n ∧ S.F.n ≤ 512

section
variable {w w' : World} {A : Ad} {S : Sp}
theorem SpAt.lt (h : SpAt w A S) {k : Nat} (hk : A.own k) : k < w.heap.size := by
  rcases hk with hk | rfl | rfl | rfl | rfl
  · exact own3_lt h.prg hk
  · exact h.head.lt
  · exact h.mi.lt
  · exact h.ma.lt
  · exact h.mc.lt
theorem SpAt.keep (h : SpAt w A S) (hk : ∀ k, A.own k → w'.heap[k]? = w.heap[k]?) (hs : w.heap.size ≤ w'.heap.size) : SpAt w' A S :=
  ⟨(hk A.b (.inr (.inl rfl))).trans h.head, h.prg.keep (fun k hh => hk k (.inl hh)) hs, h.mi.block (hk _ (.inr (.inr (.inl rfl)))), h.ma.block (hk _ (.inr (.inr (.inr (.inl rfl))))), h.mc.block (hk _ (.inr (.inr (.inr (.inr rfl))))), h.sep, h.sb, h.sm⟩
theorem SpAt.apart {Z : Nat → Prop} (h : SpAt w A S) (ha : Apart Z w w') (hZ : ∀ k, A.own k → ¬ Z k) : SpAt w' A S := h.keep (fun k hk => ha.block k (h.lt hk) (hZ k hk)) ha.size
theorem SpAt.below (h : SpAt w A S) (hb : Below w.heap.size w w') : SpAt w' A S := h.keep (fun k hk => hb.block k (h.lt hk)) hb.size
theorem SpAt.drewN (h : SpAt w A S) (k : Nat) : SpAt (w.drewN k) A S := h.keep (fun _ _ => rfl) (Nat.le_refl _)
theorem SpAt.cells (h : SpAt w A S) : w.cell? ⟨A.b, 0, none⟩ = some (.int .i64 S.gs) ∧ w.cell? ⟨A.b, 1, none⟩ = some (.int .i64 S.sl) ∧ w.cell? ⟨A.b, 2, none⟩ = some (.int .i64 (S.F.n : Int)) ∧ w.cell? ⟨A.b, 3, none⟩ = some (.pointer (some ⟨A.f, 0, none⟩)) ∧
    w.cell? ⟨A.b, 4, none⟩ = some (.map (some A.mi)) ∧ w.cell? ⟨A.b, 5, none⟩ = some (.map (some A.ma)) ∧ w.cell? ⟨A.b, 6, none⟩ = some (.map (some A.mc)) :=
  ⟨h.head.cell 0, h.head.cell 1, h.head.cell 2, h.head.cell 3, h.head.cell 4, h.head.cell 5, h.head.cell 6⟩
theorem there_bd (hl : Lim S) {g s : Int} (h : S.there g s = true) : (0 ≤ g ∧ g < 64) ∧ 0 ≤ s ∧ s < 32 := by
  simp only [Sp.there, Bool.and_eq_true, decide_eq_true_eq] at h
  have h1 := hl.gs
  have h2 := hl.sl
  omega
theorem there_key (hl : Lim S) {g s : Int} (h : S.there g s = true) : keyOf Try.prog 91 (spotV g s) = some (.string (keyBytes [.int .i64 g, .int .i64 s])) := by
  have := there_bd hl h
  exact key_spot (wf_small (by omega) (by omega)) (wf_small (by omega) (by omega))
theorem nd_key (hl : Lim S) (hJ : J S) {e : En} (he : e ∈ S.L) : keyOf Try.prog 3 (.int .i64 (e.nd : Int)) = some (.int .i64 (e.nd : Int)) := by
  have h1 := hJ.wf.lt _ (hJ.there_of he)
  have h2 := hl.n
  exact key_int (wf_small (by omega) (by omega))
theorem spot_inj {g s g' s' : Int} (h : spotV g s = spotV g' s') : g = g' ∧ s = s' := by
  unfold spotV at h
  injection h with h
  have h1 := congrArg (fun a => a[0]?) h
  have h2 := congrArg (fun a => a[1]?) h
  simp at h1 h2
  exact ⟨h1, h2⟩
theorem int_inj {a b : Int} (h : Value.int .i64 a = .int .i64 b) : a = b := by injection h

/-! What is looked up. -/
theorem in_yes (h : SpAt w A S) (hl : Lim S) {g s : Int} (ht : S.there g s = true) {e : En} (hf : fnd S.L g s = some e) (ok : Bool) :
    (Instr.lookup 70 (.map (some A.mi)) (spotV g s) ok).run Try.prog w = .ok (if ok then .tuple #[.int .i64 (e.nd : Int), .bool true] else .int .i64 (e.nd : Int)) w := by
  obtain ⟨h1, h2, h3⟩ := fnd_mem hf
  exact run_lookup_yes spotKeyed Try.underlying70 h.mi (there_key hl ht) ⟨e, h1, by rw [h2, h3], rfl⟩ ok
theorem in_no (h : SpAt w A S) (hl : Lim S) {g s : Int} (ht : S.there g s = true) (hf : fnd S.L g s = none) (ok : Bool) :
    (Instr.lookup 70 (.map (some A.mi)) (spotV g s) ok).run Try.prog w = .ok (if ok then .tuple #[.int .i64 0, .bool false] else .int .i64 0) w := by
  refine run_lookup_no spotKeyed Try.underlying70 h.mi (there_key hl ht) ?_ (by kernel_rfl) ok
  rintro y ⟨e, he, h1, _⟩
  obtain ⟨h2, h3⟩ := spot_inj h1
  exact fnd_none hf e he ⟨h2.symm, h3.symm⟩
theorem at_yes (h : SpAt w A S) (hl : Lim S) (hJ : J S) {e : En} (he : e ∈ S.L) (ok : Bool) :
    (Instr.lookup 71 (.map (some A.ma)) (.int .i64 (e.nd : Int)) ok).run Try.prog w = .ok (if ok then .tuple #[spotV e.g e.s, .bool true] else spotV e.g e.s) w :=
  run_lookup_yes intKeyed Try.underlying71 h.ma (nd_key hl hJ he) ⟨e, he, rfl, rfl⟩ ok
theorem cap_yes (h : SpAt w A S) (hl : Lim S) (hJ : J S) {e : En} (he : e ∈ S.L) (ok : Bool) :
    (Instr.lookup 72 (.map (some A.mc)) (.int .i64 (e.nd : Int)) ok).run Try.prog w = .ok (if ok then .tuple #[capV e.c, .bool true] else capV e.c) w :=
  run_lookup_yes intKeyed Try.underlying72 h.mc (nd_key hl hJ he) ⟨e, he, rfl, rfl⟩ ok
end
end Go.Proofs.Ytbknmfegckeogaa
