/- The places of a forest, as the program keeps them, in plain Lean: what join does; that Add, Drop, Prune do on the places what they do on the forest. No program in sight. -/
import Derived.Test.YtoihldagpnkfoaaTreeQ
namespace Go.Proofs.Ytoihldagpnkfoaa
set_option linter.unusedVariables false
set_option linter.unusedSimpArgs false

/-- A place. -/
structure Nd where
  t : Bool
  u : Int
  d : Int
  l : Int
  r : Int
def Nd.zero : Nd := ⟨false, 0, 0, 0, 0⟩
/-- What is at a place. -/
def Fo.nod (F : Fo) (i : Nat) : Nd := if F.there i = true then ⟨true, F.par i, hd (F.kids (i : Int)), prv i (F.kids (F.par i)), nxt i (F.kids (F.par i))⟩ else Nd.zero

/-- All places, and the first root. -/
structure Raw where
  M : Nat → Nd
  first : Int
def setN (M : Nat → Nd) (i : Nat) (x : Nd) : Nat → Nd := fun k => if k = i then x else M k
theorem setN_same (M : Nat → Nd) (i : Nat) (x : Nd) : setN M i x i = x := by simp [setN]
theorem setN_other (M : Nat → Nd) {i k : Nat} (x : Nd) (h : k ≠ i) : setN M i x k = M k := by simp [setN, h]
def Raw.head (R : Raw) (p : Int) : Int := if p < 0 then R.first else (R.M p.toNat).d
def Raw.setHead (R : Raw) (p v : Int) : Raw := if p < 0 then { R with first := v } else { R with M := setN R.M p.toNat { R.M p.toNat with d := v } }
def Raw.setR (R : Raw) (a : Nat) (v : Int) : Raw := { R with M := setN R.M a { R.M a with r := v } }
def Raw.setL (R : Raw) (a : Nat) (v : Int) : Raw := { R with M := setN R.M a { R.M a with l := v } }
def Raw.setU (R : Raw) (a : Nat) (v : Int) : Raw := { R with M := setN R.M a { R.M a with u := v } }
def Raw.setD (R : Raw) (a : Nat) (v : Int) : Raw := { R with M := setN R.M a { R.M a with d := v } }
def Raw.put (R : Raw) (a : Nat) (x : Nd) : Raw := { R with M := setN R.M a x }
def Raw.join (R : Raw) (p a b : Int) : Raw :=
  let R1 := if a = -1 then R.setHead p b else R.setR a.toNat b
  if b = -1 then R1 else R1.setL b.toNat a
/-- Drop's loop over children. -/
def dropL (p : Int) : Raw → Int → List Nat → Raw
  | R, _, [] => R
  | R, last, c :: K => dropL p ((R.setU c p).join p last (c : Int)) (c : Int) K

/-- The places are a forest's. -/
structure Rep (R : Raw) (F : Fo) : Prop where
  at_ : ∀ i, i < F.n → R.M i = F.nod i
  first : R.first = hd (F.kids (-1))

theorem Rep.head {R : Raw} {F : Fo} (h : Rep R F) (hF : WF F) {p : Int} (hp : F.ok p) : R.head p = hd (F.kids p) := by
  rcases hp with rfl | ⟨j, rfl, hj⟩
  · simp [Raw.head, h.first]
  · have hj0 : ¬ ((j : Nat) : Int) < 0 := by omega
    simp [Raw.head, hj0, h.at_ j (hF.lt j hj), Fo.nod, hj]

theorem hd_cons (x : Nat) (l : List Nat) : hd (x :: l) = x := rfl

theorem rep_add {R : Raw} {F : Fo} (h : Rep R F) (hF : WF F) {p : Int} (hp : F.ok p) {x : Nat} (hx : F.free.getLast? = some x) :
    Rep (((R.put x ⟨true, p, -1, -1, -1⟩).join p (-1) (x : Int)).join p (x : Int) (R.head p)) (F.add p x) := by
  rw [h.head hF hp]
  obtain ⟨hxn, hxt⟩ := (hF.fr x).1 (last_mem hx)
  have hnx : ∀ i, F.there i = true → i ≠ x := fun i hi e => by subst e; rw [hxt] at hi; cases hi
  have hkx : F.kids (x : Int) = [] := hF.kids_nil hxt
  have hpx : p ≠ (x : Int) := by
    rcases hp with rfl | ⟨j, rfl, hj⟩
    · omega
    · have := hnx j hj; omega
  have hrow : ∀ i ∈ F.kids p, F.there i = true ∧ F.par i = p := fun i hi => (hF.kin _ _).1 hi
  -- what is at each place behind it
  have hrec : ∀ i, (F.add p x).nod i = if i = x then ⟨true, p, -1, -1, hd (F.kids p)⟩ else if F.there i = true then
      ⟨true, F.par i, if (i : Int) = p then (x : Int) else hd (F.kids (i : Int)), if (F.kids p).head? = some i then (x : Int) else prv i (F.kids (F.par i)), nxt i (F.kids (F.par i))⟩ else Nd.zero := by
    intro i
    unfold Fo.nod
    simp only [Fo.add]
    by_cases hix : i = x
    · subst hix
      simp only [if_true]
      rw [if_neg (fun e => hpx e.symm), hkx]
      simp [hd, prv, prvF, nxt]
    · simp only [hix, if_false]
      by_cases hi : F.there i = true
      · rw [if_pos hi, if_pos hi]
        congr 1
        · split
          · rfl
          · rfl
        · by_cases hq : F.par i = p
          · rw [if_pos hq, hq]
            have hik : i ∈ F.kids p := (hF.kin _ _).2 ⟨hi, hq⟩
            have hxi : ¬ x = i := fun e => hix e.symm
            have e1 : prv i (x :: F.kids p) = prvF (x : Int) i (F.kids p) := by
              unfold prv
              simp [prvF, hxi]
            rw [e1]
            by_cases hh : (F.kids p).head? = some i
            · rw [if_pos hh]
              cases hk : F.kids p with
              | nil => rw [hk] at hh; cases hh
              | cons y r =>
                rw [hk] at hh
                have : y = i := by simpa using hh
                simp [prvF, this]
            · rw [if_neg hh]
              exact prvF_mem_tail _ _ hik hh
          · rw [if_neg hq, if_neg]
            intro hh
            exact hq (hrow i (List.mem_of_mem_head? hh)).2
        · by_cases hq : F.par i = p
          · rw [if_pos hq, hq]
            have hxi : ¬ x = i := fun e => hix e.symm
            simp [nxt, hxi]
          · rw [if_neg hq]
      · rw [if_neg hi, if_neg hi]
  have hR : ∀ i, i < F.n → R.M i = F.nod i := h.at_
  have hxT : ((x : Nat) : Int).toNat = x := by omega
  have hx1 : ((x : Nat) : Int) ≠ -1 := by omega
  refine ⟨fun i hi => ?_, ?_⟩
  · rw [hrec]
    have hi' : i < F.n := hi
    have hri := hR i hi'
    unfold Fo.nod at hri
    have hcase : F.kids p = [] ∨ ∃ y r, F.kids p = y :: r := by
      cases F.kids p with
      | nil => exact .inl rfl
      | cons y r => exact .inr ⟨y, r, rfl⟩
    rcases hcase with hk | ⟨y, r, hk⟩
    · have hv : hd (F.kids p) = -1 := by rw [hk]; rfl
      have hh : (F.kids p).head? = none := by rw [hk]; rfl
      rw [hv, hh]
      simp only [Raw.join, if_true, if_neg hx1, hxT]
      rcases hp with rfl | ⟨j, rfl, hj⟩
      · simp only [Raw.setHead, show (-1 : Int) < 0 by omega, if_true, Raw.setL, Raw.setR, Raw.put]
        by_cases hix : i = x
        · subst hix
          simp [setN]
        · have hip : (i : Int) ≠ -1 := by omega
          simp [setN, hix, hri, hip]
      · have hjx := hnx j hj
        have hxj : ¬ x = j := fun e => hjx e.symm
        have hj0 : ¬ ((j : Nat) : Int) < 0 := by omega
        have hjT : ((j : Nat) : Int).toNat = j := by omega
        simp only [Raw.setHead, hj0, if_false, hjT, Raw.setL, Raw.setR, Raw.put]
        by_cases hix : i = x
        · subst hix
          simp [setN, hxj, hjx]
        · by_cases hij : i = j
          · subst hij
            simp [setN, hix, hri, hj]
          · have hij' : (i : Int) ≠ (j : Int) := by omega
            simp [setN, hix, hij, hri, hij']
    · have hv : hd (F.kids p) = y := by rw [hk]; rfl
      have hh : (F.kids p).head? = some y := by rw [hk]; rfl
      have hy := hrow y (by rw [hk]; simp)
      have hyx := hnx y hy.1
      have hxy : ¬ x = y := fun e => hyx e.symm
      have hyT : ((y : Nat) : Int).toNat = y := by omega
      have hy1 : ((y : Nat) : Int) ≠ -1 := by omega
      rw [hv, hh]
      simp only [Raw.join, if_true, if_neg hx1, if_neg hy1, hxT, hyT, Option.some.injEq]
      rcases hp with rfl | ⟨j, rfl, hj⟩
      · simp only [Raw.setHead, show (-1 : Int) < 0 by omega, if_true, Raw.setL, Raw.setR, Raw.put]
        by_cases hix : i = x
        · subst hix
          simp [setN, hxy, hyx]
        · have hip : (i : Int) ≠ -1 := by omega
          by_cases hiy : i = y
          · subst hiy
            simp [setN, hix, hri, hip, hy.1]
          · have hiy' : ¬ y = i := fun e => hiy e.symm
            simp [setN, hix, hri, hip, hiy, hiy']
      · have hjx := hnx j hj
        have hxj : ¬ x = j := fun e => hjx e.symm
        have hj0 : ¬ ((j : Nat) : Int) < 0 := by omega
        have hjT : ((j : Nat) : Int).toNat = j := by omega
        have hyj : y ≠ j := fun e => hF.not_self hy.1 (by rw [hy.2, e])
        have hjy : ¬ j = y := fun e => hyj e.symm
        simp only [Raw.setHead, hj0, if_false, hjT, Raw.setL, Raw.setR, Raw.put]
        by_cases hix : i = x
        · subst hix
          simp [setN, hxy, hxj, hyx, hjx]
        · by_cases hiy : i = y
          · subst hiy
            have hij' : (i : Int) ≠ (j : Int) := by omega
            simp [setN, hix, hri, hy.1, hyj, hij']
          · have hiy' : ¬ y = i := fun e => hiy e.symm
            by_cases hij : i = j
            · subst hij
              simp [setN, hix, hri, hiy, hiy', hj]
            · have hij' : (i : Int) ≠ (j : Int) := by omega
              simp [setN, hix, hri, hiy, hiy', hij, hij']
  · simp only [Fo.add]
    have hf := h.first
    by_cases hy1 : hd (F.kids p) = -1
    · rcases hp with rfl | ⟨j, rfl, hj⟩
      · simp [Raw.join, hy1, hx1, Raw.setHead, Raw.setL, Raw.setR, Raw.put, hd_cons]
      · have hj0 : ¬ ((j : Nat) : Int) < 0 := by omega
        have hj1 : ¬ (-1 : Int) = (j : Int) := by omega
        simp [Raw.join, hy1, hx1, Raw.setHead, Raw.setL, Raw.setR, Raw.put, hj0, hj1, hf]
    · rcases hp with rfl | ⟨j, rfl, hj⟩
      · simp [Raw.join, hy1, hx1, Raw.setHead, Raw.setL, Raw.setR, Raw.put, hd_cons]
      · have hj0 : ¬ ((j : Nat) : Int) < 0 := by omega
        have hj1 : ¬ (-1 : Int) = (j : Int) := by omega
        simp [Raw.join, hy1, hx1, Raw.setHead, Raw.setL, Raw.setR, Raw.put, hj0, hj1, hf]
end Go.Proofs.Ytoihldagpnkfoaa
