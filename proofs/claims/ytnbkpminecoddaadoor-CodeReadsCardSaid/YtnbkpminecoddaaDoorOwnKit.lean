/- Rows of the call's own: what stays, how it reads. No program walked. -/
import Derived.Test.YtnbkpminecoddaaDoorRows
import Derived.Test.YtnbkpminecoddaaDoorApart
namespace Go.Proofs.YtnbkpminecoddaaDoor
open Go.RowKit
set_option linter.unusedVariables false

theorem own_slice {w : World} {base : Nat} {e : TypeId} {size n : Nat} {v : Value} {xs : List Value} (h : w.ownsRow base e size v n xs) : ∃ A cap, v = .slice A n cap := by
  rcases h.2 with ⟨rfl, rfl⟩ | ⟨g, cap, cur, rfl, _⟩
  · exact ⟨none, 0, rfl⟩
  · exact ⟨_, cap, rfl⟩
theorem below_own {w w' : World} {base : Nat} {e : TypeId} {size : Nat} {v : Value} {n : Nat} {xs : List Value} (h : w.ownsRow base e size v n xs) (hb : Below w.heap.size w w') : w'.ownsRow base e size v n xs := by
  refine ⟨h.1, ?_⟩
  rcases h.2 with hn | ⟨g, cap, cur, hv, hbg, hg, rest⟩
  · exact .inl hn
  · exact .inr ⟨g, cap, cur, hv, hbg, (hb.block g (Array.getElem?_eq_some_iff.1 hg).1).trans hg, rest⟩
theorem own_mono {w : World} {B B' : Nat} {e : TypeId} {size : Nat} {v : Value} {n : Nat} {xs : List Value} (h : w.ownsRow B e size v n xs) (hB : B' ≤ B) : w.ownsRow B' e size v n xs := by
  refine ⟨h.1, ?_⟩
  rcases h.2 with hn | ⟨g, cap, cur, hv, hbg, hg, rest⟩
  · exact .inl hn
  · exact .inr ⟨g, cap, cur, hv, Nat.le_trans hB hbg, hg, rest⟩
theorem own_cap {w : World} {B : Nat} {e : TypeId} {size : Nat} {A : Option Addr} {n c : Nat} {xs : List Value} (h : w.ownsRow B e size (.slice A n c) n xs) : n ≤ c ∧ c ≤ maxLen := by
  rcases h.2 with ⟨hn, h0⟩ | ⟨g, cap, cur, hv, hbg, hg, h1, h2, rest⟩
  · injection hn with _ _ hc
    subst hc
    subst h0
    exact ⟨Nat.le_refl _, Nat.zero_le _⟩
  · injection hv with _ _ hc
    subst hc
    exact ⟨h1, h2⟩
theorem own_apart {S : Nat → Prop} {w w' : World} {B : Nat} {e : TypeId} {size : Nat} {v : Value} {n : Nat} {xs : List Value} (h : w.ownsRow B e size v n xs) (hA : Apart S w w') (hS : ∀ k, v.ownBlock = some k → ¬ S k) : w'.ownsRow B e size v n xs := by
  refine ⟨h.1, ?_⟩
  rcases h.2 with hn | ⟨g, cap, cur, hv, hbg, hg, rest⟩
  · exact .inl hn
  · exact .inr ⟨g, cap, cur, hv, hbg, (hA.block g (Array.getElem?_eq_some_iff.1 hg).1 (hS g (by rw [hv]; rfl))).trans hg, rest⟩
theorem own_form {w : World} {B : Nat} {e : TypeId} {size : Nat} {O : Option Addr} {n c : Nat} {xs : List Value} (h : w.ownsRow B e size (.slice O n c) n xs) (hn : 0 < n) : ∃ g, O = some ⟨g, 0, none⟩ := by
  rcases h.2 with ⟨hv, h0⟩ | ⟨g, cap, cur, hv, _⟩
  · omega
  · injection hv with hO
    exact ⟨g, hO⟩
theorem infoInt : (Tryd.prog.info? 3).map (fun i => (i.zero, i.size, i.bytes)) = some (some (.int .i64 0), 1, 8) := by kernel_rfl

/-- Whole numbers as values. -/
def intV (L : List Int) : List Value := L.map fun x => Value.int .i64 x
theorem intV_len (L : List Int) : (intV L).length = L.length := by simp [intV]
theorem intV_one (L : List Int) : ∀ u ∈ intV L, u.oneCell' = true := by
  intro u hu
  obtain ⟨x, _, rfl⟩ := List.mem_map.1 hu
  rfl
theorem intV_app (a b : List Int) : intV (a ++ b) = intV a ++ intV b := by simp [intV]
/-- A slice of whole numbers. -/
def Ints (w : World) (B : Nat) (A : Option Addr) (L : List Int) : Prop := Reads w B 1 A L.length (intV L)
theorem Ints.at_ {w : World} {B : Nat} {A : Option Addr} {L : List Int} (h : Ints w B A L) {k : Nat} (hk : k < L.length) : ∃ ad : Addr, A = some ad ∧ ad.block < B ∧ w.cell? (ad.add k) = some (.int .i64 (L[k]'hk)) := by
  obtain ⟨ad, u, e, hb, hu, hc⟩ := Reads.at_ h hk
  have hu' : u = .int .i64 (L[k]'hk) := by
    rw [intV, List.getElem?_map, List.getElem?_eq_getElem hk] at hu
    simpa using hu.symm
  exact ⟨ad, e, hb, hu' ▸ hc⟩
theorem Ints.drewN {w : World} {B : Nat} {A : Option Addr} {L : List Int} (h : Ints w B A L) (k : Nat) : Ints (w.drewN k) B A L := Reads.drewN h k
theorem Ints.below {w w' : World} {B : Nat} {A : Option Addr} {L : List Int} (h : Ints w B A L) (hb : Below B w w') : Ints w' B A L := Reads.below h hb
theorem Ints.more {w : World} {B B' : Nat} {A : Option Addr} {L : List Int} (h : Ints w B A L) (hB : B ≤ B') : Ints w B' A L := Reads.more h hB
theorem reads_one_ (W : World) (g : Int) : Reads (W.alloc (.cells #[.int .i64 g] 3)) (W.heap.size + 1) 1 (some ⟨W.heap.size, 0, none⟩) 1 [.int .i64 g] :=
  ⟨rfl, fun _ => ⟨_, rfl, by simp, fun j u hu => by
    rcases j with _ | j
    · simp at hu
      subst hu
      exact (Blk.new W 3 #[.int .i64 g]).cell 0
    · simp at hu⟩⟩
/-- Natural numbers as whole ones. -/
def nats (l : List Nat) : List Int := l.map fun (x : Nat) => (x : Int)
theorem nats_len (l : List Nat) : (nats l).length = l.length := by simp [nats]
theorem nats_snoc (l : List Nat) (x : Nat) : nats (l ++ [x]) = nats l ++ [(x : Int)] := by simp [nats]
end Go.Proofs.YtnbkpminecoddaaDoor
