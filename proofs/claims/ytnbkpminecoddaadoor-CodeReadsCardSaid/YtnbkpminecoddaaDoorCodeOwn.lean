/- A copy of a row of bytes; a row of bytes as a string; the comparison of instructions by ==. -/
import Derived.Test.YtnbkpminecoddaaDoorCodeKnown
import Derived.Test.YtnbkpminecoddaaDoorAppendG
import Derived.Test.YtnbkpminecoddaaDoorCodeInsEq
import Derived.Laws.BytesArg
namespace Go.Proofs.YtnbkpminecoddaaDoor
open Go.RowKit
set_option linter.unusedVariables false
set_option linter.unusedSimpArgs false

def bV (l : List UInt8) : List Value := l.map fun c => .int .u8 (c.toNat : Int)
theorem bV_one (l : List UInt8) : ∀ u ∈ bV l, u.oneCell' = true := by
  intro u hu
  obtain ⟨c, _, rfl⟩ := List.mem_map.1 hu
  simp [Value.oneCell']
theorem bytes_own {w : World} {B : Nat} {v : Value} {l : List UInt8} (h : w.ownsRow B 5 1 v l.length (bV l)) : ∃ A cap, v = .slice A l.length cap ∧ BytesAt w A l cap ∧ (∀ ad, A = some ad → B ≤ ad.block) := by
  rcases h.2 with ⟨rfl, hn⟩ | ⟨g, cap, cur, rfl, hb, hg, h1, h2, h3, h4⟩
  · have : l = [] := List.length_eq_zero_iff.1 hn
    subst this
    exact ⟨none, 0, rfl, ⟨Nat.le_refl _, .inl rfl⟩, fun _ h => by cases h⟩
  · refine ⟨_, _, rfl, ⟨h1, ?_⟩, fun ad e => by cases e; exact hb⟩
    by_cases hl : l = []
    · exact .inl hl
    · refine .inr ⟨g, 0, rfl, (Array.getElem?_eq_some_iff.1 hg).1, fun i hi => ?_⟩
      rw [cell_of_row _ g (0 + i) _ _ _ hg, Nat.zero_add, ← Array.getElem?_toList]
      have e : (cur.toList.take (l.length * 1))[i]? = (bV l)[i]? := by rw [h4]
      rw [List.getElem?_take_of_lt (by omega)] at e
      rw [e]
      simp [bV, hi]
theorem wpList_append_bytes {w : World} {ops : Array Oper} {rest : List Oper} {o : Oper} {a : Act} {Q : Exit → Act → World → Prop} (hgd : o.guard = none) (x : Operand)
    (ho : o.op = .call { callee := .builtin .append, args := #[.const (.slice none 0 0), x], argTypes := #[22, 22] })
    {A : Option Addr} {l : List UInt8} {cap : Nat} (hl : l.length ≤ 100000) (hx : a.eval x = .slice A l.length cap) (hA : A = none → cap = 0) (h : BytesAt w A l cap)
    (k : ∀ A' cap' w', BytesAt w' A' l cap' → (∀ ad, A' = some ad → w.heap.size ≤ ad.block) → Below w.heap.size w w' → wpList Tryd.prog ops Q rest (a.put o.dst (.slice A' l.length cap')) w') : wpList Tryd.prog ops Q (o :: rest) a w := by
  obtain ⟨i0, hi, hz0, hz1, hz2⟩ := info_parts infoU8
  cases A with
  | none =>
    have hl0 : l = [] := by
      rcases h.2 with h | ⟨g, o, h, _⟩
      · exact h
      · cases h
    subst hl0
    have hc := hA rfl
    subst hc
    refine wpList_append_none_g (by simp [Region.wanted, hgd]) _ x 22 ho w.heap.size 5 i0 1 underU8 hi (.slice none 0 0) 0 [] rfl (World.ownsRow_nil _ _ _ _) hx ?_
    exact k none 0 w ⟨Nat.le_refl _, .inl rfl⟩ (fun _ h => by cases h) (Below.refl _ _)
  | some ad =>
    refine wpList_append_own w hgd _ x 22 ho w.heap.size 5 i0 (.int .u8 0) 1 1 underU8 hi hz0 hz1 hz2 rfl (by decide) (.slice none 0 0) 0 [] rfl (World.ownsRow_nil _ _ _ _) ad l.length cap (bV l) hx (by simp [bV]) ?_ (bV_one l) (by unfold maxLen; omega) (by omega) (Nat.le_refl _) ?_
    · intro j u hu
      rcases h.2 with h | ⟨g, o', h, hg, hc⟩
      · subst h; simp [bV] at hu
      · cases h
        rw [Addr.add_lit]
        have hj : j < l.length := by
          have := (List.getElem?_eq_some_iff.1 hu).1
          simpa [bV] using this
        rw [hc j hj]
        simp [bV, hj] at hu
        rw [hu]
    · intro v' w' hown hgr _
      simp only [Nat.zero_add, List.nil_append] at hown
      obtain ⟨A', cap', rfl, hb, hge⟩ := bytes_own hown
      exact k A' cap' w' hb hge ((Below.refl _ _).grown hgr (Nat.le_refl _) (fun j hj => by cases hj))
/-- A row of bytes as a string. -/
def strL (l : List UInt8) : ByteArray := ⟨l.toArray⟩
theorem strOf_nums (l : List UInt8) : strOfNums (l.map fun c => (c.toNat : Int)) = strL l := by
  unfold strOfNums strL
  congr 2
  rw [List.map_map]
  conv => rhs; rw [← List.map_id l]
  apply List.map_congr_left
  intro c _
  simp
theorem conv_bytes {w : World} {A : Option Addr} {l : List UInt8} {cap : Nat} (h : BytesAt w A l cap) : (convert 22 9 (.slice A l.length cap)).run Tryd.prog w = .ok (.string (strL l)) w := by
  rcases h.2 with rfl | ⟨g, o, rfl, hg, hc⟩
  · cases A with
    | none => kernel_rfl
    | some ad => 
      obtain ⟨b, o, s⟩ := ad
      cases s with
      | none => exact run_convert_bytes_arg (P := Tryd.prog) w 22 5 Tryd.underlying22 Tryd.underlying5 b o 0 cap [] rfl (fun i hi => absurd hi (by omega)) 9 Tryd.underlying9
      | some s => kernel_rfl
  · have := run_convert_bytes_arg (P := Tryd.prog) w 22 5 Tryd.underlying22 Tryd.underlying5 g o l.length cap (l.map fun c => (c.toNat : Int)) (by simp) (fun i hi => by rw [hc i hi]; simp [List.getD_eq_getElem?_getD, hi]) 9 Tryd.underlying9
    rw [this, strOf_nums]
theorem ins_eql (k a b c k' a' b' c' : Int) (w : World) : (binOp .eql 26 (.agg #[.int .u8 k, .int .u8 a, .int .u8 b, .int .u8 c]) (.agg #[.int .u8 k', .int .u8 a', .int .u8 b', .int .u8 c'])).run Tryd.prog w = .ok (.bool (decide (k = k' ∧ a = a' ∧ b = b' ∧ c = c'))) w := by
  rw [run_eql_struct, run_ins 9998, Result.andThen_ok]
end Go.Proofs.YtnbkpminecoddaaDoor
