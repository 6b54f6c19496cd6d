/- Words for the laws of steps: rows written into one's own variables; how many registers differ; is a place small. -/
import Derived.Test.YtbgfbgcjghcepaaStepKnown
import Derived.Deep.MidRow
namespace Go.Proofs.Ytbgfbgcjghcepaa
open Go.RowKit
set_option linter.unusedVariables false
set_option linter.unusedSimpArgs false

theorem far_cells {b g : Nat} {t : TypeId} {cs : Array Value} (hne : g ≠ b) : ∀ (l : List Value) (o : Nat) (w : World), Blk w g t cs → Blk (w.setCells b o l) g t cs
  | [], o, w, h => h
  | v :: l, o, w, h => far_cells hne l (o + 1) _ (h.far (p := ⟨b, o, none⟩) hne v)
theorem below_cells {B b : Nat} {w0 : World} (hB : B ≤ b) : ∀ (l : List Value) (o : Nat) (w : World), Below B w0 w → Below B w0 (w.setCells b o l)
  | [], o, w, h => h
  | v :: l, o, w, h => below_cells hB l (o + 1) _ (h.setCell (p := ⟨b, o, none⟩) hB v)
/-- A goroutine's registers, as values. -/
def Gr.regs (g : Gr) : List Value := [.int .u64 (g.r 0), .int .u64 (g.r 1), .int .u64 (g.r 2), .int .u64 (g.r 3), .int .u64 (g.r 4), .int .u64 (g.r 5), .int .u64 (g.r 6), .int .u64 (g.r 7)]
theorem regs_range {w : World} {b : Nat} {g : Gr} (h : Blk w b 30 g.c) : w.rangeAt b 9 g.regs := fun j v hv => by
  rw [h.cell]
  rcases j with _ | _ | _ | _ | _ | _ | _ | _ | j
  all_goals first | exact hv | (simp [Gr.regs] at hv)
theorem regs_there {w : World} {b : Nat} {t : TypeId} {cs : Array Value} (h : Blk w b t cs) (hs : cs.size = 19) : w.there b 9 8 := fun j hj => by
  refine ⟨?_, h.frozen _⟩
  rw [h.cell, Array.getElem?_eq_getElem (by omega)]
  rfl
theorem regs_put {w : World} {b : Nat} {t : TypeId} {cs : Array Value} (h : Blk w b t cs) (g : Gr) : Blk (w.setCells b 9 g.regs) b t ((((((((cs.setIfInBounds 9 (.int .u64 (g.r 0))).setIfInBounds 10 (.int .u64 (g.r 1))).setIfInBounds 11 (.int .u64 (g.r 2))).setIfInBounds 12 (.int .u64 (g.r 3))).setIfInBounds 13 (.int .u64 (g.r 4))).setIfInBounds 14 (.int .u64 (g.r 5))).setIfInBounds 15 (.int .u64 (g.r 6))).setIfInBounds 16 (.int .u64 (g.r 7))) :=
  (((((((h.set_ 9 _).set_ 10 _).set_ 11 _).set_ 12 _).set_ 13 _).set_ 14 _).set_ 15 _).set_ 16 _
theorem regs_one (g : Gr) : g.regs.toArray.all Value.oneCell' = true := by simp [Gr.regs, Value.oneCell']
theorem underA8 : ∃ d, Try.prog.underlying 27 = some d ∧ d.isRow = true := Option.map_eq_some_iff.1 (show (Try.prog.underlying 27).map (fun d => d.isRow) = some true by kernel_rfl)
theorem load_regs {ops : Array Oper} {rest : List Oper} {o : Oper} {a : Act} {w : World} {Q : Exit → Act → World → Prop} {g : Gr} {b : Nat} (hB : Blk w b 30 g.c) (hgd : o.guard = none) (x : Operand) (ho : o.op = .load 27 x) (hx : a.eval x = .pointer (some ⟨b, 9, none⟩))
    (h : wpList Try.prog ops Q rest (a.put o.dst (.agg g.regs.toArray)) w) : wpList Try.prog ops Q (o :: rest) a w := by
  obtain ⟨d, h1, h2⟩ := underA8
  exact wpList_load_mid hgd 27 x ho b 9 hx g.regs d (regs_range hB) h1 h2 (by kernel_rfl) h
theorem store_regs {ops : Array Oper} {rest : List Oper} {o : Oper} {a : Act} {w : World} {Q : Exit → Act → World → Prop} {g : Gr} {b : Nat} {t : TypeId} {cs : Array Value} (hB : Blk w b t cs) (hs : cs.size = 19) (hgd : o.guard = none) (x y : Operand) (ho : o.op = .store 27 x y) (hx : a.eval x = .pointer (some ⟨b, 9, none⟩)) (hy : a.eval y = .agg g.regs.toArray)
    (h : wpList Try.prog ops Q rest (a.put o.dst undef) (w.setCells b 9 g.regs)) : wpList Try.prog ops Q (o :: rest) a w :=
  wpList_store_mid hgd 27 x y ho b 9 g.regs.toArray hx hy (regs_there hB hs) (by kernel_rfl) (regs_one g) h

/-- All but the place, the registers and the answer are as they were. -/
def Alike (x g : Gr) : Prop := { x with pc := g.pc, r := g.r, code := g.code } = g
theorem alike_c {x g : Gr} (h : Alike x g) : ((((((((((x.c.setIfInBounds 8 (.int .i64 g.pc)).setIfInBounds 9 (.int .u64 (g.r 0))).setIfInBounds 10 (.int .u64 (g.r 1))).setIfInBounds 11 (.int .u64 (g.r 2))).setIfInBounds 12 (.int .u64 (g.r 3))).setIfInBounds 13 (.int .u64 (g.r 4))).setIfInBounds 14 (.int .u64 (g.r 5))).setIfInBounds 15 (.int .u64 (g.r 6))).setIfInBounds 16 (.int .u64 (g.r 7))).setIfInBounds 17 (.int .i64 g.code)) = g.c := by
  have e : ((((((((((x.c.setIfInBounds 8 (.int .i64 g.pc)).setIfInBounds 9 (.int .u64 (g.r 0))).setIfInBounds 10 (.int .u64 (g.r 1))).setIfInBounds 11 (.int .u64 (g.r 2))).setIfInBounds 12 (.int .u64 (g.r 3))).setIfInBounds 13 (.int .u64 (g.r 4))).setIfInBounds 14 (.int .u64 (g.r 5))).setIfInBounds 15 (.int .u64 (g.r 6))).setIfInBounds 16 (.int .u64 (g.r 7))).setIfInBounds 17 (.int .i64 g.code)) = ({ x with pc := g.pc, r := g.r, code := g.code } : Gr).c := by kernel_rfl
  rw [e, h]

theorem regs_17 (x g : Gr) (z : Int) : (((((((((x.c.setIfInBounds 8 (.int .i64 z)).setIfInBounds 9 (.int .u64 (g.r 0))).setIfInBounds 10 (.int .u64 (g.r 1))).setIfInBounds 11 (.int .u64 (g.r 2))).setIfInBounds 12 (.int .u64 (g.r 3))).setIfInBounds 13 (.int .u64 (g.r 4))).setIfInBounds 14 (.int .u64 (g.r 5))).setIfInBounds 15 (.int .u64 (g.r 6))).setIfInBounds 16 (.int .u64 (g.r 7)))[17]? = some (.int .i64 x.code) := by kernel_rfl

/-- How many registers of the first so many differ. -/
def chg (x g : Gr) (k : Nat) : Nat := ((List.range k).filter fun j => x.r j != g.r j).length
theorem chg_yes {x g : Gr} {k : Nat} (h : ¬ x.r k = g.r k) : chg x g (k + 1) = chg x g k + 1 := by
  unfold chg
  rw [List.range_succ, List.filter_append]
  simp [h]
theorem chg_no {x g : Gr} {k : Nat} (h : x.r k = g.r k) : chg x g (k + 1) = chg x g k := by
  unfold chg
  rw [List.range_succ, List.filter_append]
  simp [h]
theorem chg_none {x g : Gr} (h : ∀ j, x.r j = g.r j) : ∀ k, chg x g k = 0
  | 0 => rfl
  | k + 1 => (chg_no (h k)).trans (chg_none h k)
theorem chg_one {x g : Gr} {i : Nat} (h : ∀ j, j ≠ i → x.r j = g.r j) : ∀ k, chg x g k ≤ if i < k then 1 else 0
  | 0 => by simp [chg]
  | k + 1 => by
    have ih := chg_one h k
    by_cases hk : k = i
    · rw [if_pos (by omega)]
      rw [if_neg (by omega)] at ih
      by_cases hd : x.r k = g.r k
      · rw [chg_no hd]; omega
      · rw [chg_yes hd]; omega
    · rw [chg_no (h k hk)]
      refine Nat.le_trans ih ?_
      split
      · rw [if_pos (by omega)]
        exact Nat.le_refl _
      · exact Nat.zero_le _

def smallB (z : Int) : Bool := decide (-1099511627776 < z) && decide (z < 1099511627776)
theorem small_is (z : Int) (w : World) : Calls Try.prog 7 #[.int .i64 z] w fun e w' => e = .returned (.bool (smallB z)) ∧ w = w' := by
  unfold smallB
  by_cases h1 : -1099511627776 < z
  · have h1 : decide (-1099511627776 < z) = true := by simpa using h1
    rw [h1]
    go_enter Try.func7, Try.ntmps7
    go_wp2
    go_ret
    exact ⟨rfl, rfl⟩
  · have h1 : decide (-1099511627776 < z) = false := by simpa using h1
    rw [h1]
    go_enter Try.func7, Try.ntmps7
    go_wp2
    go_ret
    exact ⟨rfl, rfl⟩
end Go.Proofs.Ytbgfbgcjghcepaa
