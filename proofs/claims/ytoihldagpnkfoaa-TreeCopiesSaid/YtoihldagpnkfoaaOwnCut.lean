/- Rows of whole numbers that may have more cells behind their room (of a slice cut with a bound): what an append makes of them. No program walked. -/
import Derived.Test.YtoihldagpnkfoaaOwnKit
namespace Go.Proofs.Ytoihldagpnkfoaa
open Go.RowKit
set_option linter.unusedVariables false

/-- The value is a slice of these numbers, on a block that is written to. -/
def Cut (w : World) (v : Value) (L : List Int) : Prop :=
  (v = .slice none 0 0 ∧ L = []) ∨ ∃ g cap cur, v = .slice (some ⟨g, 0, none⟩) L.length cap ∧ Blk w g 3 cur ∧ L.length ≤ cap ∧ cap ≤ maxLen ∧ cap ≤ cur.size ∧ cur.toList.take L.length = intV L

theorem Cut.nil (w : World) : Cut w (.slice none 0 0) [] := .inl ⟨rfl, rfl⟩
theorem Cut.slice {w : World} {v : Value} {L : List Int} (h : Cut w v L) : ∃ A cap, v = .slice A L.length cap := by
  rcases h with ⟨rfl, rfl⟩ | ⟨g, cap, cur, rfl, _⟩
  · exact ⟨none, 0, rfl⟩
  · exact ⟨_, cap, rfl⟩
theorem Cut.lt {w : World} {v : Value} {L : List Int} (h : Cut w v L) : ∀ k, v.ownBlock = some k → k < w.heap.size := by
  intro k hk
  rcases h with ⟨rfl, rfl⟩ | ⟨g, cap, cur, rfl, hg, _⟩
  · simp [Value.ownBlock] at hk
  · simp [Value.ownBlock] at hk
    subst hk
    exact hg.lt
theorem Cut.keep {w w' : World} {v : Value} {L : List Int} (h : Cut w v L) (hk : ∀ k, v.ownBlock = some k → w'.heap[k]? = w.heap[k]?) : Cut w' v L := by
  rcases h with hn | ⟨g, cap, cur, rfl, hg, rest⟩
  · exact .inl hn
  · exact .inr ⟨g, cap, cur, rfl, (hk g rfl).trans hg, rest⟩
theorem Cut.apart {S : Nat → Prop} {w w' : World} {v : Value} {L : List Int} (h : Cut w v L) (hA : Apart S w w') (hS : ∀ k, v.ownBlock = some k → ¬ S k) : Cut w' v L :=
  h.keep fun k hk => hA.block k (h.lt k hk) (hS k hk)
theorem Cut.below {w w' : World} {v : Value} {L : List Int} (h : Cut w v L) (hb : Below w.heap.size w w') : Cut w' v L := h.keep fun k hk => hb.block k (h.lt k hk)
theorem Cut.cells {w : World} {A : Option Addr} {n cap : Nat} {L : List Int} (h : Cut w (.slice A n cap) L) (k : Nat) (hk : k < L.length) : ∃ g, A = some ⟨g, 0, none⟩ ∧ w.cell? ⟨g, k, none⟩ = some (.int .i64 (L[k]'hk)) := by
  rcases h with ⟨_, rfl⟩ | ⟨g, cap', cur, hv, hg, h1, h2, h3, h4⟩
  · simp at hk
  · injection hv with hA
    refine ⟨g, hA, ?_⟩
    rw [hg.cell k]
    have e1 : cur.toList[k]? = (cur.toList.take L.length)[k]? := by rw [List.getElem?_take, if_pos hk]
    rw [← Array.getElem?_toList, e1, h4, intV, List.getElem?_map, List.getElem?_eq_getElem hk]
    rfl
/-- The end cut off, and the room behind with it. -/
theorem Cut.cut {w : World} {A : Option Addr} {n cap : Nat} {L : List Int} {x : Int} (h : Cut w (.slice A n cap) (L ++ [x])) : Cut w (.slice A L.length L.length) L := by
  rcases h with ⟨_, hL⟩ | ⟨g, cap', cur, hv, hg, h1, h2, h3, h4⟩
  · simp at hL
  · injection hv with hA
    subst hA
    rw [List.length_append, List.length_singleton] at h1 h4
    refine .inr ⟨g, L.length, cur, rfl, hg, Nat.le_refl _, by omega, by omega, ?_⟩
    have e1 : cur.toList.take L.length = (cur.toList.take (L.length + 1)).take L.length := by rw [List.take_take, Nat.min_eq_left (by omega)]
    rw [e1, h4, intV_app, ← intV_len L, List.take_left]
theorem Cut.own {w : World} {B : Nat} {v : Value} {L : List Int} (h : w.ownsRow B 3 1 v L.length (intV L)) : Cut w v L := by
  rcases h.2 with ⟨rfl, h0⟩ | ⟨g, cap, cur, rfl, hb, hg, h1, h2, h3, h4⟩
  · exact .inl ⟨rfl, List.eq_nil_of_length_eq_zero h0⟩
  · exact .inr ⟨g, cap, cur, rfl, hg, h1, h2, by omega, by rw [Nat.mul_one] at h4; exact h4⟩

section
variable {P : Program} (w : World)
theorem run_append_cut (t ty : TypeId) (i : TypeInfo) (ht : P.underlying t = some (.slice 3)) (hi : P.info? 3 = some i) (hz : i.zero = some (.int .i64 0)) (hs : i.size = 1) (hb : i.bytes = 8)
    {v : Value} {L : List Int} (h : Cut w v L) (ad : Addr) (c : Nat) (x : Int) (hx : w.cell? (ad.add 0) = some (.int .i64 x)) (hL : L.length < 1000000) :
    ∃ v' w', (Builtin.append_ #[t, t] ty #[v, .slice (some ad) 1 c]).run P w = .ok v' w' ∧ Cut w' v' (L ++ [x]) ∧ w.grownBy w' v.ownBlock ∧ (v'.ownBlock = v.ownBlock ∨ v'.ownBlock = some w.heap.size) := by
  have hnews : ∀ j u, ([Value.int .i64 x] : List Value)[j]? = some u → w.cell? (ad.add j) = some u := by
    intro j u hu
    rcases j with _ | j
    · simp at hu
      subst hu
      exact hx
    · simp at hu
  have hl : ([Value.int .i64 x] : List Value).length = 1 * i.size := by rw [hs]; rfl
  have hLL : (intV L).length = L.length * i.size := by rw [hs, intV_len, Nat.mul_one]
  have happ : intV (L ++ [x]) = intV L ++ [.int .i64 x] := by rw [intV_app]; rfl
  have grown : ∀ (old : Nat), ∀ (row : Option Nat),
      Cut (w.drew.alloc (.cells ((intV L).toArray ++ [Value.int .i64 x].toArray ++ Builtin.zeroCells (Value.int .i64 0).cells (grownCap w (L.length + 1) old 3 - (L.length + 1))) 3))
        (.slice (some ⟨w.heap.size, 0, none⟩) (L.length + 1) (grownCap w (L.length + 1) old 3)) (L ++ [x]) ∧
      w.grownBy (w.drew.alloc (.cells ((intV L).toArray ++ [Value.int .i64 x].toArray ++ Builtin.zeroCells (Value.int .i64 0).cells (grownCap w (L.length + 1) old 3 - (L.length + 1))) 3)) row := by
    intro old row
    have hge := grownCap_ge w (L.length + 1) old 3
    have hcm := grownCap_le_maxLen w (L.length + 1) old 3 (by unfold maxLen; omega)
    refine ⟨.inr ⟨w.heap.size, _, _, by rw [List.length_append]; rfl, heap_alloc_new w.drew _, by rw [List.length_append, List.length_singleton]; exact hge, hcm, ?_, ?_⟩, ⟨rfl, rfl, rfl, by simp, fun k hk _ => heap_alloc_old w.drew _ k hk⟩⟩
    · simp only [Array.size_append, List.size_toArray, size_zeroCells, intV_len, List.length_singleton, show (Value.int .i64 0).cells.size = 1 from rfl]
      omega
    · rw [happ]
      simp only [Array.toList_append]
      rw [List.length_append, List.length_singleton]
      have e : L.length + 1 = (intV L ++ [Value.int .i64 x]).length := by rw [List.length_append, intV_len]; rfl
      rw [e]
      exact List.take_left
  rcases h with ⟨rfl, rfl⟩ | ⟨g, cap, cur, rfl, hg, h1, h2, h3, h4⟩
  · have hr := run_append_nil (P := P) w t ty 3 i _ ht hi hz ad 1 c [.int .i64 x] hl hnews (by omega) (by omega) (by rw [hb]; omega)
    have hgr := grown 0 (Value.ownBlock (.slice none 0 0))
    simp only [List.length_nil, Nat.zero_add, List.nil_append, intV, List.map_nil] at hgr
    refine ⟨_, _, hr, ?_, ?_, .inr rfl⟩
    · simpa using hgr.1
    · simpa using hgr.2
  · by_cases hroom : L.length + 1 ≤ cap
    · have hr := run_append_room (P := P) w t ty 3 i ht hi g L.length cap cur hg ad 1 c [.int .i64 x] hl hnews (by simp [Value.oneCell']) hroom (by rw [hs]; simp; omega)
      refine ⟨_, _, hr, .inr ⟨g, cap, _, by rw [List.length_append]; rfl, setRow_heap w g cur _ 3 _ hg, by rw [List.length_append, List.length_singleton]; exact hroom, h2, ?_, ?_⟩, ⟨rfl, rfl, rfl, by simp, fun k _ hk => setRow_other w g k _ (fun e => hk (by simp [Value.ownBlock, e]))⟩, .inl rfl⟩
      · simp only [List.size_toArray, List.length_append, List.length_take, List.length_drop, Array.length_toList, hs, List.length_singleton]
        omega
      · rw [happ, hs, Nat.mul_one, h4]
        have e : (L ++ [x]).length = (intV L ++ [Value.int .i64 x]).length := by simp [intV_len]
        rw [e]
        exact List.take_left
    · have holds : ∀ j u, (intV L)[j]? = some u → w.cell? ((⟨g, 0, none⟩ : Addr).add j) = some u := by
        intro j u hu
        have hadd : (⟨g, 0, none⟩ : Addr).add j = ⟨g, j, none⟩ := by unfold Addr.add; split <;> simp_all
        rw [hadd, hg.cell j]
        rw [← h4, List.getElem?_take] at hu
        split at hu
        · simpa using hu
        · cases hu
      have hr := run_append_grow (P := P) w t ty 3 i _ ht hi hz ⟨g, 0, none⟩ L.length cap (intV L) hLL holds ad 1 c [.int .i64 x] hl hnews (by omega) (by omega) (growslice_fits (by omega) (by rw [hb]; omega))
      have hgr := grown cap (Value.ownBlock (.slice (some ⟨g, 0, none⟩) L.length cap))
      exact ⟨_, _, hr, hgr.1, hgr.2, .inr rfl⟩

theorem wpList_append_cut {ops : Array Oper} {rest : List Oper} {o : Oper} {a : Act} {Q : Exit → Act → World → Prop} (hgd : o.guard = none) (s y : Operand) (t : TypeId)
    (ho : o.op = .call { callee := .builtin .append, args := #[s, y], argTypes := #[t, t] })
    (i : TypeInfo) (ht : P.underlying t = some (.slice 3)) (hi : P.info? 3 = some i) (hz : i.zero = some (.int .i64 0)) (hsz : i.size = 1) (hb : i.bytes = 8)
    (v : Value) (L : List Int) (hs : a.eval s = v) (h : Cut w v L) (ad : Addr) (c : Nat) (x : Int) (hy : a.eval y = .slice (some ad) 1 c) (hx : w.cell? (ad.add 0) = some (.int .i64 x)) (hL : L.length < 1000000)
    (hK : ∀ v' w', Cut w' v' (L ++ [x]) → w.grownBy w' v.ownBlock → (v'.ownBlock = v.ownBlock ∨ v'.ownBlock = some w.heap.size) → wpList P ops Q rest (a.put o.dst v') w') : wpList P ops Q (o :: rest) a w := by
  refine wpList_plain hgd fun _ hK' => ?_
  obtain ⟨v', w', hr, h2, h3, h4⟩ := run_append_cut (P := P) w t o.type i ht hi hz hsz hb h ad c x hx hL
  unfold Oper.wp execOp
  simp only [ho, resolve, invoke, builtin, Sem.run_bind, Sem.run_pure, Result.andThen_ok, List.map_toArray, List.map_cons, List.map_nil, hs, hy, hr]
  exact hK' _ _ (hK v' w' h2 h3 h4)
end
end Go.Proofs.Ytoihldagpnkfoaa
