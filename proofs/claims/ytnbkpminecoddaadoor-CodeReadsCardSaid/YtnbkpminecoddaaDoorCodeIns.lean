/- code.instr: its number closure, by walk. -/
import Derived.Test.YtnbkpminecoddaaDoorCodeRefN
import Derived.Test.YtnbkpminecoddaaDoorShelf2
import Derived.Test.YtnbkpminecoddaaDoorCodeShape
import Derived.Maps.RangeRun
namespace Go.Proofs.YtnbkpminecoddaaDoor
open Go.RowKit
set_option linter.unusedVariables false
set_option linter.unusedSimpArgs false

/-- The library's own errors lie where they lie. -/
def Errs (w : World) : Prop := ∃ e1 e2, 3 ≤ w.heap.size ∧ w.cell? ⟨1, 0, none⟩ = some e1 ∧ w.cell? ⟨2, 0, none⟩ = some e2 ∧ (e1 = .nilIface ∨ ∃ te pe, e1 = .iface te pe) ∧ (e2 = .nilIface ∨ ∃ te pe, e2 = .iface te pe)
theorem Errs.below {B : Nat} {w w' : World} (h : Errs w) (hb : Below w.heap.size w w') : Errs w' := by
  obtain ⟨e1, e2, h0, h1, h2, h3, h4⟩ := h
  exact ⟨e1, e2, Nat.le_trans h0 hb.size, (hb.cell (p := ⟨1, 0, none⟩) (by show 1 < _; omega)).trans h1, (hb.cell (p := ⟨2, 0, none⟩) (by show 2 < _; omega)).trans h2, h3, h4⟩
theorem atoi_is (s : ByteArray) (hs : s.size ≤ 100000) (w : World) (he : Errs w) : Calls Tryd.prog 43 #[.string s] w fun e w' => ∃ r, e = .returned (.tuple #[.int .i64 (atoiV s.data.toList), r]) ∧ Below w.heap.size w w' := by
  obtain ⟨e1, e2, _, h1, h2, h3, h4⟩ := he
  exact Tryd.strconv_Atoi_any s (by omega) e1 e2 w h1 h3 h2 h4
theorem strL_data (l : List UInt8) : (strL l).data.toList = l := by simp [strL]
/-- Words in memory. -/
def WordsAt (w : World) (g : Nat) (ws : List (List UInt8)) : Prop := g < w.heap.size ∧ ∀ i (hi : i < ws.length), w.cell? ⟨g, i, none⟩ = some (.string (strL (ws[i]'hi)))
theorem WordsAt.below {w w' : World} {g : Nat} {ws : List (List UInt8)} (h : WordsAt w g ws) (hb : Below w.heap.size w w') : WordsAt w' g ws :=
  ⟨Nat.lt_of_lt_of_le h.1 hb.size, fun i hi => (hb.cell (p := ⟨g, i, none⟩) h.1).trans (h.2 i hi)⟩
/-- The number of a word; 0 where there is none. -/
def zW (ws : List (List UInt8)) (i : Nat) : Int := if h : i < ws.length then atoiV (ws[i]'h) else 0
theorem zW_bd (ws : List (List UInt8)) (i : Nat) : -9223372036854775808 ≤ zW ws i ∧ zW ws i ≤ 9223372036854775807 := by
  unfold zW
  split
  · exact atoiV_bd _
  · exact ⟨by decide, by decide⟩
set_option maxRecDepth 100000 in
set_option maxHeartbeats 1000000 in
theorem number_fn (bx gw : Nat) (ws : List (List UInt8)) (i : Nat) (hi9 : i < 1000000) (w : World) (hbx : w.cell? ⟨bx, 0, none⟩ = some (.slice (some ⟨gw, 0, none⟩) ws.length ws.length)) (hw : WordsAt w gw ws) (hs : ∀ j (hj : j < ws.length), (ws[j]'hj).length ≤ 100000) (he : Errs w) :
    Calls Tryd.prog 42 #[.int .i64 (i : Int), .pointer (some ⟨bx, 0, none⟩)] w fun e w' => e = .returned (.int .i64 (zW ws i)) ∧ Below w.heap.size w w' := by
  by_cases h : i < ws.length
  · have e : zW ws i = atoiV (ws[i]'h) := by unfold zW; rw [dif_pos h]
    have A1 := atoi_is (strL (ws[i]'h)) (by rw [strL_size]; exact hs i h) w he
    rw [strL_data] at A1
    have hc := hw.2 i h
    rw [e]
    clear e hw hs
    generalize ws[i]'h = s at A1 hc ⊢
    have h1 : (i : Int) < (ws.length : Int) := by omega
    clear h
    generalize ws.length = n at *
    go_enter Tryd.func42, Tryd.ntmps42
    go_wp2_with (go_at_call 43; refine A1.mono ?_; rintro e2 w2 ⟨r, rfl, hb2⟩)
    go_ret
    exact ⟨rfl, hb2⟩
  · have e : zW ws i = 0 := by unfold zW; rw [dif_neg h]
    rw [e]
    have h1 : ¬ (i : Int) < (ws.length : Int) := by omega
    clear e hw hs h
    generalize ws.length = n at *
    go_enter Tryd.func42, Tryd.ntmps42
    go_wp2
    go_ret
    exact ⟨rfl, Below.refl _ _⟩

/-- The table of shapes, its entries stamped. -/
def MapS (w : World) (m : Nat) (kd : IntKind) (L : List (Int × Value)) : Prop :=
  ∃ es clock, w.heap[m]? = some (.map es clock) ∧ es.toList.map (fun e => (e.key, e.val)) = L.map (fun p => (Value.int kd p.1, p.2)) ∧ (∀ x ∈ es.toList, x.born < clock) ∧ (es.toList.map (·.born)).Nodup
theorem MapS.at_ {w : World} {m : Nat} {kd : IntKind} {L : List (Int × Value)} (h : MapS w m kd L) : MapAt w m kd L := by
  obtain ⟨es, c, h1, h2, _⟩ := h
  exact ⟨es, c, h1, h2⟩
theorem MapS.new (w : World) (kd : IntKind) : MapS (w.alloc (.map #[] 0)) w.heap.size kd [] := ⟨#[], 0, heap_alloc_new w _, rfl, (fun x h => by simp at h), by simp⟩
section
variable {P : Program} {t key elem : TypeId} {kd : IntKind}
theorem run_insert_S (ht : P.underlying t = some (.map key elem)) (hk : P.underlying key = some (.int kd)) {w : World} {m : Nat} {L : List (Int × Value)} (h : MapS w m kd L) (k : Int) (v : Value) (hl : look L k = none) :
    ∃ w', (Instr.mapUpdate t (.map (some m)) (.int kd k) v).run P w = .ok () w' ∧ MapS w' m kd (L ++ [(k, v)]) ∧ w.grownBy w' (some m) := by
  obtain ⟨es, c, h1, h2, h3, h4⟩ := h
  obtain ⟨j, hj⟩ := findNow_int (kd := kd) k es.toList L 0 h2
  have hm : m < w.heap.size := (Array.getElem?_eq_some_iff.1 h1).1
  rw [hl] at hj
  have hrun : (Instr.mapUpdate t (.map (some m)) (.int kd k) v).run P w = .ok () { w with heap := w.heap.setIfInBounds m (.map (es.push { key := .int kd k, val := v, born := c }) (c + 1)) } := by
    simp only [Instr.mapUpdate, Sem.run_bind, run_underlying ht, Result.andThen_ok, getObj, setObj, Sem.run, h1, run_checkKey_int _ 9999 hk, Instr.findKey, run_underlying hk, hj, Option.map_none, Sem.run_pure, Result.andThen_ok]
  refine ⟨_, hrun, ⟨es.push { key := .int kd k, val := v, born := c }, c + 1, ?_, ?_, ?_, ?_⟩, ⟨rfl, rfl, rfl, by simp, fun q hq hne => ?_⟩⟩
  · simp [hm]
  · simp [h2]
  · intro x hx
    simp only [Array.toList_push, List.mem_append, List.mem_singleton] at hx
    rcases hx with hx | rfl
    · have := h3 x hx; omega
    · exact Nat.lt_succ_self c
  · rw [Array.toList_push, List.map_append, List.nodup_append]
    refine ⟨h4, by simp, fun a ha b hb => ?_⟩
    simp only [List.map_cons, List.map_nil, List.mem_singleton] at hb
    subst hb
    obtain ⟨x, hx, rfl⟩ := List.mem_map.1 ha
    have := h3 x hx
    omega
  · have hqm : m ≠ q := fun e => hne (by rw [e])
    simp [hqm]
theorem wp_insert_S {o : Oper} {a : Act} {w : World} {K : Act → World → Prop} {Q : Exit → Act → World → Prop} (ht : P.underlying t = some (.map key elem)) (hk : P.underlying key = some (.int kd)) (mo xo vo : Operand) (ho : o.op = .insert t mo xo vo)
    {m : Nat} {L : List (Int × Value)} (hm : a.eval mo = .map (some m)) {k : Int} (hx : a.eval xo = .int kd k) {v : Value} (hv : a.eval vo = v) (h : MapS w m kd L) (hl : look L k = none)
    (hK : ∀ w', MapS w' m kd (L ++ [(k, v)]) → w.grownBy w' (some m) → K (a.put o.dst undef) w') : o.wp P a w K Q := by
  obtain ⟨w', hrun, h1, h2⟩ := run_insert_S ht hk h k v hl
  unfold Oper.wp execOp
  simp only [ho, Sem.run_bind, hm, hx, hv, hrun, Result.andThen_ok]
  exact hK w' h1 h2
end
set_option maxRecDepth 100000 in
set_option maxHeartbeats 4000000 in
theorem shapes_st (w : World) : Calls Tryd.prog 35 #[] w fun e w' => ∃ m, e = .returned (.map (some m)) ∧ MapS w' m .u8 shapeL ∧ w.heap.size ≤ m ∧ Below w.heap.size w w' := by
  have hmm := @run_makeMap Tryd.prog
  have B := (Below.refl w.heap.size w).alloc (Nat.le_refl _) (.map #[] 0)
  go_enter Tryd.func35, Tryd.ntmps35
  go_wp2_with (first
    | (refine wpList_plain rfl fun K hK => ?_; refine wp_insert_S Tryd.underlying73 Tryd.underlying24 (.tmp 1) _ (.tmp 2) rfl (m := w.heap.size) rfl rfl rfl (MapS.new w .u8) (by rfl) ?_; intro w1 T1 G1; refine hK _ _ ?_)
    | (refine wpList_plain rfl fun K hK => ?_; refine wp_insert_S Tryd.underlying73 Tryd.underlying24 (.tmp 1) _ (.tmp 3) rfl (m := w.heap.size) rfl rfl rfl T1 (by rfl) ?_; intro w2 T2 G2; refine hK _ _ ?_)
    | (refine wpList_plain rfl fun K hK => ?_; refine wp_insert_S Tryd.underlying73 Tryd.underlying24 (.tmp 1) _ (.tmp 4) rfl (m := w.heap.size) rfl rfl rfl T2 (by rfl) ?_; intro w3 T3 G3; refine hK _ _ ?_)
    | (refine wpList_plain rfl fun K hK => ?_; refine wp_insert_S Tryd.underlying73 Tryd.underlying24 (.tmp 1) _ (.tmp 5) rfl (m := w.heap.size) rfl rfl rfl T3 (by rfl) ?_; intro w4 T4 G4; refine hK _ _ ?_)
    | (refine wpList_plain rfl fun K hK => ?_; refine wp_insert_S Tryd.underlying73 Tryd.underlying24 (.tmp 1) _ (.tmp 6) rfl (m := w.heap.size) rfl rfl rfl T4 (by rfl) ?_; intro w5 T5 G5; refine hK _ _ ?_)
    | (refine wpList_plain rfl fun K hK => ?_; refine wp_insert_S Tryd.underlying73 Tryd.underlying24 (.tmp 1) _ (.tmp 7) rfl (m := w.heap.size) rfl rfl rfl T5 (by rfl) ?_; intro w6 T6 G6; refine hK _ _ ?_)
    | (refine wpList_plain rfl fun K hK => ?_; refine wp_insert_S Tryd.underlying73 Tryd.underlying24 (.tmp 1) _ (.tmp 8) rfl (m := w.heap.size) rfl rfl rfl T6 (by rfl) ?_; intro w7 T7 G7; refine hK _ _ ?_)
    | (refine wpList_plain rfl fun K hK => ?_; refine wp_insert_S Tryd.underlying73 Tryd.underlying24 (.tmp 1) _ (.tmp 9) rfl (m := w.heap.size) rfl rfl rfl T7 (by rfl) ?_; intro w8 T8 G8; refine hK _ _ ?_))
  have B := B.grown G1 B.size (fun j e => by cases e; exact Nat.le_refl _)
  have B := B.grown G2 B.size (fun j e => by cases e; exact Nat.le_refl _)
  have B := B.grown G3 B.size (fun j e => by cases e; exact Nat.le_refl _)
  have B := B.grown G4 B.size (fun j e => by cases e; exact Nat.le_refl _)
  have B := B.grown G5 B.size (fun j e => by cases e; exact Nat.le_refl _)
  have B := B.grown G6 B.size (fun j e => by cases e; exact Nat.le_refl _)
  have B := B.grown G7 B.size (fun j e => by cases e; exact Nat.le_refl _)
  have B := B.grown G8 B.size (fun j e => by cases e; exact Nat.le_refl _)
  go_ret
  exact ⟨_, rfl, T8, Nat.le_refl _, B⟩

end Go.Proofs.YtnbkpminecoddaaDoor
