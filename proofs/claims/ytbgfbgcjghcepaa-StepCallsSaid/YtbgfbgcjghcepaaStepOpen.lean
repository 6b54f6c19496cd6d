/- Arguments opened: a goroutine; a row of bytes. -/
import Derived.Test.YtbgfbgcjghcepaaStepEq
import Derived.OpenShut
import Derived.ChangeSame
import Derived.ProofKit
namespace Go.Proofs.Ytbgfbgcjghcepaa
open Go.RowKit Go.ChangeShapes Go.WideShapes
set_option linter.unusedVariables false
set_option linter.unusedSimpArgs false

section
variable {H : Type} {enc : TypeId × Value → H} {P : Program} {w : World} {base : Nat} {spare : Nat → Bool} {held : Bool} {n : Nat}

theorem cell_int {t : TypeId} {k : IntKind} {cs : List Value} {o : Nat} {y : DataW H × List MemPlace} (hu : P.underlying t = some (.int k)) (hc : P.cellsOf t = 1) (ho : o < cs.length)
    (h : DataW.trod enc P w base spare held n t ((cs.drop o).take (P.cellsOf t)) = some y) : ∃ m, cs[o]? = some (.int k m) ∧ (Lit.int k m).wf = true := by
  rw [hc, List.drop_eq_getElem_cons ho] at h
  simp only [List.take_succ_cons, List.take_zero] at h
  obtain ⟨m, e, _, hw⟩ := DataW.trod_int hu h
  injection e with e
  exact ⟨m, by rw [List.getElem?_eq_getElem ho, e], hw⟩
theorem cell_bool {t : TypeId} {cs : List Value} {o : Nat} {y : DataW H × List MemPlace} (hu : P.underlying t = some .bool) (hc : P.cellsOf t = 1) (ho : o < cs.length)
    (h : DataW.trod enc P w base spare held n t ((cs.drop o).take (P.cellsOf t)) = some y) : ∃ b, cs[o]? = some (.bool b) := by
  rw [hc, List.drop_eq_getElem_cons ho] at h
  simp only [List.take_succ_cons, List.take_zero] at h
  obtain ⟨m, e, _⟩ := DataW.trod_bool hu h
  injection e with e
  exact ⟨m, by rw [List.getElem?_eq_getElem ho, e]⟩
end

section
variable {H : Type} {enc : TypeId × Value → H} {w : World} {base : Nat} {spare : Nat → Bool} {held : Bool} {n : Nat}
theorem nG : Try.prog.cellsOf 30 = 19 := by kernel_rfl
theorem nInt : Try.prog.cellsOf 3 = 1 := by kernel_rfl
theorem nU8 : Try.prog.cellsOf 5 = 1 := by kernel_rfl
theorem nState : Try.prog.cellsOf 23 = 1 := by kernel_rfl
theorem nErr : Try.prog.cellsOf 28 = 1 := by kernel_rfl
theorem nBool : Try.prog.cellsOf 4 = 1 := by kernel_rfl

theorem cells_ref {cs : List Value} {o : Nat} {y : DataW H × List MemPlace} (ho : o + 1 < cs.length) (h : DataW.trod enc Try.prog w base spare held n 26 ((cs.drop o).take (Try.prog.cellsOf 26)) = some y) :
    ∃ a b, cs[o]? = some (.int .i64 a) ∧ cs[o + 1]? = some (.int .u64 b) := by
  rw [nRef] at h
  obtain ⟨xs, m, _, _, _, hxl, hf⟩ := DataW.trod_struct uRef h
  have hl : ((cs.drop o).take 2).length = 2 := by simp; omega
  have e0 : (Try.prog.fieldsOf 26)[0]? = some ⟨"Index", 3, 0, false, "", "", 0⟩ := by rw [← Array.getElem?_toList, ftRef]; rfl
  have e1 : (Try.prog.fieldsOf 26)[1]? = some ⟨"Gen", 24, 1, false, "", "", 8⟩ := by rw [← Array.getElem?_toList, ftRef]; rfl
  have hs : xs.length = 2 := by rw [hxl, ← Array.length_toList, ftRef]; rfl
  have h0 := hf 0 _ e0
  have h1 := hf 1 _ e1
  simp only at h0 h1
  rw [List.getElem?_eq_getElem (by omega)] at h0 h1
  obtain ⟨a, ha, _⟩ := cell_int (P := Try.prog) (o := 0) uInt nInt (by omega) h0
  obtain ⟨b, hb, _⟩ := cell_int (P := Try.prog) (o := 1) uU64 nU64 (by omega) h1
  refine ⟨a, b, ?_, ?_⟩
  · rw [List.getElem?_take_of_lt (by omega), List.getElem?_drop] at ha
    exact ha
  · rw [List.getElem?_take_of_lt (by omega), List.getElem?_drop] at hb
    exact hb

theorem cells_regs {cs : List Value} {o : Nat} {y : DataW H × List MemPlace} (ho : o + 8 ≤ cs.length) (h : DataW.trod enc Try.prog w base spare held n 27 ((cs.drop o).take (Try.prog.cellsOf 27)) = some y) :
    ∃ r : Nat → Nat, ∀ i, i < 8 → cs[o + i]? = some (.int .u64 (r i)) ∧ r i < M64 := by
  rw [nA8] at h
  obtain ⟨xs, m, _, _, _, hxl, hf⟩ := DataW.trod_array uA8 h
  have hl : ((cs.drop o).take 8).length = 8 := by simp; omega
  have H8 : ∀ i, i < 8 → ∃ z : Int, cs[o + i]? = some (.int .u64 z) ∧ (Lit.int .u64 z).wf = true := fun i hi => by
    have h0 := hf i hi
    rw [List.getElem?_eq_getElem (by omega), nU64, Nat.mul_one] at h0
    obtain ⟨z, hz, hw⟩ := cell_int (P := Try.prog) (cs := (cs.drop o).take 8) (o := i) uU64 nU64 (by omega) (by rw [nU64]; exact h0)
    refine ⟨z, ?_, hw⟩
    rw [List.getElem?_take_of_lt (by omega), List.getElem?_drop] at hz
    exact hz
  refine ⟨fun i => (intOf (cs.getD (o + i) (.int .u64 0))).toNat, fun i hi => ?_⟩
  obtain ⟨z, hz, hw⟩ := H8 i hi
  have hb := bounds_u64 hw
  have e : cs.getD (o + i) (.int .u64 0) = .int .u64 z := by rw [List.getD_eq_getElem?_getD, hz]; rfl
  show cs[o + i]? = some (Value.int .u64 (((intOf (cs.getD (o + i) (.int .u64 0))).toNat : Nat) : Int)) ∧ (intOf (cs.getD (o + i) (.int .u64 0))).toNat < M64
  rw [e]
  refine ⟨?_, ?_⟩
  · rw [hz]
    show some (Value.int .u64 z) = some (Value.int .u64 ((z.toNat : Nat) : Int))
    rw [Int.toNat_of_nonneg (by omega)]
  · show z.toNat < M64
    unfold M64
    omega

theorem open_g {r : Reach} {b0 : Nat} {v : Value} {d : DataW H} {p : List MemPlace} (hv : Value.okWide Try.prog w r b0 30 v) (h : DataW.Trod enc Try.prog w base spare held 30 v d p) :
    ∃ g : Gr, v = .agg g.c ∧ g.Ok := by
  obtain ⟨cs, rfl, hsz⟩ := okWide_struct uG hv
  rw [nG] at hsz
  obtain ⟨fuel, hf⟩ := h
  obtain ⟨xs, m, _, hx, _, hxl, hfl⟩ := DataW.trod_struct uG hf
  simp only [Value.cells] at hfl
  have hs : xs.length = 10 := by rw [hxl, ← Array.length_toList, ftG]; rfl
  have hl : cs.toList.length = 19 := by rw [Array.length_toList]; exact hsz
  have F : ∀ (i : Nat) (f : Field), (Try.prog.fieldsOf 30).toList[i]? = some f → ∃ y, DataW.trod enc Try.prog w base spare held m f.type ((cs.toList.drop f.offset).take (Try.prog.cellsOf f.type)) = some y := fun i f hi => by
    rw [Array.getElem?_toList] at hi
    have h0 := hfl i f hi
    have hi' : i < xs.length := by rw [hxl]; exact (Array.getElem?_eq_some_iff.1 hi).1
    rw [List.getElem?_eq_getElem hi'] at h0
    exact ⟨_, h0⟩
  rw [ftG] at F
  obtain ⟨_, q0⟩ := F 0 _ rfl
  obtain ⟨_, q1⟩ := F 1 _ rfl
  obtain ⟨_, q2⟩ := F 2 _ rfl
  obtain ⟨_, q3⟩ := F 3 _ rfl
  obtain ⟨_, q4⟩ := F 4 _ rfl
  obtain ⟨_, q5⟩ := F 5 _ rfl
  obtain ⟨_, q6⟩ := F 6 _ rfl
  obtain ⟨_, q7⟩ := F 7 _ rfl
  obtain ⟨_, q8⟩ := F 8 _ rfl
  obtain ⟨_, q9⟩ := F 9 _ rfl
  simp only at q0 q1 q2 q3 q4 q5 q6 q7 q8 q9
  obtain ⟨st, c0, _⟩ := cell_int (P := Try.prog) uState nState (by omega) q0
  obtain ⟨sus, c1⟩ := cell_bool (P := Try.prog) uBool nBool (by omega) q1
  obtain ⟨di, dg, c2, c3⟩ := cells_ref (by omega) q2
  obtain ⟨ci, cg, c4, c5⟩ := cells_ref (by omega) q3
  obtain ⟨aff, c6, _⟩ := cell_int (P := Try.prog) uU8 nU8 (by omega) q4
  obtain ⟨prg, c7, _⟩ := cell_int (P := Try.prog) uInt nInt (by omega) q5
  obtain ⟨pc, c8, _⟩ := cell_int (P := Try.prog) uInt nInt (by omega) q6
  obtain ⟨rg, c9⟩ := cells_regs (by omega) q7
  obtain ⟨code, c17, _⟩ := cell_int (P := Try.prog) uErr nErr (by omega) q8
  obtain ⟨til, c18, _⟩ := cell_int (P := Try.prog) uU64 nU64 (by omega) q9
  refine ⟨⟨st, sus, di, dg, ci, cg, aff, prg, pc, fun i => if i < 8 then rg i else 0, code, til⟩, ?_, fun i => ?_⟩
  · congr 1
    apply Array.ext_getElem?
    intro i
    rw [← Array.getElem?_toList]
    obtain rfl | rfl | rfl | rfl | rfl | rfl | rfl | rfl | rfl | ⟨j, hj, rfl⟩ | rfl | rfl | hi : i = 0 ∨ i = 1 ∨ i = 2 ∨ i = 3 ∨ i = 4 ∨ i = 5 ∨ i = 6 ∨ i = 7 ∨ i = 8 ∨ (∃ j, j < 8 ∧ i = 9 + j) ∨ i = 17 ∨ i = 18 ∨ 19 ≤ i := by
      by_cases h9 : 9 ≤ i ∧ i < 17
      · exact .inr (.inr (.inr (.inr (.inr (.inr (.inr (.inr (.inr (.inl ⟨i - 9, by omega, by omega⟩)))))))))
      · omega
    · exact c0
    · exact c1
    · exact c2
    · exact c3
    · exact c4
    · exact c5
    · exact c6
    · exact c7
    · exact c8
    · rw [Gr.reg _ j hj]
      show _ = some (Value.int .u64 (((if j < 8 then rg j else 0 : Nat)) : Int))
      rw [if_pos hj]
      exact (c9 j hj).1
    · exact c17
    · exact c18
    · rw [List.getElem?_eq_none (by omega), Array.getElem?_eq_none (by rw [Gr.c_size]; exact hi)]
  · show (if i < 8 then rg i else 0) < M64
    split
    · exact (c9 i ‹_›).2
    · unfold M64; omega

/-- All registers. -/
theorem open_regs {r : Reach} {b0 : Nat} {v : Value} {d : DataW H} {p : List MemPlace} (hv : Value.okWide Try.prog w r b0 27 v) (h : DataW.Trod enc Try.prog w base spare held 27 v d p) :
    ∃ rg : Nat → Nat, v = .agg #[.int .u64 (rg 0), .int .u64 (rg 1), .int .u64 (rg 2), .int .u64 (rg 3), .int .u64 (rg 4), .int .u64 (rg 5), .int .u64 (rg 6), .int .u64 (rg 7)] ∧ ∀ i, rg i < M64 := by
  simp only [Value.okWide, uA8] at hv
  obtain ⟨cs, rfl, hsz, _⟩ := hv
  rw [nA8] at hsz
  obtain ⟨fuel, hf⟩ := h
  simp only [Value.cells] at hf
  have hl : cs.toList.length = 8 := by rw [Array.length_toList]; exact hsz
  obtain ⟨rg, hrg⟩ := cells_regs (cs := cs.toList) (o := 0) (by omega) (by rw [nA8, List.drop_zero, List.take_of_length_le (by omega)]; exact hf)
  refine ⟨fun i => if i < 8 then rg i else 0, ?_, fun i => ?_⟩
  · congr 1
    apply Array.ext_getElem?
    intro i
    rw [← Array.getElem?_toList]
    by_cases hi : i < 8
    · have h0 := (hrg i hi).1
      rw [Nat.zero_add] at h0
      rw [h0]
      rcases i with _ | _ | _ | _ | _ | _ | _ | _ | i
      all_goals first | rfl | omega
    · rw [List.getElem?_eq_none (by omega), Array.getElem?_eq_none (by simp; omega)]
  · show (if i < 8 then rg i else 0) < M64
    split
    · exact (hrg i ‹_›).2
    · unfold M64; omega

/-- A row of bytes. -/
theorem open_bytes {r : Reach} {b0 : Nat} {v : Value} {d : DataW H} {p : List MemPlace} (hv : Value.okWide Try.prog w r b0 22 v) (h : DataW.Trod enc Try.prog w 0 (fun _ => true) true 22 v d p) :
    ∃ (A : Option Addr) (m cap : Nat) (D : Nat → Int), v = .slice A m cap ∧ (m < 1000000000 → CodeAt w (.slice A m cap) m D) := by
  obtain ⟨a1, len, cap, rfl⟩ := okWide_slice Try.underlying22 hv
  obtain ⟨fuel, hf⟩ := h
  rcases open_ints Try.underlying22 Try.underlying5 nU8 hf with ⟨hcs, hx⟩ | ⟨a, len', cap', zs, hcs, _, hl, hm, hz, hx, hcell, hwz⟩
  · simp [Value.cells] at hcs
    obtain ⟨rfl, rfl, rfl⟩ := hcs
    exact ⟨none, 0, 0, fun _ => 0, rfl, fun h => ⟨h, fun _ => by simp, _, _, rfl, Nat.le_refl _, fun h => absurd h (by omega)⟩⟩
  · simp [Value.cells] at hcs
    obtain ⟨rfl, rfl, rfl⟩ := hcs
    simp only [if_true] at hz
    have hb : ∀ i, 0 ≤ zs.getD i 0 := fun i => by
      have := range_u8 hwz i
      rw [List.getD_eq_getElem?_getD]
      omega
    refine ⟨_, _, _, fun i => zs.getD i 0, rfl, fun hlt => ⟨hlt, hb, _, _, rfl, hl, fun hpos => ?_⟩⟩
    obtain ⟨ab, ao, spot⟩ := a
    have hc0 := hcell 0 (by omega)
    have hspot : spot = none := by simpa [Addr.add] using World.cell?_spot hc0
    subst hspot
    rw [Addr.add_lit] at hc0
    refine ⟨ab, ao, rfl, World.block_lt_of_cell? w _ hc0, fun i hi => ?_⟩
    have hci := hcell i (by omega)
    rw [Addr.add_lit] at hci
    exact hci
end
end Go.Proofs.Ytbgfbgcjghcepaa
