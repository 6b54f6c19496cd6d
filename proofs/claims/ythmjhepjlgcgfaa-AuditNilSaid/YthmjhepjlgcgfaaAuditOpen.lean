/- An argument that is a slice of records, opened: its records lie in memory one behind the other. -/
import Derived.Test.YthmjhepjlgcgfaaAuditKnown
import Derived.OpenShut
import Derived.Deep.Slices
import Derived.Deep.Fields
import Derived.ChangeSame
namespace Go.Proofs.Ythmjhepjlgcgfaa
open Go.RowKit Go.ChangeShapes Go.WideShapes Go.Deep
set_option linter.unusedVariables false
set_option linter.unusedSimpArgs false

section
variable {H : Type} {enc : TypeId × Value → H} {w : World} {base : Nat} {spare : Nat → Bool} {held : Bool}

theorem fld42 {i : Nat} {f : Field} (h : [(⟨"Seq", 34, 0, false, "", "", 0⟩ : Field), ⟨"Time", 34, 1, false, "", "", 8⟩, ⟨"G", 36, 2, false, "", "", 16⟩, ⟨"P", 3, 4, false, "", "", 32⟩, ⟨"Call", 40, 5, false, "", "", 40⟩, ⟨"Code", 26, 11, false, "", "", 88⟩][i]? = some f) : (Try.prog.fieldsOf 42)[i]? = some f := by
  rw [← Array.getElem?_toList, ft42]; exact h
theorem fld36 {i : Nat} {f : Field} (h : [(⟨"Index", 3, 0, false, "", "", 0⟩ : Field), ⟨"Gen", 34, 1, false, "", "", 8⟩][i]? = some f) : (Try.prog.fieldsOf 36)[i]? = some f := by
  rw [← Array.getElem?_toList, ft36]; exact h
theorem fld40 {i : Nat} {f : Field} (h : [(⟨"Kind", 37, 0, false, "", "", 0⟩ : Field), ⟨"Args", 38, 1, false, "", "", 8⟩][i]? = some f) : (Try.prog.fieldsOf 40)[i]? = some f := by
  rw [← Array.getElem?_toList, ft40]; exact h
theorem cc42 : Try.prog.cellsOf 42 = 12 := by kernel_rfl
theorem cc3 : Try.prog.cellsOf 3 = 1 := by kernel_rfl
theorem cc26 : Try.prog.cellsOf 26 = 1 := by kernel_rfl
theorem cc37 : Try.prog.cellsOf 37 = 1 := by kernel_rfl

theorem at_some {xs : List (DataW H × List MemPlace)} {n i : Nat} (h : xs.length = n) (hi : i < n) : ∃ y, xs[i]? = some y := ⟨xs[i]'(by omega), List.getElem?_eq_getElem (by omega)⟩

theorem int_at {t : TypeId} {k : IntKind} {fuel : Nat} {c : Value} {y : DataW H × List MemPlace} (ht : Try.prog.underlying t = some (.int k)) (h : DataW.trod enc Try.prog w base spare held fuel t [c] = some y) : ∃ n, c = .int k n := by
  obtain ⟨n, e, _⟩ := DataW.trod_int ht h
  exact ⟨n, by injection e⟩

theorem ref_of {fuel : Nat} {c0 c1 : Value} {y : DataW H × List MemPlace} (h : DataW.trod enc Try.prog w base spare held fuel 36 [c0, c1] = some y) : ∃ a b, c0 = .int .i64 a ∧ c1 = .int .u64 b := by
  obtain ⟨xs, n, _, _, _, hx, hf⟩ := DataW.trod_struct u36 h
  have hx' : xs.length = 2 := by rw [hx, ← Array.length_toList, ft36]; rfl
  have f0 := hf 0 _ (fld36 rfl)
  have f1 := hf 1 _ (fld36 rfl)
  obtain ⟨y0, e0⟩ := at_some hx' (show 0 < 2 by omega)
  obtain ⟨y1, e1⟩ := at_some hx' (show 1 < 2 by omega)
  rw [e0] at f0
  rw [e1] at f1
  simp only [cc3, c34, List.drop_zero, List.drop_succ_cons, List.take_succ_cons, List.take_zero] at f0 f1
  obtain ⟨a, rfl⟩ := int_at u3 f0
  obtain ⟨b, rfl⟩ := int_at u34 f1
  exact ⟨a, b, rfl, rfl⟩

theorem args_of {fuel : Nat} {c0 c1 c2 c3 c4 : Value} {y : DataW H × List MemPlace} (h : DataW.trod enc Try.prog w base spare held fuel 38 [c0, c1, c2, c3, c4] = some y) : ∃ a0 a1 a2 a3 a4, c0 = .int .u64 a0 ∧ c1 = .int .u64 a1 ∧ c2 = .int .u64 a2 ∧ c3 = .int .u64 a3 ∧ c4 = .int .u64 a4 := by
  obtain ⟨xs, n, _, _, _, hx, hf⟩ := DataW.trod_array u38 h
  have f0 := hf 0 (by omega)
  have f1 := hf 1 (by omega)
  have f2 := hf 2 (by omega)
  have f3 := hf 3 (by omega)
  have f4 := hf 4 (by omega)
  obtain ⟨y0, e0⟩ := at_some hx (show 0 < 5 by omega)
  obtain ⟨y1, e1⟩ := at_some hx (show 1 < 5 by omega)
  obtain ⟨y2, e2⟩ := at_some hx (show 2 < 5 by omega)
  obtain ⟨y3, e3⟩ := at_some hx (show 3 < 5 by omega)
  obtain ⟨y4, e4⟩ := at_some hx (show 4 < 5 by omega)
  rw [e0] at f0
  rw [e1] at f1
  rw [e2] at f2
  rw [e3] at f3
  rw [e4] at f4
  simp only [c34, Nat.zero_mul, Nat.one_mul, Nat.mul_one, List.drop_zero, List.drop_succ_cons, List.take_succ_cons, List.take_zero] at f0 f1 f2 f3 f4
  obtain ⟨a0, rfl⟩ := int_at u34 f0
  obtain ⟨a1, rfl⟩ := int_at u34 f1
  obtain ⟨a2, rfl⟩ := int_at u34 f2
  obtain ⟨a3, rfl⟩ := int_at u34 f3
  obtain ⟨a4, rfl⟩ := int_at u34 f4
  exact ⟨a0, a1, a2, a3, a4, rfl, rfl, rfl, rfl, rfl⟩

theorem call_of {fuel : Nat} {c c0 c1 c2 c3 c4 : Value} {y : DataW H × List MemPlace} (h : DataW.trod enc Try.prog w base spare held fuel 40 [c, c0, c1, c2, c3, c4] = some y) : ∃ k a0 a1 a2 a3 a4, c = .int .i64 k ∧ c0 = .int .u64 a0 ∧ c1 = .int .u64 a1 ∧ c2 = .int .u64 a2 ∧ c3 = .int .u64 a3 ∧ c4 = .int .u64 a4 := by
  obtain ⟨xs, n, _, _, _, hx, hf⟩ := DataW.trod_struct u40 h
  have hx' : xs.length = 2 := by rw [hx, ← Array.length_toList, ft40]; rfl
  have f0 := hf 0 _ (fld40 rfl)
  have f1 := hf 1 _ (fld40 rfl)
  obtain ⟨y0, e0⟩ := at_some hx' (show 0 < 2 by omega)
  obtain ⟨y1, e1⟩ := at_some hx' (show 1 < 2 by omega)
  rw [e0] at f0
  rw [e1] at f1
  simp only [cc37, c38, List.drop_zero, List.drop_succ_cons, List.take_succ_cons, List.take_zero] at f0 f1
  obtain ⟨k, rfl⟩ := int_at u37 f0
  obtain ⟨a0, a1, a2, a3, a4, rfl, rfl, rfl, rfl, rfl⟩ := args_of f1
  exact ⟨k, a0, a1, a2, a3, a4, rfl, rfl, rfl, rfl, rfl, rfl⟩

theorem rec_of {fuel : Nat} {cs : List Value} {y : DataW H × List MemPlace} (h : DataW.trod enc Try.prog w base spare held fuel 42 cs = some y) : ∃ r : Rec, cs = r.vs := by
  obtain ⟨xs, n, _, _, hl, hx, hf⟩ := DataW.trod_struct u42 h
  rw [cc42] at hl
  have hx' : xs.length = 6 := by rw [hx, ← Array.length_toList, ft42]; rfl
  match cs, hl with
  | [c0, c1, c2, c3, c4, c5, c6, c7, c8, c9, c10, c11], _ =>
    have f0 := hf 0 _ (fld42 rfl)
    have f1 := hf 1 _ (fld42 rfl)
    have f2 := hf 2 _ (fld42 rfl)
    have f3 := hf 3 _ (fld42 rfl)
    have f4 := hf 4 _ (fld42 rfl)
    have f5 := hf 5 _ (fld42 rfl)
    obtain ⟨y0, e0⟩ := at_some hx' (show 0 < 6 by omega)
    obtain ⟨y1, e1⟩ := at_some hx' (show 1 < 6 by omega)
    obtain ⟨y2, e2⟩ := at_some hx' (show 2 < 6 by omega)
    obtain ⟨y3, e3⟩ := at_some hx' (show 3 < 6 by omega)
    obtain ⟨y4, e4⟩ := at_some hx' (show 4 < 6 by omega)
    obtain ⟨y5, e5⟩ := at_some hx' (show 5 < 6 by omega)
    rw [e0] at f0
    rw [e1] at f1
    rw [e2] at f2
    rw [e3] at f3
    rw [e4] at f4
    rw [e5] at f5
    simp only [c34, c36, cc3, c40, cc26, List.drop_zero, List.drop_succ_cons, List.take_succ_cons, List.take_zero] at f0 f1 f2 f3 f4 f5
    obtain ⟨z0, rfl⟩ := int_at u34 f0
    obtain ⟨z1, rfl⟩ := int_at u34 f1
    obtain ⟨z2, z3, rfl, rfl⟩ := ref_of f2
    obtain ⟨z4, rfl⟩ := int_at u3 f3
    obtain ⟨z5, z6, z7, z8, z9, z10, rfl, rfl, rfl, rfl, rfl, rfl⟩ := call_of f4
    obtain ⟨z11, rfl⟩ := int_at u26 f5
    exact ⟨⟨z0, z1, z2, z3, z4, z5, z6, z7, z8, z9, z10, z11⟩, rfl⟩

theorem open_recs {fuel : Nat} {cs : List Value} {x : DataW H × List MemPlace} (h : DataW.trod enc Try.prog w base spare held fuel 22 cs = some x) :
    ∃ (A : Option Addr) (l : List Rec) (cap : Nat), cs = [.slice A l.length cap] ∧ RowAt w w.heap.size A l ∧ l.length < 2 ^ 63 ∧ l.length ≤ cap := by
  rcases open_slice Try.underlying22 h with ⟨rfl, _⟩ | ⟨a, len, cap, m, n, D, Pl, rfl, hb, hl, hm, hmm, _, hi⟩
  · exact ⟨none, [], 0, rfl, fun e => absurd rfl e, by simp, by simp⟩
  · have hlm : len ≤ m := by rw [hmm]; split <;> omega
    have hrec : ∀ i, i < len → ∃ r : Rec, ∀ j, j < 12 → w.cell? ((a.add (i * 12)).add j) = r.vs[j]? := by
      intro i hil
      obtain ⟨cs', hc, ht⟩ := hi i (by omega)
      rw [cc42] at hc
      obtain ⟨r, rfl⟩ := rec_of ht
      obtain ⟨_, hcl, hat⟩ := World.cells?_some hc
      exact ⟨r, fun j hj => hat j hj⟩
    refine ⟨some a, (List.range len).attach.map fun i => (hrec i.1 (by simpa using i.2)).choose, cap, by simp, fun hne => ?_, ?_, by simpa using hl⟩
    · have hpos : 0 < len := by
        rcases Nat.eq_zero_or_pos len with h0 | h0
        · subst h0; simp at hne
        · exact h0
      obtain ⟨r0, hr0⟩ := hrec 0 hpos
      have hc0 := hr0 0 (by omega)
      obtain ⟨g, o, sp⟩ := a
      have hsp : sp = none := by
        cases sp with
        | none => rfl
        | some s =>
          rw [show (Addr.mk g o (some s)).add (0 * 12) = Addr.mk g o (some s) from by simp [Addr.add]] at hc0
          rw [show (Addr.mk g o (some s)).add 0 = Addr.mk g o (some s) from by simp [Addr.add]] at hc0
          unfold World.cell? at hc0
          simp only [Option.isSome_some, if_true] at hc0
          split at hc0 <;> simp [Rec.vs] at hc0
      subst hsp
      have hadd : ∀ k j, ((⟨g, o, none⟩ : Addr).add k).add j = ⟨g, o + k + j, none⟩ := fun k j => by unfold Addr.add; split <;> split <;> simp_all [Nat.add_assoc]
      refine ⟨g, o, rfl, ?_, fun i hi' => recAt_of fun j hj => ?_⟩
      · rw [hadd] at hc0
        exact World.block_lt_of_cell? w ⟨g, o + 0 * 12 + 0, none⟩ hc0
      · have hil : i < len := by simpa using hi'
        have hj' : j < 12 := by simpa [Rec.vs] using hj
        have q := (hrec i hil).choose_spec j hj'
        rw [hadd] at q
        simp only [List.getElem_map, List.getElem_attach, List.getElem_range]
        rw [q, List.getElem?_eq_getElem]
    · have : cap < 2 ^ 63 := by have := hm; unfold maxLen at this; omega
      simp; omega
end
end Go.Proofs.Ythmjhepjlgcgfaa
