/- An argument that is a slice of acts, opened: its acts lie in memory one behind the other. -/
import Derived.Test.YtoihldagpnkfoaaOwnKit
import Derived.OpenShut
import Derived.Deep.Slices
import Derived.Deep.Fields
import Derived.ChangeSame
namespace Go.Proofs.Ytoihldagpnkfoaa
open Go.RowKit Go.ChangeShapes Go.WideShapes Go.Deep
set_option linter.unusedVariables false
set_option linter.unusedSimpArgs false

/-- Acts, as they lie in memory: what is done, and whom it is done to. -/
def Acts (w : World) (A : Option Addr) (l : List (Int × Int)) : Prop := l ≠ [] → ∃ g o, A = some ⟨g, o, none⟩ ∧ g < w.heap.size ∧ ∀ i (h : i < l.length), w.cell? ⟨g, o + i * 2, none⟩ = some (.int .i64 (l[i]).1) ∧ w.cell? ⟨g, o + i * 2 + 1, none⟩ = some (.int .i64 (l[i]).2)
theorem Acts.below {w w' : World} {A : Option Addr} {l : List (Int × Int)} {B : Nat} (h : Acts w A l) (hB : w.heap.size ≤ B) (hb : Below B w w') (hs : w.heap.size ≤ w'.heap.size) : Acts w' A l := fun hne => by
  obtain ⟨g, o, e, hg, hc⟩ := h hne
  exact ⟨g, o, e, by omega, fun i hi => ⟨(hb.cell (p := ⟨g, o + i * 2, none⟩) (by show g < B; omega)).trans (hc i hi).1, (hb.cell (p := ⟨g, o + i * 2 + 1, none⟩) (by show g < B; omega)).trans (hc i hi).2⟩⟩

theorem ftAct : (Try.prog.fieldsOf 42).toList = [⟨"Kind", 3, 0, false, "", "", 0⟩, ⟨"N", 3, 1, false, "", "", 8⟩] := by kernel_rfl
theorem uAct : Try.prog.underlying 42 = some (.struct (Try.prog.fieldsOf 42)) := by kernel_rfl
theorem uIntA : Try.prog.underlying 3 = some (.int .i64) := by kernel_rfl
theorem ccAct : Try.prog.cellsOf 42 = 2 := by kernel_rfl
theorem ccInt : Try.prog.cellsOf 3 = 1 := by kernel_rfl

section
variable {H : Type} {enc : TypeId × Value → H} {w : World} {base : Nat} {spare : Nat → Bool} {held : Bool}
theorem fldAct {i : Nat} {f : Field} (h : [(⟨"Kind", 3, 0, false, "", "", 0⟩ : Field), ⟨"N", 3, 1, false, "", "", 8⟩][i]? = some f) : (Try.prog.fieldsOf 42)[i]? = some f := by
  rw [← Array.getElem?_toList, ftAct]; exact h
theorem at_some {xs : List (DataW H × List MemPlace)} {n i : Nat} (h : xs.length = n) (hi : i < n) : ∃ y, xs[i]? = some y := ⟨xs[i]'(by omega), List.getElem?_eq_getElem (by omega)⟩
theorem int_at {t : TypeId} {k : IntKind} {fuel : Nat} {c : Value} {y : DataW H × List MemPlace} (ht : Try.prog.underlying t = some (.int k)) (h : DataW.trod enc Try.prog w base spare held fuel t [c] = some y) : ∃ n, c = .int k n := by
  obtain ⟨n, e, _⟩ := DataW.trod_int ht h
  exact ⟨n, by injection e⟩
theorem act_of {fuel : Nat} {cs : List Value} {y : DataW H × List MemPlace} (h : DataW.trod enc Try.prog w base spare held fuel 42 cs = some y) : ∃ a b, cs = [.int .i64 a, .int .i64 b] := by
  obtain ⟨xs, n, _, _, hl, hx, hf⟩ := DataW.trod_struct uAct h
  rw [ccAct] at hl
  have hx' : xs.length = 2 := by rw [hx, ← Array.length_toList, ftAct]; rfl
  match cs, hl with
  | [c0, c1], _ =>
    have f0 := hf 0 _ (fldAct rfl)
    have f1 := hf 1 _ (fldAct rfl)
    obtain ⟨y0, e0⟩ := at_some hx' (show 0 < 2 by omega)
    obtain ⟨y1, e1⟩ := at_some hx' (show 1 < 2 by omega)
    rw [e0] at f0
    rw [e1] at f1
    simp only [ccInt, List.drop_zero, List.drop_succ_cons, List.take_succ_cons, List.take_zero] at f0 f1
    obtain ⟨a, rfl⟩ := int_at uIntA f0
    obtain ⟨b, rfl⟩ := int_at uIntA f1
    exact ⟨a, b, rfl⟩

theorem open_acts {fuel : Nat} {cs : List Value} {x : DataW H × List MemPlace} (h : DataW.trod enc Try.prog w base spare held fuel 36 cs = some x) :
    ∃ (A : Option Addr) (l : List (Int × Int)) (cap : Nat), cs = [.slice A l.length cap] ∧ Acts w A l ∧ l.length ≤ maxLen := by
  rcases open_slice Try.underlying36 h with ⟨rfl, _⟩ | ⟨a, len, cap, m, n, D, Pl, rfl, hb, hl, hm, hmm, _, hi⟩
  · exact ⟨none, [], 0, rfl, fun e => absurd rfl e, by simp⟩
  · have hlm : len ≤ m := by rw [hmm]; split <;> omega
    have hact : ∀ i, i < len → ∃ r : Int × Int, w.cell? (a.add (i * 2)) = some (.int .i64 r.1) ∧ w.cell? ((a.add (i * 2)).add 1) = some (.int .i64 r.2) := by
      intro i hil
      obtain ⟨cs', hc, ht⟩ := hi i (by omega)
      rw [ccAct] at hc
      obtain ⟨p, q, rfl⟩ := act_of ht
      obtain ⟨_, hcl, hat⟩ := World.cells?_some hc
      refine ⟨(p, q), ?_, ?_⟩
      · have := hat 0 (by omega)
        rw [show (a.add (i * 2)).add 0 = a.add (i * 2) from by simp [Addr.add]] at this
        exact this
      · exact hat 1 (by omega)
    refine ⟨some a, (List.range len).attach.map fun i => (hact i.1 (by simpa using i.2)).choose, cap, by simp, fun hne => ?_, by simp; omega⟩
    have hpos : 0 < len := by
      rcases Nat.eq_zero_or_pos len with h0 | h0
      · subst h0; simp at hne
      · exact h0
    obtain ⟨r0, hr0, _⟩ := hact 0 hpos
    obtain ⟨g, o, sp⟩ := a
    have hsp : sp = none := by
      cases sp with
      | none => rfl
      | some s =>
        rw [show (Addr.mk g o (some s)).add (0 * 2) = Addr.mk g o (some s) from by simp [Addr.add]] at hr0
        unfold World.cell? at hr0
        simp only [Option.isSome_some, if_true] at hr0
        split at hr0 <;> simp at hr0
    subst hsp
    have hadd : ∀ k, (⟨g, o, none⟩ : Addr).add k = ⟨g, o + k, none⟩ := fun k => by unfold Addr.add; split <;> simp_all
    have hadd1 : ∀ k, (⟨g, k, none⟩ : Addr).add 1 = ⟨g, k + 1, none⟩ := fun k => by simp [Addr.add]
    refine ⟨g, o, rfl, ?_, fun i hi' => ?_⟩
    · rw [hadd] at hr0
      exact World.block_lt_of_cell? w ⟨g, o + 0 * 2, none⟩ hr0
    · have hil : i < len := by simpa using hi'
      have q := (hact i hil).choose_spec
      have k1 : w.cell? ⟨g, o + i * 2, none⟩ = w.cell? ((⟨g, o, none⟩ : Addr).add (i * 2)) := by rw [hadd]
      have k2 : w.cell? ⟨g, o + i * 2 + 1, none⟩ = w.cell? (((⟨g, o, none⟩ : Addr).add (i * 2)).add 1) := by rw [hadd, hadd1]
      simp only [List.getElem_map, List.getElem_attach, List.getElem_range]
      exact ⟨k1.trans q.1, k2.trans q.2⟩
end
end Go.Proofs.Ytoihldagpnkfoaa
