/- Arguments that are a slice of acts, or of bytes, opened. -/
import Derived.Test.YtdfpbbkdlalpcaaGloFew
import Derived.OpenShut
import Derived.Deep.Slices
import Derived.Deep.Fields
import Derived.ChangeSame
namespace Go.Proofs.Ytdfpbbkdlalpcaa
open Go.RowKit Go.ChangeShapes Go.WideShapes Go.Deep
set_option linter.unusedVariables false
set_option linter.unusedSimpArgs false

section
variable {H : Type} {enc : TypeId × Value → H} {w : World} {base : Nat} {spare : Nat → Bool} {held : Bool}

theorem uAct : Try.prog.underlying 34 = some (.struct (Try.prog.fieldsOf 34)) := by kernel_rfl
theorem ccAct : Try.prog.cellsOf 34 = 5 := by kernel_rfl
theorem ccI : Try.prog.cellsOf 3 = 1 := by kernel_rfl
theorem ccS : Try.prog.cellsOf 28 = 1 := by kernel_rfl
theorem ccB : Try.prog.cellsOf 32 = 1 := by kernel_rfl
theorem cc8 : Try.prog.cellsOf 5 = 1 := by kernel_rfl
theorem fszA : (Try.prog.fieldsOf 34).size = 5 := by kernel_rfl
def ftyp (i : Nat) : TypeId := if i = 1 then 28 else if i = 4 then 32 else 3
theorem fldC : ∀ i, i < 5 → ((Try.prog.fieldsOf 34)[i]?).map (fun f => (f.type, f.offset)) = some (ftyp i, i)
  | 0, _ => by kernel_rfl
  | 1, _ => by kernel_rfl
  | 2, _ => by kernel_rfl
  | 3, _ => by kernel_rfl
  | 4, _ => by kernel_rfl
  | k + 5, h => absurd h (by omega)
theorem fldE (i : Nat) (hi : i < 5) : ∃ f, (Try.prog.fieldsOf 34)[i]? = some f ∧ f.type = ftyp i ∧ f.offset = i := by
  have := fldC i hi
  rw [Option.map_eq_some_iff] at this
  obtain ⟨f, h1, h2⟩ := this
  simp only [Prod.mk.injEq] at h2
  exact ⟨f, h1, h2.1, h2.2⟩
theorem at_some {xs : List (DataW H × List MemPlace)} {n i : Nat} (h : xs.length = n) (hi : i < n) : ∃ y, xs[i]? = some y := ⟨xs[i]'(by omega), List.getElem?_eq_getElem (by omega)⟩
theorem add_zero' (a : Addr) : a.add 0 = a := by unfold Addr.add; simp

theorem ints_of {fuel : Nat} {c : List Value} {y : DataW H × List MemPlace} (h : DataW.trod enc Try.prog w base spare held fuel 28 c = some y) :
    ∃ X xs xc, c = [.slice X (xs : List Int).length xc] ∧ Ints w w.heap.size X xs ∧ xs.length ≤ maxLen := by
  rcases open_slice Try.underlying28 h with ⟨rfl, _⟩ | ⟨a, len, cap, m, n, D, Pl, rfl, hb, hl, hm, hmm, _, hi⟩
  · exact ⟨none, [], 0, rfl, Reads.none_, by simp⟩
  · have hlm : len ≤ m := by rw [hmm]; split <;> omega
    have hrow : ∀ i, i < len → ∃ x : Int, w.cell? (a.add i) = some (.int .i64 x) := by
      intro i hil
      obtain ⟨cs', hc, ht⟩ := hi i (by omega)
      rw [ccI] at hc
      obtain ⟨x, rfl, _⟩ := DataW.trod_int Try.underlying3 ht
      obtain ⟨_, _, hat⟩ := World.cells?_some hc
      have := hat 0 (by omega)
      rw [Nat.mul_one, add_zero'] at this
      exact ⟨x, this⟩
    have hlen : ((List.range len).attach.map fun i => (hrow i.1 (by simpa using i.2)).choose).length = len := by simp
    refine ⟨some a, (List.range len).attach.map fun i => (hrow i.1 (by simpa using i.2)).choose, cap, by rw [hlen], ⟨by simp [intV], fun hpos => ?_⟩, by rw [hlen]; omega⟩
    rw [hlen] at hpos
    obtain ⟨x0, hx0⟩ := hrow 0 hpos
    refine ⟨a, rfl, ?_, fun j u hu => ?_⟩
    · have := World.block_lt_of_cell? w _ hx0
      rwa [block_of_add] at this
    · have hj : j < len := by
        have := (List.getElem?_eq_some_iff.1 hu).1
        simpa [intV] using this
      simp only [intV, List.getElem?_map] at hu
      rw [List.getElem?_eq_getElem (by simpa using hj)] at hu
      simp only [List.getElem_attach, List.getElem_range, Option.map_some, Option.some.injEq] at hu
      rw [← hu]
      exact (hrow j hj).choose_spec

theorem bytes_of {fuel : Nat} {c : List Value} {y : DataW H × List MemPlace} (h : DataW.trod enc Try.prog w base spare held fuel 32 c = some y) :
    ∃ X xs xc, c = [.slice X (xs : List Nat).length xc] ∧ Bytes w w.heap.size X xs ∧ (∀ x ∈ xs, x < 256) ∧ xs.length ≤ maxLen := by
  rcases open_slice Try.underlying32 h with ⟨rfl, _⟩ | ⟨a, len, cap, m, n, D, Pl, rfl, hb, hl, hm, hmm, _, hi⟩
  · exact ⟨none, [], 0, rfl, Reads.none_, by simp, by simp⟩
  · have hlm : len ≤ m := by rw [hmm]; split <;> omega
    have hrow : ∀ i, i < len → ∃ x : Nat, w.cell? (a.add i) = some (.int .u8 (x : Int)) ∧ x < 256 := by
      intro i hil
      obtain ⟨cs', hc, ht⟩ := hi i (by omega)
      rw [cc8] at hc
      obtain ⟨x, rfl, _, hw⟩ := DataW.trod_int Try.underlying5 ht
      obtain ⟨_, _, hat⟩ := World.cells?_some hc
      have := hat 0 (by omega)
      rw [Nat.mul_one, add_zero'] at this
      have hx : 0 ≤ x ∧ x < 256 := by
        have m1 : IntKind.u8.min = 0 := rfl
        have m2 : IntKind.u8.max = 255 := rfl
        simp [Lit.wf, m1, m2] at hw
        omega
      exact ⟨x.toNat, by rw [this, show ((x.toNat : Nat) : Int) = x by omega]; rfl, by omega⟩
    have hlen : ((List.range len).attach.map fun i => (hrow i.1 (by simpa using i.2)).choose).length = len := by simp
    refine ⟨some a, (List.range len).attach.map fun i => (hrow i.1 (by simpa using i.2)).choose, cap, by rw [hlen], ⟨by simp [byteV], fun hpos => ?_⟩, fun x hx => ?_, by rw [hlen]; omega⟩
    · rw [hlen] at hpos
      obtain ⟨x0, hx0, _⟩ := hrow 0 hpos
      refine ⟨a, rfl, ?_, fun j u hu => ?_⟩
      · have := World.block_lt_of_cell? w _ hx0
        rwa [block_of_add] at this
      · have hj : j < len := by
          have := (List.getElem?_eq_some_iff.1 hu).1
          simpa [byteV] using this
        simp only [byteV, List.getElem?_map] at hu
        rw [List.getElem?_eq_getElem (by simpa using hj)] at hu
        simp only [List.getElem_attach, List.getElem_range, Option.map_some, Option.some.injEq] at hu
        rw [← hu]
        exact (hrow j hj).choose_spec.1
    · obtain ⟨i, _, rfl⟩ := List.mem_map.1 hx
      exact (hrow i.1 (by simpa using i.2)).choose_spec.2

theorem act_of {fuel : Nat} {cs : List Value} {y : DataW H × List MemPlace} (h : DataW.trod enc Try.prog w base spare held fuel 34 cs = some y) : ∃ a : ActD, cs = a.vs ∧ ActR w w.heap.size a := by
  obtain ⟨xs, n, _, _, hl, hx, hf⟩ := DataW.trod_struct uAct h
  rw [ccAct] at hl
  rw [fszA] at hx
  match cs, hl with
  | [c0, c1, c2, c3, c4], _ =>
    have hcell : ∀ i (hi : i < 5), ∃ y, DataW.trod enc Try.prog w base spare held n (ftyp i) [[c0, c1, c2, c3, c4][i]'hi] = some y := by
      intro i hi
      obtain ⟨f, h1, h2, h3⟩ := fldE i hi
      have := hf i f h1
      rw [h2, h3] at this
      have hc1 : Try.prog.cellsOf (ftyp i) = 1 := by
        unfold ftyp
        by_cases a : i = 1
        · rw [if_pos a]; exact ccS
        · rw [if_neg a]
          by_cases b : i = 4
          · rw [if_pos b]; exact ccB
          · rw [if_neg b]; exact ccI
      obtain ⟨y, hy⟩ := at_some hx hi
      rw [hc1, hy] at this
      refine ⟨y, ?_⟩
      rw [← this]
      congr 1
      rw [List.drop_eq_getElem_cons (by simpa using hi)]
      simp
    obtain ⟨y0, t0⟩ := hcell 0 (by omega)
    obtain ⟨y1, t1⟩ := hcell 1 (by omega)
    obtain ⟨y2, t2⟩ := hcell 2 (by omega)
    obtain ⟨y3, t3⟩ := hcell 3 (by omega)
    obtain ⟨y4, t4⟩ := hcell 4 (by omega)
    obtain ⟨k, e0, _⟩ := DataW.trod_int Try.underlying3 t0
    obtain ⟨X, xs, xc, e1, hX, hxl⟩ := ints_of t1
    obtain ⟨g, e2, _⟩ := DataW.trod_int Try.underlying3 t2
    obtain ⟨p, e3, _⟩ := DataW.trod_int Try.underlying3 t3
    obtain ⟨F, aff, fc, e4, hF, h8, hal⟩ := bytes_of t4
    simp only [List.getElem_cons_zero, List.getElem_cons_succ, List.cons.injEq, and_true] at e0 e1 e2 e3 e4
    subst e0 e1 e2 e3 e4
    exact ⟨⟨k, X, xs, xc, g, p, F, aff, fc⟩, rfl, hX, hF, h8, hxl, hal⟩

theorem open_acts {fuel : Nat} {cs : List Value} {x : DataW H × List MemPlace} (h : DataW.trod enc Try.prog w base spare held fuel 22 cs = some x) :
    ∃ (A : Option Addr) (l : List ActD) (cap : Nat), cs = [.slice A l.length cap] ∧ Acts w w.heap.size A l ∧ l.length ≤ maxLen := by
  rcases open_slice Try.underlying22 h with ⟨rfl, _⟩ | ⟨a, len, cap, m, n, D, Pl, rfl, hb, hl, hm, hmm, _, hi⟩
  · exact ⟨none, [], 0, rfl, ⟨fun e => absurd rfl e, by simp⟩, by simp⟩
  · have hlm : len ≤ m := by rw [hmm]; split <;> omega
    have hrec : ∀ i, i < len → ∃ r : ActD, (∀ j, j < 5 → w.cell? ((a.add (i * 5)).add j) = r.vs[j]?) ∧ ActR w w.heap.size r := by
      intro i hil
      obtain ⟨cs', hc, ht⟩ := hi i (by omega)
      rw [ccAct] at hc
      obtain ⟨r, rfl, hR⟩ := act_of ht
      obtain ⟨_, hcl, hat⟩ := World.cells?_some hc
      exact ⟨r, fun j hj => hat j hj, hR⟩
    have hlen : ((List.range len).attach.map fun i => (hrec i.1 (by simpa using i.2)).choose).length = len := by simp
    refine ⟨some a, (List.range len).attach.map fun i => (hrec i.1 (by simpa using i.2)).choose, cap, by rw [hlen], ⟨fun hne => ?_, fun r hr => ?_⟩, by rw [hlen]; omega⟩
    · have hpos : 0 < len := by
        rcases Nat.eq_zero_or_pos len with h0 | h0
        · subst h0; simp at hne
        · exact h0
      obtain ⟨r0, hr0, _⟩ := hrec 0 hpos
      have hc0 := hr0 0 (by omega)
      obtain ⟨g, o, sp⟩ := a
      have hsp : sp = none := by
        cases sp with
        | none => rfl
        | some s =>
          rw [show (Addr.mk g o (some s)).add (0 * 5) = Addr.mk g o (some s) from by simp [Addr.add]] at hc0
          rw [show (Addr.mk g o (some s)).add 0 = Addr.mk g o (some s) from by simp [Addr.add]] at hc0
          unfold World.cell? at hc0
          simp only [Option.isSome_some, if_true] at hc0
          split at hc0 <;> simp [ActD.vs] at hc0
      subst hsp
      have hadd : ∀ k j, ((⟨g, o, none⟩ : Addr).add k).add j = ⟨g, o + k + j, none⟩ := fun k j => by unfold Addr.add; split <;> split <;> simp_all [Nat.add_assoc]
      refine ⟨g, o, rfl, ?_, fun i hi' j u hu => ?_⟩
      · rw [hadd] at hc0
        exact World.block_lt_of_cell? w ⟨g, o + 0 * 5 + 0, none⟩ hc0
      · have hil : i < len := by simpa using hi'
        simp only [List.getElem_map, List.getElem_attach, List.getElem_range] at hu
        have hj' : j < 5 := by
          have := (List.getElem?_eq_some_iff.1 hu).1
          simpa [ActD.vs] using this
        have q := (hrec i hil).choose_spec.1 j hj'
        rw [hadd] at q
        rw [q]
        exact hu
    · obtain ⟨i, _, rfl⟩ := List.mem_map.1 hr
      exact (hrec i.1 (by simpa using i.2)).choose_spec.2
end
end Go.Proofs.Ytdfpbbkdlalpcaa
