/- An argument that is a configuration, opened. -/
import Derived.Test.YtoigapnpmhogdaaCfWrong
import Derived.OpenShut
import Derived.Deep.Matrix
import Derived.SizedLaws
import Derived.ChangeSame
import Derived.ProofKit
namespace Go.Proofs.Ytoigapnpmhogdaa
open Go.RowKit Go.ChangeShapes Go.WideShapes Go.Deep
set_option linter.unusedVariables false
set_option linter.unusedSimpArgs false

section
variable {H : Type} {enc : TypeId × Value → H} {w : World}

theorem uCf : Try.prog.underlying 25 = some (.struct (Try.prog.fieldsOf 25)) := by kernel_rfl
theorem ccCf : Try.prog.cellsOf 25 = 15 := by kernel_rfl
theorem ccI : Try.prog.cellsOf 3 = 1 := by kernel_rfl
theorem ccU : Try.prog.cellsOf 22 = 1 := by kernel_rfl
theorem ccR : Try.prog.cellsOf 23 = 1 := by kernel_rfl
theorem ccB : Try.prog.cellsOf 43 = 1 := by kernel_rfl
theorem cc8 : Try.prog.cellsOf 5 = 1 := by kernel_rfl
theorem fsz : (Try.prog.fieldsOf 25).size = 15 := by kernel_rfl
theorem by24 : Try.prog.bytesOf 43 = 24 := by kernel_rfl
theorem by1 : Try.prog.bytesOf 5 = 1 := by kernel_rfl
theorem reachE : reachBytes = 140737488351232 := rfl
def ftyp (i : Nat) : TypeId := if i < 10 then 3 else if i < 14 then 22 else 23
theorem fldC : ∀ i, i < 15 → ((Try.prog.fieldsOf 25)[i]?).map (fun f => (f.type, f.offset)) = some (ftyp i, i)
  | 0, _ => by kernel_rfl
  | 1, _ => by kernel_rfl
  | 2, _ => by kernel_rfl
  | 3, _ => by kernel_rfl
  | 4, _ => by kernel_rfl
  | 5, _ => by kernel_rfl
  | 6, _ => by kernel_rfl
  | 7, _ => by kernel_rfl
  | 8, _ => by kernel_rfl
  | 9, _ => by kernel_rfl
  | 10, _ => by kernel_rfl
  | 11, _ => by kernel_rfl
  | 12, _ => by kernel_rfl
  | 13, _ => by kernel_rfl
  | 14, _ => by kernel_rfl
  | k + 15, h => absurd h (by omega)
theorem fldE (i : Nat) (hi : i < 15) : ∃ f, (Try.prog.fieldsOf 25)[i]? = some f ∧ f.type = ftyp i ∧ f.offset = i := by
  have := fldC i hi
  rw [Option.map_eq_some_iff] at this
  obtain ⟨f, h1, h2⟩ := this
  simp only [Prod.mk.injEq] at h2
  exact ⟨f, h1, h2.1, h2.2⟩

theorem weightsAll_mem' {P : Program} {e : TypeId} : ∀ {l : List (DataW H)} {d : DataW H}, d ∈ l → ∀ n ∈ d.weights P e, n ∈ DataW.weightsAll P e l
  | d' :: r, d, hd, n, hn => by
    simp only [DataW.weightsAll, List.mem_append]
    rcases List.mem_cons.1 hd with rfl | h
    · exact Or.inl hn
    · exact Or.inr (weightsAll_mem' h n hn)

theorem rowL (Z : List Int) (n : Nat) (hz : n ≤ Z.length) (hw : ∀ x ∈ Z, (Lit.int .u8 x).wf = true) :
    (((Z.take n).map fun x => UInt8.ofNat x.toNat).map byteV) = (Z.take n).map (Value.int .u8) := by
  rw [List.map_map]
  refine List.map_congr_left fun x hx => ?_
  obtain ⟨h1, h2⟩ := bounds_u8 (hw x (List.mem_of_mem_take hx))
  show Value.int .u8 _ = _
  congr 1
  rw [UInt8.toNat_ofNat_of_lt' (by show x.toNat < 256; omega)]
  omega

/-- The rows of an argument of programs. -/
theorem open_rows {fuel : Nat} {v : Value} {x : DataW H × List MemPlace} (h : DataW.trod enc Try.prog w 0 (fun _ => true) true fuel 23 [v] = some x) :
    ∃ (A : Option Addr) (L : List (List UInt8)) (cap : Nat), v = .slice A L.length cap ∧ PrAt w w.heap.size A L ∧
      ((DataW.weights Try.prog 23 x.1).all (· ≤ reachBytes) = true → L.length < 2 ^ 62 ∧ ∀ l ∈ L, l.length ≤ 2 ^ 50) := by
  rcases open_int_rows Try.underlying23 Try.underlying43 Try.underlying5 ccB cc8 h with ⟨hcs, rfl⟩ | ⟨a, len, cap, A, Ln, C, Z, hcs, hb, hlc, hm, rfl, hrows⟩
  · refine ⟨none, [], 0, by injection hcs, fun e => absurd rfl e, fun _ => ⟨by simp, fun l hl => by cases hl⟩⟩
  · refine ⟨some a, (List.range len).map fun r => ((Z r).take (Ln r)).map fun x => UInt8.ofNat x.toNat, cap, by injection hcs with h1; rw [h1]; simp, fun hne => ?_, fun hw => ?_⟩
    · have hpos : 0 < len := by
        rcases Nat.eq_zero_or_pos len with h0 | h0
        · subst h0; simp at hne
        · exact h0
      have hc0 := (hrows 0 (by omega)).1
      obtain ⟨g, o, sp⟩ := a
      have hsp : sp = none := by simpa [Addr.add] using World.cell?_spot hc0
      subst hsp
      have hadd : ∀ k, ((⟨g, o, none⟩ : Addr).add k) = ⟨g, o + k, none⟩ := fun k => by unfold Addr.add; split <;> simp_all
      refine ⟨g, o, rfl, by have := World.block_lt_of_cell? w _ hc0; rwa [hadd] at this, fun i hi => ?_⟩
      have hil : i < len := by simpa using hi
      obtain ⟨k1, k2, k3, k4, k5, k6, k7⟩ := hrows i (by omega)
      have hlen : ((((List.range len).map fun r => ((Z r).take (Ln r)).map fun x => UInt8.ofNat x.toNat)[i]'hi).length) = Ln i := by
        rw [List.getElem_map, List.getElem_range, List.length_map, List.length_take]; omega
      refine ⟨A i, C i, by rw [hlen, ← hadd]; exact k1, by rw [hlen]; exact k2, ?_, fun hn => ?_⟩
      · rw [hlen, List.getElem_map, List.getElem_range, rowL _ _ (by omega) k5]
        refine ⟨by rw [List.length_map, List.length_take]; omega, fun hp => ?_⟩
        cases hA : A i with
        | none => have := k6 hA; omega
        | some a' =>
          obtain ⟨_, hcell⟩ := k7 a' hA
          refine ⟨a', rfl, ?_, fun j u hu => ?_⟩
          · have := World.block_lt_of_cell? w _ (hcell 0 (by omega))
            rwa [block_of_add] at this
          · have hj : j < Ln i := by
              rcases Nat.lt_or_ge j (Ln i) with hj | hj
              · exact hj
              · rw [List.getElem?_eq_none (by rw [List.length_map, List.length_take]; omega)] at hu; cases hu
            rw [hcell j (by omega)]
            rw [List.getElem?_map, List.getElem?_take_of_lt hj, List.getElem?_eq_getElem (by omega)] at hu
            simp only [Option.map_some, Option.some.injEq] at hu
            rw [← hu, List.getD_eq_getElem?_getD, List.getElem?_eq_getElem (by omega)]
            rfl
      · have h0 := k6 hn
        refine ⟨?_, h0⟩
        rw [← List.length_eq_zero_iff, hlen]
        omega
    · rw [List.all_eq_true] at hw
      simp only [decide_eq_true_eq] at hw
      have hW : ∀ n ∈ DataW.weights Try.prog 23 (.slice ((List.range len).map fun r => intRow .u8 (A r) (Ln r) (Z r)) ((List.range (cap - len)).map fun j => intRow .u8 (A (len + j)) (Ln (len + j)) (Z (len + j))) : DataW H), n ≤ reachBytes := fun n hn => hw n hn
      simp only [DataW.weights, Try.underlying23, List.mem_cons, List.mem_append] at hW
      refine ⟨?_, fun l hl => ?_⟩
      · have := hW _ (.inl rfl)
        rw [List.length_map, List.length_range, List.length_map, List.length_range, by24, reachE] at this
        rw [List.length_map, List.length_range]
        omega
      · obtain ⟨r, hr, rfl⟩ := List.mem_map.1 hl
        have hr' := List.mem_range.1 hr
        obtain ⟨k1, k2, k3, k4, k5, k6, k7⟩ := hrows r (by omega)
        rw [List.length_map, List.length_take]
        cases hA : A r with
        | none => have := k6 hA; omega
        | some a' =>
          have hin := hW (((lits (H := H) .u8 ((Z r).take (Ln r))).length + (lits (H := H) .u8 ((Z r).drop (Ln r))).length) * Try.prog.bytesOf 5) (.inr (.inl (weightsAll_mem' (d := intRow .u8 (A r) (Ln r) (Z r)) (List.mem_map.2 ⟨r, hr, rfl⟩) _ (by
            simp [intRow, hA, DataW.weights, Try.underlying43]))))
          rw [by1, reachE] at hin
          simp only [lits, List.length_map, List.length_take, List.length_drop] at hin
          omega

/-- A configuration that is an argument. -/
theorem open_cfg {r : Reach} {b0 : Nat} {v : Value} {d : DataW H} {p : List MemPlace} (hv : Value.okWide Try.prog w r b0 25 v) (h : DataW.Trod enc Try.prog w 0 (fun _ => true) true 25 v d p) :
    ∃ (c : Nat → Int) (A : Option Addr) (L : List (List UInt8)) (cap : Nat), v = .agg (cfV c (.slice A L.length cap)) ∧ PrAt w w.heap.size A L ∧
      ((DataW.weights Try.prog 25 d).all (· ≤ reachBytes) = true → L.length < 2 ^ 62 ∧ ∀ l ∈ L, l.length ≤ 2 ^ 50) := by
  obtain ⟨cs, rfl, hsz⟩ := okWide_struct uCf hv
  rw [ccCf] at hsz
  obtain ⟨fuel, hf⟩ := h
  obtain ⟨xs, n, _, hx, _, hxl, hfl⟩ := DataW.trod_struct uCf hf
  rw [fsz] at hxl
  simp only [Value.cells] at hfl
  have hcell : ∀ i (hi : i < 15), DataW.trod enc Try.prog w 0 (fun _ => true) true n (ftyp i) [cs[i]'(by omega)] = some (xs[i]'(by omega)) := by
    intro i hi
    obtain ⟨f, h1, h2, h3⟩ := fldE i hi
    have := hfl i f h1
    rw [h2, h3] at this
    have hc1 : Try.prog.cellsOf (ftyp i) = 1 := by
      unfold ftyp
      by_cases a : i < 10
      · rw [if_pos a]; exact ccI
      · rw [if_neg a]
        by_cases b : i < 14
        · rw [if_pos b]; exact ccU
        · rw [if_neg b]; exact ccR
    rw [hc1, List.getElem?_eq_getElem (by omega)] at this
    rw [← this]
    congr 1
    rw [List.drop_eq_getElem_cons (by rw [Array.length_toList]; omega)]
    simp
  obtain ⟨A, L, cap, hsl, hpr, hwt⟩ := open_rows (hcell 14 (by omega))
  refine ⟨fun k => intOf (cs.getD k (.int .i64 0)), A, L, cap, ?_, hpr, fun hw => hwt ?_⟩
  · congr 1
    apply Array.ext_getElem?
    intro i
    rcases Nat.lt_or_ge i 15 with hi | hi
    · rw [Array.getElem?_eq_getElem (by omega)]
      have hgd : cs.getD i (.int .i64 0) = cs[i]'(by omega) := by simp [Array.getD, show i < cs.size from by omega]
      rcases Nat.lt_or_ge i 14 with h14 | h14
      · rw [cfV_get _ _ i h14]
        unfold part'
        rw [hgd]
        have hc := hcell i hi
        unfold ftyp at hc
        by_cases h10 : i < 10
        · rw [if_pos h10] at hc ⊢
          obtain ⟨m, e, _⟩ := DataW.trod_int Try.underlying3 hc
          injection e with e
          rw [e]; rfl
        · rw [if_neg h10, if_pos h14] at hc
          rw [if_neg h10]
          obtain ⟨m, e, _⟩ := DataW.trod_int Try.underlying22 hc
          injection e with e
          rw [e]; rfl
      · obtain rfl : i = 14 := by omega
        rw [cfV_last, hsl]
    · rw [Array.getElem?_eq_none (by omega), Array.getElem?_eq_none (by simp [cfV]; omega)]
  · rw [List.all_eq_true] at hw ⊢
    intro m hm
    refine hw m ?_
    simp only [Prod.mk.injEq] at hx
    rw [hx.1]
    simp only [DataW.weights, uCf]
    obtain ⟨f, h1, h2, h3⟩ := fldE 14 (by omega)
    refine DataW.weights_mem_each (j := 14) (t := 23) (d := (xs[14]'(by omega)).1) ?_ ?_ m hm
    · rw [List.getElem?_map, Array.getElem?_toList, h1, Option.map_some, h2]; rfl
    · rw [List.getElem?_map, List.getElem?_eq_getElem (by omega)]; rfl
end
end Go.Proofs.Ytoigapnpmhogdaa
