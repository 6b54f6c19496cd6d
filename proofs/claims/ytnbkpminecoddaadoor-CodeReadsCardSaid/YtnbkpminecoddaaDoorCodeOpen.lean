/- Arguments opened: a row of bytes; a row of instructions. -/
import Derived.Test.YtnbkpminecoddaaDoorCodeKnown
import Derived.OpenShut
import Derived.ChangeSame
import Derived.ProofKit
import Derived.Deep.Slices
import Derived.Deep.Fields
namespace Go.Proofs.YtnbkpminecoddaaDoor
open Go.RowKit Go.ChangeShapes Go.WideShapes Go.Deep
set_option linter.unusedVariables false
set_option linter.unusedSimpArgs false
set_option maxRecDepth 100000

theorem nU8 : Tryd.prog.cellsOf 5 = 1 := by kernel_rfl
theorem nOp : Tryd.prog.cellsOf 24 = 1 := by kernel_rfl
theorem nIns : Tryd.prog.cellsOf 26 = 4 := by kernel_rfl
theorem uInsO : Tryd.prog.underlying 26 = some (.struct (Tryd.prog.fieldsOf 26)) := by kernel_rfl
theorem uOpO : Tryd.prog.underlying 24 = some (.int .u8) := by kernel_rfl
theorem uB8O : Tryd.prog.underlying 5 = some (.int .u8) := by kernel_rfl
theorem ftInsO : (Tryd.prog.fieldsOf 26).toList = [⟨"Op", 24, 0, false, "", "", 0⟩, ⟨"A", 5, 1, false, "", "", 1⟩, ⟨"B", 5, 2, false, "", "", 2⟩, ⟨"C", 5, 3, false, "", "", 3⟩] := by kernel_rfl

section
variable {H : Type} {enc : TypeId × Value → H} {w : World} {base : Nat} {spare : Nat → Bool} {held : Bool} {n : Nat}

/-- A row of bytes. -/
theorem open_bytes {r : Reach} {b0 : Nat} {v : Value} {d : DataW H} {p : List MemPlace} (hv : Value.okWide Tryd.prog w r b0 22 v) (h : DataW.Trod enc Tryd.prog w 0 (fun _ => true) true 22 v d p) :
    ∃ (A : Option Addr) (l : List UInt8) (cap : Nat), v = .slice A l.length cap ∧ BytesAt w A l cap ∧ (A = none → cap = 0) := by
  obtain ⟨a1, len, cap, rfl⟩ := okWide_slice Tryd.underlying22 hv
  obtain ⟨fuel, hf⟩ := h
  rcases open_ints Tryd.underlying22 Tryd.underlying5 nU8 hf with ⟨hcs, hx⟩ | ⟨a, len', cap', zs, hcs, _, hl, hm, hz, hx, hcell, hwz⟩
  · simp [Value.cells] at hcs
    obtain ⟨rfl, rfl, rfl⟩ := hcs
    exact ⟨none, [], 0, rfl, ⟨Nat.le_refl _, .inl rfl⟩, fun _ => rfl⟩
  · simp [Value.cells] at hcs
    obtain ⟨rfl, rfl, rfl⟩ := hcs
    simp only [if_true] at hz
    obtain ⟨l, hl0, hll⟩ : ∃ l : List UInt8, l.length = len ∧ ∀ i (hi : i < l.length), ((l[i]'hi).toNat : Int) = zs.getD i 0 := by
      refine ⟨(List.range len).map fun i => UInt8.ofNat (zs.getD i 0).toNat, by simp, fun i hi => ?_⟩
      have hb := range_u8 hwz i
      simp only [List.getElem_map, List.getElem_range]
      rw [List.getD_eq_getElem?_getD] at *
      have h2 : ((zs[i]?.getD 0).toNat : Int) = zs[i]?.getD 0 := Int.toNat_of_nonneg (by omega)
      rw [UInt8.toNat_ofNat', Nat.mod_eq_of_lt (by omega)]
      exact h2
    subst hl0
    refine ⟨_, l, _, rfl, ⟨hl, ?_⟩, (fun e => by cases e)⟩
    by_cases hpos : l = []
    · exact .inl hpos
    have hlp : 0 < l.length := List.length_pos_iff.2 hpos
    obtain ⟨ab, ao, spot⟩ := a
    have hc0 := hcell 0 (by omega)
    have hspot : spot = none := by simpa [Addr.add] using World.cell?_spot hc0
    subst hspot
    rw [Addr.add_lit] at hc0
    refine .inr ⟨ab, ao, rfl, World.block_lt_of_cell? w _ hc0, fun i hi => ?_⟩
    have hci := hcell i (by omega)
    rw [Addr.add_lit] at hci
    rw [hll i hi]
    exact hci

theorem fldIns {i : Nat} {f : Field} (h : [(⟨"Op", 24, 0, false, "", "", 0⟩ : Field), ⟨"A", 5, 1, false, "", "", 1⟩, ⟨"B", 5, 2, false, "", "", 2⟩, ⟨"C", 5, 3, false, "", "", 3⟩][i]? = some f) : (Tryd.prog.fieldsOf 26)[i]? = some f := by
  rw [← Array.getElem?_toList, ftInsO]; exact h
theorem at_some {xs : List (DataW H × List MemPlace)} {n i : Nat} (h : xs.length = n) (hi : i < n) : ∃ y, xs[i]? = some y := ⟨xs[i]'(by omega), List.getElem?_eq_getElem (by omega)⟩
theorem u8_at {t : TypeId} {fuel : Nat} {c : Value} {y : DataW H × List MemPlace} (ht : Tryd.prog.underlying t = some (.int .u8)) (h : DataW.trod enc Tryd.prog w base spare held fuel t [c] = some y) : ∃ n : Int, c = .int .u8 n ∧ 0 ≤ n ∧ n < 256 := by
  obtain ⟨n, e, _, hw⟩ := DataW.trod_int ht h
  have hr := range_u8 (zs := [n]) (fun z hz => by simp at hz; subst hz; exact hw) 0
  simp at hr
  exact ⟨n, by injection e, by omega, by omega⟩
theorem ins_of {fuel : Nat} {cs : List Value} {y : DataW H × List MemPlace} (h : DataW.trod enc Tryd.prog w base spare held fuel 26 cs = some y) : ∃ f : Nat → Int, cs = [.int .u8 (f 0), .int .u8 (f 1), .int .u8 (f 2), .int .u8 (f 3)] ∧ ∀ j, 0 ≤ f j ∧ f j < 256 := by
  obtain ⟨xs, n, _, _, hl, hx, hf⟩ := DataW.trod_struct uInsO h
  rw [nIns] at hl
  have hx' : xs.length = 4 := by rw [hx, ← Array.length_toList, ftInsO]; rfl
  match cs, hl with
  | [c0, c1, c2, c3], _ =>
    have f0 := hf 0 _ (fldIns rfl)
    have f1 := hf 1 _ (fldIns rfl)
    have f2 := hf 2 _ (fldIns rfl)
    have f3 := hf 3 _ (fldIns rfl)
    obtain ⟨y0, e0⟩ := at_some hx' (show 0 < 4 by omega)
    obtain ⟨y1, e1⟩ := at_some hx' (show 1 < 4 by omega)
    obtain ⟨y2, e2⟩ := at_some hx' (show 2 < 4 by omega)
    obtain ⟨y3, e3⟩ := at_some hx' (show 3 < 4 by omega)
    rw [e0] at f0
    rw [e1] at f1
    rw [e2] at f2
    rw [e3] at f3
    simp only [nU8, nOp, List.drop_zero, List.drop_succ_cons, List.take_succ_cons, List.take_zero] at f0 f1 f2 f3
    obtain ⟨a, rfl, ha⟩ := u8_at uOpO f0
    obtain ⟨b, rfl, hb⟩ := u8_at uB8O f1
    obtain ⟨c, rfl, hc⟩ := u8_at uB8O f2
    obtain ⟨d, rfl, hd⟩ := u8_at uB8O f3
    refine ⟨fun j => if j = 0 then a else if j = 1 then b else if j = 2 then c else if j = 3 then d else 0, rfl, fun j => ?_⟩
    dsimp only
    repeat' split
    · exact ha
    · exact hb
    · exact hc
    · exact hd
    · omega

/-- Instructions, as they lie in memory. -/
def InsAt (w : World) (A : Option Addr) (n cap : Nat) (D : Nat → Nat → Int) : Prop :=
  n ≤ cap ∧ (A = none → n = 0 ∧ cap = 0) ∧ (∀ i j, 0 ≤ D i j ∧ D i j < 256) ∧ (0 < n → ∃ g o, A = some ⟨g, o, none⟩ ∧ g < w.heap.size ∧ ∀ i, i < n → ∀ j, j < 4 → w.cell? ⟨g, o + i * 4 + j, none⟩ = some (.int .u8 (D i j)))
theorem open_ins {fuel : Nat} {cs : List Value} {x : DataW H × List MemPlace} (h : DataW.trod enc Tryd.prog w base spare held fuel 34 cs = some x) :
    ∃ (A : Option Addr) (n cap : Nat) (D : Nat → Nat → Int), cs = [.slice A n cap] ∧ InsAt w A n cap D := by
  rcases open_slice Tryd.underlying34 h with ⟨rfl, _⟩ | ⟨a, len, cap, m, n, Dd, Pl, rfl, hb, hl, hm, hmm, _, hi⟩
  · exact ⟨none, 0, 0, fun _ _ => 0, rfl, Nat.le_refl _, fun _ => ⟨rfl, rfl⟩, fun _ _ => by simp, fun h => absurd h (by omega)⟩
  · have hlm : len ≤ m := by rw [hmm]; split <;> omega
    have hact : ∀ i, i < len → ∃ f : Nat → Int, (∀ j, j < 4 → w.cell? ((a.add (i * 4)).add j) = some (.int .u8 (f j))) ∧ ∀ j, 0 ≤ f j ∧ f j < 256 := by
      intro i hil
      obtain ⟨cs', hc, ht⟩ := hi i (by omega)
      rw [nIns] at hc
      obtain ⟨f, rfl, hf⟩ := ins_of ht
      obtain ⟨_, hcl, hat⟩ := World.cells?_some hc
      refine ⟨f, fun j hj => ?_, hf⟩
      have := hat j hj
      rcases j with _ | _ | _ | _ | j
      all_goals first | exact this | omega
    obtain ⟨g, o, sp⟩ := a
    have hadd : ∀ b k j, ((⟨g, b, none⟩ : Addr).add k).add j = ⟨g, b + k + j, none⟩ := fun b k j => by rw [Addr.add_lit, Addr.add_lit]
    refine ⟨_, len, cap, fun i j => if h : i < len then (hact i h).choose j else 0, rfl, hl, (fun e => by cases e), fun i j => ?_, fun hpos => ?_⟩
    · dsimp only
      split
      · rename_i hil; exact (hact i hil).choose_spec.2 j
      · omega
    · have h0 := (hact 0 hpos).choose_spec.1 0 (by omega)
      have hsp : sp = none := by
        cases sp with
        | none => rfl
        | some s =>
          rw [show ((Addr.mk g o (some s)).add (0 * 4)).add 0 = Addr.mk g o (some s) from by simp [Addr.add]] at h0
          unfold World.cell? at h0
          simp only [Option.isSome_some, if_true] at h0
          split at h0 <;> simp at h0
      subst hsp
      rw [hadd] at h0
      refine ⟨g, o, rfl, World.block_lt_of_cell? w ⟨g, o + 0 * 4 + 0, none⟩ h0, fun i hil j hj => ?_⟩
      have q := (hact i hil).choose_spec.1 j hj
      rw [hadd] at q
      dsimp only
      rw [dif_pos hil]
      exact q
end
end Go.Proofs.YtnbkpminecoddaaDoor
