/- The law RightsTable, by a walk. Condition: the names' variable holds the names. -/
import Derived.Test.YtcgmcmnjgimflaaDoorTableRef
import Derived.Laws.StructEq
import Derived.ChangeKeysEq
import Derived.Deep.RegionHeld3
namespace Go.Proofs.YtcgmcmnjgimflaaDoor
open Go.RowKit
set_option linter.unusedVariables false
set_option linter.unusedSimpArgs false

def NdAt (w : World) (g o : Nat) (x : Nd) : Prop := w.cell? ⟨g, o, none⟩ = some (.int .i64 x.ar) ∧ w.cell? ⟨g, o + 1, none⟩ = some (.int .i64 x.kd) ∧ w.cell? ⟨g, o + 2, none⟩ = some (.int .u8 x.rt)
theorem NdAt.block {w w' : World} {g o : Nat} {x : Nd} (h : NdAt w g o x) (hb : w'.heap[g]? = w.heap[g]?) : NdAt w' g o x :=
  have e := fun k => World.cell?_of_block (w := w) (a := ⟨g, k, none⟩) hb
  ⟨(e _).trans h.1, (e _).trans h.2.1, (e _).trans h.2.2⟩
/-- A slice of demands that lie one behind the other. -/
def NdRow (w : World) (B : Nat) (A : Option Addr) (L : List Nd) : Prop := L ≠ [] → ∃ g, A = some ⟨g, 0, none⟩ ∧ g < B ∧ ∀ i (h : i < L.length), NdAt w g (i * 3) (L[i]'h)
theorem NdRow.below {w w' : World} {B : Nat} {A : Option Addr} {L : List Nd} (h : NdRow w B A L) (hb : Below B w w') : NdRow w' B A L := fun hne => by
  obtain ⟨g, hA, hg, hr⟩ := h hne
  exact ⟨g, hA, hg, fun i hi => (hr i hi).block (hb.block g hg)⟩

theorem nd_flat (L : List Nd) (i : Nat) (h : i < L.length) (j : Nat) (hj : j < 3) : (L.flatMap Nd.vs)[i * 3 + j]? = (L[i]'h).vs[j]? := by
  induction L generalizing i with
  | nil => simp at h
  | cons r L ih =>
    have hl : r.vs.length = 3 := by simp [Nd.vs]
    rw [List.flatMap_cons]
    cases i with
    | zero => rw [List.getElem?_append_left (by omega)]; simp
    | succ i =>
      rw [List.getElem?_append_right (by omega), hl, show (i + 1) * 3 + j - 3 = i * 3 + j from by omega]
      exact ih i (by simpa using h)

theorem NdOwn.rows {w : World} {B : Nat} {v : Value} {L : List Nd} (h : NdOwn w B v L) (hne : L ≠ []) : ∃ g cap, v = .slice (some ⟨g, 0, none⟩) L.length cap ∧ B ≤ g ∧ g < w.heap.size ∧ (∀ i (hi : i < L.length), NdAt w g (i * 3) (L[i]'hi)) ∧ ∀ o, w.frozen? ⟨g, o, none⟩ = false := by
  have h0 : 0 < L.length := by cases L; exact absurd rfl hne; simp
  rcases h.2 with ⟨_, hz⟩ | ⟨g, cap, cur, hv, hB, hh, _⟩
  · omega
  · have hlt : g < w.heap.size := (Array.getElem?_eq_some_iff.1 hh).1
    have hc := World.ownsRow.cells h (g := g) (by rw [hv]; rfl)
    have hadd : ∀ j, (⟨g, 0, none⟩ : Addr).add j = ⟨g, j, none⟩ := fun j => by unfold Addr.add; split <;> simp_all
    refine ⟨g, cap, hv, hB, hlt, fun i hi => ?_, fun o => by simp [World.frozen?, hh]⟩
    have k : ∀ j, j < 3 → ∀ u, (L[i]'hi).vs[j]? = some u → w.cell? ⟨g, i * 3 + j, none⟩ = some u := fun j hj u hu => by
      have q := hc (i * 3 + j) u ((nd_flat L i hi j hj).trans hu)
      rw [hadd] at q
      exact q
    exact ⟨k 0 (by omega) _ rfl, k 1 (by omega) _ rfl, k 2 (by omega) _ rfl⟩

theorem NdOwn.row {w : World} {B : Nat} {v : Value} {L : List Nd} (h : NdOwn w B v L) : ∃ A cap, v = .slice A L.length cap ∧ NdRow w w.heap.size A L := by
  rcases L with _ | ⟨x, L⟩
  · obtain ⟨A, cap, hv⟩ := nd_slice h
    exact ⟨A, cap, hv, fun hne => absurd rfl hne⟩
  · obtain ⟨g, cap, hv, _, hlt, hr, _⟩ := h.rows (by simp)
    exact ⟨_, cap, hv, fun _ => ⟨g, rfl, hlt, hr⟩⟩

theorem ftNeed : (Tryd.prog.fieldsOf 40).toList = [⟨"Arg", 3, 0, false, "", "", 0⟩, ⟨"Kind", 37, 1, false, "", "", 8⟩, ⟨"Rights", 38, 2, false, "", "", 16⟩] := by kernel_rfl
theorem uNeed : Tryd.prog.underlying 40 = some (.struct (Tryd.prog.fieldsOf 40)) := by kernel_rfl
theorem sNeed : Tryd.prog.stoodInHeld 40 = false := by kernel_rfl
theorem uI : Tryd.prog.underlying 3 = some (.int .i64) := by kernel_rfl
theorem uK : Tryd.prog.underlying 37 = some (.int .i64) := by kernel_rfl
theorem uR : Tryd.prog.underlying 38 = some (.int .u8) := by kernel_rfl
theorem part_int {P : Program} {e : TypeId} {k : IntKind} {xs : Array Value} {off : Nat} {v : Value} (w : World) (hu : P.underlying e = some (.int k)) (hx : xs[off]? = some v) : (part e xs off).run P w = .ok v w := by
  simp [part, isAgg, run_underlying hu, hx]
theorem eq_i {P : Program} {k k' : IntKind} {t : TypeId} (d : Nat) (hu : P.underlying t = some (.int k')) (w : World) (a b : Int) : (Op.equalIn (d + 1) t (.int k a) (.int k b)).run P w = .ok (a == b) w := run_equalIn_int w d t k k' a b hu

theorem need_same (d : Nat) (a b c : Int) (w : World) : (Op.equalIn (d + 2) 40 (.agg #[.int .i64 a, .int .i64 b, .int .u8 c]) (.agg #[.int .i64 a, .int .i64 b, .int .u8 c])).run Tryd.prog w = .ok true w := by
  rw [run_equalIn_agg w (d + 1) _ _ _ uNeed sNeed, ftNeed]
  simp only [Op.eqFields, ne_eq, String.reduceEq, not_false_eq_true, if_true, Sem.run_bind, Sem.run_ite, Sem.run_pure, part_int (P := Tryd.prog) w uI (xs := #[.int .i64 a, .int .i64 b, .int .u8 c]) (off := 0) (v := .int .i64 a) rfl,
    part_int (P := Tryd.prog) w uK (xs := #[.int .i64 a, .int .i64 b, .int .u8 c]) (off := 1) (v := .int .i64 b) rfl, part_int (P := Tryd.prog) w uR (xs := #[.int .i64 a, .int .i64 b, .int .u8 c]) (off := 2) (v := .int .u8 c) rfl,
    eq_i (P := Tryd.prog) (k := .i64) d uI w, eq_i (P := Tryd.prog) (k := .i64) d uK w, eq_i (P := Tryd.prog) (k := .u8) d uR w, Result.andThen_ok]
  simp
theorem need_neq (x : Nd) (w : World) : (binOp .neq 40 (.agg #[.int .i64 x.ar, .int .i64 x.kd, .int .u8 x.rt]) (.agg #[.int .i64 x.ar, .int .i64 x.kd, .int .u8 x.rt])).run Tryd.prog w = .ok (.bool false) w := by
  rw [run_neq_struct, need_same 9998, Result.andThen_ok]
  rfl

set_option maxRecDepth 100000 in
set_option maxHeartbeats 2000000 in
theorem sameNeeds_is (B1 B2 : Nat) (A1 A2 : Option Addr) (c1 c2 : Nat) (L : List Nd) (w : World) (hl : L.length ≤ 2) (h1 : NdRow w B1 A1 L) (h2 : NdRow w B2 A2 L) :
    Calls Tryd.prog 12 #[.slice A1 L.length c1, .slice A2 L.length c2] w fun e w' => e = .returned (.bool true) ∧ ∃ n, w' = w.drewN n := by
  go_enter Tryd.func12, Tryd.ntmps12
  go_wp2
  go_loopw [5] (fun i wr => ∃ k : Nat, k ≤ L.length ∧ i = .int .i64 k ∧ ∃ n, wr = w.drewN n) (fun i _ => L.length - (intOf i).toNat)
  case atStart => exact ⟨0, Nat.zero_le _, rfl, 0, rfl⟩
  case round =>
    obtain ⟨k, hk, rfl, n, rfl⟩ := hrel
    by_cases hlt : k < L.length
    · obtain ⟨g1, rfl, _, hr1⟩ := h1 (fun e => by rw [e] at hlt; simp at hlt)
      obtain ⟨g2, rfl, _, hr2⟩ := h2 (fun e => by rw [e] at hlt; simp at hlt)
      have q1 := hr1 k hlt
      have q2 := hr2 k hlt
      clear h1 h2 hr1 hr2
      obtain ⟨x, hx⟩ : ∃ x, x = L[k]'hlt := ⟨_, rfl⟩
      rw [← hx] at q1 q2
      clear hx
      obtain ⟨a0, a1, a2⟩ := q1
      obtain ⟨b0, b1, b2⟩ := q2
      have hlt' : (k : Int) < L.length := by omega
      have hk0 : (0 : Int) ≤ (k : Int) := by omega
      have hq := need_neq x
      go_wp2_with fail
      go_quiet (fail)
      go_wp2
      go_roundw
      case rel => exact ⟨k + 1, by omega, by go_num, n + nq, by simp [World.drewN, Nat.add_assoc]⟩
      case measure => simp [intOf]; omega
    · have hkl : k = L.length := by omega
      subst hkl
      clear h1 h2
      go_wp2
      go_ret
      exact ⟨rfl, n, rfl⟩

/-- A demand of that argument, whatever else. -/
def NdArg (w : World) (g o : Nat) (a : Int) : Prop := ∃ k r, NdAt w g o ⟨a, k, r⟩
theorem NdArg.set2 {w : World} {g i j : Nat} {a : Int} (h : NdArg w g (i * 3) a) (u : Int) : NdArg (w.setCell ⟨g, j * 3 + 2, none⟩ (.int .u8 u)) g (i * 3) a := by
  obtain ⟨k, r, h0, h1, h2⟩ := h
  have e : ∀ q, q ≠ j * 3 + 2 → (w.setCell ⟨g, j * 3 + 2, none⟩ (.int .u8 u)).cell? ⟨g, q, none⟩ = w.cell? ⟨g, q, none⟩ := fun q hq => World.cell?_setCell_other _ _ _ _ (fun e => hq (by injection e with _ e2; exact e2.symm))
  by_cases hij : i = j
  · subst hij
    exact ⟨k, u, (e _ (by omega)).trans h0, (e _ (by omega)).trans h1, World.cell?_setCell_same _ _ _ h2⟩
  · exact ⟨k, r, (e _ (by omega)).trans h0, (e _ (by omega)).trans h1, (e _ (by omega)).trans h2⟩
theorem NdArg.set1 {w : World} {g i j : Nat} {a : Int} (h : NdArg w g (i * 3) a) (u : Int) : NdArg (w.setCell ⟨g, j * 3 + 1, none⟩ (.int .i64 u)) g (i * 3) a := by
  obtain ⟨k, r, h0, h1, h2⟩ := h
  have e : ∀ q, q ≠ j * 3 + 1 → (w.setCell ⟨g, j * 3 + 1, none⟩ (.int .i64 u)).cell? ⟨g, q, none⟩ = w.cell? ⟨g, q, none⟩ := fun q hq => World.cell?_setCell_other _ _ _ _ (fun e => hq (by injection e with _ e2; exact e2.symm))
  by_cases hij : i = j
  · subst hij
    exact ⟨u, r, (e _ (by omega)).trans h0, World.cell?_setCell_same _ _ _ h1, (e _ (by omega)).trans h2⟩
  · exact ⟨k, r, (e _ (by omega)).trans h0, (e _ (by omega)).trans h1, (e _ (by omega)).trans h2⟩

theorem below_drew (w : World) (B k : Nat) : Below B w (w.drewN k) := ⟨rfl, rfl, rfl, Nat.le_refl _, fun _ _ => rfl⟩
theorem quiet_left {P : Program} {f : FuncId} {args : Array Value} {w : World} {n : Nat} {v : Value}
    (h : Calls P f args (w.drewN n) fun e w' => e = .returned v ∧ w.drewN n = w') : Calls P f args (w.drewN n) fun e w'' => e = .returned v ∧ ∃ m, w'' = w.drewN m :=
  h.mono fun _ _ ⟨he, hm⟩ => ⟨he, n, hm.symm⟩

set_option maxRecDepth 100000 in
set_option maxHeartbeats 4000000 in
theorem rightsTable_walk (k : Int) (w : World) (hN : NamesIn w) : Calls Tryd.prog 4 #[.int .i64 k] w fun e w' => e = .returned (.bool true) ∧ Below w.heap.size w w' := by
  obtain ⟨y, CR⟩ := refOf_is k w
  obtain ⟨_, _, _, _, _, _, har, hlen⟩ := rowT_form _ (kk_lt k)
  have CD := demands_is k
  have CRD := refDemands_is k
  have CN := fun w' (h : NamesIn w') => name_is k w' h
  have CA := args_is k
  have HAR := Lib.hid har
  clear har
  generalize needs (kk k) = L at *
  generalize nm (kk k) = s at *
  generalize ra (kk k) = a at *
  generalize rb (kk k) = b at *
  generalize rc (kk k) = c at *
  generalize rd (kk k) = d at *
  generalize re (kk k) = f at *
  go_enter Tryd.func4, Tryd.ntmps4
  go_wp2_with fail
  refine CR.mono ?_
  rintro e w1 ⟨rfl, hb1⟩
  go_wp2_with fail
  obtain ⟨w2, hw2⟩ : ∃ w2 : World, w2 = w1.alloc (.cells #[.string s, .int .i64 a, .int .i64 b, .int .i64 c, .int .i64 d, .int .i64 f] 27) := ⟨_, rfl⟩
  have hcell : ∀ i, w2.cell? ⟨w1.heap.size, i, none⟩ = (#[.string s, .int .i64 a, .int .i64 b, .int .i64 c, .int .i64 d, .int .i64 f] : Array Value)[i]? := fun i => by rw [hw2]; exact cell_of_row _ _ i _ _ (0, 0) (heap_alloc_new w1 _)
  have hsz : w2.heap.size = w1.heap.size + 1 := by rw [hw2]; simp
  have hb2 : Below w1.heap.size w1 w2 := by rw [hw2]; exact (Below.refl _ w1).alloc (Nat.le_refl _) _
  rw [← hw2]
  clear hw2
  obtain ⟨g0, hg0⟩ : ∃ g0, g0 = w1.heap.size := ⟨_, rfl⟩
  rw [← hg0] at hcell hsz hb2
  simp only [← hg0]
  have p0 := hcell 0
  have p1 := hcell 1
  simp only [List.getElem?_toArray, List.getElem?_cons_zero, List.getElem?_cons_succ] at p0 p1
  clear hcell
  have hbw2 : Below w.heap.size w w2 := hb1.trans (hb2.mono (by rw [hg0]; exact hb1.size))
  have hg0w : w.heap.size ≤ g0 := by rw [hg0]; exact hb1.size
  clear hb1 hb2 hg0 CR
  refine (CRD w2).mono ?_
  rintro e w3 ⟨v3, rfl, ho3, hb3⟩
  obtain ⟨A3, cap3, rfl, hr3⟩ := ho3.row
  go_wp2_with fail
  refine (CD w3).mono ?_
  rintro e w4 ⟨v4, rfl, ho4, hb4⟩
  have hrows := ho4.rows
  obtain ⟨A4, cap4, rfl, hr4⟩ := ho4.row
  have hbw3 := hbw2.trans (hb3.mono hbw2.size)
  have hbw4 := hbw3.trans (hb4.mono hbw3.size)
  have hN4 := hN.below hbw4
  have hg2 : g0 < w2.heap.size := by omega
  have hg3 : g0 < w3.heap.size := Nat.lt_of_lt_of_le hg2 hb3.size
  have q0 := ((hb4.cell (p := ⟨g0, 0, none⟩) hg3).trans ((hb3.cell (p := ⟨g0, 0, none⟩) hg2).trans p0))
  have q1 := ((hb4.cell (p := ⟨g0, 1, none⟩) hg3).trans ((hb3.cell (p := ⟨g0, 1, none⟩) hg2).trans p1))
  have hr34 := hr3.below hb4
  go_wp2_with fail
  go_quiet ((first | (go_at_call 8; exact quiet_left (CN _ hN4)) | (go_at_call 11; exact quiet_left (CA _)) | (go_at_call 12; exact Calls.quiet_of (sameNeeds_is _ _ _ _ _ _ L _ hlen (hr4.below (below_drew _ _ _)) (hr34.below (below_drew _ _ _))))))
  have hg4 : g0 < w4.heap.size := Nat.lt_of_lt_of_le hg3 hb4.size
  have hb45 : Below w3.heap.size w4 (w4.drewN nq) := below_drew _ _ _
  have hrow5 : L ≠ [] → ∃ g, A4 = some ⟨g, 0, none⟩ ∧ w3.heap.size ≤ g ∧ (∀ i (h : i < L.length), NdArg (w4.drewN nq) g (i * 3) (L[i]'h).ar) ∧ ∀ o, (w4.drewN nq).frozen? ⟨g, o, none⟩ = false := fun hne => by
    obtain ⟨g, cap, hv, hB, _, hr, hf⟩ := hrows hne
    injection hv with hv1
    exact ⟨g, hv1, hB, fun i hi => ⟨_, _, hr i hi⟩, hf⟩
  have q1' : (w4.drewN nq).cell? ⟨g0, 1, none⟩ = some (.int .i64 a) := q1
  clear q0 q1 p0 p1 hrows hr4 hr34 CN CA CRD hN4 ho3 ho4
  generalize w4.drewN nq = w5 at *
  go_wp2
  go_loopw [7] (fun i wr => ∃ j : Nat, j ≤ L.length ∧ i = .int .i64 j ∧ Below w3.heap.size w4 wr ∧ (L ≠ [] → ∃ g, A4 = some ⟨g, 0, none⟩ ∧ w3.heap.size ≤ g ∧ (∀ i (h : i < L.length), NdArg wr g (i * 3) (L[i]'h).ar) ∧ ∀ o, wr.frozen? ⟨g, o, none⟩ = false)) (fun i _ => L.length - (intOf i).toNat)
  case atStart => exact ⟨0, Nat.zero_le _, rfl, hb45, hrow5⟩
  case round =>
    obtain ⟨j, hj, rfl, hbr, hrw⟩ := hrel
    have hq1 : wr.cell? ⟨g0, 1, none⟩ = some (.int .i64 a) := (hbr.cell (p := ⟨g0, 1, none⟩) hg3).trans ((hb45.cell (p := ⟨g0, 1, none⟩) hg3).symm.trans q1')
    by_cases hlt : j < L.length
    · obtain ⟨g, rfl, hgw, hrec, hfz⟩ := hrw (fun e => by rw [e] at hlt; simp at hlt)
      obtain ⟨kx, rx, r0, r1, r2⟩ := hrec j hlt
      have hax := HAR.out (L[j]'hlt) (List.getElem_mem hlt)
      obtain ⟨z, hz⟩ : ∃ z, z = (L[j]'hlt).ar := ⟨_, rfl⟩
      simp only at r0 r1 r2
      rw [← hz] at r0 hax
      have hax' : decide (a ≤ z) = false := decide_eq_false (by omega)
      have hjL : (j : Int) < L.length := by omega
      have hj0 : (0 : Int) ≤ (j : Int) := by omega
      have f2 := hfz (j * 3 + 2)
      have f1 := hfz (j * 3 + 1)
      have HREC := Lib.hid hrec
      have HFZ := Lib.hid hfz
      clear hrec hfz hrow5 hrw hz q1'
      go_wp2_with fail
      go_quiet (fail)
      go_wp2
      go_roundw
      case rel =>
        refine ⟨j + 1, by omega, by go_num, ((hbr.trans (below_drew wr _ nq)).setCell (p := ⟨g, j * 3 + 2, none⟩) hgw _).setCell (p := ⟨g, j * 3 + 1, none⟩) hgw _, fun _ => ⟨g, rfl, hgw, fun i hi => ?_, fun o => by rw [World.frozen?_setCell, World.frozen?_setCell]; exact HFZ.out o⟩⟩
        exact NdArg.set1 (NdArg.set2 (show NdArg (wr.drewN nq) g (i * 3) (L[i]'hi).ar from HREC.out i hi) _) _
      case measure => simp [intOf]; omega
    · have hjL : j = L.length := by omega
      subst hjL
      have hr3' := hr3.below (hb4.trans hbr)
      have hz3 := (hb4.trans hbr).size
      have hbwr := hbw3.trans ((hb4.trans hbr).mono hbw3.size)
      clear hrw hrow5 hr3 hbr hb45 q1' hq1
      go_wp2_with fail
      refine (CD _).mono ?_
      rintro e w6 ⟨v6, rfl, ho6, hb6⟩
      obtain ⟨A6, cap6, rfl, hr6⟩ := ho6.row
      have hbw6 := hbwr.trans (hb6.mono hbwr.size)
      have hr36 := hr3'.below (hb6.mono hz3)
      have CS := sameNeeds_is _ _ A6 A3 cap6 cap3 L w6 hlen hr6 hr36
      go_wp2_with fail
      refine CS.mono ?_
      rintro e w7 ⟨rfl, q7, rfl⟩
      go_wp2_with fail
      refine (known_any _).mono ?_
      rintro e w8 ⟨rfl, hb8⟩
      go_wp2
      go_ret
      exact ⟨rfl, hbw6.trans ((below_drew w6 _ q7).trans (hb8.mono hbw6.size))⟩
end Go.Proofs.YtcgmcmnjgimflaaDoor
