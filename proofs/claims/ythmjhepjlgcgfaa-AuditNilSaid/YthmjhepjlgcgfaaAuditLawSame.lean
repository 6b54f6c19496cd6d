/- The law's own same: a ring and the reference's ring that agree look the same, by a walk. -/
import Derived.Test.YthmjhepjlgcgfaaAuditMore
namespace Go.Proofs.Ythmjhepjlgcgfaa
open Go.RowKit
set_option linter.unusedVariables false
set_option linter.unusedSimpArgs false

/-- Both rings, and that they agree. -/
structure Both (w : World) (b g c B n : Nat) (L : Nat → Rec) (v : Value) (W : List Rec) : Prop where
  ring : Ring w b g n L W.length
  ref : RefR w c B n v W
  agree : live L n W.length = W.drop (W.length - n)
  hb : b < B
  hg : g < B
  hB : B ≤ w.heap.size
  small : W.length ≤ 1000

theorem Both.below {w w' : World} {b g c B n : Nat} {L : Nat → Rec} {v : Value} {W : List Rec} (h : Both w b g c B n L v W) (hb : Below w.heap.size w w') : Both w' b g c B n L v W :=
  ⟨h.ring.below hb (Nat.lt_of_lt_of_le h.hb h.hB) (Nat.lt_of_lt_of_le h.hg h.hB), ⟨h.ref.blk.below hb (Nat.lt_of_lt_of_le h.ref.lt h.hB), below_own h.ref.own hb, h.ref.lt⟩, h.agree, h.hb, h.hg, Nat.le_trans h.hB hb.size, h.small⟩

theorem below_drew (w : World) (B k : Nat) : Below B w (w.drewN k) := ⟨rfl, rfl, rfl, Nat.le_refl _, fun _ _ => rfl⟩
theorem Both.drewN {w : World} {b g c B n : Nat} {L : Nat → Rec} {v : Value} {W : List Rec} (h : Both w b g c B n L v W) (k : Nat) : Both (w.drewN k) b g c B n L v W := h.below (below_drew w _ k)

theorem quiet_left {P : Program} {f : FuncId} {args : Array Value} {w : World} {n : Nat} {v : Value}
    (h : Calls P f args (w.drewN n) fun e w' => e = .returned v ∧ w.drewN n = w') : Calls P f args (w.drewN n) fun e w'' => e = .returned v ∧ ∃ m, w'' = w.drewN m :=
  h.mono fun _ _ ⟨he, hm⟩ => ⟨he, n, hm.symm⟩

theorem setTm {w : World} {g o : Nat} {r : Rec} (h : RecAt w g o r) (t : Int) : RecAt (w.setCell ⟨g, o + 1, none⟩ (.int .u64 t)) g o { r with tm := t } := by
  obtain ⟨h0, h1, h2, h3, h4, h5, h6, h7, h8, h9, h10, h11⟩ := h
  have e : ∀ j, j ≠ o + 1 → (w.setCell ⟨g, o + 1, none⟩ (.int .u64 t)).cell? ⟨g, j, none⟩ = w.cell? ⟨g, j, none⟩ := fun j hj => World.cell?_setCell_other _ _ _ _ (fun e => hj (by injection e with _ e2; exact e2.symm))
  have e1 : (w.setCell ⟨g, o + 1, none⟩ (.int .u64 t)).cell? ⟨g, o + 1, none⟩ = some (.int .u64 t) := World.cell?_setCell_same _ _ _ h1
  exact ⟨(e _ (by omega)).trans h0, e1, (e _ (by omega)).trans h2, (e _ (by omega)).trans h3, (e _ (by omega)).trans h4, (e _ (by omega)).trans h5, (e _ (by omega)).trans h6, (e _ (by omega)).trans h7, (e _ (by omega)).trans h8, (e _ (by omega)).trans h9, (e _ (by omega)).trans h10, (e _ (by omega)).trans h11⟩
theorem setTm_other {w : World} {g i p : Nat} {r : Rec} (h : RecAt w g (i * 12) r) (hip : i ≠ p) (u : Value) : RecAt (w.setCell ⟨g, p * 12 + 1, none⟩ u) g (i * 12) r := by
  have e : ∀ j, j < 12 → (w.setCell ⟨g, p * 12 + 1, none⟩ u).cell? ⟨g, i * 12 + j, none⟩ = w.cell? ⟨g, i * 12 + j, none⟩ := fun j hj => World.cell?_setCell_other _ _ _ _ (fun e => by injection e with _ e2; omega)
  exact recAt_of fun j hj => (e j (by simpa [Rec.vs] using hj)).trans (rec_cell h j _ (by rw [List.getElem?_eq_getElem hj]))

theorem live_len (L : Nat → Rec) (n m : Nat) : (live L n m).length = min m n := by simp [live]

set_option maxRecDepth 100000 in
set_option maxHeartbeats 2000000 in
theorem same_row (b g c B n : Nat) (L : Nat → Rec) (v : Value) (W : List Rec) (w : World) (h : Both w b g c B n L v W) :
    Calls Try.prog 11 #[.pointer (some ⟨b, 0, none⟩), .pointer (some ⟨c, 0, none⟩)] w fun e w' => e = .returned (.bool true) ∧ Below w.heap.size w w' := by
  obtain ⟨A, cap, hv, hcap⟩ := own_slice h.ref.own
  subst hv
  obtain ⟨k, hk⟩ : ∃ k, k = W.length - n := ⟨_, rfl⟩
  have hn1 := h.ring.lo
  have hn2 := h.ring.hi
  have hsm := h.small
  have e1 : W.length - min W.length n = k := by omega
  obtain ⟨K, hK⟩ : ∃ K, K = W.length - k := ⟨_, rfl⟩
  have e2 : min W.length n = K := by omega
  have CAll := fun w' (hh : Both w' b g c B n L (.slice A W.length cap) W) => all_row b g n L W.length w' hh.ring ⟨Nat.lt_of_lt_of_le hh.hb hh.hB, Nat.lt_of_lt_of_le hh.hg hh.hB⟩
  have CThere := fun w' (hh : Both w' b g c B n L (.slice A W.length cap) W) => there_row c n W.length cap A w' (hh.ref.blk.cell 0) (hh.ref.blk.cell 1) hn2 hsm hcap
  have CSeq := fun w' (hh : Both w' b g c B n L (.slice A W.length cap) W) => seq_is b g n W.length w' hh.ring.head hn1 hn2
  have CLost := fun w' (hh : Both w' b g c B n L (.slice A W.length cap) W) => lost_is b g n W.length w' hh.ring.head hn1 hn2 (by omega)
  have CLen := fun w' (hh : Both w' b g c B n L (.slice A W.length cap) W) => len_is b g n W.length w' hh.ring.head hn1 hn2 (by omega)
  have CSize := fun w' (hh : Both w' b g c B n L (.slice A W.length cap) W) => size_is b g n W.length w' hh.ring.head hn1 hn2
  have CRLost := fun w' (hh : Both w' b g c B n L (.slice A W.length cap) W) => refLost_row c n W.length cap A w' (hh.ref.blk.cell 0) (hh.ref.blk.cell 1) hn2 hsm
  have HAG := Lib.hid h.agree
  have hll := live_len L n W.length
  rw [e2] at hll CAll CLen
  rw [e1] at CLost
  simp only [← hk] at CThere CRLost
  simp only [← hK] at CThere
  rw [← hk] at HAG
  generalize live L n W.length = X at *
  have hkW : k ≤ W.length := by omega
  clear e1 e2
  have hKle : K ≤ 1000 := by omega
  have HKn := Lib.hid hk
  obtain ⟨A', hA'⟩ : ∃ A', A' = (if cap = k then A else A.map (·.add (k * 12))) := ⟨_, rfl⟩
  simp only [← hA'] at CThere
  have CSame : ∀ w' Bx Ax cx, RowAt w' Bx Ax X → RowAt w' w'.heap.size A W → Calls Try.prog 20 #[.slice Ax K cx, .slice A' K (cap - k)] w' fun e w'' => e = .returned (.bool true) ∧ ∃ q, w'' = w'.drewN q := by
    intro w' Bx Ax cx r1 r2
    have r3 := rowAt_cut (k := k) r2 hkW hcap
    rw [← hA'] at r3
    have q := refSame_row Bx w'.heap.size Ax A' cx (cap - k) X (W.drop k) w' (by omega) (by simp; omega) r1 r3
    rw [hll, List.length_drop, ← hK, decide_eq_true HAG.out] at q
    exact q
  have HA' := Lib.hid hA'
  clear hA' hk
  have HKK := Lib.hid hK
  clear hK
  have HH := h
  have hw1 : IntKind.u64.wrap (W.length : Int) = W.length := by rw [IntKind.wrap_u64]; omega
  have hw2 : IntKind.u64.wrap (k : Int) = k := by rw [IntKind.wrap_u64]; omega
  clear hw1 hw2
  go_enter Try.func11, Try.ntmps11
  go_wp2_with fail
  refine (CAll w h).mono ?_
  rintro e w1 ⟨v1, rfl, ho1, hb1⟩
  obtain ⟨A1, cap1, rfl, hcap1⟩ := own_slice ho1
  have h1 := h.below hb1
  have hR1 : RowAt w1 w1.heap.size A1 X := by rw [← hll] at ho1; exact rowAt_own ho1
  have hRA := rowAt_own h1.ref.own
  have hd0 := h1.ref.blk.cell 0
  have hd1 := h1.ref.blk.cell 1
  simp only [List.getElem?_toArray, List.getElem?_cons_zero, List.getElem?_cons_succ] at hd0 hd1
  have hw1 : IntKind.u64.wrap (W.length : Int) = W.length := by rw [IntKind.wrap_u64]; omega
  have hw2 : IntKind.u64.wrap (k : Int) = k := by rw [IntKind.wrap_u64]; omega
  go_wp2_with fail
  go_quiet ((first | (go_at_call 18; exact Calls.quiet_of (CThere _ (h1.drewN _))) | (go_at_call 20; exact Calls.quiet_of (CSame _ _ _ _ (hR1.below (below_drew w1 _ _)) (hRA.below (below_drew w1 _ _)))) | (go_at_call 17; exact quiet_left (CSeq _ (h1.drewN _))) | (go_at_call 15; exact quiet_left (CLost _ (h1.drewN _))) | (go_at_call 14; exact Calls.quiet_of (CRLost _ (h1.drewN _))) | (go_at_call 16; exact quiet_left (CLen _ (h1.drewN _))) | (go_at_call 28; exact quiet_left (CSize _ (h1.drewN _)))))
  have h2 := h1.drewN nq
  have hbw2 : Below w.heap.size w (w1.drewN nq) := hb1.trans (below_drew w1 _ nq)
  have hrow : X ≠ [] → ∃ g1, A1 = some ⟨g1, 0, none⟩ ∧ w.heap.size ≤ g1 ∧ (∀ i (hi : i < X.length), RecAt (w1.drewN nq) g1 (i * 12) (X[i]'hi)) ∧ ∀ o, (w1.drewN nq).frozen? ⟨g1, o, none⟩ = false := by
    intro hne
    obtain ⟨g1, o1, hA1, _, hr⟩ := hR1 hne
    rcases ho1.2 with ⟨hv, h0⟩ | ⟨g2, cap2, cur, hv, hg2, hhg, _⟩
    · injection hv with hv1
      rw [hv1] at hA1
      cases hA1
    · injection hv with hv1
      rw [hv1] at hA1
      injection hA1 with hA2
      injection hA2 with hA3 hA4
      subst hA3
      subst hA4
      refine ⟨_, hv1, hg2, fun i hi => ?_, fun o => ?_⟩
      · have q := hr i hi
        rw [Nat.zero_add] at q
        exact q.block rfl
      · show World.frozen? w1 _ = false
        simp [World.frozen?, hhg]
  generalize w1.drewN nq = w2 at *
  clear hR1 hRA hd0 hd1 hb1 h1 ho1
  go_wp2
  go_loopw [6] (fun i wr => ∃ j : Nat, j ≤ K ∧ i = .int .i64 j ∧ Below w.heap.size w wr ∧ ∃ X' : List Rec, X'.length = K ∧ (X' ≠ [] → ∃ g1, A1 = some ⟨g1, 0, none⟩ ∧ w.heap.size ≤ g1 ∧ (∀ i (hi : i < X'.length), RecAt wr g1 (i * 12) (X'[i]'hi)) ∧ ∀ o, wr.frozen? ⟨g1, o, none⟩ = false)) (fun i _ => K - (intOf i).toNat)
  case atStart => exact ⟨0, Nat.zero_le _, rfl, hbw2, X, hll, hrow⟩
  case round =>
    obtain ⟨j, hj, rfl, hbr, X', hX', hrw⟩ := hrel
    by_cases hlt : j < K
    · obtain ⟨g1, rfl, hg1, hrec, hfz⟩ := hrw (fun e => by rw [e] at hX'; simp at hX'; omega)
      have hjX : j < X'.length := by omega
      have hrj := hrec j hjX
      obtain ⟨r0, r1, _⟩ := hrj
      have hjK : (j : Int) < K := by omega
      have hj0 : (0 : Int) ≤ (j : Int) := by omega
      have hf1 := hfz (j * 12 + 1)
      have HREC := Lib.hid hrec
      have HFZ := Lib.hid hfz
      clear hrec hfz hrow
      go_wp2
      go_roundw
      case rel =>
        refine ⟨j + 1, by omega, by go_num, hbr.setCell hg1 _, X'.set j { (X'[j]'hjX) with tm := IntKind.u64.wrap ((X'[j]'hjX).tm + 1) }, by simpa using hX', fun _ => ⟨g1, rfl, hg1, fun i hi => ?_, fun o => by rw [World.frozen?_setCell]; exact HFZ.out o⟩⟩
        rw [List.getElem_set]
        by_cases hij : j = i
        · subst hij
          rw [if_pos rfl]
          exact setTm (HREC.out j hjX) _
        · rw [if_neg hij]
          exact setTm_other (HREC.out i (by simpa using hi)) (fun e => hij e.symm) _
      case measure => simp [intOf]; omega
    · have hjK : j = K := by omega
      subst hjK
      have hr := h.below hbr
      clear hrw hrow
      go_wp2_with fail
      refine (CAll wr hr).mono ?_
      rintro e w3 ⟨v3, rfl, ho3, hb3⟩
      obtain ⟨A3, cap3, rfl, hcap3⟩ := own_slice ho3
      have h3 := hr.below hb3
      have hR3 : RowAt w3 w3.heap.size A3 X := by rw [← hll] at ho3; exact rowAt_own ho3
      have hbw3 : Below w.heap.size w w3 := hbr.trans (hb3.mono hbr.size)
      go_wp2_with fail
      refine (CThere w3 h3).mono ?_
      rintro e w4 ⟨rfl, q1, rfl⟩
      go_wp2_with fail
      refine (CSame _ _ _ _ (hR3.below (below_drew w3 _ _)) ((rowAt_own h3.ref.own).below (below_drew w3 _ _))).mono ?_
      rintro e w5 ⟨rfl, q2, rfl⟩
      go_wp2
      go_ret
      exact ⟨rfl, hbw3.trans (below_drew w3 _ _)⟩
end Go.Proofs.Ythmjhepjlgcgfaa
