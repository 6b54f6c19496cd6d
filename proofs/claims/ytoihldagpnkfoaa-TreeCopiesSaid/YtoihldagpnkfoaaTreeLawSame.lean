/- The law's own same, by a walk: true where both agree. Condition: both agree. -/
import Derived.Test.YtoihldagpnkfoaaTreeDo
namespace Go.Proofs.Ytoihldagpnkfoaa
open Go.RowKit
set_option linter.unusedVariables false
set_option linter.unusedSimpArgs false

theorem lies_cut {w : World} {A : Option Addr} {c : Nat} {K : List Nat} (h : Cut w (.slice A K.length c) (nats K)) : Lies w A K := by
  obtain ⟨-, h2, -⟩ := h.reads
  unfold Lies Ints
  rw [nats_len]
  exact h2
theorem prg_under_no {w : World} {f lb : Nat} {v : Value} {F : Fo} (h : Prg w f lb v F) (x y : Int) (hn : F.has x = false ∨ F.has y = false) : Calls Try.prog 13 #[.pointer (some ⟨f, 0, none⟩), .int .i64 x, .int .i64 y] w fun e w' => e = .returned (.bool false) ∧ w = w' := by
  refine (prg_under h x y).mono ?_
  rintro e w' ⟨⟨b, rfl, hb⟩, rfl⟩
  cases b
  · exact ⟨rfl, rfl⟩
  · have := hb.1 rfl
    rcases hn with e | e
    · rw [this.1] at e; cases e
    · rw [this.2.1] at e; cases e
theorem up_no {F : Fo} {z : Int} (h : F.has z = false) : F.up? z = (0, false) := by simp [Fo.up?, h]
theorem up_yes {F : Fo} {j : Nat} (h : F.there j = true) : F.up? (j : Int) = if F.par j = -1 then (0, false) else (F.par j, true) := by
  have hh : F.has (j : Int) = true := by simp [Fo.has, h]
  unfold Fo.up?
  rw [Int.toNat_natCast]
  by_cases e : F.par j = -1 <;> simp [e, hh]
/-- Both say the same of who is under whom. -/
theorem under_same {F : Fo} (hF : WF F) {j : Nat} (hj : F.there j = true) {ds : List Nat} (hfl : Flat F (F.kids (j : Int)) ds) (k : Nat) : F.under (k : Int) (j : Int) ↔ (k : Int) ∈ nats ds := by
  unfold Fo.under
  rw [Int.toNat_natCast, Int.toNat_natCast]
  constructor
  · rintro ⟨_, _, h⟩
    exact List.mem_map.2 ⟨k, (desc_mem hF hfl k).2 h, rfl⟩
  · intro h
    obtain ⟨i, hi, e⟩ := List.mem_map.1 h
    have : i = k := by omega
    subst this
    have ha := (desc_mem hF hfl i).1 hi
    exact ⟨by simp [Fo.has, ha.there], by simp [Fo.has, hj], ha⟩

set_option maxRecDepth 100000 in
set_option maxHeartbeats 4000000 in
theorem same_law (B f lb g qb : Nat) (v : Value) (Q : Qw) (F : Fo) (T : Nat) (w : World) (h : Joint w B f lb g qb v Q F T) :
    Calls Try.prog 19 #[.pointer (some ⟨f, 0, none⟩), .pointer (some ⟨g, 0, none⟩)] w fun e w' => e = .returned (.bool true) ∧ Below w.heap.size w w' := by
  have hF := h.prg.wf
  obtain ⟨lc, hq⟩ := h.ref.qf
  have hrep := h.ref.rep
  have hn2 := hq.n2
  have hkl := kids_le hF (-1)
  have hcells : ∀ W, Below w.heap.size w W → W.cell? ⟨g, 0, none⟩ = some (.slice (some ⟨qb, 0, none⟩) F.n lc) ∧ W.cell? ⟨g, 1, none⟩ = some (.slice Q.rt.A (F.kids (-1)).length Q.rt.c) := by
    intro W hW
    have c := (hq.below hW).cells
    refine ⟨c.1, ?_⟩
    rw [← hrep.rt]
    exact c.2.1
  have hrl : ∀ W, Below w.heap.size w W → Lies W Q.rt.A (F.kids (-1)) := by
    intro W hW
    have c := (hq.below hW).rt
    unfold Rw.v at c
    have := lies_cut c
    rw [hrep.rt] at this
    exact this
  have CLn := fun W (hW : Below w.heap.size w W) => prg_len (h.prg.below hW)
  have CRl := fun W (hW : Below w.heap.size w W) => refLen_is (h.ref.below hW) hF
  have CSz := fun W (hW : Below w.heap.size w W) => prg_size (h.prg.below hW)
  have CRt := fun W (hW : Below w.heap.size w W) => prg_roots (h.prg.below hW)
  obtain ⟨RK, hRK⟩ : ∃ z, z = F.kids (-1) := ⟨_, rfl⟩
  obtain ⟨L, hL⟩ : ∃ z, z = F.n - F.free.length := ⟨_, rfl⟩
  rw [← hRK] at hkl
  simp only [← hRK] at hcells hrl CRt
  simp only [← hL] at CLn CRl
  obtain ⟨rA, hrA⟩ : ∃ z, z = Q.rt.A := ⟨_, rfl⟩
  obtain ⟨rc, hrc⟩ : ∃ z, z = Q.rt.c := ⟨_, rfl⟩
  simp only [← hrA, ← hrc] at hcells hrl
  obtain ⟨c0, c1⟩ := hcells w (Below.refl _ w)
  have HCE := Lib.hid hcells
  have HRL := Lib.hid hrl
  have HLn := Lib.hid CLn
  have HRl := Lib.hid CRl
  have HSz := Lib.hid CSz
  have HRt := Lib.hid CRt
  have HJ := Lib.hid h
  have HQ := Lib.hid hq
  have HWF := Lib.hid hF
  have HREP := Lib.hid hrep
  have HBW : Hid (Below w.heap.size w w.drew) := Lib.hid (Below.refl w.heap.size w).drew
  have hLL : ((L : Int) != (L : Int)) = false := by simp
  have hnn : ((F.n : Int) != (F.n : Int)) = false := by simp
  clear hF hq hrep hcells hrl CLn CRl CSz CRt hRK hL hrA hrc h
  go_enter Try.func19, Try.ntmps19
  go_wp2_with fail
  go_region_held3 (fun w' => w'.cell? ⟨g, 0, none⟩ = some (.slice (some ⟨qb, 0, none⟩) F.n lc) ∧ w'.cell? ⟨g, 1, none⟩ = some (.slice rA RK.length rc)) (go_keep) (first
    | (go_at_call 15; refine (HLn.out _ HBW.out).mono ?_; rintro e w2 ⟨rfl, rfl⟩; obtain ⟨hx0, hx1⟩ := HCE.out _ HBW.out)
    | (go_at_call 41; refine (HRl.out _ HBW.out).mono ?_; rintro e w2 ⟨rfl, rfl⟩; obtain ⟨hx0, hx1⟩ := HCE.out _ HBW.out)
    | (go_at_call 31; refine (HSz.out _ HBW.out).mono ?_; rintro e w2 ⟨rfl, rfl⟩; obtain ⟨hx0, hx1⟩ := HCE.out _ HBW.out)
    | (go_at_call 27; refine (HRt.out _ HBW.out).mono ?_; rintro e w2 ⟨⟨A, c, rfl, ho⟩, hb⟩; (replace HBW := Lib.hid (HBW.out.trans (hb.mono HBW.out.size))); (have HRO := Lib.hid (do_lies ho)); clear ho hb; obtain ⟨hx0, hx1⟩ := HCE.out _ HBW.out)
    | (go_at_call 26; refine (lies_ints (K := RK) (K' := RK) c rc HRO.out (HRL.out _ HBW.out) (by omega) (by omega)).mono ?_; rintro e w2 ⟨rfl, m, rfl⟩; (replace HBW := Lib.hid (HBW.out.trans (below_drewN _ _ m))); obtain ⟨hx0, hx1⟩ := HCE.out _ HBW.out))
  all_goals
    go_wp2_with fail
    clear hx0 hx1 c0 c1
    go_loopw [5] (fun i wr => ∃ z : Int, -1 ≤ z ∧ z ≤ F.n + 1 ∧ i = .int .i64 z ∧ Below w.heap.size w wr) (fun i _ => (F.n + 1 - intOf i).toNat)
    case atStart => exact ⟨-1, by omega, by omega, rfl, HBW.out⟩
    case round =>
      obtain ⟨z, hz1, hz2, rfl, hbr⟩ := hrel
      have J := HJ.out.below hbr
      have HB := Lib.hid hbr
      obtain ⟨c0, -⟩ := HCE.out _ hbr
      have HJR := Lib.hid J
      by_cases hle : z ≤ (F.n : Int)
      · have e0 : decide (z ≤ (F.n : Int)) = true := by simpa using hle
        have CP := prg_parent J.prg z
        have CH := prg_has J.prg z
        have CR := refHas_is (HQ.out.below hbr) z
        rw [has_qrep HREP.out HWF.out] at CR
        cases hhz : F.has z
        · have CC := prg_children_no J.prg z hhz
          have CD := desc_no J.prg z hhz
          have CU := prg_under_no J.prg z 0 (.inl hhz)
          have CV := prg_under_no J.prg 0 z (.inr hhz)
          rw [up_no hhz] at CP
          rw [hhz] at CH CR
          clear hhz J hbr
          go_wp2_with (first | (go_at_call 28; refine CP.mono ?_; rintro e w' ⟨rfl, rfl⟩) | (go_at_call 24; refine CH.mono ?_; rintro e w' ⟨rfl, rfl⟩) | (go_at_call 22; refine CR.mono ?_; rintro e w' ⟨rfl, rfl⟩) | (go_at_call 25; refine CC.mono ?_; rintro e w' ⟨rfl, rfl⟩) | (go_at_call 12; refine CD.mono ?_; rintro e w' ⟨rfl, rfl⟩) | (go_at_call 13; (have := mk1); refine CV.mono ?_; rintro e w' ⟨rfl, rfl⟩) | (go_at_call 13; refine CU.mono ?_; rintro e w' ⟨rfl, rfl⟩; have mk1 := trivial))
          go_roundw
          case rel => exact ⟨z + 1, by omega, by omega, by go_num, HB.out⟩
          case measure => simp [intOf]; omega
        · rw [hhz] at CH CR
          obtain ⟨j, rfl, hj⟩ := has_nat hhz
          rw [up_yes hj] at CP
          have hjn := HWF.out.lt j hj
          obtain ⟨ds, hfl⟩ := flat_ex HWF.out (F.kids (j : Int)) (fun i hi => ((HWF.out.kin _ _).1 hi).1)
          have hdl := desc_len HWF.out hfl
          have hkl2 := kids_le HWF.out (j : Int)
          have hpc := HREP.out.p j hjn
          rw [if_pos hj] at hpc
          have hcells2 : ∀ W, Below wr.heap.size wr W → W.cell? ⟨g, 0, none⟩ = some (.slice (some ⟨qb, 0, none⟩) F.n lc) ∧ W.cell? ⟨qb, j * 4 + 1, none⟩ = some (.int .i64 (F.par j)) ∧ W.cell? ⟨qb, j * 4 + 2, none⟩ = some (.slice (Q.M j).A (F.kids (j : Int)).length (Q.M j).c) := by
            intro W hW
            have hqW := HQ.out.below (HB.out.trans (hW.mono HB.out.size))
            have a := hqW.at_ j hjn
            refine ⟨hqW.cells.1, ?_, ?_⟩
            · rw [← hpc]; exact a.c1
            · rw [← HREP.out.K j hjn]; exact a.c2
          have hkl3 : ∀ W, Below wr.heap.size wr W → Lies W (Q.M j).A (F.kids (j : Int)) := by
            intro W hW
            have hqW := HQ.out.below (HB.out.trans (hW.mono HB.out.size))
            have c := hqW.rows j hjn
            unfold Qd.row Rw.v at c
            simp only at c
            have := lies_cut c
            rw [HREP.out.K j hjn] at this
            exact this
          have CC := fun W (hW : Below wr.heap.size wr W) => prg_children (J.prg.below hW) j hj
          have CD := fun W (hW : Below wr.heap.size wr W) => prg_desc (J.prg.below hW) j hj hfl
          have CQ := fun W (hW : Below wr.heap.size wr W) => refDesc_is (J.ref.below hW) HWF.out j hj hfl
          have HUS := Lib.hid (under_same HWF.out hj hfl)
          have HJF := Lib.hid (And.intro hj hfl)
          obtain ⟨K, hK⟩ : ∃ x, x = F.kids (j : Int) := ⟨_, rfl⟩
          obtain ⟨kA, hkA⟩ : ∃ x, x = (Q.M j).A := ⟨_, rfl⟩
          obtain ⟨kc, hkc⟩ : ∃ x, x = (Q.M j).c := ⟨_, rfl⟩
          obtain ⟨pz, hpz⟩ : ∃ x, x = F.par j := ⟨_, rfl⟩
          rw [← hK] at hkl2
          rw [← hpz] at CP
          simp only [← hK, ← hkA, ← hkc, ← hpz] at hcells2 hkl3 CC
          obtain ⟨-, c1, c2⟩ := hcells2 wr (Below.refl _ wr)
          have HCE2 := Lib.hid hcells2
          have HKL := Lib.hid hkl3
          have HCC := Lib.hid CC
          have HCD := Lib.hid CD
          have HCQ := Lib.hid CQ
          have hj1 : (j : Int) < (F.n : Int) := by omega
          have hj0 : (0 : Int) ≤ (j : Int) := by omega
          have hpcase : pz = -1 ∨ ∃ m : Nat, pz = (m : Int) := by
            rw [hpz]
            rcases HWF.out.up j hj with e | ⟨m, e, _⟩
            · exact .inl e
            · exact .inr ⟨m, e⟩
          have HBV : Hid (Below wr.heap.size wr wr.drew) := Lib.hid (Below.refl wr.heap.size wr).drew
          clear hhz J hbr hpc hcells2 hkl3 CC CD CQ hK hkA hkc hpz hfl hj HBW
          rcases hpcase with rfl | ⟨m, rfl⟩
          · rw [if_pos rfl] at CP
            go_wp2_with (first | (go_at_call 28; refine CP.mono ?_; rintro e w' ⟨rfl, rfl⟩) | (go_at_call 24; refine CH.mono ?_; rintro e w' ⟨rfl, rfl⟩) | (go_at_call 22; refine CR.mono ?_; rintro e w' ⟨rfl, rfl⟩))
            refine wp_region_held_drew (S := (fun w' => w'.cell? ⟨g, 0, none⟩ = some (.slice (some ⟨qb, 0, none⟩) F.n lc) ∧ w'.cell? ⟨qb, j * 4 + 1, none⟩ = some (.int .i64 (-1)) ∧ w'.cell? ⟨qb, j * 4 + 2, none⟩ = some (.slice kA K.length kc))) (by kernel_rfl) (HCE2.out _ HBV.out) (fun hHeld => ?_)
            refine wpAnyH_take (i := 0) (v := ?_) rfl (by kernel_rfl) (by kernel_rfl) (by kernel_rfl) (fun _ _ _ h => h) (Or.inl ⟨by kernel_rfl, ?_⟩) hHeld ?_
            rotate_left
            · (rintro w' ⟨s0, s1, s2⟩; go_simp; first | done | (with_reducible rfl))
            (try simp only [Act.put, List.getElem_toArray, List.getElem_cons_zero, List.getElem_cons_succ, List.setIfInBounds_toArray, List.set_cons_zero, List.set_cons_succ])
            refine wpAnyH_take (i := 1) (v := ?_) rfl (by kernel_rfl) (by kernel_rfl) (by kernel_rfl) (fun _ _ _ h => h) (Or.inl ⟨by kernel_rfl, ?_⟩) hHeld ?_
            rotate_left
            · (rintro w' ⟨s0, s1, s2⟩; go_simp; first | done | (with_reducible rfl))
            (try simp only [Act.put, List.getElem_toArray, List.getElem_cons_zero, List.getElem_cons_succ, List.setIfInBounds_toArray, List.set_cons_zero, List.set_cons_succ])
            refine wpAnyH_take (i := 2) (v := ?_) rfl (by kernel_rfl) (by kernel_rfl) (by kernel_rfl) (fun _ _ _ h => h) (Or.inl ⟨by kernel_rfl, ?_⟩) hHeld ?_
            rotate_left
            · (rintro w' ⟨s0, s1, s2⟩; go_simp; first | done | (with_reducible rfl))
            (try simp only [Act.put, List.getElem_toArray, List.getElem_cons_zero, List.getElem_cons_succ, List.setIfInBounds_toArray, List.set_cons_zero, List.set_cons_succ])
            refine wpAnyH_take (i := 3) (v := ?_) rfl (by kernel_rfl) (by kernel_rfl) (by kernel_rfl) (fun _ _ _ h => h) (Or.inl ⟨by kernel_rfl, ?_⟩) hHeld ?_
            rotate_left
            · (rintro w' ⟨s0, s1, s2⟩; go_simp; first | done | (with_reducible rfl))
            (try simp only [Act.put, List.getElem_toArray, List.getElem_cons_zero, List.getElem_cons_succ, List.setIfInBounds_toArray, List.set_cons_zero, List.set_cons_succ])
            refine wpAnyH_take (i := 4) (v := ?_) rfl (by kernel_rfl) (by kernel_rfl) (by kernel_rfl) (fun _ _ _ h => h) (Or.inl ⟨by kernel_rfl, ?_⟩) hHeld ?_
            rotate_left
            · (rintro w' ⟨s0, s1, s2⟩; go_simp; first | done | (with_reducible rfl))
            (try simp only [Act.put, List.getElem_toArray, List.getElem_cons_zero, List.getElem_cons_succ, List.setIfInBounds_toArray, List.set_cons_zero, List.set_cons_succ])
            refine wpAnyH_take (i := 5) (v := ?_) rfl (by kernel_rfl) (by kernel_rfl) (by kernel_rfl) (fun _ _ _ h => h) (Or.inl ⟨by kernel_rfl, ?_⟩) hHeld ?_
            rotate_left
            · (rintro w' ⟨s0, s1, s2⟩; go_simp; first | done | (with_reducible rfl))
            (try simp only [Act.put, List.getElem_toArray, List.getElem_cons_zero, List.getElem_cons_succ, List.setIfInBounds_toArray, List.set_cons_zero, List.set_cons_succ])
            refine wpAnyH_take (i := 6) (v := ?_) rfl (by kernel_rfl) (by kernel_rfl) (by kernel_rfl) (fun _ _ _ h => h) (Or.inl ⟨by kernel_rfl, ?_⟩) hHeld ?_
            rotate_left
            · (rintro w' ⟨s0, s1, s2⟩; go_simp; first | done | (with_reducible rfl))
            (try simp only [Act.put, List.getElem_toArray, List.getElem_cons_zero, List.getElem_cons_succ, List.setIfInBounds_toArray, List.set_cons_zero, List.set_cons_succ])
            refine wpAnyH_take (i := 7) (v := ?_) rfl (by kernel_rfl) (by kernel_rfl) (by kernel_rfl) (fun _ _ _ h => h) (Or.inl ⟨by kernel_rfl, ?_⟩) hHeld ?_
            rotate_left
            · (rintro w' ⟨s0, s1, s2⟩; go_simp; first | done | (with_reducible rfl))
            (try simp only [Act.put, List.getElem_toArray, List.getElem_cons_zero, List.getElem_cons_succ, List.setIfInBounds_toArray, List.set_cons_zero, List.set_cons_succ])
            refine wpAnyH_take (i := 8) (v := ?_) rfl (by kernel_rfl) (by kernel_rfl) (by kernel_rfl) (fun _ _ _ h => h) (Or.inl ⟨by kernel_rfl, ?_⟩) hHeld ?_
            rotate_left
            · (rintro w' ⟨s0, s1, s2⟩; go_simp; first | done | (with_reducible rfl))
            (try simp only [Act.put, List.getElem_toArray, List.getElem_cons_zero, List.getElem_cons_succ, List.setIfInBounds_toArray, List.set_cons_zero, List.set_cons_succ])
            refine wpAnyH_take (i := 9) (v := ?_) rfl (by kernel_rfl) (by kernel_rfl) (by kernel_rfl) (fun _ _ _ h => h) (Or.inl ⟨by kernel_rfl, ?_⟩) hHeld ?_
            rotate_left
            · (rintro w' ⟨s0, s1, s2⟩; go_simp; first | done | (with_reducible rfl))
            (try simp only [Act.put, List.getElem_toArray, List.getElem_cons_zero, List.getElem_cons_succ, List.setIfInBounds_toArray, List.set_cons_zero, List.set_cons_succ])
            refine wpAnyH_take (i := 10) (v := ?_) rfl (by kernel_rfl) (by kernel_rfl) (by kernel_rfl) (fun _ _ _ h => h) (Or.inl ⟨by kernel_rfl, ?_⟩) hHeld ?_
            rotate_left
            · (rintro w' ⟨s0, s1, s2⟩; go_simp; first | done | (with_reducible rfl))
            (try simp only [Act.put, List.getElem_toArray, List.getElem_cons_zero, List.getElem_cons_succ, List.setIfInBounds_toArray, List.set_cons_zero, List.set_cons_succ])
            refine wpAnyH_take (i := 11) (v := ?_) rfl (by kernel_rfl) (by kernel_rfl) (by kernel_rfl) (fun _ _ _ h => h) (Or.inl ⟨by kernel_rfl, ?_⟩) hHeld ?_
            rotate_left
            · (rintro w' ⟨s0, s1, s2⟩; go_simp; first | done | (with_reducible rfl))
            (try simp only [Act.put, List.getElem_toArray, List.getElem_cons_zero, List.getElem_cons_succ, List.setIfInBounds_toArray, List.set_cons_zero, List.set_cons_succ])
            refine wpAnyH_take (i := 12) (v := ?_) rfl (by kernel_rfl) (by kernel_rfl) (by kernel_rfl) (fun _ _ _ h => h) (Or.inl ⟨by kernel_rfl, ?_⟩) hHeld ?_
            rotate_left
            · (rintro w' ⟨s0, s1, s2⟩; go_simp; first | done | (with_reducible rfl))
            (try simp only [Act.put, List.getElem_toArray, List.getElem_cons_zero, List.getElem_cons_succ, List.setIfInBounds_toArray, List.set_cons_zero, List.set_cons_succ])
            refine wpAnyH_take (i := 13) (v := ?_) rfl (by kernel_rfl) (by kernel_rfl) (by kernel_rfl) (fun _ _ _ h => h) (Or.inl ⟨by kernel_rfl, ?_⟩) hHeld ?_
            rotate_left
            · (rintro w' ⟨s0, s1, s2⟩; go_simp; first | done | (with_reducible rfl))
            (try simp only [Act.put, List.getElem_toArray, List.getElem_cons_zero, List.getElem_cons_succ, List.setIfInBounds_toArray, List.set_cons_zero, List.set_cons_succ])
            refine wpAnyH_take (i := 14) (v := undef) rfl (by kernel_rfl) (by kernel_rfl) (by kernel_rfl) (fun _ _ _ h => h) (Or.inr ⟨by kernel_rfl, rfl⟩) hHeld ?_
            (try simp only [Act.put, List.getElem_toArray, List.getElem_cons_zero, List.getElem_cons_succ, List.setIfInBounds_toArray, List.set_cons_zero, List.set_cons_succ])
            refine wpAnyH_take (i := 15) (v := undef) rfl (by kernel_rfl) (by kernel_rfl) (by kernel_rfl) (fun _ _ _ h => h) (Or.inr ⟨by kernel_rfl, rfl⟩) hHeld ?_
            (try simp only [Act.put, List.getElem_toArray, List.getElem_cons_zero, List.getElem_cons_succ, List.setIfInBounds_toArray, List.set_cons_zero, List.set_cons_succ])
            refine wpAnyH_take (i := 16) (v := undef) rfl (by kernel_rfl) (by kernel_rfl) (by kernel_rfl) (fun _ _ _ h => h) (Or.inr ⟨by kernel_rfl, rfl⟩) hHeld ?_
            (try simp only [Act.put, List.getElem_toArray, List.getElem_cons_zero, List.getElem_cons_succ, List.setIfInBounds_toArray, List.set_cons_zero, List.set_cons_succ])
            refine wpAnyH_take (i := 17) (v := undef) rfl (by kernel_rfl) (by kernel_rfl) (by kernel_rfl) (fun _ _ _ h => h) (Or.inr ⟨by kernel_rfl, rfl⟩) hHeld ?_
            (try simp only [Act.put, List.getElem_toArray, List.getElem_cons_zero, List.getElem_cons_succ, List.setIfInBounds_toArray, List.set_cons_zero, List.set_cons_succ])
            refine wpAnyH_take (i := 18) (v := undef) rfl (by kernel_rfl) (by kernel_rfl) (by kernel_rfl) (fun _ _ _ h => h) (Or.inr ⟨by kernel_rfl, rfl⟩) hHeld ?_
            (try simp only [Act.put, List.getElem_toArray, List.getElem_cons_zero, List.getElem_cons_succ, List.setIfInBounds_toArray, List.set_cons_zero, List.set_cons_succ])
            refine wpAnyH_take (i := 19) (v := undef) rfl (by kernel_rfl) (by kernel_rfl) (by kernel_rfl) (fun _ _ _ h => h) (Or.inr ⟨by kernel_rfl, rfl⟩) hHeld ?_
            (try simp only [Act.put, List.getElem_toArray, List.getElem_cons_zero, List.getElem_cons_succ, List.setIfInBounds_toArray, List.set_cons_zero, List.set_cons_succ])
            refine wpAnyH_take (i := 20) (v := undef) rfl (by kernel_rfl) (by kernel_rfl) (by kernel_rfl) (fun _ _ _ h => h) (Or.inr ⟨by kernel_rfl, rfl⟩) hHeld ?_
            (try simp only [Act.put, List.getElem_toArray, List.getElem_cons_zero, List.getElem_cons_succ, List.setIfInBounds_toArray, List.set_cons_zero, List.set_cons_succ])
            refine wpAnyH_take (i := 21) (v := undef) rfl (by kernel_rfl) (by kernel_rfl) (by kernel_rfl) (fun _ _ _ h => h) (Or.inr ⟨by kernel_rfl, rfl⟩) hHeld ?_
            (try simp only [Act.put, List.getElem_toArray, List.getElem_cons_zero, List.getElem_cons_succ, List.setIfInBounds_toArray, List.set_cons_zero, List.set_cons_succ])
            refine wpAnyH_take (i := 22) (v := undef) rfl (by kernel_rfl) (by kernel_rfl) (by kernel_rfl) (fun _ _ _ h => h) (Or.inr ⟨by kernel_rfl, rfl⟩) hHeld ?_
            (try simp only [Act.put, List.getElem_toArray, List.getElem_cons_zero, List.getElem_cons_succ, List.setIfInBounds_toArray, List.set_cons_zero, List.set_cons_succ])
            refine wpAnyH_take (i := 23) (v := undef) rfl (by kernel_rfl) (by kernel_rfl) (by kernel_rfl) (fun _ _ _ h => h) (Or.inr ⟨by kernel_rfl, rfl⟩) hHeld ?_
            (try simp only [Act.put, List.getElem_toArray, List.getElem_cons_zero, List.getElem_cons_succ, List.setIfInBounds_toArray, List.set_cons_zero, List.set_cons_succ])
            refine wpAnyH_take (i := 24) (v := ?_) rfl (by kernel_rfl) (by kernel_rfl) (by kernel_rfl) (fun _ _ _ h => h) (Or.inl ⟨by kernel_rfl, ?_⟩) hHeld ?_
            rotate_left
            · (rintro w' ⟨s0, s1, s2⟩; go_simp; first | done | (with_reducible rfl))
            (try simp only [Act.put, List.getElem_toArray, List.getElem_cons_zero, List.getElem_cons_succ, List.setIfInBounds_toArray, List.set_cons_zero, List.set_cons_succ])
            refine wpAnyH_take (i := 25) (v := ?_) rfl (by kernel_rfl) (by kernel_rfl) (by kernel_rfl) (fun _ _ _ h => h) (Or.inl ⟨by kernel_rfl, ?_⟩) hHeld ?_
            rotate_left
            · (rintro w' ⟨s0, s1, s2⟩; go_simp; first | done | (with_reducible rfl))
            (try simp only [Act.put, List.getElem_toArray, List.getElem_cons_zero, List.getElem_cons_succ, List.setIfInBounds_toArray, List.set_cons_zero, List.set_cons_succ])
            refine wpAnyH_take (i := 26) (v := ?_) rfl (by kernel_rfl) (by kernel_rfl) (by kernel_rfl) (fun _ _ _ h => h) (Or.inl ⟨by kernel_rfl, ?_⟩) hHeld ?_
            rotate_left
            · (rintro w' ⟨s0, s1, s2⟩; go_simp; first | done | (with_reducible rfl))
            (try simp only [Act.put, List.getElem_toArray, List.getElem_cons_zero, List.getElem_cons_succ, List.setIfInBounds_toArray, List.set_cons_zero, List.set_cons_succ])
            refine wpAnyH_take (i := 27) (v := ?_) rfl (by kernel_rfl) (by kernel_rfl) (by kernel_rfl) (fun _ _ _ h => h) (Or.inl ⟨by kernel_rfl, ?_⟩) hHeld ?_
            rotate_left
            · (rintro w' ⟨s0, s1, s2⟩; go_simp; first | done | (with_reducible rfl))
            (try simp only [Act.put, List.getElem_toArray, List.getElem_cons_zero, List.getElem_cons_succ, List.setIfInBounds_toArray, List.set_cons_zero, List.set_cons_succ])
            refine wpAnyH_take (i := 28) (v := ?_) rfl (by kernel_rfl) (by kernel_rfl) (by kernel_rfl) (fun _ _ _ h => h) (Or.inl ⟨by kernel_rfl, ?_⟩) hHeld ?_
            rotate_left
            · (rintro w' ⟨s0, s1, s2⟩; go_simp; first | done | (with_reducible rfl))
            (try simp only [Act.put, List.getElem_toArray, List.getElem_cons_zero, List.getElem_cons_succ, List.setIfInBounds_toArray, List.set_cons_zero, List.set_cons_succ])
            refine wpAnyH_take (i := 29) (v := ?_) rfl (by kernel_rfl) (by kernel_rfl) (by kernel_rfl) (fun _ _ _ h => h) (Or.inl ⟨by kernel_rfl, ?_⟩) hHeld ?_
            rotate_left
            · (rintro w' ⟨s0, s1, s2⟩; go_simp; first | done | (with_reducible rfl))
            (try simp only [Act.put, List.getElem_toArray, List.getElem_cons_zero, List.getElem_cons_succ, List.setIfInBounds_toArray, List.set_cons_zero, List.set_cons_succ])
            refine wpAnyH_take (i := 30) (v := ?_) rfl (by kernel_rfl) (by kernel_rfl) (by kernel_rfl) (fun _ _ _ h => h) (Or.inl ⟨by kernel_rfl, ?_⟩) hHeld ?_
            rotate_left
            · (rintro w' ⟨s0, s1, s2⟩; go_simp; first | done | (with_reducible rfl))
            (try simp only [Act.put, List.getElem_toArray, List.getElem_cons_zero, List.getElem_cons_succ, List.setIfInBounds_toArray, List.set_cons_zero, List.set_cons_succ])
            refine wpAnyH_take (i := 31) (v := ?_) rfl (by kernel_rfl) (by kernel_rfl) (by kernel_rfl) (fun _ _ _ h => h) (Or.inl ⟨by kernel_rfl, ?_⟩) hHeld ?_
            rotate_left
            · (rintro w' ⟨s0, s1, s2⟩; go_simp; first | done | (with_reducible rfl))
            (try simp only [Act.put, List.getElem_toArray, List.getElem_cons_zero, List.getElem_cons_succ, List.setIfInBounds_toArray, List.set_cons_zero, List.set_cons_succ])
            refine wpAnyH_take (i := 32) (v := ?_) rfl (by kernel_rfl) (by kernel_rfl) (by kernel_rfl) (fun _ _ _ h => h) (Or.inl ⟨by kernel_rfl, ?_⟩) hHeld ?_
            rotate_left
            · (rintro w' ⟨s0, s1, s2⟩; go_simp; first | done | (with_reducible rfl))
            (try simp only [Act.put, List.getElem_toArray, List.getElem_cons_zero, List.getElem_cons_succ, List.setIfInBounds_toArray, List.set_cons_zero, List.set_cons_succ])
            refine wpAnyH_take (i := 33) (v := ?_) rfl (by kernel_rfl) (by kernel_rfl) (by kernel_rfl) (fun _ _ _ h => h) (Or.inl ⟨by kernel_rfl, ?_⟩) hHeld ?_
            rotate_left
            · (rintro w' ⟨s0, s1, s2⟩; go_simp; first | done | (with_reducible rfl))
            (try simp only [Act.put, List.getElem_toArray, List.getElem_cons_zero, List.getElem_cons_succ, List.setIfInBounds_toArray, List.set_cons_zero, List.set_cons_succ])
            refine wpAnyH_take (i := 34) (v := ?_) rfl (by kernel_rfl) (by kernel_rfl) (by kernel_rfl) (fun _ _ _ h => h) (Or.inl ⟨by kernel_rfl, ?_⟩) hHeld ?_
            rotate_left
            · (rintro w' ⟨s0, s1, s2⟩; go_simp; first | done | (with_reducible rfl))
            (try simp only [Act.put, List.getElem_toArray, List.getElem_cons_zero, List.getElem_cons_succ, List.setIfInBounds_toArray, List.set_cons_zero, List.set_cons_succ])
            refine wpAnyH_take (i := 35) (v := ?_) rfl (by kernel_rfl) (by kernel_rfl) (by kernel_rfl) (fun _ _ _ h => h) (Or.inl ⟨by kernel_rfl, ?_⟩) hHeld ?_
            rotate_left
            · (rintro w' ⟨s0, s1, s2⟩; go_simp; first | done | (with_reducible rfl))
            (try simp only [Act.put, List.getElem_toArray, List.getElem_cons_zero, List.getElem_cons_succ, List.setIfInBounds_toArray, List.set_cons_zero, List.set_cons_succ])
            refine wpAnyH_take (i := 36) (v := ?_) rfl (by kernel_rfl) (by kernel_rfl) (by kernel_rfl) (fun _ _ _ h => h) (Or.inl ⟨by kernel_rfl, ?_⟩) hHeld ?_
            rotate_left
            · (rintro w' ⟨s0, s1, s2⟩; go_simp; first | done | (with_reducible rfl))
            (try simp only [Act.put, List.getElem_toArray, List.getElem_cons_zero, List.getElem_cons_succ, List.setIfInBounds_toArray, List.set_cons_zero, List.set_cons_succ])
            refine wpAnyH_take (i := 38) (v := ?_) rfl (by kernel_rfl) (by kernel_rfl) (by kernel_rfl) (fun _ _ _ h => h) (Or.inl ⟨by kernel_rfl, ?_⟩) hHeld ?_
            rotate_left
            · (rintro w' ⟨s0, s1, s2⟩; go_simp; first | done | (with_reducible rfl))
            (try simp only [Act.put, List.getElem_toArray, List.getElem_cons_zero, List.getElem_cons_succ, List.setIfInBounds_toArray, List.set_cons_zero, List.set_cons_succ])
            refine wpAnyH_take (i := 39) (v := ?_) rfl (by kernel_rfl) (by kernel_rfl) (by kernel_rfl) (fun _ _ _ h => h) (Or.inl ⟨by kernel_rfl, ?_⟩) hHeld ?_
            rotate_left
            · (rintro w' ⟨s0, s1, s2⟩; go_simp; first | done | (with_reducible rfl))
            (try simp only [Act.put, List.getElem_toArray, List.getElem_cons_zero, List.getElem_cons_succ, List.setIfInBounds_toArray, List.set_cons_zero, List.set_cons_succ])
            refine wpAnyH_take (i := 40) (v := ?_) rfl (by kernel_rfl) (by kernel_rfl) (by kernel_rfl) (fun _ _ _ h => h) (Or.inl ⟨by kernel_rfl, ?_⟩) hHeld ?_
            rotate_left
            · (rintro w' ⟨s0, s1, s2⟩; go_simp; first | done | (with_reducible rfl))
            (try simp only [Act.put, List.getElem_toArray, List.getElem_cons_zero, List.getElem_cons_succ, List.setIfInBounds_toArray, List.set_cons_zero, List.set_cons_succ])
            refine wpAnyH_take (i := 41) (v := ?_) rfl (by kernel_rfl) (by kernel_rfl) (by kernel_rfl) (fun _ _ _ h => h) (Or.inl ⟨by kernel_rfl, ?_⟩) hHeld ?_
            rotate_left
            · (rintro w' ⟨s0, s1, s2⟩; go_simp; first | done | (with_reducible rfl))
            (try simp only [Act.put, List.getElem_toArray, List.getElem_cons_zero, List.getElem_cons_succ, List.setIfInBounds_toArray, List.set_cons_zero, List.set_cons_succ])
            refine wpAnyH_take (i := 42) (v := ?_) rfl (by kernel_rfl) (by kernel_rfl) (by kernel_rfl) (fun _ _ _ h => h) (Or.inl ⟨by kernel_rfl, ?_⟩) hHeld ?_
            rotate_left
            · (rintro w' ⟨s0, s1, s2⟩; go_simp; first | done | (with_reducible rfl))
            (try simp only [Act.put, List.getElem_toArray, List.getElem_cons_zero, List.getElem_cons_succ, List.setIfInBounds_toArray, List.set_cons_zero, List.set_cons_succ])
            refine wpAnyH_take (i := 43) (v := ?_) rfl (by kernel_rfl) (by kernel_rfl) (by kernel_rfl) (fun _ _ _ h => h) (Or.inl ⟨by kernel_rfl, ?_⟩) hHeld ?_
            rotate_left
            · (rintro w' ⟨s0, s1, s2⟩; go_simp; first | done | (with_reducible rfl))
            (try simp only [Act.put, List.getElem_toArray, List.getElem_cons_zero, List.getElem_cons_succ, List.setIfInBounds_toArray, List.set_cons_zero, List.set_cons_succ])
            refine wpAnyH_take (i := 44) (v := ?_) rfl (by kernel_rfl) (by kernel_rfl) (by kernel_rfl) (fun _ _ _ h => h) (Or.inl ⟨by kernel_rfl, ?_⟩) hHeld ?_
            rotate_left
            · (rintro w' ⟨s0, s1, s2⟩; go_simp; first | done | (with_reducible rfl))
            (try simp only [Act.put, List.getElem_toArray, List.getElem_cons_zero, List.getElem_cons_succ, List.setIfInBounds_toArray, List.set_cons_zero, List.set_cons_succ])
            refine wpAnyH_take (i := 45) (v := ?_) rfl (by kernel_rfl) (by kernel_rfl) (by kernel_rfl) (fun _ _ _ h => h) (Or.inl ⟨by kernel_rfl, ?_⟩) hHeld ?_
            rotate_left
            · (rintro w' ⟨s0, s1, s2⟩; go_simp; first | done | (with_reducible rfl))
            (try simp only [Act.put, List.getElem_toArray, List.getElem_cons_zero, List.getElem_cons_succ, List.setIfInBounds_toArray, List.set_cons_zero, List.set_cons_succ])
            refine wpAnyH_ready (rs := [37]) (by kernel_rfl) (by simp) ?_
            refine AllReadyH.cons rfl (fun Kp hKp => ?_) AllReadyH.nil
            go_simp
            (refine (HCC.out _ HBV.out).mono ?_; rintro e w2 ⟨⟨A9, c9, rfl, ho⟩, hb⟩; (replace HBV := Lib.hid (HBV.out.trans (hb.mono HBV.out.size))); (have HCO := Lib.hid (do_lies ho)); clear ho hb)
            try dsimp only
            clear hHeld
            refine hKp.out _ _ (HCE2.out _ HBV.out) (fun hHeld => ?_)
            clear hKp Kp
            (try simp only [Act.put, List.getElem_toArray, List.getElem_cons_zero, List.getElem_cons_succ, List.setIfInBounds_toArray, List.set_cons_zero, List.set_cons_succ])
            refine wpAnyH_ready (rs := [46]) (by kernel_rfl) (by simp) ?_
            refine AllReadyH.cons rfl (fun Kp hKp => ?_) AllReadyH.nil
            go_simp
            (refine (lies_ints (K := K) (K' := K) c9 kc HCO.out (HKL.out _ HBV.out) (by omega) (by omega)).mono ?_; rintro e w2 ⟨rfl, m1, rfl⟩; (replace HBV := Lib.hid (HBV.out.trans (below_drewN _ _ m1))); simp only [decide_true])
            try dsimp only
            clear hHeld
            refine hKp.out _ _ (HCE2.out _ HBV.out) (fun hHeld => ?_)
            clear hKp Kp
            (try simp only [Act.put, List.getElem_toArray, List.getElem_cons_zero, List.getElem_cons_succ, List.setIfInBounds_toArray, List.set_cons_zero, List.set_cons_succ])
            refine wpAnyH_take (i := 47) (v := ?_) rfl (by kernel_rfl) (by kernel_rfl) (by kernel_rfl) (fun _ _ _ h => h) (Or.inl ⟨by kernel_rfl, ?_⟩) hHeld ?_
            rotate_left
            · (rintro w' ⟨s0, s1, s2⟩; go_simp; first | done | (with_reducible rfl))
            (try simp only [Act.put, List.getElem_toArray, List.getElem_cons_zero, List.getElem_cons_succ, List.setIfInBounds_toArray, List.set_cons_zero, List.set_cons_succ])
            refine wpAnyH_take (i := 48) (v := ?_) rfl (by kernel_rfl) (by kernel_rfl) (by kernel_rfl) (fun _ _ _ h => h) (Or.inl ⟨by kernel_rfl, ?_⟩) hHeld ?_
            rotate_left
            · (rintro w' ⟨s0, s1, s2⟩; go_simp; first | done | (with_reducible rfl))
            (try simp only [Act.put, List.getElem_toArray, List.getElem_cons_zero, List.getElem_cons_succ, List.setIfInBounds_toArray, List.set_cons_zero, List.set_cons_succ])
            refine wpAnyH_take (i := 49) (v := ?_) rfl (by kernel_rfl) (by kernel_rfl) (by kernel_rfl) (fun _ _ _ h => h) (Or.inl ⟨by kernel_rfl, ?_⟩) hHeld ?_
            rotate_left
            · (rintro w' ⟨s0, s1, s2⟩; go_simp; first | done | (with_reducible rfl))
            (try simp only [Act.put, List.getElem_toArray, List.getElem_cons_zero, List.getElem_cons_succ, List.setIfInBounds_toArray, List.set_cons_zero, List.set_cons_succ])
            refine wpAnyH_take (i := 50) (v := ?_) rfl (by kernel_rfl) (by kernel_rfl) (by kernel_rfl) (fun _ _ _ h => h) (Or.inl ⟨by kernel_rfl, ?_⟩) hHeld ?_
            rotate_left
            · (rintro w' ⟨s0, s1, s2⟩; go_simp; first | done | (with_reducible rfl))
            (try simp only [Act.put, List.getElem_toArray, List.getElem_cons_zero, List.getElem_cons_succ, List.setIfInBounds_toArray, List.set_cons_zero, List.set_cons_succ])
            refine wpAnyH_take (i := 51) (v := ?_) rfl (by kernel_rfl) (by kernel_rfl) (by kernel_rfl) (fun _ _ _ h => h) (Or.inl ⟨by kernel_rfl, ?_⟩) hHeld ?_
            rotate_left
            · (rintro w' ⟨s0, s1, s2⟩; go_simp; first | done | (with_reducible rfl))
            (try simp only [Act.put, List.getElem_toArray, List.getElem_cons_zero, List.getElem_cons_succ, List.setIfInBounds_toArray, List.set_cons_zero, List.set_cons_succ])
            refine wpAnyH_take (i := 53) (v := ?_) rfl (by kernel_rfl) (by kernel_rfl) (by kernel_rfl) (fun _ _ _ h => h) (Or.inl ⟨by kernel_rfl, ?_⟩) hHeld ?_
            rotate_left
            · (rintro w' ⟨s0, s1, s2⟩; go_simp; first | done | (with_reducible rfl))
            (try simp only [Act.put, List.getElem_toArray, List.getElem_cons_zero, List.getElem_cons_succ, List.setIfInBounds_toArray, List.set_cons_zero, List.set_cons_succ])
            refine wpAnyH_take (i := 54) (v := ?_) rfl (by kernel_rfl) (by kernel_rfl) (by kernel_rfl) (fun _ _ _ h => h) (Or.inl ⟨by kernel_rfl, ?_⟩) hHeld ?_
            rotate_left
            · (rintro w' ⟨s0, s1, s2⟩; go_simp; first | done | (with_reducible rfl))
            (try simp only [Act.put, List.getElem_toArray, List.getElem_cons_zero, List.getElem_cons_succ, List.setIfInBounds_toArray, List.set_cons_zero, List.set_cons_succ])
            refine wpAnyH_ready (rs := [52]) (by kernel_rfl) (by simp) ?_
            refine AllReadyH.cons rfl (fun Kp hKp => ?_) AllReadyH.nil
            go_simp
            (refine (HCD.out _ HBV.out).mono ?_; rintro e w2 ⟨⟨dA, dc, rfl, ho⟩, hb⟩; (replace HBV := Lib.hid (HBV.out.trans (hb.mono HBV.out.size))); (have HDO := Lib.hid (do_lies ho)); clear ho hb)
            try dsimp only
            clear hHeld
            refine hKp.out _ _ (HCE2.out _ HBV.out) (fun hHeld => ?_)
            clear hKp Kp
            (try simp only [Act.put, List.getElem_toArray, List.getElem_cons_zero, List.getElem_cons_succ, List.setIfInBounds_toArray, List.set_cons_zero, List.set_cons_succ])
            refine wpAnyH_ready (rs := [55]) (by kernel_rfl) (by simp) ?_
            refine AllReadyH.cons rfl (fun Kp hKp => ?_) AllReadyH.nil
            go_simp
            (refine (HCQ.out _ HBV.out).mono ?_; rintro e w2 ⟨⟨dA', dc', rfl, ho⟩, hb⟩; (replace HDO := Lib.hid (HDO.out.below hb)); (replace HBV := Lib.hid (HBV.out.trans (hb.mono HBV.out.size))); (have HDQ := Lib.hid (do_lies ho)); clear ho hb)
            try dsimp only
            clear hHeld
            refine hKp.out _ _ (HCE2.out _ HBV.out) (fun hHeld => ?_)
            clear hKp Kp
            (try simp only [Act.put, List.getElem_toArray, List.getElem_cons_zero, List.getElem_cons_succ, List.setIfInBounds_toArray, List.set_cons_zero, List.set_cons_succ])
            refine wpAnyH_ready (rs := [56]) (by kernel_rfl) (by simp) ?_
            refine AllReadyH.cons rfl (fun Kp hKp => ?_) AllReadyH.nil
            go_simp
            (refine (lies_ints (K := ds) (K' := ds) dc dc' HDO.out HDQ.out (by omega) (by omega)).mono ?_; rintro e w2 ⟨rfl, m2, rfl⟩; (replace HBV := Lib.hid (HBV.out.trans (below_drewN _ _ m2))); simp only [decide_true])
            try dsimp only
            clear hHeld
            refine hKp.out _ _ (HCE2.out _ HBV.out) (fun hHeld => ?_)
            clear hKp Kp
            (try simp only [Act.put, List.getElem_toArray, List.getElem_cons_zero, List.getElem_cons_succ, List.setIfInBounds_toArray, List.set_cons_zero, List.set_cons_succ])
            refine wpAnyH_take (i := 57) (v := ?_) rfl (by kernel_rfl) (by kernel_rfl) (by kernel_rfl) (fun _ _ _ h => h) (Or.inl ⟨by kernel_rfl, ?_⟩) hHeld ?_
            rotate_left
            · (rintro w' ⟨s0, s1, s2⟩; go_simp; first | done | (with_reducible rfl))
            (try simp only [Act.put, List.getElem_toArray, List.getElem_cons_zero, List.getElem_cons_succ, List.setIfInBounds_toArray, List.set_cons_zero, List.set_cons_succ])
            refine wpAnyH_take (i := 58) (v := ?_) rfl (by kernel_rfl) (by kernel_rfl) (by kernel_rfl) (fun _ _ _ h => h) (Or.inl ⟨by kernel_rfl, ?_⟩) hHeld ?_
            rotate_left
            · (rintro w' ⟨s0, s1, s2⟩; go_simp; first | done | (with_reducible rfl))
            (try simp only [Act.put, List.getElem_toArray, List.getElem_cons_zero, List.getElem_cons_succ, List.setIfInBounds_toArray, List.set_cons_zero, List.set_cons_succ])
            refine wpAnyH_done (by kernel_rfl) ?_ _
            all_goals
              clear c0 c1 c2 CP CH CR
              go_wp2_with fail
              have HBO := Lib.hid (HB.out.trans (HBV.out.mono HB.out.size))
              go_loopw [8] (fun i wx => ∃ k : Nat, k ≤ F.n ∧ i = .int .i64 k ∧ Below w.heap.size w wx) (fun i _ => F.n - (intOf i).toNat)
              case atStart => exact ⟨0, Nat.zero_le _, rfl, HBO.out⟩
              case round =>
                obtain ⟨k, hk, rfl, hbx⟩ := hrel
                obtain ⟨c0, -⟩ := HCE.out _ hbx
                have HBX := Lib.hid hbx
                clear hbx
                by_cases hlt : k < F.n
                · have CU := prg_under (HJ.out.below HBX.out).prg (k : Int) (j : Int)
                  have CUQ := refUnder_is (HJ.out.below HBX.out).ref HWF.out (k : Int) j HJF.out.1 HJF.out.2
                  have hkn : (k : Int) < (F.n : Int) := by omega
                  go_wp2_with (first | (go_at_call 13; refine CU.mono ?_; rintro e w' ⟨⟨b1, rfl, hb1⟩, rfl⟩; have HB1 := Lib.hid hb1; clear hb1) | (go_at_call 43; refine CUQ.mono ?_; rintro e w' ⟨⟨b2, rfl, hb2⟩, hb⟩; (have h12 : b1 = b2 := Bool.eq_iff_iff.2 ((HB1.out.trans (HUS.out k)).trans hb2.symm)); subst h12; (have hbb : (b1 != b1) = false := by simp); (have HBY := Lib.hid (HBX.out.trans (hb.mono HBX.out.size))); clear hb2 hb))
                  go_roundw
                  case rel => exact ⟨k + 1, by omega, by go_num, HBY.out⟩
                  case measure => simp [intOf]; omega
                · have hkn : k = F.n := by omega
                  subst hkn
                  go_wp2_with fail
                  go_roundw
                  case rel => exact ⟨j + 1, by omega, by omega, by go_num, HBX.out⟩
                  case measure => simp [intOf]; omega
          · have hm1 : ¬ ((m : Nat) : Int) = -1 := by omega
            rw [if_neg hm1] at CP
            have hm0 : decide ((0 : Int) ≤ (m : Int)) = true := by simp
            have hmm : ((m : Int) != (m : Int)) = false := by simp
            go_wp2_with (first | (go_at_call 28; refine CP.mono ?_; rintro e w' ⟨rfl, rfl⟩) | (go_at_call 24; refine CH.mono ?_; rintro e w' ⟨rfl, rfl⟩) | (go_at_call 22; refine CR.mono ?_; rintro e w' ⟨rfl, rfl⟩))
            refine wp_region_held_drew (S := (fun w' => w'.cell? ⟨g, 0, none⟩ = some (.slice (some ⟨qb, 0, none⟩) F.n lc) ∧ w'.cell? ⟨qb, j * 4 + 1, none⟩ = some (.int .i64 m) ∧ w'.cell? ⟨qb, j * 4 + 2, none⟩ = some (.slice kA K.length kc))) (by kernel_rfl) (HCE2.out _ HBV.out) (fun hHeld => ?_)
            refine wpAnyH_take (i := 0) (v := ?_) rfl (by kernel_rfl) (by kernel_rfl) (by kernel_rfl) (fun _ _ _ h => h) (Or.inl ⟨by kernel_rfl, ?_⟩) hHeld ?_
            rotate_left
            · (rintro w' ⟨s0, s1, s2⟩; go_simp; first | done | (with_reducible rfl))
            (try simp only [Act.put, List.getElem_toArray, List.getElem_cons_zero, List.getElem_cons_succ, List.setIfInBounds_toArray, List.set_cons_zero, List.set_cons_succ])
            refine wpAnyH_take (i := 1) (v := ?_) rfl (by kernel_rfl) (by kernel_rfl) (by kernel_rfl) (fun _ _ _ h => h) (Or.inl ⟨by kernel_rfl, ?_⟩) hHeld ?_
            rotate_left
            · (rintro w' ⟨s0, s1, s2⟩; go_simp; first | done | (with_reducible rfl))
            (try simp only [Act.put, List.getElem_toArray, List.getElem_cons_zero, List.getElem_cons_succ, List.setIfInBounds_toArray, List.set_cons_zero, List.set_cons_succ])
            refine wpAnyH_take (i := 2) (v := ?_) rfl (by kernel_rfl) (by kernel_rfl) (by kernel_rfl) (fun _ _ _ h => h) (Or.inl ⟨by kernel_rfl, ?_⟩) hHeld ?_
            rotate_left
            · (rintro w' ⟨s0, s1, s2⟩; go_simp; first | done | (with_reducible rfl))
            (try simp only [Act.put, List.getElem_toArray, List.getElem_cons_zero, List.getElem_cons_succ, List.setIfInBounds_toArray, List.set_cons_zero, List.set_cons_succ])
            refine wpAnyH_take (i := 3) (v := ?_) rfl (by kernel_rfl) (by kernel_rfl) (by kernel_rfl) (fun _ _ _ h => h) (Or.inl ⟨by kernel_rfl, ?_⟩) hHeld ?_
            rotate_left
            · (rintro w' ⟨s0, s1, s2⟩; go_simp; first | done | (with_reducible rfl))
            (try simp only [Act.put, List.getElem_toArray, List.getElem_cons_zero, List.getElem_cons_succ, List.setIfInBounds_toArray, List.set_cons_zero, List.set_cons_succ])
            refine wpAnyH_take (i := 4) (v := ?_) rfl (by kernel_rfl) (by kernel_rfl) (by kernel_rfl) (fun _ _ _ h => h) (Or.inl ⟨by kernel_rfl, ?_⟩) hHeld ?_
            rotate_left
            · (rintro w' ⟨s0, s1, s2⟩; go_simp; first | done | (with_reducible rfl))
            (try simp only [Act.put, List.getElem_toArray, List.getElem_cons_zero, List.getElem_cons_succ, List.setIfInBounds_toArray, List.set_cons_zero, List.set_cons_succ])
            refine wpAnyH_take (i := 5) (v := ?_) rfl (by kernel_rfl) (by kernel_rfl) (by kernel_rfl) (fun _ _ _ h => h) (Or.inl ⟨by kernel_rfl, ?_⟩) hHeld ?_
            rotate_left
            · (rintro w' ⟨s0, s1, s2⟩; go_simp; first | done | (with_reducible rfl))
            (try simp only [Act.put, List.getElem_toArray, List.getElem_cons_zero, List.getElem_cons_succ, List.setIfInBounds_toArray, List.set_cons_zero, List.set_cons_succ])
            refine wpAnyH_take (i := 6) (v := ?_) rfl (by kernel_rfl) (by kernel_rfl) (by kernel_rfl) (fun _ _ _ h => h) (Or.inl ⟨by kernel_rfl, ?_⟩) hHeld ?_
            rotate_left
            · (rintro w' ⟨s0, s1, s2⟩; go_simp; first | done | (with_reducible rfl))
            (try simp only [Act.put, List.getElem_toArray, List.getElem_cons_zero, List.getElem_cons_succ, List.setIfInBounds_toArray, List.set_cons_zero, List.set_cons_succ])
            refine wpAnyH_take (i := 7) (v := ?_) rfl (by kernel_rfl) (by kernel_rfl) (by kernel_rfl) (fun _ _ _ h => h) (Or.inl ⟨by kernel_rfl, ?_⟩) hHeld ?_
            rotate_left
            · (rintro w' ⟨s0, s1, s2⟩; go_simp; first | done | (with_reducible rfl))
            (try simp only [Act.put, List.getElem_toArray, List.getElem_cons_zero, List.getElem_cons_succ, List.setIfInBounds_toArray, List.set_cons_zero, List.set_cons_succ])
            refine wpAnyH_take (i := 8) (v := ?_) rfl (by kernel_rfl) (by kernel_rfl) (by kernel_rfl) (fun _ _ _ h => h) (Or.inl ⟨by kernel_rfl, ?_⟩) hHeld ?_
            rotate_left
            · (rintro w' ⟨s0, s1, s2⟩; go_simp; first | done | (with_reducible rfl))
            (try simp only [Act.put, List.getElem_toArray, List.getElem_cons_zero, List.getElem_cons_succ, List.setIfInBounds_toArray, List.set_cons_zero, List.set_cons_succ])
            refine wpAnyH_take (i := 9) (v := ?_) rfl (by kernel_rfl) (by kernel_rfl) (by kernel_rfl) (fun _ _ _ h => h) (Or.inl ⟨by kernel_rfl, ?_⟩) hHeld ?_
            rotate_left
            · (rintro w' ⟨s0, s1, s2⟩; go_simp; first | done | (with_reducible rfl))
            (try simp only [Act.put, List.getElem_toArray, List.getElem_cons_zero, List.getElem_cons_succ, List.setIfInBounds_toArray, List.set_cons_zero, List.set_cons_succ])
            refine wpAnyH_take (i := 10) (v := ?_) rfl (by kernel_rfl) (by kernel_rfl) (by kernel_rfl) (fun _ _ _ h => h) (Or.inl ⟨by kernel_rfl, ?_⟩) hHeld ?_
            rotate_left
            · (rintro w' ⟨s0, s1, s2⟩; go_simp; first | done | (with_reducible rfl))
            (try simp only [Act.put, List.getElem_toArray, List.getElem_cons_zero, List.getElem_cons_succ, List.setIfInBounds_toArray, List.set_cons_zero, List.set_cons_succ])
            refine wpAnyH_take (i := 11) (v := ?_) rfl (by kernel_rfl) (by kernel_rfl) (by kernel_rfl) (fun _ _ _ h => h) (Or.inl ⟨by kernel_rfl, ?_⟩) hHeld ?_
            rotate_left
            · (rintro w' ⟨s0, s1, s2⟩; go_simp; first | done | (with_reducible rfl))
            (try simp only [Act.put, List.getElem_toArray, List.getElem_cons_zero, List.getElem_cons_succ, List.setIfInBounds_toArray, List.set_cons_zero, List.set_cons_succ])
            refine wpAnyH_take (i := 12) (v := ?_) rfl (by kernel_rfl) (by kernel_rfl) (by kernel_rfl) (fun _ _ _ h => h) (Or.inl ⟨by kernel_rfl, ?_⟩) hHeld ?_
            rotate_left
            · (rintro w' ⟨s0, s1, s2⟩; go_simp; first | done | (with_reducible rfl))
            (try simp only [Act.put, List.getElem_toArray, List.getElem_cons_zero, List.getElem_cons_succ, List.setIfInBounds_toArray, List.set_cons_zero, List.set_cons_succ])
            refine wpAnyH_take (i := 13) (v := ?_) rfl (by kernel_rfl) (by kernel_rfl) (by kernel_rfl) (fun _ _ _ h => h) (Or.inl ⟨by kernel_rfl, ?_⟩) hHeld ?_
            rotate_left
            · (rintro w' ⟨s0, s1, s2⟩; go_simp; first | done | (with_reducible rfl))
            (try simp only [Act.put, List.getElem_toArray, List.getElem_cons_zero, List.getElem_cons_succ, List.setIfInBounds_toArray, List.set_cons_zero, List.set_cons_succ])
            refine wpAnyH_take (i := 14) (v := ?_) rfl (by kernel_rfl) (by kernel_rfl) (by kernel_rfl) (fun _ _ _ h => h) (Or.inl ⟨by kernel_rfl, ?_⟩) hHeld ?_
            rotate_left
            · (rintro w' ⟨s0, s1, s2⟩; go_simp; first | done | (with_reducible rfl))
            (try simp only [Act.put, List.getElem_toArray, List.getElem_cons_zero, List.getElem_cons_succ, List.setIfInBounds_toArray, List.set_cons_zero, List.set_cons_succ])
            refine wpAnyH_take (i := 15) (v := ?_) rfl (by kernel_rfl) (by kernel_rfl) (by kernel_rfl) (fun _ _ _ h => h) (Or.inl ⟨by kernel_rfl, ?_⟩) hHeld ?_
            rotate_left
            · (rintro w' ⟨s0, s1, s2⟩; go_simp; first | done | (with_reducible rfl))
            (try simp only [Act.put, List.getElem_toArray, List.getElem_cons_zero, List.getElem_cons_succ, List.setIfInBounds_toArray, List.set_cons_zero, List.set_cons_succ])
            refine wpAnyH_take (i := 16) (v := ?_) rfl (by kernel_rfl) (by kernel_rfl) (by kernel_rfl) (fun _ _ _ h => h) (Or.inl ⟨by kernel_rfl, ?_⟩) hHeld ?_
            rotate_left
            · (rintro w' ⟨s0, s1, s2⟩; go_simp; first | done | (with_reducible rfl))
            (try simp only [Act.put, List.getElem_toArray, List.getElem_cons_zero, List.getElem_cons_succ, List.setIfInBounds_toArray, List.set_cons_zero, List.set_cons_succ])
            refine wpAnyH_take (i := 17) (v := ?_) rfl (by kernel_rfl) (by kernel_rfl) (by kernel_rfl) (fun _ _ _ h => h) (Or.inl ⟨by kernel_rfl, ?_⟩) hHeld ?_
            rotate_left
            · (rintro w' ⟨s0, s1, s2⟩; go_simp; first | done | (with_reducible rfl))
            (try simp only [Act.put, List.getElem_toArray, List.getElem_cons_zero, List.getElem_cons_succ, List.setIfInBounds_toArray, List.set_cons_zero, List.set_cons_succ])
            refine wpAnyH_take (i := 18) (v := ?_) rfl (by kernel_rfl) (by kernel_rfl) (by kernel_rfl) (fun _ _ _ h => h) (Or.inl ⟨by kernel_rfl, ?_⟩) hHeld ?_
            rotate_left
            · (rintro w' ⟨s0, s1, s2⟩; go_simp; first | done | (with_reducible rfl))
            (try simp only [Act.put, List.getElem_toArray, List.getElem_cons_zero, List.getElem_cons_succ, List.setIfInBounds_toArray, List.set_cons_zero, List.set_cons_succ])
            refine wpAnyH_take (i := 19) (v := ?_) rfl (by kernel_rfl) (by kernel_rfl) (by kernel_rfl) (fun _ _ _ h => h) (Or.inl ⟨by kernel_rfl, ?_⟩) hHeld ?_
            rotate_left
            · (rintro w' ⟨s0, s1, s2⟩; go_simp; first | done | (with_reducible rfl))
            (try simp only [Act.put, List.getElem_toArray, List.getElem_cons_zero, List.getElem_cons_succ, List.setIfInBounds_toArray, List.set_cons_zero, List.set_cons_succ])
            refine wpAnyH_take (i := 20) (v := ?_) rfl (by kernel_rfl) (by kernel_rfl) (by kernel_rfl) (fun _ _ _ h => h) (Or.inl ⟨by kernel_rfl, ?_⟩) hHeld ?_
            rotate_left
            · (rintro w' ⟨s0, s1, s2⟩; go_simp; first | done | (with_reducible rfl))
            (try simp only [Act.put, List.getElem_toArray, List.getElem_cons_zero, List.getElem_cons_succ, List.setIfInBounds_toArray, List.set_cons_zero, List.set_cons_succ])
            refine wpAnyH_take (i := 21) (v := ?_) rfl (by kernel_rfl) (by kernel_rfl) (by kernel_rfl) (fun _ _ _ h => h) (Or.inl ⟨by kernel_rfl, ?_⟩) hHeld ?_
            rotate_left
            · (rintro w' ⟨s0, s1, s2⟩; go_simp; first | done | (with_reducible rfl))
            (try simp only [Act.put, List.getElem_toArray, List.getElem_cons_zero, List.getElem_cons_succ, List.setIfInBounds_toArray, List.set_cons_zero, List.set_cons_succ])
            refine wpAnyH_take (i := 22) (v := ?_) rfl (by kernel_rfl) (by kernel_rfl) (by kernel_rfl) (fun _ _ _ h => h) (Or.inl ⟨by kernel_rfl, ?_⟩) hHeld ?_
            rotate_left
            · (rintro w' ⟨s0, s1, s2⟩; go_simp; first | done | (with_reducible rfl))
            (try simp only [Act.put, List.getElem_toArray, List.getElem_cons_zero, List.getElem_cons_succ, List.setIfInBounds_toArray, List.set_cons_zero, List.set_cons_succ])
            refine wpAnyH_take (i := 23) (v := ?_) rfl (by kernel_rfl) (by kernel_rfl) (by kernel_rfl) (fun _ _ _ h => h) (Or.inl ⟨by kernel_rfl, ?_⟩) hHeld ?_
            rotate_left
            · (rintro w' ⟨s0, s1, s2⟩; go_simp; first | done | (with_reducible rfl))
            (try simp only [Act.put, List.getElem_toArray, List.getElem_cons_zero, List.getElem_cons_succ, List.setIfInBounds_toArray, List.set_cons_zero, List.set_cons_succ])
            refine wpAnyH_take (i := 24) (v := ?_) rfl (by kernel_rfl) (by kernel_rfl) (by kernel_rfl) (fun _ _ _ h => h) (Or.inl ⟨by kernel_rfl, ?_⟩) hHeld ?_
            rotate_left
            · (rintro w' ⟨s0, s1, s2⟩; go_simp; first | done | (with_reducible rfl))
            (try simp only [Act.put, List.getElem_toArray, List.getElem_cons_zero, List.getElem_cons_succ, List.setIfInBounds_toArray, List.set_cons_zero, List.set_cons_succ])
            refine wpAnyH_take (i := 25) (v := ?_) rfl (by kernel_rfl) (by kernel_rfl) (by kernel_rfl) (fun _ _ _ h => h) (Or.inl ⟨by kernel_rfl, ?_⟩) hHeld ?_
            rotate_left
            · (rintro w' ⟨s0, s1, s2⟩; go_simp; first | done | (with_reducible rfl))
            (try simp only [Act.put, List.getElem_toArray, List.getElem_cons_zero, List.getElem_cons_succ, List.setIfInBounds_toArray, List.set_cons_zero, List.set_cons_succ])
            refine wpAnyH_take (i := 26) (v := ?_) rfl (by kernel_rfl) (by kernel_rfl) (by kernel_rfl) (fun _ _ _ h => h) (Or.inl ⟨by kernel_rfl, ?_⟩) hHeld ?_
            rotate_left
            · (rintro w' ⟨s0, s1, s2⟩; go_simp; first | done | (with_reducible rfl))
            (try simp only [Act.put, List.getElem_toArray, List.getElem_cons_zero, List.getElem_cons_succ, List.setIfInBounds_toArray, List.set_cons_zero, List.set_cons_succ])
            refine wpAnyH_take (i := 27) (v := ?_) rfl (by kernel_rfl) (by kernel_rfl) (by kernel_rfl) (fun _ _ _ h => h) (Or.inl ⟨by kernel_rfl, ?_⟩) hHeld ?_
            rotate_left
            · (rintro w' ⟨s0, s1, s2⟩; go_simp; first | done | (with_reducible rfl))
            (try simp only [Act.put, List.getElem_toArray, List.getElem_cons_zero, List.getElem_cons_succ, List.setIfInBounds_toArray, List.set_cons_zero, List.set_cons_succ])
            refine wpAnyH_take (i := 28) (v := ?_) rfl (by kernel_rfl) (by kernel_rfl) (by kernel_rfl) (fun _ _ _ h => h) (Or.inl ⟨by kernel_rfl, ?_⟩) hHeld ?_
            rotate_left
            · (rintro w' ⟨s0, s1, s2⟩; go_simp; first | done | (with_reducible rfl))
            (try simp only [Act.put, List.getElem_toArray, List.getElem_cons_zero, List.getElem_cons_succ, List.setIfInBounds_toArray, List.set_cons_zero, List.set_cons_succ])
            refine wpAnyH_take (i := 29) (v := ?_) rfl (by kernel_rfl) (by kernel_rfl) (by kernel_rfl) (fun _ _ _ h => h) (Or.inl ⟨by kernel_rfl, ?_⟩) hHeld ?_
            rotate_left
            · (rintro w' ⟨s0, s1, s2⟩; go_simp; first | done | (with_reducible rfl))
            (try simp only [Act.put, List.getElem_toArray, List.getElem_cons_zero, List.getElem_cons_succ, List.setIfInBounds_toArray, List.set_cons_zero, List.set_cons_succ])
            refine wpAnyH_take (i := 30) (v := undef) rfl (by kernel_rfl) (by kernel_rfl) (by kernel_rfl) (fun _ _ _ h => h) (Or.inr ⟨by kernel_rfl, rfl⟩) hHeld ?_
            (try simp only [Act.put, List.getElem_toArray, List.getElem_cons_zero, List.getElem_cons_succ, List.setIfInBounds_toArray, List.set_cons_zero, List.set_cons_succ])
            refine wpAnyH_take (i := 31) (v := undef) rfl (by kernel_rfl) (by kernel_rfl) (by kernel_rfl) (fun _ _ _ h => h) (Or.inr ⟨by kernel_rfl, rfl⟩) hHeld ?_
            (try simp only [Act.put, List.getElem_toArray, List.getElem_cons_zero, List.getElem_cons_succ, List.setIfInBounds_toArray, List.set_cons_zero, List.set_cons_succ])
            refine wpAnyH_take (i := 32) (v := ?_) rfl (by kernel_rfl) (by kernel_rfl) (by kernel_rfl) (fun _ _ _ h => h) (Or.inl ⟨by kernel_rfl, ?_⟩) hHeld ?_
            rotate_left
            · (rintro w' ⟨s0, s1, s2⟩; go_simp; first | done | (with_reducible rfl))
            (try simp only [Act.put, List.getElem_toArray, List.getElem_cons_zero, List.getElem_cons_succ, List.setIfInBounds_toArray, List.set_cons_zero, List.set_cons_succ])
            refine wpAnyH_take (i := 33) (v := ?_) rfl (by kernel_rfl) (by kernel_rfl) (by kernel_rfl) (fun _ _ _ h => h) (Or.inl ⟨by kernel_rfl, ?_⟩) hHeld ?_
            rotate_left
            · (rintro w' ⟨s0, s1, s2⟩; go_simp; first | done | (with_reducible rfl))
            (try simp only [Act.put, List.getElem_toArray, List.getElem_cons_zero, List.getElem_cons_succ, List.setIfInBounds_toArray, List.set_cons_zero, List.set_cons_succ])
            refine wpAnyH_take (i := 34) (v := ?_) rfl (by kernel_rfl) (by kernel_rfl) (by kernel_rfl) (fun _ _ _ h => h) (Or.inl ⟨by kernel_rfl, ?_⟩) hHeld ?_
            rotate_left
            · (rintro w' ⟨s0, s1, s2⟩; go_simp; first | done | (with_reducible rfl))
            (try simp only [Act.put, List.getElem_toArray, List.getElem_cons_zero, List.getElem_cons_succ, List.setIfInBounds_toArray, List.set_cons_zero, List.set_cons_succ])
            refine wpAnyH_take (i := 35) (v := ?_) rfl (by kernel_rfl) (by kernel_rfl) (by kernel_rfl) (fun _ _ _ h => h) (Or.inl ⟨by kernel_rfl, ?_⟩) hHeld ?_
            rotate_left
            · (rintro w' ⟨s0, s1, s2⟩; go_simp; first | done | (with_reducible rfl))
            (try simp only [Act.put, List.getElem_toArray, List.getElem_cons_zero, List.getElem_cons_succ, List.setIfInBounds_toArray, List.set_cons_zero, List.set_cons_succ])
            refine wpAnyH_take (i := 36) (v := ?_) rfl (by kernel_rfl) (by kernel_rfl) (by kernel_rfl) (fun _ _ _ h => h) (Or.inl ⟨by kernel_rfl, ?_⟩) hHeld ?_
            rotate_left
            · (rintro w' ⟨s0, s1, s2⟩; go_simp; first | done | (with_reducible rfl))
            (try simp only [Act.put, List.getElem_toArray, List.getElem_cons_zero, List.getElem_cons_succ, List.setIfInBounds_toArray, List.set_cons_zero, List.set_cons_succ])
            refine wpAnyH_take (i := 38) (v := ?_) rfl (by kernel_rfl) (by kernel_rfl) (by kernel_rfl) (fun _ _ _ h => h) (Or.inl ⟨by kernel_rfl, ?_⟩) hHeld ?_
            rotate_left
            · (rintro w' ⟨s0, s1, s2⟩; go_simp; first | done | (with_reducible rfl))
            (try simp only [Act.put, List.getElem_toArray, List.getElem_cons_zero, List.getElem_cons_succ, List.setIfInBounds_toArray, List.set_cons_zero, List.set_cons_succ])
            refine wpAnyH_take (i := 39) (v := ?_) rfl (by kernel_rfl) (by kernel_rfl) (by kernel_rfl) (fun _ _ _ h => h) (Or.inl ⟨by kernel_rfl, ?_⟩) hHeld ?_
            rotate_left
            · (rintro w' ⟨s0, s1, s2⟩; go_simp; first | done | (with_reducible rfl))
            (try simp only [Act.put, List.getElem_toArray, List.getElem_cons_zero, List.getElem_cons_succ, List.setIfInBounds_toArray, List.set_cons_zero, List.set_cons_succ])
            refine wpAnyH_take (i := 40) (v := ?_) rfl (by kernel_rfl) (by kernel_rfl) (by kernel_rfl) (fun _ _ _ h => h) (Or.inl ⟨by kernel_rfl, ?_⟩) hHeld ?_
            rotate_left
            · (rintro w' ⟨s0, s1, s2⟩; go_simp; first | done | (with_reducible rfl))
            (try simp only [Act.put, List.getElem_toArray, List.getElem_cons_zero, List.getElem_cons_succ, List.setIfInBounds_toArray, List.set_cons_zero, List.set_cons_succ])
            refine wpAnyH_take (i := 41) (v := ?_) rfl (by kernel_rfl) (by kernel_rfl) (by kernel_rfl) (fun _ _ _ h => h) (Or.inl ⟨by kernel_rfl, ?_⟩) hHeld ?_
            rotate_left
            · (rintro w' ⟨s0, s1, s2⟩; go_simp; first | done | (with_reducible rfl))
            (try simp only [Act.put, List.getElem_toArray, List.getElem_cons_zero, List.getElem_cons_succ, List.setIfInBounds_toArray, List.set_cons_zero, List.set_cons_succ])
            refine wpAnyH_take (i := 42) (v := ?_) rfl (by kernel_rfl) (by kernel_rfl) (by kernel_rfl) (fun _ _ _ h => h) (Or.inl ⟨by kernel_rfl, ?_⟩) hHeld ?_
            rotate_left
            · (rintro w' ⟨s0, s1, s2⟩; go_simp; first | done | (with_reducible rfl))
            (try simp only [Act.put, List.getElem_toArray, List.getElem_cons_zero, List.getElem_cons_succ, List.setIfInBounds_toArray, List.set_cons_zero, List.set_cons_succ])
            refine wpAnyH_take (i := 43) (v := ?_) rfl (by kernel_rfl) (by kernel_rfl) (by kernel_rfl) (fun _ _ _ h => h) (Or.inl ⟨by kernel_rfl, ?_⟩) hHeld ?_
            rotate_left
            · (rintro w' ⟨s0, s1, s2⟩; go_simp; first | done | (with_reducible rfl))
            (try simp only [Act.put, List.getElem_toArray, List.getElem_cons_zero, List.getElem_cons_succ, List.setIfInBounds_toArray, List.set_cons_zero, List.set_cons_succ])
            refine wpAnyH_take (i := 44) (v := ?_) rfl (by kernel_rfl) (by kernel_rfl) (by kernel_rfl) (fun _ _ _ h => h) (Or.inl ⟨by kernel_rfl, ?_⟩) hHeld ?_
            rotate_left
            · (rintro w' ⟨s0, s1, s2⟩; go_simp; first | done | (with_reducible rfl))
            (try simp only [Act.put, List.getElem_toArray, List.getElem_cons_zero, List.getElem_cons_succ, List.setIfInBounds_toArray, List.set_cons_zero, List.set_cons_succ])
            refine wpAnyH_take (i := 45) (v := ?_) rfl (by kernel_rfl) (by kernel_rfl) (by kernel_rfl) (fun _ _ _ h => h) (Or.inl ⟨by kernel_rfl, ?_⟩) hHeld ?_
            rotate_left
            · (rintro w' ⟨s0, s1, s2⟩; go_simp; first | done | (with_reducible rfl))
            (try simp only [Act.put, List.getElem_toArray, List.getElem_cons_zero, List.getElem_cons_succ, List.setIfInBounds_toArray, List.set_cons_zero, List.set_cons_succ])
            refine wpAnyH_ready (rs := [37]) (by kernel_rfl) (by simp) ?_
            refine AllReadyH.cons rfl (fun Kp hKp => ?_) AllReadyH.nil
            go_simp
            (refine (HCC.out _ HBV.out).mono ?_; rintro e w2 ⟨⟨A9, c9, rfl, ho⟩, hb⟩; (replace HBV := Lib.hid (HBV.out.trans (hb.mono HBV.out.size))); (have HCO := Lib.hid (do_lies ho)); clear ho hb)
            try dsimp only
            clear hHeld
            refine hKp.out _ _ (HCE2.out _ HBV.out) (fun hHeld => ?_)
            clear hKp Kp
            (try simp only [Act.put, List.getElem_toArray, List.getElem_cons_zero, List.getElem_cons_succ, List.setIfInBounds_toArray, List.set_cons_zero, List.set_cons_succ])
            refine wpAnyH_ready (rs := [46]) (by kernel_rfl) (by simp) ?_
            refine AllReadyH.cons rfl (fun Kp hKp => ?_) AllReadyH.nil
            go_simp
            (refine (lies_ints (K := K) (K' := K) c9 kc HCO.out (HKL.out _ HBV.out) (by omega) (by omega)).mono ?_; rintro e w2 ⟨rfl, m1, rfl⟩; (replace HBV := Lib.hid (HBV.out.trans (below_drewN _ _ m1))); simp only [decide_true])
            try dsimp only
            clear hHeld
            refine hKp.out _ _ (HCE2.out _ HBV.out) (fun hHeld => ?_)
            clear hKp Kp
            (try simp only [Act.put, List.getElem_toArray, List.getElem_cons_zero, List.getElem_cons_succ, List.setIfInBounds_toArray, List.set_cons_zero, List.set_cons_succ])
            refine wpAnyH_take (i := 47) (v := ?_) rfl (by kernel_rfl) (by kernel_rfl) (by kernel_rfl) (fun _ _ _ h => h) (Or.inl ⟨by kernel_rfl, ?_⟩) hHeld ?_
            rotate_left
            · (rintro w' ⟨s0, s1, s2⟩; go_simp; first | done | (with_reducible rfl))
            (try simp only [Act.put, List.getElem_toArray, List.getElem_cons_zero, List.getElem_cons_succ, List.setIfInBounds_toArray, List.set_cons_zero, List.set_cons_succ])
            refine wpAnyH_take (i := 48) (v := ?_) rfl (by kernel_rfl) (by kernel_rfl) (by kernel_rfl) (fun _ _ _ h => h) (Or.inl ⟨by kernel_rfl, ?_⟩) hHeld ?_
            rotate_left
            · (rintro w' ⟨s0, s1, s2⟩; go_simp; first | done | (with_reducible rfl))
            (try simp only [Act.put, List.getElem_toArray, List.getElem_cons_zero, List.getElem_cons_succ, List.setIfInBounds_toArray, List.set_cons_zero, List.set_cons_succ])
            refine wpAnyH_take (i := 49) (v := ?_) rfl (by kernel_rfl) (by kernel_rfl) (by kernel_rfl) (fun _ _ _ h => h) (Or.inl ⟨by kernel_rfl, ?_⟩) hHeld ?_
            rotate_left
            · (rintro w' ⟨s0, s1, s2⟩; go_simp; first | done | (with_reducible rfl))
            (try simp only [Act.put, List.getElem_toArray, List.getElem_cons_zero, List.getElem_cons_succ, List.setIfInBounds_toArray, List.set_cons_zero, List.set_cons_succ])
            refine wpAnyH_take (i := 50) (v := ?_) rfl (by kernel_rfl) (by kernel_rfl) (by kernel_rfl) (fun _ _ _ h => h) (Or.inl ⟨by kernel_rfl, ?_⟩) hHeld ?_
            rotate_left
            · (rintro w' ⟨s0, s1, s2⟩; go_simp; first | done | (with_reducible rfl))
            (try simp only [Act.put, List.getElem_toArray, List.getElem_cons_zero, List.getElem_cons_succ, List.setIfInBounds_toArray, List.set_cons_zero, List.set_cons_succ])
            refine wpAnyH_take (i := 51) (v := ?_) rfl (by kernel_rfl) (by kernel_rfl) (by kernel_rfl) (fun _ _ _ h => h) (Or.inl ⟨by kernel_rfl, ?_⟩) hHeld ?_
            rotate_left
            · (rintro w' ⟨s0, s1, s2⟩; go_simp; first | done | (with_reducible rfl))
            (try simp only [Act.put, List.getElem_toArray, List.getElem_cons_zero, List.getElem_cons_succ, List.setIfInBounds_toArray, List.set_cons_zero, List.set_cons_succ])
            refine wpAnyH_take (i := 53) (v := ?_) rfl (by kernel_rfl) (by kernel_rfl) (by kernel_rfl) (fun _ _ _ h => h) (Or.inl ⟨by kernel_rfl, ?_⟩) hHeld ?_
            rotate_left
            · (rintro w' ⟨s0, s1, s2⟩; go_simp; first | done | (with_reducible rfl))
            (try simp only [Act.put, List.getElem_toArray, List.getElem_cons_zero, List.getElem_cons_succ, List.setIfInBounds_toArray, List.set_cons_zero, List.set_cons_succ])
            refine wpAnyH_take (i := 54) (v := ?_) rfl (by kernel_rfl) (by kernel_rfl) (by kernel_rfl) (fun _ _ _ h => h) (Or.inl ⟨by kernel_rfl, ?_⟩) hHeld ?_
            rotate_left
            · (rintro w' ⟨s0, s1, s2⟩; go_simp; first | done | (with_reducible rfl))
            (try simp only [Act.put, List.getElem_toArray, List.getElem_cons_zero, List.getElem_cons_succ, List.setIfInBounds_toArray, List.set_cons_zero, List.set_cons_succ])
            refine wpAnyH_ready (rs := [52]) (by kernel_rfl) (by simp) ?_
            refine AllReadyH.cons rfl (fun Kp hKp => ?_) AllReadyH.nil
            go_simp
            (refine (HCD.out _ HBV.out).mono ?_; rintro e w2 ⟨⟨dA, dc, rfl, ho⟩, hb⟩; (replace HBV := Lib.hid (HBV.out.trans (hb.mono HBV.out.size))); (have HDO := Lib.hid (do_lies ho)); clear ho hb)
            try dsimp only
            clear hHeld
            refine hKp.out _ _ (HCE2.out _ HBV.out) (fun hHeld => ?_)
            clear hKp Kp
            (try simp only [Act.put, List.getElem_toArray, List.getElem_cons_zero, List.getElem_cons_succ, List.setIfInBounds_toArray, List.set_cons_zero, List.set_cons_succ])
            refine wpAnyH_ready (rs := [55]) (by kernel_rfl) (by simp) ?_
            refine AllReadyH.cons rfl (fun Kp hKp => ?_) AllReadyH.nil
            go_simp
            (refine (HCQ.out _ HBV.out).mono ?_; rintro e w2 ⟨⟨dA', dc', rfl, ho⟩, hb⟩; (replace HDO := Lib.hid (HDO.out.below hb)); (replace HBV := Lib.hid (HBV.out.trans (hb.mono HBV.out.size))); (have HDQ := Lib.hid (do_lies ho)); clear ho hb)
            try dsimp only
            clear hHeld
            refine hKp.out _ _ (HCE2.out _ HBV.out) (fun hHeld => ?_)
            clear hKp Kp
            (try simp only [Act.put, List.getElem_toArray, List.getElem_cons_zero, List.getElem_cons_succ, List.setIfInBounds_toArray, List.set_cons_zero, List.set_cons_succ])
            refine wpAnyH_ready (rs := [56]) (by kernel_rfl) (by simp) ?_
            refine AllReadyH.cons rfl (fun Kp hKp => ?_) AllReadyH.nil
            go_simp
            (refine (lies_ints (K := ds) (K' := ds) dc dc' HDO.out HDQ.out (by omega) (by omega)).mono ?_; rintro e w2 ⟨rfl, m2, rfl⟩; (replace HBV := Lib.hid (HBV.out.trans (below_drewN _ _ m2))); simp only [decide_true])
            try dsimp only
            clear hHeld
            refine hKp.out _ _ (HCE2.out _ HBV.out) (fun hHeld => ?_)
            clear hKp Kp
            (try simp only [Act.put, List.getElem_toArray, List.getElem_cons_zero, List.getElem_cons_succ, List.setIfInBounds_toArray, List.set_cons_zero, List.set_cons_succ])
            refine wpAnyH_take (i := 57) (v := ?_) rfl (by kernel_rfl) (by kernel_rfl) (by kernel_rfl) (fun _ _ _ h => h) (Or.inl ⟨by kernel_rfl, ?_⟩) hHeld ?_
            rotate_left
            · (rintro w' ⟨s0, s1, s2⟩; go_simp; first | done | (with_reducible rfl))
            (try simp only [Act.put, List.getElem_toArray, List.getElem_cons_zero, List.getElem_cons_succ, List.setIfInBounds_toArray, List.set_cons_zero, List.set_cons_succ])
            refine wpAnyH_take (i := 58) (v := ?_) rfl (by kernel_rfl) (by kernel_rfl) (by kernel_rfl) (fun _ _ _ h => h) (Or.inl ⟨by kernel_rfl, ?_⟩) hHeld ?_
            rotate_left
            · (rintro w' ⟨s0, s1, s2⟩; go_simp; first | done | (with_reducible rfl))
            (try simp only [Act.put, List.getElem_toArray, List.getElem_cons_zero, List.getElem_cons_succ, List.setIfInBounds_toArray, List.set_cons_zero, List.set_cons_succ])
            refine wpAnyH_done (by kernel_rfl) ?_ _
            all_goals
              clear c0 c1 c2 CP CH CR
              go_wp2_with fail
              have HBO := Lib.hid (HB.out.trans (HBV.out.mono HB.out.size))
              go_loopw [8] (fun i wx => ∃ k : Nat, k ≤ F.n ∧ i = .int .i64 k ∧ Below w.heap.size w wx) (fun i _ => F.n - (intOf i).toNat)
              case atStart => exact ⟨0, Nat.zero_le _, rfl, HBO.out⟩
              case round =>
                obtain ⟨k, hk, rfl, hbx⟩ := hrel
                obtain ⟨c0, -⟩ := HCE.out _ hbx
                have HBX := Lib.hid hbx
                clear hbx
                by_cases hlt : k < F.n
                · have CU := prg_under (HJ.out.below HBX.out).prg (k : Int) (j : Int)
                  have CUQ := refUnder_is (HJ.out.below HBX.out).ref HWF.out (k : Int) j HJF.out.1 HJF.out.2
                  have hkn : (k : Int) < (F.n : Int) := by omega
                  go_wp2_with (first | (go_at_call 13; refine CU.mono ?_; rintro e w' ⟨⟨b1, rfl, hb1⟩, rfl⟩; have HB1 := Lib.hid hb1; clear hb1) | (go_at_call 43; refine CUQ.mono ?_; rintro e w' ⟨⟨b2, rfl, hb2⟩, hb⟩; (have h12 : b1 = b2 := Bool.eq_iff_iff.2 ((HB1.out.trans (HUS.out k)).trans hb2.symm)); subst h12; (have hbb : (b1 != b1) = false := by simp); (have HBY := Lib.hid (HBX.out.trans (hb.mono HBX.out.size))); clear hb2 hb))
                  go_roundw
                  case rel => exact ⟨k + 1, by omega, by go_num, HBY.out⟩
                  case measure => simp [intOf]; omega
                · have hkn : k = F.n := by omega
                  subst hkn
                  go_wp2_with fail
                  go_roundw
                  case rel => exact ⟨j + 1, by omega, by omega, by go_num, HBX.out⟩
                  case measure => simp [intOf]; omega
      · have e0 : decide (z ≤ (F.n : Int)) = false := by simpa using hle
        clear J hbr
        go_wp2
        go_ret
        exact ⟨rfl, HB.out⟩
end Go.Proofs.Ytoihldagpnkfoaa
