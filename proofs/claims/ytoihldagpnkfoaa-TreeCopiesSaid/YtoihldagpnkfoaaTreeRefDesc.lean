/- Descendants and Under of the reference's forest, by walks. Condition: the places stand for a forest. -/
import Derived.Test.YtoihldagpnkfoaaTreeRefAdd
import Derived.Deep.RegionLaw
import Derived.IntWalk
namespace Go.Proofs.Ytoihldagpnkfoaa
open Go.RowKit
set_option linter.unusedVariables false
set_option linter.unusedSimpArgs false

set_option maxHeartbeats 400000 in
theorem refDesc_no {w : World} {g qb n lc : Nat} {Q : Qw} (h : QF w g qb n lc Q) (x : Int) (hx : hasQ n Q x = false) :
    Calls Try.prog 42 #[.pointer (some ⟨g, 0, none⟩), .int .i64 x] w fun e w' => e = .returned (.slice none 0 0) ∧ w = w' := by
  have CH := refHas_is h x
  rw [hx] at CH
  clear h hx
  go_enter Try.func42, Try.ntmps42
  go_wp2_with (go_at_call 22; refine CH.mono ?_; rintro e w' ⟨rfl, rfl⟩)
  go_ret
  exact ⟨rfl, rfl⟩

/-- Where the reference's loop stands. -/
def RDescAt (F : Fo) (ds : List Nat) (w : World) (o i : Value) (wr : World) : Prop :=
  ∃ pre rest t : List Nat, ds = pre ++ t ∧ Flat F rest t ∧ i = .int .i64 pre.length ∧ wr.ownsRow w.heap.size 3 1 o (pre ++ rest).length (intV (nats (pre ++ rest))) ∧ Below w.heap.size w wr
theorem flat_ge {F : Fo} {l a : List Nat} (h : Flat F l a) : l.length ≤ a.length := by
  induction h with
  | nil => simp
  | cons h1 h2 ih1 ih2 => simp; omega

set_option maxRecDepth 100000 in
set_option maxHeartbeats 1000000 in
theorem refDesc_is {w : World} {g qb : Nat} {Q : Qw} {F : Fo} {T : Nat} (h : Ref w g qb Q F T) (hF : WF F) (x : Nat) (hx : F.there x = true) {ds : List Nat} (hfl : Flat F (F.kids (x : Int)) ds) :
    Calls Try.prog 42 #[.pointer (some ⟨g, 0, none⟩), .int .i64 x] w (DescPost w ds) := by
  obtain ⟨lc, hq⟩ := h.qf
  obtain ⟨i0, hi0, hz0, hz1, hz2⟩ := info_parts infoInt
  have CH := refHas_is hq x
  rw [has_qrep h.rep hF, show F.has (x : Int) = true by simp [Fo.has, hx]] at CH
  have hn2 := hq.n2
  have hxn := hF.lt x hx
  have hl := desc_len hF hfl
  have hm := desc_mem hF hfl
  have hdn : ∀ d ∈ ds, d < F.n := fun d hd => hF.lt d ((hm d).1 hd).there
  have c0 := hq.cells.1
  have d2 := (hq.at_ x hxn).c2
  have hKx := h.rep.K x hxn
  obtain ⟨-, hrd, -⟩ := Cut.reads (A := (Q.M x).A) (n := (Q.M x).K.length) (c := (Q.M x).c) (hq.rows x hxn)
  have hkl := Nat.le_trans (kids_le hF (x : Int)) hn2
  unfold Qd.row Rw.v at d2
  rw [← hKx] at hkl
  have m1 := Lib.hid (show 0 + (Q.M x).K.length ≤ maxLen from by unfold maxLen; omega)
  have m2 := Lib.hid (show (0 + (Q.M x).K.length) * 8 ≤ 140737488355328 from by omega)
  have HRD := Lib.hid hrd
  have HKX := Lib.hid hKx
  have HQ := Lib.hid hq
  have HREP := Lib.hid h.rep
  have HF := Lib.hid hF
  have HD := Lib.hid hdn
  have HFL := Lib.hid hfl
  simp only at d2
  clear h hq hm hdn hfl hKx hrd hF hkl
  go_enter Try.func42, Try.ntmps42
  go_wp2_with (first | (go_at_call 22; refine CH.mono ?_; rintro e w' ⟨rfl, rfl⟩) | (at_builtin; refine wpList_append_any _ rfl (.const (.slice none 0 0)) (.tmp 19) 29 rfl w.heap.size 3 i0 (.int .i64 0) 1 8 Try.underlying29 hi0 hz0 hz1 hz2 rfl (by decide) (.slice none 0 0) 0 [] rfl (World.ownsRow_nil _ _ _ _) w.heap.size (Q.M x).A (Q.M x).K.length (Q.M x).c (intV (nats (Q.M x).K)) rfl HRD.out (intV_one _) m1.out m2.out (Nat.le_refl _) ?_; intro v1 w1 hown1 hg1 hat1; rw [Nat.zero_add, List.nil_append] at hown1))
  have hb1 : Below w.heap.size w w1 := (Below.refl _ w).grown hg1 (Nat.le_refl _) (fun k e => by cases e)
  obtain ⟨A1, c1, rfl⟩ := own_slice hown1
  rw [HKX.out] at hown1
  have HO1 := Lib.hid (And.intro hown1 hb1)
  have HKL := Lib.hid (congrArg List.length HKX.out)
  clear hown1 hg1 hat1 hb1 c0 d2
  go_loopw [5, 6] (fun o i wr => RDescAt F ds w o i wr) (fun _ i _ => ds.length - (intOf i).toNat)
  case atStart => exact ⟨[], F.kids (x : Int), ds, rfl, HFL.out, rfl, by simpa [HKL.out] using HO1.out.1, HO1.out.2⟩
  case round =>
    obtain ⟨pre, rest, t, hds, hft, rfl, hown, hbr⟩ := hrel
    obtain ⟨A, cap, rfl⟩ := own_slice hown
    have HO := Lib.hid hown
    have HB := Lib.hid hbr
    have HDS := Lib.hid hds
    have HFT := Lib.hid hft
    have hle := flat_ge hft
    have hdl : pre.length + t.length = ds.length := by rw [hds]; simp
    have hcap := own_cap hown
    have hlen : (pre ++ rest).length = pre.length + rest.length := by simp
    rcases rest with _ | ⟨c, r⟩
    · have ht : t = [] := flat_nil hft
      have hdp : ds = pre := by rw [hds, ht]; simp
      have HDP := Lib.hid hdp
      have hlt : ¬ pre.length < (pre ++ ([] : List Nat)).length := by simp
      have hlt2 : decide (pre.length < (pre ++ ([] : List Nat)).length) = false := by simp
      clear hown hbr hds hft hdp ht hlen
      go_wp2
      go_ret
      exact ⟨⟨A, cap, by rw [HDP.out]; simp, by rw [HDP.out]; simpa using HO.out⟩, HB.out⟩
    · obtain ⟨a1, b1, ht, hfa, hfb⟩ := flat_cons hft
      have hcd : c ∈ ds := by rw [hds, ht]; simp
      have hcn := HD.out c hcd
      have hsum : (pre ++ c :: r).length = pre.length + 1 + r.length := by rw [List.length_append, List.length_cons]; omega
      have hNb : (pre ++ c :: r).length ≤ 4096 := by rw [List.length_cons] at hle; omega
      have hkl : pre.length < (pre ++ c :: r).length := by omega
      obtain ⟨b, rfl⟩ := own_form hown (by omega)
      have hcell := hown.cellAt pre.length (by omega)
      have hsel : (intV (nats (pre ++ c :: r)))[pre.length]? = some (.int .i64 c) := by simp [intV, nats]
      rw [hsel] at hcell
      have hq := HQ.out.below hbr
      have c0 := hq.cells.1
      have d2 := (hq.at_ c hcn).c2
      have hKc := HREP.out.K c hcn
      obtain ⟨-, hrk, -⟩ := Cut.reads (A := (Q.M c).A) (n := (Q.M c).K.length) (c := (Q.M c).c) (hq.rows c hcn)
      have hkc := Nat.le_trans (kids_le HF.out (c : Int)) hn2
      rw [← hKc] at hkc
      unfold Qd.row Rw.v at d2
      simp only at d2
      have hrO : Reads wr wr.heap.size 1 (some ⟨b, 0, none⟩) (pre ++ c :: r).length (intV (nats (pre ++ c :: r))) := Reads.of_own hown
      have h2 := Reads.cut (k := pre.length + 1) hrO (by omega) hcap.1
      have h1 : Reads wr wr.heap.size 1 (some ⟨b, 0, none⟩) (pre.length + 1) (intV (nats (pre ++ [c]))) := by
        refine ⟨by rw [intV_len, nats_len]; simp, fun _ => ?_⟩
        obtain ⟨ad, e1, e2, e3⟩ := hrO.2 (by omega)
        refine ⟨ad, e1, e2, fun j u hu => e3 j u ?_⟩
        have e4 : intV (nats (pre ++ c :: r)) = intV (nats (pre ++ [c])) ++ intV (nats r) := by rw [show pre ++ c :: r = (pre ++ [c]) ++ r by simp, nats_app, intV_app]
        rw [e4]
        exact List.getElem?_append_left (by
          rcases Nat.lt_or_ge j (intV (nats (pre ++ [c]))).length with h | h
          · exact h
          · rw [List.getElem?_eq_none h] at hu; cases hu) |>.trans hu
      have h2' : Reads wr wr.heap.size 1 (if cap = pre.length + 1 then some ⟨b, 0, none⟩ else some ((⟨b, 0, none⟩ : Addr).add (pre.length + 1))) r.length (intV (nats r)) := by
        have e5 : (intV (nats (pre ++ c :: r))).drop ((pre.length + 1) * 1) = intV (nats r) := by
          rw [show pre ++ c :: r = (pre ++ [c]) ++ r by simp, nats_app, intV_app, Nat.mul_one]
          exact List.drop_left' (by rw [intV_len, nats_len]; simp)
        rw [e5, show (pre ++ c :: r).length - (pre.length + 1) = r.length by omega, Nat.mul_one] at h2
        exact h2
      have HFIN := Lib.hid (show ds = (pre ++ [c]) ++ (a1 ++ b1) ∧ Flat F (F.kids (c : Int) ++ r) (a1 ++ b1) ∧ (pre ++ c :: r).length = pre.length + 1 + r.length from ⟨by rw [hds, ht]; simp, hfa.append hfb, hsum⟩)
      have HKC := Lib.hid hKc
      have hci : (c : Int) < (F.n : Int) := by omega
      have hci0 : (0 : Int) ≤ (c : Int) := by omega
      have hdl2 : pre.length < ds.length := by rw [hds, ht]; simp
      have HOB := Lib.hid (And.intro hown hbr)
      have HR := Lib.hid (And.intro h1 (And.intro h2' hrk))
      have hcp := hcap.1
      have hcm := hcap.2
      clear hown hbr hds hft ht hfa hfb hcd hsel hq hKc hrk hrO h1 h2 h2' hsum hlen HO HB HDS HFT hdl hle hcap
      obtain ⟨KA, hKA⟩ : ∃ z, z = (Q.M c).A := ⟨_, rfl⟩
      obtain ⟨Kc, hKc2⟩ : ∃ z, z = (Q.M c).c := ⟨_, rfl⟩
      obtain ⟨K, hK⟩ : ∃ z, z = (Q.M c).K := ⟨_, rfl⟩
      rw [← hKA, ← hKc2, ← hK] at d2
      rw [← hKA, ← hK] at HR
      rw [← hK] at hkc HKC
      clear hKA hKc2 hK
      obtain ⟨N, hN⟩ : ∃ N, N = (pre ++ c :: r).length := ⟨_, rfl⟩
      obtain ⟨k, hk⟩ : ∃ k, k = pre.length := ⟨_, rfl⟩
      rw [← hN] at hkl hNb HOB HFIN hcp
      rw [← hk] at hkl HFIN hcell HR hdl2
      rw [← hN, ← hk]
      have HNK := Lib.hid (And.intro hN hk)
      clear hN hk
      have hkN : (k : Int) < (N : Int) := by omega
      have hk0 : (0 : Int) ≤ (k : Int) := by omega
      have hdk : decide (k < N) = true := by simpa using hkl
      go_wp2_with fail
      go_quiet (fail)
      have HW := Lib.hid (show Below w.heap.size w (wr.drewN nq) ∧ Reads (wr.drewN nq) (wr.drewN nq).heap.size 1 (some ⟨b, 0, none⟩) (k + 1) (intV (nats (pre ++ [c]))) ∧ Reads (wr.drewN nq) (wr.drewN nq).heap.size 1 (if cap = k + 1 then some ⟨b, 0, none⟩ else some ((⟨b, 0, none⟩ : Addr).add (k + 1))) r.length (intV (nats r)) ∧ Reads (wr.drewN nq) (wr.drewN nq).heap.size 1 KA K.length (intV (nats K)) from ⟨HOB.out.2.trans (below_drewN _ _ _), HR.out.1.drewN _, HR.out.2.1.drewN _, HR.out.2.2.drewN _⟩)
      clear hcell c0 d2 HOB HR
      generalize wr.drewN nq = W at *
      have E1 := Lib.hid (IntWalk.i64_in ((k : Int) + 1) (by omega))
      have e2 : ((k : Int) + 1).toNat = k + 1 := by omega
      have hc1 : (k : Int) + 1 ≤ (cap : Int) := by omega
      have hc2 : (k : Int) + 1 ≤ (N : Int) := by omega
      have hc3 : (0 : Int) ≤ (k : Int) + 1 := by omega
      have hc4 : (k : Int) ≤ (cap : Int) := by omega
      have hNr : N - (k + 1) = r.length := by have := HFIN.out.2.2; omega
      have hrl : r.length ≤ 4096 := by omega
      have n1 := Lib.hid (show 0 + (k + 1) ≤ maxLen from by unfold maxLen; omega)
      have n2 := Lib.hid (show (0 + (k + 1)) * 8 ≤ 140737488355328 from by omega)
      have n3 := Lib.hid (show 0 + (k + 1) + K.length ≤ maxLen from by unfold maxLen; omega)
      have n4 := Lib.hid (show (0 + (k + 1) + K.length) * 8 ≤ 140737488355328 from by omega)
      have n5 := Lib.hid (show 0 + (k + 1) + K.length + r.length ≤ maxLen from by unfold maxLen; omega)
      have n6 := Lib.hid (show (0 + (k + 1) + K.length + r.length) * 8 ≤ 140737488355328 from by omega)
      have o1 := Lib.hid (intV_one (nats (pre ++ [c])))
      have o2 := Lib.hid (intV_one (nats K))
      have o3 := Lib.hid (intV_one (nats r))
      unfold maxLen at hcm
      have HW1 := Lib.hid HW.out.2.1
      have HW2 := Lib.hid HW.out.2.2.2
      have H3 := HW.out.2.2.1
      have HNR := Lib.hid hNr
      clear hNr
      by_cases hck : cap = k + 1
      · rw [if_pos hck] at H3
        have hr0 : r = [] := by
          have := HFIN.out.2.2
          exact List.eq_nil_of_length_eq_zero (by omega)
        subst hr0
        subst hck
        clear H3
        have e1 := E1.out
        go_wp2_with fail
        go_region_law (first | ((have := mk2); refine step_append_any _ rfl (.tmp 44) (.tmp 48) 29 rfl W.heap.size 3 i0 (.int .i64 0) 1 8 Try.underlying29 hi0 hz0 hz1 hz2 rfl (by decide) v2 (0 + (k + 1) + K.length) ([] ++ intV (nats (pre ++ [c])) ++ intV (nats K)) (by kernel_rfl) hown2 W.heap.size (some ⟨b, 0, none⟩) 0 0 [] (by kernel_rfl) Reads.none_ (fun _ h => by cases h) (by have := n3.out; omega) (by have := n4.out; omega) hb2.size ?_; intro v3 w3 hown3 hg3 hat3) | ((have := mk1); refine step_append_any _ rfl (.tmp 42) (.tmp 43) 29 rfl W.heap.size 3 i0 (.int .i64 0) 1 8 Try.underlying29 hi0 hz0 hz1 hz2 rfl (by decide) v1 (0 + (k + 1)) ([] ++ intV (nats (pre ++ [c]))) (by kernel_rfl) hown1 W.heap.size KA K.length Kc (intV (nats K)) (by kernel_rfl) (HW2.out.drew.grown hg1 (Nat.le_refl _) (fun g e => by cases e)) o2.out n3.out n4.out hg1.size ?_; intro v2 w2 hown2 hg2 hat2; (have hb2 := hb1.grown hg2 hb1.size (fun k e => (hown1.lt k e).1)); have mk2 := trivial) | (refine step_append_any _ rfl (.const (.slice none 0 0)) (.tmp 41) 29 rfl W.heap.size 3 i0 (.int .i64 0) 1 8 Try.underlying29 hi0 hz0 hz1 hz2 rfl (by decide) (.slice none 0 0) 0 [] rfl (World.ownsRow_nil _ _ _ _) W.heap.size (some ⟨b, 0, none⟩) (k + 1) (k + 1) (intV (nats (pre ++ [c]))) (by kernel_rfl) HW1.out.drew o1.out n1.out n2.out (Nat.le_refl _) ?_; intro v1 w1 hown1 hg1 hat1; (have hb1 : Below W.heap.size W w1 := ((Below.refl _ W).drew).grown hg1 (Nat.le_refl _) (fun k e => by cases e)); have mk1 := trivial))
        all_goals
          clear e1
          have hb3 := hb2.grown hg3 hb2.size (fun k e => (hown2.lt k e).1)
          obtain ⟨M, hM⟩ : ∃ M, M = 0 + (k + 1) + K.length + 0 := ⟨_, rfl⟩
          rw [← hM] at hown3
          obtain ⟨A3, c3, rfl⟩ := own_slice hown3
          have HF3 := Lib.hid (And.intro hown3 (And.intro hb3 hM))
          clear hown1 hown2 hown3 hg1 hg2 hg3 hat1 hat2 hat3 hb1 hb2 hb3 e2 hM
          go_wp2
          go_roundw
          case rel =>
            obtain ⟨f1, f2, f3⟩ := HFIN.out
            refine ⟨pre ++ [c], F.kids (c : Int) ++ [], a1 ++ b1, f1, f2, ?_, ?_, HW.out.1.trans (HF3.out.2.1.mono HW.out.1.size)⟩
            · rw [List.length_append, ← HNK.out.2]; rfl
            · have q := own_mono HF3.out.1 HW.out.1.size
              have e5 : M = ((pre ++ [c]) ++ (F.kids (c : Int) ++ [])).length := by
                rw [HF3.out.2.2, ← HKC.out]
                simp only [List.length_append, List.length_singleton, List.length_nil, HNK.out.2]
                omega
              have e6 : [] ++ intV (nats (pre ++ [c])) ++ intV (nats K) ++ [] = intV (nats ((pre ++ [c]) ++ (F.kids (c : Int) ++ []))) := by
                rw [← HKC.out]
                simp [intV, nats]
              rw [e6] at q
              rw [← e5]
              exact q
          case measure => simp [intOf]; omega
      · rw [if_neg hck, show (⟨b, 0, none⟩ : Addr).add (k + 1) = ⟨b, k + 1, none⟩ by simp [Addr.add], ← HNR.out] at H3
        have HW3 := Lib.hid H3
        have n7 := Lib.hid (show 0 + (k + 1) + K.length + (N - (k + 1)) ≤ maxLen from by rw [HNR.out]; exact n5.out)
        have n8 := Lib.hid (show (0 + (k + 1) + K.length + (N - (k + 1))) * 8 ≤ 140737488355328 from by rw [HNR.out]; exact n6.out)
        clear H3
        have e1 := E1.out
        go_wp2_with fail
        go_region_law (first | ((have := mk2); refine step_append_any _ rfl (.tmp 44) (.tmp 48) 29 rfl W.heap.size 3 i0 (.int .i64 0) 1 8 Try.underlying29 hi0 hz0 hz1 hz2 rfl (by decide) v2 (0 + (k + 1) + K.length) ([] ++ intV (nats (pre ++ [c])) ++ intV (nats K)) (by kernel_rfl) hown2 W.heap.size (some ⟨b, k + 1, none⟩) (N - (k + 1)) (cap - (k + 1)) (intV (nats r)) (by kernel_rfl) (((HW3.out.drew.grown hg1 (Nat.le_refl _) (fun g e => by cases e))).grown hg2 hb1.size (fun g e => (hown1.lt g e).1)) o3.out n7.out n8.out hb2.size ?_; intro v3 w3 hown3 hg3 hat3) | ((have := mk1); refine step_append_any _ rfl (.tmp 42) (.tmp 43) 29 rfl W.heap.size 3 i0 (.int .i64 0) 1 8 Try.underlying29 hi0 hz0 hz1 hz2 rfl (by decide) v1 (0 + (k + 1)) ([] ++ intV (nats (pre ++ [c]))) (by kernel_rfl) hown1 W.heap.size KA K.length Kc (intV (nats K)) (by kernel_rfl) (HW2.out.drew.grown hg1 (Nat.le_refl _) (fun g e => by cases e)) o2.out n3.out n4.out hg1.size ?_; intro v2 w2 hown2 hg2 hat2; (have hb2 := hb1.grown hg2 hb1.size (fun k e => (hown1.lt k e).1)); have mk2 := trivial) | (refine step_append_any _ rfl (.const (.slice none 0 0)) (.tmp 41) 29 rfl W.heap.size 3 i0 (.int .i64 0) 1 8 Try.underlying29 hi0 hz0 hz1 hz2 rfl (by decide) (.slice none 0 0) 0 [] rfl (World.ownsRow_nil _ _ _ _) W.heap.size (some ⟨b, 0, none⟩) (k + 1) cap (intV (nats (pre ++ [c]))) (by kernel_rfl) HW1.out.drew o1.out n1.out n2.out (Nat.le_refl _) ?_; intro v1 w1 hown1 hg1 hat1; (have hb1 : Below W.heap.size W w1 := ((Below.refl _ W).drew).grown hg1 (Nat.le_refl _) (fun k e => by cases e)); have mk1 := trivial))
        all_goals
          clear e1
          have hb3 := hb2.grown hg3 hb2.size (fun k e => (hown2.lt k e).1)
          obtain ⟨M, hM⟩ : ∃ M, M = 0 + (k + 1) + K.length + (N - (k + 1)) := ⟨_, rfl⟩
          rw [← hM] at hown3
          obtain ⟨A3, c3, rfl⟩ := own_slice hown3
          have HF3 := Lib.hid (And.intro hown3 (And.intro hb3 hM))
          clear hown1 hown2 hown3 hg1 hg2 hg3 hat1 hat2 hat3 hb1 hb2 hb3 e2 hM
          go_wp2
          go_roundw
          case rel =>
            obtain ⟨f1, f2, f3⟩ := HFIN.out
            refine ⟨pre ++ [c], F.kids (c : Int) ++ r, a1 ++ b1, f1, f2, ?_, ?_, HW.out.1.trans (HF3.out.2.1.mono HW.out.1.size)⟩
            · rw [List.length_append, ← HNK.out.2]; rfl
            · have q := own_mono HF3.out.1 HW.out.1.size
              have e5 : M = ((pre ++ [c]) ++ (F.kids (c : Int) ++ r)).length := by
                rw [HF3.out.2.2, ← HKC.out]
                simp only [List.length_append, List.length_singleton, List.length_nil]
                have z1 := HNK.out.2
                have z2 := HNR.out
                omega
              have e6 : [] ++ intV (nats (pre ++ [c])) ++ intV (nats K) ++ intV (nats r) = intV (nats ((pre ++ [c]) ++ (F.kids (c : Int) ++ r))) := by
                rw [← HKC.out]
                simp [intV, nats]
              rw [e6] at q
              rw [← e5]
              exact q
          case measure => simp [intOf]; omega

set_option maxRecDepth 100000 in
set_option maxHeartbeats 1000000 in
theorem refUnder_is {w : World} {g qb : Nat} {Q : Qw} {F : Fo} {T : Nat} (h : Ref w g qb Q F T) (hF : WF F) (y : Int) (x : Nat) (hx : F.there x = true) {ds : List Nat} (hfl : Flat F (F.kids (x : Int)) ds) :
    Calls Try.prog 43 #[.pointer (some ⟨g, 0, none⟩), .int .i64 y, .int .i64 x] w fun e w' => (∃ b, e = .returned (.bool b) ∧ (b = true ↔ y ∈ nats ds)) ∧ Below w.heap.size w w' := by
  have CD := refDesc_is h hF x hx hfl
  have hl := desc_len hF hfl
  obtain ⟨lc, hq⟩ := h.qf
  have hn2 := hq.n2
  clear hq h hfl hF hx
  go_enter Try.func43, Try.ntmps43
  go_wp2_with (go_at_call 42; refine CD.mono ?_; rintro e w1 ⟨⟨A, cap, rfl, hown⟩, hb⟩; (have HO := Lib.hid hown); (have HB := Lib.hid hb); clear hown hb)
  go_loopw [8] (fun i wr => ∃ k : Nat, k ≤ ds.length ∧ i = .int .i64 k ∧ y ∉ nats (ds.take k) ∧ wr = w1) (fun i _ => ds.length - (intOf i).toNat)
  case atStart => exact ⟨0, Nat.zero_le _, rfl, by simp [nats], rfl⟩
  case round =>
    obtain ⟨k, hk, rfl, hno, rfl⟩ := hrel
    have HN := Lib.hid hno
    clear hno
    by_cases hlt : k < ds.length
    · have hown := HO.out
      obtain ⟨b, rfl⟩ := own_form hown (by omega)
      have hcell := hown.cellAt k (by omega)
      have hsel : (intV (nats ds))[k]? = some (.int .i64 (ds[k] : Nat)) := by
        rw [intV, nats, List.getElem?_map, List.getElem?_map, List.getElem?_eq_getElem hlt]
        rfl
      rw [hsel] at hcell
      have htk : ds.take (k + 1) = ds.take k ++ [ds[k]] := List.take_succ_eq_append_getElem hlt
      have hmem : ((ds[k] : Nat) : Int) ∈ nats ds := List.mem_map.2 ⟨_, List.getElem_mem hlt, rfl⟩
      have HM := Lib.hid (And.intro htk hmem)
      generalize ds[k] = d at *
      clear hown hsel htk hmem
      by_cases hd : (d : Int) = y
      · subst hd
        go_wp2
        go_ret
        exact ⟨⟨true, rfl, by simp [HM.out.2]⟩, HB.out⟩
      · have hd' : ((d : Int) == y) = false := by simpa using hd
        have HD := Lib.hid hd
        clear hd
        go_wp2
        go_roundw
        case rel =>
          refine ⟨k + 1, by omega, by go_num, ?_, trivial⟩
          rw [HM.out.1, nats_snoc]
          simp only [List.mem_append, List.mem_singleton, not_or]
          exact ⟨HN.out, fun e => HD.out e.symm⟩
        case measure => simp [intOf]; omega
    · have hkl : k = ds.length := by omega
      subst hkl
      go_wp2
      go_ret
      refine ⟨⟨false, rfl, ?_⟩, HB.out⟩
      have := HN.out
      rw [List.take_length] at this
      simp [this]
end Go.Proofs.Ytoihldagpnkfoaa
