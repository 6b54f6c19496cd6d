/- Small functions of the reference's forest, by walks: Has, Row, set, free. Condition: 1 to 4096 places. -/
import Derived.Test.YtoihldagpnkfoaaTreeJ
import Derived.StillTailTactics
namespace Go.Proofs.Ytoihldagpnkfoaa
open Go.RowKit
set_option linter.unusedVariables false
set_option linter.unusedSimpArgs false

def hasQ (n : Nat) (Q : Qw) (x : Int) : Bool := decide (0 ≤ x) && (decide (x < (n : Int)) && (Q.M x.toNat).t)
theorem has_qrep {Q : Qw} {F : Fo} (h : QRep Q F) (hF : WF F) (x : Int) : hasQ F.n Q x = F.has x := by
  unfold hasQ Fo.has
  by_cases h0 : 0 ≤ x
  · by_cases h1 : x < (F.n : Int)
    · rw [h.t x.toNat (by omega)]
      simp [h0, h1]
    · have : F.there x.toNat = false := by
        cases ht : F.there x.toNat
        · rfl
        · exact absurd (hF.lt _ ht) (by omega)
      simp [h1, this]
  · simp [h0]

set_option maxHeartbeats 1000000 in
theorem refHas_is {w : World} {g qb n lc : Nat} {Q : Qw} (h : QF w g qb n lc Q) (x : Int) : Calls Try.prog 22 #[.pointer (some ⟨g, 0, none⟩), .int .i64 x] w fun e w' => e = .returned (.bool (hasQ n Q x)) ∧ w = w' := by
  obtain ⟨c0, _, _, _⟩ := h.cells
  have hn := h.n1
  have hn2 := h.n2
  by_cases h0 : 0 ≤ x
  · by_cases hlt : x < (n : Int)
    · obtain ⟨k, rfl⟩ := Int.eq_ofNat_of_zero_le h0
      have hk : k < n := by omega
      have d0 := (h.at_ k hk).c0
      have hr : hasQ n Q (k : Int) = (Q.M k).t := by simp [hasQ, hk]
      rw [hr]
      have e1 : decide ((0 : Int) ≤ (k : Int)) = true := by simp
      have e2 : decide ((k : Int) < (n : Int)) = true := by simpa using hlt
      generalize (Q.M k).t = b at *
      clear h hr
      go_enter Try.func22, Try.ntmps22
      go_wp2
      go_ret
      exact ⟨rfl, rfl⟩
    · have hr : hasQ n Q x = false := by simp [hasQ, hlt]
      rw [hr]
      have e1 : decide ((0 : Int) ≤ x) = true := by simpa using h0
      have e2 : decide (x < (n : Int)) = false := by simpa using hlt
      clear h hr
      go_enter Try.func22, Try.ntmps22
      go_wp2
      go_ret
      exact ⟨rfl, rfl⟩
  · have hr : hasQ n Q x = false := by simp [hasQ, h0]
    rw [hr]
    have e1 : decide ((0 : Int) ≤ x) = false := by simpa using h0
    clear h hr
    go_enter Try.func22, Try.ntmps22
    go_wp2
    go_ret
    exact ⟨rfl, rfl⟩

set_option maxHeartbeats 1000000 in
theorem refRow_is {w : World} {g qb n lc : Nat} {Q : Qw} (h : QF w g qb n lc Q) (p : Int) (hp : p < (n : Int)) : Calls Try.prog 48 #[.pointer (some ⟨g, 0, none⟩), .int .i64 p] w fun e w' => e = .returned (Q.row p).v ∧ w = w' := by
  obtain ⟨c0, c1, _, _⟩ := h.cells
  have hn2 := h.n2
  unfold Qw.row
  by_cases h0 : p < 0
  · rw [if_pos h0]
    unfold Rw.v at *
    clear h
    go_enter Try.func48, Try.ntmps48
    go_wp2
    go_ret
    exact ⟨rfl, rfl⟩
  · rw [if_neg h0]
    obtain ⟨k, rfl⟩ := Int.eq_ofNat_of_zero_le (show 0 ≤ p by omega)
    have hk : k < n := by omega
    have d2 := (h.at_ k hk).c2
    rw [Int.toNat_natCast]
    generalize (Q.M k).row = r at *
    unfold Rw.v at *
    clear h
    go_enter Try.func48, Try.ntmps48
    go_wp2
    go_ret
    exact ⟨rfl, rfl⟩

set_option maxHeartbeats 1000000 in
theorem refSet_is {w : World} {g qb n lc : Nat} {Q : Qw} (h : QF w g qb n lc Q) (p : Int) (hp : p < (n : Int)) (r : Rw) (hr : Cut w r.v (nats r.K)) (hn : ∀ k, r.blk k → k ≠ g ∧ k ≠ qb) :
    Calls Try.prog 47 #[.pointer (some ⟨g, 0, none⟩), .int .i64 p, r.v] w fun e w' => (∃ z, e = .returned z) ∧ QF w' g qb n lc (Q.setRow p r) ∧ Apart (own2 g qb) w w' := by
  obtain ⟨c0, c1, _, cf⟩ := h.cells
  have hn2 := h.n2
  unfold Qw.setRow
  by_cases h0 : p < 0
  · rw [if_pos h0]
    have HQ := Lib.hid (h.setRt r hr hn)
    clear h hr hn
    unfold Rw.v at *
    go_enter Try.func47, Try.ntmps47
    go_wp2
    first | go_end0 | refine bodyPost_ret (results_none rfl _ _ _) rfl ?_
    exact ⟨⟨_, rfl⟩, HQ.out, (Apart.refl _ w).setCell (p := ⟨g, 1, none⟩) (.inl (.inl rfl)) _⟩
  · rw [if_neg h0]
    obtain ⟨k, rfl⟩ := Int.eq_ofNat_of_zero_le (show 0 ≤ p by omega)
    have hk : k < n := by omega
    have d2 := (h.at_ k hk).c2
    have df := h.fr (k * 4 + 2)
    rw [Int.toNat_natCast]
    have HQ := Lib.hid (h.setK k hk r hr hn)
    generalize (Q.M k).row = r0 at *
    clear h hr hn
    unfold Rw.v at *
    go_enter Try.func47, Try.ntmps47
    go_wp2
    go_end0
    exact ⟨⟨_, rfl⟩, HQ.out, (Apart.refl _ w).setCell (p := ⟨qb, k * 4 + 2, none⟩) (.inl (.inr rfl)) _⟩

set_option maxHeartbeats 1000000 in
theorem refFree_is {w : World} {g qb n lc : Nat} {Q : Qw} (h : QF w g qb n lc Q) (x : Nat) (hx : x < n) (hT : 0 ≤ Q.T) (hT2 : Q.T ≤ 1000000000) :
    Calls Try.prog 49 #[.pointer (some ⟨g, 0, none⟩), .int .i64 x] w fun e w' => (∃ z, e = .returned z) ∧ QF w' g qb n lc (Q.free x) ∧ Apart (own2 g qb) w w' := by
  obtain ⟨_, _, c2, cf⟩ := h.cells
  have hn2 := h.n2
  have h1 := h.setT (Q.T + 1)
  have a1 : Apart (own2 g qb) w (w.setCell ⟨g, 2, none⟩ (.int .i64 (Q.T + 1))) := (Apart.refl _ w).setCell (p := ⟨g, 2, none⟩) (.inl (.inl rfl)) _
  have HQ := Lib.hid (And.intro h1 a1)
  have t1 : (Try.prog.info? 68).map (·.size) = some (zeroQ (Q.T + 1)).cs.size := by kernel_rfl
  have t2 : (zeroQ (Q.T + 1)).cs.all (·.oneCell') = true := by simp [Qd.cs, zeroQ, Qd.row, Rw.v, Value.oneCell']
  unfold Qw.free
  generalize Q.T = T at *
  clear h h1 a1
  go_enter Try.func49, Try.ntmps49
  go_wp2_with fail
  clear c2 cf
  generalize w.setCell ⟨g, 2, none⟩ (.int .i64 (T + 1)) = w1 at *
  obtain ⟨d0, -, d2, -⟩ := HQ.out.1.cells
  simp only at d2
  go_still_tail 11, (by kernel_rfl)
  change wpList _ _ _ _ _ w1.drew
  have HQ2 := Lib.hid (show QF w1.drew g qb n lc { Q with T := T + 1 } ∧ Apart (own2 g qb) w w1.drew from ⟨HQ.out.1.keep (fun _ _ => rfl) (Nat.le_refl _), HQ.out.2.drew⟩)
  clear d0 d2 HQ
  generalize w1.drew = w2 at *
  have ht := (HQ2.out.1.at_ x hx).there HQ2.out.1.fr
  have q := HQ2.out.1.putQ x hx (zeroQ (T + 1)) (Cut.nil _) (fun k hk => by cases hk)
  have qa := putQ_apart HQ2.out.2 (.inl (.inr rfl)) (x * 4) (zeroQ (T + 1))
  have HR := Lib.hid (And.intro q qa)
  clear q qa
  go_wp2_with (refine wpList_store_mid rfl 68 (.tmp 21) (.tmp 20) rfl qb (x * 4) (zeroQ (T + 1)).cs (by exact rfl) (by exact rfl) (by exact ht _ rfl) t1 t2 ?_; rw [putQ_cells]; clear ht)
  go_end0
  exact ⟨⟨_, rfl⟩, HR.out.1, HR.out.2⟩
end Go.Proofs.Ytoihldagpnkfoaa
