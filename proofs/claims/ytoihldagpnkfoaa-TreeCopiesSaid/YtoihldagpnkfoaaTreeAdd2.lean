/- Add of the program's forest, whole: what it answers and what the places are behind it. Condition: the places are a forest's. -/
import Derived.Test.YtoihldagpnkfoaaTreeAdd
namespace Go.Proofs.Ytoihldagpnkfoaa
open Go.RowKit
set_option linter.unusedVariables false
set_option linter.unusedSimpArgs false

set_option maxHeartbeats 400000 in
theorem add_no {w : World} {f lb n lc : Nat} {R : Raw} {fv : Value} (h : PF w f lb n lc R fv) (p : Int) (h0 : 0 ≤ p) (hp : hasR n R p = false) :
    Calls Try.prog 11 #[.pointer (some ⟨f, 0, none⟩), .int .i64 p] w fun e w' => e = .returned (.tuple #[.int .i64 0, .int .i64 4]) ∧ w = w' := by
  have CN := nothing_is h
  have CH := has_is h p
  rw [hp] at CH
  have b0 : decide (0 ≤ p) = true := by simpa using h0
  clear h h0 hp
  go_enter Try.func11, Try.ntmps11
  go_wp2_with (first | (go_at_call 32; refine CN.mono ?_; rintro e w' ⟨rfl, rfl⟩) | (go_at_call 24; refine CH.mono ?_; rintro e w' ⟨rfl, rfl⟩))
  go_ret2
  exact ⟨rfl, rfl⟩

set_option maxHeartbeats 400000 in
theorem add_full {w : World} {f lb n lc : Nat} {R : Raw} {A : Option Addr} {c : Nat} (h : PF w f lb n lc R (.slice A 0 c)) (p : Int) (hp : 0 ≤ p → hasR n R p = true) :
    Calls Try.prog 11 #[.pointer (some ⟨f, 0, none⟩), .int .i64 p] w fun e w' => e = .returned (.tuple #[.int .i64 0, .int .i64 3]) ∧ w = w' := by
  have CN := nothing_is h
  have CH := has_is h p
  have d2 := h.cells.2.2.1
  clear h
  by_cases h0 : 0 ≤ p
  · rw [hp h0] at CH
    have b0 : decide (0 ≤ p) = true := by simpa using h0
    clear h0 hp
    go_enter Try.func11, Try.ntmps11
    go_wp2_with (first | (go_at_call 32; refine CN.mono ?_; rintro e w' ⟨rfl, rfl⟩) | (go_at_call 24; refine CH.mono ?_; rintro e w' ⟨rfl, rfl⟩))
    go_ret2
    exact ⟨rfl, rfl⟩
  · have b0 : decide (0 ≤ p) = false := by simpa using h0
    clear h0 hp CH
    go_enter Try.func11, Try.ntmps11
    go_wp2_with (go_at_call 32; refine CN.mono ?_; rintro e w' ⟨rfl, rfl⟩)
    go_ret2
    exact ⟨rfl, rfl⟩

theorem join_neg (R : Raw) {p : Int} (hp : p < 0) (a b : Int) : R.join p a b = R.join (-1) a b := by simp [Raw.join, Raw.setHead, hp]
theorem head_neg (R : Raw) {p : Int} (hp : p < 0) : R.head p = R.head (-1) := by simp [Raw.head, hp]
theorem hd_in {n : Nat} {l : List Nat} (h : ∀ i ∈ l, i < n) : inF n (hd l) := by
  rcases l with _ | ⟨x, l⟩
  · exact .inl rfl
  · exact .inr ⟨x, rfl, h x (by simp)⟩
/-- Who is asked to be the parent. -/
def norm (p : Int) : Int := if p < 0 then -1 else p
theorem nats_app (a b : List Nat) : nats (a ++ b) = nats a ++ nats b := by simp [nats]

theorem add_is {w : World} {f lb lc : Nat} {R : Raw} {v : Value} {F : Fo} (h : PS w f lb F.n lc R v (nats F.free)) (hR : Rep R F) (hF : WF F) {x : Nat} (hx : F.free.getLast? = some x) (p : Int) (hp : 0 ≤ p → F.has p = true) :
    Calls Try.prog 11 #[.pointer (some ⟨f, 0, none⟩), .int .i64 p] w fun e w' => e = .returned (.tuple #[.int .i64 x, .int .i64 0]) ∧ ∃ R' v', PS w' f lb F.n lc R' v' (nats (F.add (norm p) x).free) ∧ Rep R' (F.add (norm p) x) ∧ Fresh w v v' ∧ Apart (own3 f lb v) w w' := by
  have hfree := last_split hx
  obtain ⟨hxn, hxt⟩ := (hF.fr x).1 (last_mem hx)
  have hok : F.ok (norm p) := by
    unfold norm
    by_cases h0 : p < 0
    · rw [if_pos h0]; exact .inl rfl
    · rw [if_neg h0]
      obtain ⟨j, rfl, hj⟩ := has_nat (hp (by omega))
      exact .inr ⟨j, rfl, hj⟩
  have hpn : p < (F.n : Int) := by
    by_cases h0 : p < 0
    · omega
    · obtain ⟨j, rfl, hj⟩ := has_nat (hp (by omega))
      have := hF.lt j hj
      omega
  have hhead : R.head p = R.head (norm p) := by
    unfold norm
    by_cases h0 : p < 0
    · rw [if_pos h0, head_neg R h0]
    · rw [if_neg h0]
  have hjoin : ∀ (S : Raw) (a b : Int), S.join p a b = S.join (norm p) a b := by
    intro S a b
    unfold norm
    by_cases h0 : p < 0
    · rw [if_pos h0, join_neg S h0]
    · rw [if_neg h0]
  have hd1 : inF F.n (R.head p) := by
    rw [hhead, hR.head hF hok]
    exact hd_in fun i hi => hF.lt i ((hF.kin _ _).1 hi).1
  have hlen : F.free.length ≤ F.n := nodup_le _ _ hF.fnd fun i hi => ((hF.fr i).1 hi).1
  have hn2 := h.pf.n2
  rw [hfree, nats_app] at h
  have hl : (nats F.free.dropLast).length < 4096 := by
    rw [nats_len, List.length_dropLast]
    have : 0 < F.free.length := List.length_pos_of_mem (last_mem hx)
    omega
  have hq : (p < -1 ∧ norm p = -1) ∨ (¬ p < -1 ∧ norm p = p) := by
    unfold norm
    by_cases h0 : p < -1
    · exact .inl ⟨h0, if_pos (by omega)⟩
    · refine .inr ⟨h0, ?_⟩
      by_cases h1 : p < 0
      · rw [if_pos h1]; omega
      · rw [if_neg h1]
  refine (add_ok h hxn hl p (norm p) hq (fun h0 => by rw [has_rep hR hF]; exact hp h0) hpn hd1).mono ?_
  rintro e w' ⟨rfl, v', h', hfr, ha⟩
  rw [hjoin, hjoin, hhead] at h'
  exact ⟨rfl, _, v', h', rep_add hR hF hok hx, hfr, ha⟩
end Go.Proofs.Ytoihldagpnkfoaa
