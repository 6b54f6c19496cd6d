/- join of the program's forest, by walks. Conditions: the forest has 1 to 4096 places; what is joined lies in it, or is none. -/
import Derived.Test.YtoihldagpnkfoaaTreeJoin
namespace Go.Proofs.Ytoihldagpnkfoaa
open Go.RowKit
set_option linter.unusedVariables false
set_option linter.unusedSimpArgs false

theorem Raw.join_n (R : Raw) (p b : Int) : R.join p (-1) b = if b = -1 then R.setHead p b else (R.setHead p b).setL b.toNat (-1) := by simp [Raw.join]
theorem Raw.join_s (R : Raw) (p b : Int) (k : Nat) : R.join p (k : Int) b = if b = -1 then R.setR k b else (R.setR k b).setL b.toNat (k : Int) := by
  have h : ¬ ((k : Nat) : Int) = -1 := by omega
  simp [Raw.join, h]

set_option maxHeartbeats 1000000 in
theorem join_nn {w : World} {f lb n lc : Nat} {R : Raw} {fv : Value} (h : PF w f lb n lc R fv) (p : Int) (hp : p < (n : Int)) :
    Calls Try.prog 34 #[.pointer (some ⟨f, 0, none⟩), .int .i64 p, .int .i64 (-1), .int .i64 (-1)] w fun e w' => (∃ v, e = .returned v) ∧ PF w' f lb n lc (R.join p (-1) (-1)) fv ∧ Apart (own2 f lb) w w' := by
  have CH := head_is h p hp
  obtain ⟨hc, hf⟩ := head_cell h p hp
  have H1 := Lib.hid (head_set h p (-1) hp)
  have HO := Lib.hid (head_own f lb p)
  rw [Raw.join_n, if_pos rfl]
  generalize headA f lb p = ad at *
  clear h
  go_enter Try.func34, Try.ntmps34
  go_wp2_with (go_at_call 33; refine CH.mono ?_; rintro e w' ⟨rfl, rfl⟩)
  go_end0
  exact ⟨⟨_, rfl⟩, H1.out, (Apart.refl _ w).setCell (.inl HO.out) _⟩

set_option maxHeartbeats 1000000 in
theorem join_ns {w : World} {f lb n lc : Nat} {R : Raw} {fv : Value} (h : PF w f lb n lc R fv) (p : Int) (hp : p < (n : Int)) (b : Nat) (hb : b < n) :
    Calls Try.prog 34 #[.pointer (some ⟨f, 0, none⟩), .int .i64 p, .int .i64 (-1), .int .i64 b] w fun e w' => (∃ v, e = .returned v) ∧ PF w' f lb n lc (R.join p (-1) b) fv ∧ Apart (own2 f lb) w w' := by
  have CH := head_is h p hp
  obtain ⟨hc, hf⟩ := head_cell h p hp
  have h1 := head_set h p b hp
  have hn2 := h.n2
  have hbT : ((b : Nat) : Int).toNat = b := by omega
  have hbn : ¬ ((b : Nat) : Int) = -1 := by omega
  have h2 := h1.setL b hb (-1)
  have d0 := h1.cells.1
  have d3 := (h1.at_ b hb).c3
  have df := h1.fr (b * 5 + 3)
  have hbz : ((b : Int) != -1) = true := by simp
  have H2 := Lib.hid h2
  have HO := Lib.hid (head_own f lb p)
  rw [Raw.join_n, if_neg hbn, hbT]
  generalize headA f lb p = ad at *
  clear h h1 h2 hbT hbn
  go_enter Try.func34, Try.ntmps34
  go_wp2_with (go_at_call 33; refine CH.mono ?_; rintro e w' ⟨rfl, rfl⟩)
  go_end0
  exact ⟨⟨_, rfl⟩, H2.out, ((Apart.refl _ w).setCell (.inl HO.out) _).setCell (p := ⟨lb, b * 5 + 3, none⟩) (.inl (.inr rfl)) _⟩

set_option maxHeartbeats 1000000 in
theorem join_sn {w : World} {f lb n lc : Nat} {R : Raw} {fv : Value} (h : PF w f lb n lc R fv) (p : Int) (a : Nat) (ha : a < n) :
    Calls Try.prog 34 #[.pointer (some ⟨f, 0, none⟩), .int .i64 p, .int .i64 a, .int .i64 (-1)] w fun e w' => (∃ v, e = .returned v) ∧ PF w' f lb n lc (R.join p a (-1)) fv ∧ Apart (own2 f lb) w w' := by
  have hn2 := h.n2
  have d0 := h.cells.1
  have d4 := (h.at_ a ha).c4
  have df := h.fr (a * 5 + 4)
  have haz : ((a : Int) == -1) = false := by simp
  have H1 := Lib.hid (h.setR a ha (-1))
  rw [Raw.join_s, if_pos rfl]
  clear h
  go_enter Try.func34, Try.ntmps34
  go_wp2
  go_end0
  exact ⟨⟨_, rfl⟩, H1.out, (Apart.refl _ w).setCell (p := ⟨lb, a * 5 + 4, none⟩) (.inl (.inr rfl)) _⟩

set_option maxHeartbeats 1000000 in
theorem join_ss {w : World} {f lb n lc : Nat} {R : Raw} {fv : Value} (h : PF w f lb n lc R fv) (p : Int) (a b : Nat) (ha : a < n) (hb : b < n) :
    Calls Try.prog 34 #[.pointer (some ⟨f, 0, none⟩), .int .i64 p, .int .i64 a, .int .i64 b] w fun e w' => (∃ v, e = .returned v) ∧ PF w' f lb n lc (R.join p a b) fv ∧ Apart (own2 f lb) w w' := by
  have hn2 := h.n2
  have d0 := h.cells.1
  have d4 := (h.at_ a ha).c4
  have df := h.fr (a * 5 + 4)
  have haz : ((a : Int) == -1) = false := by simp
  have hbz : ((b : Int) != -1) = true := by simp
  have h1 := h.setR a ha b
  have hbT : ((b : Nat) : Int).toNat = b := by omega
  have hbn : ¬ ((b : Nat) : Int) = -1 := by omega
  have H2 := Lib.hid (h1.setL b hb a)
  have d0' := h1.cells.1
  have d3' := (h1.at_ b hb).c3
  have df' := h1.fr (b * 5 + 3)
  rw [Raw.join_s, if_neg hbn, hbT]
  clear h h1 hbT hbn
  go_enter Try.func34, Try.ntmps34
  go_wp2
  go_end0
  exact ⟨⟨_, rfl⟩, H2.out, ((Apart.refl _ w).setCell (p := ⟨lb, a * 5 + 4, none⟩) (.inl (.inr rfl)) _).setCell (p := ⟨lb, b * 5 + 3, none⟩) (.inl (.inr rfl)) _⟩

/-- A place, or none. -/
def inF (n : Nat) (a : Int) : Prop := a = -1 ∨ ∃ k : Nat, a = (k : Int) ∧ k < n
theorem join_is {w : World} {f lb n lc : Nat} {R : Raw} {fv : Value} (h : PF w f lb n lc R fv) (p a b : Int) (hp : p < (n : Int)) (ha : inF n a) (hb : inF n b) :
    Calls Try.prog 34 #[.pointer (some ⟨f, 0, none⟩), .int .i64 p, .int .i64 a, .int .i64 b] w fun e w' => (∃ v, e = .returned v) ∧ PF w' f lb n lc (R.join p a b) fv ∧ Apart (own2 f lb) w w' := by
  rcases ha with rfl | ⟨k, rfl, hk⟩ <;> rcases hb with rfl | ⟨j, rfl, hj⟩
  · exact join_nn h p hp
  · exact join_ns h p hp j hj
  · exact join_sn h p k hk
  · exact join_ss h p k j hk hj

set_option maxHeartbeats 400000 in
theorem check_is {w : World} {f lb n lc : Nat} {R : Raw} {fv : Value} (h : PF w f lb n lc R fv) (x : Int) : Calls Try.prog 35 #[.pointer (some ⟨f, 0, none⟩), .int .i64 x] w fun e w' => e = .returned (.int .i64 (if hasR n R x then 0 else 4)) ∧ w = w' := by
  have CN := nothing_is h
  have CH := has_is h x
  clear h
  cases hb : hasR n R x
  all_goals
    rw [hb] at CH
    clear hb
    go_enter Try.func35, Try.ntmps35
    go_wp2_with (first | (go_at_call 32; refine CN.mono ?_; rintro e w' ⟨rfl, rfl⟩) | (go_at_call 24; refine CH.mono ?_; rintro e w' ⟨rfl, rfl⟩))
    go_ret
    exact ⟨rfl, rfl⟩

set_option maxHeartbeats 400000 in
theorem size_is {w : World} {f lb n lc : Nat} {R : Raw} {fv : Value} (h : PF w f lb n lc R fv) : Calls Try.prog 31 #[.pointer (some ⟨f, 0, none⟩)] w fun e w' => e = .returned (.int .i64 n) ∧ w = w' := by
  have CN := nothing_is h
  have d0 := h.cells.1
  clear h
  go_enter Try.func31, Try.ntmps31
  go_wp2_with (go_at_call 32; refine CN.mono ?_; rintro e w' ⟨rfl, rfl⟩)
  go_ret
  exact ⟨rfl, rfl⟩

set_option maxHeartbeats 400000 in
theorem room_is {w : World} {f lb n lc : Nat} {R : Raw} {A : Option Addr} {k c : Nat} (h : PF w f lb n lc R (.slice A k c)) : Calls Try.prog 37 #[.pointer (some ⟨f, 0, none⟩)] w fun e w' => e = .returned (.int .i64 k) ∧ w = w' := by
  have CN := nothing_is h
  have d2 := h.cells.2.2.1
  clear h
  go_enter Try.func37, Try.ntmps37
  go_wp2_with (go_at_call 32; refine CN.mono ?_; rintro e w' ⟨rfl, rfl⟩)
  go_ret
  exact ⟨rfl, rfl⟩

set_option maxHeartbeats 400000 in
theorem len_is {w : World} {f lb n lc : Nat} {R : Raw} {A : Option Addr} {k c : Nat} (h : PF w f lb n lc R (.slice A k c)) (hk : k ≤ n) : Calls Try.prog 15 #[.pointer (some ⟨f, 0, none⟩)] w fun e w' => e = .returned (.int .i64 ((n - k : Nat) : Int)) ∧ w = w' := by
  have CS := size_is h
  have CR := room_is h
  have hn2 := h.n2
  have e1 : ((n - k : Nat) : Int) = (n : Int) - k := by omega
  rw [e1]
  clear h e1
  go_enter Try.func15, Try.ntmps15
  go_wp2_with (first | (go_at_call 31; refine CS.mono ?_; rintro e w' ⟨rfl, rfl⟩) | (go_at_call 37; refine CR.mono ?_; rintro e w' ⟨rfl, rfl⟩))
  go_ret
  exact ⟨rfl, rfl⟩
end Go.Proofs.Ytoihldagpnkfoaa
