/- slices.Clone at records, and Last of a ring that is there, by walks. -/
import Derived.Test.YthmjhepjlgcgfaaAuditKnown
namespace Go.Proofs.Ythmjhepjlgcgfaa
open Go.RowKit
set_option linter.unusedVariables false
set_option linter.unusedSimpArgs false

set_option maxRecDepth 100000 in
set_option maxHeartbeats 1000000 in
theorem clone_some (ad : Addr) (B m c : Nat) (xs : List Value) (w : World) (h : Reads w B 12 (some ad) m xs) (hB : B ≤ w.heap.size) (h1 : ∀ u ∈ xs, u.oneCell' = true) (hm : m ≤ 1000) :
    Calls Try.prog 32 #[.slice (some ad) m c] w fun e w' => ∃ v, e = .returned v ∧ w'.ownsRow w.heap.size 42 12 v m xs ∧ Below w.heap.size w w' := by
  obtain ⟨i0, hi, hz0, hz1, hz2⟩ := info_parts infoRec
  have hnil : ∀ w', (binOp .eql 22 (.slice (some ad) m c) (.slice none 0 0)).run Try.prog w' = .ok (.bool false) w' := fun w' => by
    rw [Lib.run_eql_slice_nil w' _ _ _ _ _ _ _ Try.underlying22]; rfl
  go_enter Try.func32, Try.ntmps32
  have hown0 : (w.alloc (.cells #[] 42)).ownsRow w.heap.size 42 12 (.slice (some ⟨w.heap.size, 0, none⟩) 0 0) 0 [] := ⟨rfl, .inr ⟨_, 0, #[], rfl, Nat.le_refl _, heap_alloc_new w _, Nat.le_refl _, by unfold maxLen; omega, rfl, rfl⟩⟩
  go_wp2_with (at_builtin; refine wpList_append_any _ rfl (.tmp 5) (.tmp 6) 22 rfl w.heap.size 42 i0 _ 12 96 Try.underlying22 hi hz0 hz1 hz2 rfl (by decide) (.slice (some ⟨w.heap.size, 0, none⟩) 0 0) 0 [] rfl hown0 B (some ad) m c xs rfl (h.alloc hB _) h1 (by unfold maxLen; omega) (by omega) (by simp) ?_; intro v1 w1 hown1 hg1 hat1)
  go_ret
  refine ⟨_, rfl, by simpa using hown1, ((Below.refl _ w).alloc (Nat.le_refl _) _).grown hg1 (by simp) (fun k e => ?_)⟩
  have : w.heap.size = k := by simpa [Value.ownBlock] using e
  omega

theorem clone_nil (w : World) : Calls Try.prog 32 #[.slice none 0 0] w fun e w' => e = .returned (.slice none 0 0) ∧ w = w' := by
  have hnil : ∀ w', (binOp .eql 22 (.slice none 0 0) (.slice none 0 0)).run Try.prog w' = .ok (.bool true) w' := fun w' => by
    rw [Lib.run_eql_slice_nil w' _ _ _ _ _ _ _ Try.underlying22]; rfl
  go_enter Try.func32, Try.ntmps32
  go_wp2_with fail
  go_ret
  exact ⟨rfl, rfl⟩

/-- Clone of a row that reads as records: the same records, in memory of the call's own. -/
theorem clone_row (A : Option Addr) (B m c : Nat) (xs : List Value) (w : World) (h : Reads w B 12 A m xs) (hA : A = none → m = 0 ∧ c = 0) (hB : B ≤ w.heap.size) (h1 : ∀ u ∈ xs, u.oneCell' = true) (hm : m ≤ 1000) :
    Calls Try.prog 32 #[.slice A m c] w fun e w' => ∃ v, e = .returned v ∧ w'.ownsRow w.heap.size 42 12 v m xs ∧ Below w.heap.size w w' := by
  rcases A with _ | ad
  · obtain ⟨rfl, rfl⟩ := hA rfl
    have hn : xs = [] := List.eq_nil_of_length_eq_zero (by simpa using h.1)
    subst hn
    exact (clone_nil w).mono fun e w' ⟨he, hw⟩ => ⟨_, he, World.ownsRow_nil _ _ _ _, by rw [← hw]; exact Below.refl _ _⟩
  · exact clone_some ad B m c xs w h hB h1 hm

theorem drop_flat (L : List Rec) (k : Nat) : (L.flatMap Rec.vs).drop (k * 12) = (L.drop k).flatMap Rec.vs := by
  induction k generalizing L with
  | zero => simp
  | succ k ih =>
    cases L with
    | nil => simp
    | cons r L =>
      rw [List.flatMap_cons, List.drop_succ_cons, ← ih L]
      have hl : r.vs.length = 12 := by simp [Rec.vs]
      rw [List.drop_append, List.drop_eq_nil_of_le (by omega), List.nil_append, hl]
      congr 1
      omega

set_option maxRecDepth 100000 in
set_option maxHeartbeats 1000000 in
/-- Last: the last so many of those that are there. -/
theorem last_row (b g n : Nat) (L : Nat → Rec) (m : Nat) (k : Int) (w : World) (h : Ring w b g n L m) (hk : k < 2 ^ 63) (hk' : - 2 ^ 63 ≤ k) :
    Calls Try.prog 19 #[.pointer (some ⟨b, 0, none⟩), .int .i64 k] w fun e w' => ∃ v, e = .returned v ∧ w'.ownsRow w.heap.size 42 12 v (min (min m n) k.toNat) (((live L n m).drop (min m n - k.toNat)).flatMap Rec.vs) ∧ Below w.heap.size w w' := by
  by_cases hlt : k < 1
  · have e1 : min (min m n) k.toNat = 0 := by omega
    have e2 : (live L n m).drop (min m n - k.toNat) = [] := List.drop_eq_nil_of_le (by rw [live_len]; omega)
    rw [e1, e2]
    clear e1 e2 hk hk'
    go_enter Try.func19, Try.ntmps19
    go_wp2_with fail
    go_ret
    exact ⟨_, rfl, World.ownsRow_nil _ _ _ _, Below.refl _ _⟩
  · obtain ⟨j, rfl⟩ := Int.eq_ofNat_of_zero_le (show 0 ≤ k by omega)
    have hn2 := h.hi
    have CA := all_row b g n L m w h (ring_lt h)
    have hll := live_len L n m
    obtain ⟨K, hK⟩ : ∃ K, K = min m n := ⟨_, rfl⟩
    have hK2 : K ≤ 256 := by omega
    simp only [← hK, Int.toNat_natCast] at CA hll ⊢
    clear hK
    generalize live L n m = X at *
    obtain ⟨d, hd⟩ : ∃ d, d = K - j := ⟨_, rfl⟩
    rw [← hd]
    have hdK : d ≤ K := by omega
    have hmin : min K j = K - d := by omega
    rw [hmin]
    have hmax : (j < K ∧ (K : Int) - j = d) ∨ (K ≤ j ∧ d = 0) := by omega
    have HD := Lib.hid hd
    clear hd hmin
    have hlt' : ¬ (j : Int) < 1 := hlt
    clear hlt
    have CC := fun (A : Option Addr) (c : Nat) (Y : List Rec) (w1 : World) (h : Reads w1 w1.heap.size 12 A Y.length (Y.flatMap Rec.vs)) (hA : A = none → Y.length = 0 ∧ c = 0) (hm : Y.length ≤ 1000) => clone_row A w1.heap.size Y.length c (Y.flatMap Rec.vs) w1 h hA (Nat.le_refl _) (flat_one Y) hm
    have hYl : (X.drop d).length = K - d := by rw [List.length_drop, hll]
    rcases hmax with ⟨h1, h2⟩ | ⟨h1, rfl⟩
    · clear hk hk'
      have hd0 : (0 : Int) ≤ (d : Int) := by omega
      have hdK' : (d : Int) ≤ (K : Int) := by omega
      go_enter Try.func19, Try.ntmps19
      go_wp2_with fail
      refine CA.mono ?_
      rintro e w1 ⟨v, rfl, ho, hb1⟩
      obtain ⟨A, cap, rfl, hcap⟩ := own_slice ho
      have hR := (Reads.of_own ho).cut hdK hcap
      rw [drop_flat] at hR
      have hAn : A = none → K = 0 := fun e => by
        rcases Nat.eq_zero_or_pos K with h | h
        · exact h
        · obtain ⟨g, c', hv, _⟩ := ho.form h
          subst e
          cases hv
      have hcd : ¬ cap = d := by omega
      go_wp2_with fail
      rw [if_neg hcd] at hR
      rw [← hYl] at hR ⊢
      have q := CC _ (cap - d) _ w1 hR (fun e => by cases A with | none => have := hAn rfl; omega | some a => cases e) (by rw [hYl]; omega)
      rw [hYl] at q ⊢
      refine q.mono ?_
      rintro e w2 ⟨v2, rfl, ho2, hb2⟩
      go_wp2_with fail
      go_ret
      exact ⟨_, rfl, own_mono ho2 hb1.size, hb1.trans (hb2.mono hb1.size)⟩
    · have hm2 : (j : Int) ≤ 9223372036854775807 := by omega
      have hmm : (K : Int) - j = 0 ∨ (K : Int) - j < 0 := by omega
      clear hk hk'
      rcases hmm with hm1 | hm1
      all_goals
        go_enter Try.func19, Try.ntmps19
        go_wp2_with fail
        refine CA.mono ?_
        rintro e w1 ⟨v, rfl, ho, hb1⟩
        obtain ⟨A, cap, rfl, hcap⟩ := own_slice ho
        have hAn : A = none → K = 0 ∧ cap = 0 := fun e => by
          rcases ho.2 with ⟨hv, h0⟩ | ⟨g, c', cur, hv, _⟩
          · injection hv with _ _ h3
            exact ⟨h0, h3⟩
          · subst e
            cases hv
        have hcz : cap = 0 ∨ ¬ cap = 0 := by omega
        have hR := Reads.of_own ho
        rcases hcz with rfl | hcz
        · obtain rfl : K = 0 := by omega
          have hX : X = [] := List.eq_nil_of_length_eq_zero hll
          subst hX
          clear hYl hR
          go_wp2_with fail
          refine (clone_row A w1.heap.size 0 0 [] w1 ⟨rfl, fun h => absurd h (by omega)⟩ (fun _ => ⟨rfl, rfl⟩) (Nat.le_refl _) (fun _ h => by cases h) (by omega)).mono ?_
          rintro e w2 ⟨v2, rfl, ho2, hb2⟩
          go_wp2_with fail
          go_ret
          exact ⟨_, rfl, own_mono ho2 hb1.size, hb1.trans (hb2.mono hb1.size)⟩
        · clear hYl
          go_wp2_with fail
          rw [← hll] at hR
          have q := CC _ _ _ w1 hR (fun e => ⟨by have := (hAn e).1; omega, by have := (hAn e).2; omega⟩) (by rw [hll]; omega)
          rw [hll] at q
          refine q.mono ?_
          rintro e w2 ⟨v2, rfl, ho2, hb2⟩
          go_wp2_with fail
          go_ret
          exact ⟨_, rfl, by rw [List.drop_zero, Nat.sub_zero]; exact own_mono ho2 hb1.size, hb1.trans (hb2.mono hb1.size)⟩
end Go.Proofs.Ythmjhepjlgcgfaa
