/- Copy of the program's forest, by a walk: the same places on memory of its own. Condition: the places are a forest's. -/
import Derived.Test.YtoihldagpnkfoaaTreeNew
namespace Go.Proofs.Ytoihldagpnkfoaa
open Go.RowKit
set_option linter.unusedVariables false
set_option linter.unusedSimpArgs false

def Nd.vs (x : Nd) : List Value := [.bool x.t, .int .i64 x.u, .int .i64 x.d, .int .i64 x.l, .int .i64 x.r]
/-- All places' cells. -/
def Raw.vs (R : Raw) (n : Nat) : List Value := (List.range n).flatMap fun i => (R.M i).vs
theorem vs_len (R : Raw) : ∀ n, (R.vs n).length = n * 5
  | 0 => rfl
  | n + 1 => by
    have := vs_len R n
    unfold Raw.vs at this ⊢
    rw [List.range_succ, List.flatMap_append, List.length_append, this]
    simp [Nd.vs]
    omega
theorem vs_at (R : Raw) : ∀ (n i j : Nat), i < n → j < 5 → (R.vs n)[i * 5 + j]? = (R.M i).vs[j]?
  | 0, i, j, h, _ => absurd h (Nat.not_lt_zero _)
  | n + 1, i, j, h, hj => by
    have e : R.vs (n + 1) = R.vs n ++ (R.M n).vs := by
      unfold Raw.vs
      rw [List.range_succ, List.flatMap_append]
      simp
    rw [e]
    by_cases hi : i < n
    · rw [List.getElem?_append_left (by rw [vs_len]; omega)]
      exact vs_at R n i j hi hj
    · have : i = n := by omega
      subst this
      rw [List.getElem?_append_right (by rw [vs_len]; omega), vs_len, show i * 5 + j - i * 5 = j by omega]
theorem vs_one (R : Raw) (n : Nat) : ∀ u ∈ R.vs n, u.oneCell' = true := by
  intro u hu
  obtain ⟨i, _, hi⟩ := List.mem_flatMap.1 hu
  simp only [Nd.vs, List.mem_cons, List.not_mem_nil, or_false] at hi
  rcases hi with rfl | rfl | rfl | rfl | rfl <;> rfl
theorem reads_places {w : World} {f lb n lc : Nat} {R : Raw} {fv : Value} (h : PF w f lb n lc R fv) : Reads w w.heap.size 5 (some ⟨lb, 0, none⟩) n (R.vs n) := by
  refine ⟨vs_len R n, fun _ => ⟨_, rfl, h.lt, fun j u hu => ?_⟩⟩
  have hadd : (⟨lb, 0, none⟩ : Addr).add j = ⟨lb, j, none⟩ := by unfold Addr.add; split <;> simp_all
  rw [hadd]
  have hj : j < n * 5 := by
    rcases Nat.lt_or_ge j (n * 5) with h1 | h1
    · exact h1
    · rw [List.getElem?_eq_none (by rw [vs_len]; exact h1)] at hu; cases hu
  have hi : j / 5 < n := by omega
  have e : j = j / 5 * 5 + j % 5 := by omega
  have hq := vs_at R n (j / 5) (j % 5) hi (Nat.mod_lt _ (by omega))
  rw [← e, hu] at hq
  obtain ⟨c0, c1, c2, c3, c4⟩ := h.at_ (j / 5) hi
  rw [e]
  have hm : j % 5 = 0 ∨ j % 5 = 1 ∨ j % 5 = 2 ∨ j % 5 = 3 ∨ j % 5 = 4 := by omega
  rcases hm with hm | hm | hm | hm | hm <;> rw [hm] at hq ⊢ <;> simp only [Nd.vs, List.getElem?_cons_zero, List.getElem?_cons_succ, Option.some.injEq] at hq <;> subst hq <;> assumption

set_option maxRecDepth 100000 in
set_option maxHeartbeats 1000000 in
theorem cloneN_is (ad : Addr) (B m c : Nat) (xs : List Value) (w : World) (h : Reads w B 5 (some ad) m xs) (hB : B ≤ w.heap.size) (h1 : ∀ u ∈ xs, u.oneCell' = true) (hm : m ≤ 4096) :
    Calls Try.prog 44 #[.slice (some ad) m c] w fun e w' => ∃ v, e = .returned v ∧ w'.ownsRow w.heap.size 61 5 v m xs ∧ Below w.heap.size w w' := by
  obtain ⟨i0, hi, hz0, hz1, hz2⟩ := info_parts infoNode
  have hnil : ∀ w', (binOp .eql 55 (.slice (some ad) m c) (.slice none 0 0)).run Try.prog w' = .ok (.bool false) w' := fun w' => by
    rw [Lib.run_eql_slice_nil w' _ _ _ _ _ _ _ Try.underlying55]; rfl
  go_enter Try.func44, Try.ntmps44
  have hown0 : (w.alloc (.cells #[] 61)).ownsRow w.heap.size 61 5 (.slice (some ⟨w.heap.size, 0, none⟩) 0 0) 0 [] := ⟨rfl, .inr ⟨_, 0, #[], rfl, Nat.le_refl _, heap_alloc_new w _, Nat.le_refl _, by unfold maxLen; omega, rfl, rfl⟩⟩
  go_wp2_with (at_builtin; refine wpList_append_any _ rfl (.tmp 5) (.tmp 6) 55 rfl w.heap.size 61 i0 _ 5 40 Try.underlying55 hi hz0 hz1 hz2 rfl (by decide) (.slice (some ⟨w.heap.size, 0, none⟩) 0 0) 0 [] rfl hown0 B (some ad) m c xs rfl (h.alloc hB _) h1 (by unfold maxLen; omega) (by omega) (by simp) ?_; intro v1 w1 hown1 hg1 hat1)
  go_ret
  refine ⟨_, rfl, by simpa using hown1, ((Below.refl _ w).alloc (Nat.le_refl _) _).grown hg1 (by simp) (fun k e => ?_)⟩
  have : w.heap.size = k := by simpa [Value.ownBlock] using e
  omega

set_option maxRecDepth 100000 in
set_option maxHeartbeats 1000000 in
theorem cloneI_some (ad : Addr) (m c : Nat) (L : List Int) (w : World) (h : Reads w w.heap.size 1 (some ad) m (intV L)) (hm : m ≤ 4096) :
    Calls Try.prog 45 #[.slice (some ad) m c] w fun e w' => ∃ v, e = .returned v ∧ w'.ownsRow w.heap.size 3 1 v m (intV L) ∧ Below w.heap.size w w' := by
  obtain ⟨i0, hi, hz0, hz1, hz2⟩ := info_parts infoInt
  have hnil : ∀ w', (binOp .eql 29 (.slice (some ad) m c) (.slice none 0 0)).run Try.prog w' = .ok (.bool false) w' := fun w' => by
    rw [Lib.run_eql_slice_nil w' _ _ _ _ _ _ _ Try.underlying29]; rfl
  go_enter Try.func45, Try.ntmps45
  have hown0 : (w.alloc (.cells #[] 3)).ownsRow w.heap.size 3 1 (.slice (some ⟨w.heap.size, 0, none⟩) 0 0) 0 [] := ⟨rfl, .inr ⟨_, 0, #[], rfl, Nat.le_refl _, heap_alloc_new w _, Nat.le_refl _, by unfold maxLen; omega, rfl, rfl⟩⟩
  go_wp2_with (at_builtin; refine wpList_append_any _ rfl (.tmp 5) (.tmp 6) 29 rfl w.heap.size 3 i0 _ 1 8 Try.underlying29 hi hz0 hz1 hz2 rfl (by decide) (.slice (some ⟨w.heap.size, 0, none⟩) 0 0) 0 [] rfl hown0 w.heap.size (some ad) m c (intV L) rfl (h.alloc (Nat.le_refl _) _) (intV_one L) (by unfold maxLen; omega) (by omega) (by simp) ?_; intro v1 w1 hown1 hg1 hat1)
  go_ret
  refine ⟨_, rfl, by simpa using hown1, ((Below.refl _ w).alloc (Nat.le_refl _) _).grown hg1 (by simp) (fun k e => ?_)⟩
  have : w.heap.size = k := by simpa [Value.ownBlock] using e
  omega
theorem cloneI_nil (w : World) : Calls Try.prog 45 #[.slice none 0 0] w fun e w' => e = .returned (.slice none 0 0) ∧ w = w' := by
  have hnil : ∀ w', (binOp .eql 29 (.slice none 0 0) (.slice none 0 0)).run Try.prog w' = .ok (.bool true) w' := fun w' => by
    rw [Lib.run_eql_slice_nil w' _ _ _ _ _ _ _ Try.underlying29]; rfl
  go_enter Try.func45, Try.ntmps45
  go_wp2_with fail
  go_ret
  exact ⟨rfl, rfl⟩
theorem Cut.reads {w : World} {A : Option Addr} {n c : Nat} {L : List Int} (h : Cut w (.slice A n c) L) : n = L.length ∧ Reads w w.heap.size 1 A n (intV L) ∧ (A = none → n = 0 ∧ c = 0 ∧ L = []) := by
  rcases h with ⟨hv, rfl⟩ | ⟨g, cap, cur, hv, hg, h1, h2, h3, h4⟩
  · injection hv with e1 e2 e3
    subst e1 e2 e3
    exact ⟨rfl, Reads.none_, fun _ => ⟨rfl, rfl, rfl⟩⟩
  · injection hv with e1 e2 e3
    subst e1 e2 e3
    refine ⟨rfl, ⟨by rw [intV_len]; omega, fun _ => ⟨_, rfl, hg.lt, fun j u hu => ?_⟩⟩, fun e => by cases e⟩
    have hadd : (⟨g, 0, none⟩ : Addr).add j = ⟨g, j, none⟩ := by unfold Addr.add; split <;> simp_all
    rw [hadd, hg.cell j]
    rw [← h4, List.getElem?_take] at hu
    split at hu
    · simpa using hu
    · cases hu
theorem cloneI_is (A : Option Addr) (n c : Nat) (L : List Int) (w : World) (h : Cut w (.slice A n c) L) (hm : n ≤ 4096) :
    Calls Try.prog 45 #[.slice A n c] w fun e w' => ∃ v, e = .returned v ∧ w'.ownsRow w.heap.size 3 1 v n (intV L) ∧ Below w.heap.size w w' := by
  obtain ⟨h1, h2, h3⟩ := h.reads
  rcases A with _ | ad
  · obtain ⟨rfl, rfl, rfl⟩ := h3 rfl
    exact (cloneI_nil w).mono fun e w' ⟨he, hw⟩ => ⟨_, he, World.ownsRow_nil _ _ _ _, by rw [← hw]; exact Below.refl _ _⟩
  · exact cloneI_some ad n c L w h2 hm
end Go.Proofs.Ytoihldagpnkfoaa
