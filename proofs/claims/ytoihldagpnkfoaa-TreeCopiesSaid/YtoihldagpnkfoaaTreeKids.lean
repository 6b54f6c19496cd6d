/- Children, Roots, Parent of the program's forest, by walks. Condition: the places are a forest's. -/
import Derived.Test.YtoihldagpnkfoaaTreeRow
namespace Go.Proofs.Ytoihldagpnkfoaa
open Go.RowKit
set_option linter.unusedVariables false
set_option linter.unusedSimpArgs false

theorem nodup_le : ∀ (n : Nat) (L : List Nat), L.Nodup → (∀ i ∈ L, i < n) → L.length ≤ n
  | 0, L, _, h => by
    cases L with
    | nil => exact Nat.le_refl _
    | cons x l => exact absurd (h x (by simp)) (Nat.not_lt_zero _)
  | n + 1, L, hd, h => by
    have h1 := nodup_le n (L.erase n) (hd.erase n) (fun i hi => by
      have h2 := h i (List.mem_of_mem_erase hi)
      have h3 : i ≠ n := fun e => by subst e; exact absurd hi hd.not_mem_erase
      omega)
    have h4 := List.length_erase_le (a := n) (l := L)
    by_cases hm : n ∈ L
    · have := List.length_erase_of_mem hm
      omega
    · rw [List.erase_of_not_mem hm] at h1
      omega

theorem linked_rep {R : Raw} {F : Fo} (h : Rep R F) (hF : WF F) (p : Int) : Linked R F.n (F.kids p) := by
  refine ⟨fun i hi => hF.lt i ((hF.kin p i).1 hi).1, fun a i b e => ?_⟩
  have hi : i ∈ F.kids p := by rw [e]; simp
  obtain ⟨ht, hp⟩ := (hF.kin p i).1 hi
  rw [h.at_ i (hF.lt i ht)]
  have hnd := hF.nd p
  rw [e] at hnd
  have hia : i ∉ a := fun hm => (List.nodup_append.1 hnd).2.2 i hm i (by simp) rfl
  have e2 : (F.nod i).r = nxt i (F.kids (F.par i)) := by simp [Fo.nod, ht]
  rw [e2, hp, e, nxt_at b hia]
theorem kids_le {F : Fo} (hF : WF F) (p : Int) : (F.kids p).length ≤ F.n := nodup_le _ _ (hF.nd p) fun i hi => hF.lt i ((hF.kin p i).1 hi).1

/-- Is a node in the forest? -/
def Fo.has (F : Fo) (x : Int) : Bool := decide (0 ≤ x) && F.there x.toNat
theorem has_rep {R : Raw} {F : Fo} (h : Rep R F) (hF : WF F) (x : Int) : hasR F.n R x = F.has x := by
  unfold hasR Fo.has
  by_cases h0 : 0 ≤ x
  · by_cases h1 : x < (F.n : Int)
    · rw [h.at_ x.toNat (by omega)]
      cases ht : F.there x.toNat <;> simp [h0, h1, Fo.nod, ht, Nd.zero]
    · have : F.there x.toNat = false := by
        cases ht : F.there x.toNat
        · rfl
        · exact absurd (hF.lt _ ht) (by omega)
      simp [h1, this]
  · simp [h0]
theorem has_nat {F : Fo} {x : Int} (h : F.has x = true) : ∃ k : Nat, x = (k : Int) ∧ F.there k = true := by
  unfold Fo.has at h
  simp at h
  exact ⟨x.toNat, by omega, h.2⟩
theorem has_not {F : Fo} (hF : WF F) {x : Int} (h : F.has x = false) : F.kids x = [] ∨ x = -1 := by
  by_cases e : x = -1
  · exact .inr e
  · refine .inl (List.eq_nil_iff_forall_not_mem.2 fun i hi => ?_)
    obtain ⟨h1, h2⟩ := (hF.kin _ _).1 hi
    rcases hF.up i h1 with e1 | ⟨k, e1, hk⟩
    · exact e (h2.symm.trans e1)
    · rw [← h2, e1] at h
      simp [Fo.has, hk] at h

set_option maxHeartbeats 1000000 in
theorem children_no {w : World} {f lb lc : Nat} {R : Raw} {fv : Value} {F : Fo} (h : PF w f lb F.n lc R fv) (hR : Rep R F) (hF : WF F) (x : Int) (hx : F.has x = false) :
    Calls Try.prog 25 #[.pointer (some ⟨f, 0, none⟩), .int .i64 x] w fun e w' => e = .returned (.slice none 0 0) ∧ w = w' := by
  have CH := has_is h x
  rw [has_rep hR hF, hx] at CH
  clear h hR hF hx
  go_enter Try.func25, Try.ntmps25
  go_wp2_with (go_at_call 24; refine CH.mono ?_; rintro e w' ⟨rfl, rfl⟩)
  go_ret
  exact ⟨rfl, rfl⟩

set_option maxHeartbeats 1000000 in
theorem children_is {w : World} {f lb lc : Nat} {R : Raw} {fv : Value} {F : Fo} (h : PF w f lb F.n lc R fv) (hR : Rep R F) (hF : WF F) (k : Nat) (hk : F.there k = true) :
    Calls Try.prog 25 #[.pointer (some ⟨f, 0, none⟩), .int .i64 k] w fun e w' => (∃ A cap, e = .returned (.slice A (F.kids k).length cap) ∧ w'.ownsRow w.heap.size 3 1 (.slice A (F.kids k).length cap) (F.kids k).length (intV (nats (F.kids k)))) ∧ Below w.heap.size w w' := by
  have CH := has_is h k
  have hh : F.has (k : Int) = true := by simp [Fo.has, hk]
  rw [has_rep hR hF, hh] at CH
  have hkn := hF.lt k hk
  have d0 := h.cells.1
  have d2 := (h.at_ k hkn).c2
  rw [hR.at_ k hkn] at d2
  have e2 : (F.nod k).d = hd (F.kids k) := by simp [Fo.nod, hk]
  rw [e2] at d2
  have hn2 := h.n2
  have CR := row_is h (F.kids k) (linked_rep hR hF k) (Nat.le_trans (kids_le hF k) hn2)
  clear h hR hF hh e2
  generalize hd (F.kids k) = z at *
  go_enter Try.func25, Try.ntmps25
  go_wp2_with (first | (go_at_call 24; refine CH.mono ?_; rintro e w' ⟨rfl, rfl⟩) | (go_at_call 46; refine CR.mono ?_; rintro e w' ⟨⟨A, cap, rfl, ho⟩, hb⟩))
  go_ret
  exact ⟨⟨A, cap, rfl, ho⟩, hb⟩

set_option maxHeartbeats 1000000 in
theorem roots_is {w : World} {f lb lc : Nat} {R : Raw} {fv : Value} {F : Fo} (h : PF w f lb F.n lc R fv) (hR : Rep R F) (hF : WF F) :
    Calls Try.prog 27 #[.pointer (some ⟨f, 0, none⟩)] w fun e w' => (∃ A cap, e = .returned (.slice A (F.kids (-1)).length cap) ∧ w'.ownsRow w.heap.size 3 1 (.slice A (F.kids (-1)).length cap) (F.kids (-1)).length (intV (nats (F.kids (-1))))) ∧ Below w.heap.size w w' := by
  have CN := nothing_is h
  have d1 := h.cells.2.1
  rw [hR.first] at d1
  have hn2 := h.n2
  have CR := row_is h (F.kids (-1)) (linked_rep hR hF (-1)) (Nat.le_trans (kids_le hF (-1)) hn2)
  clear h hR hF
  generalize hd (F.kids (-1)) = z at *
  go_enter Try.func27, Try.ntmps27
  go_wp2_with (first | (go_at_call 32; refine CN.mono ?_; rintro e w' ⟨rfl, rfl⟩) | (go_at_call 46; refine CR.mono ?_; rintro e w' ⟨⟨A, cap, rfl, ho⟩, hb⟩))
  go_ret
  exact ⟨⟨A, cap, rfl, ho⟩, hb⟩

/-- The parent's answer. -/
def Fo.up? (F : Fo) (x : Int) : Int × Bool := if F.has x = true ∧ F.par x.toNat ≠ -1 then (F.par x.toNat, true) else (0, false)

set_option maxHeartbeats 1000000 in
theorem parent_is {w : World} {f lb lc : Nat} {R : Raw} {fv : Value} {F : Fo} (h : PF w f lb F.n lc R fv) (hR : Rep R F) (hF : WF F) (x : Int) :
    Calls Try.prog 28 #[.pointer (some ⟨f, 0, none⟩), .int .i64 x] w fun e w' => e = .returned (.tuple #[.int .i64 (F.up? x).1, .bool (F.up? x).2]) ∧ w = w' := by
  have CH := has_is h x
  rw [has_rep hR hF] at CH
  have d0 := h.cells.1
  have hn2 := h.n2
  by_cases hx : F.has x = true
  · rw [hx] at CH
    obtain ⟨k, rfl, hk⟩ := has_nat hx
    have hkn := hF.lt k hk
    have d1 := (h.at_ k hkn).c1
    rw [hR.at_ k hkn] at d1
    have e2 : (F.nod k).u = F.par k := by simp [Fo.nod, hk]
    rw [e2] at d1
    have hT : ((k : Nat) : Int).toNat = k := by omega
    by_cases hu : F.par k = -1
    · have e3 : F.up? (k : Int) = (0, false) := by simp [Fo.up?, hT, hu]
      rw [e3]
      rw [hu] at d1
      clear h hR hF e2 hT hx e3
      go_enter Try.func28, Try.ntmps28
      go_wp2_with (go_at_call 24; refine CH.mono ?_; rintro e w' ⟨rfl, rfl⟩)
      go_ret2
      exact ⟨rfl, rfl⟩
    · have e3 : F.up? (k : Int) = (F.par k, true) := by simp [Fo.up?, hT, hu, hx]
      rw [e3]
      have hu' : (F.par k == -1) = false := by simpa using hu
      generalize F.par k = z at *
      clear h hR hF e2 hT hx e3 hu
      go_enter Try.func28, Try.ntmps28
      go_wp2_with (go_at_call 24; refine CH.mono ?_; rintro e w' ⟨rfl, rfl⟩)
      go_ret2
      exact ⟨rfl, rfl⟩
  · have hx' : F.has x = false := by simpa using hx
    rw [hx'] at CH
    have e3 : F.up? x = (0, false) := by simp [Fo.up?, hx']
    rw [e3]
    clear h hR hF e3 hx
    go_enter Try.func28, Try.ntmps28
    go_wp2_with (go_at_call 24; refine CH.mono ?_; rintro e w' ⟨rfl, rfl⟩)
    go_ret2
    exact ⟨rfl, rfl⟩
end Go.Proofs.Ytoihldagpnkfoaa
