/- Of the following, one behind the other: The reference's capability tables in memory: a block of five cells, a list of eight cells each; Find, there, Full, Free by walks. The reference's there, Full, Free, Parent, by walks. The reference's Above, Under, by walks. The reference's Among, by walk. The reference's Under, by walk. The reference's Revoke, by walk. -/
import Derived.Test.YtbknmfegckeogaaPk10
import Derived.Deep.RegionHeld3
/- The reference's capability tables in memory: a block of five cells, a list of eight cells each; Find, there, Full, Free by walks. -/
namespace Go.Proofs.Ytbknmfegckeogaa
open Go.RowKit Go.Maps
set_option linter.unusedVariables false
set_option linter.unusedSimpArgs false

/-- An entry of the reference's list: eight cells. -/
def oneV (e : En) : List Value := [.int .i64 (e.id : Int), .int .i64 (e.up : Int), .int .i64 e.g, .int .i64 e.s, .int .i64 e.c.k, .int .i64 e.c.i, .int .u64 e.c.n, .int .u8 e.c.r]
def onesV (L : List En) : List Value := L.flatMap oneV
theorem oneV_len (e : En) : (oneV e).length = 8 := rfl
theorem onesV_len (L : List En) : (onesV L).length = L.length * 8 := by
  induction L with
  | nil => rfl
  | cons a L ih =>
    rw [onesV, List.flatMap_cons, List.length_append, oneV_len]
    have e : (L.flatMap oneV).length = (onesV L).length := rfl
    rw [e, ih, List.length_cons]
    omega
theorem onesV_app (a b : List En) : onesV (a ++ b) = onesV a ++ onesV b := by simp [onesV]
theorem onesV_one (e : En) : onesV [e] = oneV e := by simp [onesV]
theorem onesV_cell : ∀ (L : List En) (i : Nat) (h : i < L.length) (j : Nat), j < 8 → (onesV L)[i * 8 + j]? = (oneV (L[i]'h))[j]?
  | [], i, h, j, _ => by simp at h
  | a :: L, 0, h, j, hj => by
    have e : onesV (a :: L) = oneV a ++ onesV L := by simp [onesV]
    rw [e, List.getElem?_append_left (by rw [oneV_len]; omega)]
    simp
  | a :: L, i + 1, h, j, hj => by
    have e : onesV (a :: L) = oneV a ++ onesV L := by simp [onesV]
    have e2 : (i + 1) * 8 + j - 8 = i * 8 + j := by omega
    rw [e, List.getElem?_append_right (by rw [oneV_len]; omega), oneV_len, e2]
    exact onesV_cell L i (by simpa using h) j hj
theorem onesV_cells (L : List En) : ∀ u ∈ onesV L, u.oneCell' = true := by
  intro u hu
  obtain ⟨e, _, he⟩ := List.mem_flatMap.1 hu
  simp only [oneV, List.mem_cons, List.not_mem_nil, or_false] at he
  rcases he with rfl | rfl | rfl | rfl | rfl | rfl | rfl | rfl <;> rfl

/-- Where the reference's tables lie. -/
structure Rd where
  b : Nat
  A : Option Addr
  c : Nat
def Rd.foot (R : Rd) (k : Nat) : Prop := k = R.b ∨ (Value.slice R.A 0 R.c).ownBlock = some k
theorem oneNe : 66 ≠ 64 := by decide
structure RfAt (w : World) (R : Rd) (S : Sp) : Prop where
  head : Blk w R.b 64 #[.int .i64 S.gs, .int .i64 S.sl, .int .i64 (S.F.n : Int), .slice R.A S.L.length R.c, .int .i64 (S.came : Int)]
  row : w.ownsRow 0 66 8 (.slice R.A S.L.length R.c) S.L.length (onesV S.L)
section
variable {w w' : World} {R : Rd} {S : Sp}
theorem own_keep {w w' : World} {base : Nat} {e : TypeId} {size : Nat} {v : Value} {n : Nat} {xs : List Value} (h : w.ownsRow base e size v n xs) (hk : ∀ k, v.ownBlock = some k → w'.heap[k]? = w.heap[k]?) : w'.ownsRow base e size v n xs := by
  refine ⟨h.1, ?_⟩
  rcases h.2 with hn | ⟨g, cap, cur, rfl, hbg, hg, rest⟩
  · exact .inl hn
  · exact .inr ⟨g, cap, cur, rfl, hbg, (hk g rfl).trans hg, rest⟩
theorem own_lt {w : World} {base : Nat} {e : TypeId} {size : Nat} {v : Value} {n : Nat} {xs : List Value} (h : w.ownsRow base e size v n xs) {k : Nat} (hk : v.ownBlock = some k) : k < w.heap.size := by
  rcases h.2 with ⟨rfl, _⟩ | ⟨g, cap, cur, rfl, hbg, hg, rest⟩
  · cases hk
  · have : g = k := by simpa [Value.ownBlock] using hk
    subst this
    exact (Array.getElem?_eq_some_iff.1 hg).1
theorem own_any (A : Option Addr) (n m c : Nat) : (Value.slice A n c).ownBlock = (Value.slice A m c).ownBlock := by cases A <;> rfl
theorem RfAt.keep (h : RfAt w R S) (hk : ∀ k, R.foot k → w'.heap[k]? = w.heap[k]?) : RfAt w' R S :=
  ⟨(hk R.b (.inl rfl)).trans h.head, own_keep h.row fun k hh => hk k (.inr ((own_any _ _ _ _).trans hh))⟩
theorem RfAt.lt (h : RfAt w R S) {k : Nat} (hk : R.foot k) : k < w.heap.size := by
  rcases hk with rfl | hk
  · exact h.head.lt
  · exact own_lt h.row ((own_any _ _ _ _).trans hk)
theorem RfAt.apart {Z : Nat → Prop} (h : RfAt w R S) (ha : Apart Z w w') (hZ : ∀ k, R.foot k → ¬ Z k) : RfAt w' R S := h.keep fun k hk => ha.block k (h.lt hk) (hZ k hk)
theorem RfAt.below (h : RfAt w R S) (hb : Below w.heap.size w w') : RfAt w' R S := h.keep fun k hk => hb.block k (h.lt hk)
theorem RfAt.drewN (h : RfAt w R S) (k : Nat) : RfAt (w.drewN k) R S := h.keep fun _ _ => rfl
theorem RfAt.ne (h : RfAt w R S) : (Value.slice R.A S.L.length R.c).ownBlock ≠ some R.b := own_blk_ne h.row h.head oneNe
theorem RfAt.cells (h : RfAt w R S) : w.cell? ⟨R.b, 0, none⟩ = some (.int .i64 S.gs) ∧ w.cell? ⟨R.b, 1, none⟩ = some (.int .i64 S.sl) ∧ w.cell? ⟨R.b, 2, none⟩ = some (.int .i64 (S.F.n : Int)) ∧ w.cell? ⟨R.b, 3, none⟩ = some (.slice R.A S.L.length R.c) ∧ w.cell? ⟨R.b, 4, none⟩ = some (.int .i64 (S.came : Int)) :=
  ⟨h.head.cell 0, h.head.cell 1, h.head.cell 2, h.head.cell 3, h.head.cell 4⟩
/-- The eight cells of an entry. -/
structure OneAt (w : World) (q o : Nat) (e : En) : Prop where
  c0 : w.cell? ⟨q, o, none⟩ = some (.int .i64 (e.id : Int))
  c1 : w.cell? ⟨q, o + 1, none⟩ = some (.int .i64 (e.up : Int))
  c2 : w.cell? ⟨q, o + 2, none⟩ = some (.int .i64 e.g)
  c3 : w.cell? ⟨q, o + 3, none⟩ = some (.int .i64 e.s)
  c4 : w.cell? ⟨q, o + 4, none⟩ = some (.int .i64 e.c.k)
  c5 : w.cell? ⟨q, o + 5, none⟩ = some (.int .i64 e.c.i)
  c6 : w.cell? ⟨q, o + 6, none⟩ = some (.int .u64 e.c.n)
  c7 : w.cell? ⟨q, o + 7, none⟩ = some (.int .u8 e.c.r)
theorem own_one {L : List En} {A : Option Addr} {B c : Nat} (h : w.ownsRow B 66 8 (.slice A L.length c) L.length (onesV L)) (i : Nat) (hi : i < L.length) : ∃ q, A = some ⟨q, 0, none⟩ ∧ OneAt w q (i * 8) (L[i]'hi) := by
  rcases h.2 with ⟨hn, h0⟩ | ⟨g, cap, cur, hv, _, hg, h1, h2, h3, h4⟩
  · omega
  · injection hv with hA
    have hc : ∀ j, j < 8 → w.cell? ⟨g, i * 8 + j, none⟩ = (oneV (L[i]'hi))[j]? := by
      intro j hj
      rw [cell_of_row w g (i * 8 + j) cur 66 (0, 0) hg, ← onesV_cell L i hi j hj, ← h4, List.getElem?_take, if_pos (by omega)]
      simp
    exact ⟨g, hA, hc 0 (by omega), hc 1 (by omega), hc 2 (by omega), hc 3 (by omega), hc 4 (by omega), hc 5 (by omega), hc 6 (by omega), hc 7 (by omega)⟩
theorem RfAt.one (h : RfAt w R S) (i : Nat) (hi : i < S.L.length) : ∃ q, R.A = some ⟨q, 0, none⟩ ∧ OneAt w q (i * 8) (S.L[i]'hi) := own_one h.row i hi

/-- Where in the list it is. -/
def posI (L : List En) (g s : Int) : Int := match L.findIdx? fun e => e.isAt g s with
  | some i => (i : Int)
  | none => -1
theorem posI_at {L : List En} {g s : Int} {k : Nat} (hk : k < L.length) (h1 : ∀ j (hj : j < k), (L[j]'(by omega)).isAt g s = false) (h2 : (L[k]'hk).isAt g s = true) : posI L g s = (k : Int) := by
  unfold posI
  have : L.findIdx? (fun e => e.isAt g s) = some k := by
    rw [List.findIdx?_eq_some_iff_getElem]
    exact ⟨hk, h2, fun j hj => by rw [h1 j hj]; simp⟩
  rw [this]
theorem posI_end {L : List En} {g s : Int} (h1 : ∀ j (hj : j < L.length), (L[j]'hj).isAt g s = false) : posI L g s = -1 := by
  unfold posI
  have : L.findIdx? (fun e => e.isAt g s) = none := by
    rw [List.findIdx?_eq_none_iff]
    intro e he
    obtain ⟨j, hj, rfl⟩ := List.getElem_of_mem he
    exact h1 j hj
  rw [this]
theorem posI_cases (L : List En) (g s : Int) : (fnd L g s = none ∧ posI L g s = -1) ∨ ∃ i, ∃ h : i < L.length, fnd L g s = some (L[i]'h) ∧ posI L g s = (i : Int) := by
  unfold posI fnd
  cases h : L.findIdx? fun e => e.isAt g s with
  | none =>
    refine .inl ⟨?_, rfl⟩
    rw [List.findIdx?_eq_none_iff] at h
    rw [List.find?_eq_none]
    intro e he
    rw [h e he]
    simp
  | some i =>
    have h' := h
    rw [List.findIdx?_eq_some_iff_getElem] at h'
    obtain ⟨hi, h1, h2⟩ := h'
    refine .inr ⟨i, hi, ?_, rfl⟩
    rw [List.find?_eq_some_iff_getElem]
    exact ⟨h1, i, hi, rfl, fun j hj => by have := h2 j hj; simpa using this⟩
theorem isAt_eq (e : En) (g s : Int) : e.isAt g s = ((e.g == g) && (e.s == s)) := by
  unfold En.isAt
  rw [Bool.eq_iff_iff]
  simp
set_option maxRecDepth 100000 in
set_option maxHeartbeats 1000000 in
theorem find_is (h : RfAt w R S) (hn : S.L.length ≤ 512) (g s : Int) : Calls Try.prog 27 #[.pointer (some ⟨R.b, 0, none⟩), .int .i64 g, .int .i64 s] w fun e w' => e = .returned (.int .i64 (posI S.L g s)) ∧ w = w' := by
  obtain ⟨-, -, -, c3, -⟩ := h.cells
  have HR := Lib.hid (fun i hi => h.one i hi)
  clear h
  go_enter Try.func27, Try.ntmps27
  go_wp2_with fail
  go_loopw [7] (fun i wr => ∃ k : Nat, i = .int .i64 (k : Int) ∧ k ≤ S.L.length ∧ w = wr ∧ (∀ j, j < k → ∀ hj : j < S.L.length, (S.L[j]'hj).isAt g s = false)) (fun i _ => S.L.length - (intOf i).toNat)
  case atStart => exact ⟨0, rfl, Nat.zero_le _, rfl, fun j hj => absurd hj (Nat.not_lt_zero _)⟩
  case round =>
    obtain ⟨k, rfl, hk, rfl, hall⟩ := hrel
    have HA := Lib.hid hall
    clear hall
    by_cases hlt : k < S.L.length
    · obtain ⟨q, hq, ho⟩ := HR.out k hlt
      have d2 := ho.c2
      have d3 := ho.c3
      have hi := isAt_eq (S.L[k]'hlt) g s
      have HK := Lib.hid (And.intro hk hlt)
      obtain ⟨x, hx⟩ : ∃ x, x = S.L[k]'hlt := ⟨_, rfl⟩
      rw [← hx] at d2 d3 hi
      have HX := Lib.hid hx
      clear hx ho
      have hlt1 : (k : Int) < (S.L.length : Int) := by omega
      rw [hq] at c3
      cases h1 : x.g == g
      · rw [h1] at hi
        have HI := Lib.hid hi
        clear hi
        go_wp2_with fail
        exact ⟨⟨k + 1, by go_num, HK.out.2, trivial, fun j hj hj2 => by
          by_cases e : j < k
          · exact HA.out j e hj2
          · have : j = k := by omega
            subst this
            rw [← HX.out, HI.out]
            rfl⟩, by simp [intOf]; omega⟩
      · cases h2 : x.s == s
        · rw [h1, h2] at hi
          have HI := Lib.hid hi
          clear hi
          go_wp2_with fail
          exact ⟨⟨k + 1, by go_num, HK.out.2, trivial, fun j hj hj2 => by
            by_cases e : j < k
            · exact HA.out j e hj2
            · have : j = k := by omega
              subst this
              rw [← HX.out, HI.out]
              rfl⟩, by simp [intOf]; omega⟩
        · rw [h1, h2] at hi
          have HI := Lib.hid hi
          have hp := posI_at HK.out.2 (fun j hj => HA.out j hj (by omega)) (by rw [← HX.out]; exact hi)
          have HP := Lib.hid hp
          clear hi hp
          go_wp2_with fail
          go_ret
          exact ⟨by rw [HP.out]; rfl, rfl⟩
    · have hlt1 : ¬ (k : Int) < (S.L.length : Int) := by omega
      have hp := posI_end (L := S.L) (g := g) (s := s) (fun j hj => HA.out j (by omega) hj)
      have HP := Lib.hid hp
      clear hp
      go_wp2_with fail
      go_ret
      exact ⟨by rw [HP.out]; rfl, rfl⟩
end
end Go.Proofs.Ytbknmfegckeogaa

/- The reference's there, Full, Free, Parent, by walks. -/
namespace Go.Proofs.Ytbknmfegckeogaa
open Go.RowKit Go.Maps
set_option linter.unusedVariables false
set_option linter.unusedSimpArgs false

section
variable {w w' : World} {R : Rd} {S : Sp}
set_option maxRecDepth 100000 in
set_option maxHeartbeats 1000000 in
theorem rfThere_is (h : RfAt w R S) (g s : Int) : Calls Try.prog 78 #[.pointer (some ⟨R.b, 0, none⟩), .int .i64 g, .int .i64 s] w fun e w' => e = .returned (.bool (S.there g s)) ∧ w = w' := by
  obtain ⟨c0, c1, -⟩ := h.cells
  obtain ⟨E, hE⟩ : ∃ E, E = S.there g s := ⟨_, rfl⟩
  rw [← hE]
  have hcs : (¬ 0 ≤ g ∧ E = false) ∨ (0 ≤ g ∧ ¬ g < S.gs ∧ E = false) ∨ (0 ≤ g ∧ g < S.gs ∧ ¬ 0 ≤ s ∧ E = false) ∨ (0 ≤ g ∧ g < S.gs ∧ 0 ≤ s ∧ ¬ s < S.sl ∧ E = false) ∨ (0 ≤ g ∧ g < S.gs ∧ 0 ≤ s ∧ s < S.sl ∧ E = true) := by
    have hb : S.there g s = true ↔ (0 ≤ g ∧ g < S.gs ∧ 0 ≤ s ∧ s < S.sl) := by simp [Sp.there, and_assoc]
    cases hm : S.there g s
    · rw [hm] at hE hb
      simp only [Bool.false_eq_true, false_iff] at hb
      subst hE
      simp only [and_true, Bool.false_eq_true, and_false, or_false]
      omega
    · rw [hm] at hE hb
      simp only [true_iff] at hb
      subst hE
      simp only [and_true, Bool.true_eq_false, and_false, false_or]
      omega
  clear hE h
  generalize S.gs = G at *
  generalize S.sl = L at *
  rcases hcs with ⟨h1, rfl⟩ | ⟨h1, h2, rfl⟩ | ⟨h1, h2, h3, rfl⟩ | ⟨h1, h2, h3, h4, rfl⟩ | ⟨h1, h2, h3, h4, rfl⟩
  all_goals
    go_enter Try.func78, Try.ntmps78
    go_wp2
    go_ret
    exact ⟨rfl, rfl⟩
theorem pos_neg {L : List En} {g s : Int} (h : fnd L g s = none) : posI L g s = -1 := by
  rcases posI_cases L g s with ⟨_, h2⟩ | ⟨i, hi, h2, _⟩
  · exact h2
  · rw [h] at h2; cases h2
theorem pos_some {L : List En} {g s : Int} {x : En} (h : fnd L g s = some x) : ∃ i, ∃ hi : i < L.length, L[i]'hi = x ∧ posI L g s = (i : Int) := by
  rcases posI_cases L g s with ⟨h2, _⟩ | ⟨i, hi, h2, h3⟩
  · rw [h] at h2; cases h2
  · rw [h] at h2
    injection h2 with h2
    exact ⟨i, hi, h2.symm, h3⟩
set_option maxRecDepth 100000 in
set_option maxHeartbeats 1000000 in
theorem rfFull_is (h : RfAt w R S) (hn : S.L.length ≤ 512) (g s : Int) : Calls Try.prog 41 #[.pointer (some ⟨R.b, 0, none⟩), .int .i64 g, .int .i64 s] w fun e w' => e = .returned (.int .i64 (S.full g s)) ∧ w = w' := by
  have CT := rfThere_is h g s
  have CF := find_is h hn g s
  unfold Sp.full
  cases ht : S.there g s
  · rw [ht] at CT
    simp only [Bool.false_eq_true, if_false]
    clear h ht
    go_enter Try.func41, Try.ntmps41
    go_wp2_with (go_at_call 78; refine CT.mono ?_; rintro e w' ⟨rfl, rfl⟩)
    go_ret
    exact ⟨rfl, rfl⟩
  · rw [ht] at CT
    simp only [if_true]
    cases hf : fnd S.L g s with
    | none =>
      rw [pos_neg hf] at CF
      simp only [Option.isSome_none, Bool.false_eq_true, if_false]
      clear h ht hf
      go_enter Try.func41, Try.ntmps41
      go_wp2_with (first | (go_at_call 78; refine CT.mono ?_; rintro e w' ⟨rfl, rfl⟩) | (go_at_call 27; refine CF.mono ?_; rintro e w' ⟨rfl, rfl⟩))
      go_ret
      exact ⟨rfl, rfl⟩
    | some x =>
      obtain ⟨i, hi, -, hp⟩ := pos_some hf
      rw [hp] at CF
      simp only [Option.isSome_some, if_true]
      have hi0 : ¬ (i : Int) < 0 := by omega
      clear h ht hf hi hp
      go_enter Try.func41, Try.ntmps41
      go_wp2_with (first | (go_at_call 78; refine CT.mono ?_; rintro e w' ⟨rfl, rfl⟩) | (go_at_call 27; refine CF.mono ?_; rintro e w' ⟨rfl, rfl⟩))
      go_ret
      exact ⟨rfl, rfl⟩
set_option maxRecDepth 100000 in
set_option maxHeartbeats 1000000 in
theorem rfFree_is (h : RfAt w R S) (hn : S.L.length ≤ 512) (g s : Int) : Calls Try.prog 42 #[.pointer (some ⟨R.b, 0, none⟩), .int .i64 g, .int .i64 s] w fun e w' => e = .returned (.int .i64 (S.freeE g s)) ∧ w = w' := by
  have CT := rfThere_is h g s
  have CF := find_is h hn g s
  unfold Sp.freeE
  cases ht : S.there g s
  · rw [ht] at CT
    simp only [Bool.false_eq_true, if_false]
    clear h ht
    go_enter Try.func42, Try.ntmps42
    go_wp2_with (go_at_call 78; refine CT.mono ?_; rintro e w' ⟨rfl, rfl⟩)
    go_ret
    exact ⟨rfl, rfl⟩
  · rw [ht] at CT
    simp only [if_true]
    cases hf : fnd S.L g s with
    | none =>
      rw [pos_neg hf] at CF
      simp only [Option.isSome_none, Bool.false_eq_true, if_false]
      clear h ht hf
      go_enter Try.func42, Try.ntmps42
      go_wp2_with (first | (go_at_call 78; refine CT.mono ?_; rintro e w' ⟨rfl, rfl⟩) | (go_at_call 27; refine CF.mono ?_; rintro e w' ⟨rfl, rfl⟩))
      go_ret
      exact ⟨rfl, rfl⟩
    | some x =>
      obtain ⟨i, hi, -, hp⟩ := pos_some hf
      rw [hp] at CF
      simp only [Option.isSome_some, if_true]
      have hi0 : 0 ≤ (i : Int) := by omega
      clear h ht hf hi hp
      go_enter Try.func42, Try.ntmps42
      go_wp2_with (first | (go_at_call 78; refine CT.mono ?_; rintro e w' ⟨rfl, rfl⟩) | (go_at_call 27; refine CF.mono ?_; rintro e w' ⟨rfl, rfl⟩))
      go_ret
      exact ⟨rfl, rfl⟩

/-- The same place in the list. -/
theorem byId_at {L : List En} {k : Nat} {i : Nat} (hi : i < L.length) (h1 : ∀ j (hj : j < i), (L[j]'(by omega)).id ≠ k) (h2 : (L[i]'hi).id = k) : byId L k = some (L[i]'hi) := by
  unfold byId
  rw [List.find?_eq_some_iff_getElem]
  exact ⟨by simpa using h2, i, hi, rfl, fun j hj => by simpa using h1 j hj⟩
theorem byId_end {L : List En} {k : Nat} (h1 : ∀ j (hj : j < L.length), (L[j]'hj).id ≠ k) : byId L k = none := by
  unfold byId
  rw [List.find?_eq_none]
  intro e he
  obtain ⟨j, hj, rfl⟩ := List.getElem_of_mem he
  simpa using h1 j hj
set_option maxRecDepth 100000 in
set_option maxHeartbeats 2000000 in
theorem rfParent_is (h : RfAt w R S) (hn : S.L.length ≤ 512) (g s : Int) : Calls Try.prog 28 #[.pointer (some ⟨R.b, 0, none⟩), .int .i64 g, .int .i64 s] w fun e w' => e = .returned (parV (S.parE g s)) ∧ Below w.heap.size w w' := by
  have CF := find_is h hn g s
  unfold Sp.parE
  cases hf : fnd S.L g s with
  | none =>
    rw [pos_neg hf] at CF
    simp only [Option.bind_none, parV]
    clear h hf
    go_enter Try.func28, Try.ntmps28
    go_wp2_with (go_at_call 27; refine CF.mono ?_; rintro e w' ⟨rfl, rfl⟩)
    go_ret3
    exact ⟨rfl, Below.refl _ _⟩
  | some x =>
    obtain ⟨m, hm, hmx, hp⟩ := pos_some hf
    rw [hp] at CF
    simp only [Option.bind_some]
    obtain ⟨q, hq, ho⟩ := h.one m hm
    rw [hmx] at ho
    have HR := Lib.hid (fun i hi => h.one i hi)
    obtain ⟨-, -, -, c3, -⟩ := h.cells
    have HM := Lib.hid (And.intro hm hn)
    have hm0 : ¬ (m : Int) < 0 := by omega
    have u1 := ho.c1
    have hm1 : (m : Int) < (S.L.length : Int) := by omega
    rw [hq] at c3
    clear h hf hp hmx hm ho
    go_enter Try.func28, Try.ntmps28
    go_wp2_with (go_at_call 27; refine CF.mono ?_; rintro e w' ⟨rfl, rfl⟩)
    go_loopw [10] (fun i wr => ∃ k n : Nat, i = .int .i64 (k : Int) ∧ k ≤ S.L.length ∧ wr = w.drewN n ∧ (∀ j, j < k → ∀ hj : j < S.L.length, (S.L[j]'hj).id ≠ x.up)) (fun i _ => S.L.length - (intOf i).toNat)
    case atStart => exact ⟨0, 0, rfl, Nat.zero_le _, rfl, fun j hj => absurd hj (Nat.not_lt_zero _)⟩
    case round =>
      obtain ⟨k, n, rfl, hk, rfl, hall⟩ := hrel
      have HA := Lib.hid hall
      clear hall
      by_cases hlt : k < S.L.length
      · obtain ⟨q2, hq2, ho⟩ := HR.out k hlt
        obtain rfl : q = q2 := by
          rw [hq] at hq2
          injection hq2 with hq2
          injection hq2
        have d0 := ho.c0
        have d2 := ho.c2
        have d3 := ho.c3
        have HK := Lib.hid (And.intro hk hlt)
        obtain ⟨y, hy⟩ : ∃ y, y = S.L[k]'hlt := ⟨_, rfl⟩
        rw [← hy] at d0 d2 d3
        have HY := Lib.hid hy
        clear hy ho hq2
        have hlt1 : (k : Int) < (S.L.length : Int) := by omega
        by_cases he : y.id = x.up
        · have he2 : ((y.id : Int) == (x.up : Int)) = true := by simp; omega
          have HB := Lib.hid (byId_at HK.out.2 (k := x.up) (fun j hj => HA.out j hj (by omega)) (by rw [← HY.out]; exact he))
          clear he
          go_wp2_with fail
          go_quiet (fail)
          go_wp2_with fail
          go_quiet (fail)
          go_wp2_with fail
          go_ret3
          exact ⟨by rw [HB.out, ← HY.out]; rfl, by simp only [World.drewN_drewN]; exact below_drewN_ _ _ _⟩
        · have he2 : ((y.id : Int) == (x.up : Int)) = false := by simp; omega
          have HE := Lib.hid he
          clear he
          go_wp2_with fail
          go_quiet (fail)
          go_wp2_with fail
          exact ⟨⟨k + 1, n + nq, by go_num, HK.out.2, by simp only [World.drewN_drewN], fun j hj hj2 => by
            by_cases e : j < k
            · exact HA.out j e hj2
            · have : j = k := by omega
              subst this
              rw [← HY.out]
              exact HE.out⟩, by simp [intOf]; omega⟩
      · have hlt1 : ¬ (k : Int) < (S.L.length : Int) := by omega
        have HB := Lib.hid (byId_end (L := S.L) (k := x.up) (fun j hj => HA.out j (by omega) hj))
        go_wp2_with fail
        go_ret3
        exact ⟨by rw [HB.out]; rfl, below_drewN_ _ _ _⟩
end
end Go.Proofs.Ytbknmfegckeogaa

/- The reference's Above, Under, by walks. -/
namespace Go.Proofs.Ytbknmfegckeogaa
open Go.RowKit Go.Maps
set_option linter.unusedVariables false
set_option linter.unusedSimpArgs false

def oneA (e : En) : Value := .agg #[.int .i64 (e.id : Int), .int .i64 (e.up : Int), .int .i64 e.g, .int .i64 e.s, .int .i64 e.c.k, .int .i64 e.c.i, .int .u64 e.c.n, .int .u8 e.c.r]
def oneC (e : En) : Array Value := #[.int .i64 (e.id : Int), .int .i64 (e.up : Int), .int .i64 e.g, .int .i64 e.s, .int .i64 e.c.k, .int .i64 e.c.i, .int .u64 e.c.n, .int .u8 e.c.r]
section
variable {w w' : World} {R : Rd} {S : Sp}
set_option maxRecDepth 100000 in
set_option maxHeartbeats 2000000 in
theorem above_is (h : RfAt w R S) (hn : S.L.length ≤ 512) (id : Nat) (x : En) : Calls Try.prog 61 #[.pointer (some ⟨R.b, 0, none⟩), .int .i64 (id : Int), oneA x] w fun e w' => e = .returned (.bool (S.abv id x)) ∧ Below w.heap.size w w' := by
  have HR := Lib.hid h
  have hbx := (Below.refl w.heap.size w).alloc (Nat.le_refl _) (.cells #[.int .i64 (x.id : Int), .int .i64 (x.up : Int), .int .i64 x.g, .int .i64 x.s, .int .i64 x.c.k, .int .i64 x.c.i, .int .u64 x.c.n, .int .u8 x.c.r] 66)
  have hblk := Blk.new w 66 #[.int .i64 (x.id : Int), .int .i64 (x.up : Int), .int .i64 x.g, .int .i64 x.s, .int .i64 x.c.k, .int .i64 x.c.i, .int .u64 x.c.n, .int .u8 x.c.r]
  clear h
  unfold oneA Sp.abv
  have HA : Hid (abvR S.L id (S.L.length + 1) x = abvR S.L id (S.L.length + 1 - 0) x) := Lib.hid rfl
  obtain ⟨E, hE⟩ : ∃ E, E = abvR S.L id (S.L.length + 1) x := ⟨_, rfl⟩
  rw [← hE] at HA ⊢
  clear hE
  go_enter Try.func61, Try.ntmps61
  go_wp2_with fail
  generalize w.alloc (.cells #[.int .i64 (x.id : Int), .int .i64 (x.up : Int), .int .i64 x.g, .int .i64 x.s, .int .i64 x.c.k, .int .i64 x.c.i, .int .u64 x.c.n, .int .u8 x.c.r] 66) = w1 at *
  go_loopw [7] (fun i wr => ∃ (k : Nat) (y : En), i = .int .i64 (k : Int) ∧ k ≤ S.L.length + 1 ∧ Hid (E = abvR S.L id (S.L.length + 1 - k) y) ∧ Blk wr w.heap.size 66 #[.int .i64 (y.id : Int), .int .i64 (y.up : Int), .int .i64 y.g, .int .i64 y.s, .int .i64 y.c.k, .int .i64 y.c.i, .int .u64 y.c.n, .int .u8 y.c.r] ∧ Below w.heap.size w wr) (fun i _ => S.L.length + 1 - (intOf i).toNat)
  case atStart => exact ⟨0, x, rfl, Nat.zero_le _, HA, hblk, hbx⟩
  case round =>
    clear HA hblk hbx
    obtain ⟨k, y, rfl, hk, HA, hblk, hbw⟩ := hrel
    have b1 := hblk.cell 1
    simp only [List.getElem?_toArray, List.getElem?_cons_zero, List.getElem?_cons_succ] at b1
    have h1 := HR.out.below hbw
    obtain ⟨-, -, -, c3, -⟩ := h1.cells
    have HI := Lib.hid (And.intro hblk (And.intro hbw h1))
    clear hblk hbw h1
    by_cases hkl : k ≤ S.L.length
    · have hk1 : (k : Int) ≤ (S.L.length : Int) := by omega
      have hfu : S.L.length + 1 - k = (S.L.length - k) + 1 := by omega
      rw [hfu] at HA
      by_cases hu : y.up = 0
      · have hu1 : ((y.up : Int) != 0) = false := by simp [hu]
        have HE : Hid (E = false) := Lib.hid (by rw [HA.out, abvR, if_pos hu])
        clear hu
        go_wp2_with fail
        go_ret
        exact ⟨by rw [HE.out]; rfl, HI.out.2.1⟩
      · have hu1 : ((y.up : Int) != 0) = true := by simp; omega
        by_cases hi : y.up = id
        · have hi1 : ((y.up : Int) == (id : Int)) = true := by simp; omega
          have HE : Hid (E = true) := Lib.hid (by rw [HA.out, abvR, if_neg hu, if_pos hi])
          clear hu hi
          go_wp2_with fail
          go_ret
          exact ⟨by rw [HE.out]; rfl, HI.out.2.1⟩
        · have hi1 : ((y.up : Int) == (id : Int)) = false := by simp; omega
          have HE : Hid (E = abvR S.L id (S.L.length - k) ((byId S.L y.up).getD y)) := Lib.hid (by rw [HA.out, abvR, if_neg hu, if_neg hi])
          have HK := Lib.hid hkl
          clear hu hi HA hfu hkl hk
          go_wp2_with fail
          obtain ⟨w2, hw2⟩ : ∃ w2, w2 = wr := ⟨_, rfl⟩
          subst hw2
          go_loopw [8] (fun i wx => ∃ j n : Nat, i = .int .i64 (j : Int) ∧ j ≤ S.L.length ∧ wx = w2.drewN n ∧ (∀ a, a < j → ∀ ha : a < S.L.length, (S.L[a]'ha).id ≠ y.up)) (fun i _ => S.L.length - (intOf i).toNat)
          case atStart => exact ⟨0, 0, rfl, Nat.zero_le _, rfl, fun j hj => absurd hj (Nat.not_lt_zero _)⟩
          case round =>
            obtain ⟨j, n, rfl, hj, rfl, hall⟩ := hrel
            have HL := Lib.hid hall
            clear hall
            by_cases hlt : j < S.L.length
            · obtain ⟨q, hq, ho⟩ := HI.out.2.2.one j hlt
              have d0 := ho.c0
              have d1 := ho.c1
              have d2 := ho.c2
              have d3 := ho.c3
              have d4 := ho.c4
              have d5 := ho.c5
              have d6 := ho.c6
              have d7 := ho.c7
              have HJ := Lib.hid (And.intro hj hlt)
              obtain ⟨z, hz⟩ : ∃ z, z = S.L[j]'hlt := ⟨_, rfl⟩
              rw [← hz] at d0 d1 d2 d3 d4 d5 d6 d7
              have HZ := Lib.hid hz
              clear hz ho
              have hlt1 : (j : Int) < (S.L.length : Int) := by omega
              rw [hq] at c3
              by_cases he : z.id = y.up
              · have he2 : ((z.id : Int) == (y.up : Int)) = true := by simp; omega
                have HB := Lib.hid (byId_at HJ.out.2 (k := y.up) (fun a ha => HL.out a ha (by omega)) (by rw [← HZ.out]; exact he))
                clear he
                go_wp2_with fail
                go_quiet (fail)
                have hR3 : (w2.drewN (n + nq)).heap[w.heap.size]? = some (.cells #[.int .i64 (y.id : Int), .int .i64 (y.up : Int), .int .i64 y.g, .int .i64 y.s, .int .i64 y.c.k, .int .i64 y.c.i, .int .u64 y.c.n, .int .u8 y.c.r] 66 (0, 0)) := HI.out.1
                go_wp2_with ((with_reducible refine wpList_store_row (o := ⟨none, .store 66 (.tmp 5) (.tmp 53), _, _, _, _⟩) rfl 66 (.tmp 5) (.tmp 53) ?_ w.heap.size #[.int .i64 (z.id : Int), .int .i64 (z.up : Int), .int .i64 z.g, .int .i64 z.s, .int .i64 z.c.k, .int .i64 z.c.i, .int .u64 z.c.n, .int .u8 z.c.r] ?_ ?_ 66 _ hR3 (by kernel_rfl) rfl ?_ ?_); exact rfl; exact rfl; exact rfl; simp [Value.oneCell'])
                exact ⟨⟨k + 1, z, by go_num, by have := HK.out; omega, Lib.hid (by rw [HE.out, HB.out, ← HZ.out]; simp), Blk.put_ hR3 _, below_setRow (HI.out.2.1.trans (below_drewN_ _ _ _)) (Nat.le_refl _) _⟩, by have := HK.out; simp [intOf]; omega⟩
              · have he2 : ((z.id : Int) == (y.up : Int)) = false := by simp; omega
                have HE2 := Lib.hid he
                clear he
                go_wp2_with fail
                go_quiet (fail)
                go_wp2_with fail
                exact ⟨⟨j + 1, n + nq, by go_num, HJ.out.2, by simp only [World.drewN_drewN], fun a ha ha2 => by
                  by_cases e : a < j
                  · exact HL.out a e ha2
                  · have : a = j := by omega
                    subst this
                    rw [← HZ.out]
                    exact HE2.out⟩, by simp [intOf]; omega⟩
            · have hlt1 : ¬ (j : Int) < (S.L.length : Int) := by omega
              have HB := Lib.hid (byId_end (L := S.L) (k := y.up) (fun a ha => HL.out a (by omega) ha))
              go_wp2_with fail
              exact ⟨⟨k + 1, y, by go_num, by have := HK.out; omega, Lib.hid (by rw [HE.out, HB.out]; simp), HI.out.1, HI.out.2.1.trans (below_drewN_ _ _ _)⟩, by have := HK.out; simp [intOf]; omega⟩
    · have hk1 : ¬ (k : Int) ≤ (S.L.length : Int) := by omega
      have hfu : S.L.length + 1 - k = 0 := by omega
      rw [hfu] at HA
      have HE : Hid (E = false) := Lib.hid (by rw [HA.out, abvR])
      clear hfu hkl HA
      go_wp2_with fail
      go_ret
      exact ⟨by rw [HE.out]; rfl, HI.out.2.1⟩
end
end Go.Proofs.Ytbknmfegckeogaa

/- The reference's Among, by walk. -/
namespace Go.Proofs.Ytbknmfegckeogaa
open Go.RowKit Go.Maps
set_option linter.unusedVariables false
set_option linter.unusedSimpArgs false

def amR : Nat → Nat → Nat → Bool
  | 0, _, _ => true
  | f + 1, a, b => if a % 2 = 1 ∧ b % 2 = 0 then false else amR f (a / 2) (b / 2)
theorem amR_gen : ∀ (f k a b : Nat), amR f (a / 2 ^ k) (b / 2 ^ k) = (List.range' k f).all fun k => !bitB a k || bitB b k
  | 0, k, a, b => rfl
  | f + 1, k, a, b => by
    have ih := amR_gen f (k + 1) a b
    rw [amR, List.range'_succ, List.all_cons, ← ih, Nat.div_div_eq_div_mul, Nat.div_div_eq_div_mul, ← Nat.pow_succ]
    unfold bitB
    have h1 : a / 2 ^ k % 2 = 0 ∨ a / 2 ^ k % 2 = 1 := by omega
    have h2 : b / 2 ^ k % 2 = 0 ∨ b / 2 ^ k % 2 = 1 := by omega
    rcases h1 with h1 | h1 <;> rcases h2 with h2 | h2 <;> simp [h1, h2]
theorem amR_is (a b : Nat) : amR 8 a b = among a b := by
  have := amR_gen 8 0 a b
  simp only [Nat.pow_zero, Nat.div_one] at this
  rw [this, among, List.range_eq_range']
set_option maxRecDepth 100000 in
set_option maxHeartbeats 1000000 in
theorem among_is (a b : Int) (w : World) (ha : 0 ≤ a ∧ a < 256) (hb : 0 ≤ b ∧ b < 256) : Calls Try.prog 16 #[.int .u8 a, .int .u8 b] w fun e w' => e = .returned (.bool (amongI a b)) ∧ w = w' := by
  unfold amongI
  rw [← amR_is]
  obtain ⟨a, rfl⟩ := Int.eq_ofNat_of_zero_le ha.1
  obtain ⟨b, rfl⟩ := Int.eq_ofNat_of_zero_le hb.1
  simp only [Int.toNat_natCast]
  obtain ⟨E, hE⟩ : ∃ E, E = amR 8 a b := ⟨_, rfl⟩
  rw [← hE]
  have HE := Lib.hid (show E = amR (8 - 0) a b from hE)
  have HB := Lib.hid (show a < 256 ∧ b < 256 from by omega)
  clear ha hb hE
  go_enter Try.func16, Try.ntmps16
  go_wp2_with fail
  go_loopw [5, 0, 1] (fun i x y wr => ∃ k p q : Nat, i = .int .i64 (k : Int) ∧ x = .int .u8 (p : Int) ∧ y = .int .u8 (q : Int) ∧ k ≤ 8 ∧ Hid (p < 256 ∧ q < 256) ∧ Hid (E = amR (8 - k) p q) ∧ w = wr) (fun i _ _ _ => 8 - (intOf i).toNat)
  case atStart => exact ⟨0, a, b, rfl, rfl, rfl, by omega, HB, HE, rfl⟩
  case round =>
    obtain ⟨k, p, q, rfl, rfl, rfl, hk, HP, HR, rfl⟩ := hrel
    by_cases hlt : k < 8
    · have hlt1 : (k : Int) < 8 := by omega
      have hf : 8 - k = (8 - (k + 1)) + 1 := by omega
      rw [hf] at HR
      have h1 := HP.out.1
      have h2 := HP.out.2
      by_cases hp : p % 2 = 1
      · have hp1 : ((p : Int) % 2 == 1) = true := by simp; omega
        by_cases hq : q % 2 = 0
        · have hq1 : ((q : Int) % 2 == 0) = true := by simp; omega
          have HX : Hid (E = false) := Lib.hid (by rw [HR.out, amR, if_pos ⟨hp, hq⟩])
          clear hp hq
          go_wp2_with fail
          go_ret
          exact ⟨by rw [HX.out]; rfl, rfl⟩
        · have hq1 : ((q : Int) % 2 == 0) = false := by simp; omega
          have HX : Hid (E = amR (8 - (k + 1)) (p / 2) (q / 2)) := Lib.hid (by rw [HR.out, amR, if_neg (fun h => hq h.2)])
          clear hp hq
          go_wp2_with fail
          exact ⟨⟨k + 1, p / 2, q / 2, by go_num, by go_num, by go_num, hlt, Lib.hid (by omega), HX, trivial⟩, by simp [intOf]; omega⟩
      · have hp1 : ((p : Int) % 2 == 1) = false := by simp; omega
        have HX : Hid (E = amR (8 - (k + 1)) (p / 2) (q / 2)) := Lib.hid (by rw [HR.out, amR, if_neg (fun h => hp h.1)])
        clear hp
        go_wp2_with fail
        exact ⟨⟨k + 1, p / 2, q / 2, by go_num, by go_num, by go_num, hlt, Lib.hid (by omega), HX, trivial⟩, by simp [intOf]; omega⟩
    · have hlt1 : ¬ (k : Int) < 8 := by omega
      have hf : 8 - k = 0 := by omega
      rw [hf] at HR
      have HX : Hid (E = true) := Lib.hid (by rw [HR.out, amR])
      go_wp2_with fail
      go_ret
      exact ⟨by rw [HX.out]; rfl, rfl⟩
end Go.Proofs.Ytbknmfegckeogaa

/- The reference's Under, by walk. -/
namespace Go.Proofs.Ytbknmfegckeogaa
open Go.RowKit Go.Maps
set_option linter.unusedVariables false
set_option linter.unusedSimpArgs false

theorem below_undrew {B : Nat} {w w' : World} (n : Nat) (h : Below B (w.drewN n) w') : Below B w w' := ⟨h.os, h.tape, h.output, h.size, h.block⟩
/-- Is one a descendant of another one? -/
def Sp.undE (S : Sp) (g s g' s' : Int) : Bool := match fnd S.L g s, fnd S.L g' s' with
  | some x, some y => S.abv y.id x
  | _, _ => false
theorem undE_no1 {S : Sp} {g s g' s' : Int} (h : fnd S.L g s = none) : S.undE g s g' s' = false := by unfold Sp.undE; rw [h]
theorem undE_no2 {S : Sp} {g s g' s' : Int} (h : fnd S.L g' s' = none) : S.undE g s g' s' = false := by
  unfold Sp.undE; rw [h]; cases fnd S.L g s <;> rfl
theorem undE_yes {S : Sp} {g s g' s' : Int} {x y : En} (h : fnd S.L g s = some x) (h' : fnd S.L g' s' = some y) : S.undE g s g' s' = S.abv y.id x := by unfold Sp.undE; rw [h, h']
section
variable {w w' : World} {R : Rd} {S : Sp}
set_option maxRecDepth 100000 in
set_option maxHeartbeats 2000000 in
theorem rfUnder_is (h : RfAt w R S) (hn : S.L.length ≤ 512) (g s g' s' : Int) : Calls Try.prog 24 #[.pointer (some ⟨R.b, 0, none⟩), .int .i64 g, .int .i64 s, .int .i64 g', .int .i64 s'] w fun e w' => e = .returned (.bool (S.undE g s g' s')) ∧ Below w.heap.size w w' := by
  have CF := find_is h hn g s
  have CG := find_is h hn g' s'
  cases hf : fnd S.L g s with
  | none =>
    rw [pos_neg hf] at CF
    rw [undE_no1 hf]
    generalize posI S.L g' s' = z at *
    clear h hf
    go_enter Try.func24, Try.ntmps24
    go_wp2_with (first | ((with_reducible refine CF.mono ?_); rintro e w2 ⟨rfl, hw2⟩; subst w2) | ((with_reducible refine CG.mono ?_); rintro e w2 ⟨rfl, hw2⟩; subst w2))
    go_quiet (fail)
    go_wp2_with fail
    go_ret
    exact ⟨rfl, below_drewN_ _ _ _⟩
  | some x =>
    obtain ⟨i, hi, hix, hp⟩ := pos_some hf
    rw [hp] at CF
    have hi0 : decide (0 ≤ (i : Int)) = true := by simp
    cases hf' : fnd S.L g' s' with
    | none =>
      rw [pos_neg hf'] at CG
      rw [undE_no2 hf']
      clear h hf hf' hix hp hi
      go_enter Try.func24, Try.ntmps24
      go_wp2_with (first | ((with_reducible refine CF.mono ?_); rintro e w2 ⟨rfl, hw2⟩; subst w2) | ((with_reducible refine CG.mono ?_); rintro e w2 ⟨rfl, hw2⟩; subst w2))
      go_quiet (fail)
      go_wp2_with fail
      go_ret
      exact ⟨rfl, below_drewN_ _ _ _⟩
    | some y =>
      obtain ⟨k, hk, hky, hp'⟩ := pos_some hf'
      rw [hp'] at CG
      rw [undE_yes hf hf']
      have hk0 : decide (0 ≤ (k : Int)) = true := by simp
      have CA := above_is (h.drewN 1) hn y.id x
      obtain ⟨q, hq, ho⟩ := h.one i hi
      obtain ⟨q2, hq2, ho2⟩ := h.one k hk
      obtain rfl : q = q2 := by
        rw [hq] at hq2
        injection hq2 with hq2
        injection hq2
      rw [hix] at ho
      rw [hky] at ho2
      obtain ⟨-, -, -, c3, -⟩ := h.cells
      rw [hq] at c3
      have LB : R.b < w.heap.size ∧ q < w.heap.size := ⟨h.head.lt, h.lt (.inr (by rw [hq]; rfl))⟩
      have hi1 : (i : Int) < (S.L.length : Int) := by omega
      have hk1 : (k : Int) < (S.L.length : Int) := by omega
      obtain ⟨n, hnn⟩ : ∃ n, n = S.L.length := ⟨_, rfl⟩
      rw [← hnn] at c3 hi1 hk1 hn
      clear h hf hf' hix hky hp hp' hi hk hq hq2 hnn
      unfold oneA at CA
      have d0 := ho.c0
      have d1 := ho.c1
      have d2 := ho.c2
      have d3 := ho.c3
      have d4 := ho.c4
      have d5 := ho.c5
      have d6 := ho.c6
      have d7 := ho.c7
      have f0 := ho2.c0
      clear ho ho2
      generalize S.abv y.id x = E at *
      go_enter Try.func24, Try.ntmps24
      go_wp2_with (first | ((with_reducible refine CF.mono ?_); rintro e w2 ⟨rfl, hw2⟩; subst w2) | ((with_reducible refine CG.mono ?_); rintro e w2 ⟨rfl, hw2⟩; subst w2))
      clear CF CG
      go_region_held3 (fun w' => w'.cell? ⟨R.b, 3, none⟩ = some (.slice (some ⟨q, 0, none⟩) n R.c) ∧ w'.cell? ⟨q, i * 8, none⟩ = some (.int .i64 (x.id : Int)) ∧ w'.cell? ⟨q, i * 8 + 1, none⟩ = some (.int .i64 (x.up : Int)) ∧ w'.cell? ⟨q, i * 8 + 2, none⟩ = some (.int .i64 x.g) ∧ w'.cell? ⟨q, i * 8 + 3, none⟩ = some (.int .i64 x.s) ∧ w'.cell? ⟨q, i * 8 + 4, none⟩ = some (.int .i64 x.c.k) ∧ w'.cell? ⟨q, i * 8 + 5, none⟩ = some (.int .i64 x.c.i) ∧ w'.cell? ⟨q, i * 8 + 6, none⟩ = some (.int .u64 x.c.n) ∧ w'.cell? ⟨q, i * 8 + 7, none⟩ = some (.int .u8 x.c.r) ∧ w'.cell? ⟨q, k * 8, none⟩ = some (.int .i64 (y.id : Int))) (go_keep) (first | (go_at_call 61; refine CA.mono ?_; rintro e w1 ⟨rfl, hb1⟩; (have m3 := (hb1.cell (p := ⟨R.b, 3, none⟩) LB.1).trans c3); (have m0 := (hb1.cell (p := ⟨q, i * 8, none⟩) LB.2).trans d0); (have m1 := (hb1.cell (p := ⟨q, i * 8 + 1, none⟩) LB.2).trans d1); (have m2 := (hb1.cell (p := ⟨q, i * 8 + 2, none⟩) LB.2).trans d2); (have m4 := (hb1.cell (p := ⟨q, i * 8 + 3, none⟩) LB.2).trans d3); (have m5 := (hb1.cell (p := ⟨q, i * 8 + 4, none⟩) LB.2).trans d4); (have m6 := (hb1.cell (p := ⟨q, i * 8 + 5, none⟩) LB.2).trans d5); (have m7 := (hb1.cell (p := ⟨q, i * 8 + 6, none⟩) LB.2).trans d6); (have m8 := (hb1.cell (p := ⟨q, i * 8 + 7, none⟩) LB.2).trans d7); (have m9 := (hb1.cell (p := ⟨q, k * 8, none⟩) LB.2).trans f0); (have HB := Lib.hid hb1); clear hb1) | fail)
      go_wp2_with fail
      go_ret
      exact ⟨rfl, below_undrew 1 HB.out⟩
end
end Go.Proofs.Ytbknmfegckeogaa

/- The reference's Revoke, by walk. -/
namespace Go.Proofs.Ytbknmfegckeogaa
open Go.RowKit Go.Maps
set_option linter.unusedVariables false
set_option linter.unusedSimpArgs false

theorem infoOne : (Try.prog.info? 66).map (fun i => (i.zero, i.size, i.bytes)) = some (some (.agg #[.int .i64 0, .int .i64 0, .int .i64 0, .int .i64 0, .int .i64 0, .int .i64 0, .int .u64 0, .int .u8 0]), 8, 64) := by kernel_rfl
theorem info_parts_ {P : Program} {t : TypeId} {z : Value} {a b : Nat} (h : (P.info? t).map (fun i => (i.zero, i.size, i.bytes)) = some (some z, a, b)) : ∃ i, P.info? t = some i ∧ i.zero = some z ∧ i.size = a ∧ i.bytes = b := by
  cases hi : P.info? t with
  | none => rw [hi] at h; cases h
  | some i =>
    rw [hi] at h
    simp only [Option.map_some, Option.some.injEq, Prod.mk.injEq] at h
    exact ⟨i, rfl, h.1, h.2.1, h.2.2⟩
/-- What an act of the reference does to where it lies. -/
structure RfGo (w w' : World) (R R' : Rd) : Prop where
  b : R'.b = R.b
  foot : ∀ k, R'.foot k → R.foot k ∨ w.heap.size ≤ k
  apart : Apart (fun k => k = R.b) w w'
theorem RfGo.refl (w : World) (R : Rd) : RfGo w w R R := ⟨rfl, fun k h => .inl h, Apart.refl _ _⟩
theorem RfGo.of_below {w w' : World} (R : Rd) (h : Below w.heap.size w w') : RfGo w w' R R := ⟨rfl, fun k h => .inl h, Apart.of_below h⟩
theorem RfGo.trans {w w' w'' : World} {R R' R'' : Rd} (h : RfGo w w' R R') (k : RfGo w' w'' R' R'') : RfGo w w'' R R'' :=
  ⟨k.b.trans h.b, fun j hj => by
    rcases k.foot j hj with e | e
    · exact h.foot j e
    · exact .inr (Nat.le_trans h.apart.size e), h.apart.trans k.apart fun j _ e => by rw [e]; exact h.b⟩
theorem RfAt.ext {w : World} {R : Rd} {S S' : Sp} (h : RfAt w R S) (h1 : S'.gs = S.gs) (h2 : S'.sl = S.sl) (h3 : S'.F.n = S.F.n) (h4 : S'.L = S.L) (h5 : S'.came = S.came) : RfAt w R S' :=
  ⟨by rw [h1, h2, h3, h4, h5]; exact h.head, by rw [h4]; exact h.row⟩
theorem reads_oneE (W : World) (e : En) : Reads (W.alloc (.cells #[.int .i64 (e.id : Int), .int .i64 (e.up : Int), .int .i64 e.g, .int .i64 e.s, .int .i64 e.c.k, .int .i64 e.c.i, .int .u64 e.c.n, .int .u8 e.c.r] 66)) (W.heap.size + 1) 8 (some ⟨W.heap.size, 0, none⟩) 1 (oneV e) :=
  ⟨rfl, fun _ => ⟨_, rfl, by simp, fun j u hu => by
    have hb := Blk.new W 66 #[.int .i64 (e.id : Int), .int .i64 (e.up : Int), .int .i64 e.g, .int .i64 e.s, .int .i64 e.c.k, .int .i64 e.c.i, .int .u64 e.c.n, .int .u8 e.c.r]
    have ha : (⟨W.heap.size, 0, none⟩ : Addr).add j = ⟨W.heap.size, j, none⟩ := by unfold Addr.add; split <;> simp_all
    rw [ha, hb.cell j, ← hu]
    simp [oneV]⟩⟩
/-- A list stored where the old one was. -/
theorem RfAt.store {w w1 : World} {R : Rd} {S : Sp} (h : RfAt w R S) (hb : Below w.heap.size w w1) {A : Option Addr} {c : Nat} {L : List En} (ho : w1.ownsRow w.heap.size 66 8 (.slice A L.length c) L.length (onesV L)) :
    RfAt (w1.setCell ⟨R.b, 3, none⟩ (.slice A L.length c)) ⟨R.b, A, c⟩ { S with L := L } ∧ RfGo w (w1.setCell ⟨R.b, 3, none⟩ (.slice A L.length c)) R ⟨R.b, A, c⟩ := by
  have h1 := h.below hb
  have hne : ∀ k, (Value.slice A L.length c).ownBlock = some k → w.heap.size ≤ k := fun k hk => (ho.lt k hk).1
  refine ⟨⟨h1.head.set_ 3 _, own_keep (own_mono ho (Nat.zero_le _)) fun k hk => Below.heap_setCell _ _ _ _ ?_⟩, rfl, fun k hk => ?_, Apart.setCell (S := fun k => k = R.b) (p := ⟨R.b, 3, none⟩) (Apart.of_below hb) (.inl rfl) _⟩
  · have := hne k hk
    have := h.head.lt
    show k ≠ R.b
    omega
  · rcases hk with hk | hk
    · exact .inl (.inl hk)
    · exact .inr (hne k ((own_any _ _ _ _).trans hk))
section
variable {w w' : World} {R : Rd} {S : Sp}
set_option maxRecDepth 100000 in
set_option maxHeartbeats 1000000 in
theorem rfRevoke_no (h : RfAt w R S) (hn : S.L.length ≤ 512) (g s : Int) (hf : S.full g s ≠ 0) : Calls Try.prog 45 #[.pointer (some ⟨R.b, 0, none⟩), .int .i64 g, .int .i64 s] w fun e w' => e = .returned (.tuple #[.int .i64 0, .int .i64 (S.full g s)]) ∧ w = w' := by
  have CF := rfFull_is h hn g s
  have hq : (S.full g s != 0) = true := by simpa using hf
  generalize S.full g s = E at *
  clear hf h
  go_enter Try.func45, Try.ntmps45
  go_wp2_with (go_at_call 41; refine CF.mono ?_; rintro e w2 ⟨rfl, rfl⟩)
  go_ret2
  exact ⟨rfl, rfl⟩
/-- The list without those that are below. -/
def Sp.offL (S : Sp) (id : Nat) : List En := S.L.filter fun e => !(S.abv id e)
set_option maxRecDepth 100000 in
set_option maxHeartbeats 2000000 in
theorem rfRevoke_yes (h : RfAt w R S) (hn : S.L.length ≤ 512) (g s : Int) (ht : S.there g s = true) {x : En} (hf : fnd S.L g s = some x) : Calls Try.prog 45 #[.pointer (some ⟨R.b, 0, none⟩), .int .i64 g, .int .i64 s] w fun e w' => e = .returned (.tuple #[.int .i64 ((S.L.length : Int) - ((S.offL x.id).length : Int)), .int .i64 0]) ∧ ∃ R', RfAt w' R' { S with L := S.offL x.id } ∧ RfGo w w' R R' := by
  have CF := rfFull_is h hn g s
  have hE : S.full g s = 0 := by simp [Sp.full, ht, hf]
  rw [hE] at CF
  have CG := find_is (h.drewN 1) hn g s
  obtain ⟨m, hm, hmx, hp⟩ := pos_some hf
  rw [hp] at CG
  obtain ⟨q, hq, ho⟩ := h.one m hm
  rw [hmx] at ho
  have f0 := ho.c0
  obtain ⟨-, -, -, c3, -⟩ := h.cells
  rw [hq] at c3
  have hm1 : (m : Int) < (S.L.length : Int) := by omega
  obtain ⟨i0, hi0, hz0, hz1, hz2⟩ := info_parts_ infoOne
  have HR := Lib.hid h
  have HQ := Lib.hid hq
  have HN := Lib.hid hn
  have HM := Lib.hid (show ∀ k, k < S.L.length → ∀ h : k < S.L.length, (S.L.take (k + 1)).filter (fun e => !(S.abv x.id e)) = (S.L.take k).filter (fun e => !(S.abv x.id e)) ++ (if S.abv x.id (S.L[k]'h) = true then [] else [S.L[k]'h]) from fun k _ hk => by
    rw [List.take_succ_eq_append_getElem hk, List.filter_append]
    congr 1
    simp only [List.filter_cons, List.filter_nil]
    cases S.abv x.id (S.L[k]'hk) <;> rfl)
  have CQ := fun n => (find_is (h.drewN n) hn g s).mono (fun e w'' hh => And.intro hh.1 hh.2.symm)
  rw [hp] at CQ
  clear h hE hf ht hmx hp ho hq hm CG
  go_enter Try.func45, Try.ntmps45
  go_wp2_with (go_at_call 41; refine CF.mono ?_; rintro e w2 ⟨rfl, hw2⟩; subst w2)
  go_quiet ((go_at_call 27; exact Calls.quiet_of_same (CQ _)))
  go_wp2_with fail
  clear CF CQ f0 c3
  go_loopw [10, 11] (fun o i wr => ∃ k : Nat, k ≤ S.L.length ∧ i = .int .i64 k ∧ wr.ownsRow w.heap.size 66 8 o ((S.L.take k).filter fun e => !(S.abv x.id e)).length (onesV ((S.L.take k).filter fun e => !(S.abv x.id e))) ∧ Below w.heap.size w wr) (fun _ i _ => S.L.length - (intOf i).toNat)
  case atStart => exact ⟨0, Nat.zero_le _, rfl, World.ownsRow_nil _ _ _ _, below_drewN_ _ _ _⟩
  case round =>
    obtain ⟨k, hk, rfl, hown, hbr⟩ := hrel
    obtain ⟨A, cap, rfl⟩ := own_slice hown
    have h1 := HR.out.below hbr
    obtain ⟨-, -, -, c3, -⟩ := h1.cells
    rw [HQ.out] at c3
    by_cases hlt : k < S.L.length
    · obtain ⟨q2, hq2, ho⟩ := h1.one k hlt
      obtain rfl : q = q2 := by
        have := HQ.out
        rw [this] at hq2
        injection hq2 with hq2
        injection hq2
      have d0 := ho.c0
      have d1 := ho.c1
      have d2 := ho.c2
      have d3 := ho.c3
      have d4 := ho.c4
      have d5 := ho.c5
      have d6 := ho.c6
      have d7 := ho.c7
      have hst := HM.out k hlt hlt
      have hll : ((S.L.take k).filter fun e => !(S.abv x.id e)).length ≤ 512 := Nat.le_trans (List.length_filter_le _ _) (by rw [List.length_take]; omega)
      have CA := above_is h1 hn x.id (S.L[k]'hlt)
      obtain ⟨y, hy⟩ : ∃ y, y = S.L[k]'hlt := ⟨_, rfl⟩
      rw [← hy] at d0 d1 d2 d3 d4 d5 d6 d7 hst CA
      have HK := Lib.hid hlt
      have hk1 : (k : Int) < (S.L.length : Int) := by omega
      have HB := Lib.hid hbr
      have LB := Lib.hid (show R.b < wr.heap.size ∧ q < wr.heap.size from ⟨h1.head.lt, h1.lt (.inr (by rw [HQ.out]; rfl))⟩)
      unfold oneA at CA
      clear hlt hbr h1 ho hy hq2
      obtain ⟨L, hL⟩ : ∃ L, L = (S.L.take k).filter fun e => !(S.abv x.id e) := ⟨_, rfl⟩
      rw [← hL] at hown hst hll ⊢
      clear hL
      have HO := Lib.hid hown
      have m3 := Lib.hid (show L.length + 1 ≤ maxLen from by unfold maxLen; omega)
      have m4 := Lib.hid (show (L.length + 1) * 64 ≤ 140737488355328 from by omega)
      clear hown hll
      cases hab : S.abv x.id y
      · rw [hab] at CA hst
        simp only [Bool.false_eq_true, if_false] at hst
        have HST := Lib.hid hst
        clear hst hab
        go_wp2_with (first | (go_at_call 61; refine CA.mono ?_; rintro e w1 ⟨rfl, hb1⟩; (have n3 := (hb1.cell (p := ⟨R.b, 3, none⟩) LB.out.1).trans c3); (have n0 := (hb1.cell (p := ⟨q, k * 8, none⟩) LB.out.2).trans d0); (have n1 := (hb1.cell (p := ⟨q, k * 8 + 1, none⟩) LB.out.2).trans d1); (have n2 := (hb1.cell (p := ⟨q, k * 8 + 2, none⟩) LB.out.2).trans d2); (have n4 := (hb1.cell (p := ⟨q, k * 8 + 3, none⟩) LB.out.2).trans d3); (have n5 := (hb1.cell (p := ⟨q, k * 8 + 4, none⟩) LB.out.2).trans d4); (have n6 := (hb1.cell (p := ⟨q, k * 8 + 5, none⟩) LB.out.2).trans d5); (have n7 := (hb1.cell (p := ⟨q, k * 8 + 6, none⟩) LB.out.2).trans d6); (have n8 := (hb1.cell (p := ⟨q, k * 8 + 7, none⟩) LB.out.2).trans d7); (have HO1 := Lib.hid (And.intro (below_own HO.out hb1) (HB.out.trans (hb1.mono HB.out.size)))); (have HRD := Lib.hid (reads_oneE w1 y)); clear hb1 CA c3 d0 d1 d2 d3 d4 d5 d6 d7 HO) | (at_builtin; refine wpList_append_any _ rfl (.tmp 51) (.tmp 59) 62 rfl w.heap.size 66 i0 (.agg #[.int .i64 0, .int .i64 0, .int .i64 0, .int .i64 0, .int .i64 0, .int .i64 0, .int .u64 0, .int .u8 0]) 8 64 Try.underlying62 hi0 hz0 hz1 hz2 rfl (by decide) (.slice A L.length cap) L.length (onesV L) rfl (HO1.out.1.alloc _) (w1.heap.size + 1) (some ⟨w1.heap.size, 0, none⟩) 1 1 (oneV y) rfl HRD.out (by simp [oneV, Value.oneCell']) m3.out m4.out (by have := HO1.out.2.size; simp; omega) ?_; intro v2 w3 hown2 hg2 hat2; (obtain ⟨A2, c2, rfl⟩ := own_slice hown2); (have HO2 := Lib.hid (And.intro hown2 ((HO1.out.2.alloc HO1.out.2.size (.cells #[.int .i64 (y.id : Int), .int .i64 (y.up : Int), .int .i64 y.g, .int .i64 y.s, .int .i64 y.c.k, .int .i64 y.c.i, .int .u64 y.c.n, .int .u8 y.c.r] 66)).grown hg2 (by have := HO1.out.2.size; simp; omega) (fun j e => (HO1.out.1.lt j e).1)))); clear hown2 hg2 hat2 n0 n1 n2 n3 n4 n5 n6 n7 n8))
        go_roundw
        case rel =>
          refine ⟨k + 1, by have := HK.out; omega, by go_num, ?_, HO2.out.2⟩
          rw [HST.out, onesV_app, onesV_one, List.length_append]
          exact HO2.out.1
        case measure => simp [intOf]; have := HK.out; omega
      · rw [hab] at CA hst
        simp only [if_true, List.append_nil] at hst
        have HST := Lib.hid hst
        clear hst hab
        go_wp2_with (go_at_call 61; refine CA.mono ?_; rintro e w1 ⟨rfl, hb1⟩; (have HO1 := Lib.hid (And.intro (below_own HO.out hb1) (HB.out.trans (hb1.mono HB.out.size)))); clear hb1 CA c3 d0 d1 d2 d3 d4 d5 d6 d7 HO)
        go_roundw
        case rel =>
          refine ⟨k + 1, by have := HK.out; omega, by go_num, ?_, HO1.out.2⟩
          rw [HST.out]
          exact HO1.out.1
        case measure => simp [intOf]; have := HK.out; omega
    · have hkr : k = S.L.length := by omega
      subst hkr
      rw [List.take_length] at hown ⊢
      have hst := HR.out.store hbr hown
      have hoff : (S.L.filter fun e => !(S.abv x.id e)) = S.offL x.id := rfl
      rw [hoff] at hown hst ⊢
      have HST := Lib.hid hst
      have hll : (S.offL x.id).length ≤ S.L.length := List.length_filter_le _ _
      have hfr := h1.head.frozen 3
      have hz : IntKind.i64.wrap ((S.L.length : Int) - ((S.offL x.id).length : Int)) = (S.L.length : Int) - ((S.offL x.id).length : Int) := by rw [IntKind.wrap_i64]; omega
      obtain ⟨n2, hn2⟩ : ∃ n2, n2 = (S.offL x.id).length := ⟨_, rfl⟩
      rw [← hn2] at hz hll HST ⊢
      have HN2 := Lib.hid hn2
      clear hn2 hown hbr h1 hst hoff HM
      go_wp2_with fail
      go_ret2
      exact ⟨by rw [← HN2.out]; rfl, _, HST.out.1, HST.out.2⟩
end
end Go.Proofs.Ytbknmfegckeogaa
