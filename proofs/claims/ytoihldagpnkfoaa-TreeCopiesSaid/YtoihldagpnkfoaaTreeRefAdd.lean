/- Add of the reference's forest, by walks. Condition: the places stand for a forest. -/
import Derived.Test.YtoihldagpnkfoaaTreeRefA
import Derived.Test.YtoihldagpnkfoaaTreeSame
import Derived.Deep.CutRange
namespace Go.Proofs.Ytoihldagpnkfoaa
open Go.RowKit
set_option linter.unusedVariables false
set_option linter.unusedSimpArgs false

/-- The best of the first k places. -/
def Best (Q : Qw) (k : Nat) (a : Int) : Prop := (a = -1 ∧ ∀ i, i < k → (Q.M i).t = true) ∨ ∃ j : Nat, a = (j : Int) ∧ j < k ∧ (Q.M j).t = false ∧ ∀ i, i < k → (Q.M i).t = false → (Q.M i).fr ≤ (Q.M j).fr
theorem best_zero (Q : Qw) : Best Q 0 (-1) := .inl ⟨rfl, fun i hi => absurd hi (Nat.not_lt_zero _)⟩
theorem best_there {Q : Qw} {k : Nat} {a : Int} (h : Best Q k a) (ht : (Q.M k).t = true) : Best Q (k + 1) a := by
  rcases h with ⟨rfl, h⟩ | ⟨j, rfl, hj, h1, h2⟩
  · refine .inl ⟨rfl, fun i hi => ?_⟩
    by_cases e : i = k
    · rw [e]; exact ht
    · exact h i (by omega)
  · refine .inr ⟨j, rfl, by omega, h1, fun i hi hti => ?_⟩
    by_cases e : i = k
    · rw [e, ht] at hti; cases hti
    · exact h2 i (by omega) hti
theorem best_first {Q : Qw} {k : Nat} (h : Best Q k (-1)) (ht : (Q.M k).t = false) : Best Q (k + 1) (k : Int) := by
  rcases h with ⟨_, h⟩ | ⟨j, e, _⟩
  · refine .inr ⟨k, rfl, by omega, ht, fun i hi hti => ?_⟩
    by_cases e : i = k
    · rw [e]; exact Int.le_refl _
    · rw [h i (by omega)] at hti; cases hti
  · omega
theorem best_more {Q : Qw} {k j : Nat} (h : Best Q k (j : Int)) (ht : (Q.M k).t = false) (hf : (Q.M j).fr < (Q.M k).fr) : Best Q (k + 1) (k : Int) := by
  rcases h with ⟨e, _⟩ | ⟨j', e, hj, h1, h2⟩
  · omega
  · have : j' = j := by omega
    subst this
    refine .inr ⟨k, rfl, by omega, ht, fun i hi hti => ?_⟩
    by_cases e : i = k
    · rw [e]; exact Int.le_refl _
    · have := h2 i (by omega) hti
      omega
theorem best_less {Q : Qw} {k j : Nat} (h : Best Q k (j : Int)) (hf : ¬ (Q.M j).fr < (Q.M k).fr) : Best Q (k + 1) (j : Int) := by
  rcases h with ⟨e, _⟩ | ⟨j', e, hj, h1, h2⟩
  · omega
  · have : j' = j := by omega
    subst this
    refine .inr ⟨j', rfl, by omega, h1, fun i hi hti => ?_⟩
    by_cases e : i = k
    · rw [e]; omega
    · exact h2 i (by omega) hti
theorem best_last {Q : Qw} {F : Fo} (h : QRep Q F) (hF : WF F) {x : Nat} (hx : F.free.getLast? = some x) {a : Int} (hb : Best Q F.n a) : a = (x : Int) := by
  obtain ⟨hxn, hxt⟩ := (hF.fr x).1 (last_mem hx)
  have htx : (Q.M x).t = false := (h.t x hxn).trans hxt
  rcases hb with ⟨_, hb⟩ | ⟨j, rfl, hj, h1, h2⟩
  · rw [hb x hxn] at htx; cases htx
  · rcases last_max h hF hx j hj ((h.t j hj).symm.trans h1) with e | e
    · rw [e]
    · have := h2 x hxn htx
      omega
theorem best_full {Q : Qw} {F : Fo} (h : QRep Q F) (hF : WF F) (hx : F.free = []) {a : Int} (hb : Best Q F.n a) : a = -1 := by
  rcases hb with ⟨e, _⟩ | ⟨j, rfl, hj, h1, _⟩
  · exact e
  · have : j ∈ F.free := (hF.fr j).2 ⟨hj, (h.t j hj).symm.trans h1⟩
    rw [hx] at this
    cases this

set_option maxHeartbeats 1000000 in
theorem refAdd_no {w : World} {g qb n lc : Nat} {Q : Qw} (h : QF w g qb n lc Q) (p : Int) (h0 : 0 ≤ p) (hp : hasQ n Q p = false) :
    Calls Try.prog 38 #[.pointer (some ⟨g, 0, none⟩), .int .i64 p] w fun e w' => e = .returned (.tuple #[.int .i64 0, .int .i64 4]) ∧ w = w' := by
  have CH := refHas_is h p
  rw [hp] at CH
  have b0 : decide (0 ≤ p) = true := by simpa using h0
  clear h h0 hp
  go_enter Try.func38, Try.ntmps38
  go_wp2_with (go_at_call 22; refine CH.mono ?_; rintro e w' ⟨rfl, rfl⟩)
  go_ret2
  exact ⟨rfl, rfl⟩

theorem QF.row_cut {w : World} {g qb n lc : Nat} {Q : Qw} (h : QF w g qb n lc Q) (p : Int) (hp : p < (n : Int)) : Cut w (Q.row p).v (nats (Q.row p).K) := by
  unfold Qw.row
  by_cases h0 : p < 0
  · rw [if_pos h0]; exact h.rt
  · rw [if_neg h0]; exact h.rows p.toNat (by omega)
theorem add_set {W2 w7 : World} {g qb n lc : Nat} {Q : Qw} (h : QF W2 g qb n lc Q) (hb : Below W2.heap.size W2 w7) (p : Int) (hp : p < (n : Int)) (x : Nat) (K : List Nat) (A : Option Addr) (c : Nat)
    (ho : w7.ownsRow W2.heap.size 3 1 (.slice A (x :: K).length c) (x :: K).length ([Value.int .i64 x] ++ intV (nats K))) :
    Calls Try.prog 47 #[.pointer (some ⟨g, 0, none⟩), .int .i64 p, .slice A (x :: K).length c] w7 fun e w' => (∃ z, e = .returned z) ∧ QF w' g qb n lc (Q.setRow p ⟨A, c, x :: K⟩) ∧ Apart (own2 g qb) w7 w' := by
  have hc : Cut w7 (.slice A (x :: K).length c) (nats (x :: K)) := Cut.own (B := W2.heap.size) (by rw [nats_len]; exact ho)
  refine refSet_is (h.below hb) p hp ⟨A, c, x :: K⟩ hc fun k hk => ?_
  have h1 := (ho.lt k hk).1
  have h2 := h.head.lt
  have h3 := h.lt
  omega
theorem add_new {w7 : World} {B n : Nat} {v : Value} {xs : List Value} (ho : w7.ownsRow B 3 1 v n xs) : ∀ k, v.ownBlock = some k → B ≤ k := fun k hk => (ho.lt k hk).1
/-- No row is long. -/
def KLen (n : Nat) (Q : Qw) : Prop := Q.rt.K.length ≤ 4096 ∧ ∀ i, i < n → (Q.M i).K.length ≤ 4096
theorem row_put_len {n : Nat} {Q : Qw} (h : KLen n Q) (x : Nat) (q p : Int) (hp : p < (n : Int)) : ((Q.put x (newQ q)).row p).K.length ≤ 4096 := by
  unfold Qw.row
  by_cases h0 : p < 0
  · rw [if_pos h0]; exact h.1
  · rw [if_neg h0]
    show (((Q.put x (newQ q)).M p.toNat).K).length ≤ 4096
    rw [put_M]
    by_cases e : p.toNat = x
    · rw [if_pos e]; simp [newQ]
    · rw [if_neg e]; exact h.2 _ (by omega)
theorem lit_own (w : World) (t : TypeId) (u : Value) : (w.alloc (.cells #[u] t)).ownsRow w.heap.size t 1 (.slice (some ⟨w.heap.size, 0, none⟩) 1 1) 1 [u] :=
  ⟨rfl, .inr ⟨_, 1, #[u], rfl, Nat.le_refl _, heap_alloc_new w _, Nat.le_refl _, by unfold maxLen; omega, rfl, rfl⟩⟩
/-- What Add makes. -/
def AddPost (w : World) (g qb n lc : Nat) (Q : Qw) (q : Int) (e : Ending) (w' : World) : Prop :=
  ∃ a, Best Q n a ∧ ((a = -1 ∧ e = .returned (.tuple #[.int .i64 0, .int .i64 3]) ∧ ∃ m, w' = w.drewN m) ∨
    ∃ (x : Nat) (r : Rw), a = (x : Int) ∧ x < n ∧ e = .returned (.tuple #[.int .i64 x, .int .i64 0]) ∧ r.K = x :: ((Q.put x (newQ q)).row q).K ∧ QF w' g qb n lc ((Q.put x (newQ q)).setRow q r) ∧ (∀ k, r.blk k → w.heap.size ≤ k) ∧ Apart (own2 g qb) w w')

set_option maxRecDepth 100000 in
set_option maxHeartbeats 4000000 in
theorem refAdd_pos {w : World} {g qb n lc : Nat} {Q : Qw} (h : QF w g qb n lc Q) (p : Int) (h0 : 0 ≤ p) (hp : hasQ n Q p = true) (hkl : KLen n Q) :
    Calls Try.prog 38 #[.pointer (some ⟨g, 0, none⟩), .int .i64 p] w (AddPost w g qb n lc Q p) := by
  obtain ⟨i0, hi0, hz0, hz1, hz2⟩ := info_parts infoInt
  have CH := refHas_is h p
  rw [hp] at CH
  have b0 : decide (0 ≤ p) = true := by simpa using h0
  have b1 : decide (p < 0) = false := by simpa using h0
  have hpn : p < (n : Int) := by
    unfold hasQ at hp
    simp at hp
    exact hp.2.1
  have hn2 := h.n2
  have HQ := Lib.hid h
  have HKL := Lib.hid hkl
  clear h hp hkl
  go_enter Try.func38, Try.ntmps38
  go_wp2_with (go_at_call 22; refine CH.mono ?_; rintro e w' ⟨rfl, rfl⟩)
  go_loopw [6, 7] (fun a i wr => ∃ (k : Nat) (b : Int), k ≤ n ∧ i = .int .i64 k ∧ a = .int .i64 b ∧ Best Q k b ∧ ∃ m, wr = w.drewN m) (fun _ i _ => n - (intOf i).toNat)
  case atStart => exact ⟨0, -1, Nat.zero_le _, rfl, rfl, best_zero Q, 0, rfl⟩
  case round =>
    obtain ⟨k, b, hk, rfl, rfl, hb, m, rfl⟩ := hrel
    have hq := HQ.out
    have c0 := hq.cells.1
    have HB := Lib.hid hb
    by_cases hlt : k < n
    · obtain ⟨d0, -, -, d3⟩ := hq.at_ k hlt
      have hlt' : (k : Int) < (n : Int) := by omega
      have hk0 : (0 : Int) ≤ (k : Int) := by omega
      obtain ⟨t, ht⟩ : ∃ t, t = (Q.M k).t := ⟨_, rfl⟩
      obtain ⟨z, hz⟩ : ∃ z, z = (Q.M k).fr := ⟨_, rfl⟩
      rw [← ht] at d0
      rw [← hz] at d3
      have HT := Lib.hid (And.intro ht hz)
      clear ht hz
      cases t
      · rcases hb with ⟨rfl, hb⟩ | ⟨j, rfl, hj, h1, h2⟩
        · clear hb hq
          go_wp2_with fail
          go_quiet (fail)
          go_wp2
          go_roundw
          case rel => exact ⟨k + 1, k, by omega, by go_num, rfl, best_first HB.out HT.out.1.symm, m + nq, by simp [World.drewN, Nat.add_assoc]⟩
          case measure => simp [intOf]; omega
        · obtain ⟨-, -, -, e3⟩ := hq.at_ j (by omega)
          obtain ⟨y, hy⟩ : ∃ y, y = (Q.M j).fr := ⟨_, rfl⟩
          rw [← hy] at e3
          have HY := Lib.hid hy
          have hj1 : (j : Int) < (n : Int) := by omega
          have hj0 : (0 : Int) ≤ (j : Int) := by omega
          have hjn : decide ((j : Int) < 0) = false := by simp
          clear hy h1 h2 hq
          by_cases hyz : y < z
          · have hd : decide (y < z) = true := by simpa using hyz
            go_wp2_with fail
            go_quiet (fail)
            go_wp2
            go_roundw
            case rel => exact ⟨k + 1, k, by omega, by go_num, rfl, best_more HB.out HT.out.1.symm (by rw [← HY.out, ← HT.out.2]; exact hyz), m + nq, by simp [World.drewN, Nat.add_assoc]⟩
            case measure => simp [intOf]; omega
          · have hd : decide (y < z) = false := by simpa using hyz
            go_wp2_with fail
            go_quiet (fail)
            go_wp2
            go_roundw
            case rel => exact ⟨k + 1, j, by omega, by go_num, rfl, best_less HB.out (by rw [← HY.out, ← HT.out.2]; omega), m + nq, by simp [World.drewN, Nat.add_assoc]⟩
            case measure => simp [intOf]; omega
      · clear hb hq
        go_wp2_with fail
        go_quiet (fail)
        go_wp2
        go_roundw
        case rel => exact ⟨k + 1, b, by omega, by go_num, rfl, best_there HB.out HT.out.1.symm, m + nq, by simp [World.drewN, Nat.add_assoc]⟩
        case measure => simp [intOf]; omega
    · have hkn : k = n := by omega
      subst hkn
      rcases hb with ⟨rfl, -⟩ | ⟨x, rfl, hx, -, -⟩
      · clear hq
        go_wp2
        go_ret2
        exact ⟨-1, HB.out, .inl ⟨rfl, rfl, m, rfl⟩⟩
      · have hqm := hq.drewN m
        have ham : Apart (own2 g qb) w (w.drewN m) := (Apart.refl _ w).drewN m
        have hsm : w.heap.size = (w.drewN m).heap.size := rfl
        clear hq c0
        generalize w.drewN m = W at *
        have c0 := hqm.cells.1
        have ht := (hqm.at_ x hx).there hqm.fr
        have q2 := hqm.putQ x hx (newQ p) (Cut.nil _) (fun k hk => by cases hk)
        have a2 := putQ_apart ham (.inl (.inr rfl)) (x * 4) (newQ p)
        have s2 := putQ_size W qb (x * 4) (newQ p)
        obtain ⟨W2, hW2⟩ : ∃ W2, W2 = putQ W qb (x * 4) (newQ p) := ⟨_, rfl⟩
        rw [← hW2] at q2 a2 s2
        have HW2 := Lib.hid hW2
        have q3 := q2.below ((Below.refl _ W2).alloc (Nat.le_refl _) (.cells #[.int .i64 x] 3))
        have CR := refRow_is q3 p hpn
        have hcut := q3.row_cut p hpn
        obtain ⟨-, hrd, -⟩ := Cut.reads (A := ((Q.put x (newQ p)).row p).A) (n := ((Q.put x (newQ p)).row p).K.length) (c := ((Q.put x (newQ p)).row p).c) hcut
        have hKl : ((Q.put x (newQ p)).row p).K.length ≤ 4096 := row_put_len HKL.out x p p hpn
        obtain ⟨r0, hr0⟩ : ∃ r0, r0 = (Q.put x (newQ p)).row p := ⟨_, rfl⟩
        rw [← hr0] at CR hrd hKl
        have HR0 := Lib.hid hr0
        have HRD := Lib.hid hrd
        have HQ3 := Lib.hid (And.intro q2 (And.intro a2 (And.intro hsm s2)))
        have t1 : (Try.prog.info? 68).map (·.size) = some (newQ p).cs.size := by kernel_rfl
        have t2 : (newQ p).cs.all (·.oneCell') = true := by simp [Qd.cs, newQ, Qd.row, Rw.v, Value.oneCell']
        have m1 := Lib.hid (show 1 + r0.K.length ≤ maxLen from by unfold maxLen; omega)
        have m2 := Lib.hid (show (1 + r0.K.length) * 8 ≤ 140737488355328 from by omega)
        have HLO := Lib.hid (lit_own W2 3 (.int .i64 x))
        have hx1 : (x : Int) < (k : Int) := by omega
        have hx0 : (0 : Int) ≤ (x : Int) := by omega
        have hxz : decide ((x : Int) < 0) = false := by simp
        have HX := Lib.hid hx
        clear hqm ham hsm q2 a2 s2 hW2 q3 hcut hr0 hrd hx
        go_wp2_with (first | (refine wpList_store_mid rfl 68 (.tmp 69) (.tmp 68) rfl qb (x * 4) (newQ p).cs (by exact rfl) (by exact rfl) (by exact ht _ rfl) t1 t2 ?_; rw [putQ_cells, ← HW2.out]; clear ht) | (go_at_call 48; refine CR.mono ?_; rintro e w' ⟨rfl, rfl⟩) | (at_builtin; refine wpList_append_any _ rfl (.tmp 73) (.tmp 76) 29 rfl W2.heap.size 3 i0 (.int .i64 0) 1 8 Try.underlying29 hi0 hz0 hz1 hz2 rfl (by decide) (.slice (some ⟨W2.heap.size, 0, none⟩) 1 1) 1 [.int .i64 x] rfl HLO.out _ r0.A r0.K.length r0.c (intV (nats r0.K)) rfl HRD.out (intV_one _) m1.out m2.out (by simp) ?_; intro v' w7 hown' hgrow hat; (rw [show 1 + r0.K.length = (x :: r0.K).length by simp; omega] at hown'); (obtain ⟨A7, c7, rfl⟩ := own_slice hown'); (have hb7 : Below W2.heap.size W2 w7 := ((Below.refl _ W2).alloc (Nat.le_refl _) (.cells #[.int .i64 x] 3)).grown hgrow (by simp) (fun j e => by have h9 : W2.heap.size = j := (by simpa [Value.ownBlock] using e); omega)); (have CS := add_set HQ3.out.1 hb7 p hpn x r0.K A7 c7 (by rw [← List.singleton_append] ; exact hown')); (have HB7 := Lib.hid (And.intro hb7 (add_new hown'))); clear hown' hgrow hat hb7 c0 t1 t2) | (go_at_call 47; refine CS.mono ?_; clear CS; rintro e w8 ⟨⟨z8, rfl⟩, q8, a8⟩; (have HQ8 := Lib.hid (And.intro q8 a8)); clear q8 a8))
        go_ret2
        refine ⟨(x : Int), HB.out, .inr ⟨x, ⟨A7, c7, x :: r0.K⟩, rfl, HX.out, rfl, by rw [HR0.out], HQ8.out.1, fun j hj => ?_, ?_⟩⟩
        · have h1 := HB7.out.2 j hj
          have h2 := HQ3.out.2.2.1
          have h3 := HQ3.out.2.2.2
          omega
        · exact (HQ3.out.2.1.trans (Apart.of_below (S := own2 g qb) HB7.out.1) (fun _ _ hk => hk)).trans HQ8.out.2 (fun _ _ hk => hk)
set_option maxRecDepth 100000 in
set_option maxHeartbeats 4000000 in
theorem refAdd_neg {w : World} {g qb n lc : Nat} {Q : Qw} (h : QF w g qb n lc Q) (p : Int) (h0 : p < 0) (hkl : KLen n Q) :
    Calls Try.prog 38 #[.pointer (some ⟨g, 0, none⟩), .int .i64 p] w (AddPost w g qb n lc Q (-1)) := by
  obtain ⟨i0, hi0, hz0, hz1, hz2⟩ := info_parts infoInt
  have b0 : decide (0 ≤ p) = false := by simpa using h0
  have b1 : decide (p < 0) = true := by simpa using h0
  have hpn : (-1 : Int) < (n : Int) := by omega
  have hn2 := h.n2
  have HQ := Lib.hid h
  have HKL := Lib.hid hkl
  clear h hkl
  go_enter Try.func38, Try.ntmps38
  go_wp2_with fail
  go_loopw [6, 7] (fun a i wr => ∃ (k : Nat) (b : Int), k ≤ n ∧ i = .int .i64 k ∧ a = .int .i64 b ∧ Best Q k b ∧ ∃ m, wr = w.drewN m) (fun _ i _ => n - (intOf i).toNat)
  case atStart => exact ⟨0, -1, Nat.zero_le _, rfl, rfl, best_zero Q, 0, rfl⟩
  case round =>
    obtain ⟨k, b, hk, rfl, rfl, hb, m, rfl⟩ := hrel
    have hq := HQ.out
    have c0 := hq.cells.1
    have HB := Lib.hid hb
    by_cases hlt : k < n
    · obtain ⟨d0, -, -, d3⟩ := hq.at_ k hlt
      have hlt' : (k : Int) < (n : Int) := by omega
      have hk0 : (0 : Int) ≤ (k : Int) := by omega
      obtain ⟨t, ht⟩ : ∃ t, t = (Q.M k).t := ⟨_, rfl⟩
      obtain ⟨z, hz⟩ : ∃ z, z = (Q.M k).fr := ⟨_, rfl⟩
      rw [← ht] at d0
      rw [← hz] at d3
      have HT := Lib.hid (And.intro ht hz)
      clear ht hz
      cases t
      · rcases hb with ⟨rfl, hb⟩ | ⟨j, rfl, hj, h1, h2⟩
        · clear hb hq
          go_wp2_with fail
          go_quiet (fail)
          go_wp2
          go_roundw
          case rel => exact ⟨k + 1, k, by omega, by go_num, rfl, best_first HB.out HT.out.1.symm, m + nq, by simp [World.drewN, Nat.add_assoc]⟩
          case measure => simp [intOf]; omega
        · obtain ⟨-, -, -, e3⟩ := hq.at_ j (by omega)
          obtain ⟨y, hy⟩ : ∃ y, y = (Q.M j).fr := ⟨_, rfl⟩
          rw [← hy] at e3
          have HY := Lib.hid hy
          have hj1 : (j : Int) < (n : Int) := by omega
          have hj0 : (0 : Int) ≤ (j : Int) := by omega
          have hjn : decide ((j : Int) < 0) = false := by simp
          clear hy h1 h2 hq
          by_cases hyz : y < z
          · have hd : decide (y < z) = true := by simpa using hyz
            go_wp2_with fail
            go_quiet (fail)
            go_wp2
            go_roundw
            case rel => exact ⟨k + 1, k, by omega, by go_num, rfl, best_more HB.out HT.out.1.symm (by rw [← HY.out, ← HT.out.2]; exact hyz), m + nq, by simp [World.drewN, Nat.add_assoc]⟩
            case measure => simp [intOf]; omega
          · have hd : decide (y < z) = false := by simpa using hyz
            go_wp2_with fail
            go_quiet (fail)
            go_wp2
            go_roundw
            case rel => exact ⟨k + 1, j, by omega, by go_num, rfl, best_less HB.out (by rw [← HY.out, ← HT.out.2]; omega), m + nq, by simp [World.drewN, Nat.add_assoc]⟩
            case measure => simp [intOf]; omega
      · clear hb hq
        go_wp2_with fail
        go_quiet (fail)
        go_wp2
        go_roundw
        case rel => exact ⟨k + 1, b, by omega, by go_num, rfl, best_there HB.out HT.out.1.symm, m + nq, by simp [World.drewN, Nat.add_assoc]⟩
        case measure => simp [intOf]; omega
    · have hkn : k = n := by omega
      subst hkn
      rcases hb with ⟨rfl, -⟩ | ⟨x, rfl, hx, -, -⟩
      · clear hq
        go_wp2
        go_ret2
        exact ⟨-1, HB.out, .inl ⟨rfl, rfl, m, rfl⟩⟩
      · have hqm := hq.drewN m
        have ham : Apart (own2 g qb) w (w.drewN m) := (Apart.refl _ w).drewN m
        have hsm : w.heap.size = (w.drewN m).heap.size := rfl
        clear hq c0
        generalize w.drewN m = W at *
        have c0 := hqm.cells.1
        have ht := (hqm.at_ x hx).there hqm.fr
        have q2 := hqm.putQ x hx (newQ (-1)) (Cut.nil _) (fun k hk => by cases hk)
        have a2 := putQ_apart ham (.inl (.inr rfl)) (x * 4) (newQ (-1))
        have s2 := putQ_size W qb (x * 4) (newQ (-1))
        obtain ⟨W2, hW2⟩ : ∃ W2, W2 = putQ W qb (x * 4) (newQ (-1)) := ⟨_, rfl⟩
        rw [← hW2] at q2 a2 s2
        have HW2 := Lib.hid hW2
        have q3 := q2.below ((Below.refl _ W2).alloc (Nat.le_refl _) (.cells #[.int .i64 x] 3))
        have CR := refRow_is q3 (-1) hpn
        have hcut := q3.row_cut (-1) hpn
        obtain ⟨-, hrd, -⟩ := Cut.reads (A := ((Q.put x (newQ (-1))).row (-1)).A) (n := ((Q.put x (newQ (-1))).row (-1)).K.length) (c := ((Q.put x (newQ (-1))).row (-1)).c) hcut
        have hKl : ((Q.put x (newQ (-1))).row (-1)).K.length ≤ 4096 := row_put_len HKL.out x (-1) (-1) hpn
        obtain ⟨r0, hr0⟩ : ∃ r0, r0 = (Q.put x (newQ (-1))).row (-1) := ⟨_, rfl⟩
        rw [← hr0] at CR hrd hKl
        have HR0 := Lib.hid hr0
        have HRD := Lib.hid hrd
        have HQ3 := Lib.hid (And.intro q2 (And.intro a2 (And.intro hsm s2)))
        have t1 : (Try.prog.info? 68).map (·.size) = some (newQ (-1)).cs.size := by kernel_rfl
        have t2 : (newQ (-1)).cs.all (·.oneCell') = true := by simp [Qd.cs, newQ, Qd.row, Rw.v, Value.oneCell']
        have m1 := Lib.hid (show 1 + r0.K.length ≤ maxLen from by unfold maxLen; omega)
        have m2 := Lib.hid (show (1 + r0.K.length) * 8 ≤ 140737488355328 from by omega)
        have HLO := Lib.hid (lit_own W2 3 (.int .i64 x))
        have hx1 : (x : Int) < (k : Int) := by omega
        have hx0 : (0 : Int) ≤ (x : Int) := by omega
        have hxz : decide ((x : Int) < 0) = false := by simp
        have HX := Lib.hid hx
        clear hqm ham hsm q2 a2 s2 hW2 q3 hcut hr0 hrd hx
        go_wp2_with (first | (refine wpList_store_mid rfl 68 (.tmp 69) (.tmp 68) rfl qb (x * 4) (newQ (-1)).cs (by exact rfl) (by exact rfl) (by exact ht _ rfl) t1 t2 ?_; rw [putQ_cells, ← HW2.out]; clear ht) | (go_at_call 48; refine CR.mono ?_; rintro e w' ⟨rfl, rfl⟩) | (at_builtin; refine wpList_append_any _ rfl (.tmp 73) (.tmp 76) 29 rfl W2.heap.size 3 i0 (.int .i64 0) 1 8 Try.underlying29 hi0 hz0 hz1 hz2 rfl (by decide) (.slice (some ⟨W2.heap.size, 0, none⟩) 1 1) 1 [.int .i64 x] rfl HLO.out _ r0.A r0.K.length r0.c (intV (nats r0.K)) rfl HRD.out (intV_one _) m1.out m2.out (by simp) ?_; intro v' w7 hown' hgrow hat; (rw [show 1 + r0.K.length = (x :: r0.K).length by simp; omega] at hown'); (obtain ⟨A7, c7, rfl⟩ := own_slice hown'); (have hb7 : Below W2.heap.size W2 w7 := ((Below.refl _ W2).alloc (Nat.le_refl _) (.cells #[.int .i64 x] 3)).grown hgrow (by simp) (fun j e => by have h9 : W2.heap.size = j := (by simpa [Value.ownBlock] using e); omega)); (have CS := add_set HQ3.out.1 hb7 (-1) hpn x r0.K A7 c7 (by rw [← List.singleton_append] ; exact hown')); (have HB7 := Lib.hid (And.intro hb7 (add_new hown'))); clear hown' hgrow hat hb7 c0 t1 t2) | (go_at_call 47; refine CS.mono ?_; clear CS; rintro e w8 ⟨⟨z8, rfl⟩, q8, a8⟩; (have HQ8 := Lib.hid (And.intro q8 a8)); clear q8 a8))
        go_ret2
        refine ⟨(x : Int), HB.out, .inr ⟨x, ⟨A7, c7, x :: r0.K⟩, rfl, HX.out, rfl, by rw [HR0.out], HQ8.out.1, fun j hj => ?_, ?_⟩⟩
        · have h1 := HB7.out.2 j hj
          have h2 := HQ3.out.2.2.1
          have h3 := HQ3.out.2.2.2
          omega
        · exact (HQ3.out.2.1.trans (Apart.of_below (S := own2 g qb) HB7.out.1) (fun _ _ hk => hk)).trans HQ8.out.2 (fun _ _ hk => hk)
/-- Add of a row that stands for a forest. -/
theorem klen {Q : Qw} {F : Fo} (h : QRep Q F) (hF : WF F) (hn : F.n ≤ 4096) : KLen F.n Q :=
  ⟨by rw [h.rt]; exact Nat.le_trans (kids_le hF _) hn, fun i hi => by rw [h.K i hi]; exact Nat.le_trans (kids_le hF _) hn⟩
theorem refAdd_is {w : World} {g qb n lc : Nat} {Q : Qw} (h : QF w g qb n lc Q) (p : Int) (hp : 0 ≤ p → hasQ n Q p = true) (hkl : KLen n Q) :
    Calls Try.prog 38 #[.pointer (some ⟨g, 0, none⟩), .int .i64 p] w (AddPost w g qb n lc Q (norm p)) := by
  unfold norm
  by_cases h0 : p < 0
  · rw [if_pos h0]; exact refAdd_neg h p h0 hkl
  · rw [if_neg h0]; exact refAdd_pos h p (by omega) (hp (by omega)) hkl
/-- What the reference's places have beside it. -/
theorem ref_add_full {w : World} {g qb : Nat} {Q : Qw} {F : Fo} {T : Nat} (h : Ref w g qb Q F T) (hF : WF F) (p : Int) (hp : 0 ≤ p → F.has p = true) (hx : F.free = []) :
    Calls Try.prog 38 #[.pointer (some ⟨g, 0, none⟩), .int .i64 p] w fun e w' => e = .returned (.tuple #[.int .i64 0, .int .i64 3]) ∧ ∃ m, w' = w.drewN m := by
  obtain ⟨lc, hq⟩ := h.qf
  refine (refAdd_is hq p (fun h0 => by rw [has_qrep h.rep hF]; exact hp h0) (klen h.rep hF hq.n2)).mono ?_
  rintro e w' ⟨a, hb, ⟨_, he, hw⟩ | ⟨x, r, rfl, _⟩⟩
  · exact ⟨he, hw⟩
  · have := best_full h.rep hF hx hb
    omega
theorem ref_add {w : World} {g qb : Nat} {Q : Qw} {F : Fo} {T : Nat} (h : Ref w g qb Q F T) (hF : WF F) (p : Int) (hp : 0 ≤ p → F.has p = true) {x : Nat} (hx : F.free.getLast? = some x) :
    Calls Try.prog 38 #[.pointer (some ⟨g, 0, none⟩), .int .i64 p] w fun e w' => e = .returned (.tuple #[.int .i64 x, .int .i64 0]) ∧ ∃ Q', Ref w' g qb Q' (F.add (norm p) x) T ∧ (∀ k, Q'.blk F.n k → Q.blk F.n k ∨ w.heap.size ≤ k) ∧ Apart (own2 g qb) w w' := by
  obtain ⟨lc, hq⟩ := h.qf
  have hok : F.ok (norm p) := by
    unfold norm
    by_cases h0 : p < 0
    · rw [if_pos h0]; exact .inl rfl
    · rw [if_neg h0]
      obtain ⟨j, rfl, hj⟩ := has_nat (hp (by omega))
      exact .inr ⟨j, rfl, hj⟩
  refine (refAdd_is hq p (fun h0 => by rw [has_qrep h.rep hF]; exact hp h0) (klen h.rep hF hq.n2)).mono ?_
  rintro e w' ⟨a, hb, ⟨rfl, _⟩ | ⟨y, r, rfl, hy, rfl, hr, hq', hn, ha⟩⟩
  · have := best_last h.rep hF hx hb
    omega
  · have e : y = x := by have := best_last h.rep hF hx hb; omega
    subst e
    obtain ⟨hxn, hxt⟩ := (hF.fr y).1 (last_mem hx)
    have hrow : ((Q.put y (newQ (norm p))).row (norm p)).K = F.kids (norm p) := by
      rw [← h.rep.row hF hok]
      rcases hok with e | ⟨j, e, hj⟩
      · rw [e]; rfl
      · rw [e]
        have h0 : ¬ ((j : Nat) : Int) < 0 := by omega
        have hjy : j ≠ y := fun e2 => by rw [e2, hxt] at hj; cases hj
        simp only [Qw.row, h0, if_false, Int.toNat_natCast, Qd.row, put_M, if_neg hjy]
    rw [hrow] at hr
    refine ⟨rfl, _, ⟨⟨lc, hq'⟩, qrep_add h.rep hF hok hx hr, ?_, ?_⟩, fun k hk => ?_, ha⟩
    · rw [(setRow_rt _ _ _).2]; exact h.t0
    · rw [(setRow_rt _ _ _).2]; exact h.t1
    · have hput : ∀ k, (Q.put y (newQ (norm p))).blk F.n k → Q.blk F.n k := fun k hk => by
        rcases blk_put hk with e | e
        · exact e
        · cases e
      unfold Qw.setRow at hk
      by_cases h0 : norm p < 0
      · rw [if_pos h0] at hk
        rcases hk with hk | hk
        · exact .inr (hn k hk)
        · exact .inl (hput k (.inr hk))
      · rw [if_neg h0] at hk
        rcases blk_put hk with hk | hk
        · exact .inl (hput k hk)
        · exact .inr (hn k hk)
end Go.Proofs.Ytoihldagpnkfoaa
