/- Put of the global queue, by a walk: what comes stands behind what was there. Conditions: the queue is there, of at most 100000; at most 1000 come; what comes lies in memory of its own. -/
import Derived.Test.YtdfpbbkdlalpcaaGloRef
import Derived.Deep.Upon
namespace Go.Proofs.Ytdfpbbkdlalpcaa
open Go.RowKit
set_option linter.unusedVariables false
set_option linter.unusedSimpArgs false

def vals (N : List (Nat × Int)) : List Int := N.map (·.2)
theorem vals_len (N : List (Nat × Int)) : (vals N).length = N.length := by simp [vals]
theorem vals_snoc (N : List (Nat × Int)) (b : Nat) (g : Int) : vals (N ++ [(b, g)]) = vals N ++ [g] := by simp [vals]

/-- Behind some rounds. -/
structure Coming (w wr : World) (q : Nat) (N M : List (Nat × Int)) (xs : List Int) (k : Nat) : Prop where
  qu : Qu wr q M
  len : M.length = N.length + k
  vals : vals M = vals N ++ xs.take k
  new_ : ∀ i (h : i < M.length), N.length ≤ i → w.heap.size ≤ (M[i]).1
  old : ∀ i (h : i < N.length), ∃ h' : i < M.length, M[i] = N[i]
  apart : Apart (bl q N) w wr

theorem coming_bl {w wr : World} {q : Nat} {N M : List (Nat × Int)} {xs : List Int} {k : Nat} (h : Coming w wr q N M xs k) (b : Nat) (hb : bl q M b) : bl q N b ∨ w.heap.size ≤ b := by
  rcases hb with rfl | ⟨i, hi, rfl⟩
  · exact .inl (.inl rfl)
  · by_cases hin : i < N.length
    · obtain ⟨h', e⟩ := h.old i hin
      exact .inl (.inr ⟨i, hin, by rw [e]⟩)
    · exact .inr (h.new_ i hi (by omega))

/-- One more node. -/
theorem coming_step {w wr w' : World} {q : Nat} {N M : List (Nat × Int)} {xs : List Int} {k : Nat} (h : Coming w wr q N M xs k) (hk : k < xs.length) (b : Nat) (hb : wr.heap.size ≤ b)
    (hq : Qu w' q (M ++ [(b, xs[k])])) (hA : Apart (bl q M) wr w') : Coming w w' q N (M ++ [(b, xs[k])]) xs (k + 1) := by
  refine ⟨hq, by simp [h.len]; omega, ?_, fun i hi hin => ?_, fun i hi => ?_, ?_⟩
  · rw [vals_snoc, h.vals, List.take_succ_eq_append_getElem hk, List.append_assoc]
  · by_cases hiM : i < M.length
    · rw [List.getElem_append_left hiM]
      exact h.new_ i hiM hin
    · have : i = M.length := by simp at hi; omega
      subst this
      simp
      exact Nat.le_trans h.apart.size hb
  · obtain ⟨h', e⟩ := h.old i hi
    exact ⟨by simp; omega, by rw [List.getElem_append_left h', e]⟩
  · exact h.apart.trans hA fun c hc hs => by
      rcases coming_bl h c hs with h1 | h1
      · exact h1
      · omega

theorem put_end0 {w wr : World} {q : Nat} {N M : List (Nat × Int)} {xs : List Int} {k : Nat} (h : Coming w wr q N M xs k) (hk : k < xs.length) (h0 : M.length = 0) (n : Int) (hn : n = ((M.length + 1 : Nat) : Int)) :
    Coming w ((((wr.setCell ⟨q, 0, none⟩ (.pointer (some ⟨wr.heap.size, 0, none⟩))).setCell ⟨q, 1, none⟩ (.pointer (some ⟨wr.heap.size, 0, none⟩))).setCell ⟨q, 2, none⟩ (.int .i64 n)).alloc (.cells #[.int .i64 xs[k], .pointer none] 60)) q N (M ++ [(wr.heap.size, xs[k])]) xs (k + 1) := by
  have hsz : (((wr.setCell ⟨q, 0, none⟩ (.pointer (some ⟨wr.heap.size, 0, none⟩))).setCell ⟨q, 1, none⟩ (.pointer (some ⟨wr.heap.size, 0, none⟩))).setCell ⟨q, 2, none⟩ (.int .i64 n)).heap.size = wr.heap.size := by simp [World.setCell]
  have hbq := (((h.qu.head.set_ 0 (.pointer (some ⟨wr.heap.size, 0, none⟩))).set_ 1 (.pointer (some ⟨wr.heap.size, 0, none⟩))).set_ 2 (.int .i64 n)).alloc (.cells #[.int .i64 xs[k], .pointer none] 60)
  have hbn := Blk.new (((wr.setCell ⟨q, 0, none⟩ (.pointer (some ⟨wr.heap.size, 0, none⟩))).setCell ⟨q, 1, none⟩ (.pointer (some ⟨wr.heap.size, 0, none⟩))).setCell ⟨q, 2, none⟩ (.int .i64 n)) 60 #[.int .i64 xs[k], .pointer none]
  rw [hsz] at hbn
  refine coming_step h hk wr.heap.size (Nat.le_refl _) (h.qu.came (Nat.le_refl _) ?_ hbn (fun j hj => by omega) (fun j hj => by omega)) ?_
  · rw [if_pos h0, ← hn]
    exact hbq
  · exact ((((Apart.refl (bl q M) wr).setCell (.inl (.inl rfl)) _).setCell (.inl (.inl rfl)) _).setCell (.inl (.inl rfl)) _).alloc _

theorem put_end1 {w wr : World} {q : Nat} {N M : List (Nat × Int)} {xs : List Int} {k : Nat} (h : Coming w wr q N M xs k) (hk : k < xs.length) (m : Nat) (hm : M.length = m + 1) (b : Nat) (hb : (M[m]'(by omega)).1 = b) (n : Int) (hn : n = ((M.length + 1 : Nat) : Int)) :
    Coming w ((((wr.setCell ⟨b, 1, none⟩ (.pointer (some ⟨wr.heap.size, 0, none⟩))).setCell ⟨q, 1, none⟩ (.pointer (some ⟨wr.heap.size, 0, none⟩))).setCell ⟨q, 2, none⟩ (.int .i64 n)).alloc (.cells #[.int .i64 xs[k], .pointer none] 60)) q N (M ++ [(wr.heap.size, xs[k])]) xs (k + 1) := by
  have hsz : (((wr.setCell ⟨b, 1, none⟩ (.pointer (some ⟨wr.heap.size, 0, none⟩))).setCell ⟨q, 1, none⟩ (.pointer (some ⟨wr.heap.size, 0, none⟩))).setCell ⟨q, 2, none⟩ (.int .i64 n)).heap.size = wr.heap.size := by simp [World.setCell]
  have hbl := h.qu.row.at_ m (by omega)
  have hbne : b ≠ q := by rw [← hb]; exact h.qu.ne m (by omega)
  rw [hb] at hbl
  have hbq := (((h.qu.head.far (p := ⟨b, 1, none⟩) hbne.symm (.pointer (some ⟨wr.heap.size, 0, none⟩))).set_ 1 (.pointer (some ⟨wr.heap.size, 0, none⟩))).set_ 2 (.int .i64 n)).alloc (.cells #[.int .i64 xs[k], .pointer none] 60)
  have hbl' := (((hbl.set_ 1 (.pointer (some ⟨wr.heap.size, 0, none⟩))).far (p := ⟨q, 1, none⟩) hbne (.pointer (some ⟨wr.heap.size, 0, none⟩))).far (p := ⟨q, 2, none⟩) hbne (.int .i64 n)).alloc (.cells #[.int .i64 xs[k], .pointer none] 60)
  have hbn := Blk.new (((wr.setCell ⟨b, 1, none⟩ (.pointer (some ⟨wr.heap.size, 0, none⟩))).setCell ⟨q, 1, none⟩ (.pointer (some ⟨wr.heap.size, 0, none⟩))).setCell ⟨q, 2, none⟩ (.int .i64 n)) 60 #[.int .i64 xs[k], .pointer none]
  rw [hsz] at hbn
  refine coming_step h hk wr.heap.size (Nat.le_refl _) (h.qu.came (Nat.le_refl _) ?_ hbn (fun j hj hjl => ?_) (fun j hj hj1 => ?_)) ?_
  · rw [if_neg (by omega), ← hn]
    exact hbq
  · obtain rfl : j = m := by omega
    rw [hb]
    exact hbl'
  · have e1 : (M[j]).1 ≠ b := by
      intro e
      rw [← hb] at e
      have := h.qu.row.inj j m hj (by omega) e
      omega
    have e2 := h.qu.ne j hj
    exact (Below.heap_alloc _ _ _ (by rw [hsz]; exact (h.qu.row.at_ j hj).lt)).trans ((Below.heap_setCell _ _ _ _ e2).trans ((Below.heap_setCell _ _ _ _ e2).trans (Below.heap_setCell _ _ _ _ e1)))
  · exact ((((Apart.refl (bl q M) wr).setCell (p := ⟨b, 1, none⟩) (.inl (.inr ⟨m, by omega, hb⟩)) _).setCell (.inl (.inl rfl)) _).setCell (.inl (.inl rfl)) _).alloc _

set_option maxRecDepth 100000 in
set_option maxHeartbeats 2000000 in
theorem put_is (q : Nat) (N : List (Nat × Int)) (xs : List Int) (A : Option Addr) (cap B : Nat) (w : World) (h : Qu w q N) (hn : N.length ≤ 100000) (hx : xs.length ≤ 1000) (hA : Ints w B A xs) (hB : B ≤ w.heap.size)
    (hS : ∀ ad, A = some ad → 0 < xs.length → ¬ bl q N ad.block) :
    Calls Try.prog 17 #[.pointer (some ⟨q, 0, none⟩), .slice A xs.length cap] w fun e w' => (∃ v, e = .returned v) ∧ (∃ M, Coming w w' q N M xs xs.length) := by
  go_enter Try.func17, Try.ntmps17
  go_wp2
  go_loopw [11] (fun v wr => ∃ k : Nat, k ≤ xs.length ∧ v = .int .i64 k ∧ ∃ M, Coming w wr q N M xs k) (fun v _ => xs.length - (intOf v).toNat)
  case atStart => exact ⟨0, Nat.zero_le _, rfl, N, h, rfl, by simp, fun i hi hin => by omega, fun i hi => ⟨hi, rfl⟩, Apart.refl _ _⟩
  case round =>
    obtain ⟨k, hk, rfl, M, hM⟩ := hrel
    by_cases hlt : k < xs.length
    · obtain ⟨ad, rfl, hadB, hcx⟩ := hA.at_ hlt
      have hcx' : wr.cell? (ad.add k) = some (.int .i64 (xs[k])) := by
        refine (World.cell?_of_block (hM.apart.block (ad.add k).block (by rw [block_of_add]; omega) ?_)).trans hcx
        rw [block_of_add]
        exact hS ad rfl (by omega)
      have HA := Lib.hid hA
      have HS := Lib.hid hS
      have HCX := Lib.hid hcx
      clear hcx hA hS h
      have hbq := hM.qu.head
      have c0 := hbq.cell 0
      have c1 := hbq.cell 1
      have c2 := hbq.cell 2
      have f0 := hbq.frozen 0
      have f1 := hbq.frozen 1
      have f2 := hbq.frozen 2
      simp only [List.getElem?_toArray, List.getElem?_cons_zero, List.getElem?_cons_succ] at c0 c1 c2
      have hql := hbq.lt
      have hlen := hM.len
      by_cases h0 : M.length = 0
      · have e1 := nd_ge (N := M) (k := M.length - 1) (by omega)
        rw [e1] at c1
        dsimp only [pt] at c1
        have H0 := Lib.hid h0
        have HM := Lib.hid hM
        have HB := Lib.hid hbq
        clear h0 hM hbq e1
        go_wp2
        go_roundw
        case rel => exact ⟨k + 1, by omega, by go_num, _, put_end0 HM.out hlt H0.out _ (by rw [hlen]; omega)⟩
        case measure => simp [intOf]; omega
      · obtain ⟨m, hm⟩ : ∃ m, M.length = m + 1 := ⟨M.length - 1, by omega⟩
        have hml : m < M.length := by omega
        have hbl := hM.qu.row.at_ m hml
        obtain ⟨b, hb⟩ : ∃ b, (M[m]'hml).1 = b := ⟨_, rfl⟩
        rw [hb] at hbl
        have e1 : nd M (M.length - 1) = some b := by rw [show M.length - 1 = m by omega, nd_lt (by omega), hb]
        rw [e1] at c1
        rw [pt_some] at c1
        have d1 := hbl.cell 1
        have g1 := hbl.frozen 1
        simp only [List.getElem?_toArray, List.getElem?_cons_zero, List.getElem?_cons_succ] at d1
        have hbne : b ≠ q := by rw [← hb]; exact hM.qu.ne m hml
        have hbl' := hbl.lt
        have HM := Lib.hid hM
        have HB := Lib.hid hbq
        have HM1 := Lib.hid hm
        have HBB := Lib.hid hb
        clear h0 hM hbq e1 hbl hm hb
        go_wp2
        go_roundw
        case rel => exact ⟨k + 1, by omega, by go_num, _, put_end1 HM.out hlt m HM1.out b HBB.out _ (by rw [hlen]; omega)⟩
        case measure => simp [intOf]; omega
    · obtain rfl : k = xs.length := by omega
      clear hA hS h
      have HM := Lib.hid hM
      clear hM
      go_wp2
      go_end0
      exact ⟨⟨_, rfl⟩, M, HM.out⟩
end Go.Proofs.Ytdfpbbkdlalpcaa
