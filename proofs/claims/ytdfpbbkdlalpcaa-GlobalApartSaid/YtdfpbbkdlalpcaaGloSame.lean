/- Both queues, and that they agree; the law's own same, by a walk. Condition: of at most 100000. -/
import Derived.Test.YtdfpbbkdlalpcaaGloRefQ
import Derived.Test.YtdfpbbkdlalpcaaGloOps
import Derived.Test.YtdfpbbkdlalpcaaGloAhead
namespace Go.Proofs.Ytdfpbbkdlalpcaa
open Go.RowKit
set_option linter.unusedVariables false
set_option linter.unusedSimpArgs false

/-- Both queues agree. -/
structure Both (w : World) (B q c : Nat) (N : List (Nat × Int)) (A : Option Addr) (cap : Nat) : Prop where
  qu : Qu w q N
  rq : RQ w c B (vals N) A cap
  lo : ∀ k, bl q N k → B ≤ k
  hB : B ≤ w.heap.size

theorem bl_types {w : World} {q : Nat} {N : List (Nat × Int)} (h : Qu w q N) {k : Nat} {t : TypeId} {cs : Array Value} (hk : bl q N k) (hb : w.heap[k]? = some (.cells cs t (0, 0))) : t = 49 ∨ t = 60 := by
  rcases hk with rfl | ⟨i, hi, rfl⟩
  · have e := h.head
    unfold Blk at e
    rw [hb] at e
    injection e with e
    injection e with _ e
    exact .inl e
  · have e := h.row.at_ i hi
    unfold Blk at e
    rw [hb] at e
    injection e with e
    injection e with _ e
    exact .inr e
theorem Both.ne {w : World} {B q c : Nat} {N : List (Nat × Int)} {A : Option Addr} {cap : Nat} (h : Both w B q c N A cap) : ¬ bl q N c := fun hk => by
  rcases bl_types h.qu hk h.rq.blk with e | e <;> exact absurd e (by decide)
theorem Both.rq_apart {w w' : World} {B q c : Nat} {N : List (Nat × Int)} {A : Option Addr} {cap : Nat} (h : Both w B q c N A cap) (hA : Apart (bl q N) w w') : RQ w' c B (vals N) A cap :=
  h.rq.apart hA fun k t cs hk hb => by
    rcases bl_types h.qu hk hb with rfl | rfl <;> exact ⟨by decide, by decide⟩
theorem Both.qu_apart {w w' : World} {B q c : Nat} {N : List (Nat × Int)} {A : Option Addr} {cap : Nat} (h : Both w B q c N A cap) (hA : Apart (fun k => k = c) w w') : Qu w' q N :=
  h.qu.keep fun k hk => hA.block k (h.qu.lt k hk) (fun e => h.ne (e ▸ hk))
theorem Both.below {w w' : World} {B q c : Nat} {N : List (Nat × Int)} {A : Option Addr} {cap : Nat} (h : Both w B q c N A cap) (hb : Below w.heap.size w w') : Both w' B q c N A cap :=
  ⟨h.qu.below hb, h.rq.below hb, h.lo, Nat.le_trans h.hB hb.size⟩
theorem Both.drewN {w : World} {B q c : Nat} {N : List (Nat × Int)} {A : Option Addr} {cap : Nat} (h : Both w B q c N A cap) (n : Nat) : Both (w.drewN n) B q c N A cap := h.below ⟨rfl, rfl, rfl, Nat.le_refl _, fun _ _ => rfl⟩
theorem Both.drew {w : World} {B q c : Nat} {N : List (Nat × Int)} {A : Option Addr} {cap : Nat} (h : Both w B q c N A cap) : Both w.drew B q c N A cap := h.below ⟨rfl, rfl, rfl, Nat.le_refl _, fun _ _ => rfl⟩

set_option maxRecDepth 100000 in
set_option maxHeartbeats 2000000 in
theorem same_is (B q c : Nat) (N : List (Nat × Int)) (A : Option Addr) (cap : Nat) (w : World) (h : Both w B q c N A cap) (hn : N.length ≤ 100000) :
    Calls Try.prog 10 #[.pointer (some ⟨q, 0, none⟩), .pointer (some ⟨c, 0, none⟩)] w fun e w' => e = .returned (.bool true) ∧ Below w.heap.size w w' := by
  have hvl : (vals N).length ≤ 100000 := by rw [vals_len]; exact hn
  have CA := all_is q N w.drew h.drew.qu hn
  have H := Lib.hid h
  have hcl := h.rq.blk.lt
  have hx0 := h.rq.blk.cell 0
  simp only [List.getElem?_toArray, List.getElem?_cons_zero] at hx0
  obtain ⟨M, hM⟩ : ∃ M, M = (vals N).length := ⟨_, rfl⟩
  have hNM : (N.length : Int) = (M : Int) := by rw [hM, vals_len]
  rw [← hM] at hx0 CA
  have HM := Lib.hid hM
  have HNM := Lib.hid hNM
  clear hM hNM h
  go_enter Try.func10, Try.ntmps10
  go_wp2_with fail
  refine wp_region_held_drew (S := fun w' => w'.cell? ⟨c, 0, none⟩ = some (.slice A M cap)) (by kernel_rfl) hx0 (fun hHeld => ?_)
  refine wpAnyH_take (i := 0) (v := .pointer (some ⟨q, 0, none⟩)) rfl (by kernel_rfl) (by kernel_rfl) (by kernel_rfl) (fun _ _ _ h => h) (Or.inl ⟨by kernel_rfl, by (rintro w' s1; go_simp; first | done | (with_reducible rfl))⟩) hHeld ?_
  (try simp only [Act.put, List.getElem_toArray, List.getElem_cons_zero, List.getElem_cons_succ, List.setIfInBounds_toArray, List.set_cons_zero, List.set_cons_succ])
  refine wpAnyH_take (i := 2) (v := .pointer (some ⟨c, 0, none⟩)) rfl (by kernel_rfl) (by kernel_rfl) (by kernel_rfl) (fun _ _ _ h => h) (Or.inl ⟨by kernel_rfl, by (rintro w' s1; go_simp; first | done | (with_reducible rfl))⟩) hHeld ?_
  (try simp only [Act.put, List.getElem_toArray, List.getElem_cons_zero, List.getElem_cons_succ, List.setIfInBounds_toArray, List.set_cons_zero, List.set_cons_succ])
  refine wpAnyH_take (i := 3) (v := .pointer (some ⟨c, 0, none⟩)) rfl (by kernel_rfl) (by kernel_rfl) (by kernel_rfl) (fun _ _ _ h => h) (Or.inl ⟨by kernel_rfl, by (rintro w' s1; go_simp; first | done | (with_reducible rfl))⟩) hHeld ?_
  (try simp only [Act.put, List.getElem_toArray, List.getElem_cons_zero, List.getElem_cons_succ, List.setIfInBounds_toArray, List.set_cons_zero, List.set_cons_succ])
  refine wpAnyH_take (i := 4) (v := .pointer (some ⟨c, 0, none⟩)) rfl (by kernel_rfl) (by kernel_rfl) (by kernel_rfl) (fun _ _ _ h => h) (Or.inl ⟨by kernel_rfl, by (rintro w' s1; go_simp; first | done | (with_reducible rfl))⟩) hHeld ?_
  (try simp only [Act.put, List.getElem_toArray, List.getElem_cons_zero, List.getElem_cons_succ, List.setIfInBounds_toArray, List.set_cons_zero, List.set_cons_succ])
  refine wpAnyH_take (i := 5) (v := .slice A M cap) rfl (by kernel_rfl) (by kernel_rfl) (by kernel_rfl) (fun _ _ _ h => h) (Or.inl ⟨by kernel_rfl, by (rintro w' s1; go_simp; first | done | (with_reducible rfl))⟩) hHeld ?_
  (try simp only [Act.put, List.getElem_toArray, List.getElem_cons_zero, List.getElem_cons_succ, List.setIfInBounds_toArray, List.set_cons_zero, List.set_cons_succ])
  refine wpAnyH_ready (rs := [1]) (by kernel_rfl) (by simp) ?_
  refine AllReadyH.cons rfl (fun K hK => ?_) AllReadyH.nil
  go_simp
  go_at_call 15; refine CA.mono ?_; rintro e w1 ⟨⟨A1, c1, rfl, ho⟩, hb⟩
  dsimp only
  clear hHeld
  refine hK.out _ _ ((hb.cell (p := ⟨c, 0, none⟩) hcl).trans hx0) (fun hHeld => ?_)
  clear hK K
  (try simp only [Act.put, List.getElem_toArray, List.getElem_cons_zero, List.getElem_cons_succ, List.setIfInBounds_toArray, List.set_cons_zero, List.set_cons_succ])
  refine wpAnyH_ready (rs := [6]) (by kernel_rfl) (by simp) ?_
  refine AllReadyH.cons rfl (fun K hK => ?_) AllReadyH.nil
  go_simp
  (have ho2 := ho); rw [HM.out] at ho2; (have CS := same_yes (vals N) A1 A c1 cap w1.heap.size w1.heap.size w1 (Reads.of_own ho2) ((H.out.drew.below hb).rq.ints) hvl); go_at_call 14; rw [← HM.out] at CS; refine CS.mono ?_; rintro e w2 ⟨rfl, n2, rfl⟩
  dsimp only
  refine hK.out _ _ hHeld (fun hHeld => ?_)
  clear hK K
  (try simp only [Act.put, List.getElem_toArray, List.getElem_cons_zero, List.getElem_cons_succ, List.setIfInBounds_toArray, List.set_cons_zero, List.set_cons_succ])
  refine wpAnyH_take (i := 7) (v := .bool true) rfl (by kernel_rfl) (by kernel_rfl) (by kernel_rfl) (fun _ _ _ h => h) (Or.inl ⟨by kernel_rfl, by (rintro w' s1; go_simp; first | done | (with_reducible rfl))⟩) hHeld ?_
  (try simp only [Act.put, List.getElem_toArray, List.getElem_cons_zero, List.getElem_cons_succ, List.setIfInBounds_toArray, List.set_cons_zero, List.set_cons_succ])
  refine wpAnyH_take (i := 8) (v := .pointer (some ⟨q, 0, none⟩)) rfl (by kernel_rfl) (by kernel_rfl) (by kernel_rfl) (fun _ _ _ h => h) (Or.inl ⟨by kernel_rfl, by (rintro w' s1; go_simp; first | done | (with_reducible rfl))⟩) hHeld ?_
  (try simp only [Act.put, List.getElem_toArray, List.getElem_cons_zero, List.getElem_cons_succ, List.setIfInBounds_toArray, List.set_cons_zero, List.set_cons_succ])
  refine wpAnyH_take (i := 10) (v := .pointer (some ⟨c, 0, none⟩)) rfl (by kernel_rfl) (by kernel_rfl) (by kernel_rfl) (fun _ _ _ h => h) (Or.inl ⟨by kernel_rfl, by (rintro w' s1; go_simp; first | done | (with_reducible rfl))⟩) hHeld ?_
  (try simp only [Act.put, List.getElem_toArray, List.getElem_cons_zero, List.getElem_cons_succ, List.setIfInBounds_toArray, List.set_cons_zero, List.set_cons_succ])
  refine wpAnyH_take (i := 11) (v := .pointer (some ⟨c, 0, none⟩)) rfl (by kernel_rfl) (by kernel_rfl) (by kernel_rfl) (fun _ _ _ h => h) (Or.inl ⟨by kernel_rfl, by (rintro w' s1; go_simp; first | done | (with_reducible rfl))⟩) hHeld ?_
  (try simp only [Act.put, List.getElem_toArray, List.getElem_cons_zero, List.getElem_cons_succ, List.setIfInBounds_toArray, List.set_cons_zero, List.set_cons_succ])
  refine wpAnyH_take (i := 12) (v := .pointer (some ⟨c, 0, none⟩)) rfl (by kernel_rfl) (by kernel_rfl) (by kernel_rfl) (fun _ _ _ h => h) (Or.inl ⟨by kernel_rfl, by (rintro w' s1; go_simp; first | done | (with_reducible rfl))⟩) hHeld ?_
  (try simp only [Act.put, List.getElem_toArray, List.getElem_cons_zero, List.getElem_cons_succ, List.setIfInBounds_toArray, List.set_cons_zero, List.set_cons_succ])
  refine wpAnyH_take (i := 13) (v := .slice A M cap) rfl (by kernel_rfl) (by kernel_rfl) (by kernel_rfl) (fun _ _ _ h => h) (Or.inl ⟨by kernel_rfl, by (rintro w' s1; go_simp; first | done | (with_reducible rfl))⟩) hHeld ?_
  (try simp only [Act.put, List.getElem_toArray, List.getElem_cons_zero, List.getElem_cons_succ, List.setIfInBounds_toArray, List.set_cons_zero, List.set_cons_succ])
  refine wpAnyH_take (i := 14) (v := .int .i64 M) rfl (by kernel_rfl) (by kernel_rfl) (by kernel_rfl) (fun _ _ _ h => h) (Or.inl ⟨by kernel_rfl, by (rintro w' s1; go_simp; first | done | (with_reducible rfl))⟩) hHeld ?_
  (try simp only [Act.put, List.getElem_toArray, List.getElem_cons_zero, List.getElem_cons_succ, List.setIfInBounds_toArray, List.set_cons_zero, List.set_cons_succ])
  refine wpAnyH_ready (rs := [9]) (by kernel_rfl) (by simp) ?_
  refine AllReadyH.cons rfl (fun K hK => ?_) AllReadyH.nil
  go_simp
  (have CL := len_is q N (w1.drewN n2) ((H.out.drew.below hb).qu.drewN n2)); go_at_call 16; rw [HNM.out] at CL; refine CL.mono ?_; rintro e w3 ⟨rfl, rfl⟩
  dsimp only
  refine hK.out _ _ hHeld (fun hHeld => ?_)
  clear hK K
  (try simp only [Act.put, List.getElem_toArray, List.getElem_cons_zero, List.getElem_cons_succ, List.setIfInBounds_toArray, List.set_cons_zero, List.set_cons_succ])
  refine wpAnyH_take (i := 15) (v := .bool true) rfl (by kernel_rfl) (by kernel_rfl) (by kernel_rfl) (fun _ _ _ h => h) (Or.inl ⟨by kernel_rfl, by (rintro w' s1; go_simp; first | done | (with_reducible rfl))⟩) hHeld ?_
  (try simp only [Act.put, List.getElem_toArray, List.getElem_cons_zero, List.getElem_cons_succ, List.setIfInBounds_toArray, List.set_cons_zero, List.set_cons_succ])
  refine wpAnyH_take (i := 16) (v := .bool true) rfl (by kernel_rfl) (by kernel_rfl) (by kernel_rfl) (fun _ _ _ h => h) (Or.inl ⟨by kernel_rfl, by (rintro w' s1; go_simp; first | done | (with_reducible rfl))⟩) hHeld ?_
  (try simp only [Act.put, List.getElem_toArray, List.getElem_cons_zero, List.getElem_cons_succ, List.setIfInBounds_toArray, List.set_cons_zero, List.set_cons_succ])
  refine wpAnyH_take (i := 17) (v := .bool true) rfl (by kernel_rfl) (by kernel_rfl) (by kernel_rfl) (fun _ _ _ h => h) (Or.inl ⟨by kernel_rfl, by (rintro w' s1; go_simp; first | done | (with_reducible rfl))⟩) hHeld ?_
  (try simp only [Act.put, List.getElem_toArray, List.getElem_cons_zero, List.getElem_cons_succ, List.setIfInBounds_toArray, List.set_cons_zero, List.set_cons_succ])
  refine wpAnyH_done (by kernel_rfl) ?_ _
  clear CA CS hHeld
  go_wp2
  go_ret
  exact ⟨rfl, ((Below.refl _ w).drew.trans hb).drewN_ n2⟩
end Go.Proofs.Ytdfpbbkdlalpcaa
