/- The law's own do, more acts, by walks: both queues answer alike, and agree as before. Conditions: both agree, of at most 90000; the act's rows are small. -/
import Derived.Test.YtdfpbbkdlalpcaaGloDo
namespace Go.Proofs.Ytdfpbbkdlalpcaa
open Go.RowKit
set_option linter.unusedVariables false
set_option linter.unusedSimpArgs false

set_option maxRecDepth 100000 in
set_option maxHeartbeats 2000000 in
theorem do_5 (X : Option Addr) (xs : List Int) (xc : Nat) (g p : Int) (F : Option Addr) (aff : List Nat) (fc : Nat) (B q c : Nat) (N : List (Nat × Int)) (A : Option Addr) (cap : Nat) (w : World) (h : Both w B q c N A cap) (hn : N.length ≤ 90000)
    (hF : Bytes w B F aff) (h8 : ∀ x ∈ aff, x < 256) (hla : aff.length ≤ maxLen) :
    Calls Try.prog 9 #[.pointer (some ⟨q, 0, none⟩), .pointer (some ⟨c, 0, none⟩), .agg #[.int .i64 5, .slice X xs.length xc, .int .i64 g, .int .i64 p, .slice F aff.length fc]] w (DoPost w B q c (N.length)) := by
  have hb1 : Below w.heap.size w (w.alloc (.cells #[.int .i64 5, .slice X xs.length xc, .int .i64 g, .int .i64 p, .slice F aff.length fc] 34)) := (Below.refl _ w).alloc (Nat.le_refl _) _
  have hbx := Blk.new w 34 #[.int .i64 5, .slice X xs.length xc, .int .i64 g, .int .i64 p, .slice F aff.length fc]
  have H1 := h.below hb1
  have hvl : (vals N).length ≤ 100000 := by rw [vals_len]; omega
  have hF1 := (hF.below (hb1.mono h.hB))
  go_enter Try.func9, Try.ntmps9
  go_wp2_with fail
  generalize hw1 : w.alloc (.cells #[.int .i64 5, .slice X xs.length xc, .int .i64 g, .int .i64 p, .slice F aff.length fc] 34) = w1 at *
  clear hw1
  refine (ahead_is p aff F fc g q N w1 H1.qu (by omega) (hF1.more H1.hB) hla h8).mono ?_
  rintro e w2 ⟨rfl, ha2⟩
  have H2 := H1.below ha2
  have hbx2 := hbx.below ha2 hbx.lt
  have hF2 : Bytes w2 B F aff := hF1.below (ha2.mono H1.hB)
  have d2 := hbx2.cell 2
  have d3 := hbx2.cell 3
  have d4 := hbx2.cell 4
  simp only [List.getElem?_toArray, List.getElem?_cons_zero, List.getElem?_cons_succ] at d2 d3 d4
  have CT := refAhead_is p aff F fc B g c B (vals N) A cap w2 H2.rq hvl hF2 hla h8
  have HH := Lib.hid (show Both w2 B q c N A cap ∧ Below B w w2 from ⟨H2, (hb1.mono h.hB).trans (ha2.mono H1.hB)⟩)
  clear hbx hF1 H1 H2 ha2 hbx2 hF2 h hF h8 hb1
  generalize (ahead p aff g (vals N)).1 = m at *
  generalize (ahead p aff g (vals N)).2 = b at *
  have hbb : (b == b) = true := by simp
  go_wp2_with (go_at_call 24; refine CT.mono ?_; rintro e w3 ⟨rfl, rfl⟩)
  go_ret
  exact ⟨rfl, ⟨_, _, _, HH.out.1, Nat.le_refl _⟩, HH.out.2⟩

set_option maxRecDepth 100000 in
set_option maxHeartbeats 2000000 in
theorem do_4 (X : Option Addr) (xs : List Int) (xc : Nat) (g p : Int) (F : Option Addr) (aff : List Nat) (fc : Nat) (B q c : Nat) (N : List (Nat × Int)) (A : Option Addr) (cap : Nat) (w : World) (h : Both w B q c N A cap) (hn : N.length ≤ 90000) :
    Calls Try.prog 9 #[.pointer (some ⟨q, 0, none⟩), .pointer (some ⟨c, 0, none⟩), .agg #[.int .i64 4, .slice X xs.length xc, .int .i64 g, .int .i64 p, .slice F aff.length fc]] w (DoPost w B q c (N.length)) := by
  have hb1 : Below w.heap.size w (w.alloc (.cells #[.int .i64 4, .slice X xs.length xc, .int .i64 g, .int .i64 p, .slice F aff.length fc] 34)) := (Below.refl _ w).alloc (Nat.le_refl _) _
  have hbx := Blk.new w 34 #[.int .i64 4, .slice X xs.length xc, .int .i64 g, .int .i64 p, .slice F aff.length fc]
  have H1 := h.below hb1
  have hvl : (vals N).length ≤ 100000 := by rw [vals_len]; omega
  go_enter Try.func9, Try.ntmps9
  go_wp2_with fail
  generalize hw1 : w.alloc (.cells #[.int .i64 4, .slice X xs.length xc, .int .i64 g, .int .i64 p, .slice F aff.length fc] 34) = w1 at *
  clear hw1
  have d2 := hbx.cell 2
  have x0 := H1.rq.blk.cell 0
  simp only [List.getElem?_toArray, List.getElem?_cons_zero, List.getElem?_cons_succ] at d2 x0
  have hcl := H1.rq.blk.lt
  have hbl := hbx.lt
  have CH := has_is g q N w1.drew H1.drew.qu (by omega)
  have HH := Lib.hid (show Both w1 B q c N A cap ∧ Below B w w1 from ⟨H1, hb1.mono h.hB⟩)
  clear hbx H1 h hb1
  rcases hit_or_miss (· == g) (vals N) with ⟨i, hit⟩ | miss
  · rw [isIn_hit hit] at CH
    have hi0 : (0 : Int) ≤ (i : Int) := by omega
    refine wp_region_held_drew (S := fun w' => w'.cell? ⟨w.heap.size, 2, none⟩ = some (.int .i64 g) ∧ w'.cell? ⟨c, 0, none⟩ = some (.slice A (vals N).length cap)) (by kernel_rfl) ⟨d2, x0⟩ (fun hHeld => ?_)
    refine wpAnyH_take (i := 0) (v := .pointer (some ⟨q, 0, none⟩)) rfl (by kernel_rfl) (by kernel_rfl) (by kernel_rfl) (fun _ _ _ h => h) (Or.inl ⟨by kernel_rfl, by (rintro w' ⟨s1, s2⟩; go_simp; first | done | (with_reducible rfl))⟩) hHeld ?_
    (try simp only [Act.put, List.getElem_toArray, List.getElem_cons_zero, List.getElem_cons_succ, List.setIfInBounds_toArray, List.set_cons_zero, List.set_cons_succ])
    refine wpAnyH_take (i := 1) (v := .pointer (some ⟨w.heap.size, 2, none⟩)) rfl (by kernel_rfl) (by kernel_rfl) (by kernel_rfl) (fun _ _ _ h => h) (Or.inl ⟨by kernel_rfl, by (rintro w' ⟨s1, s2⟩; go_simp; first | done | (with_reducible rfl))⟩) hHeld ?_
    (try simp only [Act.put, List.getElem_toArray, List.getElem_cons_zero, List.getElem_cons_succ, List.setIfInBounds_toArray, List.set_cons_zero, List.set_cons_succ])
    refine wpAnyH_take (i := 2) (v := .int .i64 g) rfl (by kernel_rfl) (by kernel_rfl) (by kernel_rfl) (fun _ _ _ h => h) (Or.inl ⟨by kernel_rfl, by (rintro w' ⟨s1, s2⟩; go_simp; first | done | (with_reducible rfl))⟩) hHeld ?_
    (try simp only [Act.put, List.getElem_toArray, List.getElem_cons_zero, List.getElem_cons_succ, List.setIfInBounds_toArray, List.set_cons_zero, List.set_cons_succ])
    refine wpAnyH_take (i := 4) (v := .pointer (some ⟨c, 0, none⟩)) rfl (by kernel_rfl) (by kernel_rfl) (by kernel_rfl) (fun _ _ _ h => h) (Or.inl ⟨by kernel_rfl, by (rintro w' ⟨s1, s2⟩; go_simp; first | done | (with_reducible rfl))⟩) hHeld ?_
    (try simp only [Act.put, List.getElem_toArray, List.getElem_cons_zero, List.getElem_cons_succ, List.setIfInBounds_toArray, List.set_cons_zero, List.set_cons_succ])
    refine wpAnyH_take (i := 5) (v := .pointer (some ⟨c, 0, none⟩)) rfl (by kernel_rfl) (by kernel_rfl) (by kernel_rfl) (fun _ _ _ h => h) (Or.inl ⟨by kernel_rfl, by (rintro w' ⟨s1, s2⟩; go_simp; first | done | (with_reducible rfl))⟩) hHeld ?_
    (try simp only [Act.put, List.getElem_toArray, List.getElem_cons_zero, List.getElem_cons_succ, List.setIfInBounds_toArray, List.set_cons_zero, List.set_cons_succ])
    refine wpAnyH_take (i := 6) (v := .pointer (some ⟨c, 0, none⟩)) rfl (by kernel_rfl) (by kernel_rfl) (by kernel_rfl) (fun _ _ _ h => h) (Or.inl ⟨by kernel_rfl, by (rintro w' ⟨s1, s2⟩; go_simp; first | done | (with_reducible rfl))⟩) hHeld ?_
    (try simp only [Act.put, List.getElem_toArray, List.getElem_cons_zero, List.getElem_cons_succ, List.setIfInBounds_toArray, List.set_cons_zero, List.set_cons_succ])
    refine wpAnyH_take (i := 7) (v := .slice A (vals N).length cap) rfl (by kernel_rfl) (by kernel_rfl) (by kernel_rfl) (fun _ _ _ h => h) (Or.inl ⟨by kernel_rfl, by (rintro w' ⟨s1, s2⟩; go_simp; first | done | (with_reducible rfl))⟩) hHeld ?_
    (try simp only [Act.put, List.getElem_toArray, List.getElem_cons_zero, List.getElem_cons_succ, List.setIfInBounds_toArray, List.set_cons_zero, List.set_cons_succ])
    refine wpAnyH_take (i := 8) (v := .pointer (some ⟨w.heap.size, 2, none⟩)) rfl (by kernel_rfl) (by kernel_rfl) (by kernel_rfl) (fun _ _ _ h => h) (Or.inl ⟨by kernel_rfl, by (rintro w' ⟨s1, s2⟩; go_simp; first | done | (with_reducible rfl))⟩) hHeld ?_
    (try simp only [Act.put, List.getElem_toArray, List.getElem_cons_zero, List.getElem_cons_succ, List.setIfInBounds_toArray, List.set_cons_zero, List.set_cons_succ])
    refine wpAnyH_take (i := 9) (v := .int .i64 g) rfl (by kernel_rfl) (by kernel_rfl) (by kernel_rfl) (fun _ _ _ h => h) (Or.inl ⟨by kernel_rfl, by (rintro w' ⟨s1, s2⟩; go_simp; first | done | (with_reducible rfl))⟩) hHeld ?_
    (try simp only [Act.put, List.getElem_toArray, List.getElem_cons_zero, List.getElem_cons_succ, List.setIfInBounds_toArray, List.set_cons_zero, List.set_cons_succ])
    refine wpAnyH_ready (rs := [3]) (by kernel_rfl) (by simp) ?_
    refine AllReadyH.cons rfl (fun K hK => ?_) AllReadyH.nil
    go_simp
    go_at_call 22; refine CH.mono ?_; rintro e w2 ⟨rfl, hb2⟩
    dsimp only
    clear hHeld
    refine hK.out _ _ ⟨(hb2.cell (p := ⟨w.heap.size, 2, none⟩) hbl).trans d2, (hb2.cell (p := ⟨c, 0, none⟩) hcl).trans x0⟩ (fun hHeld => ?_)
    clear hK K
    (try simp only [Act.put, List.getElem_toArray, List.getElem_cons_zero, List.getElem_cons_succ, List.setIfInBounds_toArray, List.set_cons_zero, List.set_cons_succ])
    refine wpAnyH_ready (rs := [10]) (by kernel_rfl) (by simp) ?_
    refine AllReadyH.cons rfl (fun K hK => ?_) AllReadyH.nil
    go_simp
    go_at_call 23; refine (find_hit g (vals N) A cap w2.heap.size i w2 ((HH.out.1.drew.below hb2).rq.ints) hvl hit).mono ?_; rintro e w3 ⟨rfl, rfl⟩
    dsimp only
    refine hK.out _ _ hHeld (fun hHeld => ?_)
    clear hK K
    (try simp only [Act.put, List.getElem_toArray, List.getElem_cons_zero, List.getElem_cons_succ, List.setIfInBounds_toArray, List.set_cons_zero, List.set_cons_succ])
    refine wpAnyH_take (i := 11) (v := .bool true) rfl (by kernel_rfl) (by kernel_rfl) (by kernel_rfl) (fun _ _ _ h => h) (Or.inl ⟨by kernel_rfl, by (rintro w' ⟨s1, s2⟩; go_simp; first | done | (with_reducible rfl))⟩) hHeld ?_
    (try simp only [Act.put, List.getElem_toArray, List.getElem_cons_zero, List.getElem_cons_succ, List.setIfInBounds_toArray, List.set_cons_zero, List.set_cons_succ])
    refine wpAnyH_take (i := 12) (v := .bool true) rfl (by kernel_rfl) (by kernel_rfl) (by kernel_rfl) (fun _ _ _ h => h) (Or.inl ⟨by kernel_rfl, by (rintro w' ⟨s1, s2⟩; go_simp; first | done | (with_reducible rfl))⟩) hHeld ?_
    (try simp only [Act.put, List.getElem_toArray, List.getElem_cons_zero, List.getElem_cons_succ, List.setIfInBounds_toArray, List.set_cons_zero, List.set_cons_succ])
    refine wpAnyH_take (i := 13) (v := .bool true) rfl (by kernel_rfl) (by kernel_rfl) (by kernel_rfl) (fun _ _ _ h => h) (Or.inl ⟨by kernel_rfl, by (rintro w' ⟨s1, s2⟩; go_simp; first | done | (with_reducible rfl))⟩) hHeld ?_
    (try simp only [Act.put, List.getElem_toArray, List.getElem_cons_zero, List.getElem_cons_succ, List.setIfInBounds_toArray, List.set_cons_zero, List.set_cons_succ])
    refine wpAnyH_done (by kernel_rfl) ?_ _
    clear hHeld
    go_wp2
    go_ret
    exact ⟨rfl, ⟨_, _, _, HH.out.1.drew.below hb2, Nat.le_refl _⟩, HH.out.2.drew.trans (hb2.mono HH.out.1.hB)⟩
  · rw [isIn_miss miss] at CH
    refine wp_region_held_drew (S := fun w' => w'.cell? ⟨w.heap.size, 2, none⟩ = some (.int .i64 g) ∧ w'.cell? ⟨c, 0, none⟩ = some (.slice A (vals N).length cap)) (by kernel_rfl) ⟨d2, x0⟩ (fun hHeld => ?_)
    refine wpAnyH_take (i := 0) (v := .pointer (some ⟨q, 0, none⟩)) rfl (by kernel_rfl) (by kernel_rfl) (by kernel_rfl) (fun _ _ _ h => h) (Or.inl ⟨by kernel_rfl, by (rintro w' ⟨s1, s2⟩; go_simp; first | done | (with_reducible rfl))⟩) hHeld ?_
    (try simp only [Act.put, List.getElem_toArray, List.getElem_cons_zero, List.getElem_cons_succ, List.setIfInBounds_toArray, List.set_cons_zero, List.set_cons_succ])
    refine wpAnyH_take (i := 1) (v := .pointer (some ⟨w.heap.size, 2, none⟩)) rfl (by kernel_rfl) (by kernel_rfl) (by kernel_rfl) (fun _ _ _ h => h) (Or.inl ⟨by kernel_rfl, by (rintro w' ⟨s1, s2⟩; go_simp; first | done | (with_reducible rfl))⟩) hHeld ?_
    (try simp only [Act.put, List.getElem_toArray, List.getElem_cons_zero, List.getElem_cons_succ, List.setIfInBounds_toArray, List.set_cons_zero, List.set_cons_succ])
    refine wpAnyH_take (i := 2) (v := .int .i64 g) rfl (by kernel_rfl) (by kernel_rfl) (by kernel_rfl) (fun _ _ _ h => h) (Or.inl ⟨by kernel_rfl, by (rintro w' ⟨s1, s2⟩; go_simp; first | done | (with_reducible rfl))⟩) hHeld ?_
    (try simp only [Act.put, List.getElem_toArray, List.getElem_cons_zero, List.getElem_cons_succ, List.setIfInBounds_toArray, List.set_cons_zero, List.set_cons_succ])
    refine wpAnyH_take (i := 4) (v := .pointer (some ⟨c, 0, none⟩)) rfl (by kernel_rfl) (by kernel_rfl) (by kernel_rfl) (fun _ _ _ h => h) (Or.inl ⟨by kernel_rfl, by (rintro w' ⟨s1, s2⟩; go_simp; first | done | (with_reducible rfl))⟩) hHeld ?_
    (try simp only [Act.put, List.getElem_toArray, List.getElem_cons_zero, List.getElem_cons_succ, List.setIfInBounds_toArray, List.set_cons_zero, List.set_cons_succ])
    refine wpAnyH_take (i := 5) (v := .pointer (some ⟨c, 0, none⟩)) rfl (by kernel_rfl) (by kernel_rfl) (by kernel_rfl) (fun _ _ _ h => h) (Or.inl ⟨by kernel_rfl, by (rintro w' ⟨s1, s2⟩; go_simp; first | done | (with_reducible rfl))⟩) hHeld ?_
    (try simp only [Act.put, List.getElem_toArray, List.getElem_cons_zero, List.getElem_cons_succ, List.setIfInBounds_toArray, List.set_cons_zero, List.set_cons_succ])
    refine wpAnyH_take (i := 6) (v := .pointer (some ⟨c, 0, none⟩)) rfl (by kernel_rfl) (by kernel_rfl) (by kernel_rfl) (fun _ _ _ h => h) (Or.inl ⟨by kernel_rfl, by (rintro w' ⟨s1, s2⟩; go_simp; first | done | (with_reducible rfl))⟩) hHeld ?_
    (try simp only [Act.put, List.getElem_toArray, List.getElem_cons_zero, List.getElem_cons_succ, List.setIfInBounds_toArray, List.set_cons_zero, List.set_cons_succ])
    refine wpAnyH_take (i := 7) (v := .slice A (vals N).length cap) rfl (by kernel_rfl) (by kernel_rfl) (by kernel_rfl) (fun _ _ _ h => h) (Or.inl ⟨by kernel_rfl, by (rintro w' ⟨s1, s2⟩; go_simp; first | done | (with_reducible rfl))⟩) hHeld ?_
    (try simp only [Act.put, List.getElem_toArray, List.getElem_cons_zero, List.getElem_cons_succ, List.setIfInBounds_toArray, List.set_cons_zero, List.set_cons_succ])
    refine wpAnyH_take (i := 8) (v := .pointer (some ⟨w.heap.size, 2, none⟩)) rfl (by kernel_rfl) (by kernel_rfl) (by kernel_rfl) (fun _ _ _ h => h) (Or.inl ⟨by kernel_rfl, by (rintro w' ⟨s1, s2⟩; go_simp; first | done | (with_reducible rfl))⟩) hHeld ?_
    (try simp only [Act.put, List.getElem_toArray, List.getElem_cons_zero, List.getElem_cons_succ, List.setIfInBounds_toArray, List.set_cons_zero, List.set_cons_succ])
    refine wpAnyH_take (i := 9) (v := .int .i64 g) rfl (by kernel_rfl) (by kernel_rfl) (by kernel_rfl) (fun _ _ _ h => h) (Or.inl ⟨by kernel_rfl, by (rintro w' ⟨s1, s2⟩; go_simp; first | done | (with_reducible rfl))⟩) hHeld ?_
    (try simp only [Act.put, List.getElem_toArray, List.getElem_cons_zero, List.getElem_cons_succ, List.setIfInBounds_toArray, List.set_cons_zero, List.set_cons_succ])
    refine wpAnyH_ready (rs := [3]) (by kernel_rfl) (by simp) ?_
    refine AllReadyH.cons rfl (fun K hK => ?_) AllReadyH.nil
    go_simp
    go_at_call 22; refine CH.mono ?_; rintro e w2 ⟨rfl, hb2⟩
    dsimp only
    clear hHeld
    refine hK.out _ _ ⟨(hb2.cell (p := ⟨w.heap.size, 2, none⟩) hbl).trans d2, (hb2.cell (p := ⟨c, 0, none⟩) hcl).trans x0⟩ (fun hHeld => ?_)
    clear hK K
    (try simp only [Act.put, List.getElem_toArray, List.getElem_cons_zero, List.getElem_cons_succ, List.setIfInBounds_toArray, List.set_cons_zero, List.set_cons_succ])
    refine wpAnyH_ready (rs := [10]) (by kernel_rfl) (by simp) ?_
    refine AllReadyH.cons rfl (fun K hK => ?_) AllReadyH.nil
    go_simp
    go_at_call 23; refine (find_miss g (vals N) A cap w2.heap.size w2 ((HH.out.1.drew.below hb2).rq.ints) hvl miss).mono ?_; rintro e w3 ⟨rfl, rfl⟩
    dsimp only
    refine hK.out _ _ hHeld (fun hHeld => ?_)
    clear hK K
    (try simp only [Act.put, List.getElem_toArray, List.getElem_cons_zero, List.getElem_cons_succ, List.setIfInBounds_toArray, List.set_cons_zero, List.set_cons_succ])
    refine wpAnyH_take (i := 11) (v := .bool false) rfl (by kernel_rfl) (by kernel_rfl) (by kernel_rfl) (fun _ _ _ h => h) (Or.inl ⟨by kernel_rfl, by (rintro w' ⟨s1, s2⟩; go_simp; first | done | (with_reducible rfl))⟩) hHeld ?_
    (try simp only [Act.put, List.getElem_toArray, List.getElem_cons_zero, List.getElem_cons_succ, List.setIfInBounds_toArray, List.set_cons_zero, List.set_cons_succ])
    refine wpAnyH_take (i := 12) (v := .bool true) rfl (by kernel_rfl) (by kernel_rfl) (by kernel_rfl) (fun _ _ _ h => h) (Or.inl ⟨by kernel_rfl, by (rintro w' ⟨s1, s2⟩; go_simp; first | done | (with_reducible rfl))⟩) hHeld ?_
    (try simp only [Act.put, List.getElem_toArray, List.getElem_cons_zero, List.getElem_cons_succ, List.setIfInBounds_toArray, List.set_cons_zero, List.set_cons_succ])
    refine wpAnyH_take (i := 13) (v := .bool true) rfl (by kernel_rfl) (by kernel_rfl) (by kernel_rfl) (fun _ _ _ h => h) (Or.inl ⟨by kernel_rfl, by (rintro w' ⟨s1, s2⟩; go_simp; first | done | (with_reducible rfl))⟩) hHeld ?_
    (try simp only [Act.put, List.getElem_toArray, List.getElem_cons_zero, List.getElem_cons_succ, List.setIfInBounds_toArray, List.set_cons_zero, List.set_cons_succ])
    refine wpAnyH_done (by kernel_rfl) ?_ _
    clear hHeld
    go_wp2
    go_ret
    exact ⟨rfl, ⟨_, _, _, HH.out.1.drew.below hb2, Nat.le_refl _⟩, HH.out.2.drew.trans (hb2.mono HH.out.1.hB)⟩

set_option maxRecDepth 100000 in
set_option maxHeartbeats 2000000 in
theorem do_3 (X : Option Addr) (xs : List Int) (xc : Nat) (g p : Int) (F : Option Addr) (aff : List Nat) (fc : Nat) (B q c : Nat) (N : List (Nat × Int)) (A : Option Addr) (cap : Nat) (w : World) (h : Both w B q c N A cap) (hn : N.length ≤ 90000) :
    Calls Try.prog 9 #[.pointer (some ⟨q, 0, none⟩), .pointer (some ⟨c, 0, none⟩), .agg #[.int .i64 3, .slice X xs.length xc, .int .i64 g, .int .i64 p, .slice F aff.length fc]] w (DoPost w B q c (N.length)) := by
  have hb1 : Below w.heap.size w (w.alloc (.cells #[.int .i64 3, .slice X xs.length xc, .int .i64 g, .int .i64 p, .slice F aff.length fc] 34)) := (Below.refl _ w).alloc (Nat.le_refl _) _
  have hbx := Blk.new w 34 #[.int .i64 3, .slice X xs.length xc, .int .i64 g, .int .i64 p, .slice F aff.length fc]
  have H1 := h.below hb1
  have hvl : (vals N).length ≤ 100000 := by rw [vals_len]; omega
  go_enter Try.func9, Try.ntmps9
  go_wp2_with fail
  have hbn : ¬ bl q N w.heap.size := fun hk => by have := h.qu.lt _ hk; omega
  have hbc : w.heap.size ≠ c := fun hk => by have := h.rq.blk.lt; omega
  generalize hw1 : w.alloc (.cells #[.int .i64 3, .slice X xs.length xc, .int .i64 g, .int .i64 p, .slice F aff.length fc] 34) = w1 at *
  clear hw1
  have d2 := hbx.cell 2
  simp only [List.getElem?_toArray, List.getElem?_cons_zero, List.getElem?_cons_succ] at d2
  have hbl := hbx.lt
  have HH := Lib.hid (show Both w1 B q c N A cap ∧ Below B w w1 from ⟨H1, hb1.mono h.hB⟩)
  rcases hit_or_miss (· == g) (vals N) with ⟨i, hit⟩ | miss
  · have CR := remove_hit g q i N w1.drew H1.drew.qu (by omega) hit
    clear hbx H1 h hb1
    refine wp_region_held_drew (S := fun w' => w'.cell? ⟨w.heap.size, 2, none⟩ = some (.int .i64 g)) (by kernel_rfl) d2 (fun hHeld => ?_)
    refine wpAnyH_take (i := 0) (v := .pointer (some ⟨q, 0, none⟩)) rfl (by kernel_rfl) (by kernel_rfl) (by kernel_rfl) (fun _ _ _ h => h) (Or.inl ⟨by kernel_rfl, by (rintro w' s1; go_simp; first | done | (with_reducible rfl))⟩) hHeld ?_
    (try simp only [Act.put, List.getElem_toArray, List.getElem_cons_zero, List.getElem_cons_succ, List.setIfInBounds_toArray, List.set_cons_zero, List.set_cons_succ])
    refine wpAnyH_take (i := 1) (v := .pointer (some ⟨w.heap.size, 2, none⟩)) rfl (by kernel_rfl) (by kernel_rfl) (by kernel_rfl) (fun _ _ _ h => h) (Or.inl ⟨by kernel_rfl, by (rintro w' s1; go_simp; first | done | (with_reducible rfl))⟩) hHeld ?_
    (try simp only [Act.put, List.getElem_toArray, List.getElem_cons_zero, List.getElem_cons_succ, List.setIfInBounds_toArray, List.set_cons_zero, List.set_cons_succ])
    refine wpAnyH_take (i := 2) (v := .int .i64 g) rfl (by kernel_rfl) (by kernel_rfl) (by kernel_rfl) (fun _ _ _ h => h) (Or.inl ⟨by kernel_rfl, by (rintro w' s1; go_simp; first | done | (with_reducible rfl))⟩) hHeld ?_
    (try simp only [Act.put, List.getElem_toArray, List.getElem_cons_zero, List.getElem_cons_succ, List.setIfInBounds_toArray, List.set_cons_zero, List.set_cons_succ])
    refine wpAnyH_take (i := 4) (v := .pointer (some ⟨c, 0, none⟩)) rfl (by kernel_rfl) (by kernel_rfl) (by kernel_rfl) (fun _ _ _ h => h) (Or.inl ⟨by kernel_rfl, by (rintro w' s1; go_simp; first | done | (with_reducible rfl))⟩) hHeld ?_
    (try simp only [Act.put, List.getElem_toArray, List.getElem_cons_zero, List.getElem_cons_succ, List.setIfInBounds_toArray, List.set_cons_zero, List.set_cons_succ])
    refine wpAnyH_take (i := 5) (v := .pointer (some ⟨w.heap.size, 2, none⟩)) rfl (by kernel_rfl) (by kernel_rfl) (by kernel_rfl) (fun _ _ _ h => h) (Or.inl ⟨by kernel_rfl, by (rintro w' s1; go_simp; first | done | (with_reducible rfl))⟩) hHeld ?_
    (try simp only [Act.put, List.getElem_toArray, List.getElem_cons_zero, List.getElem_cons_succ, List.setIfInBounds_toArray, List.set_cons_zero, List.set_cons_succ])
    refine wpAnyH_take (i := 6) (v := .int .i64 g) rfl (by kernel_rfl) (by kernel_rfl) (by kernel_rfl) (fun _ _ _ h => h) (Or.inl ⟨by kernel_rfl, by (rintro w' s1; go_simp; first | done | (with_reducible rfl))⟩) hHeld ?_
    (try simp only [Act.put, List.getElem_toArray, List.getElem_cons_zero, List.getElem_cons_succ, List.setIfInBounds_toArray, List.set_cons_zero, List.set_cons_succ])
    refine wpAnyH_ready (rs := [3]) (by kernel_rfl) (by simp) ?_
    refine AllReadyH.cons rfl (fun K hK => ?_) AllReadyH.nil
    go_simp
    go_at_call 20; refine CR.mono ?_; rintro e w2 ⟨rfl, hq2, ha2⟩
    dsimp only
    clear hHeld
    refine hK.out _ _ ((World.cell?_of_block (ha2.block w.heap.size hbl (fun hk => hbn (show bl q N w.heap.size from hk)))).trans d2) (fun hHeld => ?_)
    clear hK K
    (try simp only [Act.put, List.getElem_toArray, List.getElem_cons_zero, List.getElem_cons_succ, List.setIfInBounds_toArray, List.set_cons_zero, List.set_cons_succ])
    refine wpAnyH_ready (rs := [7]) (by kernel_rfl) (by simp) ?_
    refine AllReadyH.cons rfl (fun K hK => ?_) AllReadyH.nil
    go_simp
    go_at_call 21; refine (refRemove_hit g c B i (vals N) A cap w2 (HH.out.1.drew.rq_apart ha2) hvl (Nat.le_trans HH.out.1.hB ha2.size) hit).mono ?_; rintro e w3 ⟨rfl, hr3, ha3⟩
    dsimp only
    clear hHeld
    refine hK.out _ _ ((World.cell?_of_block (ha3.block w.heap.size (Nat.lt_of_lt_of_le hbl ha2.size) (fun hk => hbc hk))).trans ((World.cell?_of_block (ha2.block w.heap.size hbl (fun hk => hbn (show bl q N w.heap.size from hk)))).trans d2)) (fun hHeld => ?_)
    clear hK K
    (try simp only [Act.put, List.getElem_toArray, List.getElem_cons_zero, List.getElem_cons_succ, List.setIfInBounds_toArray, List.set_cons_zero, List.set_cons_succ])
    refine wpAnyH_take (i := 8) (v := .bool true) rfl (by kernel_rfl) (by kernel_rfl) (by kernel_rfl) (fun _ _ _ h => h) (Or.inl ⟨by kernel_rfl, by (rintro w' s1; go_simp; first | done | (with_reducible rfl))⟩) hHeld ?_
    (try simp only [Act.put, List.getElem_toArray, List.getElem_cons_zero, List.getElem_cons_succ, List.setIfInBounds_toArray, List.set_cons_zero, List.set_cons_succ])
    refine wpAnyH_take (i := 9) (v := .bool true) rfl (by kernel_rfl) (by kernel_rfl) (by kernel_rfl) (fun _ _ _ h => h) (Or.inl ⟨by kernel_rfl, by (rintro w' s1; go_simp; first | done | (with_reducible rfl))⟩) hHeld ?_
    (try simp only [Act.put, List.getElem_toArray, List.getElem_cons_zero, List.getElem_cons_succ, List.setIfInBounds_toArray, List.set_cons_zero, List.set_cons_succ])
    refine wpAnyH_done (by kernel_rfl) ?_ _
    clear hHeld
    go_wp2
    go_ret
    obtain ⟨A', cap', hr⟩ := hr3
    have hb := both_step HH.out.1.drew ha2 hq2 (fun k hk => HH.out.1.lo k (bl_erase hk)) ha3 (by rw [vals_erase]; exact hr)
    exact ⟨rfl, ⟨_, _, _, hb.1, by have := List.length_eraseIdx_le N i; omega⟩, HH.out.2.drew.trans hb.2⟩
  · have CR := remove_miss g q N w1.drew H1.drew.qu (by omega) miss
    clear hbx H1 h hb1
    refine wp_region_held_drew (S := fun w' => w'.cell? ⟨w.heap.size, 2, none⟩ = some (.int .i64 g)) (by kernel_rfl) d2 (fun hHeld => ?_)
    refine wpAnyH_take (i := 0) (v := .pointer (some ⟨q, 0, none⟩)) rfl (by kernel_rfl) (by kernel_rfl) (by kernel_rfl) (fun _ _ _ h => h) (Or.inl ⟨by kernel_rfl, by (rintro w' s1; go_simp; first | done | (with_reducible rfl))⟩) hHeld ?_
    (try simp only [Act.put, List.getElem_toArray, List.getElem_cons_zero, List.getElem_cons_succ, List.setIfInBounds_toArray, List.set_cons_zero, List.set_cons_succ])
    refine wpAnyH_take (i := 1) (v := .pointer (some ⟨w.heap.size, 2, none⟩)) rfl (by kernel_rfl) (by kernel_rfl) (by kernel_rfl) (fun _ _ _ h => h) (Or.inl ⟨by kernel_rfl, by (rintro w' s1; go_simp; first | done | (with_reducible rfl))⟩) hHeld ?_
    (try simp only [Act.put, List.getElem_toArray, List.getElem_cons_zero, List.getElem_cons_succ, List.setIfInBounds_toArray, List.set_cons_zero, List.set_cons_succ])
    refine wpAnyH_take (i := 2) (v := .int .i64 g) rfl (by kernel_rfl) (by kernel_rfl) (by kernel_rfl) (fun _ _ _ h => h) (Or.inl ⟨by kernel_rfl, by (rintro w' s1; go_simp; first | done | (with_reducible rfl))⟩) hHeld ?_
    (try simp only [Act.put, List.getElem_toArray, List.getElem_cons_zero, List.getElem_cons_succ, List.setIfInBounds_toArray, List.set_cons_zero, List.set_cons_succ])
    refine wpAnyH_take (i := 4) (v := .pointer (some ⟨c, 0, none⟩)) rfl (by kernel_rfl) (by kernel_rfl) (by kernel_rfl) (fun _ _ _ h => h) (Or.inl ⟨by kernel_rfl, by (rintro w' s1; go_simp; first | done | (with_reducible rfl))⟩) hHeld ?_
    (try simp only [Act.put, List.getElem_toArray, List.getElem_cons_zero, List.getElem_cons_succ, List.setIfInBounds_toArray, List.set_cons_zero, List.set_cons_succ])
    refine wpAnyH_take (i := 5) (v := .pointer (some ⟨w.heap.size, 2, none⟩)) rfl (by kernel_rfl) (by kernel_rfl) (by kernel_rfl) (fun _ _ _ h => h) (Or.inl ⟨by kernel_rfl, by (rintro w' s1; go_simp; first | done | (with_reducible rfl))⟩) hHeld ?_
    (try simp only [Act.put, List.getElem_toArray, List.getElem_cons_zero, List.getElem_cons_succ, List.setIfInBounds_toArray, List.set_cons_zero, List.set_cons_succ])
    refine wpAnyH_take (i := 6) (v := .int .i64 g) rfl (by kernel_rfl) (by kernel_rfl) (by kernel_rfl) (fun _ _ _ h => h) (Or.inl ⟨by kernel_rfl, by (rintro w' s1; go_simp; first | done | (with_reducible rfl))⟩) hHeld ?_
    (try simp only [Act.put, List.getElem_toArray, List.getElem_cons_zero, List.getElem_cons_succ, List.setIfInBounds_toArray, List.set_cons_zero, List.set_cons_succ])
    refine wpAnyH_ready (rs := [3]) (by kernel_rfl) (by simp) ?_
    refine AllReadyH.cons rfl (fun K hK => ?_) AllReadyH.nil
    go_simp
    go_at_call 20; refine CR.mono ?_; rintro e w2 ⟨rfl, hb2⟩
    dsimp only
    clear hHeld
    refine hK.out _ _ ((hb2.cell (p := ⟨w.heap.size, 2, none⟩) hbl).trans d2) (fun hHeld => ?_)
    clear hK K
    (try simp only [Act.put, List.getElem_toArray, List.getElem_cons_zero, List.getElem_cons_succ, List.setIfInBounds_toArray, List.set_cons_zero, List.set_cons_succ])
    refine wpAnyH_ready (rs := [7]) (by kernel_rfl) (by simp) ?_
    refine AllReadyH.cons rfl (fun K hK => ?_) AllReadyH.nil
    go_simp
    go_at_call 21; refine (refRemove_miss g c B (vals N) A cap w2 ((HH.out.1.drew.below hb2).rq) hvl miss).mono ?_; rintro e w3 ⟨rfl, rfl⟩
    dsimp only
    refine hK.out _ _ hHeld (fun hHeld => ?_)
    clear hK K
    (try simp only [Act.put, List.getElem_toArray, List.getElem_cons_zero, List.getElem_cons_succ, List.setIfInBounds_toArray, List.set_cons_zero, List.set_cons_succ])
    refine wpAnyH_take (i := 8) (v := .bool true) rfl (by kernel_rfl) (by kernel_rfl) (by kernel_rfl) (fun _ _ _ h => h) (Or.inl ⟨by kernel_rfl, by (rintro w' s1; go_simp; first | done | (with_reducible rfl))⟩) hHeld ?_
    (try simp only [Act.put, List.getElem_toArray, List.getElem_cons_zero, List.getElem_cons_succ, List.setIfInBounds_toArray, List.set_cons_zero, List.set_cons_succ])
    refine wpAnyH_take (i := 9) (v := .bool true) rfl (by kernel_rfl) (by kernel_rfl) (by kernel_rfl) (fun _ _ _ h => h) (Or.inl ⟨by kernel_rfl, by (rintro w' s1; go_simp; first | done | (with_reducible rfl))⟩) hHeld ?_
    (try simp only [Act.put, List.getElem_toArray, List.getElem_cons_zero, List.getElem_cons_succ, List.setIfInBounds_toArray, List.set_cons_zero, List.set_cons_succ])
    refine wpAnyH_done (by kernel_rfl) ?_ _
    clear hHeld
    go_wp2
    go_ret
    exact ⟨rfl, ⟨_, _, _, HH.out.1.drew.below hb2, Nat.le_refl _⟩, HH.out.2.drew.trans (hb2.mono HH.out.1.hB)⟩

set_option maxRecDepth 100000 in
set_option maxHeartbeats 2000000 in
theorem do_0 (kd : Int) (X : Option Addr) (xs : List Int) (xc : Nat) (g p : Int) (F : Option Addr) (aff : List Nat) (fc : Nat) (B q c : Nat) (N : List (Nat × Int)) (A : Option Addr) (cap : Nat) (w : World) (h : Both w B q c N A cap) (hn : N.length ≤ 90000) (k1 : kd ≠ 1) (k2 : kd ≠ 2) (k3 : kd ≠ 3) (k4 : kd ≠ 4) (k5 : kd ≠ 5) :
    Calls Try.prog 9 #[.pointer (some ⟨q, 0, none⟩), .pointer (some ⟨c, 0, none⟩), .agg #[.int .i64 kd, .slice X xs.length xc, .int .i64 g, .int .i64 p, .slice F aff.length fc]] w (DoPost w B q c (N.length)) := by
  have hb1 : Below w.heap.size w (w.alloc (.cells #[.int .i64 kd, .slice X xs.length xc, .int .i64 g, .int .i64 p, .slice F aff.length fc] 34)) := (Below.refl _ w).alloc (Nat.le_refl _) _
  have H1 := Lib.hid (h.below hb1)
  have HB := Lib.hid (hb1.mono h.hB)
  have e1 : (kd == 1) = false := by simpa using k1
  have e2 : (kd == 2) = false := by simpa using k2
  have e3 : (kd == 3) = false := by simpa using k3
  have e4 : (kd == 4) = false := by simpa using k4
  have e5 : (kd == 5) = false := by simpa using k5
  clear h hb1 k1 k2 k3 k4 k5
  go_enter Try.func9, Try.ntmps9
  go_wp2
  go_ret
  exact ⟨rfl, ⟨_, _, _, H1.out, Nat.le_refl _⟩, HB.out⟩
end Go.Proofs.Ytdfpbbkdlalpcaa
