/- New and Copy of the reference's forest, by walks. Condition: 1 to 4096 places. -/
import Derived.Test.YtoihldagpnkfoaaTreeRefDrop
namespace Go.Proofs.Ytoihldagpnkfoaa
open Go.RowKit
set_option linter.unusedVariables false
set_option linter.unusedSimpArgs false

theorem infoQ : (Try.prog.info? 68).map (fun i => (i.zero, i.size, i.bytes)) = some (some (.agg #[.bool false, .int .i64 0, .slice none 0 0, .int .i64 0]), 4, 48) := by kernel_rfl

/-- The places of a new forest. -/
def newAt (i : Nat) : Qd := ⟨false, -1, none, 0, [], -1 - i⟩
def Qd.vs (x : Qd) : List Value := [.bool x.t, .int .i64 x.p, x.row.v, .int .i64 x.fr]
def qvs (M : Nat → Qd) (n : Nat) : List Value := (List.range n).flatMap fun i => (M i).vs
theorem qvs_succ (M : Nat → Qd) (n : Nat) : qvs M (n + 1) = qvs M n ++ (M n).vs := by
  unfold qvs
  rw [List.range_succ, List.flatMap_append]
  simp
theorem qvs_len (M : Nat → Qd) : ∀ n, (qvs M n).length = n * 4
  | 0 => rfl
  | n + 1 => by
    rw [qvs_succ, List.length_append, qvs_len M n]
    simp [Qd.vs]
    omega
theorem qvs_at (M : Nat → Qd) : ∀ (n i j : Nat), i < n → j < 4 → (qvs M n)[i * 4 + j]? = (M i).vs[j]?
  | 0, i, j, h, _ => absurd h (Nat.not_lt_zero _)
  | n + 1, i, j, h, hj => by
    rw [qvs_succ]
    by_cases hi : i < n
    · rw [List.getElem?_append_left (by rw [qvs_len]; omega)]
      exact qvs_at M n i j hi hj
    · have : i = n := by omega
      subst this
      rw [List.getElem?_append_right (by rw [qvs_len]; omega), qvs_len, show i * 4 + j - i * 4 = j by omega]
theorem qvs_one (M : Nat → Qd) (n : Nat) : ∀ u ∈ qvs M n, u.oneCell' = true := by
  intro u hu
  obtain ⟨i, _, hi⟩ := List.mem_flatMap.1 hu
  simp only [Qd.vs, List.mem_cons, List.not_mem_nil, or_false] at hi
  rcases hi with rfl | rfl | rfl | rfl <;> rfl
theorem reads_four (W : World) (x : Qd) : Reads (W.alloc (.cells #[.bool x.t, .int .i64 x.p, x.row.v, .int .i64 x.fr] 68)) (W.heap.size + 1) 4 (some ⟨W.heap.size, 0, none⟩) 1 x.vs :=
  ⟨rfl, fun _ => ⟨_, rfl, by simp, fun j u hu => by
    have hadd : (⟨W.heap.size, 0, none⟩ : Addr).add j = ⟨W.heap.size, j, none⟩ := by unfold Addr.add; split <;> simp_all
    rw [hadd, (Blk.new W 68 #[.bool x.t, .int .i64 x.p, x.row.v, .int .i64 x.fr]).cell j]
    rcases j with _ | _ | _ | _ | j <;> simp [Qd.vs] at hu ⊢ <;> exact hu⟩⟩

/-- Own memory that reads as all places is the places. -/
theorem places_own {w : World} {B n c : Nat} {M : Nat → Qd} {qb : Nat} (h : w.ownsRow B 68 4 (.slice (some ⟨qb, 0, none⟩) n c) n (qvs M n)) : (∀ i, i < n → QAt w qb (i * 4) (M i)) ∧ ∀ o, w.frozen? ⟨qb, o, none⟩ = false := by
  have hadd : ∀ j, (⟨qb, 0, none⟩ : Addr).add j = ⟨qb, j, none⟩ := fun j => by unfold Addr.add; split <;> simp_all
  have hc := h.cells (g := qb) rfl
  have key : ∀ i, i < n → ∀ j u, j < 4 → (M i).vs[j]? = some u → w.cell? ⟨qb, i * 4 + j, none⟩ = some u := by
    intro i hi j u hj hu
    have q := hc (i * 4 + j) u (by rw [qvs_at M n i j hi hj]; exact hu)
    rw [hadd] at q
    exact q
  refine ⟨fun i hi => ⟨key i hi 0 _ (by omega) rfl, key i hi 1 _ (by omega) rfl, key i hi 2 _ (by omega) rfl, key i hi 3 _ (by omega) rfl⟩, fun o => ?_⟩
  rcases h.2 with ⟨hv, _⟩ | ⟨g', cap, cur, hv, _, hg, _⟩
  · cases hv
  · have hgg : g' = qb := by injection hv with hv1; injection hv1 with hv2; injection hv2 with hv3; exact hv3.symm
    subst hgg
    simp [World.frozen?, hg]

/-- A new reference. -/
def newQw : Qw := ⟨newAt, ⟨none, 0, []⟩, 0⟩
theorem qrep_new (n : Nat) : QRep newQw (chain n 0) := by
  refine ⟨fun i hi => ?_, fun i hi => ?_, fun i hi => ?_, ?_, ?_, fun i hi => ?_⟩
  · simp [newQw, newAt, chain]
  · simp [newQw, newAt, chain]
  · rw [chain_end n 0 i (by omega)]; rfl
  · simp [newQw, chain]
  · show (List.range' 0 (n - 0)).reverse.Pairwise _
    rw [List.pairwise_reverse]
    refine (List.pairwise_lt_range' (s := 0) (n := n - 0)).imp fun {a b} hab => ?_
    show (-1 - (b : Int)) < -1 - (a : Int)
    omega
  · show (-1 - (i : Int)) ≤ 0
    omega

set_option maxRecDepth 100000 in
set_option maxHeartbeats 1000000 in
theorem refNew_is (n : Nat) (w : World) (h1 : 1 ≤ n) (h2 : n ≤ 4096) :
    Calls Try.prog 17 #[.int .i64 n] w fun e w' => ∃ g qb, e = .returned (.pointer (some ⟨g, 0, none⟩)) ∧ Ref w' g qb newQw (chain n 0) 0 ∧ w.heap.size ≤ g ∧ w.heap.size ≤ qb ∧ Below w.heap.size w w' := by
  obtain ⟨j0, hj0, hy0, hy1, hy2⟩ := info_parts infoQ
  have hb0 : Below w.heap.size w (w.alloc (.cells #[.slice none 0 0, .slice none 0 0, .int .i64 0] 66)) := (Below.refl _ w).alloc (Nat.le_refl _) _
  have hblk := Blk.new w 66 #[.slice none 0 0, .slice none 0 0, .int .i64 0]
  have hs : (w.alloc (.cells #[.slice none 0 0, .slice none 0 0, .int .i64 0] 66)).heap.size = w.heap.size + 1 := by simp
  have HI := Lib.hid (And.intro hb0 (And.intro hblk hs))
  clear hb0 hblk hs
  go_enter Try.func17, Try.ntmps17
  go_wp2_with fail
  obtain ⟨w1, hw1⟩ : ∃ w1, w1 = w.alloc (.cells #[.slice none 0 0, .slice none 0 0, .int .i64 0] 66) := ⟨_, rfl⟩
  rw [← hw1] at HI ⊢
  clear hw1
  go_loopw [4] (fun i wr => ∃ (k : Nat) (v : Value), k ≤ n ∧ i = .int .i64 k ∧ Blk wr w.heap.size 66 #[v, .slice none 0 0, .int .i64 0] ∧ wr.ownsRow w.heap.size 68 4 v k (qvs newAt k) ∧ Below w.heap.size w wr) (fun i _ => n - (intOf i).toNat)
  case atStart => exact ⟨0, _, Nat.zero_le _, rfl, HI.out.2.1, World.ownsRow_nil _ _ _ _, HI.out.1⟩
  case round =>
    obtain ⟨k, v, hk, rfl, hB, hown, hbr⟩ := hrel
    obtain ⟨A, cap, rfl⟩ := own_slice hown
    have b0 := hB.cell 0
    have bf := hB.frozen 0
    simp only [List.getElem?_toArray, List.getElem?_cons_zero] at b0
    have HB := Lib.hid hB
    have HO := Lib.hid hown
    have HBR := Lib.hid hbr
    by_cases hlt : k < n
    · have HRD := Lib.hid (reads_four wr (newAt k))
      have hne := Lib.hid (own_blk_ne hown hB (by decide))
      have m1 := Lib.hid (show k + 1 ≤ maxLen from by unfold maxLen; omega)
      have m2 := Lib.hid (show (k + 1) * 48 ≤ 140737488355328 from by omega)
      have hone := Lib.hid (show ∀ u ∈ (newAt k).vs, u.oneCell' = true from by
        intro u hu
        simp only [Qd.vs, List.mem_cons, List.not_mem_nil, or_false] at hu
        rcases hu with rfl | rfl | rfl | rfl <;> rfl)
      clear hB hown hbr
      go_wp2_with (at_builtin; refine wpList_append_any _ rfl (.tmp 16) (.tmp 20) 64 rfl w.heap.size 68 j0 _ 4 48 Try.underlying64 hj0 hy0 hy1 hy2 rfl (by decide) (.slice A k cap) k (qvs newAt k) rfl (HO.out.alloc _) (wr.heap.size + 1) (some ⟨wr.heap.size, 0, none⟩) 1 1 (newAt k).vs rfl HRD.out hone.out m1.out m2.out (by have := HBR.out.size; simp; omega) ?_; intro v2 w2 hown2 hg2 hat2; (rw [← qvs_succ] at hown2); (have HO2 := Lib.hid (And.intro hown2 (And.intro ((HBR.out.alloc HBR.out.size (.cells #[.bool false, .int .i64 (-1), .slice none 0 0, .int .i64 (-1 - k)] 68)).grown hg2 (by have := HBR.out.size; simp; omega) (fun j e => (HO.out.lt j e).1)) ((HB.out.alloc (.cells #[.bool false, .int .i64 (-1), .slice none 0 0, .int .i64 (-1 - k)] 68)).grown hg2 (fun e => hne.out e.symm))))); (obtain ⟨A2, c2, rfl⟩ := own_slice hown2); clear hown2 hg2 hat2 b0 bf; (have b0 := HO2.out.2.2.cell 0); (have bf := HO2.out.2.2.frozen 0); simp only [List.getElem?_toArray, List.getElem?_cons_zero] at b0)
      go_roundw
      case rel =>
        have hne2 := own_blk_ne HO2.out.1 HO2.out.2.2 (by decide)
        exact ⟨k + 1, _, by omega, by go_num, HO2.out.2.2.set_ 0 (.slice A2 (k + 1) c2), own_apart HO2.out.1 ((Apart.refl (fun j => j = w.heap.size) w2).setCell (p := ⟨w.heap.size, 0, none⟩) (.inl rfl) _) (fun j e e2 => hne2 (by rw [e, e2])), HO2.out.2.1.setCell (p := ⟨w.heap.size, 0, none⟩) (Nat.le_refl _) _⟩
      case measure => simp [intOf]; omega
    · have hkn : k = n := by omega
      subst hkn
      clear hB hown hbr
      go_wp2
      go_ret
      obtain ⟨qb, rfl⟩ := own_form HO.out (by omega)
      obtain ⟨hq1, hq2⟩ := places_own HO.out
      have hl := HO.out.lt qb rfl
      have hne2 := own_blk_ne HO.out HB.out (by decide)
      have hnq : qb ≠ w.heap.size := fun e => hne2 (by rw [e]; rfl)
      refine ⟨w.heap.size, qb, rfl, ⟨⟨cap, HB.out, hq1, hq2, hnq, hl.2, h1, h2, Cut.nil _, fun i hi => Cut.nil _, fun k hk => ?_⟩, qrep_new k, by show (0 : Int) ≤ 0; omega, by show (0 : Int) ≤ ((0 : Nat) : Int); omega⟩, Nat.le_refl _, hl.1, HBR.out⟩
      rcases hk with hk | ⟨i, _, hk⟩ <;> cases hk
end Go.Proofs.Ytoihldagpnkfoaa
