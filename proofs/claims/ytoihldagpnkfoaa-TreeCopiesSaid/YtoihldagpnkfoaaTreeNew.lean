/- New of the program's forest, by a walk: 1 to 4096 places, all free; none of another size. -/
import Derived.Test.YtoihldagpnkfoaaTreeDrop2
namespace Go.Proofs.Ytoihldagpnkfoaa
open Go.RowKit
set_option linter.unusedVariables false
set_option linter.unusedSimpArgs false

theorem infoNode : (Try.prog.info? 61).map (fun i => (i.zero, i.size, i.bytes)) = some (some (.agg #[.bool false, .int .i64 0, .int .i64 0, .int .i64 0, .int .i64 0]), 5, 40) := by kernel_rfl

set_option maxHeartbeats 400000 in
theorem new_no (n : Int) (w : World) (h : n < 1 ∨ 4096 < n) : Calls Try.prog 10 #[.int .i64 n] w fun e w' => e = .returned (.tuple #[.pointer none, .int .i64 2]) ∧ w = w' := by
  have hcase : n < 1 ∨ (¬ n < 1 ∧ 4096 < n) := by omega
  clear h
  rcases hcase with h | ⟨h, h2⟩
  all_goals
    go_enter Try.func10, Try.ntmps10
    go_wp2
    go_ret2
    exact ⟨rfl, rfl⟩

/-- The world at the head of New's loop. -/
def NewAt (w : World) (f lb n : Nat) (i : Value) (wr : World) : Prop :=
  ∃ (k : Nat) (v : Value), k ≤ n ∧ i = .int .i64 k ∧ PS wr f lb n n Raw.none_ v (nats (List.range' (n - k) k).reverse) ∧ (∀ b, v.ownBlock = some b → w.heap.size ≤ b) ∧ Below w.heap.size w wr
theorem new_list {n k : Nat} (h : k < n) : nats (List.range' (n - (k + 1)) (k + 1)).reverse = nats (List.range' (n - k) k).reverse ++ [(n : Int) - 1 - k] := by
  rw [List.range'_succ, List.reverse_cons, nats_snoc, show n - (k + 1) + 1 = n - k by omega]
  congr 2
  omega

set_option maxRecDepth 100000 in
set_option maxHeartbeats 4000000 in
theorem new_is (n : Nat) (w : World) (h1 : 1 ≤ n) (h2 : n ≤ 4096) :
    Calls Try.prog 10 #[.int .i64 n] w fun e w' => ∃ f lb v, e = .returned (.tuple #[.pointer (some ⟨f, 0, none⟩), .int .i64 0]) ∧ Prg w' f lb v (chain n 0) ∧ (∀ k, own3 f lb v k → w.heap.size ≤ k) ∧ Below w.heap.size w w' := by
  obtain ⟨i0, hi0, hz0, hz1, hz2⟩ := info_parts infoInt
  obtain ⟨j0, hj0, hy0, hy1, hy2⟩ := info_parts infoNode
  go_enter Try.func10, Try.ntmps10
  go_wp2_with (at_make; refine wpList_make_full _ rfl _ _ 55 rfl w.heap.size 61 j0 (.agg #[.bool false, .int .i64 0, .int .i64 0, .int .i64 0, .int .i64 0]) 5 Try.underlying55 hj0 hy0 hy1 .i64 .i64 n n n rfl rfl rfl rfl (by rw [hy2]; omega) (by unfold maxLen; omega) (Nat.le_refl _) ?_; intro w1 hown1 hg1)
  have hz : w.heap.size < w1.heap.size := by
    rcases hown1.2 with ⟨hv, _⟩ | ⟨g, cap, cur, hv, _, hg, _⟩
    · cases hv
    · have hgg : g = w.heap.size := by injection hv with hv1; injection hv1 with hv2; injection hv2 with hv3; exact hv3.symm
      subst hgg
      exact (Array.getElem?_eq_some_iff.1 hg).1
  have hb1 : Below w.heap.size w w1 := (Below.refl _ w).grown hg1 (Nat.le_refl _) (fun k e => by cases e)
  have hb2 : Below w1.heap.size w1 (w1.alloc (.cells #[.slice (some ⟨w.heap.size, 0, none⟩) n n, .int .i64 (-1), .slice none 0 0] 57)) := (Below.refl _ w1).alloc (Nat.le_refl _) _
  have hblk := Blk.new w1 57 #[.slice (some ⟨w.heap.size, 0, none⟩) n n, .int .i64 (-1), .slice none 0 0]
  have hs2 : (w1.alloc (.cells #[.slice (some ⟨w.heap.size, 0, none⟩) n n, .int .i64 (-1), .slice none 0 0] 57)).heap.size = w1.heap.size + 1 := by simp
  obtain ⟨w2, hw2⟩ : ∃ w2, w2 = w1.alloc (.cells #[.slice (some ⟨w.heap.size, 0, none⟩) n n, .int .i64 (-1), .slice none 0 0] 57) := ⟨_, rfl⟩
  rw [← hw2] at hb2 hblk hs2
  have hps : PS w2 w1.heap.size w.heap.size n n Raw.none_ (.slice none 0 0) [] := by
    have hc := hown1.cells (g := w.heap.size) rfl
    have hadd : ∀ j, (⟨w.heap.size, 0, none⟩ : Addr).add j = ⟨w.heap.size, j, none⟩ := fun j => by unfold Addr.add; split <;> simp_all
    have key : ∀ i, i < n → ∀ j u, j < 5 → (#[Value.bool false, .int .i64 0, .int .i64 0, .int .i64 0, .int .i64 0] : Array Value)[j]? = some u → w1.cell? ⟨w.heap.size, i * 5 + j, none⟩ = some u := by
      intro i hi j u hj hu
      have q := hc (i * 5 + j) u ?_
      · rw [hadd] at q; exact q
      · simp only [madeCells, Value.cells, Array.toList_map, List.getElem?_map]
        rw [show (Array.range (n * 5)).toList[i * 5 + j]? = some (i * 5 + j) from by rw [Array.toList_range, List.getElem?_range (by omega)]]
        have e : (i * 5 + j) % 5 = j := by omega
        simp only [Option.map_some, Option.some.injEq]
        rw [show (#[Value.bool false, .int .i64 0, .int .i64 0, .int .i64 0, .int .i64 0] : Array Value).size = 5 from rfl, e]
        simp only [getElem!_def, hu]
    refine ⟨⟨hblk, fun i hi => ?_, fun o => ?_, by omega, by omega, h1, h2⟩, Cut.nil _, by simp [Value.ownBlock], by simp [Value.ownBlock]⟩
    · exact (⟨key i hi 0 _ (by omega) rfl, key i hi 1 _ (by omega) rfl, key i hi 2 _ (by omega) rfl, key i hi 3 _ (by omega) rfl, key i hi 4 _ (by omega) rfl⟩ : NdAt w1 w.heap.size (i * 5) Nd.zero).block (hb2.block _ hz)
    · rcases hown1.2 with ⟨hv, _⟩ | ⟨g, cap, cur, hv, _, hg, _⟩
      · cases hv
      · have hgg : g = w.heap.size := by injection hv with hv1; injection hv1 with hv2; injection hv2 with hv3; exact hv3.symm
        subst hgg
        rw [World.frozen?_of_block (w := w1) (hb2.block _ hz)]
        simp [World.frozen?, hg]
  have e0 := hps.pf.cells.1
  have HPS := Lib.hid hps
  have HB2 := Lib.hid (hb1.trans (hb2.mono (Nat.le_of_lt hz)))
  have hfz : w.heap.size ≤ w1.heap.size := Nat.le_of_lt hz
  generalize w1.heap.size = f at *
  rw [← hw2]
  clear hown1 hg1 hb1 hb2 hblk hps hz hs2 hw2
  go_loopw [21] (fun i wr => NewAt w f w.heap.size n i wr) (fun i _ => n - (intOf i).toNat)
  case atStart => exact ⟨0, _, Nat.zero_le _, rfl, HPS.out, (fun b e => by cases e), HB2.out⟩
  case round =>
    obtain ⟨k, v, hk, rfl, hps, hv, hbr⟩ := hrel
    have HBR := Lib.hid hbr
    by_cases hlt : k < n
    · obtain ⟨A, cap, rfl⟩ := hps.cut.slice
      have hll : (nats (List.range' (n - k) k).reverse).length = k := by rw [nats_len]; simp
      have hnl := new_list hlt
      have HNL := Lib.hid hnl
      have g0 := hps.pf.cells.1
      have g2 := hps.pf.cells.2.2.1
      have gf := hps.pf.cells.2.2.2
      obtain ⟨L, hL⟩ : ∃ L, L = nats (List.range' (n - k) k).reverse := ⟨_, rfl⟩
      rw [← hL] at hps g2 hll hv
      have HV := Lib.hid hv
      have HL := Lib.hid (And.intro hL hll)
      have HQ := Lib.hid (And.intro hps.pf (And.intro hps.cut (And.intro hps.nf hps.nl)))
      have hL' := Lib.hid (show L.length < 1000000 by omega)
      clear hps hv hbr hll hnl hL
      go_wp2_with (at_builtin; refine wpList_append_cut _ rfl (.tmp 28) (.tmp 33) 29 rfl i0 rfl hi0 hz0 hz1 hz2 (.slice A L.length cap) L rfl (HQ.out.2.1.keep fun r hr => Below.heap_alloc _ _ r (HQ.out.2.1.lt r hr)) ⟨wr.heap.size, 0, none⟩ 1 ((n : Int) - 1 - k) rfl ((Blk.new wr 3 #[.int .i64 ((n : Int) - 1 - k)]).cell 0) hL'.out ?_; intro v' w7 hcut hgrow hat; obtain ⟨A7, c7, rfl⟩ := hcut.slice; (have q7 := (HQ.out.1.alloc_ (.cells #[.int .i64 ((n : Int) - 1 - k)] 3)).grown_ hgrow HQ.out.2.2.1 HQ.out.2.2.2); clear g0 g2 gf; (have g0 := q7.cells.1); (have g2 := q7.cells.2.2.1); (have gf := q7.cells.2.2.2); (have H7 := Lib.hid (And.intro q7 (And.intro hcut (And.intro hgrow hat)))); clear q7 hcut hgrow hat)
      go_roundw
      case rel =>
        obtain ⟨q7, hcut, hgrow, hat⟩ := H7.out
        have hl7 : (L ++ [(n : Int) - 1 - k]).length = L.length + 1 := by simp
        rw [hl7] at hcut hat
        have hb7 : Below w.heap.size w w7 := (HBR.out.alloc HBR.out.size (.cells #[.int .i64 ((n : Int) - 1 - k)] 3)).grown hgrow (by have := HBR.out.size; simp; omega) HV.out
        have hn7 : ∀ b, (Value.slice A7 (L.length + 1) c7).ownBlock = some b → w.heap.size ≤ b ∧ b ≠ f ∧ b ≠ w.heap.size := fun b e => by
          have hlf := HQ.out.1.head.lt
          have hlb := HQ.out.1.lt
          have hbs := HBR.out.size
          rcases hat with e2 | e2
          · rw [e2] at e
            exact ⟨HV.out b e, fun e3 => HQ.out.2.2.1 (by rw [e, e3]), fun e3 => HQ.out.2.2.2 (by rw [e, e3])⟩
          · rw [e2] at e
            simp at e
            omega
        refine ⟨k + 1, _, by omega, by go_num, ⟨q7.setFree _, ?_, fun e => (hn7 _ e).2.1 rfl, fun e => (hn7 _ e).2.2 rfl⟩, fun b e => (hn7 b e).1, hb7.setCell (p := ⟨f, 2, none⟩) ?_ _⟩
        · rw [HNL.out, ← HL.out.1]
          exact hcut.keep fun r hr => Below.heap_setCell _ ⟨f, 2, none⟩ _ r (fun e => (hn7 r hr).2.1 e)
        · exact hfz
      case measure => simp [intOf]; omega
    · have hkl : k = n := by omega
      subst hkl
      have HQ := Lib.hid hps
      have HV := Lib.hid hv
      clear hps hv hbr
      go_wp2
      go_ret2
      refine ⟨f, w.heap.size, v, rfl, ⟨⟨k, _, ?_, rep_empty k⟩, wf_empty k⟩, ?_, HBR.out⟩
      · have := HQ.out
        simpa [chain] using this
      · rintro b (e | e | e)
        · rw [e]; exact hfz
        · omega
        · exact HV.out b e
end Go.Proofs.Ytoihldagpnkfoaa
