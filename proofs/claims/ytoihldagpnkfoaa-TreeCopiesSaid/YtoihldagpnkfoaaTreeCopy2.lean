/- Copy and Same of the program's forest, by walks. Condition: the places are a forest's. -/
import Derived.Test.YtoihldagpnkfoaaTreeCopy
import Derived.Deep.RegionHeld3
import Derived.Deep.QuietTactic
import Derived.BigQuiet
import Derived.Laws.StructEq
import Derived.ChangeKeysEq
namespace Go.Proofs.Ytoihldagpnkfoaa
open Go.RowKit
set_option linter.unusedVariables false
set_option linter.unusedSimpArgs false

/-- A clone of all places. -/
def NewN (w : World) (R : Raw) (n g c : Nat) (W : World) : Prop := Below w.heap.size w W ∧ w.heap.size ≤ g ∧ g < W.heap.size ∧ W.ownsRow w.heap.size 61 5 (.slice (some ⟨g, 0, none⟩) n c) n (R.vs n)
/-- A clone of the free numbers. -/
def NewI (w : World) (L : List Int) (v : Value) (W : World) : Prop := Below w.heap.size w W ∧ (∀ b, v.ownBlock = some b → w.heap.size ≤ b ∧ b < W.heap.size) ∧ W.ownsRow w.heap.size 3 1 v L.length (intV L)
theorem NewN.below {w W W' : World} {R : Raw} {n g c : Nat} (h : NewN w R n g c W) (hb : Below W.heap.size W W') : NewN w R n g c W' :=
  ⟨h.1.trans (hb.mono h.1.size), h.2.1, Nat.lt_of_lt_of_le h.2.2.1 hb.size, below_own h.2.2.2 hb⟩
theorem NewI.below {w W W' : World} {L : List Int} {v : Value} (h : NewI w L v W) (hb : Below W.heap.size W W') : NewI w L v W' :=
  ⟨h.1.trans (hb.mono h.1.size), fun b e => ⟨(h.2.1 b e).1, Nat.lt_of_lt_of_le (h.2.1 b e).2 hb.size⟩, below_own h.2.2 hb⟩

theorem Nd.vs_at (x : Nd) : x.vs[0]? = some (.bool x.t) ∧ x.vs[1]? = some (.int .i64 x.u) ∧ x.vs[2]? = some (.int .i64 x.d) ∧ x.vs[3]? = some (.int .i64 x.l) ∧ x.vs[4]? = some (.int .i64 x.r) := ⟨rfl, rfl, rfl, rfl, rfl⟩
/-- The two clones and the new block are a forest. -/
theorem copy_fin {w W : World} {f lb n lc g c : Nat} {R : Raw} {fv v : Value} {L : List Int} (h : PF w f lb n lc R fv) (hN : NewN w R n g c W) (hI : NewI w L v W) :
    PS (W.alloc (.cells #[.slice (some ⟨g, 0, none⟩) n c, .int .i64 R.first, v] 57)) W.heap.size g n c R v L := by
  obtain ⟨_, hg1, hg2, hown⟩ := hN
  obtain ⟨_, hi, howni⟩ := hI
  have hb : Below W.heap.size W (W.alloc (.cells #[.slice (some ⟨g, 0, none⟩) n c, .int .i64 R.first, v] 57)) := (Below.refl _ W).alloc (Nat.le_refl _) _
  have hadd : ∀ j, (⟨g, 0, none⟩ : Addr).add j = ⟨g, j, none⟩ := fun j => by unfold Addr.add; split <;> simp_all
  have hc := hown.cells (g := g) rfl
  have key : ∀ i, i < n → ∀ j u, j < 5 → (R.M i).vs[j]? = some u → W.cell? ⟨g, i * 5 + j, none⟩ = some u := by
    intro i hi j u hj hu
    have q := hc (i * 5 + j) u (by rw [vs_at R n i j hi hj]; exact hu)
    rw [hadd] at q
    exact q
  refine ⟨⟨Blk.new W _ _, fun i hi' => ?_, fun o => ?_, by omega, by simp; omega, h.n1, h.n2⟩, Cut.own (below_own howni hb), fun e => ?_, fun e => ?_⟩
  · obtain ⟨q0, q1, q2, q3, q4⟩ := Nd.vs_at (R.M i)
    exact (⟨key i hi' 0 _ (by omega) q0, key i hi' 1 _ (by omega) q1, key i hi' 2 _ (by omega) q2, key i hi' 3 _ (by omega) q3, key i hi' 4 _ (by omega) q4⟩ : NdAt W g (i * 5) (R.M i)).block (hb.block _ hg2)
  · rw [World.frozen?_of_block (w := W) (hb.block _ hg2)]
    rcases hown.2 with ⟨hv, _⟩ | ⟨g', cap, cur, hv, _, hg, _⟩
    · cases hv
    · have hgg : g' = g := by injection hv with hv1; injection hv1 with hv2; injection hv2 with hv3; exact hv3.symm
      subst hgg
      simp [World.frozen?, hg]
  · have := hi _ e
    omega
  · rcases hown.2 with ⟨hv, _⟩ | ⟨g', cap, cur, hv, _, hg, _⟩
    · cases hv
    · have hgg : g' = g := by injection hv with hv1; injection hv1 with hv2; injection hv2 with hv3; exact hv3.symm
      subst hgg
      exact own_blk_ne (t := 61) (cs := cur) howni hg (by decide) e

set_option maxRecDepth 100000 in
set_option maxHeartbeats 4000000 in
theorem copy_ps {w : World} {f lb n lc : Nat} {R : Raw} {v : Value} {L : List Int} (h : PS w f lb n lc R v L) (hL : L.length ≤ 4096) :
    Calls Try.prog 20 #[.pointer (some ⟨f, 0, none⟩)] w fun e w' => ∃ f' lb' lc' v', e = .returned (.pointer (some ⟨f', 0, none⟩)) ∧ PS w' f' lb' n lc' R v' L ∧ (∀ k, own3 f' lb' v' k → w.heap.size ≤ k) ∧ Below w.heap.size w w' := by
  obtain ⟨A, cap, rfl⟩ := h.cut.slice
  have hpf := h.pf
  have CN := nothing_is hpf
  obtain ⟨d0, d1, d2, _⟩ := hpf.cells
  have hn1 := hpf.n1
  have hn2 := hpf.n2
  have hff := hpf.head.lt
  have CC : ∀ W, Below w.heap.size w W → Calls Try.prog 44 #[.slice (some ⟨lb, 0, none⟩) n lc] W fun e W' => (∃ g c, e = .returned (.slice (some ⟨g, 0, none⟩) n c) ∧ NewN w R n g c W') ∧ Below W.heap.size W W' := by
    intro W hW
    refine (cloneN_is ⟨lb, 0, none⟩ W.heap.size n lc (R.vs n) W (reads_places (hpf.below hW)) (Nat.le_refl _) (vs_one R n) hn2).mono ?_
    rintro e W' ⟨v, rfl, ho, hb⟩
    obtain ⟨g, c, rfl, hg1, hg2⟩ := ho.form hn1
    exact ⟨⟨g, c, rfl, hW.trans (hb.mono hW.size), by have := hW.size; omega, hg2, own_mono ho hW.size⟩, hb⟩
  have CI : ∀ W, Below w.heap.size w W → Calls Try.prog 45 #[.slice A L.length cap] W fun e W' => (∃ A' c, e = .returned (.slice A' L.length c) ∧ NewI w L (.slice A' L.length c) W') ∧ Below W.heap.size W W' := by
    intro W hW
    refine (cloneI_is A L.length cap L W (h.cut.below hW) hL).mono ?_
    rintro e W' ⟨v, rfl, ho, hb⟩
    obtain ⟨A', c, rfl⟩ := own_slice ho
    exact ⟨⟨A', c, rfl, hW.trans (hb.mono hW.size), fun b e => by have := ho.lt b e; have := hW.size; omega, own_mono ho hW.size⟩, hb⟩
  have hcell : ∀ W, Below w.heap.size w W → W.cell? ⟨f, 0, none⟩ = some (.slice (some ⟨lb, 0, none⟩) n lc) ∧ W.cell? ⟨f, 1, none⟩ = some (.int .i64 R.first) ∧ W.cell? ⟨f, 2, none⟩ = some (.slice A L.length cap) := fun W hW => ⟨(hpf.below hW).cells.1, (hpf.below hW).cells.2.1, (hpf.below hW).cells.2.2.1⟩
  have HCL := Lib.hid hcell
  have HCC := Lib.hid CC
  have HCI := Lib.hid CI
  have HPF := Lib.hid hpf
  obtain ⟨fi, hfi⟩ : ∃ fi, fi = R.first := ⟨_, rfl⟩
  have HFI := Lib.hid hfi
  rw [← hfi] at d1 HCL
  clear hfi
  clear h hpf CC CI hcell
  go_enter Try.func20, Try.ntmps20
  go_wp2_with (go_at_call 32; refine CN.mono ?_; rintro e w' ⟨rfl, rfl⟩)
  go_region_held3 (fun w' => w'.cell? ⟨f, 0, none⟩ = some (.slice (some ⟨lb, 0, none⟩) n lc) ∧ w'.cell? ⟨f, 1, none⟩ = some (.int .i64 fi) ∧ w'.cell? ⟨f, 2, none⟩ = some (.slice A L.length cap)) (go_keep) (first
    | (go_at_call 44; (have := HNI); (refine (HCC.out _ HNI.out.1).mono ?_; rintro e w3 ⟨⟨g, c, rfl, hnn⟩, hb3⟩; (have HNI3 := Lib.hid (HNI.out.below hb3)); (obtain ⟨hx0, hx1, hx2⟩ := HCL.out w3 hnn.1); (have HNN := Lib.hid hnn); clear hnn hb3))
    | (go_at_call 44; (refine (HCC.out _ ((Below.refl w.heap.size w).drew)).mono ?_; rintro e w2 ⟨⟨g, c, rfl, hnn⟩, hb2⟩; (obtain ⟨hx0, hx1, hx2⟩ := HCL.out w2 hnn.1); (have HNN := Lib.hid hnn); clear hnn hb2))
    | (go_at_call 45; (have := HNN); (refine (HCI.out _ HNN.out.1).mono ?_; rintro e w3 ⟨⟨A', c', rfl, hni⟩, hb3⟩; (have HNN3 := Lib.hid (HNN.out.below hb3)); (obtain ⟨hx0, hx1, hx2⟩ := HCL.out w3 hni.1); (have HNI := Lib.hid hni); clear hni hb3))
    | (go_at_call 45; (refine (HCI.out _ ((Below.refl w.heap.size w).drew)).mono ?_; rintro e w2 ⟨⟨A', c', rfl, hni⟩, hb2⟩; (obtain ⟨hx0, hx1, hx2⟩ := HCL.out w2 hni.1); (have HNI := Lib.hid hni); clear hni hb2)))
  all_goals
    go_wp2
    go_ret
    have hN : ∃ W, NewN w R n g c W ∧ NewI w L (.slice A' L.length c') W := by
      first
        | exact ⟨_, HNN.out, HNI3.out⟩
        | exact ⟨_, HNN3.out, HNI.out⟩
    first
      | (have hq := copy_fin HPF.out HNN.out HNI3.out
         rw [← HFI.out] at hq
         refine ⟨_, g, c, _, rfl, hq, ?_, HNN.out.1.alloc HNN.out.1.size _⟩
         rintro k (e | e | e)
         · rw [e]; exact HNN.out.1.size
         · rw [e]; exact HNN.out.2.1
         · exact (HNI3.out.2.1 k e).1)
      | (have hq := copy_fin HPF.out HNN3.out HNI.out
         rw [← HFI.out] at hq
         refine ⟨_, g, c, _, rfl, hq, ?_, HNI.out.1.alloc HNI.out.1.size _⟩
         rintro k (e | e | e)
         · rw [e]; exact HNI.out.1.size
         · rw [e]; exact HNN3.out.2.1
         · exact (HNI.out.2.1 k e).1)

theorem copy_is {w : World} {f lb : Nat} {v : Value} {F : Fo} (h : Prg w f lb v F) :
    Calls Try.prog 20 #[.pointer (some ⟨f, 0, none⟩)] w fun e w' => ∃ f' lb' v', e = .returned (.pointer (some ⟨f', 0, none⟩)) ∧ Prg w' f' lb' v' F ∧ (∀ k, own3 f' lb' v' k → w.heap.size ≤ k) ∧ Below w.heap.size w w' := by
  obtain ⟨lc, R, hp, hR⟩ := h.ps
  refine (copy_ps hp (by rw [nats_len]; exact Nat.le_trans (free_le h.wf) hp.pf.n2)).mono ?_
  rintro e w' ⟨f', lb', lc', v', he, h1, h2, h3⟩
  exact ⟨f', lb', v', he, ⟨⟨lc', R, h1, hR⟩, h.wf⟩, h2, h3⟩

/-- Two places the same. -/
def ndB (a b : Nd) : Bool := (a.t == b.t) && (a.u == b.u) && (a.d == b.d) && (a.l == b.l) && (a.r == b.r)
theorem ndB_iff (a b : Nd) : ndB a b = true ↔ a = b := by
  obtain ⟨a0, a1, a2, a3, a4⟩ := a
  obtain ⟨b0, b1, b2, b3, b4⟩ := b
  simp [ndB, and_assoc]
theorem ftNode : (Try.prog.fieldsOf 61).toList = [⟨"there", 4, 0, false, "", "helmsman/tree", 0⟩, ⟨"up", 3, 1, false, "", "helmsman/tree", 8⟩, ⟨"down", 3, 2, false, "", "helmsman/tree", 16⟩, ⟨"left", 3, 3, false, "", "helmsman/tree", 24⟩, ⟨"right", 3, 4, false, "", "helmsman/tree", 32⟩] := by kernel_rfl
theorem uNode : Try.prog.underlying 61 = some (.struct (Try.prog.fieldsOf 61)) := by kernel_rfl
theorem sNode : Try.prog.stoodInHeld 61 = false := by kernel_rfl
theorem uInt : Try.prog.underlying 3 = some (.int .i64) := by kernel_rfl
theorem uBool : Try.prog.underlying 4 = some .bool := by kernel_rfl
theorem part_i {P : Program} {e : TypeId} {k : IntKind} {xs : Array Value} {off : Nat} {v : Value} (w : World) (hu : P.underlying e = some (.int k)) (hx : xs[off]? = some v) : (part e xs off).run P w = .ok v w := by
  simp [part, isAgg, run_underlying hu, hx]
theorem part_b {P : Program} {e : TypeId} {xs : Array Value} {off : Nat} {v : Value} (w : World) (hu : P.underlying e = some .bool) (hx : xs[off]? = some v) : (part e xs off).run P w = .ok v w := by
  simp [part, isAgg, run_underlying hu, hx]
theorem eq_i {P : Program} {k k' : IntKind} {t : TypeId} (d : Nat) (hu : P.underlying t = some (.int k')) (w : World) (a b : Int) : (Op.equalIn (d + 1) t (.int k a) (.int k b)).run P w = .ok (a == b) w := run_equalIn_int w d t k k' a b hu
theorem eq_b {P : Program} {t : TypeId} (d : Nat) (hu : P.underlying t = some .bool) (w : World) (a b : Bool) : (Op.equalIn (d + 1) t (.bool a) (.bool b)).run P w = .ok (a == b) w := by
  simp [Op.equalIn, run_underlying hu]
theorem run_node (d : Nat) (a b : Nd) (w : World) : (Op.equalIn (d + 2) 61 (.agg a.cs) (.agg b.cs)).run Try.prog w = .ok (ndB a b) w := by
  rw [run_equalIn_agg w (d + 1) _ _ _ uNode sNode, ftNode]
  simp only [Op.eqFields, ne_eq, String.reduceEq, not_false_eq_true, if_true, Sem.run_bind, Sem.run_ite, Sem.run_pure, part_b (P := Try.prog) w uBool (xs := a.cs) (off := 0) (v := .bool a.t) rfl, part_b (P := Try.prog) w uBool (xs := b.cs) (off := 0) (v := .bool b.t) rfl,
    part_i (P := Try.prog) w uInt (xs := a.cs) (off := 1) (v := .int .i64 a.u) rfl, part_i (P := Try.prog) w uInt (xs := b.cs) (off := 1) (v := .int .i64 b.u) rfl,
    part_i (P := Try.prog) w uInt (xs := a.cs) (off := 2) (v := .int .i64 a.d) rfl, part_i (P := Try.prog) w uInt (xs := b.cs) (off := 2) (v := .int .i64 b.d) rfl,
    part_i (P := Try.prog) w uInt (xs := a.cs) (off := 3) (v := .int .i64 a.l) rfl, part_i (P := Try.prog) w uInt (xs := b.cs) (off := 3) (v := .int .i64 b.l) rfl,
    part_i (P := Try.prog) w uInt (xs := a.cs) (off := 4) (v := .int .i64 a.r) rfl, part_i (P := Try.prog) w uInt (xs := b.cs) (off := 4) (v := .int .i64 b.r) rfl,
    eq_i (P := Try.prog) (k := .i64) d uInt w, eq_b (P := Try.prog) d uBool w, Result.andThen_ok]
  unfold ndB
  cases (a.t == b.t) <;> cases (a.u == b.u) <;> cases (a.d == b.d) <;> cases (a.l == b.l) <;> cases (a.r == b.r) <;> simp
theorem node_neq (a b : Nd) (w : World) : (binOp .neq 61 (.agg a.cs) (.agg b.cs)).run Try.prog w = .ok (.bool (!ndB a b)) w := by
  rw [run_neq_struct, run_node 9998, Result.andThen_ok]
end Go.Proofs.Ytoihldagpnkfoaa
