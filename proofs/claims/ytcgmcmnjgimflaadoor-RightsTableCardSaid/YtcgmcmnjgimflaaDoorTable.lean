/- The table of what calls demand, by walks: one, two, the table, Demands, Args. -/
import Derived.Test.YtcgmcmnjgimflaaDoorIntMap
import Derived.Test.YtcgmcmnjgimflaaDoorNamesWalks
import Derived.Laws.StructEq
import Derived.Deep.QuietTactic
import Derived.BigQuiet
import Derived.Deep.AppendLies
namespace Go.Proofs.YtcgmcmnjgimflaaDoor
open Go.RowKit
set_option linter.unusedVariables false
set_option linter.unusedSimpArgs false

/-- A demand: of which argument, which kind, which rights. -/
structure Nd where
  ar : Int
  kd : Int
  rt : Int
deriving DecidableEq
def Nd.vs (x : Nd) : List Value := [.int .i64 x.ar, .int .i64 x.kd, .int .u8 x.rt]
/-- What a row of the published table demands. -/
def needs (k : Nat) : List Nd :=
  match rowT k with
  | [_, b, c, d, e] => (if 0 ≤ b then [⟨0, b, c⟩] else []) ++ (if 0 ≤ d then [⟨1, d, e⟩] else [])
  | _ => []

theorem infoNd : (Tryd.prog.info? 40).map (fun i => (i.zero, i.size, i.bytes)) = some (some (.agg #[.int .i64 0, .int .i64 0, .int .u8 0]), 3, 24) := by kernel_rfl

/-- A row of demands of the call's own. -/
def NdOwn (w : World) (B : Nat) (v : Value) (L : List Nd) : Prop := w.ownsRow B 40 3 v L.length (L.flatMap Nd.vs)

theorem NdOwn.below {w w' : World} {B : Nat} {v : Value} {L : List Nd} (h : NdOwn w B v L) (hb : Below w.heap.size w w') : NdOwn w' B v L := by
  refine ⟨h.1, ?_⟩
  rcases h.2 with hn | ⟨g, cap, cur, hv, hbg, hg, rest⟩
  · exact .inl hn
  · exact .inr ⟨g, cap, cur, hv, hbg, (hb.block g (Array.getElem?_eq_some_iff.1 hg).1).trans hg, rest⟩
theorem NdOwn.mono {w : World} {B B' : Nat} {v : Value} {L : List Nd} (h : NdOwn w B v L) (hB : B' ≤ B) : NdOwn w B' v L := by
  refine ⟨h.1, ?_⟩
  rcases h.2 with hn | ⟨g, cap, cur, hv, hbg, rest⟩
  · exact .inl hn
  · exact .inr ⟨g, cap, cur, hv, Nat.le_trans hB hbg, rest⟩
theorem NdOwn.grown {w w' : World} {B m : Nat} {v : Value} {L : List Nd} (h : NdOwn w B v L) (hg : w.grownBy w' (some m)) {kd : IntKind} {M : List (Int × Value)} (hm : MapAt w m kd M) : NdOwn w' B v L := by
  refine ⟨h.1, ?_⟩
  rcases h.2 with hn | ⟨g, cap, cur, hv, hbg, hb, rest⟩
  · exact .inl hn
  · refine .inr ⟨g, cap, cur, hv, hbg, (hg.block g (Array.getElem?_eq_some_iff.1 hb).1 (fun e => ?_)).trans hb, rest⟩
    obtain ⟨es, c, h1, _⟩ := hm
    injection e with e
    rw [e, h1] at hb
    cases hb

set_option maxHeartbeats 400000 in
theorem one_is (k r : Int) (w : World) : Calls Tryd.prog 18 #[.int .i64 k, .int .u8 r] w fun e w' => e = .returned (.slice (some ⟨w.heap.size, 0, none⟩) 1 1) ∧ w' = w.alloc (.cells #[.int .i64 0, .int .i64 k, .int .u8 r] 40) := by
  go_enter Tryd.func18, Tryd.ntmps18
  go_wp2
  go_ret
  exact ⟨rfl, rfl⟩

theorem own_one (k r : Int) (w : World) : NdOwn (w.alloc (.cells #[.int .i64 0, .int .i64 k, .int .u8 r] 40)) w.heap.size (.slice (some ⟨w.heap.size, 0, none⟩) 1 1) [⟨0, k, r⟩] :=
  ⟨rfl, .inr ⟨_, 1, _, rfl, Nat.le_refl _, heap_alloc_new w _, Nat.le_refl _, by unfold maxLen; omega, rfl, rfl⟩⟩

theorem news3 (w : World) (a b c : Value) (t : TypeId) : ∀ j u, [a, b, c][j]? = some u → (w.alloc (.cells #[a, b, c] t)).cell? ((⟨w.heap.size, 0, none⟩ : Addr).add j) = some u := by
  intro j u hj
  have hadd : (⟨w.heap.size, 0, none⟩ : Addr).add j = ⟨w.heap.size, j, none⟩ := by unfold Addr.add; split <;> simp_all
  rw [hadd]
  unfold World.cell?
  simp only [Option.isSome_none, Bool.false_eq_true, if_false, heap_alloc_new]
  rw [← hj, ← Array.getElem?_toList]

theorem nd_one (x : Nd) : ∀ u ∈ x.vs, u.oneCell' = true := by
  intro u hu
  simp only [Nd.vs, List.mem_cons, List.not_mem_nil, or_false] at hu
  rcases hu with rfl | rfl | rfl <;> rfl

set_option maxHeartbeats 1000000 in
theorem two_is (k r k' r' : Int) (w : World) : Calls Tryd.prog 17 #[.int .i64 k, .int .u8 r, .int .i64 k', .int .u8 r'] w fun e w' => ∃ v, e = .returned v ∧ NdOwn w' w.heap.size v [⟨0, k, r⟩, ⟨1, k', r'⟩] ∧ Below w.heap.size w w' := by
  obtain ⟨i0, hi, hz0, hz1, hz2⟩ := info_parts infoNd
  have C := one_is k r w
  have hb1 := (Below.refl w.heap.size w).alloc (Nat.le_refl _) (.cells #[.int .i64 0, .int .i64 k, .int .u8 r] 40)
  have ho := own_one k r w
  generalize w.alloc (.cells #[.int .i64 0, .int .i64 k, .int .u8 r] 40) = w1 at *
  go_enter Tryd.func17, Tryd.ntmps17
  go_wp2_with (first | (go_at_call 18; refine C.mono ?_; rintro e w2 ⟨rfl, rfl⟩) | (at_builtin; refine wpList_append_own _ rfl _ _ 32 rfl w.heap.size 40 i0 (.agg #[.int .i64 0, .int .i64 0, .int .u8 0]) 3 24 Tryd.underlying32 hi hz0 hz1 hz2 rfl (by decide) _ _ _ rfl (NdOwn.below ho ((Below.refl _ _).alloc (Nat.le_refl _) _)) ⟨w2.heap.size, 0, none⟩ 1 1 (Nd.vs ⟨1, k', r'⟩) rfl rfl (news3 _ _ _ _ _) (nd_one _) (by unfold maxLen; simp) (by simp) (by have := hb1.size; simp; omega) ?_; intro v' w3 hown' hgrow _))
  go_ret
  refine ⟨_, rfl, hown', (hb1.alloc hb1.size _).grown hgrow (by have := hb1.size; simp; omega) (fun j hj => (World.ownsRow.lt ho j hj).1)⟩

/-- The table so far. -/
def Tab (w : World) (B m : Nat) (L : List (Int × Value)) : Prop := MapAt w m .i64 L ∧ B ≤ m ∧ ∀ p ∈ L, NdOwn w B p.2 (needs p.1.toNat)
theorem Tab.below {w w' : World} {B m : Nat} {L : List (Int × Value)} (h : Tab w B m L) (hb : Below w.heap.size w w') : Tab w' B m L := ⟨h.1.below hb h.1.lt, h.2.1, fun p hp => (h.2.2 p hp).below hb⟩
theorem Tab.put {w w' : World} {B m : Nat} {L : List (Int × Value)} (h : Tab w B m L) {k : Int} {v : Value} (hv : NdOwn w B v (needs k.toNat)) (hm : MapAt w' m .i64 (L ++ [(k, v)])) (hg : w.grownBy w' (some m)) : Tab w' B m (L ++ [(k, v)]) :=
  ⟨hm, h.2.1, fun p hp => by
    rcases List.mem_append.1 hp with hp | hp
    · exact (h.2.2 p hp).grown hg h.1
    · simp only [List.mem_singleton] at hp
      subst hp
      exact hv.grown hg h.1⟩

set_option maxRecDepth 100000 in
set_option maxHeartbeats 4000000 in
theorem table_is (w : World) : Calls Tryd.prog 16 #[] w fun e w' => ∃ m L, e = .returned (.map (some m)) ∧ Tab w' w.heap.size m L ∧ L.map (·.1) = [5, 6, 7, 8, 9, 10, 11, 12, 13, 14, 15, 16, 17, 18, 19, 20, 21, 22] ∧ Below w.heap.size w w' := by
  have hmm := @run_makeMap Tryd.prog
  go_enter Tryd.func16, Tryd.ntmps16
  -- ROWS
  go_wp2_with fail
  have T : Tab (w.alloc (.map #[] 0)) w.heap.size w.heap.size [] := ⟨MapAt.new w _, Nat.le_refl _, fun p hp => by cases hp⟩
  have B := (Below.refl w.heap.size w).alloc (Nat.le_refl _) (.map #[] 0)
  obtain ⟨m, hm⟩ : ∃ m, m = w.heap.size := ⟨_, rfl⟩
  rw [← hm] at T
  have T0 : Tab (w.alloc (.map #[] 0)) w.heap.size m [] := by rw [hm] at T ⊢; exact T
  have HM := Lib.hid hm
  simp only [← hm]
  clear T hm hmm
  generalize w.alloc (.map #[] 0) = w0 at *
  refine (two_is 3 1 2 32 _).mono ?_
  rintro e wA ⟨v5, rfl, ho, hb⟩
  have T1 := T0.below hb
  have B1 := B.trans (hb.mono B.size)
  have hv : NdOwn wA w.heap.size v5 (needs (Int.toNat 5)) := ho.mono B.size
  clear T0 B ho hb
  go_wp2_with (refine wpList_plain rfl fun K hK => ?_; refine wp_insert_int Tryd.underlying47 Tryd.underlying23 (.tmp 1) _ (.tmp 2) rfl (m := m) rfl rfl rfl T1.1 (by rfl) ?_; intro w1 hM hG; refine hK _ _ ?_)
  have T0 := T1.put hv hM hG
  have B := B1.grown hG B1.size (fun j e => by cases e; rw [HM.out]; exact Nat.le_refl _)
  clear T1 B1 hv hM hG
  refine (one_is 1 2 _).mono ?_
  rintro e wA ⟨rfl, hwA⟩
  have ho := own_one 1 2 w1
  have hb := (Below.refl w1.heap.size w1).alloc (Nat.le_refl _) (.cells #[.int .i64 0, .int .i64 1, .int .u8 2] 40)
  rw [← hwA] at ho hb
  clear hwA
  have T1 := T0.below hb
  have B1 := B.trans (hb.mono B.size)
  have hv : NdOwn wA w.heap.size (.slice (some ⟨w1.heap.size, 0, none⟩) 1 1) (needs (Int.toNat 6)) := ho.mono B.size
  clear T0 B ho hb
  go_wp2_with (refine wpList_plain rfl fun K hK => ?_; refine wp_insert_int Tryd.underlying47 Tryd.underlying23 (.tmp 1) _ (.tmp 3) rfl (m := m) rfl rfl rfl T1.1 (by rfl) ?_; intro w2 hM hG; refine hK _ _ ?_)
  have T0 := T1.put hv hM hG
  have B := B1.grown hG B1.size (fun j e => by cases e; rw [HM.out]; exact Nat.le_refl _)
  clear T1 B1 hv hM hG
  refine (one_is 1 4 _).mono ?_
  rintro e wA ⟨rfl, hwA⟩
  have ho := own_one 1 4 w2
  have hb := (Below.refl w2.heap.size w2).alloc (Nat.le_refl _) (.cells #[.int .i64 0, .int .i64 1, .int .u8 4] 40)
  rw [← hwA] at ho hb
  clear hwA
  have T1 := T0.below hb
  have B1 := B.trans (hb.mono B.size)
  have hv : NdOwn wA w.heap.size (.slice (some ⟨w2.heap.size, 0, none⟩) 1 1) (needs (Int.toNat 7)) := ho.mono B.size
  clear T0 B ho hb
  go_wp2_with (refine wpList_plain rfl fun K hK => ?_; refine wp_insert_int Tryd.underlying47 Tryd.underlying23 (.tmp 1) _ (.tmp 4) rfl (m := m) rfl rfl rfl T1.1 (by rfl) ?_; intro w3 hM hG; refine hK _ _ ?_)
  have T0 := T1.put hv hM hG
  have B := B1.grown hG B1.size (fun j e => by cases e; rw [HM.out]; exact Nat.le_refl _)
  clear T1 B1 hv hM hG
  refine (one_is 1 8 _).mono ?_
  rintro e wA ⟨rfl, hwA⟩
  have ho := own_one 1 8 w3
  have hb := (Below.refl w3.heap.size w3).alloc (Nat.le_refl _) (.cells #[.int .i64 0, .int .i64 1, .int .u8 8] 40)
  rw [← hwA] at ho hb
  clear hwA
  have T1 := T0.below hb
  have B1 := B.trans (hb.mono B.size)
  have hv : NdOwn wA w.heap.size (.slice (some ⟨w3.heap.size, 0, none⟩) 1 1) (needs (Int.toNat 8)) := ho.mono B.size
  clear T0 B ho hb
  go_wp2_with (refine wpList_plain rfl fun K hK => ?_; refine wp_insert_int Tryd.underlying47 Tryd.underlying23 (.tmp 1) _ (.tmp 5) rfl (m := m) rfl rfl rfl T1.1 (by rfl) ?_; intro w4 hM hG; refine hK _ _ ?_)
  have T0 := T1.put hv hM hG
  have B := B1.grown hG B1.size (fun j e => by cases e; rw [HM.out]; exact Nat.le_refl _)
  clear T1 B1 hv hM hG
  refine (one_is 1 8 _).mono ?_
  rintro e wA ⟨rfl, hwA⟩
  have ho := own_one 1 8 w4
  have hb := (Below.refl w4.heap.size w4).alloc (Nat.le_refl _) (.cells #[.int .i64 0, .int .i64 1, .int .u8 8] 40)
  rw [← hwA] at ho hb
  clear hwA
  have T1 := T0.below hb
  have B1 := B.trans (hb.mono B.size)
  have hv : NdOwn wA w.heap.size (.slice (some ⟨w4.heap.size, 0, none⟩) 1 1) (needs (Int.toNat 9)) := ho.mono B.size
  clear T0 B ho hb
  go_wp2_with (refine wpList_plain rfl fun K hK => ?_; refine wp_insert_int Tryd.underlying47 Tryd.underlying23 (.tmp 1) _ (.tmp 6) rfl (m := m) rfl rfl rfl T1.1 (by rfl) ?_; intro w5 hM hG; refine hK _ _ ?_)
  have T0 := T1.put hv hM hG
  have B := B1.grown hG B1.size (fun j e => by cases e; rw [HM.out]; exact Nat.le_refl _)
  clear T1 B1 hv hM hG
  refine (one_is 1 16 _).mono ?_
  rintro e wA ⟨rfl, hwA⟩
  have ho := own_one 1 16 w5
  have hb := (Below.refl w5.heap.size w5).alloc (Nat.le_refl _) (.cells #[.int .i64 0, .int .i64 1, .int .u8 16] 40)
  rw [← hwA] at ho hb
  clear hwA
  have T1 := T0.below hb
  have B1 := B.trans (hb.mono B.size)
  have hv : NdOwn wA w.heap.size (.slice (some ⟨w5.heap.size, 0, none⟩) 1 1) (needs (Int.toNat 10)) := ho.mono B.size
  clear T0 B ho hb
  go_wp2_with (refine wpList_plain rfl fun K hK => ?_; refine wp_insert_int Tryd.underlying47 Tryd.underlying23 (.tmp 1) _ (.tmp 7) rfl (m := m) rfl rfl rfl T1.1 (by rfl) ?_; intro w6 hM hG; refine hK _ _ ?_)
  have T0 := T1.put hv hM hG
  have B := B1.grown hG B1.size (fun j e => by cases e; rw [HM.out]; exact Nat.le_refl _)
  clear T1 B1 hv hM hG
  refine (two_is 1 32 2 32 _).mono ?_
  rintro e wA ⟨v11, rfl, ho, hb⟩
  have T1 := T0.below hb
  have B1 := B.trans (hb.mono B.size)
  have hv : NdOwn wA w.heap.size v11 (needs (Int.toNat 11)) := ho.mono B.size
  clear T0 B ho hb
  go_wp2_with (refine wpList_plain rfl fun K hK => ?_; refine wp_insert_int Tryd.underlying47 Tryd.underlying23 (.tmp 1) _ (.tmp 8) rfl (m := m) rfl rfl rfl T1.1 (by rfl) ?_; intro w7 hM hG; refine hK _ _ ?_)
  have T0 := T1.put hv hM hG
  have B := B1.grown hG B1.size (fun j e => by cases e; rw [HM.out]; exact Nat.le_refl _)
  clear T1 B1 hv hM hG
  refine (one_is 0 64 _).mono ?_
  rintro e wA ⟨rfl, hwA⟩
  have ho := own_one 0 64 w7
  have hb := (Below.refl w7.heap.size w7).alloc (Nat.le_refl _) (.cells #[.int .i64 0, .int .i64 0, .int .u8 64] 40)
  rw [← hwA] at ho hb
  clear hwA
  have T1 := T0.below hb
  have B1 := B.trans (hb.mono B.size)
  have hv : NdOwn wA w.heap.size (.slice (some ⟨w7.heap.size, 0, none⟩) 1 1) (needs (Int.toNat 12)) := ho.mono B.size
  clear T0 B ho hb
  go_wp2_with (refine wpList_plain rfl fun K hK => ?_; refine wp_insert_int Tryd.underlying47 Tryd.underlying23 (.tmp 1) _ (.tmp 9) rfl (m := m) rfl rfl rfl T1.1 (by rfl) ?_; intro w8 hM hG; refine hK _ _ ?_)
  have T0 := T1.put hv hM hG
  have B := B1.grown hG B1.size (fun j e => by cases e; rw [HM.out]; exact Nat.le_refl _)
  clear T1 B1 hv hM hG
  refine (one_is 0 64 _).mono ?_
  rintro e wA ⟨rfl, hwA⟩
  have ho := own_one 0 64 w8
  have hb := (Below.refl w8.heap.size w8).alloc (Nat.le_refl _) (.cells #[.int .i64 0, .int .i64 0, .int .u8 64] 40)
  rw [← hwA] at ho hb
  clear hwA
  have T1 := T0.below hb
  have B1 := B.trans (hb.mono B.size)
  have hv : NdOwn wA w.heap.size (.slice (some ⟨w8.heap.size, 0, none⟩) 1 1) (needs (Int.toNat 13)) := ho.mono B.size
  clear T0 B ho hb
  go_wp2_with (refine wpList_plain rfl fun K hK => ?_; refine wp_insert_int Tryd.underlying47 Tryd.underlying23 (.tmp 1) _ (.tmp 10) rfl (m := m) rfl rfl rfl T1.1 (by rfl) ?_; intro w9 hM hG; refine hK _ _ ?_)
  have T0 := T1.put hv hM hG
  have B := B1.grown hG B1.size (fun j e => by cases e; rw [HM.out]; exact Nat.le_refl _)
  clear T1 B1 hv hM hG
  refine (one_is 0 0 _).mono ?_
  rintro e wA ⟨rfl, hwA⟩
  have ho := own_one 0 0 w9
  have hb := (Below.refl w9.heap.size w9).alloc (Nat.le_refl _) (.cells #[.int .i64 0, .int .i64 0, .int .u8 0] 40)
  rw [← hwA] at ho hb
  clear hwA
  have T1 := T0.below hb
  have B1 := B.trans (hb.mono B.size)
  have hv : NdOwn wA w.heap.size (.slice (some ⟨w9.heap.size, 0, none⟩) 1 1) (needs (Int.toNat 14)) := ho.mono B.size
  clear T0 B ho hb
  go_wp2_with (refine wpList_plain rfl fun K hK => ?_; refine wp_insert_int Tryd.underlying47 Tryd.underlying23 (.tmp 1) _ (.tmp 11) rfl (m := m) rfl rfl rfl T1.1 (by rfl) ?_; intro w10 hM hG; refine hK _ _ ?_)
  have T0 := T1.put hv hM hG
  have B := B1.grown hG B1.size (fun j e => by cases e; rw [HM.out]; exact Nat.le_refl _)
  clear T1 B1 hv hM hG
  refine (one_is 0 0 _).mono ?_
  rintro e wA ⟨rfl, hwA⟩
  have ho := own_one 0 0 w10
  have hb := (Below.refl w10.heap.size w10).alloc (Nat.le_refl _) (.cells #[.int .i64 0, .int .i64 0, .int .u8 0] 40)
  rw [← hwA] at ho hb
  clear hwA
  have T1 := T0.below hb
  have B1 := B.trans (hb.mono B.size)
  have hv : NdOwn wA w.heap.size (.slice (some ⟨w10.heap.size, 0, none⟩) 1 1) (needs (Int.toNat 15)) := ho.mono B.size
  clear T0 B ho hb
  go_wp2_with (refine wpList_plain rfl fun K hK => ?_; refine wp_insert_int Tryd.underlying47 Tryd.underlying23 (.tmp 1) _ (.tmp 12) rfl (m := m) rfl rfl rfl T1.1 (by rfl) ?_; intro w11 hM hG; refine hK _ _ ?_)
  have T0 := T1.put hv hM hG
  have B := B1.grown hG B1.size (fun j e => by cases e; rw [HM.out]; exact Nat.le_refl _)
  clear T1 B1 hv hM hG
  refine (one_is 0 128 _).mono ?_
  rintro e wA ⟨rfl, hwA⟩
  have ho := own_one 0 128 w11
  have hb := (Below.refl w11.heap.size w11).alloc (Nat.le_refl _) (.cells #[.int .i64 0, .int .i64 0, .int .u8 128] 40)
  rw [← hwA] at ho hb
  clear hwA
  have T1 := T0.below hb
  have B1 := B.trans (hb.mono B.size)
  have hv : NdOwn wA w.heap.size (.slice (some ⟨w11.heap.size, 0, none⟩) 1 1) (needs (Int.toNat 16)) := ho.mono B.size
  clear T0 B ho hb
  go_wp2_with (refine wpList_plain rfl fun K hK => ?_; refine wp_insert_int Tryd.underlying47 Tryd.underlying23 (.tmp 1) _ (.tmp 13) rfl (m := m) rfl rfl rfl T1.1 (by rfl) ?_; intro w12 hM hG; refine hK _ _ ?_)
  have T0 := T1.put hv hM hG
  have B := B1.grown hG B1.size (fun j e => by cases e; rw [HM.out]; exact Nat.le_refl _)
  clear T1 B1 hv hM hG
  refine (two_is 1 32 0 64 _).mono ?_
  rintro e wA ⟨v17, rfl, ho, hb⟩
  have T1 := T0.below hb
  have B1 := B.trans (hb.mono B.size)
  have hv : NdOwn wA w.heap.size v17 (needs (Int.toNat 17)) := ho.mono B.size
  clear T0 B ho hb
  go_wp2_with (refine wpList_plain rfl fun K hK => ?_; refine wp_insert_int Tryd.underlying47 Tryd.underlying23 (.tmp 1) _ (.tmp 14) rfl (m := m) rfl rfl rfl T1.1 (by rfl) ?_; intro w13 hM hG; refine hK _ _ ?_)
  have T0 := T1.put hv hM hG
  have B := B1.grown hG B1.size (fun j e => by cases e; rw [HM.out]; exact Nat.le_refl _)
  clear T1 B1 hv hM hG
  refine (one_is 2 32 _).mono ?_
  rintro e wA ⟨rfl, hwA⟩
  have ho := own_one 2 32 w13
  have hb := (Below.refl w13.heap.size w13).alloc (Nat.le_refl _) (.cells #[.int .i64 0, .int .i64 2, .int .u8 32] 40)
  rw [← hwA] at ho hb
  clear hwA
  have T1 := T0.below hb
  have B1 := B.trans (hb.mono B.size)
  have hv : NdOwn wA w.heap.size (.slice (some ⟨w13.heap.size, 0, none⟩) 1 1) (needs (Int.toNat 18)) := ho.mono B.size
  clear T0 B ho hb
  go_wp2_with (refine wpList_plain rfl fun K hK => ?_; refine wp_insert_int Tryd.underlying47 Tryd.underlying23 (.tmp 1) _ (.tmp 15) rfl (m := m) rfl rfl rfl T1.1 (by rfl) ?_; intro w14 hM hG; refine hK _ _ ?_)
  have T0 := T1.put hv hM hG
  have B := B1.grown hG B1.size (fun j e => by cases e; rw [HM.out]; exact Nat.le_refl _)
  clear T1 B1 hv hM hG
  refine (two_is 2 32 2 32 _).mono ?_
  rintro e wA ⟨v19, rfl, ho, hb⟩
  have T1 := T0.below hb
  have B1 := B.trans (hb.mono B.size)
  have hv : NdOwn wA w.heap.size v19 (needs (Int.toNat 19)) := ho.mono B.size
  clear T0 B ho hb
  go_wp2_with (refine wpList_plain rfl fun K hK => ?_; refine wp_insert_int Tryd.underlying47 Tryd.underlying23 (.tmp 1) _ (.tmp 16) rfl (m := m) rfl rfl rfl T1.1 (by rfl) ?_; intro w15 hM hG; refine hK _ _ ?_)
  have T0 := T1.put hv hM hG
  have B := B1.grown hG B1.size (fun j e => by cases e; rw [HM.out]; exact Nat.le_refl _)
  clear T1 B1 hv hM hG
  refine (one_is 3 1 _).mono ?_
  rintro e wA ⟨rfl, hwA⟩
  have ho := own_one 3 1 w15
  have hb := (Below.refl w15.heap.size w15).alloc (Nat.le_refl _) (.cells #[.int .i64 0, .int .i64 3, .int .u8 1] 40)
  rw [← hwA] at ho hb
  clear hwA
  have T1 := T0.below hb
  have B1 := B.trans (hb.mono B.size)
  have hv : NdOwn wA w.heap.size (.slice (some ⟨w15.heap.size, 0, none⟩) 1 1) (needs (Int.toNat 20)) := ho.mono B.size
  clear T0 B ho hb
  go_wp2_with (refine wpList_plain rfl fun K hK => ?_; refine wp_insert_int Tryd.underlying47 Tryd.underlying23 (.tmp 1) _ (.tmp 17) rfl (m := m) rfl rfl rfl T1.1 (by rfl) ?_; intro w16 hM hG; refine hK _ _ ?_)
  have T0 := T1.put hv hM hG
  have B := B1.grown hG B1.size (fun j e => by cases e; rw [HM.out]; exact Nat.le_refl _)
  clear T1 B1 hv hM hG
  refine (one_is 3 128 _).mono ?_
  rintro e wA ⟨rfl, hwA⟩
  have ho := own_one 3 128 w16
  have hb := (Below.refl w16.heap.size w16).alloc (Nat.le_refl _) (.cells #[.int .i64 0, .int .i64 3, .int .u8 128] 40)
  rw [← hwA] at ho hb
  clear hwA
  have T1 := T0.below hb
  have B1 := B.trans (hb.mono B.size)
  have hv : NdOwn wA w.heap.size (.slice (some ⟨w16.heap.size, 0, none⟩) 1 1) (needs (Int.toNat 21)) := ho.mono B.size
  clear T0 B ho hb
  go_wp2_with (refine wpList_plain rfl fun K hK => ?_; refine wp_insert_int Tryd.underlying47 Tryd.underlying23 (.tmp 1) _ (.tmp 18) rfl (m := m) rfl rfl rfl T1.1 (by rfl) ?_; intro w17 hM hG; refine hK _ _ ?_)
  have T0 := T1.put hv hM hG
  have B := B1.grown hG B1.size (fun j e => by cases e; rw [HM.out]; exact Nat.le_refl _)
  clear T1 B1 hv hM hG
  refine (one_is 2 128 _).mono ?_
  rintro e wA ⟨rfl, hwA⟩
  have ho := own_one 2 128 w17
  have hb := (Below.refl w17.heap.size w17).alloc (Nat.le_refl _) (.cells #[.int .i64 0, .int .i64 2, .int .u8 128] 40)
  rw [← hwA] at ho hb
  clear hwA
  have T1 := T0.below hb
  have B1 := B.trans (hb.mono B.size)
  have hv : NdOwn wA w.heap.size (.slice (some ⟨w17.heap.size, 0, none⟩) 1 1) (needs (Int.toNat 22)) := ho.mono B.size
  clear T0 B ho hb
  go_wp2_with (refine wpList_plain rfl fun K hK => ?_; refine wp_insert_int Tryd.underlying47 Tryd.underlying23 (.tmp 1) _ (.tmp 19) rfl (m := m) rfl rfl rfl T1.1 (by rfl) ?_; intro w18 hM hG; refine hK _ _ ?_)
  have T0 := T1.put hv hM hG
  have B := B1.grown hG B1.size (fun j e => by cases e; rw [HM.out]; exact Nat.le_refl _)
  clear T1 B1 hv hM hG
  go_ret
  exact ⟨m, _, rfl, T0, rfl, B⟩
end Go.Proofs.YtcgmcmnjgimflaaDoor
