/- Ahead of the global queue, by a walk: how many that may run on p are ahead of one that may. Conditions: the queue is there, of at most 100000; the affinities are bytes. -/
import Derived.Test.YtdfpbbkdlalpcaaGloCut
import Derived.Test.YtdfpbbkdlalpcaaGloModel
import Derived.Laws.EntriesVeiled
namespace Go.Proofs.Ytdfpbbkdlalpcaa
open Go.RowKit Go.Shelf
attribute [local go_sem] Oper.semAt_some
set_option linter.unusedVariables false
set_option linter.unusedSimpArgs false

theorem fin_take {n : Nat} {pre : List (Fin n)} {x : Fin n} (h : pre ++ [x] <+: List.finRange n) : pre = (List.finRange n).take pre.length := by
  obtain ⟨t, ht⟩ := h
  rw [← ht, List.append_assoc, List.take_left]
/-- Numbers that have come. -/
def came (N : List (Nat × Int)) (pre : List (Fin N.length)) : List Int := pre.map fun x => (N[x.val]'x.isLt).2
def AhI (p : Int) (aff : List Nat) (A : Option Addr) (cap : Nat) (g : Int) (N : List (Nat × Int)) (w : World) (q : Nat) (pre : List (Fin N.length)) (W : World) : Prop :=
  (∀ y ∈ pre, ((N[y.val]'y.isLt).2 == g) = false) ∧ Blk W w.heap.size 3 #[.int .i64 g] ∧ Blk W (w.heap.size + 1) 3 #[.int .i64 (many (mayB p aff) (came N pre) : Nat)] ∧ Blk W (w.heap.size + 1 + 1) 4 #[.bool false] ∧
  Blk W (w.heap.size + 1 + 1 + 1) 3 #[.int .i64 p] ∧ Blk W (w.heap.size + 1 + 1 + 1 + 1) 32 #[.slice A aff.length cap] ∧
  Blk W (w.heap.size + 1 + 1 + 1 + 1 + 1) 52 #[.func (.func 32) #[] #[.pointer (some ⟨w.heap.size + 1 + 1 + 1 + 1, 0, none⟩), .pointer (some ⟨w.heap.size + 1 + 1 + 1, 0, none⟩)]] ∧
  Blk W (w.heap.size + 1 + 1 + 1 + 1 + 1 + 1) 25 #[.pointer (some ⟨q, 0, none⟩)] ∧ Below w.heap.size w W
def AhX (p : Int) (aff : List Nat) (g : Int) (N : List (Nat × Int)) (w : World) (c : Code) (pre : List (Fin N.length)) (W : World) : Prop :=
  ∃ pre0 x, pre = pre0 ++ [x] ∧ c = .ret ∧ (∀ y ∈ pre0, ((N[y.val]'y.isLt).2 == g) = false) ∧ ((N[x.val]'x.isLt).2 == g) = true ∧
  Blk W (w.heap.size + 1) 3 #[.int .i64 (if mayB p aff g then (many (mayB p aff) (came N pre0) : Nat) else 0)] ∧ Blk W (w.heap.size + 1 + 1) 4 #[.bool (mayB p aff g)] ∧ Below w.heap.size w W
theorem ahI_own {B : Nat} (p : Int) (aff : List Nat) (A : Option Addr) (cap : Nat) (g : Int) (N : List (Nat × Int)) (w : World) (q : Nat) (hB : w.heap.size ≤ B) : OwnFrom B (AhI p aff A cap g N w q) :=
  fun s X Y row ⟨h1, h2, h3, h4, h5, h6, h7, h8, h9⟩ hg hr => ⟨h1, blk_kept h2 hg fun r e => (hr r e).2, blk_kept h3 hg fun r e => (hr r e).2, blk_kept h4 hg fun r e => (hr r e).2, blk_kept h5 hg fun r e => (hr r e).2, blk_kept h6 hg fun r e => (hr r e).2, blk_kept h7 hg fun r e => (hr r e).2, blk_kept h8 hg fun r e => (hr r e).2,
    ownFrom_below (β := Unit) (Nat.le_refl _) hB () _ _ _ h9 hg hr⟩
theorem ahX_own {B : Nat} (p : Int) (aff : List Nat) (g : Int) (N : List (Nat × Int)) (w : World) (hB : w.heap.size ≤ B) (c : Code) : OwnFrom B (AhX p aff g N w c) :=
  fun s X Y row ⟨pr, x, h1, h2, h3, h4, h5, h6, h7⟩ hg hr => ⟨pr, x, h1, h2, h3, h4, blk_kept h5 hg fun r e => (hr r e).2, blk_kept h6 hg fun r e => (hr r e).2, ownFrom_below (β := Unit) (Nat.le_refl _) hB () _ _ _ h7 hg hr⟩

set_option maxRecDepth 100000 in
set_option maxHeartbeats 4000000 in
theorem ahead_in (p : Int) (aff : List Nat) (A : Option Addr) (cap : Nat) (g : Int) (q : Nat) (N : List (Nat × Int)) (w : World) (h : Qu w q N) (hn : N.length ≤ 100000)
    (hA : Bytes w w.heap.size A aff) (hl : aff.length ≤ maxLen) (h8 : ∀ x ∈ aff, x < 256) :
    CallsIn Fence.wide 6 Try.prog 12 #[.pointer (some ⟨q, 0, none⟩), .int .i64 g, .int .i64 p, .slice A aff.length cap] w fun e W' => e = .returned (.tuple #[.int .i64 ((ahead p aff g (vals N)).1 : Nat), .bool (ahead p aff g (vals N)).2]) ∧ Below w.heap.size w W' := by
  refine callsIn_of_wp_marks Try.func12 rfl trivial ?_ rfl
  simp only [Try.ntmps12, List.size_toArray, List.length_cons, List.length_nil, Nat.reduceAdd, Nat.reduceSub, Array.replicate_succ, Array.replicate_zero, List.push_toArray, List.append_toArray, List.nil_append, List.cons_append]
  gi_wp2_with fail
  refine ⟨trivial, ?_⟩
  refine (callsIn_wide.2 (may_is p A aff.length cap _)).mono ?_
  rintro e w' ⟨rfl, rfl⟩
  gi_wp2_with fail
  refine ⟨trivial, ?_⟩
  refine (callsIn_wide.2 (each_any q _)).mono ?_
  rintro e w' ⟨rfl, rfl⟩
  gi_wp2_with fail
  -- THE LOOP
  have b0 := ((((((Blk.new w 3 #[.int .i64 g]).alloc (.cells #[.int .i64 0] 3)).alloc (.cells #[.bool false] 4)).alloc (.cells #[.int .i64 p] 3)).alloc (.cells #[.slice A aff.length cap] 32)).alloc (.cells #[.func (.func 32) #[] #[.pointer (some ⟨w.heap.size + 1 + 1 + 1 + 1, 0, none⟩), .pointer (some ⟨w.heap.size + 1 + 1 + 1, 0, none⟩)]] 52)).alloc (.cells #[.pointer (some ⟨q, 0, none⟩)] 25)
  have b1 := (((((Blk.new (w.alloc (.cells #[.int .i64 g] 3)) 3 #[.int .i64 0]).alloc (.cells #[.bool false] 4)).alloc (.cells #[.int .i64 p] 3)).alloc (.cells #[.slice A aff.length cap] 32)).alloc (.cells #[.func (.func 32) #[] #[.pointer (some ⟨w.heap.size + 1 + 1 + 1 + 1, 0, none⟩), .pointer (some ⟨w.heap.size + 1 + 1 + 1, 0, none⟩)]] 52)).alloc (.cells #[.pointer (some ⟨q, 0, none⟩)] 25)
  have b2 := ((((Blk.new ((w.alloc (.cells #[.int .i64 g] 3)).alloc (.cells #[.int .i64 0] 3)) 4 #[.bool false]).alloc (.cells #[.int .i64 p] 3)).alloc (.cells #[.slice A aff.length cap] 32)).alloc (.cells #[.func (.func 32) #[] #[.pointer (some ⟨w.heap.size + 1 + 1 + 1 + 1, 0, none⟩), .pointer (some ⟨w.heap.size + 1 + 1 + 1, 0, none⟩)]] 52)).alloc (.cells #[.pointer (some ⟨q, 0, none⟩)] 25)
  have b3 := (((Blk.new (((w.alloc (.cells #[.int .i64 g] 3)).alloc (.cells #[.int .i64 0] 3)).alloc (.cells #[.bool false] 4)) 3 #[.int .i64 p]).alloc (.cells #[.slice A aff.length cap] 32)).alloc (.cells #[.func (.func 32) #[] #[.pointer (some ⟨w.heap.size + 1 + 1 + 1 + 1, 0, none⟩), .pointer (some ⟨w.heap.size + 1 + 1 + 1, 0, none⟩)]] 52)).alloc (.cells #[.pointer (some ⟨q, 0, none⟩)] 25)
  have b4 := ((Blk.new ((((w.alloc (.cells #[.int .i64 g] 3)).alloc (.cells #[.int .i64 0] 3)).alloc (.cells #[.bool false] 4)).alloc (.cells #[.int .i64 p] 3)) 32 #[.slice A aff.length cap]).alloc (.cells #[.func (.func 32) #[] #[.pointer (some ⟨w.heap.size + 1 + 1 + 1 + 1, 0, none⟩), .pointer (some ⟨w.heap.size + 1 + 1 + 1, 0, none⟩)]] 52)).alloc (.cells #[.pointer (some ⟨q, 0, none⟩)] 25)
  have b5 := (Blk.new (((((w.alloc (.cells #[.int .i64 g] 3)).alloc (.cells #[.int .i64 0] 3)).alloc (.cells #[.bool false] 4)).alloc (.cells #[.int .i64 p] 3)).alloc (.cells #[.slice A aff.length cap] 32)) 52 #[.func (.func 32) #[] #[.pointer (some ⟨w.heap.size + 1 + 1 + 1 + 1, 0, none⟩), .pointer (some ⟨w.heap.size + 1 + 1 + 1, 0, none⟩)]]).alloc (.cells #[.pointer (some ⟨q, 0, none⟩)] 25)
  have b6 := Blk.new ((((((w.alloc (.cells #[.int .i64 g] 3)).alloc (.cells #[.int .i64 0] 3)).alloc (.cells #[.bool false] 4)).alloc (.cells #[.int .i64 p] 3)).alloc (.cells #[.slice A aff.length cap] 32)).alloc (.cells #[.func (.func 32) #[] #[.pointer (some ⟨w.heap.size + 1 + 1 + 1 + 1, 0, none⟩), .pointer (some ⟨w.heap.size + 1 + 1 + 1, 0, none⟩)]] 52)) 25 #[.pointer (some ⟨q, 0, none⟩)]
  have hB0 : Below w.heap.size w (((((((w.alloc (.cells #[.int .i64 g] 3)).alloc (.cells #[.int .i64 0] 3)).alloc (.cells #[.bool false] 4)).alloc (.cells #[.int .i64 p] 3)).alloc (.cells #[.slice A aff.length cap] 32)).alloc (.cells #[.func (.func 32) #[] #[.pointer (some ⟨w.heap.size + 1 + 1 + 1 + 1, 0, none⟩), .pointer (some ⟨w.heap.size + 1 + 1 + 1, 0, none⟩)]] 52)).alloc (.cells #[.pointer (some ⟨q, 0, none⟩)] 25)) := ((((((((Below.refl _ w).alloc (Nat.le_refl _) _).alloc (by simp) _).alloc (by simp; omega) _).alloc (by simp; omega) _).alloc (by simp; omega) _).alloc (by simp; omega) _).alloc (by simp; omega) _)
  have hsz : (((((((w.alloc (.cells #[.int .i64 g] 3)).alloc (.cells #[.int .i64 0] 3)).alloc (.cells #[.bool false] 4)).alloc (.cells #[.int .i64 p] 3)).alloc (.cells #[.slice A aff.length cap] 32)).alloc (.cells #[.func (.func 32) #[] #[.pointer (some ⟨w.heap.size + 1 + 1 + 1 + 1, 0, none⟩), .pointer (some ⟨w.heap.size + 1 + 1 + 1, 0, none⟩)]] 52)).alloc (.cells #[.pointer (some ⟨q, 0, none⟩)] 25)).heap.size = w.heap.size + 1 + 1 + 1 + 1 + 1 + 1 + 1 := by simp
  simp only [World.size_alloc] at b1 b2 b3 b4 b5 b6
  generalize (((((((w.alloc (.cells #[.int .i64 g] 3)).alloc (.cells #[.int .i64 0] 3)).alloc (.cells #[.bool false] 4)).alloc (.cells #[.int .i64 p] 3)).alloc (.cells #[.slice A aff.length cap] 32)).alloc (.cells #[.func (.func 32) #[] #[.pointer (some ⟨w.heap.size + 1 + 1 + 1 + 1, 0, none⟩), .pointer (some ⟨w.heap.size + 1 + 1 + 1, 0, none⟩)]] 52)).alloc (.cells #[.pointer (some ⟨q, 0, none⟩)] 25)) = W0 at *
  have HSZ := Lib.hid hsz
  have hQ0 : Qu W0 q N := h.below hB0
  have hle : w.heap.size + 1 + 1 + 1 + 1 + 1 + 1 < W0.heap.size := by omega
  have hql : q < w.heap.size := h.lt q (.inl rfl)
  clear hsz
  have b1' : Blk W0 (w.heap.size + 1) 3 #[.int .i64 (many (mayB p aff) (came N []) : Nat)] := b1
  refine wpIn_rangeFunc_ownF rfl (by omega) (gf := 34) (lb := #[.pointer (some ⟨w.heap.size + 1 + 1 + 1 + 1 + 1 + 1, 0, none⟩)]) rfl trivial (enters_of Try.func34 (by kernel_rfl) rfl)
    (each_stops (6 - 1) (by omega) (w.heap.size + 1 + 1 + 1 + 1 + 1 + 1) q N W0 b6 hQ0) (keepS_t _) (keepS_b (kept_lt hle hQ0)) (Below.refl _ _) (fun _ => rfl)
    (AhI p aff A cap g N w q) (AhX p aff g N w) (ahI_own p aff A cap g N w q (by omega)) (fun c => ahX_own p aff g N w (by omega) c)
    ⟨(fun y hy => by cases hy), b0, b1', b2, b3, b4, b5, b6, hB0⟩
    (fun x => { tmps := #[.pointer (some ⟨q, 0, none⟩), .int .i64 g, .int .i64 p, .slice A aff.length cap, undef, .pointer (some ⟨w.heap.size, 0, none⟩), undef, undef, .pointer (some ⟨w.heap.size + 1, 0, none⟩), .pointer (some ⟨w.heap.size + 1 + 1, 0, none⟩), .pointer (some ⟨w.heap.size + 1 + 1 + 1 + 1 + 1, 0, none⟩), undef, .pointer (some ⟨(N[x.val]'x.isLt).1, 0, none⟩), .int .i64 p, .slice A aff.length cap, .func (.func 32) #[] #[.pointer (some ⟨w.heap.size + 1 + 1 + 1 + 1, 0, none⟩), .pointer (some ⟨w.heap.size + 1 + 1 + 1, 0, none⟩)], .pointer (some ⟨q, 0, none⟩), .func (.func 34) #[] #[.pointer (some ⟨w.heap.size + 1 + 1 + 1 + 1 + 1 + 1, 0, none⟩)], pt (bf N x.val), .pointer (some ⟨(N[x.val]'x.isLt).1, 0, none⟩), undef, undef, undef, undef, undef, undef, undef, undef, undef, undef, undef, undef, undef, undef, undef, undef, undef, undef, undef, undef, undef], defers := [] }) ?assign ?body ?done ?stop
  case assign =>
    intro l x W K hK
    dsimp only [enc]
    gi_wp2
    exact hK
  case body =>
    rintro l pre x W ⟨hpre, d0, d1, d2, d3, d4, d5, d6, hB⟩ hlen
    have hx := (h.below hB).row.at_ x.val x.isLt
    obtain ⟨b, hb⟩ : ∃ b, (N[x.val]'x.isLt).1 = b := ⟨_, rfl⟩
    obtain ⟨y, hy⟩ : ∃ y, (N[x.val]'x.isLt).2 = y := ⟨_, rfl⟩
    rw [hb, hy] at hx
    have hbs : b < w.heap.size := h.lt b (.inr ⟨x.val, x.isLt, hb⟩)
    have x0 := hx.cell 0
    have e0 := d0.cell 0
    have e5 := d5.cell 0
    simp only [List.getElem?_toArray, List.getElem?_cons_zero, List.getElem?_cons_succ] at x0 e0 e5
    have CS : ∀ z V, Below w.heap.size W V → Blk V (w.heap.size + 1 + 1 + 1 + 1) 32 #[.slice A aff.length cap] → Blk V (w.heap.size + 1 + 1 + 1) 3 #[.int .i64 p] → Calls Try.prog 32 #[.int .i64 z, .pointer (some ⟨w.heap.size + 1 + 1 + 1 + 1, 0, none⟩), .pointer (some ⟨w.heap.size + 1 + 1 + 1, 0, none⟩)] V fun e W' => e = .returned (.bool (mayB p aff z)) ∧ ∃ n, W' = V.drewN n :=
      fun z V hV v1 v2 => may1_is p aff A cap z _ _ w.heap.size V v1 v2 ((hA.below hB).below hV) hl h8
    have hcame : came N (pre ++ [x]) = came N pre ++ [y] := by simp [came, hy]
    have hmany : many (mayB p aff) (came N pre) ≤ N.length := Nat.le_trans (many_le _ _) (by simp [came]; omega)
    have HC := Lib.hid hcame
    have HP := Lib.hid hpre
    have HY := Lib.hid hy
    have HX := Lib.hid hx
    have HB := Lib.hid hB
    dsimp only
    rw [hb]
    clear hcame hpre hy hx hb
    have hmx : Try.prog.follows .mixedOrders = true := by kernel_rfl
    have e1 := d1.cell 0
    have e2 := d2.cell 0
    have g1 := d1.frozen 0
    have g2 := d2.frozen 0
    simp only [List.getElem?_toArray, List.getElem?_cons_zero, List.getElem?_cons_succ] at e1 e2
    by_cases hyg : (y == g) = true
    · have HYG := Lib.hid hyg
      by_cases hm : mayB p aff g = true
      · have CG := fun V a b c => CS g V a b c
        rw [hm] at CG
        have HM := Lib.hid hm
        clear hm CS hA h8
        gi_wp2_with fail
        try dsimp only
        refine wpIn_round_quiet hmx (by rintro ⟨_, _, h⟩; exact h) (by kernel_rfl) (by kernel_rfl) ?_
        repeat (go_big_quiet_step (fail))
        refine wpQuiet_nil ?_
        intro _ hw'
        obtain ⟨nq, hw''⟩ := hw'
        subst hw''
        clear hyg
        gi_wp2_with (first | (refine ⟨trivial, ?_⟩; gi_at_call 32; refine (CallsIn.inRound l (callsIn_wide.2 (CG _ ((Below.refl _ _).drewN_ _) d4 d3))).mono ?_; rintro e w' ⟨rfl, n1, rfl⟩) | (gi_at_call 32; refine (CallsIn.inRound l (callsIn_wide.2 (CG _ ((Below.refl _ _).drewN_ _) d4 d3))).mono ?_; rintro e w' ⟨rfl, n1, rfl⟩))
        refine ⟨(drewN_keeps W _).trans ((KeepsOthers.setCell _ _ _).trans (KeepsOthers.setCell _ _ _)), pre, x, rfl, rfl, HP.out, by rw [HY.out]; exact HYG.out, ?_, ?_, ?_⟩
        · rw [HM.out]
          have hz := ((Blk.drewN d1 (nq + n1)).set_ 0 (.int .i64 (many (mayB p aff) (came N pre) : Nat))).far (p := ⟨w.heap.size + 1 + 1, 0, none⟩) (by simp) (.bool true)
          exact hz
        · rw [HM.out]
          have hz := ((Blk.drewN d2 (nq + n1)).far (p := ⟨w.heap.size + 1, 0, none⟩) (by simp) (.int .i64 (many (mayB p aff) (came N pre) : Nat))).set_ 0 (.bool true)
          exact hz
        · exact ((HB.out.drewN_ _).setCell (p := ⟨w.heap.size + 1, 0, none⟩) (by simp) _).setCell (p := ⟨w.heap.size + 1 + 1, 0, none⟩) (by simp; omega) _
      · have hmf : mayB p aff g = false := by simpa using hm
        have CG := fun V a b c => CS g V a b c
        rw [hmf] at CG
        have HM := Lib.hid hmf
        clear hm hmf CS hA h8
        gi_wp2_with fail
        try dsimp only
        refine wpIn_round_quiet hmx (by rintro ⟨_, _, h⟩; exact h) (by kernel_rfl) (by kernel_rfl) ?_
        repeat (go_big_quiet_step (fail))
        refine wpQuiet_nil ?_
        intro _ hw'
        obtain ⟨nq, hw''⟩ := hw'
        subst hw''
        clear hyg
        gi_wp2_with (first | (refine ⟨trivial, ?_⟩; gi_at_call 32; refine (CallsIn.inRound l (callsIn_wide.2 (CG _ ((Below.refl _ _).drewN_ _) d4 d3))).mono ?_; rintro e w' ⟨rfl, n1, rfl⟩) | (gi_at_call 32; refine (CallsIn.inRound l (callsIn_wide.2 (CG _ ((Below.refl _ _).drewN_ _) d4 d3))).mono ?_; rintro e w' ⟨rfl, n1, rfl⟩))
        refine ⟨(drewN_keeps W _).trans ((KeepsOthers.setCell _ _ _).trans (KeepsOthers.setCell _ _ _)), pre, x, rfl, rfl, HP.out, by rw [HY.out]; exact HYG.out, ?_, ?_, ?_⟩
        · rw [HM.out]
          have hz := ((Blk.drewN d1 (nq + n1)).set_ 0 (.int .i64 0)).far (p := ⟨w.heap.size + 1 + 1, 0, none⟩) (by simp) (.bool false)
          exact hz
        · rw [HM.out]
          have hz := ((Blk.drewN d2 (nq + n1)).far (p := ⟨w.heap.size + 1, 0, none⟩) (by simp) (.int .i64 0)).set_ 0 (.bool false)
          exact hz
        · exact ((HB.out.drewN_ _).setCell (p := ⟨w.heap.size + 1, 0, none⟩) (by simp) _).setCell (p := ⟨w.heap.size + 1 + 1, 0, none⟩) (by simp; omega) _
    · have hygf : (y == g) = false := by simpa using hyg
      have HYG := Lib.hid hygf
      clear hyg
      by_cases hm : mayB p aff y = true
      · have CG := fun V a b c => CS y V a b c
        rw [hm] at CG
        have HM := Lib.hid hm
        clear hm CS hA h8
        gi_wp2_with fail
        try dsimp only
        refine wpIn_round_quiet hmx (by rintro ⟨_, _, h⟩; exact h) (by kernel_rfl) (by kernel_rfl) ?_
        repeat (go_big_quiet_step (fail))
        refine wpQuiet_nil ?_
        intro _ hw'
        obtain ⟨nq, hw''⟩ := hw'
        subst hw''
        clear hygf
        obtain ⟨W1, hW1⟩ : ∃ W1 : World, W1 = W.drewN nq := ⟨_, rfl⟩
        rw [← hW1]
        have x0' : W1.cell? ⟨b, 0, none⟩ = some (.int .i64 y) := by rw [hW1]; exact x0
        have t1 : Blk W1 (w.heap.size + 1) 3 #[.int .i64 (many (mayB p aff) (came N pre) : Nat)] := by rw [hW1]; exact d1
        have t3 := Lib.hid (show Blk W1 (w.heap.size + 1 + 1 + 1) 3 #[.int .i64 p] from by rw [hW1]; exact d3)
        have t4 := Lib.hid (show Blk W1 (w.heap.size + 1 + 1 + 1 + 1) 32 #[.slice A aff.length cap] from by rw [hW1]; exact d4)
        have e5' : W1.cell? ⟨w.heap.size + 1 + 1 + 1 + 1 + 1, 0, none⟩ = some (.func (.func 32) #[] #[.pointer (some ⟨w.heap.size + 1 + 1 + 1 + 1, 0, none⟩), .pointer (some ⟨w.heap.size + 1 + 1 + 1, 0, none⟩)]) := by rw [hW1]; exact e5
        have hB1 := Lib.hid (show Below w.heap.size W W1 from by rw [hW1]; exact (Below.refl _ _).drewN_ _)
        have hKO := Lib.hid (show KeepsOthers W W1 from by rw [hW1]; exact drewN_keeps W _)
        have hKB := Lib.hid (show ∀ k : Nat, W1.heap[k]? = W.heap[k]? from by rw [hW1]; exact fun _ => rfl)
        have e1' := t1.cell 0
        have g1' := t1.frozen 0
        simp only [List.getElem?_toArray, List.getElem?_cons_zero, List.getElem?_cons_succ] at e1'
        have T1 := Lib.hid t1
        have D0 := Lib.hid d0
        have D2 := Lib.hid d2
        have D3 := Lib.hid d3
        have D4 := Lib.hid d4
        have D5 := Lib.hid d5
        have D6 := Lib.hid d6
        clear hW1 x0 e5 e1 g1 e2 g2 t1 d0 d1 d2 d3 d4 d5 d6
        gi_wp2_with fail
        try dsimp only
        refine wpIn_round_quiet hmx (by rintro ⟨_, _, h⟩; exact h) (by kernel_rfl) (by kernel_rfl) ?_
        repeat (go_big_quiet_step ((go_at_call 32; exact Calls.quiet_of (CG _ ((hB1.out).drewN_ _) t4.out t3.out))))
        refine wpQuiet_nil ?_
        intro _ hw2
        obtain ⟨nq2, hw2'⟩ := hw2
        subst hw2'
        have hlen2 : many (mayB p aff) (came N pre ++ [y]) = many (mayB p aff) (came N pre) + 1 := by simp [many, HM.out]
        have HL2 := Lib.hid hlen2
        clear hlen2
        gi_wp2
        refine ⟨hKO.out.trans ((drewN_keeps W1 _).trans (KeepsOthers.setCell _ _ _)), fun k hk => ?_, ⟨fun z hz => ?_, ?_, ?_, ?_, ?_, ?_, ?_, ?_, ?_⟩⟩
        · refine (Below.heap_setCell _ _ _ _ ?_).trans (hKB.out k)
          rcases hk with rfl | hk
          · simp; try omega
          · have := h.lt k hk
            simp; omega
        · rcases List.mem_append.1 hz with hz | hz
          · exact HP.out z hz
          · rw [List.mem_singleton.1 hz, HY.out]
            exact HYG.out
        · have hz : Blk W1 _ _ _ := (hKB.out _).trans D0.out
          exact (hz.drewN nq2).far (p := ⟨w.heap.size + 1, 0, none⟩) (by simp; try omega) _
        · rw [HC.out, HL2.out]
          have hz := (Blk.drewN T1.out nq2).set_ 0 (.int .i64 ((many (mayB p aff) (came N pre) : Nat) + 1))
          simpa using hz
        · have hz : Blk W1 _ _ _ := (hKB.out _).trans D2.out
          exact (hz.drewN nq2).far (p := ⟨w.heap.size + 1, 0, none⟩) (by simp; try omega) _
        · have hz : Blk W1 _ _ _ := (hKB.out _).trans D3.out
          exact (hz.drewN nq2).far (p := ⟨w.heap.size + 1, 0, none⟩) (by simp; try omega) _
        · have hz : Blk W1 _ _ _ := (hKB.out _).trans D4.out
          exact (hz.drewN nq2).far (p := ⟨w.heap.size + 1, 0, none⟩) (by simp; try omega) _
        · have hz : Blk W1 _ _ _ := (hKB.out _).trans D5.out
          exact (hz.drewN nq2).far (p := ⟨w.heap.size + 1, 0, none⟩) (by simp; try omega) _
        · have hz : Blk W1 _ _ _ := (hKB.out _).trans D6.out
          exact (hz.drewN nq2).far (p := ⟨w.heap.size + 1, 0, none⟩) (by simp; try omega) _
        · exact ((HB.out.trans hB1.out).drewN_ _).setCell (p := ⟨w.heap.size + 1, 0, none⟩) (by simp; try omega) _
      · have hmf : mayB p aff y = false := by simpa using hm
        have CG := fun V a b c => CS y V a b c
        rw [hmf] at CG
        have HM := Lib.hid hmf
        clear hm hmf CS hA h8
        gi_wp2_with fail
        try dsimp only
        refine wpIn_round_quiet hmx (by rintro ⟨_, _, h⟩; exact h) (by kernel_rfl) (by kernel_rfl) ?_
        repeat (go_big_quiet_step (fail))
        refine wpQuiet_nil ?_
        intro _ hw'
        obtain ⟨nq, hw''⟩ := hw'
        subst hw''
        clear hygf
        obtain ⟨W1, hW1⟩ : ∃ W1 : World, W1 = W.drewN nq := ⟨_, rfl⟩
        rw [← hW1]
        have x0' : W1.cell? ⟨b, 0, none⟩ = some (.int .i64 y) := by rw [hW1]; exact x0
        have t1 : Blk W1 (w.heap.size + 1) 3 #[.int .i64 (many (mayB p aff) (came N pre) : Nat)] := by rw [hW1]; exact d1
        have t3 := Lib.hid (show Blk W1 (w.heap.size + 1 + 1 + 1) 3 #[.int .i64 p] from by rw [hW1]; exact d3)
        have t4 := Lib.hid (show Blk W1 (w.heap.size + 1 + 1 + 1 + 1) 32 #[.slice A aff.length cap] from by rw [hW1]; exact d4)
        have e5' : W1.cell? ⟨w.heap.size + 1 + 1 + 1 + 1 + 1, 0, none⟩ = some (.func (.func 32) #[] #[.pointer (some ⟨w.heap.size + 1 + 1 + 1 + 1, 0, none⟩), .pointer (some ⟨w.heap.size + 1 + 1 + 1, 0, none⟩)]) := by rw [hW1]; exact e5
        have hB1 := Lib.hid (show Below w.heap.size W W1 from by rw [hW1]; exact (Below.refl _ _).drewN_ _)
        have hKO := Lib.hid (show KeepsOthers W W1 from by rw [hW1]; exact drewN_keeps W _)
        have hKB := Lib.hid (show ∀ k : Nat, W1.heap[k]? = W.heap[k]? from by rw [hW1]; exact fun _ => rfl)
        have e1' := t1.cell 0
        have g1' := t1.frozen 0
        simp only [List.getElem?_toArray, List.getElem?_cons_zero, List.getElem?_cons_succ] at e1'
        have T1 := Lib.hid t1
        have D0 := Lib.hid d0
        have D2 := Lib.hid d2
        have D3 := Lib.hid d3
        have D4 := Lib.hid d4
        have D5 := Lib.hid d5
        have D6 := Lib.hid d6
        clear hW1 x0 e5 e1 g1 e2 g2 t1 d0 d1 d2 d3 d4 d5 d6
        gi_wp2_with fail
        try dsimp only
        refine wpIn_round_quiet hmx (by rintro ⟨_, _, h⟩; exact h) (by kernel_rfl) (by kernel_rfl) ?_
        repeat (go_big_quiet_step ((go_at_call 32; exact Calls.quiet_of (CG _ ((hB1.out).drewN_ _) t4.out t3.out))))
        refine wpQuiet_nil ?_
        intro _ hw2
        obtain ⟨nq2, hw2'⟩ := hw2
        subst hw2'
        have hlen2 : many (mayB p aff) (came N pre ++ [y]) = many (mayB p aff) (came N pre) := by simp [many, HM.out]
        have HL2 := Lib.hid hlen2
        clear hlen2
        gi_wp2
        refine ⟨hKO.out.trans (drewN_keeps W1 _), fun k hk => hKB.out k, ⟨fun z hz => ?_, ?_, ?_, ?_, ?_, ?_, ?_, ?_, ?_⟩⟩
        · rcases List.mem_append.1 hz with hz | hz
          · exact HP.out z hz
          · rw [List.mem_singleton.1 hz, HY.out]
            exact HYG.out
        · have hz : Blk W1 _ _ _ := (hKB.out _).trans D0.out
          exact hz.drewN nq2
        · rw [HC.out, HL2.out]
          exact Blk.drewN T1.out nq2
        · have hz : Blk W1 _ _ _ := (hKB.out _).trans D2.out
          exact hz.drewN nq2
        · have hz : Blk W1 _ _ _ := (hKB.out _).trans D3.out
          exact hz.drewN nq2
        · have hz : Blk W1 _ _ _ := (hKB.out _).trans D4.out
          exact hz.drewN nq2
        · have hz : Blk W1 _ _ _ := (hKB.out _).trans D5.out
          exact hz.drewN nq2
        · have hz : Blk W1 _ _ _ := (hKB.out _).trans D6.out
          exact hz.drewN nq2
        · exact (HB.out.trans hB1.out).drewN_ _
  case done =>
    rintro D ys W hD rfl ⟨hpre, d0, d1, d2, d3, d4, d5, d6, hB⟩ hK
    have e1 := d1.cell 0
    have e2 := d2.cell 0
    have f1 := d1.frozen 0
    have f2 := d2.frozen 0
    simp only [List.getElem?_toArray, List.getElem?_cons_zero, List.getElem?_cons_succ] at e1 e2
    have hmiss : Miss (· == g) (vals N) := fun j hj => by
      have := hpre ⟨j, by simpa [vals] using hj⟩ (List.mem_finRange _)
      simpa [vals] using this
    have HM := Lib.hid hmiss
    have HP := Lib.hid hpre
    clear hpre hmiss hA h8
    gi_wp2_with fail
    have hK2 := ((KeepsOthers.setCell W ⟨w.heap.size + 1, 0, none⟩ (.int .i64 0)).trans (KeepsOthers.setCell _ ⟨w.heap.size + 1 + 1, 0, none⟩ (.bool false))).same D _ hK rfl
    have k1 := ((d1.set_ 0 (.int .i64 0)).far (p := ⟨w.heap.size + 1 + 1, 0, none⟩) (by simp) (.bool false)).cell 0
    have k2 := ((d2.far (p := ⟨w.heap.size + 1, 0, none⟩) (by simp) (.int .i64 0)).set_ 0 (.bool false)).cell 0
    have r1 := cell_kept k1 (grownBy_putObj' _ D (.deferred none)) (fun r e => by cases e; exact ⟨_, hK2, rfl⟩)
    have r2 := cell_kept k2 (grownBy_putObj' _ D (.deferred none)) (fun r e => by cases e; exact ⟨_, hK2, rfl⟩)
    have hDl : W0.heap.size ≤ D := hD
    refine ⟨by simp, .inl ⟨_, _, rfl, run_takeDeferred hK2, ?_⟩⟩
    refine ⟨.tuple #[.int .i64 0, .bool false], ?_, ?_, ((hB.setCell (p := ⟨w.heap.size + 1, 0, none⟩) (by simp) _).setCell (p := ⟨w.heap.size + 1 + 1, 0, none⟩) (by simp; omega) _).trans (belowK_b (w := w) (Nat.le_refl _) _ D _ _ (by omega) hK2 rfl rfl)⟩
    · simp [results, Try.f12, go_sem, r1, r2]
    · rw [ahead_miss HM.out]
      rfl
  case stop =>
    rintro D c pre W hD hpf ⟨pre0, x, rfl, rfl, hpre, hfx, d1, d2, hB⟩ hK
    have e1 := d1.cell 0
    have e2 := d2.cell 0
    simp only [List.getElem?_toArray, List.getElem?_cons_zero, List.getElem?_cons_succ] at e1 e2
    obtain ⟨hx1, hx2⟩ := fin_prefix hpf
    have hit : Hit (· == g) (vals N) x.val := ⟨by rw [vals_len]; exact x.isLt, by simpa [vals] using hfx, fun j hj => by
      have := hpre _ (hx2 j (by have := x.isLt; omega) hj)
      simpa [vals] using this⟩
    have hcm : came N pre0 = (vals N).take x.val := by
      have e := fin_take hpf
      rw [e, hx1]
      unfold came vals
      apply List.ext_getElem
      · simp
      · intro i h1 h2
        simp
    rw [hcm] at e1 d1
    have HIT := Lib.hid hit
    clear hit hpre hcm hx2 hA h8
    by_cases hm : mayB p aff g = true
    · rw [if_pos hm] at e1
      rw [hm] at e2
      have HM := Lib.hid hm
      clear hm
      gi_wp2_with fail
      have r1 := cell_kept e1 (grownBy_putObj' _ D (.deferred none)) (fun r e => by cases e; exact ⟨_, hK, rfl⟩)
      have r2 := cell_kept e2 (grownBy_putObj' _ D (.deferred none)) (fun r e => by cases e; exact ⟨_, hK, rfl⟩)
      refine ⟨by simp, .inl ⟨_, _, rfl, run_takeDeferred hK, ?_⟩⟩
      refine ⟨.tuple #[.int .i64 (many (mayB p aff) ((vals N).take x.val) : Nat), .bool true], ?_, ?_, hB.trans (belowK_b (w := w) (Nat.le_refl _) _ D _ _ (by omega) hK rfl rfl)⟩
      · simp [results, Try.f12, go_sem, r1, r2]
      · rw [ahead_yes HIT.out HM.out]
    · have hmf : mayB p aff g = false := by simpa using hm
      rw [if_neg hm] at e1
      rw [hmf] at e2
      have HM := Lib.hid hmf
      clear hm hmf
      gi_wp2_with fail
      have r1 := cell_kept e1 (grownBy_putObj' _ D (.deferred none)) (fun r e => by cases e; exact ⟨_, hK, rfl⟩)
      have r2 := cell_kept e2 (grownBy_putObj' _ D (.deferred none)) (fun r e => by cases e; exact ⟨_, hK, rfl⟩)
      refine ⟨by simp, .inl ⟨_, _, rfl, run_takeDeferred hK, ?_⟩⟩
      refine ⟨.tuple #[.int .i64 0, .bool false], ?_, ?_, hB.trans (belowK_b (w := w) (Nat.le_refl _) _ D _ _ (by omega) hK rfl rfl)⟩
      · simp [results, Try.f12, go_sem, r1, r2]
      · rw [ahead_no HM.out]
        rfl

theorem ahead_is (p : Int) (aff : List Nat) (A : Option Addr) (cap : Nat) (g : Int) (q : Nat) (N : List (Nat × Int)) (w : World) (h : Qu w q N) (hn : N.length ≤ 100000)
    (hA : Bytes w w.heap.size A aff) (hl : aff.length ≤ maxLen) (h8 : ∀ x ∈ aff, x < 256) :
    Calls Try.prog 12 #[.pointer (some ⟨q, 0, none⟩), .int .i64 g, .int .i64 p, .slice A aff.length cap] w fun e W' => e = .returned (.tuple #[.int .i64 ((ahead p aff g (vals N)).1 : Nat), .bool (ahead p aff g (vals N)).2]) ∧ Below w.heap.size w W' :=
  callsIn_wide.1 (ahead_in p aff A cap g q N w h hn hA hl h8)
end Go.Proofs.Ytdfpbbkdlalpcaa
