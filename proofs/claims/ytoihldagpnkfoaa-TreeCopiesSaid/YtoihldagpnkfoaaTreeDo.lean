/- The law's own do, act by act, by walks: both forests answer alike, and agree as before. Condition: both agree. -/
import Derived.Test.YtoihldagpnkfoaaTreeKnown
import Derived.Test.YtoihldagpnkfoaaTreeRefSame
namespace Go.Proofs.Ytoihldagpnkfoaa
open Go.RowKit
set_option linter.unusedVariables false
set_option linter.unusedSimpArgs false

/-- What an act comes to. -/
def DoPost (w : World) (B f lb g qb : Nat) (v : Value) (Q : Qw) (F : Fo) (T : Nat) (e : Ending) (w' : World) : Prop :=
  e = .returned (.bool true) ∧ ∃ v' Q' F', Joint w' B f lb g qb v' Q' F' (T + 4096) ∧ F'.n = F.n ∧ Apart (jm f lb g qb v) w w' ∧ (∀ k, jf f lb g qb F'.n v' Q' k → jf f lb g qb F.n v Q k ∨ w.heap.size ≤ k) ∧ ∀ k, jm f lb g qb v' k → jm f lb g qb v k ∨ w.heap.size ≤ k
section
variable {w w1 w' : World} {B f lb g qb : Nat} {v : Value} {Q : Qw} {F : Fo} {T : Nat}
theorem do_same (h : Joint w B f lb g qb v Q F T) (hb : Below w.heap.size w w') : DoPost w B f lb g qb v Q F T (.returned (.bool true)) w' :=
  ⟨rfl, v, Q, F, (h.below hb).more (by omega), rfl, Apart.of_below hb, fun k hk => .inl hk, fun k hk => .inl hk⟩
theorem do_step {w2 w3 : World} {v' : Value} {Q' : Qw} {F' : Fo} {T' : Nat} (h : Joint w B f lb g qb v Q F T) (hb : Below w.heap.size w w1) (ha : Apart (own3 f lb v) w1 w2) (hf : Fresh w1 v v') (hp : Prg w2 f lb v' F')
    (hc : Apart (own2 g qb) w2 w3) (hr : Ref w3 g qb Q' F' T') (hn : ∀ k, Q'.blk F'.n k → Q.blk F.n k ∨ w2.heap.size ≤ k) (hT : T' ≤ T + 4096) (hF : F'.n = F.n) (hb3 : Below w3.heap.size w3 w') : DoPost w B f lb g qb v Q F T (.returned (.bool true)) w' := by
  obtain ⟨h1, h2, h3⟩ := (h.below hb).step ha hf hp hc hr hn
  refine ⟨rfl, v', Q', F', (h1.below hb3).more hT, hF, ((Apart.of_below hb).trans h2 (fun _ _ hk => hk)).trans (Apart.of_below (S := jm f lb g qb v) hb3) (fun _ _ hk => hk), fun k hk => ?_, fun k hk => ?_⟩
  · rcases h3 k hk with e | e
    · exact .inl e
    · exact .inr (Nat.le_trans hb.size e)
  · rcases hk with (e | e | e) | e
    · exact .inl (.inl (.inl e))
    · exact .inl (.inl (.inr (.inl e)))
    · rcases hf k e with e2 | e2
      · exact .inl (.inl (.inr (.inr e2)))
      · exact .inr (Nat.le_trans hb.size e2)
    · exact .inl (.inr e)
/-- The reference behind a step of the program. -/
theorem ref_behind {w2 : World} (h : Joint w B f lb g qb v Q F T) (ha : Apart (own3 f lb v) w w2) : Ref w2 g qb Q F T := h.ref.apart ha fun k hk hk' => h.sep k hk' hk
theorem box_behind {w2 : World} {b : Nat} {t : TypeId} {cs : Array Value} (h : Joint w B f lb g qb v Q F T) (hb : Below w.heap.size w w1) (hg : w.heap.size ≤ b) (hx : Blk w1 b t cs) (ha : Apart (own3 f lb v) w1 w2) : Blk w2 b t cs :=
  (ha.block b hx.lt fun hk => by have := own3_lt h.prg hk; omega).trans hx
end

theorem do_lies {w : World} {B : Nat} {A : Option Addr} {cap : Nat} {K : List Nat} (h : w.ownsRow B 3 1 (.slice A K.length cap) K.length (intV (nats K))) : Lies w A K := by
  unfold Lies Ints
  rw [nats_len]
  exact Reads.of_own h

set_option maxRecDepth 100000 in
set_option maxHeartbeats 2000000 in
theorem do_0 (k b : Int) (B f lb g qb : Nat) (v : Value) (Q : Qw) (F : Fo) (T : Nat) (w : World) (h : Joint w B f lb g qb v Q F T) (k1 : k ≠ 1) (k2 : k ≠ 2) (k3 : k ≠ 3) :
    Calls Try.prog 18 #[.pointer (some ⟨f, 0, none⟩), .pointer (some ⟨g, 0, none⟩), .agg #[.int .i64 k, .int .i64 b]] w (DoPost w B f lb g qb v Q F T) := by
  have e1 : (k == 1) = false := by simpa using k1
  have e2 : (k == 2) = false := by simpa using k2
  have e3 : (k == 3) = false := by simpa using k3
  have HP := Lib.hid (do_same h ((Below.refl _ w).alloc (Nat.le_refl _) (.cells #[.int .i64 k, .int .i64 b] 42)))
  clear h k1 k2 k3
  go_enter Try.func18, Try.ntmps18
  go_wp2
  go_ret
  exact HP.out

set_option maxRecDepth 100000 in
set_option maxHeartbeats 2000000 in
theorem do_1 (b : Int) (B f lb g qb : Nat) (v : Value) (Q : Qw) (F : Fo) (T : Nat) (w : World) (h : Joint w B f lb g qb v Q F T) :
    Calls Try.prog 18 #[.pointer (some ⟨f, 0, none⟩), .pointer (some ⟨g, 0, none⟩), .agg #[.int .i64 1, .int .i64 b]] w (DoPost w B f lb g qb v Q F T) := by
  have hb1 : Below w.heap.size w (w.alloc (.cells #[.int .i64 1, .int .i64 b] 42)) := (Below.refl _ w).alloc (Nat.le_refl _) _
  have hbx := Blk.new w 42 #[.int .i64 1, .int .i64 b]
  have H1 := h.below hb1
  have HH := Lib.hid (And.intro h (And.intro hb1 H1))
  by_cases hp : 0 ≤ b ∧ F.has b = false
  · have CP := prg_add_no H1.prg b hp.1 hp.2
    obtain ⟨lc, hq⟩ := H1.ref.qf
    have CQ := refAdd_no hq b hp.1 (by rw [has_qrep H1.ref.rep H1.prg.wf]; exact hp.2)
    clear hp hq H1 h hb1 hbx
    go_enter Try.func18, Try.ntmps18
    go_wp2_with (first | (go_at_call 11; refine CP.mono ?_; rintro e w' ⟨rfl, rfl⟩) | (go_at_call 38; refine CQ.mono ?_; rintro e w' ⟨rfl, rfl⟩))
    go_ret
    exact do_same HH.out.1 HH.out.2.1
  · have hp' : 0 ≤ b → F.has b = true := fun h0 => by
      cases hb : F.has b
      · exact absurd ⟨h0, hb⟩ hp
      · rfl
    clear hp
    rcases hl : F.free.getLast? with _ | x
    · have hf : F.free = [] := List.getLast?_eq_none_iff.1 hl
      have CP := prg_add_full H1.prg b hf hp'
      have CQ := ref_add_full H1.ref H1.prg.wf b hp' hf
      clear hp' hl hf H1 h hb1 hbx
      go_enter Try.func18, Try.ntmps18
      go_wp2_with (first | (go_at_call 11; refine CP.mono ?_; rintro e w' ⟨rfl, rfl⟩) | (go_at_call 38; refine CQ.mono ?_; rintro e w' ⟨rfl, m, rfl⟩))
      go_ret
      exact do_same HH.out.1 (HH.out.2.1.trans (below_drewN _ _ m))
    · have CP := prg_add H1.prg hl b hp'
      have HX := Lib.hid (And.intro hl hp')
      have HB := Lib.hid hbx
      obtain ⟨w1, hw1⟩ : ∃ w1, w1 = w.alloc (.cells #[.int .i64 1, .int .i64 b] 42) := ⟨_, rfl⟩
      rw [← hw1] at CP HB HH
      have HW1 := Lib.hid hw1
      clear hp' hl H1 h hb1 hbx hw1
      go_enter Try.func18, Try.ntmps18
      go_wp2_with (first | (go_at_call 11; rw [← HW1.out]; refine CP.mono ?_; rintro e w2 ⟨rfl, v2, h1, h2, h3⟩; (have hx2 := box_behind HH.out.1 HH.out.2.1 (Nat.le_refl _) HB.out h3); (have HP := Lib.hid (And.intro h1 (And.intro h2 h3))); (have x1 := hx2.cell 1); simp only [List.getElem?_toArray, List.getElem?_cons_zero, List.getElem?_cons_succ] at x1; clear h1 h2 h3 hx2) | (go_at_call 38; refine (ref_add (ref_behind HH.out.2.2 HP.out.2.2) HH.out.2.2.prg.wf b HX.out.2 HX.out.1).mono ?_; rintro e w3 ⟨rfl, Q3, h1, h2, h3⟩; (have HQ := Lib.hid (And.intro h1 (And.intro h2 h3))); clear h1 h2 h3))
      go_ret
      exact do_step HH.out.1 HH.out.2.1 HP.out.2.2 HP.out.2.1 HP.out.1 HQ.out.2.2 HQ.out.1 HQ.out.2.1 (by omega) rfl (Below.refl _ _)

set_option maxRecDepth 100000 in
set_option maxHeartbeats 2000000 in
theorem do_2 (b : Int) (B f lb g qb : Nat) (v : Value) (Q : Qw) (F : Fo) (T : Nat) (hT : T ≤ 900000000) (w : World) (h : Joint w B f lb g qb v Q F T) :
    Calls Try.prog 18 #[.pointer (some ⟨f, 0, none⟩), .pointer (some ⟨g, 0, none⟩), .agg #[.int .i64 2, .int .i64 b]] w (DoPost w B f lb g qb v Q F T) := by
  have hb1 : Below w.heap.size w (w.alloc (.cells #[.int .i64 2, .int .i64 b] 42)).drew := ((Below.refl _ w).alloc (Nat.le_refl _) _).drew
  have hbx : Blk (w.alloc (.cells #[.int .i64 2, .int .i64 b] 42)).drew w.heap.size 42 #[.int .i64 2, .int .i64 b] := (Blk.new w 42 #[.int .i64 2, .int .i64 b]).drew
  have H1 := h.below hb1
  have HH := Lib.hid (And.intro h (And.intro hb1 H1))
  have HB := Lib.hid hbx
  by_cases hp : F.has b = true
  · obtain ⟨x, rfl, hx⟩ := has_nat hp
    have CP := drop_is H1.prg x hx
    have HX := Lib.hid hx
    clear hp H1 h hb1 hbx hx
    go_enter Try.func18, Try.ntmps18
    go_wp2_with fail
    go_region_held3 (fun w' => w'.cell? ⟨w.heap.size, 1, none⟩ = some (.int .i64 x)) (go_keep) (first | (go_at_call 21; refine CP.mono ?_; rintro e w2 ⟨rfl, v2, h1, h2, h3⟩; (have hx2 := box_behind HH.out.1 HH.out.2.1 (Nat.le_refl _) HB.out h3); (have HP := Lib.hid (And.intro h1 (And.intro h2 h3))); (have hx0 := hx2.cell 1); simp only [List.getElem?_toArray, List.getElem?_cons_zero, List.getElem?_cons_succ] at hx0; (have HB2 := Lib.hid hx2); clear h1 h2 h3 hx2) | (go_at_call 39; refine (refDrop_is (ref_behind HH.out.2.2 HP.out.2.2) HH.out.2.2.prg.wf hT x HX.out).mono ?_; rintro e w3 ⟨rfl, Q3, h1, h2, h3⟩; (have hx3 := (h3.block w.heap.size HB2.out.lt (fun hk => by have := HH.out.1.lt (k := w.heap.size) (.inr (.inl hk)); omega)).trans HB2.out); (have hx0' := Blk.cell hx3 1); simp only [List.getElem?_toArray, List.getElem?_cons_zero, List.getElem?_cons_succ] at hx0'; (have HQ := Lib.hid (And.intro h1 (And.intro h2 h3))); clear h1 h2 h3 hx3))
    all_goals
      go_wp2
      go_ret
      exact do_step HH.out.1 HH.out.2.1 HP.out.2.2 HP.out.2.1 HP.out.1 HQ.out.2.2 HQ.out.1 HQ.out.2.1 (by omega) rfl (Below.refl _ _)
  · have hp' : F.has b = false := by simpa using hp
    have CP := prg_drop_no H1.prg b hp'
    obtain ⟨lc, hq⟩ := H1.ref.qf
    have CQ := refDrop_no hq b (by rw [has_qrep H1.ref.rep H1.prg.wf]; exact hp')
    clear hp hp' hq H1 h hb1 hbx
    have x0 := HB.out.cell 1
    simp only [List.getElem?_toArray, List.getElem?_cons_zero, List.getElem?_cons_succ] at x0
    go_enter Try.func18, Try.ntmps18
    go_wp2_with fail
    go_region_held3 (fun w' => w'.cell? ⟨w.heap.size, 1, none⟩ = some (.int .i64 b)) (go_keep) (first | (go_at_call 21; refine CP.mono ?_; rintro e w2 ⟨rfl, rfl⟩; have hx0 := x0) | (go_at_call 39; refine CQ.mono ?_; rintro e w3 ⟨rfl, rfl⟩; have hx0 := x0))
    all_goals
      go_wp2
      go_ret
      exact do_same HH.out.1 HH.out.2.1

set_option maxRecDepth 100000 in
set_option maxHeartbeats 2000000 in
theorem do_3 (b : Int) (B f lb g qb : Nat) (v : Value) (Q : Qw) (F : Fo) (T : Nat) (hT : T ≤ 900000000) (w : World) (h : Joint w B f lb g qb v Q F T) :
    Calls Try.prog 18 #[.pointer (some ⟨f, 0, none⟩), .pointer (some ⟨g, 0, none⟩), .agg #[.int .i64 3, .int .i64 b]] w (DoPost w B f lb g qb v Q F T) := by
  have hb1 : Below w.heap.size w (w.alloc (.cells #[.int .i64 3, .int .i64 b] 42)) := (Below.refl _ w).alloc (Nat.le_refl _) _
  have hbx := Blk.new w 42 #[.int .i64 3, .int .i64 b]
  have H1 := h.below hb1
  have HH := Lib.hid (And.intro h (And.intro hb1 H1))
  have HB := Lib.hid hbx
  by_cases hp : F.has b = true
  · obtain ⟨x, rfl, hx⟩ := has_nat hp
    have hF := H1.prg.wf
    obtain ⟨ds, hfl⟩ := flat_ex hF (F.kids (x : Int)) (fun i hi => ((hF.kin _ _).1 hi).1)
    have CP := prune_is H1.prg x hx hfl
    have hdl := desc_len hF hfl
    obtain ⟨lc, hq⟩ := H1.ref.qf
    have hn2 := hq.n2
    have HX := Lib.hid (And.intro hx (And.intro hF hfl))
    have HLT := Lib.hid (fun k (hk : own2 g qb k) => H1.lt (k := k) (jm_jf (v := v) (.inr hk)))
    obtain ⟨w1, hw1⟩ : ∃ w1, w1 = w.alloc (.cells #[.int .i64 3, .int .i64 x] 42) := ⟨_, rfl⟩
    rw [← hw1] at CP HB HH HLT
    have HW1 := Lib.hid hw1
    clear hp H1 h hb1 hbx hx hw1 hF hfl hq
    go_enter Try.func18, Try.ntmps18
    go_wp2_with (first | (go_at_call 14; rw [← HW1.out]; refine CP.mono ?_; rintro e w2 ⟨A, cap, rfl, ho, v2, h1, h2, h3, -⟩; (have hx2 := box_behind HH.out.1 HH.out.2.1 (Nat.le_refl _) HB.out h3); (have HP := Lib.hid (And.intro h1 (And.intro h2 (And.intro h3 ho)))); (have x1 := hx2.cell 1); simp only [List.getElem?_toArray, List.getElem?_cons_zero, List.getElem?_cons_succ] at x1; clear h1 h2 h3 hx2 ho) | (go_at_call 40; refine (refPrune_is (ref_behind HH.out.2.2 HP.out.2.2.1) HX.out.2.1 hT x HX.out.1 HX.out.2.2).mono ?_; rintro e w3 ⟨⟨A', cap', rfl, ho⟩, Q3, h1, h2, h3⟩; (have hr := own_apart HP.out.2.2.2 h3 (fun j e hk => by have h8 := (HP.out.2.2.2.lt j e).1; have h9 := HLT.out j hk; omega)); (have HQ := Lib.hid (And.intro h1 (And.intro h2 (And.intro h3 (And.intro (lies_own ho) hr))))); clear h1 h2 h3 ho hr) | (go_at_call 26; refine (lies_ints (K := ds) (K' := ds) cap cap' (do_lies HQ.out.2.2.2.2) HQ.out.2.2.2.1 (by omega) (by omega)).mono ?_; rintro e w4 ⟨rfl, m, rfl⟩))
    go_ret
    exact ⟨by simp, (do_step HH.out.1 HH.out.2.1 HP.out.2.2.1 HP.out.2.1 HP.out.1 HQ.out.2.2.1 HQ.out.1 HQ.out.2.1 (by omega) rfl (below_drewN _ _ m)).2⟩
  · have hp' : F.has b = false := by simpa using hp
    have CP := prune_no H1.prg b hp'
    obtain ⟨lc, hq⟩ := H1.ref.qf
    have CQ := refPrune_no hq b (by rw [has_qrep H1.ref.rep H1.prg.wf]; exact hp')
    have CI := ints_is none none 0 0 0 0 [] [] (w.alloc (.cells #[.int .i64 3, .int .i64 b] 42)) Reads.none_ Reads.none_ (by simp) (by simp)
    clear hp hp' hq H1 h hb1 hbx
    go_enter Try.func18, Try.ntmps18
    go_wp2_with (first | (go_at_call 14; refine CP.mono ?_; rintro e w' ⟨rfl, rfl⟩) | (go_at_call 40; refine CQ.mono ?_; rintro e w' ⟨rfl, rfl⟩) | (go_at_call 26; refine CI.mono ?_; rintro e w' ⟨rfl, m, rfl⟩))
    go_ret
    exact do_same HH.out.1 (HH.out.2.1.trans (below_drewN _ _ m))

/-- Any act. -/
theorem do_is (k b : Int) (B f lb g qb : Nat) (v : Value) (Q : Qw) (F : Fo) (T : Nat) (hT : T ≤ 900000000) (w : World) (h : Joint w B f lb g qb v Q F T) :
    Calls Try.prog 18 #[.pointer (some ⟨f, 0, none⟩), .pointer (some ⟨g, 0, none⟩), .agg #[.int .i64 k, .int .i64 b]] w (DoPost w B f lb g qb v Q F T) := by
  by_cases k1 : k = 1
  · subst k1; exact do_1 b B f lb g qb v Q F T w h
  by_cases k2 : k = 2
  · subst k2; exact do_2 b B f lb g qb v Q F T hT w h
  by_cases k3 : k = 3
  · subst k3; exact do_3 b B f lb g qb v Q F T hT w h
  exact do_0 k b B f lb g qb v Q F T w h k1 k2 k3
end Go.Proofs.Ytoihldagpnkfoaa
