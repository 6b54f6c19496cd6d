/- The program's forest by its forest alone: each function's contract in these words; much, by walks. -/
import Derived.Test.YtoihldagpnkfoaaTreeSame
namespace Go.Proofs.Ytoihldagpnkfoaa
open Go.RowKit
set_option linter.unusedVariables false
set_option linter.unusedSimpArgs false

set_option maxHeartbeats 1000000 in
theorem desc_no {w : World} {f lb : Nat} {v : Value} {F : Fo} (h : Prg w f lb v F) (x : Int) (hx : F.has x = false) :
    Calls Try.prog 12 #[.pointer (some ⟨f, 0, none⟩), .int .i64 x] w fun e w' => e = .returned (.slice none 0 0) ∧ w = w' := by
  obtain ⟨lc, R, hp, hR⟩ := h.ps
  have CX := has_is hp.pf x
  rw [has_rep hR h.wf, hx] at CX
  clear hp hR h hx
  go_enter Try.func12, Try.ntmps12
  go_wp2_with fail
  go_step3
  go_wp2_with (go_at_call 24; refine CX.mono ?_; rintro e w' ⟨rfl, rfl⟩)
  try rw [Exit.noGoto_ret]
  go_ret
  exact ⟨rfl, rfl⟩

section
variable {w : World} {f lb : Nat} {v : Value} {F : Fo}
theorem prg_has (h : Prg w f lb v F) (x : Int) : Calls Try.prog 24 #[.pointer (some ⟨f, 0, none⟩), .int .i64 x] w fun e w' => e = .returned (.bool (F.has x)) ∧ w = w' := by
  obtain ⟨lc, R, hp, hR⟩ := h.ps
  have := has_is hp.pf x
  rwa [has_rep hR h.wf] at this
theorem prg_parent (h : Prg w f lb v F) (x : Int) : Calls Try.prog 28 #[.pointer (some ⟨f, 0, none⟩), .int .i64 x] w fun e w' => e = .returned (.tuple #[.int .i64 (F.up? x).1, .bool (F.up? x).2]) ∧ w = w' := by
  obtain ⟨lc, R, hp, hR⟩ := h.ps
  exact parent_is hp.pf hR h.wf x
theorem prg_len (h : Prg w f lb v F) : Calls Try.prog 15 #[.pointer (some ⟨f, 0, none⟩)] w fun e w' => e = .returned (.int .i64 ((F.n - F.free.length : Nat) : Int)) ∧ w = w' := by
  obtain ⟨lc, R, hp, hR⟩ := h.ps
  obtain ⟨A, cap, rfl⟩ := hp.cut.slice
  have := len_is hp.pf (by rw [nats_len]; exact free_le h.wf)
  rwa [nats_len] at this
theorem prg_size (h : Prg w f lb v F) : Calls Try.prog 31 #[.pointer (some ⟨f, 0, none⟩)] w fun e w' => e = .returned (.int .i64 F.n) ∧ w = w' := by
  obtain ⟨lc, R, hp, hR⟩ := h.ps
  exact size_is hp.pf
/-- A row of the call's own. -/
def RowPost (w : World) (K : List Nat) (e : Ending) (w' : World) : Prop := (∃ A cap, e = .returned (.slice A K.length cap) ∧ w'.ownsRow w.heap.size 3 1 (.slice A K.length cap) K.length (intV (nats K))) ∧ Below w.heap.size w w'
theorem prg_roots (h : Prg w f lb v F) : Calls Try.prog 27 #[.pointer (some ⟨f, 0, none⟩)] w (RowPost w (F.kids (-1))) := by
  obtain ⟨lc, R, hp, hR⟩ := h.ps
  exact roots_is hp.pf hR h.wf
theorem prg_children (h : Prg w f lb v F) (k : Nat) (hk : F.there k = true) : Calls Try.prog 25 #[.pointer (some ⟨f, 0, none⟩), .int .i64 k] w (RowPost w (F.kids k)) := by
  obtain ⟨lc, R, hp, hR⟩ := h.ps
  exact children_is hp.pf hR h.wf k hk
theorem prg_children_no (h : Prg w f lb v F) (x : Int) (hx : F.has x = false) : Calls Try.prog 25 #[.pointer (some ⟨f, 0, none⟩), .int .i64 x] w fun e w' => e = .returned (.slice none 0 0) ∧ w = w' := by
  obtain ⟨lc, R, hp, hR⟩ := h.ps
  exact children_no hp.pf hR h.wf x hx
theorem prg_desc (h : Prg w f lb v F) (x : Nat) (hx : F.there x = true) {ds : List Nat} (hd : Flat F (F.kids (x : Int)) ds) : Calls Try.prog 12 #[.pointer (some ⟨f, 0, none⟩), .int .i64 x] w (RowPost w ds) := by
  obtain ⟨lc, R, hp, hR⟩ := h.ps
  exact desc_is hp.pf hR h.wf x hx hd
/-- Is the one under the other one? -/
def Fo.under (F : Fo) (x y : Int) : Prop := F.has x = true ∧ F.has y = true ∧ Above F y.toNat x.toNat
theorem prg_under (h : Prg w f lb v F) (x y : Int) : Calls Try.prog 13 #[.pointer (some ⟨f, 0, none⟩), .int .i64 x, .int .i64 y] w fun e w' => (∃ b, e = .returned (.bool b) ∧ (b = true ↔ F.under x y)) ∧ w = w' := by
  obtain ⟨lc, R, hp, hR⟩ := h.ps
  by_cases hxy : F.has x = true ∧ F.has y = true
  · obtain ⟨i, rfl, hi⟩ := has_nat hxy.1
    obtain ⟨j, rfl, hj⟩ := has_nat hxy.2
    refine (under_is hp.pf hR h.wf i j hi hj).mono ?_
    rintro e w' ⟨⟨b, rfl, hb⟩, rfl⟩
    refine ⟨⟨b, rfl, hb.trans ((up_above h.wf hi).trans ?_)⟩, rfl⟩
    simp [Fo.under, Fo.has, hi, hj]
  · refine (under_no hp.pf x y ?_).mono ?_
    · rw [has_rep hR h.wf, has_rep hR h.wf]
      cases h1 : F.has x <;> cases h2 : F.has y <;> simp_all
    · rintro e w' ⟨rfl, rfl⟩
      refine ⟨⟨false, rfl, ?_⟩, rfl⟩
      simp only [Bool.false_eq_true, false_iff]
      exact fun hu => hxy ⟨hu.1, hu.2.1⟩
theorem prg_add (h : Prg w f lb v F) {x : Nat} (hx : F.free.getLast? = some x) (p : Int) (hp : 0 ≤ p → F.has p = true) :
    Calls Try.prog 11 #[.pointer (some ⟨f, 0, none⟩), .int .i64 p] w fun e w' => e = .returned (.tuple #[.int .i64 x, .int .i64 0]) ∧ ∃ v', Prg w' f lb v' (F.add (norm p) x) ∧ Fresh w v v' ∧ Apart (own3 f lb v) w w' := by
  obtain ⟨lc, R, hps, hR⟩ := h.ps
  have hok : F.ok (norm p) := by
    unfold norm
    by_cases h0 : p < 0
    · rw [if_pos h0]; exact .inl rfl
    · rw [if_neg h0]
      obtain ⟨j, rfl, hj⟩ := has_nat (hp (by omega))
      exact .inr ⟨j, rfl, hj⟩
  refine (add_is hps hR h.wf hx p hp).mono ?_
  rintro e w' ⟨he, R', v', h1, h2, h3, h4⟩
  exact ⟨he, v', ⟨⟨lc, R', h1, h2⟩, h.wf.add hok hx⟩, h3, h4⟩
theorem prg_add_no (h : Prg w f lb v F) (p : Int) (h0 : 0 ≤ p) (hp : F.has p = false) : Calls Try.prog 11 #[.pointer (some ⟨f, 0, none⟩), .int .i64 p] w fun e w' => e = .returned (.tuple #[.int .i64 0, .int .i64 4]) ∧ w = w' := by
  obtain ⟨lc, R, hps, hR⟩ := h.ps
  exact add_no hps.pf p h0 (by rw [has_rep hR h.wf]; exact hp)
theorem prg_add_full (h : Prg w f lb v F) (p : Int) (hf : F.free = []) (hp : 0 ≤ p → F.has p = true) : Calls Try.prog 11 #[.pointer (some ⟨f, 0, none⟩), .int .i64 p] w fun e w' => e = .returned (.tuple #[.int .i64 0, .int .i64 3]) ∧ w = w' := by
  obtain ⟨lc, R, hps, hR⟩ := h.ps
  obtain ⟨A, cap, rfl⟩ := hps.cut.slice
  have hl : (nats F.free).length = 0 := by rw [hf]; rfl
  have h1 := hps.pf
  rw [hl] at h1
  exact add_full h1 p (fun h0 => by rw [has_rep hR h.wf]; exact hp h0)
end

/-- Is there more than is gone through here? -/
def Much (s : Int) (l m : Nat) : Prop := 24 < s ∨ s < 1 ∨ m < l
set_option maxHeartbeats 400000 in
theorem much_no (s : Int) (A : Option Addr) (l c m : Nat) (w : World) (h : ¬ Much s l m) : Calls Try.prog 16 #[.int .i64 s, .slice A l c, .int .i64 m] w fun e w' => e = .returned (.bool false) ∧ w = w' := by
  unfold Much at h
  have h1 : ¬ 24 < s := by omega
  have h2 : ¬ s < 1 := by omega
  have h3 : ¬ (m : Int) < (l : Int) := by omega
  have e3 : decide (m < l) = false := by simp; omega
  clear h
  go_enter Try.func16, Try.ntmps16
  go_wp2
  go_ret
  exact ⟨rfl, rfl⟩
set_option maxHeartbeats 400000 in
theorem much_yes (s : Int) (A : Option Addr) (l c m : Nat) (w : World) (h : Much s l m) : Calls Try.prog 16 #[.int .i64 s, .slice A l c, .int .i64 m] w fun e w' => e = .returned (.bool true) ∧ w = w' := by
  unfold Much at h
  have hc : 24 < s ∨ (¬ 24 < s ∧ s < 1) ∨ (¬ 24 < s ∧ ¬ s < 1 ∧ m < l) := by omega
  clear h
  rcases hc with h1 | ⟨h1, h2⟩ | ⟨h1, h2, h3⟩
  · have e1 : decide (24 < s) = true := by simpa using h1
    go_enter Try.func16, Try.ntmps16
    go_wp2
    go_ret
    exact ⟨rfl, rfl⟩
  · have e1 : decide (24 < s) = false := by simpa using h1
    have e2 : decide (s < 1) = true := by simpa using h2
    go_enter Try.func16, Try.ntmps16
    go_wp2
    go_ret
    exact ⟨rfl, rfl⟩
  · have e1 : decide (24 < s) = false := by simpa using h1
    have e2 : decide (s < 1) = false := by simpa using h2
    have e3 : decide (m < l) = true := by simpa using h3
    have h4 : (m : Int) < (l : Int) := by omega
    clear h3
    go_enter Try.func16, Try.ntmps16
    go_wp2
    go_ret
    exact ⟨rfl, rfl⟩
end Go.Proofs.Ytoihldagpnkfoaa
