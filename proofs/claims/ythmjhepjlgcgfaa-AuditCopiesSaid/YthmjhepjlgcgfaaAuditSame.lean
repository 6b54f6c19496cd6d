/- Same of the reference: whether two rows of records are the same, by a walk. -/
import Derived.Test.YthmjhepjlgcgfaaAuditEq
import Derived.Test.YthmjhepjlgcgfaaAuditRefPut
namespace Go.Proofs.Ythmjhepjlgcgfaa
open Go.RowKit
set_option linter.unusedVariables false
set_option linter.unusedSimpArgs false

/-- A slice whose records lie in memory, one behind the other. -/
def RowAt (w : World) (B : Nat) (A : Option Addr) (L : List Rec) : Prop :=
  L ≠ [] → ∃ g o, A = some ⟨g, o, none⟩ ∧ g < B ∧ ∀ i (h : i < L.length), RecAt w g (o + i * 12) (L[i]'h)

theorem RowAt.below {w w' : World} {B : Nat} {A : Option Addr} {L : List Rec} (h : RowAt w B A L) (hb : Below B w w') : RowAt w' B A L := fun hne => by
  obtain ⟨g, o, hA, hg, hr⟩ := h hne
  exact ⟨g, o, hA, hg, fun i hi => (hr i hi).block (hb.block g hg)⟩

theorem rec_add {w : World} {g o : Nat} {r : Rec} {xs : List Value} {k : Nat} (h : ∀ j u, xs[j]? = some u → w.cell? ⟨g, o + j, none⟩ = some u) (hx : ∀ j, j < 12 → xs[k + j]? = r.vs[j]?) : RecAt w g (o + k) r :=
  recAt_of fun j hj => by
    have hj' : j < 12 := by simpa [Rec.vs] using hj
    rw [Nat.add_assoc]
    exact h (k + j) _ (by rw [hx j hj', List.getElem?_eq_getElem hj])

theorem flat_get (L : List Rec) (i : Nat) (h : i < L.length) (j : Nat) (hj : j < 12) : (L.flatMap Rec.vs)[i * 12 + j]? = (L[i]'h).vs[j]? := by
  induction L generalizing i with
  | nil => simp at h
  | cons r L ih =>
    have hl : r.vs.length = 12 := by simp [Rec.vs]
    rw [List.flatMap_cons]
    cases i with
    | zero => rw [List.getElem?_append_left (by omega)]; simp
    | succ i =>
      rw [List.getElem?_append_right (by omega), hl, show (i + 1) * 12 + j - 12 = i * 12 + j from by omega]
      exact ih i (by simpa using h)

theorem flat_len (L : List Rec) : (L.flatMap Rec.vs).length = L.length * 12 := by
  induction L with
  | nil => rfl
  | cons r L ih => rw [List.flatMap_cons, List.length_append, ih]; simp [Rec.vs]; omega

theorem rowAt_own {w : World} {base : Nat} {A : Option Addr} {L : List Rec} {cap : Nat} (h : w.ownsRow base 42 12 (.slice A L.length cap) L.length (L.flatMap Rec.vs)) : RowAt w w.heap.size A L := fun hne => by
  have hn : 0 < L.length := by cases L; exact absurd rfl hne; simp
  obtain ⟨g, cap', hv, _, hlt⟩ := h.form hn
  have hA : A = some ⟨g, 0, none⟩ := by injection hv
  subst hA
  have hc := h.cells (g := g) rfl
  have hadd : ∀ j, (⟨g, 0, none⟩ : Addr).add j = ⟨g, j, none⟩ := fun j => by unfold Addr.add; split <;> simp_all
  refine ⟨g, 0, rfl, hlt, fun i hi => rec_add (xs := L.flatMap Rec.vs) (fun j u hu => ?_) (fun j hj => flat_get L i hi j hj)⟩
  have q := hc j u hu
  rw [hadd] at q
  rw [Nat.zero_add]
  exact q

theorem rowAt_cut {w : World} {B : Nat} {A : Option Addr} {L : List Rec} {cap k : Nat} (h : RowAt w B A L) (hk : k ≤ L.length) (hc : L.length ≤ cap) :
    RowAt w B (if cap = k then A else A.map (·.add (k * 12))) (L.drop k) := fun hne => by
  have hlt : k < L.length := by
    rcases Nat.lt_or_ge k L.length with h1 | h1
    · exact h1
    · exact absurd (List.drop_eq_nil_of_le h1) hne
  obtain ⟨g, o, rfl, hg, hr⟩ := h (fun e => by rw [e] at hlt; simp at hlt)
  rw [if_neg (by omega)]
  have hadd : ∀ j, (⟨g, o, none⟩ : Addr).add j = ⟨g, o + j, none⟩ := fun j => by unfold Addr.add; split <;> simp_all
  refine ⟨g, o + k * 12, by simp [hadd], hg, fun i hi => ?_⟩
  have hi' : k + i < L.length := by simp at hi; omega
  have q := hr (k + i) hi'
  rw [show o + (k + i) * 12 = o + k * 12 + i * 12 from by omega] at q
  simpa using q

set_option maxRecDepth 100000 in
set_option maxHeartbeats 2000000 in
theorem refSame_loop (g1 o1 c1 g2 o2 c2 : Nat) (A B : List Rec) (w : World) (h1 : A.length ≤ 1000) (h0 : 0 < A.length)
    (hA : ∀ i (h : i < A.length), RecAt w g1 (o1 + i * 12) (A[i]'h)) (hB : ∀ i (h : i < B.length), RecAt w g2 (o2 + i * 12) (B[i]'h)) (hl : A.length = B.length) :
    Calls Try.prog 20 #[.slice (some ⟨g1, o1, none⟩) A.length c1, .slice (some ⟨g2, o2, none⟩) B.length c2] w fun e w' => e = .returned (.bool (decide (A = B))) ∧ ∃ n, w' = w.drewN n := by
  have HL := Lib.hid hl
  have hle : ((A.length : Int) != (B.length : Int)) = false := by rw [hl]; simp
  obtain ⟨res, hres⟩ : ∃ res, res = decide (A = B) := ⟨_, rfl⟩
  rw [← hres]
  have HRES := Lib.hid hres
  clear hl hres
  go_enter Try.func20, Try.ntmps20
  go_wp2
  go_loopw [5] (fun i wr => ∃ k : Nat, k ≤ A.length ∧ i = .int .i64 k ∧ (∃ n, wr = w.drewN n) ∧ A.take k = B.take k) (fun i _ => A.length - (intOf i).toNat)
  case atStart => exact ⟨0, Nat.zero_le _, rfl, ⟨0, rfl⟩, by simp⟩
  case round =>
    obtain ⟨k, hk, rfl, ⟨n, rfl⟩, htake⟩ := hrel
    have HT := Lib.hid htake
    clear htake
    by_cases hlt : k < A.length
    · have hlb : k < B.length := by rw [← HL.out]; exact hlt
      have ha := hA k hlt
      have hb := hB k hlb
      clear hA hB
      obtain ⟨x, hx⟩ : ∃ x, x = A[k]'hlt := ⟨_, rfl⟩
      obtain ⟨y, hy⟩ : ∃ y, y = B[k]'hlb := ⟨_, rfl⟩
      rw [← hx] at ha
      rw [← hy] at hb
      have HX := Lib.hid hx
      have HY := Lib.hid hy
      clear hx hy
      obtain ⟨a0, a1, a2, a3, a4, a5, a6, a7, a8, a9, a10, a11⟩ := ha
      obtain ⟨b0, b1, b2, b3, b4, b5, b6, b7, b8, b9, b10, b11⟩ := hb
      have hlt' : (k : Int) < A.length := by omega
      have hlb' : (k : Int) < B.length := by omega
      have hk0 : (0 : Int) ≤ (k : Int) := by omega
      by_cases hxy : x = y
      · have hq : ∀ w', (binOp .neq 42 (.agg #[.int .u64 x.sq, .int .u64 x.tm, .int .i64 x.gi, .int .u64 x.gg, .int .i64 x.p, .int .i64 x.kd, .int .u64 x.a0, .int .u64 x.a1, .int .u64 x.a2, .int .u64 x.a3, .int .u64 x.a4, .int .i64 x.cd]) (.agg #[.int .u64 y.sq, .int .u64 y.tm, .int .i64 y.gi, .int .u64 y.gg, .int .i64 y.p, .int .i64 y.kd, .int .u64 y.a0, .int .u64 y.a1, .int .u64 y.a2, .int .u64 y.a3, .int .u64 y.a4, .int .i64 y.cd])).run Try.prog w' = .ok (.bool false) w' := fun w' => by
          have := rec_neq x y w'
          rw [decide_eq_true hxy] at this
          exact this
        have HXY := Lib.hid hxy
        clear hxy
        go_wp2_with fail
        go_quiet (fail)
        go_wp2
        go_roundw
        case rel =>
          refine ⟨k + 1, by omega, by go_num, ⟨n + nq, by simp [World.drewN, Nat.add_assoc]⟩, ?_⟩
          rw [List.take_succ_eq_append_getElem hlt, List.take_succ_eq_append_getElem hlb, HT.out, ← HX.out, ← HY.out, HXY.out]
        case measure => simp [intOf]; omega
      · have hq : ∀ w', (binOp .neq 42 (.agg #[.int .u64 x.sq, .int .u64 x.tm, .int .i64 x.gi, .int .u64 x.gg, .int .i64 x.p, .int .i64 x.kd, .int .u64 x.a0, .int .u64 x.a1, .int .u64 x.a2, .int .u64 x.a3, .int .u64 x.a4, .int .i64 x.cd]) (.agg #[.int .u64 y.sq, .int .u64 y.tm, .int .i64 y.gi, .int .u64 y.gg, .int .i64 y.p, .int .i64 y.kd, .int .u64 y.a0, .int .u64 y.a1, .int .u64 y.a2, .int .u64 y.a3, .int .u64 y.a4, .int .i64 y.cd])).run Try.prog w' = .ok (.bool true) w' := fun w' => by
          have := rec_neq x y w'
          rw [decide_eq_false hxy] at this
          exact this
        have hr : res = false := by
          rw [HRES.out, decide_eq_false_iff_not]
          intro e
          apply hxy
          rw [HX.out, HY.out]
          subst e
          rfl
        have HXY := Lib.hid hxy
        clear hxy HRES
        subst hr
        go_wp2_with fail
        go_quiet (fail)
        go_wp2
        go_ret
        exact ⟨rfl, n + nq, by simp [World.drewN, Nat.add_assoc]⟩
    · have hkl : k = A.length := by omega
      have hr : res = true := by
        rw [HRES.out, decide_eq_true_iff]
        have q := HT.out
        rw [hkl, List.take_length, HL.out, List.take_length] at q
        exact q
      clear HRES
      subst hr
      subst hkl
      clear hA hB
      go_wp2
      go_ret
      exact ⟨rfl, n, rfl⟩

set_option maxRecDepth 100000 in
set_option maxHeartbeats 1000000 in
theorem refSame_row (B1 B2 : Nat) (A1 A2 : Option Addr) (c1 c2 : Nat) (A B : List Rec) (w : World) (h1 : A.length ≤ 1000) (hB1 : B.length ≤ 1000) (hA : RowAt w B1 A1 A) (hB : RowAt w B2 A2 B) :
    Calls Try.prog 20 #[.slice A1 A.length c1, .slice A2 B.length c2] w fun e w' => e = .returned (.bool (decide (A = B))) ∧ ∃ n, w' = w.drewN n := by
  by_cases hl : A.length = B.length
  · by_cases h0 : 0 < A.length
    · obtain ⟨g1, o1, rfl, _, hr1⟩ := hA (fun e => by rw [e] at h0; simp at h0)
      obtain ⟨g2, o2, rfl, _, hr2⟩ := hB (fun e => by rw [hl, e] at h0; simp at h0)
      exact refSame_loop g1 o1 c1 g2 o2 c2 A B w h1 h0 hr1 hr2 hl
    · have eA : A = [] := List.eq_nil_of_length_eq_zero (by omega)
      have eB : B = [] := List.eq_nil_of_length_eq_zero (by omega)
      subst eA
      subst eB
      clear hA hB
      rw [decide_eq_true rfl]
      go_enter Try.func20, Try.ntmps20
      go_wp2
      go_loopw [5] (fun i wr => i = .int .i64 0 ∧ wr = w) (fun i _ => 0)
      case atStart => exact ⟨rfl, rfl⟩
      case round =>
        obtain ⟨rfl, rfl⟩ := hrel
        go_wp2
        go_ret
        exact ⟨rfl, 0, rfl⟩
  · have hne : decide (A = B) = false := by rw [decide_eq_false_iff_not]; intro e; exact hl (by rw [e])
    rw [hne]
    have hle : ((A.length : Int) != (B.length : Int)) = true := by simp; omega
    clear hA hB hne hl
    go_enter Try.func20, Try.ntmps20
    go_wp2
    go_ret
    exact ⟨rfl, 0, rfl⟩
end Go.Proofs.Ythmjhepjlgcgfaa
