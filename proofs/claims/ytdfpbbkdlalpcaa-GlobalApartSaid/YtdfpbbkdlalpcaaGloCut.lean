/- The global queue's cut, by walks: the first one of a kind is taken away, or there is none. Conditions: the queue is there, of at most 100000; the closure that tells the kind only reads. -/
import Derived.Test.YtdfpbbkdlalpcaaGloAll
import Derived.LaidEqlPtr
namespace Go.Proofs.Ytdfpbbkdlalpcaa
open Go.RowKit Go.Shelf
attribute [local go_sem] Oper.semAt_some
set_option linter.unusedVariables false
set_option linter.unusedSimpArgs false

def CutI (f : Int → Bool) (N : List (Nat × Int)) (w : World) (q : Nat) (so : Value) (pre : List (Fin N.length)) (W : World) : Prop :=
  (∀ y ∈ pre, f (N[y.val]'y.isLt).2 = false) ∧ Blk W w.heap.size 25 #[.pointer (some ⟨q, 0, none⟩)] ∧ Blk W (w.heap.size + 1) 52 #[so] ∧ Blk W (w.heap.size + 1 + 1) 3 #[.int .i64 0] ∧
  Blk W (w.heap.size + 1 + 1 + 1) 4 #[.bool false] ∧ Blk W (w.heap.size + 1 + 1 + 1 + 1) 25 #[.pointer (some ⟨q, 0, none⟩)] ∧ Below w.heap.size w W
def CutX (f : Int → Bool) (N : List (Nat × Int)) (w : World) (q : Nat) (c : Code) (pre : List (Fin N.length)) (W : World) : Prop :=
  ∃ pre0 x, pre = pre0 ++ [x] ∧ c = .ret ∧ (∀ y ∈ pre0, f (N[y.val]'y.isLt).2 = false) ∧ f (N[x.val]'x.isLt).2 = true ∧ Qu W q (N.eraseIdx x.val) ∧
  Blk W (w.heap.size + 1 + 1) 3 #[.int .i64 (N[x.val]'x.isLt).2] ∧ Blk W (w.heap.size + 1 + 1 + 1) 4 #[.bool true] ∧ Apart (bl q N) w W
theorem cutI_own {B : Nat} (f : Int → Bool) (N : List (Nat × Int)) (w : World) (q : Nat) (so : Value) (hB : w.heap.size ≤ B) : OwnFrom B (CutI f N w q so) :=
  fun s X Y row ⟨h1, h2, h3, h4, h5, h6, h7⟩ hg hr => ⟨h1, blk_kept h2 hg fun r e => (hr r e).2, blk_kept h3 hg fun r e => (hr r e).2, blk_kept h4 hg fun r e => (hr r e).2, blk_kept h5 hg fun r e => (hr r e).2, blk_kept h6 hg fun r e => (hr r e).2,
    ownFrom_below (β := Unit) (Nat.le_refl _) hB () _ _ _ h7 hg hr⟩
theorem cutX_own {B : Nat} (f : Int → Bool) (N : List (Nat × Int)) (w : World) (q : Nat) (hB : w.heap.size ≤ B) (c : Code) : OwnFrom B (CutX f N w q c) :=
  fun s X Y row ⟨p, x, h1, h2, h3, h4, h5, h6, h7, h8⟩ hg hr => ⟨p, x, h1, h2, h3, h4, ownFrom_qu (β := Unit) q (fun _ => N.eraseIdx x.val) () _ _ _ h5 hg hr, blk_kept h6 hg fun r e => (hr r e).2, blk_kept h7 hg fun r e => (hr r e).2,
    ownFrom_apart (β := Unit) hB () _ _ _ h8 hg hr⟩
theorem infoNode : ∃ j, Try.prog.info? 60 = some j ∧ j.size ≠ 0 := by
  have h : (Try.prog.info? 60).map (fun i => i.size) = some 2 := by kernel_rfl
  cases hj : Try.prog.info? 60 with
  | none => rw [hj] at h; cases h
  | some j =>
    rw [hj] at h
    have h2 : j.size = 2 := by simpa using h
    exact ⟨j, rfl, by rw [h2]; decide⟩
theorem fin_prefix {n : Nat} {pre : List (Fin n)} {x : Fin n} (h : pre ++ [x] <+: List.finRange n) : x.val = pre.length ∧ ∀ j (hj : j < n), j < x.val → (⟨j, hj⟩ : Fin n) ∈ pre := by
  obtain ⟨t, ht⟩ := h
  have hl : pre.length < n := by
    have := congrArg List.length ht
    simp at this
    omega
  have hg : ∀ i (hi : i < (pre ++ [x]).length), (pre ++ [x])[i] = (List.finRange n)[i]'(by rw [← ht]; simp at hi ⊢; omega) := fun i hi => by
    simp only [← ht]
    rw [List.getElem_append_left hi]
  have hx := hg pre.length (by simp)
  rw [List.getElem_append_right (Nat.le_refl _)] at hx
  simp at hx
  have hxv : x.val = pre.length := by rw [hx]
  refine ⟨hxv, fun j hj hlt => ?_⟩
  have hj' := hg j (by simp; omega)
  rw [List.getElem_append_left (by omega)] at hj'
  simp at hj'
  rw [← hj']
  exact List.getElem_mem _
/-- What cut comes to. -/
def CutPost (f : Int → Bool) (N : List (Nat × Int)) (w : World) (q : Nat) (e : Ending) (W' : World) : Prop :=
  (∃ i, Hit f (vals N) i ∧ ∃ h : i < N.length, e = .returned (.tuple #[.int .i64 (N[i]).2, .bool true]) ∧ Qu W' q (N.eraseIdx i) ∧ Apart (bl q N) w W') ∨
  (Miss f (vals N) ∧ e = .returned (.tuple #[.int .i64 0, .bool false]) ∧ Below w.heap.size w W')

theorem pt_ptr (o : Option Nat) : ∃ p : Option Addr, pt o = .pointer p := by
  cases o with
  | none => exact ⟨none, rfl⟩
  | some b => exact ⟨some ⟨b, 0, none⟩, rfl⟩
theorem _root_.Go.RowKit.Below.drewN_ {B : Nat} {a w : World} (h : Below B a w) (n : Nat) : Below B a (w.drewN n) := ⟨h.os, h.tape, h.output, h.size, h.block⟩
theorem drewN_keeps (W : World) (n : Nat) : KeepsOthers W (W.drewN n) := ⟨Nat.le_refl _, fun _ _ h _ => h⟩

end Go.Proofs.Ytdfpbbkdlalpcaa
