/- Of the following, one behind the other: Capability tables: the closures of Root, Derive and Move; put where there is no room. By walks. Capability tables: Root, by walk. Capability tables: Derive, by walk. Capability tables: forget, Delete, by walks. Capability tables: Delete, by walk; a space over another forest, over another list. Capability tables: Revoke, by walk. -/
import Derived.Test.YtbknmfegckeogaaPk7
import Derived.Test.YtbknmfegckeogaaPk8
/- Capability tables: the closures of Root, Derive and Move; put where there is no room. By walks. -/
namespace Go.Proofs.Ytbknmfegckeogaa
open Go.RowKit Go.Maps
set_option linter.unusedVariables false
set_option linter.unusedSimpArgs false

section
variable {w : World} {A : Ad} {S : Sp}
set_option maxRecDepth 100000 in
set_option maxHeartbeats 1000000 in
theorem put_full (h : SpAt w A S) (hl : Lim S) (hJ : J S) {up : Nat} {p : Int} {c : Cp} (hup : (up = 0 ∧ p = -1) ∨ ∃ e ∈ S.L, up = e.id ∧ p = (e.nd : Int) ∧ amongI c.r e.c.r = true) (g s : Int) (hf : S.F.free = []) :
    Calls Try.prog 69 #[.pointer (some ⟨A.b, 0, none⟩), .int .i64 p, .int .i64 g, .int .i64 s, capV c] w fun e w' => e = .returned (.int .i64 3) ∧ Below w.heap.size w w' := by
  have hbox := (Below.refl w.heap.size w).alloc (Nat.le_refl _) (.cells #[.int .i64 c.k, .int .i64 c.i, .int .u64 c.n, .int .u8 c.r] 36)
  have h0 := h.below hbox
  have CA := prg_add_full h0.prg p hf (fun hp => by
    rcases hup with ⟨_, rfl⟩ | ⟨e, he, _, rfl, _⟩
    · omega
    · simp [Fo.has, hJ.there_of he])
  obtain ⟨-, -, -, c3f, -⟩ := h0.cells
  clear h0 h hf hup
  unfold capV
  go_enter Try.func69, Try.ntmps69
  go_wp2_with (go_at_call 88; refine CA.mono ?_; rintro e wA ⟨rfl, hwA⟩; subst wA)
  go_ret
  exact ⟨rfl, hbox⟩
set_option maxRecDepth 100000 in
theorem root1 (h : SpAt w A S) (hl : Lim S) {n0 n1 n2 : Nat} {g s : Int} (b0 : w.cell? ⟨n0, 0, none⟩ = some (.pointer (some ⟨A.b, 0, none⟩))) (b1 : w.cell? ⟨n1, 0, none⟩ = some (.int .i64 g)) (b2 : w.cell? ⟨n2, 0, none⟩ = some (.int .i64 s)) :
    Calls Try.prog 65 #[.pointer (some ⟨n0, 0, none⟩), .pointer (some ⟨n1, 0, none⟩), .pointer (some ⟨n2, 0, none⟩)] w fun e w' => e = .returned (.int .i64 (S.freeE g s)) ∧ w = w' := by
  have CF := free_is h hl g s
  clear h
  go_enter Try.func65, Try.ntmps65
  go_wp2_with (go_at_call 32; refine CF.mono ?_; rintro e w' ⟨rfl, rfl⟩)
  go_ret
  exact ⟨rfl, rfl⟩
set_option maxRecDepth 100000 in
theorem derive1 (h : SpAt w A S) (hl : Lim S) {n0 n1 n2 : Nat} {g s : Int} (b0 : w.cell? ⟨n0, 0, none⟩ = some (.pointer (some ⟨A.b, 0, none⟩))) (b1 : w.cell? ⟨n1, 0, none⟩ = some (.int .i64 g)) (b2 : w.cell? ⟨n2, 0, none⟩ = some (.int .i64 s)) :
    Calls Try.prog 70 #[.pointer (some ⟨n0, 0, none⟩), .pointer (some ⟨n1, 0, none⟩), .pointer (some ⟨n2, 0, none⟩)] w fun e w' => e = .returned (.int .i64 (S.full g s)) ∧ w = w' := by
  have CF := full_is h hl g s
  clear h
  go_enter Try.func70, Try.ntmps70
  go_wp2_with (go_at_call 48; refine CF.mono ?_; rintro e w' ⟨rfl, rfl⟩)
  go_ret
  exact ⟨rfl, rfl⟩
set_option maxRecDepth 100000 in
theorem derive2 (h : SpAt w A S) (hl : Lim S) {n0 n1 n2 : Nat} {g s : Int} (b0 : w.cell? ⟨n0, 0, none⟩ = some (.pointer (some ⟨A.b, 0, none⟩))) (b1 : w.cell? ⟨n1, 0, none⟩ = some (.int .i64 g)) (b2 : w.cell? ⟨n2, 0, none⟩ = some (.int .i64 s)) :
    Calls Try.prog 71 #[.pointer (some ⟨n0, 0, none⟩), .pointer (some ⟨n1, 0, none⟩), .pointer (some ⟨n2, 0, none⟩)] w fun e w' => e = .returned (.int .i64 (S.freeE g s)) ∧ w = w' := by
  have CF := free_is h hl g s
  clear h
  go_enter Try.func71, Try.ntmps71
  go_wp2_with (go_at_call 32; refine CF.mono ?_; rintro e w' ⟨rfl, rfl⟩)
  go_ret
  exact ⟨rfl, rfl⟩
set_option maxRecDepth 100000 in
theorem move1 (h : SpAt w A S) (hl : Lim S) {n0 n1 n2 : Nat} {g s : Int} (b0 : w.cell? ⟨n0, 0, none⟩ = some (.pointer (some ⟨A.b, 0, none⟩))) (b1 : w.cell? ⟨n1, 0, none⟩ = some (.int .i64 g)) (b2 : w.cell? ⟨n2, 0, none⟩ = some (.int .i64 s)) :
    Calls Try.prog 63 #[.pointer (some ⟨n0, 0, none⟩), .pointer (some ⟨n1, 0, none⟩), .pointer (some ⟨n2, 0, none⟩)] w fun e w' => e = .returned (.int .i64 (S.full g s)) ∧ w = w' := by
  have CF := full_is h hl g s
  clear h
  go_enter Try.func63, Try.ntmps63
  go_wp2_with (go_at_call 48; refine CF.mono ?_; rintro e w' ⟨rfl, rfl⟩)
  go_ret
  exact ⟨rfl, rfl⟩
set_option maxRecDepth 100000 in
theorem move2 (h : SpAt w A S) (hl : Lim S) {n0 n1 n2 : Nat} {g s : Int} (b0 : w.cell? ⟨n0, 0, none⟩ = some (.pointer (some ⟨A.b, 0, none⟩))) (b1 : w.cell? ⟨n1, 0, none⟩ = some (.int .i64 g)) (b2 : w.cell? ⟨n2, 0, none⟩ = some (.int .i64 s)) :
    Calls Try.prog 64 #[.pointer (some ⟨n0, 0, none⟩), .pointer (some ⟨n1, 0, none⟩), .pointer (some ⟨n2, 0, none⟩)] w fun e w' => e = .returned (.int .i64 (S.freeE g s)) ∧ w = w' := by
  have CF := free_is h hl g s
  clear h
  go_enter Try.func64, Try.ntmps64
  go_wp2_with (go_at_call 32; refine CF.mono ?_; rintro e w' ⟨rfl, rfl⟩)
  go_ret
  exact ⟨rfl, rfl⟩
set_option maxRecDepth 100000 in
theorem root2 {n3 : Nat} {c : Cp} (hn : 0 ≤ c.n) (b3 : Blk w n3 36 #[.int .i64 c.k, .int .i64 c.i, .int .u64 c.n, .int .u8 c.r]) :
    Calls Try.prog 66 #[.pointer (some ⟨n3, 0, none⟩)] w fun e w' => e = .returned (.int .i64 (if mayC c = true then 0 else 2)) ∧ Below w.heap.size w w' := by
  have CF := may_is c hn w
  have d0 := b3.cell 0
  have d1 := b3.cell 1
  have d2 := b3.cell 2
  have d3 := b3.cell 3
  simp only [List.getElem?_toArray, List.getElem?_cons_zero, List.getElem?_cons_succ] at d0 d1 d2 d3
  unfold capV at CF
  clear b3 hn
  generalize (if mayC c = true then (0 : Int) else 2) = E at *
  go_enter Try.func66, Try.ntmps66
  go_wp2_with (go_at_call 67; refine CF.mono ?_; rintro e w' ⟨rfl, hb⟩)
  go_ret
  exact ⟨rfl, hb⟩
set_option maxRecDepth 100000 in
theorem derive3 {n3 : Nat} {c : Cp} (hn : 0 ≤ c.n) (b3 : Blk w n3 36 #[.int .i64 c.k, .int .i64 c.i, .int .u64 c.n, .int .u8 c.r]) :
    Calls Try.prog 72 #[.pointer (some ⟨n3, 0, none⟩)] w fun e w' => e = .returned (.int .i64 (if mayC c = true then 0 else 2)) ∧ Below w.heap.size w w' := by
  have CF := may_is c hn w
  have d0 := b3.cell 0
  have d1 := b3.cell 1
  have d2 := b3.cell 2
  have d3 := b3.cell 3
  simp only [List.getElem?_toArray, List.getElem?_cons_zero, List.getElem?_cons_succ] at d0 d1 d2 d3
  unfold capV at CF
  clear b3 hn
  generalize (if mayC c = true then (0 : Int) else 2) = E at *
  go_enter Try.func72, Try.ntmps72
  go_wp2_with (go_at_call 67; refine CF.mono ?_; rintro e w' ⟨rfl, hb⟩)
  go_ret
  exact ⟨rfl, hb⟩

/-- What put answers. -/
def putE (S : Sp) : Int := if S.F.free = [] then 3 else 0
/-- What becomes of the space by put. -/
def PutPost (S : Sp) (A : Ad) (up : Nat) (p g s : Int) (c : Cp) (w : World) (z : Int) (w' : World) : Prop :=
  (z = 3 ∧ ¬ S.L.length < S.F.n ∧ Below w.heap.size w w') ∨ (z = 0 ∧ S.L.length < S.F.n ∧ ∃ x v', S.F.free.getLast? = some x ∧ SpAt w' { A with v := v' } (S.put up p x g s c) ∧ Fresh w A.v v' ∧ Apart A.own w w')
theorem PutPost.undrew {up : Nat} {p g s : Int} {c : Cp} {z : Int} {w' : World} (n : Nat) (h : PutPost S A up p g s c (w.drewN n) z w') : PutPost S A up p g s c w z w' := by
  rcases h with ⟨h1, h2, h3⟩ | ⟨h1, h2, x, v', h3, h4, h5, h6⟩
  · exact .inl ⟨h1, h2, h3.os, h3.tape, h3.output, h3.size, h3.block⟩
  · exact .inr ⟨h1, h2, x, v', h3, h4, h5, h6.os, h6.tape, h6.output, h6.size, h6.block⟩
theorem put_any (h : SpAt w A S) (hl : Lim S) (hJ : J S) {up : Nat} {p : Int} {c : Cp} (hup : (up = 0 ∧ p = -1) ∨ ∃ e ∈ S.L, up = e.id ∧ p = (e.nd : Int) ∧ amongI c.r e.c.r = true) (g s : Int) (hf : S.freeE g s = 0) :
    Calls Try.prog 69 #[.pointer (some ⟨A.b, 0, none⟩), .int .i64 p, .int .i64 g, .int .i64 s, capV c] w fun e w' => ∃ z, e = .returned (.int .i64 z) ∧ PutPost S A up p g s c w z w' := by
  by_cases hr : S.L.length < S.F.n
  · obtain ⟨x, hx⟩ := hJ.free_ne hr
    refine (put_is h hl hJ hup g s hf hx).mono ?_
    rintro e w' ⟨rfl, v', h1, h2, h3⟩
    exact ⟨0, rfl, .inr ⟨rfl, hr, x, v', hx, h1, h2, h3⟩⟩
  · refine (put_full h hl hJ hup g s (hJ.free_nil hr)).mono ?_
    rintro e w' ⟨rfl, h1⟩
    exact ⟨3, rfl, .inl ⟨rfl, hr, h1⟩⟩
set_option maxRecDepth 100000 in
set_option maxHeartbeats 1000000 in
theorem root3 (h : SpAt w A S) (hl : Lim S) (hJ : J S) {n0 n1 n2 n3 : Nat} {g s : Int} {c : Cp} (hf : S.freeE g s = 0) (b0 : w.cell? ⟨n0, 0, none⟩ = some (.pointer (some ⟨A.b, 0, none⟩))) (b1 : w.cell? ⟨n1, 0, none⟩ = some (.int .i64 g)) (b2 : w.cell? ⟨n2, 0, none⟩ = some (.int .i64 s))
    (b3 : Blk w n3 36 #[.int .i64 c.k, .int .i64 c.i, .int .u64 c.n, .int .u8 c.r]) :
    Calls Try.prog 68 #[.pointer (some ⟨n0, 0, none⟩), .pointer (some ⟨n1, 0, none⟩), .pointer (some ⟨n2, 0, none⟩), .pointer (some ⟨n3, 0, none⟩)] w fun e w' => ∃ z, e = .returned (.int .i64 z) ∧ PutPost S A 0 (-1) g s c w z w' := by
  have CF := put_any h hl hJ (up := 0) (p := -1) (c := c) (.inl ⟨rfl, rfl⟩) g s hf
  have d0 := b3.cell 0
  have d1 := b3.cell 1
  have d2 := b3.cell 2
  have d3 := b3.cell 3
  simp only [List.getElem?_toArray, List.getElem?_cons_zero, List.getElem?_cons_succ] at d0 d1 d2 d3
  unfold capV at CF
  clear b3 hf h
  go_enter Try.func68, Try.ntmps68
  go_wp2_with (go_at_call 69; refine CF.mono ?_; rintro e w' ⟨z, rfl, hp⟩; (have HP := Lib.hid hp); clear hp)
  go_ret
  exact ⟨z, rfl, HP.out⟩
set_option maxRecDepth 100000 in
set_option maxHeartbeats 2000000 in
theorem derive4 (h : SpAt w A S) (hl : Lim S) (hJ : J S) {n0 n1 n2 n3 : Nat} {g s : Int} {c : Cp} (hr : 0 ≤ c.r ∧ c.r < 256) (ht : S.there g s = true) {x : En} (hf : fnd S.L g s = some x) (b0 : w.cell? ⟨n0, 0, none⟩ = some (.pointer (some ⟨A.b, 0, none⟩))) (b1 : w.cell? ⟨n1, 0, none⟩ = some (.int .i64 g)) (b2 : w.cell? ⟨n2, 0, none⟩ = some (.int .i64 s))
    (b3 : Blk w n3 36 #[.int .i64 c.k, .int .i64 c.i, .int .u64 c.n, .int .u8 c.r]) :
    Calls Try.prog 73 #[.pointer (some ⟨n0, 0, none⟩), .pointer (some ⟨n1, 0, none⟩), .pointer (some ⟨n2, 0, none⟩), .pointer (some ⟨n3, 0, none⟩)] w fun e w' => e = .returned (.int .i64 (if amongI c.r x.c.r = true then 0 else 13)) ∧ ∃ n, w' = w.drewN n := by
  have hx := fnd_mem hf
  have l1 := fun n => in_yes (h.drewN n) hl ht hf false
  have l2 := fun n => cap_yes (h.drewN n) hl hJ hx.1 false
  obtain ⟨-, -, -, -, c4, -, c6⟩ := h.cells
  have d3 := b3.cell 3
  simp only [List.getElem?_toArray, List.getElem?_cons_zero, List.getElem?_cons_succ] at d3
  simp only [Bool.false_eq_true, if_false, spotV, capV] at l1 l2
  have hxr := (hJ.okc x hx.1).2
  have hfd : ∀ w' : World, (Instr.field 36 (.agg #[.int .i64 x.c.k, .int .i64 x.c.i, .int .u64 x.c.n, .int .u8 x.c.r]) 2).run Try.prog w' = .ok (.int .u8 x.c.r) w' := fun w' => by kernel_rfl
  clear b3 h hJ hx hf ht hl
  cases ha : amongI c.r x.c.r
  · have NR := fun w' => (narrow_no x.c.r c.r w' hxr.1 (by omega) hr.1 (by omega) ha).mono (fun e w'' hh => And.intro hh.1 hh.2.symm)
    simp only [Bool.false_eq_true, if_false]
    clear ha hxr hr
    go_enter Try.func73, Try.ntmps73
    go_wp2_with fail
    go_quiet ((go_at_call 74; exact Calls.quiet_of_same (NR _)))
    go_wp2
    go_ret
    exact ⟨rfl, _, rfl⟩
  · have NR := fun w' => (narrow_yes x.c.r c.r w' hxr.1 (by omega) hr.1 (by omega) ha).mono (fun e w'' hh => And.intro hh.1 hh.2.symm)
    simp only [if_true]
    clear ha hxr hr
    go_enter Try.func73, Try.ntmps73
    go_wp2_with fail
    go_quiet ((go_at_call 74; exact Calls.quiet_of_same (NR _)))
    go_wp2
    go_ret
    exact ⟨rfl, _, rfl⟩
set_option maxRecDepth 100000 in
set_option maxHeartbeats 2000000 in
theorem derive5 (h : SpAt w A S) (hl : Lim S) (hJ : J S) {n0 n1 n2 n3 n4 n5 : Nat} {g s g' s' : Int} {c : Cp} (ht : S.there g s = true) {x : En} (hf : fnd S.L g s = some x) (hr : amongI c.r x.c.r = true) (hfr : S.freeE g' s' = 0)
    (b0 : w.cell? ⟨n0, 0, none⟩ = some (.pointer (some ⟨A.b, 0, none⟩))) (b1 : w.cell? ⟨n1, 0, none⟩ = some (.int .i64 g)) (b2 : w.cell? ⟨n2, 0, none⟩ = some (.int .i64 s)) (b3 : w.cell? ⟨n3, 0, none⟩ = some (.int .i64 g')) (b4 : w.cell? ⟨n4, 0, none⟩ = some (.int .i64 s'))
    (b5 : Blk w n5 36 #[.int .i64 c.k, .int .i64 c.i, .int .u64 c.n, .int .u8 c.r]) :
    Calls Try.prog 75 #[.pointer (some ⟨n0, 0, none⟩), .pointer (some ⟨n1, 0, none⟩), .pointer (some ⟨n2, 0, none⟩), .pointer (some ⟨n3, 0, none⟩), .pointer (some ⟨n4, 0, none⟩), .pointer (some ⟨n5, 0, none⟩)] w fun e w' => ∃ z, e = .returned (.int .i64 z) ∧ PutPost S A x.id (x.nd : Int) g' s' c w z w' := by
  have hx := fnd_mem hf
  have hd : SpAt w.drew A S := h.keep (fun _ _ => rfl) (Nat.le_refl _)
  have l1 := in_yes hd hl ht hf false
  have CF := put_any hd hl hJ (up := x.id) (p := (x.nd : Int)) (c := c) (.inr ⟨x, hx.1, rfl, rfl, hr⟩) g' s' hfr
  obtain ⟨-, -, -, -, c4, -, -⟩ := h.cells
  have d0 := b5.cell 0
  have d1 := b5.cell 1
  have d2 := b5.cell 2
  have d3 := b5.cell 3
  simp only [List.getElem?_toArray, List.getElem?_cons_zero, List.getElem?_cons_succ] at d0 d1 d2 d3
  simp only [Bool.false_eq_true, if_false, spotV, capV] at l1 CF
  clear b5 h hd hJ hx hf ht hl hfr hr
  go_enter Try.func75, Try.ntmps75
  go_wp2_with fail
  go_still_tail 12, (by kernel_rfl)
  change wpList _ _ _ _ _ w.drew
  go_wp2_with (go_at_call 69; refine CF.mono ?_; rintro e w' ⟨z, rfl, hp⟩; (have HP := Lib.hid hp); clear hp)
  go_ret
  exact ⟨z, rfl, PutPost.undrew 1 HP.out⟩
end
end Go.Proofs.Ytbknmfegckeogaa

/- Capability tables: Root, by walk. -/
namespace Go.Proofs.Ytbknmfegckeogaa
open Go.RowKit Go.Maps
set_option linter.unusedVariables false
set_option linter.unusedSimpArgs false

theorem Blk.new_ {w : World} {n : Nat} (h : n = w.heap.size) (t : TypeId) (cs : Array Value) : Blk (w.alloc (.cells cs t)) n t cs := by rw [h]; exact Blk.new w t cs
theorem fns_of {w : World} {q : Nat} {t : TypeId} {fs : List (Nat × Array Value)} (h : Blk w q t ((fs.map fun x => Value.func (.func x.1) #[] x.2).toArray)) : FnsAt w q fs := by
  intro i hi
  rw [h.cell]
  simp [hi]
theorem FnsAt.below {w w' : World} {q : Nat} {fs : List (Nat × Array Value)} (h : FnsAt w q fs) (hb : Below w.heap.size w w') (hq : q < w.heap.size) : FnsAt w' q fs := fun i hi => (hb.cell (p := ⟨q, i, none⟩) hq).trans (h i hi)
section
variable {w : World} {A : Ad} {S : Sp}
theorem PutPost.from {w1 w' : World} {up : Nat} {p g s : Int} {c : Cp} {z : Int} (hb : Below w.heap.size w w1) (h : PutPost S A up p g s c w1 z w') : PutPost S A up p g s c w z w' := by
  rcases h with ⟨h1, h2, h3⟩ | ⟨h1, h2, x, v', h3, h4, h5, h6⟩
  · exact .inl ⟨h1, h2, hb.trans (h3.mono hb.size)⟩
  · refine .inr ⟨h1, h2, x, v', h3, h4, fun k hk => ?_, (Apart.of_below hb).trans h6 (fun k _ hk => hk)⟩
    rcases h5 k hk with e | e
    · exact .inl e
    · exact .inr (Nat.le_trans hb.size e)
/-- What Root answers, and what becomes of the space. -/
def RootPost (S : Sp) (A : Ad) (g s : Int) (c : Cp) (w : World) (z : Int) (w' : World) : Prop :=
  (z = S.freeE g s ∧ z ≠ 0 ∧ Below w.heap.size w w') ∨ (S.freeE g s = 0 ∧ mayC c = false ∧ z = 2 ∧ Below w.heap.size w w') ∨ (S.freeE g s = 0 ∧ mayC c = true ∧ PutPost S A 0 (-1) g s c w z w')
def rootFs (n : Nat) : List (Nat × Array Value) := [(65, #[.pointer (some ⟨n, 0, none⟩), .pointer (some ⟨n + 1, 0, none⟩), .pointer (some ⟨n + 2, 0, none⟩)]), (66, #[.pointer (some ⟨n + 3, 0, none⟩)]),
  (68, #[.pointer (some ⟨n, 0, none⟩), .pointer (some ⟨n + 1, 0, none⟩), .pointer (some ⟨n + 2, 0, none⟩), .pointer (some ⟨n + 3, 0, none⟩)])]
structure RootBox (A : Ad) (n : Nat) (g s : Int) (c : Cp) (W : World) : Prop where
  b0 : Blk W n 23 #[.pointer (some ⟨A.b, 0, none⟩)]
  b1 : Blk W (n + 1) 3 #[.int .i64 g]
  b2 : Blk W (n + 2) 3 #[.int .i64 s]
  b3 : Blk W (n + 3) 36 #[.int .i64 c.k, .int .i64 c.i, .int .u64 c.n, .int .u8 c.r]
  fs : FnsAt W (n + 4) (rootFs n)
  lt : n + 4 < W.heap.size
theorem RootBox.below {n : Nat} {g s : Int} {c : Cp} {W W' : World} (h : RootBox A n g s c W) (hb : Below W.heap.size W W') : RootBox A n g s c W' :=
  ⟨h.b0.below hb h.b0.lt, h.b1.below hb h.b1.lt, h.b2.below hb h.b2.lt, h.b3.below hb h.b3.lt, h.fs.below hb h.lt, Nat.lt_of_lt_of_le h.lt hb.size⟩
def rootInv (S : Sp) (A : Ad) (g s : Int) (c : Cp) (w : World) (i : Nat) (W : World) : Prop :=
  if i < 3 then Below w.heap.size w W ∧ RootBox A w.heap.size g s c W ∧ (1 ≤ i → S.freeE g s = 0) ∧ (2 ≤ i → mayC c = true) else RootPost S A g s c w 0 W
theorem root_first (h : SpAt w A S) (hl : Lim S) (hJ : J S) (g s : Int) (c : Cp) (hn : 0 ≤ c.n) (W : World) (hb : Below w.heap.size w W) (hx : RootBox A w.heap.size g s c W) :
    Calls Try.prog 62 #[.slice (some ⟨w.heap.size + 4, 0, none⟩) 3 3] W fun e w' => ∃ z, e = .returned (.int .i64 z) ∧ RootPost S A g s c w z w' := by
  refine first_is (rootFs w.heap.size) (by show 3 ≤ 10; omega) (w.heap.size + 4) 3 (rootInv S A g s c w) (fun z w' => RootPost S A g s c w z w') ?_ ?_ ?_ ?_ W ?_
  · intro i w' hi hI
    unfold rootInv at hI
    have hi3 : i < 3 := hi
    rw [if_pos hi3] at hI
    exact hI.2.1.fs
  · intro i hi w'
    have hi3 : i < 3 := hi
    rcases i with _ | _ | _ | i
    · exact run_callFunc_plain Try.func65 (by kernel_rfl) (by kernel_rfl) _ _
    · exact run_callFunc_plain Try.func66 (by kernel_rfl) (by kernel_rfl) _ _
    · exact run_callFunc_plain Try.func68 (by kernel_rfl) (by kernel_rfl) _ _
    · omega
  · intro i hi w' hI
    have hi3 : i < 3 := hi
    unfold rootInv at hI
    rw [if_pos hi3] at hI
    obtain ⟨hbw, hB, hf1, hf2⟩ := hI
    have hS := h.below hbw
    rcases i with _ | _ | _ | i
    · refine (root1 hS hl (hB.b0.cell 0) (hB.b1.cell 0) (hB.b2.cell 0)).mono ?_
      rintro e w2 ⟨rfl, rfl⟩
      refine ⟨_, rfl, fun hz => .inl ⟨rfl, hz, hbw⟩, fun hz => ?_⟩
      unfold rootInv
      rw [if_pos (by omega)]
      exact ⟨hbw, hB, fun _ => hz, fun h2 => by omega⟩
    · refine (root2 (c := c) hn hB.b3).mono ?_
      rintro e w2 ⟨rfl, hb2⟩
      have hb9 := hbw.trans (hb2.mono hbw.size)
      refine ⟨_, rfl, fun hz => .inr (.inl ⟨hf1 (by omega), ?_, ?_, hb9⟩), fun hz => ?_⟩
      · cases hm : mayC c
        · rfl
        · rw [hm] at hz; exact absurd rfl hz
      · cases hm : mayC c
        · rfl
        · rw [hm] at hz; exact absurd rfl hz
      · unfold rootInv
        rw [if_pos (by omega)]
        refine ⟨hb9, hB.below hb2, fun _ => hf1 (by omega), fun _ => ?_⟩
        cases hm : mayC c
        · rw [hm] at hz; cases hz
        · rfl
    · refine (root3 hS hl hJ (c := c) (hf1 (by omega)) (hB.b0.cell 0) (hB.b1.cell 0) (hB.b2.cell 0) hB.b3).mono ?_
      rintro e w2 ⟨z, rfl, hp⟩
      have hp2 := hp.from hbw
      have hR : RootPost S A g s c w z w2 := .inr (.inr ⟨hf1 (by omega), hf2 (by omega), hp2⟩)
      refine ⟨z, rfl, fun _ => hR, fun hz => ?_⟩
      unfold rootInv
      rw [if_neg (by omega)]
      exact hz ▸ hR
    · omega
  · intro w' hI
    exact hI
  · unfold rootInv
    rw [if_pos (by omega)]
    exact ⟨hb, hx, fun h => by omega, fun h => by omega⟩
set_option maxRecDepth 100000 in
set_option maxHeartbeats 2000000 in
theorem root_is (h : SpAt w A S) (hl : Lim S) (hJ : J S) (g s : Int) (c : Cp) (hn : 0 ≤ c.n) :
    Calls Try.prog 29 #[.pointer (some ⟨A.b, 0, none⟩), .int .i64 g, .int .i64 s, capV c] w fun e w' => ∃ z, e = .returned (.int .i64 z) ∧ RootPost S A g s c w z w' := by
  have FST := root_first h hl hJ g s c hn
  have hmf : ∀ (fn : Fn) (first cap : Array Value) (w : World), (Instr.makeFunc fn first cap).run Try.prog w = .ok (.func fn first cap) w := fun _ _ _ _ => rfl
  have hF := Lib.hid FST
  clear h FST
  unfold capV
  go_enter Try.func29, Try.ntmps29
  go_wp2_with (go_at_call 62; refine (hF.out _ (((((Below.refl _ _).alloc (Nat.le_refl _) _).alloc (by simp) _).alloc (by simp; omega) _).alloc (by simp; omega) _ |>.alloc (by simp; omega) _) ⟨((((Blk.new_ rfl _ _).alloc _).alloc _).alloc _).alloc _, (((Blk.new_ (by simp) _ _).alloc _).alloc _).alloc _, ((Blk.new_ (by simp) _ _).alloc _).alloc _, (Blk.new_ (by simp) _ _).alloc _, fns_of (Blk.new_ (by simp) _ _), by simp⟩).mono ?_; rintro e w' ⟨z, rfl, hp⟩; (have HP := Lib.hid hp); clear hp)
  go_ret
  exact ⟨z, rfl, HP.out⟩
end
end Go.Proofs.Ytbknmfegckeogaa

/- Capability tables: Derive, by walk. -/
namespace Go.Proofs.Ytbknmfegckeogaa
open Go.RowKit Go.Maps
set_option linter.unusedVariables false
set_option linter.unusedSimpArgs false

section
variable {w : World} {A : Ad} {S : Sp}
theorem full_zero {g s : Int} (h : S.full g s = 0) : S.there g s = true ∧ ∃ x, fnd S.L g s = some x := by
  unfold Sp.full at h
  split at h
  · rename_i h1
    split at h
    · rename_i h2
      exact ⟨h1, Option.isSome_iff_exists.1 h2⟩
    · cases h
  · cases h
/-- What Derive answers, and what becomes of the space. -/
def DerivePost (S : Sp) (A : Ad) (g s g' s' : Int) (c : Cp) (w : World) (z : Int) (w' : World) : Prop :=
  (z = S.full g s ∧ z ≠ 0 ∧ Below w.heap.size w w') ∨ (S.full g s = 0 ∧ z = S.freeE g' s' ∧ z ≠ 0 ∧ Below w.heap.size w w') ∨ (S.full g s = 0 ∧ S.freeE g' s' = 0 ∧ mayC c = false ∧ z = 2 ∧ Below w.heap.size w w') ∨
  (S.full g s = 0 ∧ S.freeE g' s' = 0 ∧ mayC c = true ∧ ∃ x, fnd S.L g s = some x ∧ ((amongI c.r x.c.r = false ∧ z = 13 ∧ Below w.heap.size w w') ∨ (amongI c.r x.c.r = true ∧ PutPost S A x.id (x.nd : Int) g' s' c w z w')))
def deriveFs (n : Nat) : List (Nat × Array Value) := [(70, #[.pointer (some ⟨n, 0, none⟩), .pointer (some ⟨n + 1, 0, none⟩), .pointer (some ⟨n + 2, 0, none⟩)]), (71, #[.pointer (some ⟨n, 0, none⟩), .pointer (some ⟨n + 3, 0, none⟩), .pointer (some ⟨n + 4, 0, none⟩)]),
  (72, #[.pointer (some ⟨n + 5, 0, none⟩)]), (73, #[.pointer (some ⟨n, 0, none⟩), .pointer (some ⟨n + 1, 0, none⟩), .pointer (some ⟨n + 2, 0, none⟩), .pointer (some ⟨n + 5, 0, none⟩)]),
  (75, #[.pointer (some ⟨n, 0, none⟩), .pointer (some ⟨n + 1, 0, none⟩), .pointer (some ⟨n + 2, 0, none⟩), .pointer (some ⟨n + 3, 0, none⟩), .pointer (some ⟨n + 4, 0, none⟩), .pointer (some ⟨n + 5, 0, none⟩)])]
structure DeriveBox (A : Ad) (n : Nat) (g s g' s' : Int) (c : Cp) (W : World) : Prop where
  b0 : Blk W n 23 #[.pointer (some ⟨A.b, 0, none⟩)]
  b1 : Blk W (n + 1) 3 #[.int .i64 g]
  b2 : Blk W (n + 2) 3 #[.int .i64 s]
  b3 : Blk W (n + 3) 3 #[.int .i64 g']
  b4 : Blk W (n + 4) 3 #[.int .i64 s']
  b5 : Blk W (n + 5) 36 #[.int .i64 c.k, .int .i64 c.i, .int .u64 c.n, .int .u8 c.r]
  fs : FnsAt W (n + 6) (deriveFs n)
  lt : n + 6 < W.heap.size
theorem DeriveBox.below {n : Nat} {g s g' s' : Int} {c : Cp} {W W' : World} (h : DeriveBox A n g s g' s' c W) (hb : Below W.heap.size W W') : DeriveBox A n g s g' s' c W' :=
  ⟨h.b0.below hb h.b0.lt, h.b1.below hb h.b1.lt, h.b2.below hb h.b2.lt, h.b3.below hb h.b3.lt, h.b4.below hb h.b4.lt, h.b5.below hb h.b5.lt, h.fs.below hb h.lt, Nat.lt_of_lt_of_le h.lt hb.size⟩
def deriveInv (S : Sp) (A : Ad) (g s g' s' : Int) (c : Cp) (w : World) (i : Nat) (W : World) : Prop :=
  if i < 5 then Below w.heap.size w W ∧ DeriveBox A w.heap.size g s g' s' c W ∧ (1 ≤ i → S.full g s = 0) ∧ (2 ≤ i → S.freeE g' s' = 0) ∧ (3 ≤ i → mayC c = true) ∧ (4 ≤ i → ∀ x, fnd S.L g s = some x → amongI c.r x.c.r = true) else DerivePost S A g s g' s' c w 0 W
theorem below_drewN_ (w : World) (B n : Nat) : Below B w (w.drewN n) := ⟨rfl, rfl, rfl, Nat.le_refl _, fun _ _ => rfl⟩
theorem derive_first (h : SpAt w A S) (hl : Lim S) (hJ : J S) (g s g' s' : Int) (c : Cp) (hn : 0 ≤ c.n) (hr : 0 ≤ c.r ∧ c.r < 256) (W : World) (hb : Below w.heap.size w W) (hx : DeriveBox A w.heap.size g s g' s' c W) :
    Calls Try.prog 62 #[.slice (some ⟨w.heap.size + 6, 0, none⟩) 5 5] W fun e w' => ∃ z, e = .returned (.int .i64 z) ∧ DerivePost S A g s g' s' c w z w' := by
  refine first_is (deriveFs w.heap.size) (by show 5 ≤ 10; omega) (w.heap.size + 6) 5 (deriveInv S A g s g' s' c w) (fun z w' => DerivePost S A g s g' s' c w z w') ?_ ?_ ?_ ?_ W ?_
  · intro i w' hi hI
    unfold deriveInv at hI
    have hi3 : i < 5 := hi
    rw [if_pos hi3] at hI
    exact hI.2.1.fs
  · intro i hi w'
    have hi3 : i < 5 := hi
    rcases i with _ | _ | _ | _ | _ | i
    · exact run_callFunc_plain Try.func70 (by kernel_rfl) (by kernel_rfl) _ _
    · exact run_callFunc_plain Try.func71 (by kernel_rfl) (by kernel_rfl) _ _
    · exact run_callFunc_plain Try.func72 (by kernel_rfl) (by kernel_rfl) _ _
    · exact run_callFunc_plain Try.func73 (by kernel_rfl) (by kernel_rfl) _ _
    · exact run_callFunc_plain Try.func75 (by kernel_rfl) (by kernel_rfl) _ _
    · omega
  · intro i hi w' hI
    have hi3 : i < 5 := hi
    unfold deriveInv at hI
    rw [if_pos hi3] at hI
    obtain ⟨hbw, hB, hf1, hf2, hf3, hf4⟩ := hI
    have hS := h.below hbw
    rcases i with _ | _ | _ | _ | _ | i
    · refine (derive1 hS hl (hB.b0.cell 0) (hB.b1.cell 0) (hB.b2.cell 0)).mono ?_
      rintro e w2 ⟨rfl, rfl⟩
      refine ⟨_, rfl, fun hz => .inl ⟨rfl, hz, hbw⟩, fun hz => ?_⟩
      unfold deriveInv
      rw [if_pos (by omega)]
      exact ⟨hbw, hB, fun _ => hz, fun h2 => by omega, fun h2 => by omega, fun h2 => by omega⟩
    · refine (derive2 hS hl (hB.b0.cell 0) (hB.b3.cell 0) (hB.b4.cell 0)).mono ?_
      rintro e w2 ⟨rfl, rfl⟩
      refine ⟨_, rfl, fun hz => .inr (.inl ⟨hf1 (by omega), rfl, hz, hbw⟩), fun hz => ?_⟩
      unfold deriveInv
      rw [if_pos (by omega)]
      exact ⟨hbw, hB, fun _ => hf1 (by omega), fun _ => hz, fun h2 => by omega, fun h2 => by omega⟩
    · refine (derive3 (c := c) hn hB.b5).mono ?_
      rintro e w2 ⟨rfl, hb2⟩
      have hb9 := hbw.trans (hb2.mono hbw.size)
      refine ⟨_, rfl, fun hz => .inr (.inr (.inl ⟨hf1 (by omega), hf2 (by omega), ?_, ?_, hb9⟩)), fun hz => ?_⟩
      · cases hm : mayC c
        · rfl
        · rw [hm] at hz; exact absurd rfl hz
      · cases hm : mayC c
        · rfl
        · rw [hm] at hz; exact absurd rfl hz
      · unfold deriveInv
        rw [if_pos (by omega)]
        refine ⟨hb9, hB.below hb2, fun _ => hf1 (by omega), fun _ => hf2 (by omega), fun _ => ?_, fun h2 => by omega⟩
        cases hm : mayC c
        · rw [hm] at hz; cases hz
        · rfl
    · obtain ⟨ht, x, hfx⟩ := full_zero (hf1 (by omega))
      refine (derive4 hS hl hJ (c := c) hr ht hfx (hB.b0.cell 0) (hB.b1.cell 0) (hB.b2.cell 0) hB.b5).mono ?_
      rintro e w2 ⟨rfl, nq, rfl⟩
      have hbd : Below w'.heap.size w' (w'.drewN nq) := below_drewN_ _ _ _
      have hb9 := hbw.trans (hbd.mono hbw.size)
      refine ⟨_, rfl, fun hz => .inr (.inr (.inr ⟨hf1 (by omega), hf2 (by omega), hf3 (by omega), x, hfx, .inl ⟨?_, ?_, hb9⟩⟩)), fun hz => ?_⟩
      · cases hm : amongI c.r x.c.r
        · rfl
        · rw [hm] at hz; exact absurd rfl hz
      · cases hm : amongI c.r x.c.r
        · rfl
        · rw [hm] at hz; exact absurd rfl hz
      · unfold deriveInv
        rw [if_pos (by omega)]
        refine ⟨hb9, hB.below hbd, fun _ => hf1 (by omega), fun _ => hf2 (by omega), fun _ => hf3 (by omega), fun _ y hy => ?_⟩
        obtain rfl : x = y := Option.some.inj (hfx.symm.trans hy)
        cases hm : amongI c.r x.c.r
        · rw [hm] at hz; cases hz
        · rfl
    · obtain ⟨ht, x, hfx⟩ := full_zero (hf1 (by omega))
      have hxr := hf4 (by omega) x hfx
      refine (derive5 hS hl hJ (c := c) ht hfx hxr (hf2 (by omega)) (hB.b0.cell 0) (hB.b1.cell 0) (hB.b2.cell 0) (hB.b3.cell 0) (hB.b4.cell 0) hB.b5).mono ?_
      rintro e w2 ⟨z, rfl, hp⟩
      have hR : DerivePost S A g s g' s' c w z w2 := .inr (.inr (.inr ⟨hf1 (by omega), hf2 (by omega), hf3 (by omega), x, hfx, .inr ⟨hxr, hp.from hbw⟩⟩))
      refine ⟨z, rfl, fun _ => hR, fun hz => ?_⟩
      unfold deriveInv
      rw [if_neg (by omega)]
      exact hz ▸ hR
    · omega
  · intro w' hI
    exact hI
  · unfold deriveInv
    rw [if_pos (by omega)]
    exact ⟨hb, hx, fun h => by omega, fun h => by omega, fun h => by omega, fun h => by omega⟩
set_option maxRecDepth 100000 in
set_option maxHeartbeats 2000000 in
theorem derive_is (h : SpAt w A S) (hl : Lim S) (hJ : J S) (g s g' s' : Int) (c : Cp) (hn : 0 ≤ c.n) (hr : 0 ≤ c.r ∧ c.r < 256) :
    Calls Try.prog 31 #[.pointer (some ⟨A.b, 0, none⟩), .int .i64 g, .int .i64 s, .int .i64 g', .int .i64 s', capV c] w fun e w' => ∃ z, e = .returned (.int .i64 z) ∧ DerivePost S A g s g' s' c w z w' := by
  have FST := derive_first h hl hJ g s g' s' c hn hr
  have hmf : ∀ (fn : Fn) (first cap : Array Value) (w : World), (Instr.makeFunc fn first cap).run Try.prog w = .ok (.func fn first cap) w := fun _ _ _ _ => rfl
  have hF := Lib.hid FST
  clear h FST hr hn
  unfold capV
  go_enter Try.func31, Try.ntmps31
  go_wp2_with (go_at_call 62; refine (hF.out _ (((((((Below.refl _ _).alloc (Nat.le_refl _) _).alloc (by simp) _).alloc (by simp; omega) _).alloc (by simp; omega) _).alloc (by simp; omega) _).alloc (by simp; omega) _ |>.alloc (by simp; omega) _) ⟨((((((Blk.new_ rfl _ _).alloc _).alloc _).alloc _).alloc _).alloc _).alloc _, (((((Blk.new_ (by simp) _ _).alloc _).alloc _).alloc _).alloc _).alloc _, ((((Blk.new_ (by simp) _ _).alloc _).alloc _).alloc _).alloc _, (((Blk.new_ (by simp) _ _).alloc _).alloc _).alloc _, ((Blk.new_ (by simp) _ _).alloc _).alloc _, (Blk.new_ (by simp) _ _).alloc _, fns_of (Blk.new_ (by simp) _ _), by simp⟩).mono ?_; rintro e w' ⟨z, rfl, hp⟩; (have HP := Lib.hid hp); clear hp)
  go_ret
  exact ⟨z, rfl, HP.out⟩
end
end Go.Proofs.Ytbknmfegckeogaa

/- Capability tables: forget, Delete, by walks. -/
namespace Go.Proofs.Ytbknmfegckeogaa
open Go.RowKit Go.Maps
set_option linter.unusedVariables false
set_option linter.unusedSimpArgs false

/-- What forget asks of the entries. -/
structure JL (S : Sp) : Prop where
  nd : (S.L.map En.nd).Nodup
  pl : (S.L.map fun e => (e.g, e.s)).Nodup
  rng : ∀ e ∈ S.L, S.there e.g e.s = true
  ndb : ∀ e ∈ S.L, e.nd < 1000
/-- Without one node's entry. -/
def Sp.less (S : Sp) (n : Nat) : Sp := { S with L := S.L.filter fun e => !(e.nd == n) }
theorem J.jl {S : Sp} (h : J S) (hl : Lim S) : JL S := ⟨h.nd, h.pl, h.rng, fun e he => by have h1 := h.wf.lt _ (h.there_of he); have h2 := hl.n; omega⟩
theorem JL.less {S : Sp} (h : JL S) (n : Nat) : JL (S.less n) :=
  ⟨h.nd.sublist (List.filter_sublist.map _), h.pl.sublist (List.filter_sublist.map _), fun e he => h.rng e (List.mem_filter.1 he).1, fun e he => h.ndb e (List.mem_filter.1 he).1⟩
theorem less_mem {S : Sp} {n : Nat} {e : En} : e ∈ (S.less n).L ↔ e ∈ S.L ∧ e.nd ≠ n := by
  unfold Sp.less
  rw [List.mem_filter]
  simp
theorem less_len {S : Sp} (h : JL S) {x : En} (hx : x ∈ S.L) : (S.less x.nd).L.length = S.L.length - 1 := by
  have key : ∀ L : List En, (L.map En.nd).Nodup → x ∈ L → (L.filter fun e => !(e.nd == x.nd)).length = L.length - 1 := by
    intro L
    induction L with
    | nil => intro _ h; cases h
    | cons a L ih =>
      intro hn hm
      rw [List.map_cons, List.nodup_cons] at hn
      by_cases ha : a.nd = x.nd
      · have hno : ∀ e ∈ L, !(e.nd == x.nd) := by
          intro e he
          have : e.nd ≠ x.nd := fun hh => hn.1 (by rw [ha, ← hh]; exact List.mem_map_of_mem he)
          simpa using this
        rw [List.filter_cons, if_neg (by simp [ha]), List.filter_eq_self.2 hno]
        simp
      · have hm' : x ∈ L := by
          rcases List.mem_cons.1 hm with e | e
          · exact absurd (by rw [e]) ha
          · exact e
        have := ih hn.2 hm'
        have hp : 0 < L.length := List.length_pos_of_mem hm'
        rw [List.filter_cons, if_pos (by simp [ha])]
        simp only [List.length_cons, this]
        omega
  exact key S.L h.nd hx
section
variable {w : World} {A : Ad} {S : Sp}
theorem grown_blk {w w' : World} {m k : Nat} (hg : w.grownBy w' (some m)) (hb : k ≠ m) (hk : k < w.heap.size) : w'.heap[k]? = w.heap[k]? := hg.block k hk (fun e => hb (by injection e))
set_option maxRecDepth 100000 in
set_option maxHeartbeats 2000000 in
theorem forget_is (h : SpAt w A S) (hl : Lim S) (hJ : JL S) {x : En} (hx : x ∈ S.L) :
    Calls Try.prog 58 #[.pointer (some ⟨A.b, 0, none⟩), .int .i64 (x.nd : Int)] w fun e w' => e = .returned (.tuple #[]) ∧ SpAt w' A (S.less x.nd) ∧ Apart A.own w w' := by
  have hk : keyOf Try.prog 3 (.int .i64 (x.nd : Int)) = some (.int .i64 (x.nd : Int)) := by
    have := hJ.ndb x hx
    exact key_int (wf_small (by omega) (by omega))
  have hg := there_key hl (hJ.rng x hx)
  have same : ∀ e ∈ S.L, e.nd = x.nd → e = x := fun e he hh => map_inj hJ.nd he hx hh
  have samp : ∀ e ∈ S.L, e.g = x.g → e.s = x.s → e = x := fun e he h1 h2 => map_inj hJ.pl he hx (by rw [h1, h2])
  have hlen := less_len hJ hx
  obtain ⟨W, hW⟩ : ∃ W, W = w.drew := ⟨_, rfl⟩
  have hd : SpAt W A S := hW ▸ h.keep (w' := w.drew) (fun _ _ => rfl) (Nat.le_refl _)
  have l0 := run_lookup_yes intKeyed Try.underlying71 hd.ma hk ⟨x, hx, rfl, rfl⟩ false
  obtain ⟨w2, r2, e2, g2, z2⟩ := run_delete (R' := inR (S.less x.nd).L) spotKeyed Try.underlying70 hd.mi 0 hg ⟨x, hx, rfl, rfl⟩
    (fun y => by
      rintro ⟨e, he, h1, _⟩
      obtain ⟨h2, h3⟩ := less_mem.1 he
      obtain ⟨h4, h5⟩ := spot_inj h1
      exact h3 (by rw [samp e h2 h4.symm h5.symm]))
    (fun a ha y => by
      constructor
      · rintro ⟨e, he, h1, h2⟩
        exact ⟨e, (less_mem.1 he).1, h1, h2⟩
      · rintro ⟨e, he, h1, h2⟩
        exact ⟨e, less_mem.2 ⟨he, fun hh => ha (by rw [h1, same e he hh])⟩, h1, h2⟩)
  have m2 := hd.ma.block (grown_blk g2 (fun e => hd.sm.1 e.symm) hd.ma.lt)
  obtain ⟨w3, r3, e3, g3, z3⟩ := run_delete (R' := atR (S.less x.nd).L) intKeyed Try.underlying71 m2 0 hk ⟨x, hx, rfl, rfl⟩
    (fun y => by
      rintro ⟨e, he, h1, _⟩
      obtain ⟨h2, h3⟩ := less_mem.1 he
      have := int_inj h1
      exact h3 (by omega))
    (fun a ha y => by
      constructor
      · rintro ⟨e, he, h1, h2⟩
        exact ⟨e, (less_mem.1 he).1, h1, h2⟩
      · rintro ⟨e, he, h1, h2⟩
        exact ⟨e, less_mem.2 ⟨he, fun hh => ha (by rw [h1, hh])⟩, h1, h2⟩)
  have m3 := (hd.mc.block (grown_blk g2 (fun e => hd.sm.2.1 e.symm) hd.mc.lt)).block (grown_blk g3 (fun e => hd.sm.2.2 e.symm) (by rw [z2]; exact hd.mc.lt))
  obtain ⟨w4, r4, e4, g4, z4⟩ := run_delete (R' := capR (S.less x.nd).L) intKeyed Try.underlying72 m3 0 hk ⟨x, hx, rfl, rfl⟩
    (fun y => by
      rintro ⟨e, he, h1, _⟩
      obtain ⟨h2, h3⟩ := less_mem.1 he
      have := int_inj h1
      exact h3 (by omega))
    (fun a ha y => by
      constructor
      · rintro ⟨e, he, h1, h2⟩
        exact ⟨e, (less_mem.1 he).1, h1, h2⟩
      · rintro ⟨e, he, h1, h2⟩
        exact ⟨e, less_mem.2 ⟨he, fun hh => ha (by rw [h1, hh])⟩, h1, h2⟩)
  have far : ∀ k, k < W.heap.size → k ≠ A.mi → k ≠ A.ma → k ≠ A.mc → w4.heap[k]? = W.heap[k]? := by
    intro k hk d1 d2 d3
    rw [grown_blk g4 d3 (by omega), grown_blk g3 d2 (by omega), grown_blk g2 d1 hk]
  have hfin : SpAt w4 A (S.less x.nd) := by
    refine ⟨(far A.b hd.head.lt hd.sb.1 hd.sb.2.1 hd.sb.2.2).trans hd.head, hd.prg.keep (fun k hk => far k (own3_lt hd.prg hk) (hd.sep k hk).2.1 (hd.sep k hk).2.2.1 (hd.sep k hk).2.2.2) (by omega), ?_, ?_, ?_, hd.sep, hd.sb, hd.sm⟩
    · rw [hlen]
      exact (e2.block (grown_blk g3 hd.sm.1 (by have := hd.mi.lt; omega))).block (grown_blk g4 hd.sm.2.1 (by have := hd.mi.lt; omega))
    · rw [hlen]
      exact e3.block (grown_blk g4 hd.sm.2.2 (by have := hd.ma.lt; omega))
    · rw [hlen]
      exact e4
  have o1 : A.own A.mi := .inr (.inr (.inl rfl))
  have o2 : A.own A.ma := .inr (.inr (.inr (.inl rfl)))
  have o3 : A.own A.mc := .inr (.inr (.inr (.inr rfl)))
  have hap : Apart A.own w w4 := by
    have a0 : Apart A.own w W := hW ▸ (Apart.refl _ _).drew
    exact ((a0.grown g2 (fun r e => by injection e with e; exact .inl (e ▸ o1))).grown g3 (fun r e => by injection e with e; exact .inl (e ▸ o2))).grown g4 (fun r e => by injection e with e; exact .inl (e ▸ o3))
  obtain ⟨-, -, -, -, c4, c5, -⟩ := h.cells
  obtain ⟨-, -, -, -, d4, d5, d6⟩ := hd.cells
  have c25 := grown_cell g2 hd.sb.1 d5
  have c36 := grown_cell g3 hd.sb.2.1 (grown_cell g2 hd.sb.1 d6)
  have HFIN := Lib.hid (And.intro hfin hap)
  simp only [Bool.false_eq_true, if_false, spotV] at l0 r2
  clear h hd e2 e3 e4 g2 g3 g4 z2 z3 z4 m2 m3 hk hg same samp hlen far hfin hap o1 o2 o3 d4 d5 d6 hJ hx
  subst hW
  go_enter Try.func58, Try.ntmps58
  go_wp2_with fail
  go_still_tail 10, (by kernel_rfl)
  change wpList _ _ _ _ _ w.drew
  go_wp2
  go_end0
  exact ⟨rfl, HFIN.out.1, HFIN.out.2⟩
end
end Go.Proofs.Ytbknmfegckeogaa

/- Capability tables: Delete, by walk; a space over another forest, over another list. -/
namespace Go.Proofs.Ytbknmfegckeogaa
open Go.RowKit Go.Maps
set_option linter.unusedVariables false
set_option linter.unusedSimpArgs false

section
variable {w w' : World} {A : Ad} {S : Sp}
theorem SpAt.relist (h : SpAt w A S) (m : En → En) (hm : ∀ e, (m e).nd = e.nd ∧ (m e).g = e.g ∧ (m e).s = e.s ∧ (m e).c = e.c) (came : Nat) : SpAt w A { S with L := S.L.map m, came := came } := by
  have hl : (S.L.map m).length = S.L.length := by simp
  refine ⟨h.head, h.prg, ?_, ?_, ?_, h.sep, h.sb, h.sm⟩
  · show MapR _ _ _ _ (inR (S.L.map m)) (S.L.map m).length
    rw [hl]
    refine h.mi.ext fun x y => ?_
    constructor
    · rintro ⟨e, he, h1, h2⟩
      obtain ⟨a, ha, rfl⟩ := List.mem_map.1 he
      obtain ⟨e1, e2, e3, e4⟩ := hm a
      exact ⟨a, ha, by rw [h1, e2, e3], by rw [h2, e1]⟩
    · rintro ⟨a, ha, h1, h2⟩
      obtain ⟨e1, e2, e3, e4⟩ := hm a
      exact ⟨m a, List.mem_map_of_mem ha, by rw [h1, e2, e3], by rw [h2, e1]⟩
  · show MapR _ _ _ _ (atR (S.L.map m)) (S.L.map m).length
    rw [hl]
    refine h.ma.ext fun x y => ?_
    constructor
    · rintro ⟨e, he, h1, h2⟩
      obtain ⟨a, ha, rfl⟩ := List.mem_map.1 he
      obtain ⟨e1, e2, e3, e4⟩ := hm a
      exact ⟨a, ha, by rw [h1, e1], by rw [h2, e2, e3]⟩
    · rintro ⟨a, ha, h1, h2⟩
      obtain ⟨e1, e2, e3, e4⟩ := hm a
      exact ⟨m a, List.mem_map_of_mem ha, by rw [h1, e1], by rw [h2, e2, e3]⟩
  · show MapR _ _ _ _ (capR (S.L.map m)) (S.L.map m).length
    rw [hl]
    refine h.mc.ext fun x y => ?_
    constructor
    · rintro ⟨e, he, h1, h2⟩
      obtain ⟨a, ha, rfl⟩ := List.mem_map.1 he
      obtain ⟨e1, e2, e3, e4⟩ := hm a
      exact ⟨a, ha, by rw [h1, e1], by rw [h2, e4]⟩
    · rintro ⟨a, ha, h1, h2⟩
      obtain ⟨e1, e2, e3, e4⟩ := hm a
      exact ⟨m a, List.mem_map_of_mem ha, by rw [h1, e1], by rw [h2, e4]⟩
theorem SpAt.reforest (h : SpAt w A S) {F : Fo} {v : Value} (hn : F.n = S.F.n) (hp : Prg w' A.f A.lb v F) (hf : Fresh w A.v v) (ha : Apart (own3 A.f A.lb A.v) w w') : SpAt w' { A with v := v } { S with F := F } ∧ Apart A.own w w' := by
  have hxo : ∀ k, (k = A.mi ∨ k = A.ma ∨ k = A.mc ∨ k = A.b) → ¬ own3 A.f A.lb A.v k := fun k hk ho => by
    have := h.sep k ho
    rcases hk with rfl | rfl | rfl | rfl
    · exact this.2.1 rfl
    · exact this.2.2.1 rfl
    · exact this.2.2.2 rfl
    · exact this.1 rfl
  refine ⟨⟨?_, hp, h.mi.block (ha.block _ h.mi.lt (hxo _ (.inl rfl))), h.ma.block (ha.block _ h.ma.lt (hxo _ (.inr (.inl rfl)))), h.mc.block (ha.block _ h.mc.lt (hxo _ (.inr (.inr (.inl rfl))))), ?_, h.sb, h.sm⟩, ha.mono fun k hk => .inl hk⟩
  · have e : ({ A with v := v } : Ad).cs { S with F := F } = A.cs S := by simp [Ad.cs, hn]
    rw [e]
    exact (ha.block _ h.head.lt (hxo _ (.inr (.inr (.inr rfl))))).trans h.head
  · rintro k (e | e | e)
    · exact h.sep k (.inl e)
    · exact h.sep k (.inr (.inl e))
    · rcases hf k e with e | e
      · exact h.sep k (.inr (.inr e))
      · have l1 := h.head.lt
        have l2 := h.mi.lt
        have l3 := h.ma.lt
        have l4 := h.mc.lt
        show k ≠ A.b ∧ k ≠ A.mi ∧ k ≠ A.ma ∧ k ≠ A.mc
        omega
theorem less_id (hJ : J S) {x : En} (hx : x ∈ S.L) : (S.L.filter fun e => !(e.id == x.id)) = (S.less x.nd).L := by
  unfold Sp.less
  refine List.filter_congr fun e he => ?_
  have : e.id = x.id ↔ e.nd = x.nd := ⟨fun h => by rw [hJ.same_id he hx h], fun h => by rw [hJ.same_nd he hx h]⟩
  congr 1
  rw [Bool.eq_iff_iff, beq_iff_eq, beq_iff_eq]
  exact this
set_option maxRecDepth 100000 in
set_option maxHeartbeats 1000000 in
theorem delete_no (h : SpAt w A S) (hl : Lim S) (g s : Int) (hf : S.full g s ≠ 0) :
    Calls Try.prog 33 #[.pointer (some ⟨A.b, 0, none⟩), .int .i64 g, .int .i64 s] w fun e w' => e = .returned (.int .i64 (S.full g s)) ∧ w = w' := by
  have CF := full_is h hl g s
  have hq : (S.full g s != 0) = true := by simpa using hf
  generalize S.full g s = E at *
  clear hf h
  go_enter Try.func33, Try.ntmps33
  go_wp2_with (go_at_call 48; refine CF.mono ?_; rintro e w2 ⟨rfl, rfl⟩)
  go_ret
  exact ⟨rfl, rfl⟩
set_option maxRecDepth 100000 in
set_option maxHeartbeats 1000000 in
theorem delete_yes (h : SpAt w A S) (hl : Lim S) (hJ : J S) (g s : Int) (ht : S.there g s = true) {x : En} (hf : fnd S.L g s = some x) :
    Calls Try.prog 33 #[.pointer (some ⟨A.b, 0, none⟩), .int .i64 g, .int .i64 s] w fun e w' => e = .returned (.int .i64 0) ∧ ∃ v', SpAt w' { A with v := v' } (S.del x) ∧ Fresh w A.v v' ∧ Apart A.own w w' := by
  have CF := full_is h hl g s
  have hE : S.full g s = 0 := by simp [Sp.full, ht, hf]
  rw [hE] at CF
  have hx := (fnd_mem hf).1
  have l1 := in_yes h hl ht hf false
  simp only [Bool.false_eq_true, if_false, spotV] at l1
  have CG := forget_is h hl (hJ.jl hl) hx
  have CD := fun (w2 : World) (h2 : SpAt w2 A (S.less x.nd)) => drop_is h2.prg x.nd (hJ.there_of hx)
  obtain ⟨-, -, -, -, c4, -, -⟩ := h.cells
  have FIN : ∀ (w2 w3 : World) (v' : Value), SpAt w2 A (S.less x.nd) → Apart A.own w w2 → Prg w3 A.f A.lb v' (S.F.drop x.nd) → Fresh w2 A.v v' → Apart (own3 A.f A.lb A.v) w2 w3 → SpAt w3 { A with v := v' } (S.del x) ∧ Fresh w A.v v' ∧ Apart A.own w w3 := by
    intro w2 w3 v' h2 ha hp hfr ha3
    obtain ⟨h3, ha4⟩ := h2.reforest (F := S.F.drop x.nd) rfl hp hfr ha3
    refine ⟨?_, fun k hk => ?_, ha.trans ha4 fun k _ hk => hk⟩
    · have h4 := h3.relist (fun y => if y.up = x.id then { y with up := x.up } else y) (fun e => by split <;> exact ⟨rfl, rfl, rfl, rfl⟩) S.came
      have e : ({ S.less x.nd with F := S.F.drop x.nd, L := (S.less x.nd).L.map fun y => if y.up = x.id then { y with up := x.up } else y, came := S.came } : Sp) = S.del x := by
        unfold Sp.del
        rw [less_id hJ hx]
        rfl
      exact e ▸ h4
    · rcases hfr k hk with e | e
      · exact .inl e
      · exact .inr (Nat.le_trans ha.size e)
  have HFIN := Lib.hid FIN
  have HCD := Lib.hid CD
  clear h hE hf ht hJ hx FIN CD
  go_enter Try.func33, Try.ntmps33
  go_wp2_with (first | (go_at_call 48; refine CF.mono ?_; rintro e w2 ⟨rfl, hw2⟩; subst w2) | (go_at_call 58; refine CG.mono ?_; rintro e w2 ⟨rfl, h2, ha2⟩; obtain ⟨-, -, -, d3, -⟩ := h2.cells; (have CD2 := HCD.out w2 h2); (have H2 := Lib.hid (And.intro h2 ha2)); clear h2 ha2) | (go_at_call 76; refine CD2.mono ?_; rintro e w3 ⟨rfl, v', hp, hfr, ha3⟩; (have H3 := Lib.hid (HFIN.out w2 w3 v' H2.out.1 H2.out.2 hp hfr ha3)); clear hp hfr ha3 CD2))
  go_ret
  exact ⟨rfl, v', H3.out⟩
end
end Go.Proofs.Ytbknmfegckeogaa

/- Capability tables: Revoke, by walk. -/
namespace Go.Proofs.Ytbknmfegckeogaa
open Go.RowKit Go.Maps
set_option linter.unusedVariables false
set_option linter.unusedSimpArgs false

/-- Without some nodes' entries, over a forest. -/
def Sp.lessL (S : Sp) (F : Fo) (ds : List Nat) : Sp := { S with F := F, L := S.L.filter fun e => !(ds.contains e.nd) }
theorem lessL_mem {S : Sp} {F : Fo} {ds : List Nat} {e : En} : e ∈ (S.lessL F ds).L ↔ e ∈ S.L ∧ e.nd ∉ ds := by
  unfold Sp.lessL
  rw [List.mem_filter]
  simp
theorem lessL_nil (S : Sp) (F : Fo) : S.lessL F [] = { S with F := F } := by
  unfold Sp.lessL
  have : S.L.filter (fun e => !(([] : List Nat).contains e.nd)) = S.L := List.filter_eq_self.2 fun e _ => by simp
  rw [this]
theorem lessL_snoc (S : Sp) (F : Fo) (ds : List Nat) (d : Nat) : S.lessL F (ds ++ [d]) = (S.lessL F ds).less d := by
  unfold Sp.lessL Sp.less
  simp only [List.filter_filter]
  congr 1
  refine List.filter_congr fun e _ => ?_
  rw [Bool.eq_iff_iff]
  simp
  exact ⟨fun h => ⟨h.2, h.1⟩, fun h => ⟨h.2, h.1⟩⟩
theorem JL.lessL {S : Sp} (h : JL S) (F : Fo) (ds : List Nat) : JL (S.lessL F ds) :=
  ⟨h.nd.sublist (List.filter_sublist.map _), h.pl.sublist (List.filter_sublist.map _), fun e he => h.rng e (List.mem_filter.1 he).1, fun e he => h.ndb e (List.mem_filter.1 he).1⟩
section
variable {w : World} {A : Ad} {S : Sp}
set_option maxRecDepth 100000 in
set_option maxHeartbeats 1000000 in
theorem revoke_no (h : SpAt w A S) (hl : Lim S) (g s : Int) (hf : S.full g s ≠ 0) :
    Calls Try.prog 21 #[.pointer (some ⟨A.b, 0, none⟩), .int .i64 g, .int .i64 s] w fun e w' => e = .returned (.tuple #[.int .i64 0, .int .i64 (S.full g s)]) ∧ w = w' := by
  have CF := full_is h hl g s
  have hq : (S.full g s != 0) = true := by simpa using hf
  generalize S.full g s = E at *
  clear hf h
  go_enter Try.func21, Try.ntmps21
  go_wp2_with (go_at_call 48; refine CF.mono ?_; rintro e w2 ⟨rfl, rfl⟩)
  go_ret2
  exact ⟨rfl, rfl⟩
set_option maxRecDepth 100000 in
set_option maxHeartbeats 4000000 in
theorem revoke_yes (h : SpAt w A S) (hl : Lim S) (hJ : J S) (g s : Int) (ht : S.there g s = true) {x : En} (hf : fnd S.L g s = some x) {ds : List Nat} (hd : Flat S.F (S.F.kids (x.nd : Int)) ds) :
    Calls Try.prog 21 #[.pointer (some ⟨A.b, 0, none⟩), .int .i64 g, .int .i64 s] w fun e w' => e = .returned (.tuple #[.int .i64 (ds.length : Int), .int .i64 0]) ∧ ∃ v', SpAt w' { A with v := v' } (S.rev x ds) ∧ Fresh w A.v v' ∧ Apart A.own w w' := by
  have CF := full_is h hl g s
  have hE : S.full g s = 0 := by simp [Sp.full, ht, hf]
  rw [hE] at CF
  have hx := (fnd_mem hf).1
  have hd1 : SpAt w.drew A S := h.keep (fun _ _ => rfl) (Nat.le_refl _)
  have l1 := in_yes hd1 hl ht hf false
  simp only [Bool.false_eq_true, if_false, spotV] at l1
  have LK : ∀ w' : World, w'.heap[A.mi]? = w.heap[A.mi]? → (Instr.lookup 70 (.map (some A.mi)) (.agg #[.int .i64 g, .int .i64 s]) false).run Try.prog w' = .ok (.int .i64 (x.nd : Int)) w' := by
    intro w' hb
    have := run_lookup_yes spotKeyed Try.underlying70 (h.mi.block hb) (there_key hl ht) ⟨x, hx, by rw [(fnd_mem hf).2.1, (fnd_mem hf).2.2], rfl⟩ false
    exact this
  have HSEP := Lib.hid (show ∀ w2 : World, Apart (own3 A.f A.lb A.v) w.drew w2 → w2.heap[A.b]? = w.heap[A.b]? ∧ w2.heap[A.mi]? = w.heap[A.mi]? from fun w2 ha => ⟨ha.block A.b h.head.lt (fun ho => (h.sep _ ho).1 rfl), ha.block A.mi h.mi.lt (fun ho => (h.sep _ ho).2.1 rfl)⟩)
  have CP := prune_is hd1.prg x.nd (hJ.there_of hx) hd
  obtain ⟨-, -, -, c3, c4, -, -⟩ := h.cells
  have hnd : ds.Nodup := Flat.nodup hJ.wf hd (x.nd : Int) (fun i hi => hi) (hJ.wf.nd _)
  have hin : ∀ d ∈ ds, ∃ e ∈ S.L, e.nd = d := fun d hh => (hJ.thr d).1 ((desc_mem hJ.wf hd d).1 hh).there
  have hdl : ds.length ≤ 1000 := by
    have h1 := hJ.gone hx hd
    have h2 := hJ.count
    have h3 := hl.n
    omega
  have hlP : Lim ({ S with F := S.F.prune x.nd ds } : Sp) := ⟨hl.gs, hl.sl, hl.n⟩
  have hjl := hJ.jl hl
  have START : ∀ (w2 : World) (v' : Value), Prg w2 A.f A.lb v' (S.F.prune x.nd ds) → Fresh w.drew A.v v' → Apart (own3 A.f A.lb A.v) w.drew w2 → SpAt w2 { A with v := v' } (S.lessL (S.F.prune x.nd ds) []) ∧ Apart A.own w w2 := by
    intro w2 v' hp hfr ha
    have := hd1.reforest (F := S.F.prune x.nd ds) rfl hp hfr ha
    rw [lessL_nil]
    exact ⟨this.1, (Apart.refl A.own w).drew.trans this.2 fun k _ hk => hk⟩
  have STEP : ∀ (w2 : World) (A2 : Ad) (k : Nat) (hk : k < ds.length), SpAt w2 A2 (S.lessL (S.F.prune x.nd ds) (ds.take k)) → Calls Try.prog 58 #[.pointer (some ⟨A2.b, 0, none⟩), .int .i64 ((ds[k]'hk : Nat) : Int)] w2 fun e w' => e = .returned (.tuple #[]) ∧ SpAt w' A2 (S.lessL (S.F.prune x.nd ds) (ds.take (k + 1))) ∧ Apart A2.own w2 w' := by
    intro w2 A2 k hk h2
    obtain ⟨e, he, hed⟩ := hin _ (List.getElem_mem hk)
    have hnt : ds[k]'hk ∉ ds.take k := by
      intro hm
      obtain ⟨j, hj, ej⟩ := List.getElem_of_mem hm
      rw [List.getElem_take] at ej
      have hjk : j < k := by simp at hj; omega
      have := (List.getElem_inj (h₀ := by omega) (h₁ := hk) hnd).1 ej
      omega
    have := forget_is h2 ⟨hl.gs, hl.sl, hl.n⟩ (hjl.lessL _ _) (x := e) (lessL_mem.2 ⟨he, by rw [hed]; exact hnt⟩)
    rw [hed] at this
    rw [List.take_succ_eq_append_getElem hk, lessL_snoc]
    exact this
  have hlt5 : A.b < w.heap.size ∧ A.mi < w.heap.size ∧ A.ma < w.heap.size ∧ A.mc < w.heap.size ∧ A.f < w.heap.size ∧ A.lb < w.heap.size := ⟨h.head.lt, h.mi.lt, h.ma.lt, h.mc.lt, own3_lt h.prg (.inl rfl), own3_lt h.prg (.inr (.inl rfl))⟩
  have hrev : S.lessL (S.F.prune x.nd ds) (ds.take ds.length) = S.rev x ds := by rw [List.take_length]; rfl
  have HREV := Lib.hid hrev
  have HST := Lib.hid START
  have HSTEP := Lib.hid STEP
  have H5 := Lib.hid hlt5
  clear h hE hf ht hJ hx hd1 hd hnd hin hjl START STEP hlP hrev hlt5
  go_enter Try.func21, Try.ntmps21
  go_wp2_with (go_at_call 48; refine CF.mono ?_; rintro e w2 ⟨rfl, hw2⟩; subst w2)
  clear CF l1
  refine wp_region_held_drew (S := fun wx => wx.heap[A.b]? = w.heap[A.b]? ∧ wx.heap[A.mi]? = w.heap[A.mi]?) (by kernel_rfl) ⟨rfl, rfl⟩ (fun hHeld => ?_)
  refine wpAnyH_take (i := 0) (v := ?_) rfl (by kernel_rfl) (by kernel_rfl) (by kernel_rfl) (fun _ _ _ h => h) (Or.inl ⟨by kernel_rfl, by (intro w' hSw; obtain ⟨hSa, hSb⟩ := hSw; have q3 := (World.cell?_of_block (w := w) (a := ⟨A.b, 3, none⟩) hSa).trans c3; have q4 := (World.cell?_of_block (w := w) (a := ⟨A.b, 4, none⟩) hSa).trans c4; have ql := LK _ hSb; go_simp; first | done | (with_reducible rfl) | rfl)⟩) hHeld ?_
  (try simp only [Act.put, List.getElem_toArray, List.getElem_cons_zero, List.getElem_cons_succ, List.setIfInBounds_toArray, List.set_cons_zero, List.set_cons_succ])
  refine wpAnyH_take (i := 1) (v := ?_) rfl (by kernel_rfl) (by kernel_rfl) (by kernel_rfl) (fun _ _ _ h => h) (Or.inl ⟨by kernel_rfl, by (intro w' hSw; obtain ⟨hSa, hSb⟩ := hSw; have q3 := (World.cell?_of_block (w := w) (a := ⟨A.b, 3, none⟩) hSa).trans c3; have q4 := (World.cell?_of_block (w := w) (a := ⟨A.b, 4, none⟩) hSa).trans c4; have ql := LK _ hSb; go_simp; first | done | (with_reducible rfl) | rfl)⟩) hHeld ?_
  (try simp only [Act.put, List.getElem_toArray, List.getElem_cons_zero, List.getElem_cons_succ, List.setIfInBounds_toArray, List.set_cons_zero, List.set_cons_succ])
  refine wpAnyH_take (i := 2) (v := ?_) rfl (by kernel_rfl) (by kernel_rfl) (by kernel_rfl) (fun _ _ _ h => h) (Or.inl ⟨by kernel_rfl, by (intro w' hSw; obtain ⟨hSa, hSb⟩ := hSw; have q3 := (World.cell?_of_block (w := w) (a := ⟨A.b, 3, none⟩) hSa).trans c3; have q4 := (World.cell?_of_block (w := w) (a := ⟨A.b, 4, none⟩) hSa).trans c4; have ql := LK _ hSb; go_simp; first | done | (with_reducible rfl) | rfl)⟩) hHeld ?_
  (try simp only [Act.put, List.getElem_toArray, List.getElem_cons_zero, List.getElem_cons_succ, List.setIfInBounds_toArray, List.set_cons_zero, List.set_cons_succ])
  refine wpAnyH_take (i := 3) (v := ?_) rfl (by kernel_rfl) (by kernel_rfl) (by kernel_rfl) (fun _ _ _ h => h) (Or.inl ⟨by kernel_rfl, by (intro w' hSw; obtain ⟨hSa, hSb⟩ := hSw; have q3 := (World.cell?_of_block (w := w) (a := ⟨A.b, 3, none⟩) hSa).trans c3; have q4 := (World.cell?_of_block (w := w) (a := ⟨A.b, 4, none⟩) hSa).trans c4; have ql := LK _ hSb; go_simp; first | done | (with_reducible rfl) | rfl)⟩) hHeld ?_
  (try simp only [Act.put, List.getElem_toArray, List.getElem_cons_zero, List.getElem_cons_succ, List.setIfInBounds_toArray, List.set_cons_zero, List.set_cons_succ])
  refine wpAnyH_take (i := 4) (v := ?_) rfl (by kernel_rfl) (by kernel_rfl) (by kernel_rfl) (fun _ _ _ h => h) (Or.inl ⟨by kernel_rfl, by (intro w' hSw; obtain ⟨hSa, hSb⟩ := hSw; have q3 := (World.cell?_of_block (w := w) (a := ⟨A.b, 3, none⟩) hSa).trans c3; have q4 := (World.cell?_of_block (w := w) (a := ⟨A.b, 4, none⟩) hSa).trans c4; have ql := LK _ hSb; go_simp; first | done | (with_reducible rfl) | rfl)⟩) hHeld ?_
  (try simp only [Act.put, List.getElem_toArray, List.getElem_cons_zero, List.getElem_cons_succ, List.setIfInBounds_toArray, List.set_cons_zero, List.set_cons_succ])
  refine wpAnyH_take (i := 5) (v := ?_) rfl (by kernel_rfl) (by kernel_rfl) (by kernel_rfl) (fun _ _ _ h => h) (Or.inl ⟨by kernel_rfl, by (intro w' hSw; obtain ⟨hSa, hSb⟩ := hSw; have q3 := (World.cell?_of_block (w := w) (a := ⟨A.b, 3, none⟩) hSa).trans c3; have q4 := (World.cell?_of_block (w := w) (a := ⟨A.b, 4, none⟩) hSa).trans c4; have ql := LK _ hSb; go_simp; first | done | (with_reducible rfl) | rfl)⟩) hHeld ?_
  (try simp only [Act.put, List.getElem_toArray, List.getElem_cons_zero, List.getElem_cons_succ, List.setIfInBounds_toArray, List.set_cons_zero, List.set_cons_succ])
  refine wpAnyH_take (i := 6) (v := ?_) rfl (by kernel_rfl) (by kernel_rfl) (by kernel_rfl) (fun _ _ _ h => h) (Or.inl ⟨by kernel_rfl, by (intro w' hSw; obtain ⟨hSa, hSb⟩ := hSw; have q3 := (World.cell?_of_block (w := w) (a := ⟨A.b, 3, none⟩) hSa).trans c3; have q4 := (World.cell?_of_block (w := w) (a := ⟨A.b, 4, none⟩) hSa).trans c4; have ql := LK _ hSb; go_simp; first | done | (with_reducible rfl) | rfl)⟩) hHeld ?_
  (try simp only [Act.put, List.getElem_toArray, List.getElem_cons_zero, List.getElem_cons_succ, List.setIfInBounds_toArray, List.set_cons_zero, List.set_cons_succ])
  refine wpAnyH_take (i := 7) (v := ?_) rfl (by kernel_rfl) (by kernel_rfl) (by kernel_rfl) (fun _ _ _ h => h) (Or.inl ⟨by kernel_rfl, by (intro w' hSw; obtain ⟨hSa, hSb⟩ := hSw; have q3 := (World.cell?_of_block (w := w) (a := ⟨A.b, 3, none⟩) hSa).trans c3; have q4 := (World.cell?_of_block (w := w) (a := ⟨A.b, 4, none⟩) hSa).trans c4; have ql := LK _ hSb; go_simp; first | done | (with_reducible rfl) | rfl)⟩) hHeld ?_
  (try simp only [Act.put, List.getElem_toArray, List.getElem_cons_zero, List.getElem_cons_succ, List.setIfInBounds_toArray, List.set_cons_zero, List.set_cons_succ])
  refine wpAnyH_take (i := 8) (v := ?_) rfl (by kernel_rfl) (by kernel_rfl) (by kernel_rfl) (fun _ _ _ h => h) (Or.inl ⟨by kernel_rfl, by (intro w' hSw; obtain ⟨hSa, hSb⟩ := hSw; have q3 := (World.cell?_of_block (w := w) (a := ⟨A.b, 3, none⟩) hSa).trans c3; have q4 := (World.cell?_of_block (w := w) (a := ⟨A.b, 4, none⟩) hSa).trans c4; have ql := LK _ hSb; go_simp; first | done | (with_reducible rfl) | rfl)⟩) hHeld ?_
  (try simp only [Act.put, List.getElem_toArray, List.getElem_cons_zero, List.getElem_cons_succ, List.setIfInBounds_toArray, List.set_cons_zero, List.set_cons_succ])
  refine wpAnyH_take (i := 9) (v := ?_) rfl (by kernel_rfl) (by kernel_rfl) (by kernel_rfl) (fun _ _ _ h => h) (Or.inl ⟨by kernel_rfl, by (intro w' hSw; obtain ⟨hSa, hSb⟩ := hSw; have q3 := (World.cell?_of_block (w := w) (a := ⟨A.b, 3, none⟩) hSa).trans c3; have q4 := (World.cell?_of_block (w := w) (a := ⟨A.b, 4, none⟩) hSa).trans c4; have ql := LK _ hSb; go_simp; first | done | (with_reducible rfl) | rfl)⟩) hHeld ?_
  (try simp only [Act.put, List.getElem_toArray, List.getElem_cons_zero, List.getElem_cons_succ, List.setIfInBounds_toArray, List.set_cons_zero, List.set_cons_succ])
  refine wpAnyH_take (i := 10) (v := ?_) rfl (by kernel_rfl) (by kernel_rfl) (by kernel_rfl) (fun _ _ _ h => h) (Or.inl ⟨by kernel_rfl, by (intro w' hSw; obtain ⟨hSa, hSb⟩ := hSw; have q3 := (World.cell?_of_block (w := w) (a := ⟨A.b, 3, none⟩) hSa).trans c3; have q4 := (World.cell?_of_block (w := w) (a := ⟨A.b, 4, none⟩) hSa).trans c4; have ql := LK _ hSb; go_simp; first | done | (with_reducible rfl) | rfl)⟩) hHeld ?_
  (try simp only [Act.put, List.getElem_toArray, List.getElem_cons_zero, List.getElem_cons_succ, List.setIfInBounds_toArray, List.set_cons_zero, List.set_cons_succ])
  refine wpAnyH_take (i := 11) (v := ?_) rfl (by kernel_rfl) (by kernel_rfl) (by kernel_rfl) (fun _ _ _ h => h) (Or.inl ⟨by kernel_rfl, by (intro w' hSw; obtain ⟨hSa, hSb⟩ := hSw; have q3 := (World.cell?_of_block (w := w) (a := ⟨A.b, 3, none⟩) hSa).trans c3; have q4 := (World.cell?_of_block (w := w) (a := ⟨A.b, 4, none⟩) hSa).trans c4; have ql := LK _ hSb; go_simp; first | done | (with_reducible rfl) | rfl)⟩) hHeld ?_
  (try simp only [Act.put, List.getElem_toArray, List.getElem_cons_zero, List.getElem_cons_succ, List.setIfInBounds_toArray, List.set_cons_zero, List.set_cons_succ])
  refine wpAnyH_ready (rs := [12]) (by kernel_rfl) (by simp) ?_
  refine AllReadyH.cons rfl (fun K hK => ?_) AllReadyH.nil
  go_simp
  go_at_call 57; refine CP.mono ?_; rintro e w1 ⟨A1, cap1, rfl, hown, v', hp, hfr, hap, hnv⟩; (have hSS : w1.heap[A.b]? = w.heap[A.b]? ∧ w1.heap[A.mi]? = w.heap[A.mi]? := HSEP.out w1 hap); (have HS1 := Lib.hid (And.intro (HST.out w1 v' hp hfr hap) (And.intro hfr hnv))); clear hp hfr hap hnv CP
  try dsimp only
  clear hHeld
  refine hK.out _ _ hSS (fun hHeld => ?_)
  clear hK K
  (try simp only [Act.put, List.getElem_toArray, List.getElem_cons_zero, List.getElem_cons_succ, List.setIfInBounds_toArray, List.set_cons_zero, List.set_cons_succ])
  refine wpAnyH_take (i := 13) (v := ?_) rfl (by kernel_rfl) (by kernel_rfl) (by kernel_rfl) (fun _ _ _ h => h) (Or.inl ⟨by kernel_rfl, by (intro w' hSw; obtain ⟨hSa, hSb⟩ := hSw; have q3 := (World.cell?_of_block (w := w) (a := ⟨A.b, 3, none⟩) hSa).trans c3; have q4 := (World.cell?_of_block (w := w) (a := ⟨A.b, 4, none⟩) hSa).trans c4; have ql := LK _ hSb; go_simp; first | done | (with_reducible rfl) | rfl)⟩) hHeld ?_
  (try simp only [Act.put, List.getElem_toArray, List.getElem_cons_zero, List.getElem_cons_succ, List.setIfInBounds_toArray, List.set_cons_zero, List.set_cons_succ])
  refine wpAnyH_take (i := 14) (v := ?_) rfl (by kernel_rfl) (by kernel_rfl) (by kernel_rfl) (fun _ _ _ h => h) (Or.inl ⟨by kernel_rfl, by (intro w' hSw; obtain ⟨hSa, hSb⟩ := hSw; have q3 := (World.cell?_of_block (w := w) (a := ⟨A.b, 3, none⟩) hSa).trans c3; have q4 := (World.cell?_of_block (w := w) (a := ⟨A.b, 4, none⟩) hSa).trans c4; have ql := LK _ hSb; go_simp; first | done | (with_reducible rfl) | rfl)⟩) hHeld ?_
  (try simp only [Act.put, List.getElem_toArray, List.getElem_cons_zero, List.getElem_cons_succ, List.setIfInBounds_toArray, List.set_cons_zero, List.set_cons_succ])
  refine wpAnyH_take (i := 15) (v := ?_) rfl (by kernel_rfl) (by kernel_rfl) (by kernel_rfl) (fun _ _ _ h => h) (Or.inl ⟨by kernel_rfl, by (intro w' hSw; obtain ⟨hSa, hSb⟩ := hSw; have q3 := (World.cell?_of_block (w := w) (a := ⟨A.b, 3, none⟩) hSa).trans c3; have q4 := (World.cell?_of_block (w := w) (a := ⟨A.b, 4, none⟩) hSa).trans c4; have ql := LK _ hSb; go_simp; first | done | (with_reducible rfl) | rfl)⟩) hHeld ?_
  (try simp only [Act.put, List.getElem_toArray, List.getElem_cons_zero, List.getElem_cons_succ, List.setIfInBounds_toArray, List.set_cons_zero, List.set_cons_succ])
  refine wpAnyH_take (i := 16) (v := ?_) rfl (by kernel_rfl) (by kernel_rfl) (by kernel_rfl) (fun _ _ _ h => h) (Or.inl ⟨by kernel_rfl, by (intro w' hSw; obtain ⟨hSa, hSb⟩ := hSw; have q3 := (World.cell?_of_block (w := w) (a := ⟨A.b, 3, none⟩) hSa).trans c3; have q4 := (World.cell?_of_block (w := w) (a := ⟨A.b, 4, none⟩) hSa).trans c4; have ql := LK _ hSb; go_simp; first | done | (with_reducible rfl) | rfl)⟩) hHeld ?_
  (try simp only [Act.put, List.getElem_toArray, List.getElem_cons_zero, List.getElem_cons_succ, List.setIfInBounds_toArray, List.set_cons_zero, List.set_cons_succ])
  refine wpAnyH_take (i := 17) (v := ?_) rfl (by kernel_rfl) (by kernel_rfl) (by kernel_rfl) (fun _ _ _ h => h) (Or.inl ⟨by kernel_rfl, by (intro w' hSw; obtain ⟨hSa, hSb⟩ := hSw; have q3 := (World.cell?_of_block (w := w) (a := ⟨A.b, 3, none⟩) hSa).trans c3; have q4 := (World.cell?_of_block (w := w) (a := ⟨A.b, 4, none⟩) hSa).trans c4; have ql := LK _ hSb; go_simp; first | done | (with_reducible rfl) | rfl)⟩) hHeld ?_
  (try simp only [Act.put, List.getElem_toArray, List.getElem_cons_zero, List.getElem_cons_succ, List.setIfInBounds_toArray, List.set_cons_zero, List.set_cons_succ])
  refine wpAnyH_done (by kernel_rfl) ?_ _
  clear LK c3 c4
  go_wp2_with fail
  go_loopw [38] (fun i wr => ∃ k : Nat, i = .int .i64 (k : Int) ∧ k ≤ ds.length ∧ SpAt wr { A with v := v' } (S.lessL (S.F.prune x.nd ds) (ds.take k)) ∧ Apart ({ A with v := v' } : Ad).own w1 wr ∧ wr.ownsRow w.heap.size 3 1 (.slice A1 ds.length cap1) ds.length (intV (nats ds))) (fun i _ => ds.length + 1 - (intOf i).toNat)
  case atStart => exact ⟨0, rfl, Nat.zero_le _, HS1.out.1.1, Apart.refl _ _, hown⟩
  case round =>
    obtain ⟨k, rfl, hk, hS, hA, hO⟩ := hrel
    by_cases hlt : k < ds.length
    · have hlt1 : (k : Int) < (ds.length : Int) := by omega
      have FG := HSTEP.out wr { A with v := v' } k hlt hS
      have hrd := Reads.of_own hO
      obtain ⟨ad, u, rfl, had, hu, hcu⟩ := Reads.at_ hrd hlt
      have hu' : u = .int .i64 ((ds[k]'hlt : Nat) : Int) := by
        simp [intV, nats, hlt] at hu
        exact hu.symm
      subst hu'
      obtain ⟨gb, hgb⟩ := own_form hO (by omega)
      have hob : ∀ w2, Apart ({ A with v := v' } : Ad).own wr w2 → w2.ownsRow w.heap.size 3 1 (.slice (some ad) ds.length cap1) ds.length (intV (nats ds)) := by
        intro w2 h2
        refine own_apart hO h2 fun j hj ho => ?_
        have hj2 := (hO.lt j hj).1
        have h5 := H5.out
        rcases ho with (e | e | e) | e | e | e | e
        · have : j = A.f := e
          omega
        · have : j = A.lb := e
          omega
        · exact HS1.out.2.2 j hj e
        · have : j = A.b := e
          omega
        · have : j = A.mi := e
          omega
        · have : j = A.ma := e
          omega
        · have : j = A.mc := e
          omega
      have HO := Lib.hid hob
      have HSA := Lib.hid (And.intro hS (And.intro hA (And.intro hO hk)))
      have HK := Lib.hid hlt
      clear hob hrd hS hA hO hk hown
      injection hgb with hgb
      subst hgb
      simp only [Addr.add_lit, Nat.zero_add] at hcu
      generalize ds[k]'hlt = d at *
      clear hlt
      go_wp2_with (go_at_call 58; refine FG.mono ?_; rintro e w2 ⟨rfl, hS2, hA2⟩; (have H2 := Lib.hid (And.intro hS2 hA2)); clear hS2 hA2 FG)
      go_roundw
      case rel => exact ⟨k + 1, by go_num, HK.out, H2.out.1, HSA.out.2.1.trans H2.out.2 (fun _ _ h => h), HO.out _ H2.out.2⟩
      case measure =>
        have := HK.out
        simp [intOf]
        omega
    · have hlt1 : ¬ (k : Int) < (ds.length : Int) := by omega
      obtain rfl : k = ds.length := by omega
      have HSA := Lib.hid (And.intro hS hA)
      clear hS hA hO hk hlt hown
      go_wp2_with fail
      go_ret2
      have hs := HSA.out.1
      rw [HREV.out] at hs
      refine ⟨rfl, v', hs, fun j hj => HS1.out.2.1 j hj, ?_⟩
      refine HS1.out.1.2.trans HSA.out.2 fun j hj ho => ?_
      rcases ho with (e | e | e) | e
      · exact .inl (.inl e)
      · exact .inl (.inr (.inl e))
      · rcases HS1.out.2.1 j e with e2 | e2
        · exact .inl (.inr (.inr e2))
        · have : w.drew.heap.size = w.heap.size := rfl
          omega
      · exact .inr e
end
end Go.Proofs.Ytbknmfegckeogaa
