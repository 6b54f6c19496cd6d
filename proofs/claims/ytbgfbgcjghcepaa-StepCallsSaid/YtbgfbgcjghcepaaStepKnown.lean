/- What a step leaves, in a few forms; the chapter's rows hold. -/
import Derived.Test.YtbgfbgcjghcepaaStepGo
import Derived.Test.YtbgfbgcjghcepaaStepEq
namespace Go.Proofs.Ytbgfbgcjghcepaa
open Go.RowKit
set_option linter.unusedVariables false
set_option linter.unusedSimpArgs false

/-- A step's forms. -/
inductive Form (n : Nat) (g : Gr) : Step → Prop where
  | over : ((n / 4 : Nat) : Int) ≤ g.pc → Form n g ⟨g, call0, 3⟩
  | to (p : Int) (cl : Array Value) (k : Int) : (p = wrap64 (g.pc + 1) ∨ 0 ≤ p ∧ p ≤ ((n / 4 : Nat) : Int)) → k = 1 ∨ k = 2 → 0 ≤ g.pc → g.pc < ((n / 4 : Nat) : Int) → Form n g ⟨g.to p, cl, k⟩
  | put (i x : Nat) : i < 8 → x < M64 → 0 ≤ g.pc → g.pc < ((n / 4 : Nat) : Int) → Form n g ⟨g.put i x, call0, 1⟩
  | bad (z : Int) : z = 6 ∨ z = 7 → g.pc ≤ ((n / 4 : Nat) : Int) → Form n g ⟨g.bad z, call0, 4⟩

theorem wrap_lt (z : Int) : (IntKind.u64.wrap z).toNat < M64 := by
  rw [IntKind.wrap_u64]
  unfold M64
  omega
theorem jump_form (n : Nat) (g : Gr) (b c : Int) (h1 : 0 ≤ g.pc) (h2 : g.pc < ((n / 4 : Nat) : Int)) :
    Form n g (match jumpM n g b c with | .ok g' cl w => ⟨g', cl, w⟩ | .bad z => ⟨g.bad z, call0, 4⟩) := by
  unfold jumpM
  by_cases h : toR g.pc b c < 0 ∨ ((n / 4 : Nat) : Int) < toR g.pc b c
  · rw [if_pos h]
    exact .bad 7 (.inr rfl) (by omega)
  · rw [if_neg h]
    exact .to _ _ _ (.inr (by omega)) (.inl rfl) h1 h2
theorem ins_form (n : Nat) (g : Gr) (hg : g.Ok) (k a b c : Nat) (hk : k < 8 ∨ 17 ≤ k ∧ k ≤ 38) (ha : k = 1 ∨ k = 2 ∨ k = 3 ∨ k = 4 ∨ k = 6 ∨ k = 7 → a < 8) (h1 : 0 ≤ g.pc) (h2 : g.pc < ((n / 4 : Nat) : Int)) :
    Form n g (match insM n g k a b c with | .ok g' cl w => ⟨g', cl, w⟩ | .bad z => ⟨g.bad z, call0, 4⟩) := by
  have J := jump_form n g b c h1 h2
  unfold insM
  simp only [Int.toNat_natCast]
  rcases hk with hk | hk
  · obtain rfl | rfl | rfl | rfl | rfl | rfl | rfl | rfl : k = 0 ∨ k = 1 ∨ k = 2 ∨ k = 3 ∨ k = 4 ∨ k = 5 ∨ k = 6 ∨ k = 7 := by omega
    · exact .to _ _ _ (.inl rfl) (.inl rfl) h1 h2
    · exact .put _ _ (ha (by decide)) (wrap_lt _) h1 h2
    · show Form n g (match (if g.r b + g.r c < M64 then _ else _ : Out) with | .ok g' cl w => _ | .bad z => _)
      by_cases h : g.r b + g.r c < M64
      · rw [if_pos h]; exact .put _ _ (ha (by decide)) h h1 h2
      · rw [if_neg h]; exact .bad 6 (.inl rfl) (by omega)
    · show Form n g (match (if g.r c ≤ g.r b then _ else _ : Out) with | .ok g' cl w => _ | .bad z => _)
      by_cases h : g.r c ≤ g.r b
      · rw [if_pos h]; exact .put _ _ (ha (by decide)) (by have := hg b; omega) h1 h2
      · rw [if_neg h]; exact .bad 6 (.inl rfl) (by omega)
    · show Form n g (match (if g.r b * g.r c < M64 then _ else _ : Out) with | .ok g' cl w => _ | .bad z => _)
      by_cases h : g.r b * g.r c < M64
      · rw [if_pos h]; exact .put _ _ (ha (by decide)) h h1 h2
      · rw [if_neg h]; exact .bad 6 (.inl rfl) (by omega)
    · exact J
    · show Form n g (match (if g.r a = 0 then jumpM n g b c else _ : Out) with | .ok g' cl w => _ | .bad z => _)
      by_cases h : g.r a = 0
      · rw [if_pos h]; exact J
      · rw [if_neg h]; exact .to _ _ _ (.inl rfl) (.inl rfl) h1 h2
    · exact .put _ _ (ha (by decide)) (wrap_lt _) h1 h2
  · rw [if_neg (by omega), if_neg (by omega), if_neg (by omega), if_neg (by omega), if_neg (by omega), if_neg (by omega), if_neg (by omega), if_neg (by omega)]
    exact .to _ _ _ (.inl rfl) (.inr rfl) h1 h2
theorem go_form (n : Nat) (D : Nat → Int) (hD : ∀ i, 0 ≤ D i) (g : Gr) (hg : g.Ok) : Form n g (goM n D g) := by
  unfold goM
  by_cases ho : Over n D g
  · rw [if_pos ho]
    refine .over ?_
    rcases ho with h | h
    · unfold decR at h
      by_cases h1 : n % 4 = 0 ∧ g.pc = ((n / 4 : Nat) : Int)
      · omega
      · rw [if_neg h1] at h
        by_cases h2 : g.pc < 0 ∨ ((n / 4 : Nat) : Int) ≤ g.pc
        · rw [if_pos h2] at h
          exact absurd h (by simp)
        · rw [if_neg h2] at h
          simp only at h
          split at h
          · exact absurd h (by simp)
          · split at h
            · exact absurd h (by simp)
            · exact absurd h (by simp)
    · omega
  · rw [if_neg ho]
    have hp : g.pc ≤ ((n / 4 : Nat) : Int) := Int.not_lt.mp fun h => ho (.inr h)
    unfold doM
    by_cases he : (decR n D g.pc).e = 0
    · rw [if_neg (not_not_intro he)]
      obtain ⟨k, a, b, c, hd, hk, ha, hbc, h1, h2⟩ := dec_facts n D hD g.pc he
      rw [hd]
      exact ins_form n g hg k a b c hk ha h1 h2
    · rw [if_pos he]
      exact .bad 7 (.inr rfl) hp

/-- Bytes that are written out. -/
def lit (l : List Int) (i : Nat) : Int := l.getD i 0
theorem code_new (w : World) (l : List Int) (m : Nat) (hm : l.length = m) (h0 : ∀ x ∈ l, 0 ≤ x) (h1 : m < 1000000000) :
    CodeAt (w.alloc (.cells (l.map fun x => Value.int .u8 x).toArray 5)) (.slice (some ⟨w.heap.size, 0, none⟩) m m) m (lit l) := by
  refine ⟨h1, fun i => ?_, _, _, rfl, Nat.le_refl _, fun _ => ⟨_, _, rfl, by simp, fun i hi => ?_⟩⟩
  · unfold lit
    rw [List.getD_eq_getElem?_getD]
    cases h : l[i]? with
    | none => simp
    | some x => exact h0 x (List.mem_of_getElem? h)
  · rw [Nat.zero_add]
    refine ((Blk.new w 5 _).cell i).trans ?_
    have hi' : i < l.length := by omega
    simp [lit, List.getD_eq_getElem?_getD, List.getElem?_eq_getElem hi']

def gK (r0 r1 r2 r3 r4 r5 : Nat) : Gr := ⟨0, false, 0, 0, 0, 0, 0, 0, 0, fun i => [r0, r1, r2, r3, r4, r5, 0, 0].getD i 0, 0, 0⟩
theorem gK_ok (r0 r1 r2 r3 r4 r5 : Nat) (h : ∀ x ∈ [r0, r1, r2, r3, r4, r5], x < M64) : (gK r0 r1 r2 r3 r4 r5).Ok := by
  intro i
  show [r0, r1, r2, r3, r4, r5, 0, 0].getD i 0 < M64
  rw [List.getD_eq_getElem?_getD]
  cases hx : [r0, r1, r2, r3, r4, r5, 0, 0][i]? with
  | none => unfold M64; decide
  | some x =>
    have hm := List.mem_of_getElem? hx
    simp only [List.mem_cons, List.not_mem_nil, or_false] at hm h
    show x < M64
    rcases hm with rfl | rfl | rfl | rfl | rfl | rfl | rfl | rfl
    all_goals first | exact h _ (by simp) | (unfold M64; decide)

theorem known_one : (goM 4 (lit [3, 0, 1, 2]) (gK 0 3 5 0 0 0)).v = .tuple #[.agg #[.int .i64 0, .bool false, .int .i64 0, .int .u64 0, .int .i64 0, .int .u64 0, .int .u8 0, .int .i64 0, .int .i64 1, .int .u64 0, .int .u64 3, .int .u64 5, .int .u64 0, .int .u64 0, .int .u64 0, .int .u64 0, .int .u64 0, .int .i64 6, .int .u64 0], .agg #[.int .i64 0, .int .u64 0, .int .u64 0, .int .u64 0, .int .u64 0, .int .u64 0], .int .i64 4] := by kernel_rfl
theorem known_two : (goM 4 (lit [21, 0, 0, 0]) (gK 9 8 7 6 5 4)).v = .tuple #[.agg (goM 4 (lit [21, 0, 0, 0]) (gK 9 8 7 6 5 4)).g.c, .agg #[.int .i64 5, .int .u64 9, .int .u64 8, .int .u64 7, .int .u64 6, .int .u64 5], .int .i64 2] := by kernel_rfl
theorem known_g1 : (gK 0 3 5 0 0 0).c = #[.int .i64 0, .bool false, .int .i64 0, .int .u64 0, .int .i64 0, .int .u64 0, .int .u8 0, .int .i64 0, .int .i64 0, .int .u64 0, .int .u64 3, .int .u64 5, .int .u64 0, .int .u64 0, .int .u64 0, .int .u64 0, .int .u64 0, .int .i64 0, .int .u64 0] := by kernel_rfl
theorem known_g2 : (gK 9 8 7 6 5 4).c = #[.int .i64 0, .bool false, .int .i64 0, .int .u64 0, .int .i64 0, .int .u64 0, .int .u8 0, .int .i64 0, .int .i64 0, .int .u64 9, .int .u64 8, .int .u64 7, .int .u64 6, .int .u64 5, .int .u64 4, .int .u64 0, .int .u64 0, .int .i64 0, .int .u64 0] := by kernel_rfl
theorem m64_1 : ∀ x ∈ [0, 3, 5, 0, 0, 0], x < M64 := by intro x hx; unfold M64; simp only [List.mem_cons, List.not_mem_nil, or_false] at hx; omega
theorem m64_2 : ∀ x ∈ [9, 8, 7, 6, 5, 4], x < M64 := by intro x hx; unfold M64; simp only [List.mem_cons, List.not_mem_nil, or_false] at hx; omega
theorem pos_1 : ∀ x ∈ [(3 : Int), 0, 1, 2], 0 ≤ x := by intro x hx; simp only [List.mem_cons, List.not_mem_nil, or_false] at hx; omega
theorem pos_2 : ∀ x ∈ [(21 : Int), 0, 0, 0], 0 ≤ x := by intro x hx; simp only [List.mem_cons, List.not_mem_nil, or_false] at hx; omega

def b1V : Array Value := #[.int .u8 3, .int .u8 0, .int .u8 1, .int .u8 2]
def b2V : Array Value := #[.int .u8 21, .int .u8 0, .int .u8 0, .int .u8 0]
def o1V : Array Value := #[.int .i64 0, .bool false, .int .i64 0, .int .u64 0, .int .i64 0, .int .u64 0, .int .u8 0, .int .i64 0, .int .i64 1, .int .u64 0, .int .u64 3, .int .u64 5, .int .u64 0, .int .u64 0, .int .u64 0, .int .u64 0, .int .u64 0, .int .i64 6, .int .u64 0]
def g1V : Array Value := #[.int .i64 0, .bool false, .int .i64 0, .int .u64 0, .int .i64 0, .int .u64 0, .int .u8 0, .int .i64 0, .int .i64 0, .int .u64 0, .int .u64 3, .int .u64 5, .int .u64 0, .int .u64 0, .int .u64 0, .int .u64 0, .int .u64 0, .int .i64 0, .int .u64 0]
def g2V : Array Value := #[.int .i64 0, .bool false, .int .i64 0, .int .u64 0, .int .i64 0, .int .u64 0, .int .u8 0, .int .i64 0, .int .i64 0, .int .u64 9, .int .u64 8, .int .u64 7, .int .u64 6, .int .u64 5, .int .u64 4, .int .u64 0, .int .u64 0, .int .i64 0, .int .u64 0]
theorem known_a1 (w : World) : Calls Try.prog 9 #[.slice (some ⟨w.heap.size, 0, none⟩) 4 4, .agg g1V] (w.alloc (.cells b1V 5)) fun e w' => e = .returned (.tuple #[.agg o1V, .agg call0, .int .i64 4]) ∧ Below (w.heap.size + 1) (w.alloc (.cells b1V 5)) w' := by
  have A1 := go_is _ 4 (lit [3, 0, 1, 2]) (gK 0 3 5 0 0 0) _ (code_new w [3, 0, 1, 2] 4 rfl pos_1 (by omega)) (gK_ok _ _ _ _ _ _ m64_1)
  rw [known_one, known_g1] at A1
  refine A1.mono fun e w' hp => ⟨hp.1, ?_⟩
  have h := hp.2
  rw [World.size_alloc] at h
  exact h
theorem known_a2 (w : World) : Calls Try.prog 9 #[.slice (some ⟨w.heap.size, 0, none⟩) 4 4, .agg g2V] (w.alloc (.cells b2V 5)) fun e w' => e = .returned (.tuple #[.agg (goM 4 (lit [21, 0, 0, 0]) (gK 9 8 7 6 5 4)).g.c, .agg (callV 5 9 8 7 6 5), .int .i64 2]) ∧ Below (w.heap.size + 1) (w.alloc (.cells b2V 5)) w' := by
  have A1 := go_is _ 4 (lit [21, 0, 0, 0]) (gK 9 8 7 6 5 4) _ (code_new w [21, 0, 0, 0] 4 rfl pos_2 (by omega)) (gK_ok _ _ _ _ _ _ m64_2)
  rw [known_two, known_g2] at A1
  refine A1.mono fun e w' hp => ⟨hp.1, ?_⟩
  have h := hp.2
  rw [World.size_alloc] at h
  exact h


theorem load_gW {ops : Array Oper} {rest : List Oper} {o : Oper} {a : Act} {w : World} {Q : Exit → Act → World → Prop} {cs : Array Value} {g : Nat}
    (hB : Blk w g 30 cs) (h6 : cs.size = 19) (x : Operand) (ho : o.op = .load 30 x) (hx : a.eval x = .pointer (some ⟨g, 0, none⟩)) (hgd : Region.wanted o (yielded ops a.tmps) = true)
    (h : wpList Try.prog ops Q rest (a.put o.dst (.agg cs)) w) : wpList Try.prog ops Q (o :: rest) a w := by
  refine wpList_step fun K hK => ?_
  obtain ⟨d, hu1, hu2⟩ := underG
  rw [if_pos hgd]
  exact wp_load_row 30 x ho g hx 30 _ (0, 0) d hB hu1 (by cases d <;> first | rfl | exact absurd hu2 Bool.false_ne_true) (by rw [h6]; kernel_rfl) (hK _ _ h)
theorem load_callW {ops : Array Oper} {rest : List Oper} {o : Oper} {a : Act} {w : World} {Q : Exit → Act → World → Prop} {cs : Array Value} {g : Nat}
    (hB : Blk w g 36 cs) (h6 : cs.size = 6) (x : Operand) (ho : o.op = .load 36 x) (hx : a.eval x = .pointer (some ⟨g, 0, none⟩)) (hgd : Region.wanted o (yielded ops a.tmps) = true)
    (h : wpList Try.prog ops Q rest (a.put o.dst (.agg cs)) w) : wpList Try.prog ops Q (o :: rest) a w := by
  refine wpList_step fun K hK => ?_
  obtain ⟨d, hu1, hu2⟩ := underCall
  rw [if_pos hgd]
  exact wp_load_row 36 x ho g hx 36 _ (0, 0) d hB hu1 (by cases d <;> first | rfl | exact absurd hu2 Bool.false_ne_true) (by rw [h6]; kernel_rfl) (hK _ _ h)
/-- Two variables are laid, for a goroutine and a call, and written. -/
theorem two_rows (B : Nat) (w0 w : World) (hb : Below B w0 w) (hB : B ≤ w.heap.size) (x c : Array Value) :
    Blk (((((w.alloc (.cells zG 30)).alloc (.cells call0 36)).setRow w.heap.size x).setRow (w.heap.size + 1) c)) w.heap.size 30 x ∧
    Blk (((((w.alloc (.cells zG 30)).alloc (.cells call0 36)).setRow w.heap.size x).setRow (w.heap.size + 1) c)) (w.heap.size + 1) 36 c ∧
    Below B w0 ((((w.alloc (.cells zG 30)).alloc (.cells call0 36)).setRow w.heap.size x).setRow (w.heap.size + 1) c) := by
  have O : Blk ((w.alloc (.cells zG 30)).alloc (.cells call0 36)) w.heap.size 30 zG := (Blk.new w 30 zG).alloc _
  have C := Blk.new (w.alloc (.cells zG 30)) 36 call0
  rw [World.size_alloc] at C
  refine ⟨((O.put_ x).setRow_ (by omega) c), ((C.setRow_ (by omega) x).put_ c), below_setRow (below_setRow ((hb.alloc hB _).alloc (by rw [World.size_alloc]; omega) _) hB x) (by omega) c⟩
theorem row_g (w : World) : Blk ((w.alloc (.cells zG 30)).alloc (.cells call0 36)) w.heap.size 30 zG := (Blk.new w 30 zG).alloc _
theorem row_call (w : World) (x : Array Value) : Blk (((w.alloc (.cells zG 30)).alloc (.cells call0 36)).setRow w.heap.size x) (w.heap.size + 1) 36 call0 := by
  have C := Blk.new (w.alloc (.cells zG 30)) 36 call0
  rw [World.size_alloc] at C
  exact C.setRow_ (by omega) x
theorem o1V_one : o1V.all Value.oneCell' = true := by simp [o1V, Value.oneCell']
theorem callV_one (a b c d e f : Int) : (callV a b c d e f).all Value.oneCell' = true := by simp [callV, Value.oneCell']

set_option maxRecDepth 100000 in
set_option maxHeartbeats 1000000 in
theorem known_is (w : World) : Calls Try.prog 8 #[] w fun e w' => e = .returned (.bool true) ∧ Below w.heap.size w w' := by
  have A1 := known_a1
  have A2 := known_a2
  have hx1 : (goM 4 (lit [21, 0, 0, 0]) (gK 9 8 7 6 5 4)).g.c.size = 19 := rfl
  have hx2 : (goM 4 (lit [21, 0, 0, 0]) (gK 9 8 7 6 5 4)).g.c.all Value.oneCell' = true := Gr.c_one _
  generalize (goM 4 (lit [21, 0, 0, 0]) (gK 9 8 7 6 5 4)).g.c = xc at A2 hx1 hx2
  have hx1 := Lib.hid hx1
  have hx2 := Lib.hid hx2
  have E1 := callv_eql 0 0 0 0 0 0
  have E2 := callv_eql 5 9 8 7 6 5
  have E3 := callV_one 5 9 8 7 6 5
  unfold b1V g1V call0 at A1
  unfold b2V g2V callV at A2
  unfold callV at E1 E2 E3
  have E3 := Lib.hid E3
  have R1 := row_g
  have R2 := row_call
  have T := @two_rows
  unfold zG call0 at R1 R2 T
  have R1 := Lib.hid R1
  have R2 := Lib.hid R2
  have T := Lib.hid T
  go_enter Try.func8, Try.ntmps8
  go_wp2_with (first
    | (go_at_call 9; (fail_if_success have := k1); refine (A1 _).mono ?_; rintro e w2 ⟨rfl, hb⟩; (have hb1 := Lib.hid (((Below.refl w.heap.size w).alloc (Nat.le_refl _) (.cells #[.int .u8 3, .int .u8 0, .int .u8 1, .int .u8 2] 5)).trans (hb.mono (by omega)))); clear hb; have k1 := trivial)
    | (refine store_g (cs := o1V) (by exact R1.out w2) (by exact rfl) rfl o1V_one rfl (.tmp 2) (.tmp 14) rfl (by exact rfl) (by exact rfl) ?_)
    | (refine store_call (cs := #[.int .i64 0, .int .u64 0, .int .u64 0, .int .u64 0, .int .u64 0, .int .u64 0]) (by exact R2.out w2 (o1V)) (by exact rfl) rfl call0_one rfl (.tmp 3) (.tmp 15) rfl (by exact rfl) (by exact rfl) ?_; (have T1 := Lib.hid (T.out _ _ _ hb1.out hb1.out.size (o1V) #[.int .i64 0, .int .u64 0, .int .u64 0, .int .u64 0, .int .u64 0, .int .u64 0])); (have S1 := Lib.hid (T.out _ _ _ (Below.refl w2.heap.size w2) (Nat.le_refl _) (o1V) #[.int .i64 0, .int .u64 0, .int .u64 0, .int .u64 0, .int .u64 0, .int .u64 0])); generalize (((w2.alloc (.cells #[.int .i64 0, .bool false, .int .i64 0, .int .u64 0, .int .i64 0, .int .u64 0, .int .u8 0, .int .i64 0, .int .i64 0, .int .u64 0, .int .u64 0, .int .u64 0, .int .u64 0, .int .u64 0, .int .u64 0, .int .u64 0, .int .u64 0, .int .i64 0, .int .u64 0] 30)).alloc (.cells #[.int .i64 0, .int .u64 0, .int .u64 0, .int .u64 0, .int .u64 0, .int .u64 0] 36)).setRow w2.heap.size (o1V)).setRow (w2.heap.size + 1) #[.int .i64 0, .int .u64 0, .int .u64 0, .int .u64 0, .int .u64 0, .int .u64 0] = w3 at *)
    | (go_at_call 9; (fail_if_success have := k2); refine (A2 _).mono ?_; rintro e w4 ⟨rfl, hb⟩; (have hs3 := T1.out.2.2.size); (have hb2 := Lib.hid ((T1.out.2.2.alloc T1.out.2.2.size (.cells #[.int .u8 21, .int .u8 0, .int .u8 0, .int .u8 0] 5)).trans (hb.mono (by omega)))); (have T4 := Lib.hid (And.intro ((T1.out.1.alloc (.cells #[.int .u8 21, .int .u8 0, .int .u8 0, .int .u8 0] 5)).below hb (by have := T1.out.1.lt; omega)) ((T1.out.2.1.alloc (.cells #[.int .u8 21, .int .u8 0, .int .u8 0, .int .u8 0] 5)).below hb (by have := T1.out.2.1.lt; omega)))); clear hb hs3; have k2 := trivial)
    | (refine store_g (cs := xc) (by exact R1.out w4) (by exact rfl) hx1.out hx2.out rfl (.tmp 5) (.tmp 22) rfl (by exact rfl) (by exact rfl) ?_)
    | (refine store_call (cs := #[.int .i64 5, .int .u64 9, .int .u64 8, .int .u64 7, .int .u64 6, .int .u64 5]) (by exact R2.out w4 (xc)) (by exact rfl) rfl E3.out rfl (.tmp 6) (.tmp 23) rfl (by exact rfl) (by exact rfl) ?_; (have T2 := Lib.hid (T.out _ _ _ hb2.out hb2.out.size (xc) #[.int .i64 5, .int .u64 9, .int .u64 8, .int .u64 7, .int .u64 6, .int .u64 5])); (have S2 := Lib.hid (T.out _ _ _ (Below.refl w4.heap.size w4) (Nat.le_refl _) (xc) #[.int .i64 5, .int .u64 9, .int .u64 8, .int .u64 7, .int .u64 6, .int .u64 5])); generalize (((w4.alloc (.cells #[.int .i64 0, .bool false, .int .i64 0, .int .u64 0, .int .i64 0, .int .u64 0, .int .u8 0, .int .i64 0, .int .i64 0, .int .u64 0, .int .u64 0, .int .u64 0, .int .u64 0, .int .u64 0, .int .u64 0, .int .u64 0, .int .u64 0, .int .i64 0, .int .u64 0] 30)).alloc (.cells #[.int .i64 0, .int .u64 0, .int .u64 0, .int .u64 0, .int .u64 0, .int .u64 0] 36)).setRow w4.heap.size (xc)).setRow (w4.heap.size + 1) #[.int .i64 5, .int .u64 9, .int .u64 8, .int .u64 7, .int .u64 6, .int .u64 5] = w5 at *; (have O5 := T4.out.1.below S2.out.2.2 T4.out.1.lt); (have C5 := Lib.hid (T4.out.2.below S2.out.2.2 T4.out.2.lt)); (have D5 := Lib.hid T2.out.2.1); (have y17 : w5.cell? ⟨w2.heap.size, 17, none⟩ = some (.int .i64 6) := (O5.cell 17).trans rfl); (have y8 : w5.cell? ⟨w2.heap.size, 8, none⟩ = some (.int .i64 1) := (O5.cell 8).trans rfl); clear O5)
    | (refine load_callW (by exact C5.out) (by exact rfl) (.tmp 3) rfl (by exact rfl) (by kernel_rfl) ?_)
    | (refine load_callW (by exact D5.out) (by exact rfl) (.tmp 6) rfl (by exact rfl) (by kernel_rfl) ?_))
  go_ret
  exact ⟨rfl, T2.out.2.2⟩
end Go.Proofs.Ytbgfbgcjghcepaa
