/- code.line, by walk: the line of an instruction. -/
import Derived.Test.YtnbkpminecoddaaDoorCodeLineRun
import Derived.Test.YtnbkpminecoddaaDoorCodePlain
import Derived.Test.YtnbkpminecoddaaDoorCodeInsEq
import Derived.Deep.RegionHeld3
import Derived.OrdersHeld
import Derived.Lib.Strings
namespace Go.Proofs.YtnbkpminecoddaaDoor
open Go.RowKit
set_option linter.unusedVariables false
set_option linter.unusedSimpArgs false

theorem args_ascii (k : Int) : ∀ i (hi : i < (argsOf k).size), ((argsOf k)[i]'hi).toNat < 128 := by
  have key : ∀ s : ByteArray, s.data.toList.all (fun x => decide (x.toNat < 128)) = true → ∀ i (hi : i < s.size), (s[i]'hi).toNat < 128 := by
    intro s h i hi
    have := List.all_eq_true.1 h (s[i]'hi) (by rw [Array.mem_toList_iff]; exact Array.getElem_mem _)
    simpa using this
  refine key _ ?_
  unfold argsOf
  repeat' split
  all_goals rfl
set_option maxRecDepth 100000 in
set_option maxHeartbeats 2000000 in
theorem line_bad (A : Option Addr) (n cap : Nat) (pc k a b c e : Int) (w : World) (hk : 0 ≤ k) (he : e = 4 ∨ e = 7) (DC : Calls Tryd.prog 10 #[.slice A n cap, .int .i64 pc] w fun e' w' => e' = .returned (.tuple #[insV k a b c, .int .i64 e]) ∧ Below w.heap.size w w') :
    Calls Tryd.prog 24 #[.slice A n cap, .int .i64 pc] w fun e w' => e = .returned (.tuple #[.string ⟨#[]⟩, .bool false]) ∧ Below w.heap.size w w' := by
  rcases he with rfl | rfl
  all_goals
    go_enter Tryd.func24, Tryd.ntmps24
    go_wp2_with (first | (go_at_call 10; refine DC.mono ?_; rintro e0 w1 ⟨rfl, hb⟩; simp only [Dec.v, Dec.e, insV]) | (go_at_call 22; refine (shape_w k hk _).mono ?_; rintro e2 w2 ⟨rfl, hb2⟩; (have hI := (Blk.new w1 26 #[.int .u8 k, .int .u8 a, .int .u8 b, .int .u8 c]).below hb2 (by simp)); (have hB2 := (hb.alloc hb.size (.cells #[.int .u8 k, .int .u8 a, .int .u8 b, .int .u8 c] 26)).trans (hb2.mono (by have := hb.size; simp; omega))); clear hb2))
    have c0 := hI.cell 0
    have c1 := hI.cell 1
    have c2 := hI.cell 2
    have c3 := hI.cell 3
    simp only [List.getElem?_toArray, List.getElem?_cons_zero, List.getElem?_cons_succ] at c0 c1 c2 c3
    go_region
    go_wp2_with fail
    go_ret2
    exact ⟨rfl, hB2.drew⟩
set_option maxRecDepth 100000 in
set_option maxHeartbeats 2000000 in
theorem line_not (A : Option Addr) (n cap : Nat) (pc k a b c : Int) (w : World) (hk : 0 ≤ k) (DC : Calls Tryd.prog 10 #[.slice A n cap, .int .i64 pc] w fun e' w' => e' = .returned (.tuple #[insV k a b c, .int .i64 0]) ∧ Below w.heap.size w w')
    (hx : ¬ plF a b c (argsOf k) (argsOf k).size = (a, b, c)) :
    Calls Tryd.prog 24 #[.slice A n cap, .int .i64 pc] w fun e w' => e = .returned (.tuple #[.string ⟨#[]⟩, .bool false]) ∧ Below w.heap.size w w' := by
  have PL := plain_is k a b c (argsOf k) (args_ascii k)
  unfold plV at PL
  generalize plF a b c (argsOf k) (argsOf k).size = x at *
  obtain ⟨x1, x2, x3⟩ := x
  have HNE := fun w => ins_neq k x1 x2 x3 k a b c w
  rw [show (decide (k = k ∧ x1 = a ∧ x2 = b ∧ x3 = c)) = false from by simp; intro h1 h2 h3; exact hx (by rw [h1, h2, h3])] at HNE
  have hgd : Tryd.prog.eqGuardType Tryd.prog.depth 26 = false := by kernel_rfl
  unfold insV at PL
  go_enter Tryd.func24, Tryd.ntmps24
  go_wp2_with (first | (go_at_call 10; refine DC.mono ?_; rintro e0 w1 ⟨rfl, hb⟩; simp only [Dec.v, Dec.e, insV]) | (go_at_call 22; refine (shape_w k hk _).mono ?_; rintro e2 w2 ⟨rfl, hb2⟩; (have hI := (Blk.new w1 26 #[.int .u8 k, .int .u8 a, .int .u8 b, .int .u8 c]).below hb2 (by simp)); (have hB2 := (hb.alloc hb.size (.cells #[.int .u8 k, .int .u8 a, .int .u8 b, .int .u8 c] 26)).trans (hb2.mono (by have := hb.size; simp; omega))); clear hb2))
  have c0 := hI.cell 0
  have c1 := hI.cell 1
  have c2 := hI.cell 2
  have c3 := hI.cell 3
  simp only [List.getElem?_toArray, List.getElem?_cons_zero, List.getElem?_cons_succ] at c0 c1 c2 c3
  go_region_held3 (fun w' => w'.cell? ⟨w1.heap.size, 0, none⟩ = some (.int .u8 k) ∧ w'.cell? ⟨w1.heap.size, 1, none⟩ = some (.int .u8 a) ∧ w'.cell? ⟨w1.heap.size, 2, none⟩ = some (.int .u8 b) ∧ w'.cell? ⟨w1.heap.size, 3, none⟩ = some (.int .u8 c)) (go_keep) (first | (go_at_call 37; refine (PL _).mono ?_; rintro e3 w3 ⟨rfl, hb3⟩; (have hI3 := hI.drew.below hb3 hI.lt); (have c03 := hI3.cell 0); (have c13 := hI3.cell 1); (have c23 := hI3.cell 2); (have c33 := hI3.cell 3); simp only [List.getElem?_toArray, List.getElem?_cons_zero, List.getElem?_cons_succ] at c03 c13 c23 c33))
  go_wp2_with fail
  go_ret2
  exact ⟨rfl, hB2.drew.trans (hb3.mono hB2.size)⟩
/-- The number that an argument letter names. -/
def valL (k a b c : Int) (q : Int) : Int := if q = 97 then IntKind.i64.wrap a else if q = 98 then IntKind.i64.wrap b else if q = 99 then IntKind.i64.wrap c else if q = 110 then numR b c else if q = 100 then jmpR b c else if q = 107 then IntKind.i64.wrap (IntKind.u8.wrap (k - 16)) else 0
/-- The line's text after so many letters. -/
def lineT (T : Int → ByteArray) (k a b c : Int) (s : ByteArray) (j : Nat) : ByteArray := (s.data.toList.take j).foldl (fun t l => t ++ ((⟨#[32]⟩ : ByteArray) ++ T (valL k a b c (l.toNat : Int)))) (wordOf k)
def lineS (T : Int → ByteArray) (k a b c : Int) : ByteArray := lineT T k a b c (argsOf k) (argsOf k).size
theorem lineT_succ (T : Int → ByteArray) (k a b c : Int) (s : ByteArray) (j : Nat) (hj : j < s.size) : lineT T k a b c s (j + 1) = lineT T k a b c s j ++ ((⟨#[32]⟩ : ByteArray) ++ T (valL k a b c ((s[j]'hj).toNat : Int))) := by
  unfold lineT
  rw [List.take_succ_eq_append_getElem (by simpa using hj), List.foldl_append]
  rfl
theorem lineT_size (T : Int → ByteArray) (HS : ∀ q, (T q).size ≤ 100) (k a b c : Int) (s : ByteArray) : ∀ j, j ≤ s.size → (lineT T k a b c s j).size ≤ 5 + 101 * j
  | 0, _ => by
    show (wordOf k).size ≤ 5
    unfold wordOf
    repeat' split
    all_goals decide
  | j + 1, h => by
    rw [lineT_succ T k a b c s j (by omega), ByteArray.size_append, ByteArray.size_append]
    have h1 := lineT_size T HS k a b c s j (by omega)
    have h2 := HS (valL k a b c ((s[j]'(by omega)).toNat : Int))
    have h3 : (⟨#[32]⟩ : ByteArray).size = 1 := rfl
    omega
theorem args_size (k : Int) : (argsOf k).size ≤ 3 := by
  unfold argsOf
  repeat' split
  all_goals decide
theorem lk_val (k a b c q : Int) : (lkL (IntKind.i64.wrap a) (IntKind.i64.wrap b) (IntKind.i64.wrap c) (numR b c) (jmpR b c) (IntKind.i64.wrap (IntKind.u8.wrap (k - 16))) true true true true true true q).getD (.int .i64 0) = .int .i64 (valL k a b c q) := by
  unfold lkL valL
  simp only [if_true]
  repeat' split
  all_goals rfl
theorem set_self (xs : Array Value) (i : Nat) (h : i < xs.size) : xs.setIfInBounds i (xs.getD i undef) = xs := by
  apply Array.ext (by simp)
  intro j h1 h2
  rw [Array.getElem_setIfInBounds]
  split
  · rename_i e
    subst e
    simp [Array.getD, h]
  · rfl
theorem frL_self (a : Act) (h : 60 < a.tmps.size) : frL a (a.tmps.getD 41 undef) (a.tmps.getD 52 undef) (a.tmps.getD 54 undef) = a := by
  obtain ⟨t, d⟩ := a
  simp only [frL, Act.put] at *
  congr 1
  rw [set_self t 41 (by omega), set_self t 52 (by omega), set_self t 54 (by omega)]
theorem line_start (k a b c va vb vc vk : Int) (a0 : Act) (hsz : 60 < a0.tmps.size) (h44 : a0.eval (.tmp 44) = .int .i64 va) (h47 : a0.eval (.tmp 47) = .int .i64 vb) (h50 : a0.eval (.tmp 50) = .int .i64 vc) (h58 : a0.eval (.tmp 58) = .int .i64 vk) (h51 : a0.eval (.tmp 51) = insV k a b c) (h53 : a0.eval (.tmp 53) = insV k a b c) (w0 : World) (Q : Exit → Act → World → Prop) (S : World → Prop) (hS : ∀ w', Below w0.heap.size w0 w' → S w')
    {ops : Array Oper} (ho : ops = lineOps) {listed : Array Bool} (hl : listed = lst false false false false false false false false false)
    (hend : ∀ m L y v w', MapAt w' m .i32 L → (∀ q, look L q = lkL va vb vc (numR b c) (jmpR b c) vk true true true true true true q) → Below w0.heap.size w0 w' → wpAnyH Tryd.prog .any ops Q S 3 (lst true true true true true true true true true) (frL a0 (.map (some m)) y v) w') :
    wpAnyH Tryd.prog .any ops Q S 12 listed a0 w0 := by
  subst ho
  subst hl
  have M := line_map k a b c va vb vc vk a0 hsz h44 h47 h50 h58 h51 h53 w0.heap.size w0 Q S hS hend 9 false false false false false false false false false (a0.tmps.getD 41 undef) (a0.tmps.getD 52 undef) (a0.tmps.getD 54 undef) w0 rfl (Below.refl _ _) (Nat.le_refl _) (fun e => by cases e) (fun _ => ⟨rfl, rfl, rfl, rfl, rfl, rfl⟩) (fun e => by cases e) (fun e => by cases e)
  rwa [frL_self a0 hsz] at M
set_option maxRecDepth 100000 in
set_option maxHeartbeats 2000000 in
theorem line_good (A : Option Addr) (n cap : Nat) (pc k a b c : Int) (w : World) (hk : 0 ≤ k) (DC : Calls Tryd.prog 10 #[.slice A n cap, .int .i64 pc] w fun e' w' => e' = .returned (.tuple #[insV k a b c, .int .i64 0]) ∧ Below w.heap.size w w')
    (hx : plF a b c (argsOf k) (argsOf k).size = (a, b, c)) (T : Int → ByteArray) (HS : ∀ q, (T q).size ≤ 100) (HT : ∀ q w', Below w.heap.size w w' → Calls Tryd.prog 38 #[.int .i64 (valL k a b c q)] w' fun e w'' => e = .returned (.string (T (valL k a b c q))) ∧ Below w'.heap.size w' w'') :
    Calls Tryd.prog 24 #[.slice A n cap, .int .i64 pc] w fun e w' => e = .returned (.tuple #[.string (lineS T k a b c), .bool true]) ∧ Below w.heap.size w w' := by
  have PL := plain_is k a b c (argsOf k) (args_ascii k)
  unfold plV at PL
  rw [hx] at PL
  have SW := shape_w k hk
  have H8 := Lib.hid (args_ascii k)
  have H3 := Lib.hid (args_size k)
  unfold lineS
  generalize argsOf k = s at *
  have HNE := fun w => ins_neq k a b c k a b c w
  rw [show (decide (k = k ∧ a = a ∧ b = b ∧ c = c)) = true from by simp] at HNE
  have hgd : Tryd.prog.eqGuardType Tryd.prog.depth 26 = false := by kernel_rfl
  unfold insV at PL
  go_enter Tryd.func24, Tryd.ntmps24
  go_wp2_with (first | (go_at_call 10; refine DC.mono ?_; rintro e0 w1 ⟨rfl, hb⟩; simp only [Dec.v, Dec.e, insV]) | (go_at_call 22; refine (SW _).mono ?_; rintro e2 w2 ⟨rfl, hb2⟩; (have hI := (Blk.new w1 26 #[.int .u8 k, .int .u8 a, .int .u8 b, .int .u8 c]).below hb2 (by simp)); (have hB2 := (hb.alloc hb.size (.cells #[.int .u8 k, .int .u8 a, .int .u8 b, .int .u8 c] 26)).trans (hb2.mono (by have := hb.size; simp; omega))); clear hb2))
  have c0 := hI.cell 0
  have c1 := hI.cell 1
  have c2 := hI.cell 2
  have c3 := hI.cell 3
  simp only [List.getElem?_toArray, List.getElem?_cons_zero, List.getElem?_cons_succ] at c0 c1 c2 c3
  go_region_held3 (fun w' => w'.cell? ⟨w1.heap.size, 0, none⟩ = some (.int .u8 k) ∧ w'.cell? ⟨w1.heap.size, 1, none⟩ = some (.int .u8 a) ∧ w'.cell? ⟨w1.heap.size, 2, none⟩ = some (.int .u8 b) ∧ w'.cell? ⟨w1.heap.size, 3, none⟩ = some (.int .u8 c)) (go_keep) (first | (go_at_call 37; refine (PL _).mono ?_; rintro e3 w3 ⟨rfl, hb3⟩; (have hI3 := hI.drew.below hb3 hI.lt); (have c03 := hI3.cell 0); (have c13 := hI3.cell 1); (have c23 := hI3.cell 2); (have c33 := hI3.cell 3); simp only [List.getElem?_toArray, List.getElem?_cons_zero, List.getElem?_cons_succ] at c03 c13 c23 c33))
  go_wp2_with fail
  have hIw : w.heap.size ≤ w1.heap.size := hb.size
  have B3 := hB2.drew.trans (hb3.mono hB2.size)
  have L3 := Nat.lt_of_lt_of_le hI.lt hb3.size
  have I3 := hI3
  clear c0 c1 c2 c3 c03 c13 c23 c33 HNE hgd hI hB2 hb hb3 PL DC hI3 hx
  generalize w1.heap.size = ib at *
  have HH := Lib.hid (And.intro I3 (And.intro B3 (And.intro L3 hIw)))
  clear I3 B3 L3 hIw
  go_loopw [8] (fun v wr => ∃ j : Nat, j ≤ s.size ∧ v = .string (lineT T k a b c s j) ∧ wr.heap[w3.heap.size]? = some (.stringIter s j) ∧ Blk wr ib 26 #[.int .u8 k, .int .u8 a, .int .u8 b, .int .u8 c] ∧ Below w.heap.size w wr) (fun _ wr => s.size + 1 - wr.iterPos w3.heap.size)
  case atStart => exact ⟨0, Nat.zero_le _, rfl, World.iter_heap _ _ _, HH.out.1.alloc _, HH.out.2.1.alloc HH.out.2.1.size _⟩
  case round =>
    obtain ⟨j, hj, rfl, hit, hI, hB⟩ := hrel
    by_cases hlt : j < s.size
    · have hnx := fun ty => Lib.run_next_ascii_at (P := Tryd.prog) wr w3.heap.size s j ty hit hlt (H8.out j hlt)
      have hit2 := Lib.iterAt_heap wr w3.heap.size s j (j + 1) hit
      have hI2 := hI.iterAt_ hit (j + 1)
      have hB2 := Lib.below_iterAt hB HH.out.2.1.size s (j + 1)
      have hpos : wr.iterPos w3.heap.size = j := by unfold World.iterPos; rw [hit]
      obtain ⟨wn, hwn⟩ : ∃ wn, wn = wr.iterAt w3.heap.size s (j + 1) := ⟨_, rfl⟩
      rw [← hwn] at hit2 hI2 hB2
      simp only [← hwn] at hnx
      clear hwn hit hI hB
      have hup := lineT_succ T k a b c s j hlt
      have hts := lineT_size T HS k a b c s j (by omega)
      obtain ⟨l, hl⟩ : ∃ l : Int, l = ((s[j]'hlt).toNat : Int) := ⟨_, rfl⟩
      simp only [← hl] at hnx hup
      generalize lineT T k a b c s j = tx at *
      have hn1 : ¬ 9223372036854775807 < 1 + (T (valL k a b c l)).size := by have := HS (valL k a b c l); omega
      have hn2 : ¬ 9223372036854775807 < tx.size + (1 + (T (valL k a b c l)).size) := by have := HS (valL k a b c l); have := H3.out; omega
      have HU := Lib.hid hup
      have HP := Lib.hid hpos
      have HN := Lib.hid (And.intro hit2 (And.intro hI2 hB2))
      have c0 := hI2.cell 0
      have c1 := hI2.cell 1
      have c2 := hI2.cell 2
      have c3 := hI2.cell 3
      simp only [List.getElem?_toArray, List.getElem?_cons_zero, List.getElem?_cons_succ] at c0 c1 c2 c3
      clear hup hpos hl hit2 hI2 hB2
      go_wp2_with fail
      --W8
      have hS0 : (fun w' => w'.cell? ⟨ib, 0, none⟩ = some (.int .u8 k) ∧ w'.cell? ⟨ib, 1, none⟩ = some (.int .u8 a) ∧ w'.cell? ⟨ib, 2, none⟩ = some (.int .u8 b) ∧ w'.cell? ⟨ib, 3, none⟩ = some (.int .u8 c)) wn.drew := ⟨c0, c1, c2, c3⟩
      have hSB : ∀ w', Below wn.drew.heap.size wn.drew w' → (fun w' => w'.cell? ⟨ib, 0, none⟩ = some (.int .u8 k) ∧ w'.cell? ⟨ib, 1, none⟩ = some (.int .u8 a) ∧ w'.cell? ⟨ib, 2, none⟩ = some (.int .u8 b) ∧ w'.cell? ⟨ib, 3, none⟩ = some (.int .u8 c)) w' := fun w' hb' => ⟨(hb'.cell (p := ⟨ib, 0, none⟩) HN.out.2.1.lt).trans c0, (hb'.cell (p := ⟨ib, 1, none⟩) HN.out.2.1.lt).trans c1, (hb'.cell (p := ⟨ib, 2, none⟩) HN.out.2.1.lt).trans c2, (hb'.cell (p := ⟨ib, 3, none⟩) HN.out.2.1.lt).trans c3⟩
      refine wp_region_held_drew (S := (fun w' => w'.cell? ⟨ib, 0, none⟩ = some (.int .u8 k) ∧ w'.cell? ⟨ib, 1, none⟩ = some (.int .u8 a) ∧ w'.cell? ⟨ib, 2, none⟩ = some (.int .u8 b) ∧ w'.cell? ⟨ib, 3, none⟩ = some (.int .u8 c))) (by kernel_rfl) hS0 (fun hHeld => ?_)
      refine wpAnyH_take (i := 1) (v := ?_) rfl (by kernel_rfl) (by kernel_rfl) (by kernel_rfl) (fun _ _ _ h => h) (Or.inl ⟨by kernel_rfl, by (intro w' hSw; obtain ⟨e0, e1, e2, e3⟩ := hSw; go_simp; first | done | (with_reducible rfl))⟩) hHeld ?_
      (try simp only [Act.put, List.getElem_toArray, List.getElem_cons_zero, List.getElem_cons_succ, List.setIfInBounds_toArray, List.set_cons_zero, List.set_cons_succ])
      refine wpAnyH_take (i := 2) (v := ?_) rfl (by kernel_rfl) (by kernel_rfl) (by kernel_rfl) (fun _ _ _ h => h) (Or.inl ⟨by kernel_rfl, by (intro w' hSw; obtain ⟨e0, e1, e2, e3⟩ := hSw; go_simp; first | done | (with_reducible rfl))⟩) hHeld ?_
      (try simp only [Act.put, List.getElem_toArray, List.getElem_cons_zero, List.getElem_cons_succ, List.setIfInBounds_toArray, List.set_cons_zero, List.set_cons_succ])
      refine wpAnyH_take (i := 3) (v := ?_) rfl (by kernel_rfl) (by kernel_rfl) (by kernel_rfl) (fun _ _ _ h => h) (Or.inl ⟨by kernel_rfl, by (intro w' hSw; obtain ⟨e0, e1, e2, e3⟩ := hSw; go_simp; first | done | (with_reducible rfl))⟩) hHeld ?_
      (try simp only [Act.put, List.getElem_toArray, List.getElem_cons_zero, List.getElem_cons_succ, List.setIfInBounds_toArray, List.set_cons_zero, List.set_cons_succ])
      refine wpAnyH_take (i := 5) (v := ?_) rfl (by kernel_rfl) (by kernel_rfl) (by kernel_rfl) (fun _ _ _ h => h) (Or.inl ⟨by kernel_rfl, by (intro w' hSw; obtain ⟨e0, e1, e2, e3⟩ := hSw; go_simp; first | done | (with_reducible rfl))⟩) hHeld ?_
      (try simp only [Act.put, List.getElem_toArray, List.getElem_cons_zero, List.getElem_cons_succ, List.setIfInBounds_toArray, List.set_cons_zero, List.set_cons_succ])
      refine wpAnyH_take (i := 6) (v := ?_) rfl (by kernel_rfl) (by kernel_rfl) (by kernel_rfl) (fun _ _ _ h => h) (Or.inl ⟨by kernel_rfl, by (intro w' hSw; obtain ⟨e0, e1, e2, e3⟩ := hSw; go_simp; first | done | (with_reducible rfl))⟩) hHeld ?_
      (try simp only [Act.put, List.getElem_toArray, List.getElem_cons_zero, List.getElem_cons_succ, List.setIfInBounds_toArray, List.set_cons_zero, List.set_cons_succ])
      refine wpAnyH_take (i := 7) (v := ?_) rfl (by kernel_rfl) (by kernel_rfl) (by kernel_rfl) (fun _ _ _ h => h) (Or.inl ⟨by kernel_rfl, by (intro w' hSw; obtain ⟨e0, e1, e2, e3⟩ := hSw; go_simp; first | done | (with_reducible rfl))⟩) hHeld ?_
      (try simp only [Act.put, List.getElem_toArray, List.getElem_cons_zero, List.getElem_cons_succ, List.setIfInBounds_toArray, List.set_cons_zero, List.set_cons_succ])
      refine wpAnyH_take (i := 9) (v := ?_) rfl (by kernel_rfl) (by kernel_rfl) (by kernel_rfl) (fun _ _ _ h => h) (Or.inl ⟨by kernel_rfl, by (intro w' hSw; obtain ⟨e0, e1, e2, e3⟩ := hSw; go_simp; first | done | (with_reducible rfl))⟩) hHeld ?_
      (try simp only [Act.put, List.getElem_toArray, List.getElem_cons_zero, List.getElem_cons_succ, List.setIfInBounds_toArray, List.set_cons_zero, List.set_cons_succ])
      refine wpAnyH_take (i := 10) (v := ?_) rfl (by kernel_rfl) (by kernel_rfl) (by kernel_rfl) (fun _ _ _ h => h) (Or.inl ⟨by kernel_rfl, by (intro w' hSw; obtain ⟨e0, e1, e2, e3⟩ := hSw; go_simp; first | done | (with_reducible rfl))⟩) hHeld ?_
      (try simp only [Act.put, List.getElem_toArray, List.getElem_cons_zero, List.getElem_cons_succ, List.setIfInBounds_toArray, List.set_cons_zero, List.set_cons_succ])
      refine wpAnyH_take (i := 11) (v := ?_) rfl (by kernel_rfl) (by kernel_rfl) (by kernel_rfl) (fun _ _ _ h => h) (Or.inl ⟨by kernel_rfl, by (intro w' hSw; obtain ⟨e0, e1, e2, e3⟩ := hSw; go_simp; first | done | (with_reducible rfl))⟩) hHeld ?_
      (try simp only [Act.put, List.getElem_toArray, List.getElem_cons_zero, List.getElem_cons_succ, List.setIfInBounds_toArray, List.set_cons_zero, List.set_cons_succ])
      refine wpAnyH_take (i := 13) (v := .agg #[.int .u8 k, .int .u8 a, .int .u8 b, .int .u8 c]) rfl (by kernel_rfl) (by kernel_rfl) (by kernel_rfl) (fun _ _ _ h => h) (Or.inl ⟨by kernel_rfl, by (intro w' hSw; obtain ⟨e0, e1, e2, e3⟩ := hSw; go_simp; first | done | rfl)⟩) hHeld ?_
      (try simp only [Act.put, List.getElem_toArray, List.getElem_cons_zero, List.getElem_cons_succ, List.setIfInBounds_toArray, List.set_cons_zero, List.set_cons_succ])
      refine wpAnyH_take (i := 16) (v := .agg #[.int .u8 k, .int .u8 a, .int .u8 b, .int .u8 c]) rfl (by kernel_rfl) (by kernel_rfl) (by kernel_rfl) (fun _ _ _ h => h) (Or.inl ⟨by kernel_rfl, by (intro w' hSw; obtain ⟨e0, e1, e2, e3⟩ := hSw; go_simp; first | done | rfl)⟩) hHeld ?_
      (try simp only [Act.put, List.getElem_toArray, List.getElem_cons_zero, List.getElem_cons_succ, List.setIfInBounds_toArray, List.set_cons_zero, List.set_cons_succ])
      refine wpAnyH_take (i := 19) (v := ?_) rfl (by kernel_rfl) (by kernel_rfl) (by kernel_rfl) (fun _ _ _ h => h) (Or.inl ⟨by kernel_rfl, by (intro w' hSw; obtain ⟨e0, e1, e2, e3⟩ := hSw; go_simp; first | done | (with_reducible rfl))⟩) hHeld ?_
      (try simp only [Act.put, List.getElem_toArray, List.getElem_cons_zero, List.getElem_cons_succ, List.setIfInBounds_toArray, List.set_cons_zero, List.set_cons_succ])
      refine wpAnyH_take (i := 20) (v := ?_) rfl (by kernel_rfl) (by kernel_rfl) (by kernel_rfl) (fun _ _ _ h => h) (Or.inl ⟨by kernel_rfl, by (intro w' hSw; obtain ⟨e0, e1, e2, e3⟩ := hSw; go_simp; first | done | (with_reducible rfl))⟩) hHeld ?_
      (try simp only [Act.put, List.getElem_toArray, List.getElem_cons_zero, List.getElem_cons_succ, List.setIfInBounds_toArray, List.set_cons_zero, List.set_cons_succ])
      refine wpAnyH_take (i := 21) (v := ?_) rfl (by kernel_rfl) (by kernel_rfl) (by kernel_rfl) (fun _ _ _ h => h) (Or.inl ⟨by kernel_rfl, by (intro w' hSw; obtain ⟨e0, e1, e2, e3⟩ := hSw; go_simp; first | done | (with_reducible rfl))⟩) hHeld ?_
      (try simp only [Act.put, List.getElem_toArray, List.getElem_cons_zero, List.getElem_cons_succ, List.setIfInBounds_toArray, List.set_cons_zero, List.set_cons_succ])
      refine wpAnyH_take (i := 22) (v := ?_) rfl (by kernel_rfl) (by kernel_rfl) (by kernel_rfl) (fun _ _ _ h => h) (Or.inl ⟨by kernel_rfl, by (intro w' hSw; obtain ⟨e0, e1, e2, e3⟩ := hSw; go_simp; first | done | (with_reducible rfl))⟩) hHeld ?_
      (try simp only [Act.put, List.getElem_toArray, List.getElem_cons_zero, List.getElem_cons_succ, List.setIfInBounds_toArray, List.set_cons_zero, List.set_cons_succ])
      refine wpAnyH_take (i := 25) (v := ?_) rfl (by kernel_rfl) (by kernel_rfl) (by kernel_rfl) (fun _ _ _ h => h) (Or.inl ⟨by kernel_rfl, by (intro w' hSw; obtain ⟨e0, e1, e2, e3⟩ := hSw; go_simp; first | done | (with_reducible rfl))⟩) hHeld ?_
      (try simp only [Act.put, List.getElem_toArray, List.getElem_cons_zero, List.getElem_cons_succ, List.setIfInBounds_toArray, List.set_cons_zero, List.set_cons_succ])
      clear hHeld hS0 c0 c1 c2 c3
      have HSB := Lib.hid hSB
      refine line_start k a b c (IntKind.i64.wrap a) (IntKind.i64.wrap b) (IntKind.i64.wrap c) (IntKind.i64.wrap (IntKind.u8.wrap (k - 16))) _ (by show (60 : Nat) < 68; decide) (by rfl) (by rfl) (by rfl) (by rfl) (by rfl) (by rfl) wn.drew _ _ hSB (by kernel_rfl) (by kernel_rfl) ?_
      clear hSB
      intro m L y v w4 hM hL hB4
      have hHeld := HSB.out w4 hB4
      have hz4 : (zeroValue 3).run Tryd.prog w4 = .ok (.int .i64 0) w4 := by kernel_rfl
      have hlk := run_lookup_int (P := Tryd.prog) (t := 77) Tryd.underlying77 Tryd.underlying21 hM l false (.int .i64 0) hz4
      rw [hL, lk_val] at hlk
      simp only [Bool.false_eq_true, if_false] at hlk
      simp only [frL]
      (try simp only [Act.put, List.getElem_toArray, List.getElem_cons_zero, List.getElem_cons_succ, List.setIfInBounds_toArray, List.set_cons_zero, List.set_cons_succ])
      refine wpAnyH_ready (rs := [24]) (by kernel_rfl) (by simp) ?_
      refine AllReadyH.cons rfl (fun K hK => ?_) AllReadyH.nil
      go_simp
      refine hK.out _ _ hHeld (fun _ => ?_)
      clear hK K
      (try simp only [Act.put, List.getElem_toArray, List.getElem_cons_zero, List.getElem_cons_succ, List.setIfInBounds_toArray, List.set_cons_zero, List.set_cons_succ])
      refine wpAnyH_ready (rs := [26]) (by kernel_rfl) (by simp) ?_
      refine AllReadyH.cons rfl (fun K hK => ?_) AllReadyH.nil
      go_simp
      refine hK.out _ _ hHeld (fun _ => ?_)
      clear hK K
      (try simp only [Act.put, List.getElem_toArray, List.getElem_cons_zero, List.getElem_cons_succ, List.setIfInBounds_toArray, List.set_cons_zero, List.set_cons_succ])
      refine wpAnyH_ready (rs := [27]) (by kernel_rfl) (by simp) ?_
      refine AllReadyH.cons rfl (fun K hK => ?_) AllReadyH.nil
      go_simp
      refine hK.out _ _ hHeld (fun _ => ?_)
      clear hK K
      (try simp only [Act.put, List.getElem_toArray, List.getElem_cons_zero, List.getElem_cons_succ, List.setIfInBounds_toArray, List.set_cons_zero, List.set_cons_succ])
      refine wpAnyH_done (by kernel_rfl) ?_ _
      have HB5 := Lib.hid ((HN.out.2.2.drew).trans (hB4.mono HN.out.2.2.size))
      have HI5 := Lib.hid ((HN.out.2.1.drew).below hB4 HN.out.2.1.drew.lt)
      have HJ5 := Lib.hid ((hB4.block w3.heap.size (Array.getElem?_eq_some_iff.1 HN.out.1).1).trans HN.out.1)
      clear hlk hM hL hB4 hHeld
      go_wp2_with (first | (go_at_call 38; refine (HT l _ HB5.out).mono ?_; rintro e6 w6 ⟨rfl, hb6⟩))
      go_roundw
      case rel => exact ⟨j + 1, by omega, by rw [HU.out], (hb6.block w3.heap.size (Array.getElem?_eq_some_iff.1 HJ5.out).1).trans HJ5.out, HI5.out.below hb6 HI5.out.lt, HB5.out.trans (hb6.mono HB5.out.size)⟩
      case measure =>
        have e1 : w6.iterPos w3.heap.size = j + 1 := by unfold World.iterPos; rw [(hb6.block w3.heap.size (Array.getElem?_eq_some_iff.1 HJ5.out).1).trans HJ5.out]
        rw [e1, HP.out]; omega
    · have hjs : j = s.size := by omega
      have hnx := fun ty => Lib.run_next_end_at (P := Tryd.prog) wr w3.heap.size s j ty hit hlt
      go_wp2_with fail
      go_ret2
      subst hjs
      exact ⟨rfl, hB⟩
end Go.Proofs.YtnbkpminecoddaaDoor
