/- code.line's map in whatever order: by induction on what is left. -/
import Derived.Test.YtnbkpminecoddaaDoorCodeLineMap
import Derived.Deep.RegionHeld3
namespace Go.Proofs.YtnbkpminecoddaaDoor
open Go.RowKit
set_option linter.unusedVariables false
set_option linter.unusedSimpArgs false

/-- The frame, with the map and the two numbers. -/
def frL (a0 : Act) (x y z : Value) : Act := ((a0.put (some 41) x).put (some 52) y).put (some 54) z
theorem frL_x (a0 : Act) (x y z x' : Value) : (frL a0 x y z).put (some 41) x' = frL a0 x' y z := by
  simp only [frL, Act.put]
  congr 1
  rw [Array.setIfInBounds_comm _ _ (show (54 : Nat) ≠ 41 by decide), Array.setIfInBounds_comm _ _ (show (52 : Nat) ≠ 41 by decide), Array.setIfInBounds_setIfInBounds]
theorem frL_y (a0 : Act) (x y z y' : Value) : (frL a0 x y z).put (some 52) y' = frL a0 x y' z := by
  simp only [frL, Act.put]
  congr 1
  rw [Array.setIfInBounds_comm _ _ (show (54 : Nat) ≠ 52 by decide), Array.setIfInBounds_setIfInBounds]
theorem frL_z (a0 : Act) (x y z z' : Value) : (frL a0 x y z).put (some 54) z' = frL a0 x y z' := by
  simp only [frL, Act.put]
  congr 1
  rw [Array.setIfInBounds_setIfInBounds]
theorem frL_eval (a0 : Act) (x y z : Value) (n : Nat) (h1 : n ≠ 41) (h2 : n ≠ 52) (h3 : n ≠ 54) : (frL a0 x y z).eval (.tmp n) = a0.eval (.tmp n) := by
  show (frL a0 x y z).tmps.getD n undef = a0.tmps.getD n undef
  simp only [frL, Act.put, Array.getD_eq_getD_getElem?]
  rw [Array.getElem?_setIfInBounds_ne (Ne.symm h3), Array.getElem?_setIfInBounds_ne (Ne.symm h2), Array.getElem?_setIfInBounds_ne (Ne.symm h1)]
theorem frL_41 (a0 : Act) (x y z : Value) (h : 60 < a0.tmps.size) : (frL a0 x y z).eval (.tmp 41) = x := by
  show (frL a0 x y z).tmps.getD 41 undef = x
  simp only [frL, Act.put, Array.getD_eq_getD_getElem?]
  rw [Array.getElem?_setIfInBounds_ne (by decide), Array.getElem?_setIfInBounds_ne (by decide), Array.getElem?_setIfInBounds_self_of_lt (by omega)]
  rfl
theorem frL_52 (a0 : Act) (x y z : Value) (h : 60 < a0.tmps.size) : (frL a0 x y z).eval (.tmp 52) = y := by
  show (frL a0 x y z).tmps.getD 52 undef = y
  simp only [frL, Act.put, Array.getD_eq_getD_getElem?]
  rw [Array.getElem?_setIfInBounds_ne (by decide), Array.getElem?_setIfInBounds_self_of_lt (by simp; omega)]
  rfl
theorem frL_54 (a0 : Act) (x y z : Value) (h : 60 < a0.tmps.size) : (frL a0 x y z).eval (.tmp 54) = z := by
  show (frL a0 x y z).tmps.getD 54 undef = z
  simp only [frL, Act.put, Array.getD_eq_getD_getElem?]
  rw [Array.getElem?_setIfInBounds_self_of_lt (by simp; omega)]
  rfl

/-- What the map holds. -/
def lkL (va vb vc vn vd vk : Int) (s4 s8 s12 s15 s18 s23 : Bool) (q : Int) : Option Value :=
  if q = 97 then (if s4 then some (.int .i64 va) else none) else if q = 98 then (if s8 then some (.int .i64 vb) else none) else if q = 99 then (if s12 then some (.int .i64 vc) else none)
  else if q = 110 then (if s15 then some (.int .i64 vn) else none) else if q = 100 then (if s18 then some (.int .i64 vd) else none) else if q = 107 then (if s23 then some (.int .i64 vk) else none) else none
theorem look_app (L : List (Int × Value)) (k : Int) (v : Value) (q : Int) (h : look L k = none) : look (L ++ [(k, v)]) q = if q = k then some v else look L q := by
  unfold look at *
  rw [List.find?_append]
  by_cases e : q = k
  · subst e
    rw [if_pos rfl]
    have h' : L.find? (fun p => p.1 == q) = none := by simpa using h
    rw [h']
    simp
  · rw [if_neg e]
    have e' : (k == q) = false := by simpa using fun e2 => e e2.symm
    simp [List.find?_cons, e']
set_option maxHeartbeats 2000000 in
theorem line_map (k a b c va vb vc vk : Int) (a0 : Act) (hsz : 60 < a0.tmps.size) (h44 : a0.eval (.tmp 44) = .int .i64 va) (h47 : a0.eval (.tmp 47) = .int .i64 vb) (h50 : a0.eval (.tmp 50) = .int .i64 vc) (h58 : a0.eval (.tmp 58) = .int .i64 vk) (h51 : a0.eval (.tmp 51) = insV k a b c) (h53 : a0.eval (.tmp 53) = insV k a b c) (B : Nat) (w0 : World) (Q : Exit → Act → World → Prop) (S : World → Prop) (hS : ∀ w', Below B w0 w' → S w')
    (hend : ∀ m L y v w', MapAt w' m .i32 L → (∀ q, look L q = lkL va vb vc (numR b c) (jmpR b c) vk true true true true true true q) → Below B w0 w' → wpAnyH Tryd.prog .any lineOps Q S 3 (lst true true true true true true true true true) (frL a0 (.map (some m)) y v) w') :
    ∀ (n : Nat) (z p r s4 s8 s12 s15 s18 s23 : Bool) (x y v : Value) (w : World), (!z).toNat + (!p).toNat + (!r).toNat + (!s4).toNat + (!s8).toNat + (!s12).toNat + (!s15).toNat + (!s18).toNat + (!s23).toNat = n → Below B w0 w → B ≤ w.heap.size →
      (z = true → ∃ m L, x = .map (some m) ∧ B ≤ m ∧ MapAt w m .i32 L ∧ ∀ q, look L q = lkL va vb vc (numR b c) (jmpR b c) vk s4 s8 s12 s15 s18 s23 q) →
      (z = false → s4 = false ∧ s8 = false ∧ s12 = false ∧ s15 = false ∧ s18 = false ∧ s23 = false) → (p = true → y = .int .i64 (numR b c)) → (r = true → v = .int .i64 (jmpR b c)) →
      wpAnyH Tryd.prog .any lineOps Q S (n + 3) (lst z p r s4 s8 s12 s15 s18 s23) (frL a0 x y v) w := by
  intro n
  induction n with
  | zero =>
    intro z p r s4 s8 s12 s15 s18 s23 x y v w hc hB hs hz _ _ _
    have e : z = true ∧ p = true ∧ r = true ∧ s4 = true ∧ s8 = true ∧ s12 = true ∧ s15 = true ∧ s18 = true ∧ s23 = true := by
      refine ⟨?_, ?_, ?_, ?_, ?_, ?_, ?_, ?_, ?_⟩ <;> (rw [← Bool.not_eq_false]; intro e; simp [e] at hc)
    obtain ⟨rfl, rfl, rfl, rfl, rfl, rfl, rfl, rfl, rfl⟩ := e
    obtain ⟨m, L, rfl, hm, hM, hL⟩ := hz rfl
    exact hend m L y v w hM hL hB
  | succ n ih =>
    intro z p r s4 s8 s12 s15 s18 s23 x y v w hc hB hs hz hz0 hp hr
    have hall : allT z p r s4 s8 s12 s15 s18 s23 = false := by
      rw [← Bool.not_eq_true]
      intro e
      simp only [allT, Bool.and_eq_true] at e
      obtain ⟨⟨⟨⟨⟨⟨⟨⟨rfl, rfl⟩, rfl⟩, rfl⟩, rfl⟩, rfl⟩, rfl⟩, rfl⟩, rfl⟩ := e
      simp at hc
    obtain ⟨h1, h2⟩ := ready8 z p r s4 s8 s12 s15 s18 s23 hall
    refine ⟨fun e => ?_, fun i hi => ?_⟩
    · rw [e] at h2
      cases h2
    have hk := List.all_eq_true.1 h1 i hi
    simp only [ok8, Bool.or_eq_true, Bool.and_eq_true, beq_iff_eq, Bool.not_eq_true', or_assoc, and_assoc] at hk
    clear hi h1 h2 hall
    rcases hk with ⟨rfl, rfl⟩ | ⟨rfl, rfl⟩ | ⟨rfl, rfl, rfl⟩ | ⟨rfl, rfl, rfl⟩ | ⟨rfl, rfl, rfl⟩ | ⟨rfl, rfl, rfl⟩ | ⟨rfl, rfl, rfl, rfl⟩ | ⟨rfl, rfl, rfl, rfl⟩ | ⟨rfl, rfl, rfl⟩
    · obtain ⟨o, ho, hd, hop, hg⟩ := op_parts op0
      obtain ⟨rfl, rfl, rfl, rfl, rfl, rfl⟩ := hz0 rfl
      refine wpOp_plain ho hg ?_
      unfold Oper.wp execOp
      simp only [hop, Option.map_none, run_makeMap, Sem.run_bind, Sem.run_pure, Result.andThen_ok, Oper.upon_value]
      rw [hd, frL_x]
      refine ⟨hS _ (hB.alloc hs _), ?_⟩
      exact ih true p r false false false false false false _ y v _ (by simp at hc ⊢; omega) (hB.alloc hs _) (by simp; omega) (fun _ => ⟨_, [], rfl, hs, MapAt.new w .i32, fun q => by simp [look, lkL]⟩) (fun e => by cases e) hp hr
    · obtain ⟨o, ho, hd, hop, hg⟩ := op_parts op14
      have hx : (frL a0 x y v).tmps[51]?.getD undef = insV k a b c := by
        rw [← Array.getD_eq_getD_getElem?]
        exact (frL_eval a0 x y v 51 (by decide) (by decide) (by decide)).trans h51
      refine wpOp_plain ho hg ?_
      unfold Oper.wp execOp
      simp only [hop]
      go_simp
      refine (number_is k a b c w).mono ?_
      rintro e w' ⟨rfl, hb⟩
      show S _ ∧ wpAnyH _ _ _ _ _ _ _ ((frL a0 x y v).put (some 52) _) _
      rw [frL_y]
      refine ⟨hS _ (hB.trans (hb.mono hs)), ?_⟩
      exact ih z true r s4 s8 s12 s15 s18 s23 x _ _ _ (by simp at hc ⊢; omega) (hB.trans (hb.mono hs)) (Nat.le_trans hs hb.size) (fun e => by
        obtain ⟨m, L, h1, h2, h3, h4⟩ := hz e
        exact ⟨m, L, h1, h2, h3.below hb h3.lt, h4⟩) hz0 (fun _ => rfl) hr
    · obtain ⟨o, ho, hd, hop, hg⟩ := op_parts op17
      obtain rfl := hp rfl
      have hx : (frL a0 x (.int .i64 (numR b c)) v).tmps[53]?.getD undef = insV k a b c := by
        rw [← Array.getD_eq_getD_getElem?]
        exact (frL_eval a0 x (.int .i64 (numR b c)) v 53 (by decide) (by decide) (by decide)).trans h53
      refine wpOp_plain ho hg ?_
      unfold Oper.wp execOp
      simp only [hop]
      go_simp
      refine (jumpc_is k a b c w).mono ?_
      rintro e w' ⟨rfl, hb⟩
      show S _ ∧ wpAnyH _ _ _ _ _ _ _ ((frL a0 x (.int .i64 (numR b c)) v).put (some 54) _) _
      rw [frL_z]
      refine ⟨hS _ (hB.trans (hb.mono hs)), ?_⟩
      exact ih z true true s4 s8 s12 s15 s18 s23 x _ _ _ (by simp at hc ⊢; omega) (hB.trans (hb.mono hs)) (Nat.le_trans hs hb.size) (fun e => by
        obtain ⟨m, L, h1, h2, h3, h4⟩ := hz e
        exact ⟨m, L, h1, h2, h3.below hb h3.lt, h4⟩) hz0 hp (fun _ => rfl)
    · obtain ⟨o, ho, hd, hop, hg⟩ := op_parts op4
      obtain ⟨m, L, rfl, hm, hM, hL⟩ := hz rfl
      have h0 : look L 97 = none := by rw [hL]; simp [lkL]
      refine wpOp_plain ho hg (wp_insert_int Tryd.underlying77 Tryd.underlying21 (.tmp 41) (.const (.int .i32 97)) (.tmp 44) hop (m := m) (frL_41 a0 _ y v hsz) rfl ((frL_eval a0 _ y v 44 (by decide) (by decide) (by decide)).trans h44) hM h0 ?_)
      intro w' hM' hG
      rw [hd]
      refine ⟨hS _ (hB.grown hG hs (fun j e => by cases e; exact hm)), ?_⟩
      exact ih true p r true s8 s12 s15 s18 s23 _ y v w' (by simp at hc ⊢; omega) (hB.grown hG hs (fun j e => by cases e; exact hm)) (Nat.le_trans hs hG.size) (fun _ => ⟨m, _, rfl, hm, hM', fun q => by
        rw [look_app _ _ _ _ h0, hL]
        unfold lkL
        by_cases e : q = 97 <;> simp [e]⟩) (fun e => by cases e) hp hr
    · obtain ⟨o, ho, hd, hop, hg⟩ := op_parts op8
      obtain ⟨m, L, rfl, hm, hM, hL⟩ := hz rfl
      have h0 : look L 98 = none := by rw [hL]; simp [lkL]
      refine wpOp_plain ho hg (wp_insert_int Tryd.underlying77 Tryd.underlying21 (.tmp 41) (.const (.int .i32 98)) (.tmp 47) hop (m := m) (frL_41 a0 _ y v hsz) rfl ((frL_eval a0 _ y v 47 (by decide) (by decide) (by decide)).trans h47) hM h0 ?_)
      intro w' hM' hG
      rw [hd]
      refine ⟨hS _ (hB.grown hG hs (fun j e => by cases e; exact hm)), ?_⟩
      exact ih true p r s4 true s12 s15 s18 s23 _ y v w' (by simp at hc ⊢; omega) (hB.grown hG hs (fun j e => by cases e; exact hm)) (Nat.le_trans hs hG.size) (fun _ => ⟨m, _, rfl, hm, hM', fun q => by
        rw [look_app _ _ _ _ h0, hL]
        unfold lkL
        by_cases e : q = 98 <;> simp [e]⟩) (fun e => by cases e) hp hr
    · obtain ⟨o, ho, hd, hop, hg⟩ := op_parts op12
      obtain ⟨m, L, rfl, hm, hM, hL⟩ := hz rfl
      have h0 : look L 99 = none := by rw [hL]; simp [lkL]
      refine wpOp_plain ho hg (wp_insert_int Tryd.underlying77 Tryd.underlying21 (.tmp 41) (.const (.int .i32 99)) (.tmp 50) hop (m := m) (frL_41 a0 _ y v hsz) rfl ((frL_eval a0 _ y v 50 (by decide) (by decide) (by decide)).trans h50) hM h0 ?_)
      intro w' hM' hG
      rw [hd]
      refine ⟨hS _ (hB.grown hG hs (fun j e => by cases e; exact hm)), ?_⟩
      exact ih true p r s4 s8 true s15 s18 s23 _ y v w' (by simp at hc ⊢; omega) (hB.grown hG hs (fun j e => by cases e; exact hm)) (Nat.le_trans hs hG.size) (fun _ => ⟨m, _, rfl, hm, hM', fun q => by
        rw [look_app _ _ _ _ h0, hL]
        unfold lkL
        by_cases e : q = 99 <;> simp [e]⟩) (fun e => by cases e) hp hr
    · obtain ⟨o, ho, hd, hop, hg⟩ := op_parts op15
      obtain ⟨m, L, rfl, hm, hM, hL⟩ := hz rfl
      have h0 : look L 110 = none := by rw [hL]; simp [lkL]
      refine wpOp_plain ho hg (wp_insert_int Tryd.underlying77 Tryd.underlying21 (.tmp 41) (.const (.int .i32 110)) (.tmp 52) hop (m := m) (frL_41 a0 _ y v hsz) rfl ((frL_52 a0 _ y v hsz).trans (hp rfl)) hM h0 ?_)
      intro w' hM' hG
      rw [hd]
      refine ⟨hS _ (hB.grown hG hs (fun j e => by cases e; exact hm)), ?_⟩
      exact ih true true r s4 s8 s12 true s18 s23 _ y v w' (by simp at hc ⊢; omega) (hB.grown hG hs (fun j e => by cases e; exact hm)) (Nat.le_trans hs hG.size) (fun _ => ⟨m, _, rfl, hm, hM', fun q => by
        rw [look_app _ _ _ _ h0, hL]
        unfold lkL
        by_cases e : q = 110 <;> simp [e]⟩) (fun e => by cases e) hp hr
    · obtain ⟨o, ho, hd, hop, hg⟩ := op_parts op18
      obtain ⟨m, L, rfl, hm, hM, hL⟩ := hz rfl
      have h0 : look L 100 = none := by rw [hL]; simp [lkL]
      refine wpOp_plain ho hg (wp_insert_int Tryd.underlying77 Tryd.underlying21 (.tmp 41) (.const (.int .i32 100)) (.tmp 54) hop (m := m) (frL_41 a0 _ y v hsz) rfl ((frL_54 a0 _ y v hsz).trans (hr rfl)) hM h0 ?_)
      intro w' hM' hG
      rw [hd]
      refine ⟨hS _ (hB.grown hG hs (fun j e => by cases e; exact hm)), ?_⟩
      exact ih true p true s4 s8 s12 s15 true s23 _ y v w' (by simp at hc ⊢; omega) (hB.grown hG hs (fun j e => by cases e; exact hm)) (Nat.le_trans hs hG.size) (fun _ => ⟨m, _, rfl, hm, hM', fun q => by
        rw [look_app _ _ _ _ h0, hL]
        unfold lkL
        by_cases e : q = 100 <;> simp [e]⟩) (fun e => by cases e) hp hr
    · obtain ⟨o, ho, hd, hop, hg⟩ := op_parts op23
      obtain ⟨m, L, rfl, hm, hM, hL⟩ := hz rfl
      have h0 : look L 107 = none := by rw [hL]; simp [lkL]
      refine wpOp_plain ho hg (wp_insert_int Tryd.underlying77 Tryd.underlying21 (.tmp 41) (.const (.int .i32 107)) (.tmp 58) hop (m := m) (frL_41 a0 _ y v hsz) rfl ((frL_eval a0 _ y v 58 (by decide) (by decide) (by decide)).trans h58) hM h0 ?_)
      intro w' hM' hG
      rw [hd]
      refine ⟨hS _ (hB.grown hG hs (fun j e => by cases e; exact hm)), ?_⟩
      exact ih true p r s4 s8 s12 s15 s18 true _ y v w' (by simp at hc ⊢; omega) (hB.grown hG hs (fun j e => by cases e; exact hm)) (Nat.le_trans hs hG.size) (fun _ => ⟨m, _, rfl, hm, hM', fun q => by
        rw [look_app _ _ _ _ h0, hL]
        unfold lkL
        by_cases e : q = 107 <;> simp [e]⟩) (fun e => by cases e) hp hr
end Go.Proofs.YtnbkpminecoddaaDoor
