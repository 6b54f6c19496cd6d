/- Programs of the call's own; own, Clone, Much, by walks. -/
import Derived.Test.YtoigapnpmhogdaaCfOutI
import Derived.Deep.CutRange
namespace Go.Proofs.Ytoigapnpmhogdaa
open Go.RowKit
set_option linter.unusedVariables false
set_option linter.unusedSimpArgs false

theorem own_form {w : World} {base : Nat} {e : TypeId} {size : Nat} {v : Value} {n : Nat} {xs : List Value} (h : w.ownsRow base e size v n xs) : ∃ A cap, v = .slice A n cap ∧ (A = none → n = 0 ∧ cap = 0) ∧ n ≤ cap := by
  rcases h.2 with ⟨rfl, rfl⟩ | ⟨g, cap, cur, rfl, _, _, hnc, _⟩
  · exact ⟨none, 0, rfl, fun _ => ⟨rfl, rfl⟩, Nat.le_refl _⟩
  · exact ⟨_, cap, rfl, (fun h => by cases h), hnc⟩
theorem own_below {w w' : World} {base : Nat} {e : TypeId} {size : Nat} {v : Value} {n : Nat} {xs : List Value} (h : w.ownsRow base e size v n xs) (hb : Below w.heap.size w w') : w'.ownsRow base e size v n xs := by
  refine ⟨h.1, ?_⟩
  rcases h.2 with hn | ⟨g, cap, cur, hv, hbg, hg, rest⟩
  · exact .inl hn
  · exact .inr ⟨g, cap, cur, hv, hbg, (hb.block g (Array.getElem?_eq_some_iff.1 hg).1).trans hg, rest⟩
theorem own_base {w : World} {base base' : Nat} {e : TypeId} {size : Nat} {v : Value} {n : Nat} {xs : List Value} (h : w.ownsRow base e size v n xs) (hb : base' ≤ base) : w.ownsRow base' e size v n xs := by
  refine ⟨h.1, ?_⟩
  rcases h.2 with hn | ⟨g, cap, cur, hv, hbg, rest⟩
  · exact .inl hn
  · exact .inr ⟨g, cap, cur, hv, by omega, rest⟩
theorem own_ne {w : World} {base base' : Nat} {e e' : TypeId} {size size' : Nat} {v v' : Value} {n n' : Nat} {xs xs' : List Value} (h : w.ownsRow base e size v n xs) (h' : w.ownsRow base' e' size' v' n' xs') (hne : e ≠ e') : v.ownBlock = none ∨ v.ownBlock ≠ v'.ownBlock := by
  rcases h.2 with ⟨rfl, _⟩ | ⟨g, cap, cur, rfl, _, hg, _⟩
  · exact .inl rfl
  · right
    intro he
    have := own_blk_ne h' (g := g) hg (fun e => hne e.symm)
    exact this (by rw [← he]; rfl)

/-- Rows of the call's own, apart from one another. -/
def RowsIn (w : World) (base : Nat) (xs : List Value) (L : List (List UInt8)) : Prop :=
  xs.length = L.length ∧ (∀ (j : Nat) x l, xs[j]? = some x → L[j]? = some l → w.ownsRow base 5 1 x l.length (l.map byteV)) ∧
  ∀ (i j : Nat) x y, i < j → xs[i]? = some x → xs[j]? = some y → x.ownBlock = none ∨ x.ownBlock ≠ y.ownBlock

theorem RowsIn.none_ (w : World) (base : Nat) : RowsIn w base [] [] := ⟨rfl, fun j x l h => by simp at h, fun i j x y _ h => by simp at h⟩
theorem RowsIn.keep {w w' : World} {base : Nat} {xs : List Value} {L : List (List UInt8)} (h : RowsIn w base xs L) (hk : ∀ x m ys, w.ownsRow base 5 1 x m ys → w'.ownsRow base 5 1 x m ys) : RowsIn w' base xs L :=
  ⟨h.1, fun j x l h1 h2 => hk _ _ _ (h.2.1 j x l h1 h2), h.2.2⟩
theorem RowsIn.below {w w' : World} {base : Nat} {xs : List Value} {L : List (List UInt8)} (h : RowsIn w base xs L) (hb : Below w.heap.size w w') : RowsIn w' base xs L := h.keep fun _ _ _ ho => own_below ho hb
theorem RowsIn.base {w : World} {base base' : Nat} {xs : List Value} {L : List (List UInt8)} (h : RowsIn w base xs L) (hb : base' ≤ base) : RowsIn w base' xs L := ⟨h.1, fun j x l h1 h2 => own_base (h.2.1 j x l h1 h2) hb, h.2.2⟩
theorem RowsIn.grown {w w' : World} {base base' : Nat} {xs : List Value} {L : List (List UInt8)} {v : Value} {n : Nat} {ys : List Value} (h : RowsIn w base xs L) (hv : w.ownsRow base' 43 1 v n ys) (hg : w.grownBy w' v.ownBlock) : RowsIn w' base xs L :=
  h.keep fun _ _ _ ho => ho.kept hg (own_ne ho hv (by decide))
theorem RowsIn.snoc {w : World} {base B : Nat} {xs : List Value} {L : List (List UInt8)} {x : Value} {l : List UInt8} (h : RowsIn w base xs L) (hB : ∀ (j : Nat) y, xs[j]? = some y → ∀ k, y.ownBlock = some k → k < B) (hx : w.ownsRow B 5 1 x l.length (l.map byteV)) (hb : base ≤ B) : RowsIn w base (xs ++ [x]) (L ++ [l]) := by
  refine ⟨by simp [h.1], fun j y m h1 h2 => ?_, fun i j y z hij h1 h2 => ?_⟩
  · rcases Nat.lt_or_ge j xs.length with hj | hj
    · rw [List.getElem?_append_left hj] at h1
      rw [List.getElem?_append_left (by rw [← h.1]; exact hj)] at h2
      exact h.2.1 j y m h1 h2
    · rw [List.getElem?_append_right hj] at h1
      rw [List.getElem?_append_right (by rw [← h.1]; exact hj)] at h2
      rw [← h.1] at h2
      have hj0 : j - xs.length = 0 := by
        rcases Nat.eq_zero_or_pos (j - xs.length) with e | e
        · exact e
        · rw [List.getElem?_eq_none (by rw [List.length_singleton]; exact e)] at h1; cases h1
      rw [hj0] at h1 h2
      simp at h1 h2
      subst h1 h2
      exact own_base hx hb
  · rcases Nat.lt_or_ge j xs.length with hj | hj
    · rw [List.getElem?_append_left hj] at h2
      rw [List.getElem?_append_left (by omega)] at h1
      exact h.2.2 i j y z hij h1 h2
    · rw [List.getElem?_append_right hj] at h2
      have hj0 : j - xs.length = 0 := by
        rcases Nat.eq_zero_or_pos (j - xs.length) with e | e
        · exact e
        · rw [List.getElem?_eq_none (by rw [List.length_singleton]; exact e)] at h2; cases h2
      rw [hj0] at h2
      simp at h2
      subst h2
      rw [List.getElem?_append_left (by omega)] at h1
      cases hy : y.ownBlock with
      | none => exact .inl rfl
      | some k =>
        right
        intro e
        have h3 := hB i y h1 k hy
        have h4 := (hx.lt k e.symm).1
        omega

theorem own_keep0 {w w' : World} {base : Nat} {e : TypeId} {size : Nat} {v : Value} {n : Nat} {xs : List Value} (h : w.ownsRow base e size v n xs) (hg : w.grownBy w' none) : w'.ownsRow base e size v n xs :=
  h.kept hg (by cases hv : v.ownBlock <;> simp)
theorem RowsIn.lt {w : World} {base : Nat} {xs : List Value} {L : List (List UInt8)} (h : RowsIn w base xs L) (j : Nat) (y : Value) (hj : xs[j]? = some y) (k : Nat) (hk : y.ownBlock = some k) : base ≤ k ∧ k < w.heap.size := by
  have hjl : j < xs.length := by
    rcases Nat.lt_or_ge j xs.length with h1 | h1
    · exact h1
    · rw [List.getElem?_eq_none h1] at hj; cases hj
  exact (h.2.1 j y (L[j]'(by rw [← h.1]; exact hjl)) hj (List.getElem?_eq_getElem (by rw [← h.1]; exact hjl))).lt k hk
/-- One more row, by an append onto nothing and an append onto the rows. -/
theorem RowsIn.more {wr w1 w3 : World} {base : Nat} {v x1 : Value} {n : Nat} {xs : List Value} {L : List (List UInt8)} {x : List UInt8} {cs : Array Value} {t : TypeId} (h : RowsIn wr base xs L) (hown : wr.ownsRow base 43 1 v n xs) (hb : base ≤ wr.heap.size)
    (hg1 : wr.grownBy w1 none) (h1 : w1.ownsRow wr.heap.size 5 1 x1 x.length (x.map byteV)) (hg2 : (w1.alloc (.cells cs t)).grownBy w3 v.ownBlock) : RowsIn w3 base (xs ++ [x1]) (L ++ [x]) := by
  have o1 := (own_keep0 hown hg1).alloc (.cells cs t)
  have r1 := ((h.keep fun _ _ _ ho => (own_keep0 ho hg1).alloc (.cells cs t)).grown o1 hg2)
  exact r1.snoc (B := wr.heap.size) (fun j y hj k hk => (h.lt j y hj k hk).2) ((h1.alloc (.cells cs t)).kept hg2 (own_ne (h1.alloc _) o1 (by decide))) hb

theorem own_far {w w' : World} {base : Nat} {e : TypeId} {size : Nat} {v : Value} {n : Nat} {xs : List Value} (h : w.ownsRow base e size v n xs) (hb : ∀ g, base ≤ g → g < w.heap.size → w'.heap[g]? = w.heap[g]?) : w'.ownsRow base e size v n xs := by
  refine ⟨h.1, ?_⟩
  rcases h.2 with hn | ⟨g, cap, cur, hv, hbg, hg, rest⟩
  · exact .inl hn
  · exact .inr ⟨g, cap, cur, hv, hbg, (hb g hbg (Array.getElem?_eq_some_iff.1 hg).1).trans hg, rest⟩

/-- Rows of one's own read as programs. -/
theorem pr_own {w : World} {base : Nat} {A : Option Addr} {n cap : Nat} {xs : List Value} {L : List (List UInt8)} (h : w.ownsRow base 43 1 (.slice A n cap) n xs) (hr : RowsIn w base xs L) : PrAt w w.heap.size A L := fun hne => by
  have hL : 0 < L.length := by
    cases L with
    | nil => exact absurd rfl hne
    | cons _ _ => simp
  have hxn : xs.length = n := by have := h.1; omega
  obtain ⟨g, cap', hv, _, hlt⟩ := h.form (by have := hr.1; omega)
  have hA : A = some ⟨g, 0, none⟩ := by injection hv
  subst hA
  refine ⟨g, 0, rfl, hlt, fun i hi => ?_⟩
  have hix : i < xs.length := by have := hr.1; omega
  have hx := hr.2.1 i (xs[i]'hix) (L[i]'hi) (List.getElem?_eq_getElem hix) (List.getElem?_eq_getElem hi)
  obtain ⟨Ai, ci, e, h0, hle⟩ := own_form hx
  refine ⟨Ai, ci, ?_, hle, ?_, fun hn => ⟨List.length_eq_zero_iff.1 (h0 hn).1, (h0 hn).2⟩⟩
  · have := h.cellAt (0 + i) (by omega)
    rw [this, Nat.zero_add, List.getElem?_eq_getElem hix, e]
  · rw [e] at hx
    exact Reads.of_own hx

set_option maxHeartbeats 4000000 in
theorem own_is (c : Nat → Int) (A : Option Addr) (cap : Nat) (L : List (List UInt8)) (w : World) (h : PrAt w w.heap.size A L) (hl : L.length ≤ 40) (hl2 : ∀ x ∈ L, x.length ≤ 40000) :
    Calls Try.prog 10 #[.agg (cfV c (.slice A L.length cap))] w fun e w' => ∃ A' cap' xs, e = .returned (.agg (cfV c (.slice A' L.length cap'))) ∧ w'.ownsRow w.heap.size 43 1 (.slice A' L.length cap') L.length xs ∧ RowsIn w' w.heap.size xs L ∧ Below w.heap.size w w' := by
  obtain ⟨i0, hi0, hz0, hz1, hz2⟩ := info_parts infoU8
  obtain ⟨i1, hi1, hy0, hy1, hy2⟩ := info_parts infoRowU8
  obtain ⟨zz, hzz⟩ : ∃ z : Array Value, z = #[.int .i64 0, .int .i64 0, .int .i64 0, .int .i64 0, .int .i64 0, .int .i64 0, .int .i64 0, .int .i64 0, .int .i64 0, .int .i64 0, .int .u64 0, .int .u64 0, .int .u64 0, .int .u64 0, .slice none 0 0] := ⟨_, rfl⟩
  have hb2 := below2 w (.cells (cfV c (.slice A L.length cap)) 25) (.cells zz 25)
  have B1 : Blk ((w.alloc (.cells (cfV c (.slice A L.length cap)) 25)).alloc (.cells zz 25)) w.heap.size 25 (cfV c (.slice A L.length cap)) := (Blk.new _ _ _).alloc _
  have B2 : Blk ((w.alloc (.cells (cfV c (.slice A L.length cap)) 25)).alloc (.cells zz 25)) (w.heap.size + 1) 25 zz := new2 _ _ _ _
  have hs2 : ((w.alloc (.cells (cfV c (.slice A L.length cap)) 25)).alloc (.cells zz 25)).heap.size = w.heap.size + 2 := by simp
  have H := Lib.hid (h.below hb2)
  have HL2 := Lib.hid hl2
  clear h hl2
  obtain ⟨w2, hw2⟩ : ∃ w2, w2 = ((w.alloc (.cells (cfV c (.slice A L.length cap)) 25)).alloc (.cells zz 25)) := ⟨_, rfl⟩
  rw [← hw2] at hb2 B1 B2 hs2 H
  obtain ⟨n, hn⟩ : ∃ n, n = L.length := ⟨_, rfl⟩
  rw [← hn] at hw2 B1 hl ⊢
  have HN := Lib.hid hn
  rw [hzz] at hw2
  clear hn
  have HZ := Lib.hid hzz
  clear hzz
  go_enter Try.func10, Try.ntmps10
  go_wp2_with fail
  rw [← hw2]
  clear hw2
  go_loopw [3, 4] (fun v i wr => ∃ (k : Nat) (xs : List Value), k ≤ n ∧ i = .int .i64 k ∧ wr.ownsRow w2.heap.size 43 1 v k xs ∧ RowsIn wr w2.heap.size xs (L.take k) ∧ Below w2.heap.size w2 wr) (fun _ i _ => n - (intOf i).toNat)
  case atStart => exact ⟨0, [], Nat.zero_le _, rfl, World.ownsRow_nil _ _ _ _, RowsIn.none_ _ _, Below.refl _ _⟩
  case round =>
    obtain ⟨k, xs, hk, rfl, hown, hrows, hbr⟩ := hrel
    have X14 : wr.cell? ⟨w.heap.size, 14, none⟩ = some (.slice A n cap) := ((B1.below hbr B1.lt).cell 14).trans (cfV_last c _)
    obtain ⟨Av, cv, rfl, _, _⟩ := own_form hown
    have HR := Lib.hid hrows
    clear hrows
    by_cases hlt : k < n
    · have hkL : k < L.length := by rw [← HN.out]; exact hlt
      obtain ⟨g, o, rfl, hg, hr⟩ := (H.out.below (hbr.mono (by omega))) (fun e => by rw [e] at hkL; simp at hkL)
      obtain ⟨Ai, ci, q1, q2, q3, q4⟩ := hr k hkL
      have hxl := HL2.out _ (List.getElem_mem hkL)
      have ht : Hid (L.take (k + 1) = L.take k ++ [L[k]'hkL]) := Lib.hid (by rw [List.take_add_one, List.getElem?_eq_getElem hkL]; rfl)
      obtain ⟨x, hx⟩ : ∃ x, x = L[k]'hkL := ⟨_, rfl⟩
      rw [← hx] at q1 q2 q3 q4 hxl ht
      have hone : ∀ u ∈ x.map byteV, u.oneCell' = true := by intro u hu; obtain ⟨b, _, rfl⟩ := List.mem_map.1 hu; rfl
      obtain ⟨xl, hxl0⟩ : ∃ n, n = x.length := ⟨_, rfl⟩
      rw [← hxl0] at q1 q2 q3 hxl
      have HXL := Lib.hid hxl0
      have HQ := Lib.hid q3
      have HO := Lib.hid hone
      have HT := ht
      clear hx hr q2 q3 q4 hone hxl0 ht
      have hk0 : (0 : Int) ≤ (k : Int) := by omega
      have hk1 : (k : Int) < n := by omega
      go_wp2_with (first | (at_builtin; refine wpList_append_any _ rfl (.const (.slice none 0 0)) (.tmp 17) 43 rfl wr.heap.size 5 i0 _ 1 1 Try.underlying43 hi0 hz0 hz1 hz2 rfl (by decide) (.slice none 0 0) 0 [] rfl (World.ownsRow_nil _ _ _ _) w.heap.size Ai xl ci (x.map byteV) rfl HQ.out HO.out (by unfold maxLen; omega) (by omega) (Nat.le_refl _) ?_; intro v1 w1 hown1 hg1 hat1; rw [Nat.zero_add, List.nil_append] at hown1; obtain ⟨A1, c1, rfl, h10, h1c⟩ := own_form hown1; clear h10 h1c hat1) | (at_builtin; refine wpList_append_own _ rfl (.tmp 12) (.tmp 19) 23 rfl w2.heap.size 43 i1 _ 1 24 Try.underlying23 hi1 hy0 hy1 hy2 rfl (by decide) (.slice Av k cv) k xs rfl ((own_keep0 hown hg1).alloc _) ⟨w1.heap.size, 0, none⟩ 1 1 [.slice A1 xl c1] rfl rfl (cell_one_new _ _ _) (by simp [Value.oneCell']) (by unfold maxLen; omega) (by omega) (by have := hbr.size; have := hg1.size; simp; omega) ?_; intro v2 w3 hown2 hg2 hat2))
      go_roundw
      case rel =>
        have hrl := RowsIn.more HR.out hown hbr.size hg1 (by rw [← HXL.out]; exact hown1) hg2
        exact ⟨k + 1, xs ++ [.slice A1 xl c1], by omega, by go_num, hown2, by rw [HT.out]; exact hrl, ((hbr.grown hg1 hbr.size (fun j hj => by cases hj)).alloc (by have := hbr.size; have := hg1.size; omega) _).grown hg2 (by have := hbr.size; have := hg1.size; simp; omega) (fun j hj => (((own_keep0 hown hg1).alloc (.cells #[.slice A1 xl c1] 43)).lt j hj).1)⟩
      case measure => simp [intOf]; omega
    · obtain rfl : k = n := by omega
      have B1r := B1.below hbr B1.lt
      have B2r := B2.below hbr B2.lt
      have hrows : RowsIn wr w2.heap.size xs L := by have := HR.out; rwa [List.take_of_length_le (by rw [HN.out]; exact Nat.le_refl _)] at this
      have HRW := Lib.hid hrows
      obtain ⟨y0, y1, y2, y3, y4, y5, y6, y7, y8, y9, y10, y11, y12, y13, y14⟩ := cells15 B1r
      have f14 := B1r.frozen 14
      have B1s := B1r.set_ 14 (.slice Av k cv)
      have B2s := B2r.far (p := ⟨w.heap.size, 14, none⟩) (by show w.heap.size + 1 ≠ w.heap.size; omega) (.slice Av k cv)
      rw [HZ.out] at B2s
      clear HR hrows HN H HL2 hlt hk
      go_wp2_with (refine wpList_store_row rfl 25 (.tmp 2) (.tmp 23) rfl (w.heap.size + 1) (cfV c (.slice Av k cv)) rfl rfl 25 _ B2s (by kernel_rfl) rfl (by simp [cfV, Value.oneCell']) ?_)
      have E2 := B2s.put_ (cfV c (.slice Av k cv))
      have hfin : ∀ g, w2.heap.size ≤ g → g < wr.heap.size → ((wr.setCell ⟨w.heap.size, 14, none⟩ (.slice Av k cv)).setRow (w.heap.size + 1) (cfV c (.slice Av k cv))).heap[g]? = wr.heap[g]? := fun g h1 h2 => (setRow_other _ _ g _ (by omega)).trans (Below.heap_setCell wr _ _ g (by show g ≠ w.heap.size; omega))
      have hbf := below_setRow ((hb2.trans (hbr.mono hb2.size)).setCell (p := ⟨w.heap.size, 14, none⟩) (Nat.le_refl _) (.slice Av k cv)) (g := w.heap.size + 1) (by omega) (cfV c (.slice Av k cv))
      obtain ⟨d, hu1, hu2⟩ := underCf
      exact bodyPost_ret (results_cell_row (P := Try.prog) rfl _ _ (w.heap.size + 1) 25 _ (0, 0) d rfl E2 hu1 (by cases d <;> first | rfl | exact absurd hu2 Bool.false_ne_true) (by kernel_rfl)) rfl ⟨Av, cv, xs, rfl, own_base (own_far hown hfin) (by omega), (HRW.out.keep fun _ _ _ ho => own_far ho hfin).base (by omega), hbf⟩
end Go.Proofs.Ytoigapnpmhogdaa
