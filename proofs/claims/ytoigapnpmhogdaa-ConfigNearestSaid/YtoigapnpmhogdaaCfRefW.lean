/- Wrong and May of the reference, Much, by walks. -/
import Derived.Test.YtoigapnpmhogdaaCfEdges
namespace Go.Proofs.Ytoigapnpmhogdaa
open Go.RowKit
set_option linter.unusedVariables false
set_option linter.unusedSimpArgs false

theorem sum_le {L : List (List UInt8)} {b : Nat} (h : ∀ x ∈ L, x.length ≤ b) : (L.map List.length).sum ≤ L.length * b := by
  induction L with
  | nil => simp
  | cons x L ih =>
    have h1 := h x (by simp)
    have h2 := ih fun y hy => h y (by simp [hy])
    simp only [List.map_cons, List.sum_cons, List.length_cons, Nat.add_mul, Nat.one_mul]
    omega
theorem le_sum {L : List (List UInt8)} {x : List UInt8} (h : x ∈ L) : x.length ≤ (L.map List.length).sum := by
  induction L with
  | nil => cases h
  | cons y L ih =>
    simp only [List.map_cons, List.sum_cons]
    rcases List.mem_cons.1 h with rfl | h
    · omega
    · have := ih h; omega
def sumT (L : List (List UInt8)) (k : Nat) : Nat := ((L.take k).map List.length).sum
theorem sumT_le {L : List (List UInt8)} {b : Nat} (h : ∀ x ∈ L, x.length ≤ b) (k : Nat) : sumT L k ≤ k * b := by
  refine Nat.le_trans (sum_le (b := b) fun x hx => h x (List.mem_of_mem_take hx)) (Nat.mul_le_mul_right _ ?_)
  rw [List.length_take]; omega
theorem sumT_next {L : List (List UInt8)} {k : Nat} (hk : k < L.length) : sumT L (k + 1) = sumT L k + (L[k]'hk).length := by
  unfold sumT
  rw [List.take_add_one, List.getElem?_eq_getElem hk, List.map_append, List.sum_append, Option.toList_some, List.map_singleton, List.sum_singleton]
def muchB (L : List (List UInt8)) : Bool := decide (40 < L.length) || decide (40000 < sumT L 41)
theorem not_much {L : List (List UInt8)} (h : muchB L = false) : L.length ≤ 40 ∧ ∀ x ∈ L, x.length ≤ 40000 := by
  unfold muchB at h
  rw [Bool.or_eq_false_iff, decide_eq_false_iff_not, decide_eq_false_iff_not] at h
  refine ⟨by omega, fun x hx => ?_⟩
  have := le_sum hx
  have e : sumT L 41 = (L.map List.length).sum := by unfold sumT; rw [List.take_of_length_le (by omega)]
  omega

set_option maxHeartbeats 4000000 in
theorem much_is (c : Nat → Int) (A : Option Addr) (cap : Nat) (L : List (List UInt8)) (w : World) (h : PrAt w w.heap.size A L) (hl : L.length < 2 ^ 62) (hl2 : ∀ x ∈ L, x.length ≤ 2 ^ 50) :
    Calls Try.prog 8 #[.agg (cfV c (.slice A L.length cap))] w fun e w' => e = .returned (.bool (muchB L)) ∧ Below w.heap.size w w' := by
  have hb1 := (Below.refl w.heap.size w).alloc (Nat.le_refl _) (.cells (cfV c (.slice A L.length cap)) 25)
  have B1 := Blk.new w 25 (cfV c (.slice A L.length cap))
  have H := Lib.hid (h.below hb1)
  have HS := Lib.hid (sumT_le hl2)
  have HS2 := Lib.hid hl2
  have hmu : muchB L = (decide (40 < L.length) || decide (40000 < sumT L 41)) := rfl
  have HT := Lib.hid (show ∀ k, L.length ≤ k → sumT L k = sumT L L.length from fun k hk => by unfold sumT; rw [List.take_of_length_le hk, List.take_of_length_le (Nat.le_refl _)])
  clear h hl2
  obtain ⟨w2, hw2⟩ : ∃ w2, w2 = w.alloc (.cells (cfV c (.slice A L.length cap)) 25) := ⟨_, rfl⟩
  rw [← hw2] at hb1 B1 H
  obtain ⟨mu, hmu0⟩ : ∃ r, r = muchB L := ⟨_, rfl⟩
  rw [← hmu0] at hmu ⊢
  clear hmu0
  obtain ⟨n, hn⟩ : ∃ n, n = L.length := ⟨_, rfl⟩
  rw [← hn] at hw2 B1 hl hmu HT ⊢
  have HM := Lib.hid hmu
  have HN := Lib.hid hn
  have X14 : w2.cell? ⟨w.heap.size, 14, none⟩ = some (.slice A n cap) := (B1.cell 14).trans (cfV_last c _)
  clear hn hmu B1
  go_enter Try.func8, Try.ntmps8
  go_wp2_with fail
  rw [← hw2]
  clear hw2
  go_loop [3, 4] (fun s i => ∃ k : Nat, k ≤ n ∧ k ≤ 41 ∧ i = .int .i64 k ∧ s = .int .i64 (sumT L k : Nat)) (fun _ i => 41 - (intOf i).toNat)
  case atStart => exact ⟨0, Nat.zero_le _, by omega, rfl, rfl⟩
  case round =>
    obtain ⟨k, hk, hk41, rfl, rfl⟩ := hrel
    have hk0 : (0 : Int) ≤ (k : Int) := by omega
    by_cases hlt : k < n
    · by_cases h40 : k ≤ 40
      · have hkL : k < L.length := by rw [← HN.out]; exact hlt
        obtain ⟨g, o, rfl, hg, hr⟩ := H.out (fun e => by rw [e] at hkL; simp at hkL)
        obtain ⟨Ai, ci, q1, q2, q3, q4⟩ := hr k hkL
        have hxl := HS2.out _ (List.getElem_mem hkL)
        have hsn := sumT_next hkL
        have hss := HS.out k
        obtain ⟨xl, hxl0⟩ : ∃ n, n = (L[k]'hkL).length := ⟨_, rfl⟩
        rw [← hxl0] at q1 hxl hsn
        obtain ⟨s, hs⟩ : ∃ s, s = sumT L k := ⟨_, rfl⟩
        rw [← hs] at hsn hss ⊢
        have HSN := Lib.hid hsn
        clear hr q2 q3 q4 hxl0 hs hsn
        have hk1 : (k : Int) < n := by omega
        have hk2 : (k : Int) ≤ 40 := by omega
        have hss0 : (0 : Int) ≤ (s : Int) := by omega
        have hss1 : (s : Int) + (xl : Int) < 2 ^ 62 := by omega
        go_wp2
        go_round
        case rel => exact ⟨k + 1, by omega, by omega, by go_num, by rw [HSN.out]; go_num⟩
        case measure => simp [intOf]; omega
      · obtain rfl : k = 41 := by omega
        have hn41 : (41 : Int) < n := by omega
        have hn40 : (40 : Int) < n := by omega
        go_wp2
        go_ret
        exact ⟨by rw [HM.out, decide_eq_true (show 40 < n from by omega)]; rfl, hb1⟩
    · obtain rfl : k = n := by omega
      by_cases h40 : 40 < k
      · have hn40 : (40 : Int) < k := by omega
        go_wp2
        go_ret
        exact ⟨by rw [HM.out, decide_eq_true h40]; rfl, hb1⟩
      · have hn40 : ¬ (40 : Int) < k := by omega
        have hst := HT.out 41 (by omega)
        rw [hst] at HM
        obtain ⟨s, hs⟩ : ∃ s, s = sumT L k := ⟨_, rfl⟩
        rw [← hs] at HM ⊢
        clear hs hst
        by_cases hs4 : 40000 < s
        · have hs41 : (40000 : Int) < s := by omega
          go_wp2
          go_ret
          exact ⟨by rw [HM.out, decide_eq_true hs4, Bool.or_true]; rfl, hb1⟩
        · have hs41 : ¬ (40000 : Int) < s := by omega
          go_wp2
          go_ret
          exact ⟨by rw [HM.out, decide_eq_false hs4, decide_eq_false h40]; rfl, hb1⟩

theorem outN_zero {k : Nat} {x : Int} (h : inB k x = true) : outN k x = 0 := of_decide_eq_true ((outN_in k x).trans h)
theorem outN_bad {k : Nat} {x : Int} (h : inB k x = false) : outN k x ≠ 0 := of_decide_eq_false ((outN_in k x).trans h)

set_option maxRecDepth 100000 in
set_option maxHeartbeats 8000000 in
theorem refWrong_is (c : Nat → Int) (A : Option Addr) (cap : Nat) (L : List (List UInt8)) (w : World) (h : PrAt w w.heap.size A L) (hl : L.length < 2 ^ 62) (hl2 : ∀ x ∈ L, x.length < 2 ^ 62) :
    Calls Try.prog 12 #[.agg (cfV c (.slice A L.length cap))] w fun e w' => e = .returned (.tuple #[.string (wrongS c L).1, .int .i64 (wrongS c L).2]) ∧ Below w.heap.size w w' := by
  have hb1 := (Below.refl w.heap.size w).alloc (Nat.le_refl _) (.cells (cfV c (.slice A L.length cap)) 25)
  have B1 := Blk.new w 25 (cfV c (.slice A L.length cap))
  have H := Lib.hid (h.below hb1)
  have HL2 := Lib.hid hl2
  have CO := fun P k hk => out_is c P k hk
  clear h hl2
  obtain ⟨w2, hw2⟩ : ∃ w2, w2 = w.alloc (.cells (cfV c (.slice A L.length cap)) 25) := ⟨_, rfl⟩
  rw [← hw2] at hb1 B1 H
  obtain ⟨n, hn⟩ : ∃ n, n = L.length := ⟨_, rfl⟩
  rw [← hn] at hw2 B1 hl ⊢
  have HN := Lib.hid hn
  clear hn
  have HW := Lib.hid (show ∃ s r, wrongS c L = (s, r) from ⟨_, _, rfl⟩)
  go_enter Try.func12, Try.ntmps12
  go_wp2_with fail
  rw [← hw2]
  clear hw2
  go_loopw [4] (fun i wr => ∃ k : Nat, k ≤ 14 ∧ i = .int .i64 k ∧ Below w2.heap.size w2 wr ∧ ∀ j, j < k → inB j (c j) = true) (fun i _ => 14 - (intOf i).toNat)
  case atStart => exact ⟨0, Nat.zero_le _, rfl, Below.refl _ _, fun j hj => absurd hj (by omega)⟩
  case round =>
    obtain ⟨k, hk, rfl, hbr, hno⟩ := hrel
    have HNO := Lib.hid hno
    clear hno
    have B1r := B1.below hbr B1.lt
    by_cases hlt : k < 14
    · have hk1 : (k : Int) < 14 := by omega
      have hk0 : (0 : Int) ≤ (k : Int) := by omega
      have C := CO (.slice A n cap) k hlt wr
      obtain ⟨y0, y1, y2, y3, y4, y5, y6, y7, y8, y9, y10, y11, y12, y13, y14⟩ := cells15 B1r
      cases hin : inB k (c k) with
      | true =>
        rw [outN_zero hin] at C
        have hin' := Lib.hid hin
        clear hin CO
        unfold cfV at C
        go_wp2_with (go_at_call 20; refine C.mono ?_; rintro e wz ⟨rfl, hz⟩)
        go_roundw
        case rel =>
          refine ⟨k + 1, by omega, by go_num, hbr.trans (hz.mono hbr.size), fun j hj => ?_⟩
          by_cases hjk' : j < k
          · exact HNO.out j hjk'
          · obtain rfl : j = k := by omega
            exact hin'.out
        case measure => simp [intOf]; omega
      | false =>
        have hr0 := outN_bad hin
        have hbad := Lib.hid (bad_hit c k hlt hin HNO.out)
        have CN := namesC k hlt
        obtain ⟨ro, hro⟩ : ∃ r, r = outN k (c k) := ⟨_, rfl⟩
        rw [← hro] at C hr0
        have hr1 : (ro == 0) = false := by simp [hr0]
        have hr2 : (ro != 0) = true := by simp [hr0]
        clear hin CO hro
        unfold cfV at C
        go_wp2_with (first | (go_at_call 20; refine C.mono ?_; rintro e wz ⟨rfl, hz⟩) | (go_at_call 21; refine (CN _).mono ?_; rintro e wy ⟨gn, rfl, hgn, hcn, hy⟩))
        go_ret2
        exact ⟨by simp only [wrongS, hbad.out]; rfl, hb1.trans ((hbr.trans ((hz.trans (hy.mono hz.size)).mono hbr.size)).mono hb1.size)⟩
    · obtain rfl : k = 14 := by omega
      have hbad := Lib.hid (bad_none c HNO.out)
      have hw := Lib.hid (show wrongS c L = if L.length < 1 ∨ 16 < L.length then (sProg, -1) else if longI L < 0 then (⟨#[]⟩, -1) else (sProg, longI L) from by simp only [wrongS, hbad.out])
      have X14 : wr.cell? ⟨w.heap.size, 14, none⟩ = some (.slice A n cap) := (B1r.cell 14).trans (cfV_last c _)
      have hbw := hb1.trans (hbr.mono hb1.size)
      have H3 := Lib.hid (H.out.below (hbr.mono hb1.size))
      clear B1r B1 H CO HNO hbad hlt hk
      by_cases h1 : n < 1
      · obtain rfl : n = 0 := by omega
        go_wp2_with fail
        go_ret2
        exact ⟨by rw [hw.out, if_pos (Or.inl (by rw [← HN.out]; omega))]; rfl, hbw⟩
      · by_cases h2 : 16 < n
        · have h21 : (16 : Int) < n := by omega
          have h22 : ¬ (n : Int) = 0 := by omega
          go_wp2_with fail
          go_ret2
          exact ⟨by rw [hw.out, if_pos (Or.inr (by rw [← HN.out]; exact h2))]; rfl, hbw⟩
        · have h21 : ¬ (16 : Int) < n := by omega
          have h22 : ¬ (n : Int) = 0 := by omega
          go_wp2_with fail
          go_loop [5] (fun i => ∃ k : Nat, k ≤ n ∧ i = .int .i64 k ∧ ∀ j (hj : j < L.length), j < k → ¬ 1024 < (L[j]'hj).length) (fun i => n - (intOf i).toNat)
          case atStart => exact ⟨0, Nat.zero_le _, rfl, fun j _ hj => absurd hj (by omega)⟩
          case round =>
            obtain ⟨k, hk, rfl, hno⟩ := hrel
            have HNO := Lib.hid hno
            clear hno
            by_cases hlt : k < n
            · have hkL : k < L.length := by rw [← HN.out]; exact hlt
              obtain ⟨g, o, rfl, hg, hr⟩ := H3.out (fun e => by rw [e] at hkL; simp at hkL)
              obtain ⟨Ai, ci, q1, q2, q3, q4⟩ := hr k hkL
              have hn := HL2.out _ (List.getElem_mem hkL)
              have HHIT := Lib.hid (fun h1 => longI_hit hkL h1 (fun i hi => HNO.out i (by omega) hi))
              obtain ⟨m, hnn⟩ : ∃ n, n = (L[k]'hkL).length := ⟨_, rfl⟩
              rw [← hnn] at q1 hn HHIT
              have HM := Lib.hid hnn
              clear hr hnn q2 q3 q4
              have hk1 : (k : Int) < n := by omega
              have hk0 : (0 : Int) ≤ (k : Int) := by omega
              by_cases hm : 1024 < m
              · have hm1 : (1024 : Int) < m := by omega
                go_wp2
                go_ret2
                exact ⟨by rw [hw.out, if_neg (by rw [← HN.out]; omega), HHIT.out hm, if_neg (by omega)]; rfl, hbw⟩
              · have hm1 : ¬ (1024 : Int) < m := by omega
                go_wp2
                go_round
                case rel =>
                  refine ⟨k + 1, by omega, by go_num, fun j hj hjk => ?_⟩
                  by_cases hjk' : j < k
                  · exact HNO.out j hj hjk'
                  · obtain rfl : j = k := by omega
                    rw [← HM.out]; exact hm
                case measure => simp [intOf]; omega
            · obtain rfl : k = n := by omega
              have hr := Lib.hid (longI_none (fun i hi => HNO.out i hi (by rw [HN.out]; exact hi)))
              go_wp2
              go_ret2
              exact ⟨by rw [hw.out, if_neg (by rw [← HN.out]; omega), hr.out, if_pos (by omega)]; rfl, hbw⟩

theorem wrongS_empty {c : Nat → Int} {L : List (List UInt8)} (h : (wrongS c L).1 = ⟨#[]⟩) : (wrongS c L).2 = -1 := by
  cases hb : firstBad c with
  | some k => simp only [wrongS, hb]
  | none =>
    simp only [wrongS, hb] at h ⊢
    split
    · rfl
    · rename_i h1
      rw [if_neg h1] at h
      split
      · rfl
      · rename_i h2
        rw [if_neg h2] at h
        exact absurd h (show ¬ sProg = ⟨#[]⟩ from by decide)

theorem refMay_is (c : Nat → Int) (A : Option Addr) (cap : Nat) (L : List (List UInt8)) (w : World) (h : PrAt w w.heap.size A L) (hl : L.length < 2 ^ 62) (hl2 : ∀ x ∈ L, x.length < 2 ^ 62) :
    Calls Try.prog 14 #[.agg (cfV c (.slice A L.length cap))] w fun e w' => e = .returned (.int .i64 (mayN c L)) ∧ Below w.heap.size w w' := by
  have hb1 := (Below.refl w.heap.size w).alloc (Nat.le_refl _) (.cells (cfV c (.slice A L.length cap)) 25)
  have hs : w.heap.size ≤ (w.alloc (.cells (cfV c (.slice A L.length cap)) 25)).heap.size := by simp
  have C := refWrong_is c A cap L (w.alloc (.cells (cfV c (.slice A L.length cap)) 25)) ((h.below hb1).more hs) hl hl2
  have hm : mayN c L = if 0 ≤ (wrongS c L).2 then 17 else if (wrongS c L).1 ≠ ⟨#[]⟩ then 2 else 0 := rfl
  have he : (wrongS c L).1 = ⟨#[]⟩ → (wrongS c L).2 = -1 := wrongS_empty
  generalize wrongS c L = R at C hm he
  obtain ⟨s, r⟩ := R
  simp only at C hm he
  have HM := Lib.hid hm
  have HS := Lib.hid hs
  have HE := Lib.hid he
  clear h hl2 hm hs he
  unfold cfV at *
  by_cases h2 : s = ⟨#[]⟩
  · have hr := HE.out h2
    subst h2 hr
    go_enter Try.func14, Try.ntmps14
    go_wp2_with (go_at_call 12; refine C.mono ?_; rintro e w1 ⟨rfl, hb2⟩)
    go_ret
    exact ⟨by rw [HM.out, if_neg (by omega), if_neg (by simp)]; rfl, hb1.trans (hb2.mono HS.out)⟩
  · have hne : s.toList.isEmpty = false := by
      rw [ByteArray.toList_eq]
      cases hl : s.data.toList with
      | nil => exact absurd (show s = ⟨#[]⟩ from by cases s; simp at hl; rw [hl]) h2
      | cons _ _ => rfl
    have h2' := Lib.hid h2
    clear h2
    by_cases h1 : r < 0
    · go_enter Try.func14, Try.ntmps14
      go_wp2_with (go_at_call 12; refine C.mono ?_; rintro e w1 ⟨rfl, hb2⟩)
      go_ret
      exact ⟨by rw [HM.out, if_neg (by omega), if_pos h2'.out]; rfl, hb1.trans (hb2.mono HS.out)⟩
    · go_enter Try.func14, Try.ntmps14
      go_wp2_with (go_at_call 12; refine C.mono ?_; rintro e w1 ⟨rfl, hb2⟩)
      go_ret
      exact ⟨by rw [HM.out, if_pos (by omega)]; rfl, hb1.trans (hb2.mono HS.out)⟩
end Go.Proofs.Ytoigapnpmhogdaa
