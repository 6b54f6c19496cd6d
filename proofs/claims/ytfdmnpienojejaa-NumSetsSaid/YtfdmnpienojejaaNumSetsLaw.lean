/- The walk of the law NumSets: it returns true. Conditions: a set is from 0 to 255; the two integers fit their kind. -/
import Derived.Test.YtfdmnpienojejaaNumOf
import Derived.Test.YtfdmnpienojejaaAppendG
namespace Go.Proofs.Ytfdmnpienojejaa
open Go.RowKit
set_option linter.unusedVariables false

def allI (s : Nat) : List Int := (allN s).map fun (k : Nat) => (k : Int)
theorem natV_allI (s : Nat) : natV (allN s) = (allI s).map (Value.int .i64) := by simp [natV, allI]
theorem allI_len (s : Nat) : (allI s).length = (allN s).length := by simp [allI]
theorem mem_allI (s j : Nat) (hj : j < 8) : (j : Int) ∈ allI s ↔ s.testBit j = true := by
  unfold allI
  rw [List.mem_map]
  constructor
  · rintro ⟨k, hk, e⟩
    have : k = j := by omega
    subst this
    exact (List.mem_filter.1 hk).2
  · intro h
    exact ⟨j, List.mem_filter.2 ⟨List.mem_range.2 hj, h⟩, rfl⟩
theorem bitN_bit (p : Int) (j : Nat) (hj : j < 8) : (bitN p).testBit j = decide (p = j) := by
  by_cases hp : 0 ≤ p ∧ p ≤ 7
  · obtain ⟨k, rfl⟩ := Int.eq_ofNat_of_zero_le hp.1
    have hk : k < 8 := by omega
    have h : ∀ k : Fin 8, ∀ j : Fin 8, (bitN (k.val : Int)).testBit j.val = decide ((k.val : Int) = (j.val : Int)) := by decide +kernel
    exact h ⟨k, hk⟩ ⟨j, hj⟩
  · have e : bitN p = 0 := by unfold bitN; rw [if_neg hp]
    rw [e, Nat.zero_testBit, decide_eq_false (by omega)]
theorem nbitN_bit (p : Int) (j : Nat) (hj : j < 8) : (255 - bitN p).testBit j = !decide (p = j) := by
  have h : ∀ b : Fin 256, ∀ j : Fin 8, (255 - b.val).testBit j.val = !(b.val.testBit j.val) := by decide +kernel
  rw [← bitN_bit p j hj]
  exact h ⟨bitN p, bitN_lt p⟩ ⟨j, hj⟩
theorem with_of (s : Nat) (p : Int) (hs : s < 256) : s ||| bitN p = ofN (allI s ++ [p]) := by
  refine eq_of_bits _ _ ?_ (ofN_lt _) fun j hj => ?_
  · have := bitN_lt p
    exact Nat.or_lt_two_pow (n := 8) hs this
  · rw [Nat.testBit_or, bitN_bit p j hj, ofN_bit _ j hj]
    have hm := mem_allI s j hj
    by_cases h2 : p = (j : Int)
    · subst h2; simp
    · have h3 : ¬ (j : Int) = p := fun e => h2 e.symm
      cases h1 : s.testBit j <;> simp [h2, h3, hm, h1]
theorem without_of (s : Nat) (p : Int) (hs : s < 256) : s &&& (255 - bitN p) = ofN ((allI s).filter fun z => !decide (z = p)) := by
  refine eq_of_bits _ _ ?_ (ofN_lt _) fun j hj => ?_
  · exact Nat.lt_of_le_of_lt Nat.and_le_left hs
  · rw [Nat.testBit_and, nbitN_bit p j hj, ofN_bit _ j hj]
    have hm := mem_allI s j hj
    by_cases h2 : p = (j : Int)
    · subst h2; simp
    · have h3 : ¬ (j : Int) = p := fun e => h2 e.symm
      cases h1 : s.testBit j <;> simp [h2, h3, hm, h1]
def firstI (m : Nat) : List Int := (List.range m).map fun (k : Nat) => (k : Int)
theorem first_of (m : Nat) (hm : m ≤ 8) : 2 ^ m - 1 = ofN (firstI m) := by
  have h : ∀ m : Fin 9, 2 ^ m.val - 1 = ofN (firstI m.val) := by decide +kernel
  exact h ⟨m, by omega⟩
theorem firstI_succ (m : Nat) : firstI (m + 1) = firstI m ++ [(m : Int)] := by unfold firstI; rw [List.range_succ, List.map_append]; rfl
theorem firstI_len (m : Nat) : (firstI m).length = m := by simp [firstI]
theorem maskM_le (ps : Int) : maskM ps ≤ 8 := by unfold maskM; split <;> (try split) <;> omega
theorem maskM_lt (ps : Int) (k : Nat) : k < maskM ps ↔ ((k : Int) < ps ∧ k < 8) := by unfold maskM; split <;> (try split) <;> omega
def wo (L : List Int) (p : Int) (k : Nat) : List Int := (L.take k).filter fun z => !decide (z = p)
theorem wo_len (L : List Int) (p : Int) (k : Nat) (h : L.length ≤ 8) : (wo L p k).length ≤ 8 := by
  have h1 := List.length_filter_le (fun z => !decide (z = p)) (L.take k)
  have h2 : (L.take k).length ≤ L.length := by rw [List.length_take]; omega
  unfold wo
  omega
theorem wo_yes (L : List Int) (p : Int) (k : Nat) (hk : k < L.length) (h : L[k] ≠ p) : wo L p (k + 1) = wo L p k ++ [L[k]] := by
  unfold wo
  rw [List.take_succ_eq_append_getElem hk, List.filter_append]
  simp [h]
theorem wo_no (L : List Int) (p : Int) (k : Nat) (hk : k < L.length) (h : L[k] = p) : wo L p (k + 1) = wo L p k := by
  unfold wo
  rw [List.take_succ_eq_append_getElem hk, List.filter_append]
  simp [h]

set_option maxRecDepth 100000 in
set_option maxHeartbeats 2000000 in
theorem numSets_walk (s : Nat) (p ps : Int) (hs : s < 256) (hp1 : -9223372036854775808 ≤ ps) (hp2 : ps ≤ 9223372036854775807) (w : World) :
    Calls Try.prog 4 #[.int .u8 s, .int .i64 p, .int .i64 ps] w fun e w' => e = .returned (.bool true) ∧ Below w.heap.size w w' := by
  obtain ⟨i0, hi, hz0, hz1, hz2⟩ := info_parts Try.info3
  go_enter Try.func4, Try.ntmps4
  go_wp2_with fail
  refine (refAll_any s _ hs).mono ?_
  rintro e w1 ⟨⟨v, rfl, hown⟩, hb1⟩
  rw [natV_allI, ← allI_len] at hown
  have hlen8 : (allI s).length ≤ 8 := by rw [allI_len]; exact allN_len s
  have hcount := count_any s
  rw [← allI_len] at hcount
  have HCN := Lib.hid hcount
  clear hcount
  have hw1 := hb1.size
  have HWO := Lib.hid (without_of s p hs)
  have HWI := Lib.hid (with_of s p hs)
  rw [show (allI s).filter (fun z => !decide (z = p)) = wo (allI s) p (allI s).length from by unfold wo; rw [List.take_length]] at HWO
  have hown0 := hown
  obtain ⟨_, ⟨rfl, h0⟩ | ⟨g, cap, cur, rfl, hg, hh, hnc, hcap, hsz, htake⟩⟩ := hown0
  · have hnil : allI s = [] := List.length_eq_zero_iff.1 h0
    rw [hnil] at HWO HWI HCN
    have HWO' : Hid (s &&& (255 - bitN p) = 0) := HWO.out
    clear hown h0 hnil hlen8
    go_wp2_with fail
    go_loopw [8, 10] (fun v i wr => v = .slice none 0 0 ∧ i = .int .i64 0 ∧ w1 = wr) (fun _ i _ => 0)
    case atStart => exact ⟨rfl, rfl, rfl⟩
    case round =>
      obtain ⟨rfl, rfl, rfl⟩ := hrel
      go_wp2_with fail
      obtain ⟨w3, rfl⟩ : ∃ w3 : World, w3 = w1 := ⟨_, rfl⟩
      go_loopw [9, 11] (fun v i wr => ∃ k : Nat, k ≤ maskM ps ∧ i = .int .i64 k ∧ wr.ownsRow w3.heap.size 3 1 v (firstI k).length ((firstI k).map (Value.int .i64)) ∧ Below w3.heap.size w3 wr) (fun _ i _ => 8 - (intOf i).toNat)
      case atStart => exact ⟨0, by omega, rfl, World.ownsRow_nil _ _ _ _, Below.refl _ _⟩
      case round =>
        obtain ⟨k, hk, rfl, hfi, hb3⟩ := hrel
        have hm8 := maskM_le ps
        have hmlt := maskM_lt ps k
        have hfl := firstI_len k
        by_cases hlt : k < maskM ps
        · obtain ⟨q1, q2⟩ := hmlt.1 hlt
          have q3 : (k : Int) < 8 := by omega
          have hup := Lib.hid (firstI_succ k)
          have HFL := Lib.hid hfl
          have hfl8 : (firstI k).length ≤ 8 := by omega
          clear hmlt hfl
          go_wp2_with (at_builtin; refine wpList_append_own _ rfl _ _ 24 rfl w3.heap.size 3 i0 (.int .i64 0) 1 8 Try.underlying24 hi hz0 hz1 hz2 rfl (by decide) _ _ _ rfl (hfi.alloc _) ⟨wr.heap.size, 0, none⟩ 1 1 [.int .i64 k] rfl rfl (cell_one_new _ _ _) (by simp [Value.oneCell']) (by unfold maxLen; omega) (by omega) (by have := hb3.size; simp; omega) ?_; intro v' w2 hown' hgrow _)
          go_roundw
          case rel => exact ⟨k + 1, by omega, by go_num, by rw [hup.out]; simpa using hown', (hb3.alloc hb3.size _).grown hgrow (by have := hb3.size; simp; omega) (fun j hj => (hfi.lt j hj).1)⟩
          case measure => simp [intOf]; omega
        · have hke : k = maskM ps := by omega
          have hno : ¬ ((k : Int) < ps ∧ k < 8) := fun h => hlt (hmlt.2 h)
          clear hmlt
          have hmask := mask_any ps
          rw [← hke, first_of k (by omega)] at hmask
          have HMASK := Lib.hid hmask
          have hk8 : k ≤ 8 := by omega
          clear hmask hke hlt hk hm8
          have B3 := hb1.trans (hb3.mono hb1.size)
          generalize hF : firstI k = FL at *
          have hFl : FL.length ≤ 8 := by omega
          rcases (show (ps ≤ k) ∨ ((k : Int) < ps ∧ 8 ≤ (k : Int)) from by omega) with hx | ⟨hx, hx2⟩
          · go_wp2_with fail
            refine (has_any s p _ hs).mono ?_
            rintro e w' ⟨rfl, rfl⟩
            go_wp2_with fail
            refine (refHas_any s p _ hs).mono ?_
            rintro e w' ⟨rfl, rfl⟩
            go_wp2_with fail
            refine (with_any s p _ hs).mono ?_
            rintro e w' ⟨rfl, rfl⟩
            rw [HWI.out]
            go_wp2_with (first | (at_builtin; refine wpList_append_none_g rfl (Operand.const (Value.slice none 0 0)) (Operand.tmp 57) 24 rfl wr.heap.size 3 i0 1 Try.underlying24 hi _ _ _ rfl (World.ownsRow_nil _ _ _ _) rfl ?_) | (at_builtin; refine wpList_append_own_g _ rfl (Operand.tmp 58) (Operand.tmp 60) 24 rfl wr.heap.size 3 i0 (.int .i64 0) 1 8 Try.underlying24 hi hz0 hz1 hz2 rfl (by decide) _ _ _ rfl ((World.ownsRow_nil _ _ _ _)) ⟨wr.heap.size, 0, none⟩ 1 1 [.int .i64 p] rfl rfl (cell_one_new _ _ _) (by simp [Value.oneCell']) (by unfold maxLen; omega) (by omega) (by simp) ?_; intro v6 w6 hown6 hgrow6 _; simp only [Nat.zero_add, List.nil_append] at hown6))
            have B6 : Below wr.heap.size wr w6 := ((Below.refl _ wr).alloc (Nat.le_refl _) _).grown hgrow6 (by simp) (fun j hj => by cases hj)
            have hof := refOf_any ([] ++ [p]) v6 _ w6 (by simp) (by simpa using hown6)
            have hof2 := refOf_nil w6
            have hof3 := refOf_any FL u9 _ w6 (by omega) (below_own hfi B6)
            have O1 := Lib.hid hof
            have O2 := Lib.hid hof2
            have O3 := Lib.hid hof3
            clear hof hof2 hof3 hown6 hgrow6 hfi
            refine O1.out.mono ?_
            rintro e w' ⟨rfl, rfl⟩
            go_wp2_with fail
            refine (without_any s p _ hs).mono ?_
            rintro e w' ⟨rfl, rfl⟩
            rw [HWO'.out]
            go_wp2_with fail
            refine O2.out.mono ?_
            rintro e w' ⟨rfl, rfl⟩
            go_wp2_with fail
            refine (HCN.out _ hs).mono ?_
            rintro e w' ⟨rfl, rfl⟩
            go_wp2_with fail
            refine (HMASK.out _).mono ?_
            rintro e w' ⟨rfl, rfl⟩
            go_wp2_with fail
            refine O3.out.mono ?_
            rintro e w' ⟨rfl, rfl⟩
            go_wp2_with fail
            refine (known_any _).mono ?_
            rintro e w7 ⟨rfl, hb7⟩
            go_wp2_with fail
            go_ret
            exact ⟨rfl, (B3.trans (B6.mono B3.size)).trans (hb7.mono (by have := B3.size; have := B6.size; omega))⟩
          · go_wp2_with fail
            refine (has_any s p _ hs).mono ?_
            rintro e w' ⟨rfl, rfl⟩
            go_wp2_with fail
            refine (refHas_any s p _ hs).mono ?_
            rintro e w' ⟨rfl, rfl⟩
            go_wp2_with fail
            refine (with_any s p _ hs).mono ?_
            rintro e w' ⟨rfl, rfl⟩
            rw [HWI.out]
            go_wp2_with (first | (at_builtin; refine wpList_append_none_g rfl (Operand.const (Value.slice none 0 0)) (Operand.tmp 57) 24 rfl wr.heap.size 3 i0 1 Try.underlying24 hi _ _ _ rfl (World.ownsRow_nil _ _ _ _) rfl ?_) | (at_builtin; refine wpList_append_own_g _ rfl (Operand.tmp 58) (Operand.tmp 60) 24 rfl wr.heap.size 3 i0 (.int .i64 0) 1 8 Try.underlying24 hi hz0 hz1 hz2 rfl (by decide) _ _ _ rfl ((World.ownsRow_nil _ _ _ _)) ⟨wr.heap.size, 0, none⟩ 1 1 [.int .i64 p] rfl rfl (cell_one_new _ _ _) (by simp [Value.oneCell']) (by unfold maxLen; omega) (by omega) (by simp) ?_; intro v6 w6 hown6 hgrow6 _; simp only [Nat.zero_add, List.nil_append] at hown6))
            have B6 : Below wr.heap.size wr w6 := ((Below.refl _ wr).alloc (Nat.le_refl _) _).grown hgrow6 (by simp) (fun j hj => by cases hj)
            have hof := refOf_any ([] ++ [p]) v6 _ w6 (by simp) (by simpa using hown6)
            have hof2 := refOf_nil w6
            have hof3 := refOf_any FL u9 _ w6 (by omega) (below_own hfi B6)
            have O1 := Lib.hid hof
            have O2 := Lib.hid hof2
            have O3 := Lib.hid hof3
            clear hof hof2 hof3 hown6 hgrow6 hfi
            refine O1.out.mono ?_
            rintro e w' ⟨rfl, rfl⟩
            go_wp2_with fail
            refine (without_any s p _ hs).mono ?_
            rintro e w' ⟨rfl, rfl⟩
            rw [HWO'.out]
            go_wp2_with fail
            refine O2.out.mono ?_
            rintro e w' ⟨rfl, rfl⟩
            go_wp2_with fail
            refine (HCN.out _ hs).mono ?_
            rintro e w' ⟨rfl, rfl⟩
            go_wp2_with fail
            refine (HMASK.out _).mono ?_
            rintro e w' ⟨rfl, rfl⟩
            go_wp2_with fail
            refine O3.out.mono ?_
            rintro e w' ⟨rfl, rfl⟩
            go_wp2_with fail
            refine (known_any _).mono ?_
            rintro e w7 ⟨rfl, hb7⟩
            go_wp2_with fail
            go_ret
            exact ⟨rfl, (B3.trans (B6.mono B3.size)).trans (hb7.mono (by have := B3.size; have := B6.size; omega))⟩
  · have hcell : ∀ j (h : j < (allI s).length), w1.cell? ⟨g, j, none⟩ = some (.int .i64 ((allI s)[j]'h)) := fun j h => by rw [hown.cellAt j (by omega)]; simp [h]
    have hglt : g < w1.heap.size := (Array.getElem?_eq_some_iff.1 hh).1
    have HCELL := Lib.hid hcell
    clear htake hsz hcell hh
    generalize hL : allI s = L at *
    have HL := Lib.hid hL
    clear hL
    go_wp2_with fail
    go_loopw [8, 10] (fun v i wr => ∃ k : Nat, k ≤ L.length ∧ i = .int .i64 k ∧ wr.ownsRow w1.heap.size 3 1 v (wo L p k).length ((wo L p k).map (Value.int .i64)) ∧ Below w1.heap.size w1 wr) (fun _ i _ => L.length - (intOf i).toNat)
    case atStart => exact ⟨0, by omega, rfl, World.ownsRow_nil _ _ _ _, Below.refl _ _⟩
    case round =>
      obtain ⟨k, hk, rfl, how, hb⟩ := hrel
      have hwl := wo_len L p k hlen8
      by_cases hlt : k < L.length
      · have hck : wr.cell? ⟨g, k, none⟩ = some (.int .i64 (L[k]'hlt)) := (hb.cell (p := ⟨g, k, none⟩) hglt).trans (HCELL.out k hlt)
        by_cases he : L[k] = p
        · have hne : ((L[k] : Int) != p) = false := by simp [he]
          have hup := Lib.hid (wo_no L p k hlt he)
          clear he
          go_wp2_with fail
          go_roundw
          case rel => exact ⟨k + 1, by omega, by go_num, by rw [hup.out]; exact how, hb⟩
          case measure => simp [intOf]; omega
        · have hne : ((L[k] : Int) != p) = true := by simp [he]
          have hup := Lib.hid (wo_yes L p k hlt he)
          clear he
          go_wp2_with (at_builtin; refine wpList_append_own _ rfl _ _ 24 rfl w1.heap.size 3 i0 (.int .i64 0) 1 8 Try.underlying24 hi hz0 hz1 hz2 rfl (by decide) _ _ _ rfl (how.alloc _) ⟨wr.heap.size, 0, none⟩ 1 1 [.int .i64 (L[k]'hlt)] rfl rfl (cell_one_new _ _ _) (by simp [Value.oneCell']) (by unfold maxLen; omega) (by omega) (by have := hb.size; simp; omega) ?_; intro v' w2 hown' hgrow _)
          go_roundw
          case rel => exact ⟨k + 1, by omega, by go_num, by rw [hup.out]; simpa using hown', (hb.alloc hb.size _).grown hgrow (by have := hb.size; simp; omega) (fun j hj => (how.lt j hj).1)⟩
          case measure => simp [intOf]; omega
      · have h8 : k = L.length := by omega
        subst h8
        go_wp2_with fail
        generalize hv8 : wo L p L.length = WL at *
        obtain ⟨w3, rfl⟩ : ∃ w3 : World, w3 = wr := ⟨_, rfl⟩
        have how0 := how
        have hbl := hb.size
        go_loopw [9, 11] (fun v i wr => ∃ k : Nat, k ≤ maskM ps ∧ i = .int .i64 k ∧ wr.ownsRow w3.heap.size 3 1 v (firstI k).length ((firstI k).map (Value.int .i64)) ∧ Below w3.heap.size w3 wr) (fun _ i _ => 8 - (intOf i).toNat)
        case atStart => exact ⟨0, by omega, rfl, World.ownsRow_nil _ _ _ _, Below.refl _ _⟩
        case round =>
          obtain ⟨k, hk, rfl, hfi, hb3⟩ := hrel
          have hm8 := maskM_le ps
          have hmlt := maskM_lt ps k
          have hfl := firstI_len k
          by_cases hlt : k < maskM ps
          · obtain ⟨q1, q2⟩ := hmlt.1 hlt
            have q3 : (k : Int) < 8 := by omega
            have hup := Lib.hid (firstI_succ k)
            have HFL := Lib.hid hfl
            have hfl8 : (firstI k).length ≤ 8 := by omega
            clear hmlt hfl
            go_wp2_with (at_builtin; refine wpList_append_own _ rfl _ _ 24 rfl w3.heap.size 3 i0 (.int .i64 0) 1 8 Try.underlying24 hi hz0 hz1 hz2 rfl (by decide) _ _ _ rfl (hfi.alloc _) ⟨wr.heap.size, 0, none⟩ 1 1 [.int .i64 k] rfl rfl (cell_one_new _ _ _) (by simp [Value.oneCell']) (by unfold maxLen; omega) (by omega) (by have := hb3.size; simp; omega) ?_; intro v' w2 hown' hgrow _)
            go_roundw
            case rel => exact ⟨k + 1, by omega, by go_num, by rw [hup.out]; simpa using hown', (hb3.alloc hb3.size _).grown hgrow (by have := hb3.size; simp; omega) (fun j hj => (hfi.lt j hj).1)⟩
            case measure => simp [intOf]; omega
          · have hke : k = maskM ps := by omega
            have hno : ¬ ((k : Int) < ps ∧ k < 8) := fun h => hlt (hmlt.2 h)
            clear hmlt
            have hmask := mask_any ps
            rw [← hke, first_of k (by omega)] at hmask
            have HMASK := Lib.hid hmask
            have hk8 : k ≤ 8 := by omega
            clear hmask hke hlt hk hm8
            have B3 := hb1.trans (((hb.trans (hb3.mono hb.size)).mono hb1.size))
            have hw4 := how0
            have hWo : wr.ownsRow w1.heap.size 3 1 u8 WL.length (WL.map (Value.int .i64)) := below_own how0 hb3
            generalize hF : firstI k = FL at *
            have hFl : FL.length ≤ 8 := by omega
            have HCW : Hid (∀ j u, (L.map (Value.int .i64))[j]? = some u → wr.cell? ((⟨g, 0, none⟩ : Addr).add j) = some u) := by
              intro j u hj
              have hjl : j < L.length := by
                rcases Nat.lt_or_ge j L.length with h | h
                · exact h
                · simp [List.getElem?_eq_none (show (L.map (Value.int .i64)).length ≤ j by simpa using h)] at hj
              rw [show (⟨g, 0, none⟩ : Addr).add j = ⟨g, j, none⟩ from by simp only [Addr.add]; split <;> simp_all, hb3.cell (p := ⟨g, j, none⟩) (by show g < w3.heap.size; omega), hb.cell (p := ⟨g, j, none⟩) hglt, HCELL.out j hjl]
              simpa [hjl] using hj
            rcases (show (ps ≤ k) ∨ ((k : Int) < ps ∧ 8 ≤ (k : Int)) from by omega) with hx | ⟨hx, hx2⟩
            · go_wp2_with fail
              refine (has_any s p _ hs).mono ?_
              rintro e w' ⟨rfl, rfl⟩
              go_wp2_with fail
              refine (refHas_any s p _ hs).mono ?_
              rintro e w' ⟨rfl, rfl⟩
              go_wp2_with fail
              refine (with_any s p _ hs).mono ?_
              rintro e w' ⟨rfl, rfl⟩
              rw [HWI.out]
              go_wp2_with (first | (at_builtin; refine wpList_append_own_g _ rfl (Operand.const (Value.slice none 0 0)) (Operand.tmp 57) 24 rfl wr.heap.size 3 i0 (.int .i64 0) 1 8 Try.underlying24 hi hz0 hz1 hz2 rfl (by decide) _ _ _ rfl (World.ownsRow_nil _ _ _ _) ⟨g, 0, none⟩ L.length cap (L.map (Value.int .i64)) rfl (by simp) HCW.out (ints_oneCell _ _) (by unfold maxLen; omega) (by omega) (Nat.le_refl _) ?_; intro v5 w5 hown5 hgrow5 _; simp only [Nat.zero_add, List.nil_append] at hown5; have hs5 := hgrow5.size) | (at_builtin; refine wpList_append_own_g _ rfl (Operand.tmp 58) (Operand.tmp 60) 24 rfl wr.heap.size 3 i0 (.int .i64 0) 1 8 Try.underlying24 hi hz0 hz1 hz2 rfl (by decide) _ _ _ rfl (hown5.alloc _) ⟨w5.heap.size, 0, none⟩ 1 1 [.int .i64 p] rfl rfl (cell_one_new _ _ _) (by simp [Value.oneCell']) (by unfold maxLen; omega) (by omega) (by simp; omega) ?_; intro v6 w6 hown6 hgrow6 _))
              have B5 : Below wr.heap.size wr w5 := (Below.refl _ wr).grown hgrow5 (Nat.le_refl _) (fun j hj => by cases hj)
              have B6 : Below wr.heap.size wr w6 := (B5.alloc B5.size _).grown hgrow6 (by simp; omega) (fun j hj => (hown5.lt j hj).1)
              have hof := refOf_any (L ++ [p]) v6 _ w6 (by simp; omega) (by simpa using hown6)
              have hof2 := refOf_any WL u8 _ w6 (by omega) (below_own hWo B6)
              have hof3 := refOf_any FL u9 _ w6 (by omega) (below_own hfi B6)
              have O1 := Lib.hid hof
              have O2 := Lib.hid hof2
              have O3 := Lib.hid hof3
              clear hof hof2 hof3 hown6 hgrow6 hown5 hgrow5 hWo hfi how how0 hw4
              refine O1.out.mono ?_
              rintro e w' ⟨rfl, rfl⟩
              go_wp2_with fail
              refine (without_any s p _ hs).mono ?_
              rintro e w' ⟨rfl, rfl⟩
              rw [HWO.out]
              go_wp2_with fail
              refine O2.out.mono ?_
              rintro e w' ⟨rfl, rfl⟩
              go_wp2_with fail
              refine (HCN.out _ hs).mono ?_
              rintro e w' ⟨rfl, rfl⟩
              go_wp2_with fail
              refine (HMASK.out _).mono ?_
              rintro e w' ⟨rfl, rfl⟩
              go_wp2_with fail
              refine O3.out.mono ?_
              rintro e w' ⟨rfl, rfl⟩
              go_wp2_with fail
              refine (known_any _).mono ?_
              rintro e w7 ⟨rfl, hb7⟩
              go_wp2_with fail
              go_ret
              exact ⟨rfl, (B3.trans (B6.mono B3.size)).trans (hb7.mono (by have := B3.size; have := B6.size; omega))⟩
            · go_wp2_with fail
              refine (has_any s p _ hs).mono ?_
              rintro e w' ⟨rfl, rfl⟩
              go_wp2_with fail
              refine (refHas_any s p _ hs).mono ?_
              rintro e w' ⟨rfl, rfl⟩
              go_wp2_with fail
              refine (with_any s p _ hs).mono ?_
              rintro e w' ⟨rfl, rfl⟩
              rw [HWI.out]
              go_wp2_with (first | (at_builtin; refine wpList_append_own_g _ rfl (Operand.const (Value.slice none 0 0)) (Operand.tmp 57) 24 rfl wr.heap.size 3 i0 (.int .i64 0) 1 8 Try.underlying24 hi hz0 hz1 hz2 rfl (by decide) _ _ _ rfl (World.ownsRow_nil _ _ _ _) ⟨g, 0, none⟩ L.length cap (L.map (Value.int .i64)) rfl (by simp) HCW.out (ints_oneCell _ _) (by unfold maxLen; omega) (by omega) (Nat.le_refl _) ?_; intro v5 w5 hown5 hgrow5 _; simp only [Nat.zero_add, List.nil_append] at hown5; have hs5 := hgrow5.size) | (at_builtin; refine wpList_append_own_g _ rfl (Operand.tmp 58) (Operand.tmp 60) 24 rfl wr.heap.size 3 i0 (.int .i64 0) 1 8 Try.underlying24 hi hz0 hz1 hz2 rfl (by decide) _ _ _ rfl (hown5.alloc _) ⟨w5.heap.size, 0, none⟩ 1 1 [.int .i64 p] rfl rfl (cell_one_new _ _ _) (by simp [Value.oneCell']) (by unfold maxLen; omega) (by omega) (by simp; omega) ?_; intro v6 w6 hown6 hgrow6 _))
              have B5 : Below wr.heap.size wr w5 := (Below.refl _ wr).grown hgrow5 (Nat.le_refl _) (fun j hj => by cases hj)
              have B6 : Below wr.heap.size wr w6 := (B5.alloc B5.size _).grown hgrow6 (by simp; omega) (fun j hj => (hown5.lt j hj).1)
              have hof := refOf_any (L ++ [p]) v6 _ w6 (by simp; omega) (by simpa using hown6)
              have hof2 := refOf_any WL u8 _ w6 (by omega) (below_own hWo B6)
              have hof3 := refOf_any FL u9 _ w6 (by omega) (below_own hfi B6)
              have O1 := Lib.hid hof
              have O2 := Lib.hid hof2
              have O3 := Lib.hid hof3
              clear hof hof2 hof3 hown6 hgrow6 hown5 hgrow5 hWo hfi how how0 hw4
              refine O1.out.mono ?_
              rintro e w' ⟨rfl, rfl⟩
              go_wp2_with fail
              refine (without_any s p _ hs).mono ?_
              rintro e w' ⟨rfl, rfl⟩
              rw [HWO.out]
              go_wp2_with fail
              refine O2.out.mono ?_
              rintro e w' ⟨rfl, rfl⟩
              go_wp2_with fail
              refine (HCN.out _ hs).mono ?_
              rintro e w' ⟨rfl, rfl⟩
              go_wp2_with fail
              refine (HMASK.out _).mono ?_
              rintro e w' ⟨rfl, rfl⟩
              go_wp2_with fail
              refine O3.out.mono ?_
              rintro e w' ⟨rfl, rfl⟩
              go_wp2_with fail
              refine (known_any _).mono ?_
              rintro e w7 ⟨rfl, hb7⟩
              go_wp2_with fail
              go_ret
              exact ⟨rfl, (B3.trans (B6.mono B3.size)).trans (hb7.mono (by have := B3.size; have := B6.size; omega))⟩
end Go.Proofs.Ytfdmnpienojejaa
