/- The reference's lists of whole numbers: Find, Cut, Same, by walks. Condition: lists of at most 100000. -/
import Derived.Test.YtdfpbbkdlalpcaaGloMay
import Derived.Test.YtdfpbbkdlalpcaaGloPlain
import Derived.Deep.Upon
import Derived.Deep.RegionLaw
import Derived.LoopTactic
import Derived.LoopN
import Derived.IntWalk
namespace Go.Proofs.Ytdfpbbkdlalpcaa
open Go.RowKit
set_option linter.unusedVariables false
set_option linter.unusedSimpArgs false

theorem infoInt : (Try.prog.info? 3).map (fun i => (i.zero, i.size, i.bytes)) = some (some (.int .i64 0), 1, 8) := by kernel_rfl

set_option maxHeartbeats 400000 in
theorem find_hit (x : Int) (L : List Int) (A : Option Addr) (cap B i : Nat) (w : World) (hA : Ints w B A L) (hl : L.length ≤ 100000) (h : Hit (· == x) L i) :
    Calls Try.prog 23 #[.slice A L.length cap, .int .i64 x] w fun e w' => e = .returned (.int .i64 i) ∧ w = w' := by
  obtain ⟨hi, ht, hf⟩ := h
  have HF := Lib.hid hf
  clear hf
  go_enter Try.func23, Try.ntmps23
  go_wp2
  go_loop [5] (fun v => ∃ k : Nat, k ≤ i ∧ v = .int .i64 k) (fun v => i + 1 - (intOf v).toNat)
  case atStart => exact ⟨0, Nat.zero_le _, rfl⟩
  case round =>
    obtain ⟨k, hk, rfl⟩ := hrel
    obtain ⟨ad, rfl, _, hc⟩ := hA.at_ (show k < L.length by omega)
    clear hA
    have hkl : k < L.length := by omega
    by_cases hlt : k < i
    · have hx := HF.out k hlt
      clear ht
      generalize L[k] = y at *
      have hx' : (y == x) = false := hx
      clear hx
      go_wp2
      go_round
      case rel => exact ⟨k + 1, by omega, by go_num⟩
      case measure => simp [intOf]; omega
    · obtain rfl : k = i := by omega
      generalize L[k] = y at *
      have hx' : (y == x) = true := ht
      clear ht
      go_wp2
      go_ret
      exact ⟨rfl, rfl⟩

set_option maxHeartbeats 400000 in
theorem find_miss (x : Int) (L : List Int) (A : Option Addr) (cap B : Nat) (w : World) (hA : Ints w B A L) (hl : L.length ≤ 100000) (h : Miss (· == x) L) :
    Calls Try.prog 23 #[.slice A L.length cap, .int .i64 x] w fun e w' => e = .returned (.int .i64 (-1)) ∧ w = w' := by
  have HF := Lib.hid h
  clear h
  go_enter Try.func23, Try.ntmps23
  go_wp2
  go_loop [5] (fun v => ∃ k : Nat, k ≤ L.length ∧ v = .int .i64 k) (fun v => L.length - (intOf v).toNat)
  case atStart => exact ⟨0, Nat.zero_le _, rfl⟩
  case round =>
    obtain ⟨k, hk, rfl⟩ := hrel
    by_cases hlt : k < L.length
    · obtain ⟨ad, rfl, _, hc⟩ := hA.at_ hlt
      clear hA
      have hx := HF.out k hlt
      generalize L[k] = y at *
      have hx' : (y == x) = false := hx
      clear hx
      go_wp2
      go_round
      case rel => exact ⟨k + 1, by omega, by go_num⟩
      case measure => simp [intOf]; omega
    · clear hA
      go_wp2
      go_ret
      exact ⟨rfl, rfl⟩

set_option maxHeartbeats 1000000 in
theorem same_yes (L : List Int) (A A' : Option Addr) (cap cap' B B' : Nat) (w : World) (hA : Ints w B A L) (hA' : Ints w B' A' L) (hl : L.length ≤ 100000) :
    Calls Try.prog 14 #[.slice A L.length cap, .slice A' L.length cap'] w fun e w' => e = .returned (.bool true) ∧ ∃ n, w' = w.drewN n := by
  go_enter Try.func14, Try.ntmps14
  go_wp2
  go_loopw [5] (fun v wr => ∃ k n : Nat, k ≤ L.length ∧ v = .int .i64 k ∧ wr = w.drewN n) (fun v _ => L.length - (intOf v).toNat)
  case atStart => exact ⟨0, 0, Nat.zero_le _, rfl, rfl⟩
  case round =>
    obtain ⟨k, n, hk, rfl, rfl⟩ := hrel
    by_cases hlt : k < L.length
    · obtain ⟨ad, rfl, _, hc⟩ := hA.at_ hlt
      obtain ⟨ad', rfl, _, hc'⟩ := hA'.at_ hlt
      clear hA hA'
      have hi0 : (0 : Int) ≤ (k : Int) := by omega
      have hi1 : (k : Int) < (L.length : Int) := by omega
      generalize L[k] = y at *
      go_wp2
      go_quiet (fail)
      go_wp2
      go_roundw
      case rel => exact ⟨k + 1, _, by omega, by go_num, rfl⟩
      case measure => simp [intOf]; omega
    · clear hA hA'
      go_wp2
      go_ret
      exact ⟨rfl, n, rfl⟩

theorem erase_eq (L : List Int) (i : Nat) : L.take i ++ L.drop (i + 1) = L.eraseIdx i := (List.eraseIdx_eq_take_drop_succ ..).symm

theorem Ints.take {w : World} {B : Nat} {A : Option Addr} {L : List Int} (h : Ints w B A L) (i : Nat) (hi : i ≤ L.length) : Ints w B A (L.take i) := by
  refine ⟨by simp [intV], fun hn => ?_⟩
  have hl : (L.take i).length = i := by simp; omega
  obtain ⟨ad, e, hb, hc⟩ := h.2 (by omega)
  refine ⟨ad, e, hb, fun j u hu => hc j u ?_⟩
  rw [intV, List.map_take, List.getElem?_take] at hu
  split at hu
  · exact hu
  · cases hu

set_option maxRecDepth 100000 in
set_option maxHeartbeats 2000000 in
theorem cut_is (L : List Int) (ad : Addr) (cap B i : Nat) (w : World) (hA : Ints w B (some ad) L) (hB : B ≤ w.heap.size) (hl : L.length ≤ 100000) (hcap : L.length ≤ cap) (hcm : cap ≤ maxLen) (hi : i < L.length) :
    Calls Try.prog 29 #[.slice (some ad) L.length cap, .int .i64 i] w fun e w' => (∃ A' cap', e = .returned (.slice A' (L.eraseIdx i).length cap') ∧ w'.ownsRow w.heap.size 3 1 (.slice A' (L.eraseIdx i).length cap') (L.eraseIdx i).length (intV (L.eraseIdx i))) ∧ Below w.heap.size w w' := by
  obtain ⟨i0, hi0, hz0, hz1, hz2⟩ := info_parts infoInt
  have m1 := Lib.hid (show 0 + i ≤ maxLen from by unfold maxLen; omega)
  have m2 := Lib.hid (show (0 + i) * 8 ≤ 140737488355328 from by omega)
  have m3 := Lib.hid (show 0 + i + (L.length - (i + 1)) ≤ maxLen from by unfold maxLen; omega)
  have m4 := Lib.hid (show (0 + i + (L.length - (i + 1))) * 8 ≤ 140737488355328 from by omega)
  have e3 : (0 : Int) ≤ (i : Int) + 1 := by omega
  have hlen : (L.eraseIdx i).length = L.length - 1 := List.length_eraseIdx_of_lt hi
  have H1 : Reads w B 1 (some ad) i (intV (L.take i)) := by
    have := hA.take i (by omega)
    unfold Ints at this
    rwa [show (L.take i).length = i by simp; omega] at this
  have H2 : ∀ k, k = i + 1 → Reads w B 1 (if cap = k then some ad else some (ad.add k)) (L.length - k) (intV (L.drop k)) := by
    rintro k rfl
    have := Reads.cut (k := i + 1) hA (by omega) hcap
    simpa [intV, List.map_drop] using this
  have HR1 := Lib.hid H1
  have hV : intV (L.take i) ++ intV (L.drop (i + 1)) = intV (L.eraseIdx i) := by rw [← intV_app, erase_eq]
  have HV := Lib.hid hV
  have HL := Lib.hid hlen
  have hone1 := Lib.hid (intV_one (L.take i))
  have hone2 := Lib.hid (intV_one (L.drop (i + 1)))
  have hc0 : (i : Int) ≤ (i : Int) + 1 := by omega
  have hc1 : (i : Int) ≤ (cap : Int) := by omega
  have hc2 : (i : Int) + 1 ≤ (cap : Int) := by omega
  have hc3 : (i : Int) + 1 ≤ (L.length : Int) := by omega
  have H2' := H2 _ rfl
  unfold maxLen at hcm
  have E1 := Lib.hid (IntWalk.i64_in ((i : Int) + 1) (by omega))
  have e2 : ((i : Int) + 1).toNat = i + 1 := by omega
  by_cases hk : cap = i + 1
  all_goals
    have e1 := E1.out
    first | (rw [if_pos hk, show L.length - (i + 1) = 0 by omega] at H2'; subst hk; rw [show L.length - (i + 1) = 0 by omega] at m3 m4) | rw [if_neg hk] at H2'
    have HR2 := Lib.hid H2'
    clear H1 H2 H2' hV hlen
    go_enter Try.func29, Try.ntmps29
    have hB' : B ≤ w.drew.heap.size := hB
    go_wp2_with fail
    go_region_law (first | (refine step_append_any _ rfl (.const (.slice none 0 0)) (.tmp 7) 28 rfl w.heap.size 3 i0 (.int .i64 0) 1 8 Try.underlying28 hi0 hz0 hz1 hz2 rfl (by decide) (.slice none 0 0) 0 [] rfl (World.ownsRow_nil _ _ _ _) B (some ad) i _ (intV (L.take i)) rfl HR1.out hone1.out m1.out m2.out (Nat.le_refl _) ?_; intro v1 w1 hown1 hg1 hat1) | (refine step_append_any _ rfl (.tmp 8) (.tmp 12) 28 rfl w.heap.size 3 i0 (.int .i64 0) 1 8 Try.underlying28 hi0 hz0 hz1 hz2 rfl (by decide) v1 (0 + i) ([] ++ intV (L.take i)) rfl hown1 B _ _ _ (intV (L.drop (i + 1))) rfl (HR2.out.drew.grown hg1 hB' (fun g e => by cases e)) hone2.out m3.out m4.out hg1.size ?_; intro v2 w2 hown2 hg2 hat2))
    all_goals
      clear e1
      have hb1 : Below w.heap.size w w1 := ((Below.refl _ w).drew).grown hg1 (Nat.le_refl _) (fun k e => by cases e)
      have hb2 : Below w.heap.size w w2 := hb1.grown hg2 hb1.size (fun k e => (hown1.lt k e).1)
      have hln : 0 + i + (L.length - (i + 1)) = (L.eraseIdx i).length := by rw [HL.out]; omega
      first | rw [hln] at hown2 | rw [show 0 + i + 0 = (L.eraseIdx i).length by rw [HL.out]; omega] at hown2
      rw [List.nil_append, HV.out] at hown2
      obtain ⟨A2, c2, rfl⟩ := own_slice hown2
      clear hat1 hat2 hln hg1 hg2 hown1 e2
      go_wp2
      go_ret
      exact ⟨⟨_, _, rfl, hown2⟩, hb2⟩
end Go.Proofs.Ytdfpbbkdlalpcaa
