/- TreeDeep, by a walk: true at each size. -/
import Derived.Test.YtoihldagpnkfoaaTreeKnown
namespace Go.Proofs.Ytoihldagpnkfoaa
open Go.RowKit
set_option linter.unusedVariables false
set_option linter.unusedSimpArgs false

theorem chain_has (n k : Nat) (j : Nat) : (chain n k).has (j : Int) = decide (j < k) := by simp [Fo.has, chain]
theorem deep_flat (m : Nat) : Flat (chain (m + 1) (m + 1)) ((chain (m + 1) (m + 1)).kids ((0 : Nat) : Int)) (List.range' 1 m) := chain_flat (m + 1) (m + 1) m 0 (by omega)
theorem deep_last (m : Nat) (hm : 1 ≤ m) : (List.range' 1 m).getLast? = some m := by
  obtain ⟨q, rfl⟩ : ∃ q, m = q + 1 := ⟨m - 1, by omega⟩
  rw [List.range'_concat]
  simp
  omega
theorem deep_under (m : Nat) (hm : 1 ≤ m) : (chain (m + 1) (m + 1)).under (m : Int) 0 := by
  refine ⟨by rw [chain_has]; simp, by rw [show (0 : Int) = ((0 : Nat) : Int) from rfl, chain_has]; simp, ?_⟩
  have := (desc_mem (wf_chain (m + 1) (m + 1) (Nat.le_refl _)) (deep_flat m) m).1 (by rw [List.mem_range']; exact ⟨m - 1, by omega, by omega⟩)
  simpa using this
theorem deep_not (m : Nat) : ¬ (chain (m + 1) (m + 1)).under 0 (m : Int) := by
  rintro ⟨_, _, h⟩
  simp only [Int.toNat_natCast, Int.toNat_zero] at h
  have hp : (chain (m + 1) (m + 1)).par 0 = -1 := by simp [chain]
  cases h with
  | kid h1 h2 => rw [hp] at h2; omega
  | up h1 h2 _ => rw [hp] at h2; omega
theorem do_lies' {w : World} {B : Nat} {A : Option Addr} {cap : Nat} {K : List Nat} (h : w.ownsRow B 3 1 (.slice A K.length cap) K.length (intV (nats K))) : Lies w A K := by
  unfold Lies Ints
  rw [nats_len]
  exact Reads.of_own h
theorem deep_desc {W w : World} {f lb : Nat} {v : Value} {m : Nat} (h : Kn W w f lb v (chain (m + 1) (m + 1))) :
    Calls Try.prog 12 #[.pointer (some ⟨f, 0, none⟩), .int .i64 0] w fun e w' => (∃ A cap, e = .returned (.slice A m cap) ∧ Lies w' A (List.range' 1 m)) ∧ Kn W w' f lb v (chain (m + 1) (m + 1)) := by
  have := prg_desc h.prg 0 (by simp [chain]) (deep_flat m)
  refine this.mono ?_
  rintro e w' ⟨⟨A, cap, rfl, ho⟩, hb⟩
  refine ⟨⟨A, cap, ?_, do_lies' ho⟩, h.below hb⟩
  rw [List.length_range']
theorem deep_prune {W w : World} {f lb : Nat} {v : Value} {m : Nat} (h : Kn W w f lb v (chain (m + 1) (m + 1))) :
    Calls Try.prog 14 #[.pointer (some ⟨f, 0, none⟩), .int .i64 0] w fun e w' => ∃ A cap v', e = .returned (.tuple #[.slice A m cap, .int .i64 0]) ∧ Kn W w' f lb v' ((chain (m + 1) (m + 1)).prune 0 (List.range' 1 m)) := by
  refine (prune_is h.prg 0 (by simp [chain]) (deep_flat m)).mono ?_
  rintro e w' ⟨A, cap, rfl, -, v', h1, h2, h3, -⟩
  refine ⟨A, cap, v', ?_, h.step h1 h2 h3⟩
  rw [List.length_range']

set_option maxRecDepth 100000 in
set_option maxHeartbeats 2000000 in
theorem deep_walk (s : Int) (W : World) : Calls Try.prog 3 #[.int .i64 s] W fun e w' => e = .returned (.bool true) ∧ Below W.heap.size W w' := by
  by_cases hs : 2 ≤ s ∧ s ≤ 4096
  · obtain ⟨m, rfl⟩ : ∃ m : Nat, s = ((m + 1 : Nat) : Int) := ⟨s.toNat - 1, by omega⟩
    have hm1 : 1 ≤ m := by omega
    have hm2 : m ≤ 4095 := by omega
    obtain ⟨n, hn⟩ : ∃ n, n = m + 1 := ⟨_, rfl⟩
    rw [← hn]
    have hn1 : 2 ≤ n := by omega
    have hn2 : n ≤ 4096 := by omega
    have HN := Lib.hid hn
    clear hs hn
    go_enter Try.func3, Try.ntmps3
    go_wp2_with fail
    refine (new_is n W (by omega) hn2).mono ?_
    rintro e w0 ⟨f, lb, v0, rfl, q1, q2, q3⟩
    have HK : Hid (Kn W w0 f lb v0 (chain n 0)) := Lib.hid ⟨q1, q2, q3⟩
    clear q1 q2 q3
    go_wp2_with fail
    go_loopw [5] (fun i wr => ∃ (k : Nat) (v' : Value), k ≤ n ∧ i = .int .i64 k ∧ Kn W wr f lb v' (chain n k)) (fun i _ => n - (intOf i).toNat)
    case atStart => exact ⟨0, v0, Nat.zero_le _, rfl, HK.out⟩
    case round =>
      obtain ⟨k, v', hk, rfl, hK⟩ := hrel
      have HKK := Lib.hid hK
      clear hK
      by_cases hlt : k < n
      · have hnorm : norm ((k : Int) - 1) = (k : Int) - 1 := by unfold norm; split <;> omega
        have CA := kn_add HKK.out (chain_last hlt) ((k : Int) - 1) (fun h0 => by
          rw [show (k : Int) - 1 = ((k - 1 : Nat) : Int) by omega, chain_has]
          simp
          omega)
        rw [hnorm, chain_add hlt] at CA
        have hkk : ((k : Int) != (k : Int)) = false := by simp
        clear hnorm
        go_wp2_with (go_at_call 11; refine CA.mono ?_; rintro e w1 ⟨rfl, v1, h1⟩; (have HK1 := Lib.hid h1); clear h1)
        go_roundw
        case rel => exact ⟨k + 1, v1, by omega, by go_num, HK1.out⟩
        case measure => simp [intOf]; omega
      · have hkn : k = n := by omega
        subst hkn
        have hfr : (chain k k).free = [] := by simp [chain]
        have CA := prg_add_full HKK.out.prg 0 hfr (fun _ => by rw [show (0 : Int) = ((0 : Nat) : Int) from rfl, chain_has]; simp; omega)
        clear hfr
        have HK0 : Hid (Kn W wr f lb v' (chain (m + 1) (m + 1))) := by rw [← HN.out]; exact HKK
        have e1 : ((m : Int) != (k : Int) - 1) = false := by have := HN.out; simp; omega
        have e2 : ((m : Int) == (k : Int) - 1) = true := by have := HN.out; simp; omega
        have HU := Lib.hid (show (k : Int) - 1 = (m : Int) by have := HN.out; omega)
        go_wp2_with (first | (go_at_call 11; refine CA.mono ?_; rintro e w1 ⟨rfl, rfl⟩) | (go_at_call 12; refine (deep_desc HK0.out).mono ?_; rintro e w1 ⟨⟨A, cap, rfl, hl⟩, h1⟩; (have HK1 := Lib.hid (And.intro h1 hl)); clear h1 hl) | (go_at_call 13; (have := mk1); refine (prg_under HK1.out.1.prg 0 _).mono ?_; rw [HU.out]; rintro e w' ⟨⟨b, rfl, hb⟩, rfl⟩; (have hbf : b = false := (by cases b; rfl; exact absurd (hb.1 rfl) (deep_not m))); subst hbf; clear hb) | (go_at_call 13; refine (prg_under HK1.out.1.prg _ 0).mono ?_; rw [HU.out]; rintro e w' ⟨⟨b, rfl, hb⟩, rfl⟩; (have hbt : b = true := hb.2 (deep_under m hm1)); subst hbt; clear hb; have mk1 := trivial))
        go_loopw [11] (fun i wx => ∃ q : Nat, q ≤ m ∧ i = .int .i64 q ∧ wx = w1) (fun i _ => m - (intOf i).toNat)
        case atStart => exact ⟨0, Nat.zero_le _, rfl, rfl⟩
        case round =>
          obtain ⟨q, hq, rfl, hwr⟩ := hrel
          subst hwr
          by_cases hqm : q < m
          · have hql : q < (nats (List.range' 1 m)).length := by rw [nats_len, List.length_range']; exact hqm
            obtain ⟨ad, rfl, -, hc⟩ := Ints.at_ HK1.out.2 hql
            have hel : (nats (List.range' 1 m))[q] = (q : Int) + 1 := by simp [nats]; omega
            rw [hel] at hc
            have hqq : ((q : Int) + 1 != (q : Int) + 1) = false := by simp
            have hq1 : (q : Int) < (m : Int) := by omega
            clear hql hel
            go_wp2
            go_roundw
            case rel => exact ⟨q + 1, by omega, by go_num, trivial⟩
            case measure => simp [intOf]; omega
          · go_wp2_with fail
            refine (deep_prune HK1.out.1).mono ?_
            rintro e w2 ⟨pA, pc, v2, rfl, h2⟩
            have HK2 := Lib.hid h2
            clear h2
            go_wp2_with fail
            have hlast : ((chain (m + 1) (m + 1)).prune 0 (List.range' 1 m)).free.getLast? = some m := by
              have e : ((chain (m + 1) (m + 1)).prune 0 (List.range' 1 m)).free = List.range' 1 m := by simp [Fo.prune, chain]
              rw [e, deep_last m hm1]
            refine (kn_add HK2.out hlast 0 (fun _ => by
              rw [show (0 : Int) = ((0 : Nat) : Int) from rfl]
              simp [Fo.has, Fo.prune, chain, List.mem_range']
              intros
              omega)).mono ?_
            rintro e w3 ⟨rfl, v3, h3⟩
            have HK3 := Lib.hid h3
            clear h3 hlast
            go_wp2_with fail
            have CL := prg_len HK3.out.prg
            have hlen : ((((chain (m + 1) (m + 1)).prune 0 (List.range' 1 m)).add (norm 0) m).n - (((chain (m + 1) (m + 1)).prune 0 (List.range' 1 m)).add (norm 0) m).free.length) = 2 := by
              simp [Fo.add, Fo.prune, chain]
              omega
            rw [hlen] at CL
            refine CL.mono ?_
            rintro e w' ⟨rfl, rfl⟩
            clear CL hlen
            go_wp2_with (go_at_call 9; refine (known_is _).mono ?_; rintro e w4 ⟨rfl, hb⟩)
            go_ret
            exact ⟨rfl, HK3.out.bel.trans (hb.mono HK3.out.bel.size)⟩
  · have hcase : s < 2 ∨ (¬ s < 2 ∧ 4096 < s) := by omega
    clear hs
    rcases hcase with h | ⟨h, h2⟩
    all_goals
      go_enter Try.func3, Try.ntmps3
      go_wp2_with (go_at_call 9; refine (known_is W).mono ?_; rintro e w1 ⟨rfl, hb⟩)
      go_ret
      exact ⟨rfl, hb⟩
end Go.Proofs.Ytoihldagpnkfoaa
