/- Take, Remove, Has of the global queue, by walks. Conditions: the queue is there, of at most 100000; the affinities are bytes. -/
import Derived.Test.YtdfpbbkdlalpcaaGloCutM
import Derived.Test.YtdfpbbkdlalpcaaGloCutR
import Derived.Test.YtdfpbbkdlalpcaaGloModel
namespace Go.Proofs.Ytdfpbbkdlalpcaa
open Go.RowKit
set_option linter.unusedVariables false
set_option linter.unusedSimpArgs false

theorem CutPost.hit {f : Int → Bool} {N : List (Nat × Int)} {w W' : World} {q i : Nat} {e : Ending} (h : CutPost f N w q e W') (hi : Hit f (vals N) i) :
    ∃ h : i < N.length, e = .returned (.tuple #[.int .i64 (N[i]).2, .bool true]) ∧ Qu W' q (N.eraseIdx i) ∧ Apart (bl q N) w W' := by
  rcases h with ⟨j, hj, r⟩ | ⟨hm, _⟩
  · obtain rfl := hi.uniq hj
    exact r
  · exact (hi.not_miss hm).elim
theorem CutPost.miss {f : Int → Bool} {N : List (Nat × Int)} {w W' : World} {q : Nat} {e : Ending} (h : CutPost f N w q e W') (hm : Miss f (vals N)) :
    e = .returned (.tuple #[.int .i64 0, .bool false]) ∧ Below w.heap.size w W' := by
  rcases h with ⟨j, hj, r⟩ | ⟨_, r⟩
  · exact (hj.not_miss hm).elim
  · exact r

theorem cutM_at (p : Int) (aff : List Nat) (A : Option Addr) (cap B : Nat) (q : Nat) (N : List (Nat × Int)) (w : World) (h : Qu w q N) (hn : N.length ≤ 100000)
    (hA : Bytes w B A aff) (hB : B ≤ w.heap.size) (hl : aff.length ≤ maxLen) (h8 : ∀ x ∈ aff, x < 256) :
    Calls Try.prog 28 #[.pointer (some ⟨q, 0, none⟩), .func (.func 32) #[] #[.pointer (some ⟨w.heap.size + 1, 0, none⟩), .pointer (some ⟨w.heap.size, 0, none⟩)]] ((w.alloc (.cells #[.int .i64 p] 3)).alloc (.cells #[.slice A aff.length cap] 32)) (CutPost (mayB p aff) N ((w.alloc (.cells #[.int .i64 p] 3)).alloc (.cells #[.slice A aff.length cap] 32)) q) := by
  have b0 := (Blk.new w 3 #[.int .i64 p]).alloc (.cells #[.slice A aff.length cap] 32)
  have b1 := Blk.new (w.alloc (.cells #[.int .i64 p] 3)) 32 #[.slice A aff.length cap]
  rw [World.size_alloc] at b1
  have hB0 : Below w.heap.size w ((w.alloc (.cells #[.int .i64 p] 3)).alloc (.cells #[.slice A aff.length cap] 32)) := ((Below.refl _ w).alloc (Nat.le_refl _) _).alloc (by simp) _
  have hs : w.heap.size + 1 < ((w.alloc (.cells #[.int .i64 p] 3)).alloc (.cells #[.slice A aff.length cap] 32)).heap.size := by simp
  generalize (w.alloc (.cells #[.int .i64 p] 3)).alloc (.cells #[.slice A aff.length cap] 32) = w1 at *
  refine cutM_is (mayB p aff) (w.heap.size + 1) w.heap.size q N w1 (h.below hB0) hn fun g W hW => ?_
  exact may1_is p aff A cap g _ _ B W (b1.below hW hs) (b0.below hW (by omega)) (((hA.below (hB0.mono hB))).below (hW.mono (by omega))) hl h8

set_option maxHeartbeats 1000000 in
theorem take_hit (p : Int) (aff : List Nat) (A : Option Addr) (cap B : Nat) (q i : Nat) (N : List (Nat × Int)) (w : World) (h : Qu w q N) (hn : N.length ≤ 100000)
    (hA : Bytes w B A aff) (hB : B ≤ w.heap.size) (hl : aff.length ≤ maxLen) (h8 : ∀ x ∈ aff, x < 256) (hi : Hit (mayB p aff) (vals N) i) :
    Calls Try.prog 13 #[.pointer (some ⟨q, 0, none⟩), .int .i64 p, .slice A aff.length cap] w fun e W' => (∃ h : i < N.length, e = .returned (.tuple #[.int .i64 (N[i]).2, .bool true])) ∧ Qu W' q (N.eraseIdx i) ∧ Apart (bl q N) w W' := by
  have C := (cutM_at p aff A cap B q N w h hn hA hB hl h8).mono fun e W' hp => hp.hit hi
  have hap : Apart (bl q N) w ((w.alloc (.cells #[.int .i64 p] 3)).alloc (.cells #[.slice A aff.length cap] 32)) := ((Apart.refl _ w).alloc _).alloc _
  have HAP := Lib.hid hap
  have hil : i < N.length := by rw [← vals_len]; exact hi.1
  obtain ⟨y, hy⟩ : ∃ y, y = (N[i]'hil).2 := ⟨_, rfl⟩
  have C2 := C.mono (R' := fun e W' => e = .returned (.tuple #[.int .i64 y, .bool true]) ∧ Qu W' q (N.eraseIdx i) ∧ Apart (bl q N) ((w.alloc (.cells #[.int .i64 p] 3)).alloc (.cells #[.slice A aff.length cap] 32)) W') fun e W' ⟨_, he, hq, ha⟩ => ⟨by rw [he, hy], hq, ha⟩
  have HY := Lib.hid hy
  clear C hA h8 hi h hap hy
  go_enter Try.func13, Try.ntmps13
  go_wp2_with (first | (go_at_call 26; refine (may_is p A aff.length cap w).mono ?_; rintro e w' ⟨rfl, rfl⟩) | (go_at_call 28; refine C2.mono ?_; rintro e w1 ⟨rfl, hq, ha⟩; (have HQ := Lib.hid hq); (have HA := Lib.hid ha); clear hq ha))
  go_ret2
  exact ⟨⟨hil, by rw [HY.out]; rfl⟩, HQ.out, HAP.out.trans HA.out (fun k _ hk => hk)⟩

set_option maxHeartbeats 1000000 in
theorem take_miss (p : Int) (aff : List Nat) (A : Option Addr) (cap B : Nat) (q : Nat) (N : List (Nat × Int)) (w : World) (h : Qu w q N) (hn : N.length ≤ 100000)
    (hA : Bytes w B A aff) (hB : B ≤ w.heap.size) (hl : aff.length ≤ maxLen) (h8 : ∀ x ∈ aff, x < 256) (hi : Miss (mayB p aff) (vals N)) :
    Calls Try.prog 13 #[.pointer (some ⟨q, 0, none⟩), .int .i64 p, .slice A aff.length cap] w fun e W' => e = .returned (.tuple #[.int .i64 0, .bool false]) ∧ Below w.heap.size w W' := by
  have C2 := (cutM_at p aff A cap B q N w h hn hA hB hl h8).mono fun e W' hp => hp.miss hi
  have hap : Below w.heap.size w ((w.alloc (.cells #[.int .i64 p] 3)).alloc (.cells #[.slice A aff.length cap] 32)) := ((Below.refl _ w).alloc (Nat.le_refl _) _).alloc (by simp) _
  have HAP := Lib.hid hap
  clear hA h8 hi h hap
  go_enter Try.func13, Try.ntmps13
  go_wp2_with (first | (go_at_call 26; refine (may_is p A aff.length cap w).mono ?_; rintro e w' ⟨rfl, rfl⟩) | (go_at_call 28; refine C2.mono ?_; rintro e w1 ⟨rfl, ha⟩; (have HA := Lib.hid ha); clear ha))
  go_ret2
  exact ⟨rfl, HAP.out.trans (HA.out.mono HAP.out.size)⟩

set_option maxHeartbeats 400000 in
theorem is1_is (g x : Int) (c1 : Nat) (w : World) (h : Blk w c1 3 #[.int .i64 g]) : Calls Try.prog 30 #[.int .i64 x, .pointer (some ⟨c1, 0, none⟩)] w fun e w' => e = .returned (.bool (x == g)) ∧ ∃ n, w' = w.drewN n := by
  have c0 := h.cell 0
  simp only [List.getElem?_toArray, List.getElem?_cons_zero] at c0
  go_enter Try.func30, Try.ntmps30
  go_wp2
  go_ret
  exact ⟨rfl, 0, rfl⟩

theorem cutR_at (g : Int) (q : Nat) (N : List (Nat × Int)) (w : World) (h : Qu w q N) (hn : N.length ≤ 100000) :
    Calls Try.prog 28 #[.pointer (some ⟨q, 0, none⟩), .func (.func 30) #[] #[.pointer (some ⟨w.heap.size, 0, none⟩)]] (w.alloc (.cells #[.int .i64 g] 3)) (CutPost (· == g) N (w.alloc (.cells #[.int .i64 g] 3)) q) := by
  have b0 := Blk.new w 3 #[.int .i64 g]
  have hB0 : Below w.heap.size w (w.alloc (.cells #[.int .i64 g] 3)) := (Below.refl _ w).alloc (Nat.le_refl _) _
  have hs : w.heap.size < (w.alloc (.cells #[.int .i64 g] 3)).heap.size := by simp
  generalize w.alloc (.cells #[.int .i64 g] 3) = w1 at *
  refine cutR_is (· == g) w.heap.size q N w1 (h.below hB0) hn fun x W hW => ?_
  exact is1_is g x _ W (b0.below hW hs)

set_option maxHeartbeats 1000000 in
theorem remove_hit (g : Int) (q i : Nat) (N : List (Nat × Int)) (w : World) (h : Qu w q N) (hn : N.length ≤ 100000) (hi : Hit (· == g) (vals N) i) :
    Calls Try.prog 20 #[.pointer (some ⟨q, 0, none⟩), .int .i64 g] w fun e W' => e = .returned (.bool true) ∧ Qu W' q (N.eraseIdx i) ∧ Apart (bl q N) w W' := by
  have C := (cutR_at g q N w h hn).mono fun e W' hp => hp.hit hi
  have hap : Apart (bl q N) w (w.alloc (.cells #[.int .i64 g] 3)) := (Apart.refl _ w).alloc _
  have HAP := Lib.hid hap
  have C2 := C.mono (R' := fun e W' => (∃ y, e = .returned (.tuple #[.int .i64 y, .bool true])) ∧ Qu W' q (N.eraseIdx i) ∧ Apart (bl q N) (w.alloc (.cells #[.int .i64 g] 3)) W') fun e W' ⟨_, he, hq, ha⟩ => ⟨⟨_, he⟩, hq, ha⟩
  clear C hi h hap
  go_enter Try.func20, Try.ntmps20
  go_wp2_with (go_at_call 28; refine C2.mono ?_; rintro e w1 ⟨⟨y, rfl⟩, hq, ha⟩; (have HQ := Lib.hid hq); (have HA := Lib.hid ha); clear hq ha)
  go_ret
  exact ⟨rfl, HQ.out, HAP.out.trans HA.out (fun k _ hk => hk)⟩

set_option maxHeartbeats 1000000 in
theorem remove_miss (g : Int) (q : Nat) (N : List (Nat × Int)) (w : World) (h : Qu w q N) (hn : N.length ≤ 100000) (hi : Miss (· == g) (vals N)) :
    Calls Try.prog 20 #[.pointer (some ⟨q, 0, none⟩), .int .i64 g] w fun e W' => e = .returned (.bool false) ∧ Below w.heap.size w W' := by
  have C2 := (cutR_at g q N w h hn).mono fun e W' hp => hp.miss hi
  have hap : Below w.heap.size w (w.alloc (.cells #[.int .i64 g] 3)) := (Below.refl _ w).alloc (Nat.le_refl _) _
  have HAP := Lib.hid hap
  clear hi h hap
  go_enter Try.func20, Try.ntmps20
  go_wp2_with (go_at_call 28; refine C2.mono ?_; rintro e w1 ⟨rfl, ha⟩; (have HA := Lib.hid ha); clear ha)
  go_ret
  exact ⟨rfl, HAP.out.trans (HA.out.mono HAP.out.size)⟩

set_option maxHeartbeats 400000 in
theorem index_hit (x : Int) (L : List Int) (A : Option Addr) (cap B i : Nat) (w : World) (hA : Ints w B A L) (hl : L.length ≤ 100000) (h : Hit (· == x) L i) :
    Calls Try.prog 35 #[.slice A L.length cap, .int .i64 x] w fun e w' => e = .returned (.int .i64 i) ∧ w = w' := by
  obtain ⟨hi, ht, hf⟩ := h
  have HF := Lib.hid hf
  clear hf
  go_enter Try.func35, Try.ntmps35
  go_wp2
  go_loop [8] (fun v => ∃ k : Nat, k ≤ i ∧ v = .int .i64 k) (fun v => i + 1 - (intOf v).toNat)
  case atStart => exact ⟨0, Nat.zero_le _, rfl⟩
  case round =>
    obtain ⟨k, hk, rfl⟩ := hrel
    obtain ⟨ad, rfl, _, hc⟩ := hA.at_ (show k < L.length by omega)
    clear hA
    have hkl : k < L.length := by omega
    by_cases hlt : k < i
    · have hx := HF.out k hlt
      clear ht
      generalize L[k] = y at *
      have hx' : (x == y) = false := by rw [← hx]; exact Bool.beq_comm ..
      clear hx
      go_wp2
      go_round
      case rel => exact ⟨k + 1, by omega, by go_num⟩
      case measure => simp [intOf]; omega
    · obtain rfl : k = i := by omega
      generalize L[k] = y at *
      have hx' : (x == y) = true := by rw [← ht]; exact Bool.beq_comm ..
      clear ht
      go_wp2
      go_ret
      exact ⟨rfl, rfl⟩

set_option maxHeartbeats 400000 in
theorem index_miss (x : Int) (L : List Int) (A : Option Addr) (cap B : Nat) (w : World) (hA : Ints w B A L) (hl : L.length ≤ 100000) (h : Miss (· == x) L) :
    Calls Try.prog 35 #[.slice A L.length cap, .int .i64 x] w fun e w' => e = .returned (.int .i64 (-1)) ∧ w = w' := by
  have HF := Lib.hid h
  clear h
  go_enter Try.func35, Try.ntmps35
  go_wp2
  go_loop [8] (fun v => ∃ k : Nat, k ≤ L.length ∧ v = .int .i64 k) (fun v => L.length - (intOf v).toNat)
  case atStart => exact ⟨0, Nat.zero_le _, rfl⟩
  case round =>
    obtain ⟨k, hk, rfl⟩ := hrel
    by_cases hlt : k < L.length
    · obtain ⟨ad, rfl, _, hc⟩ := hA.at_ hlt
      clear hA
      have hx := HF.out k hlt
      generalize L[k] = y at *
      have hx' : (x == y) = false := by rw [← hx]; exact Bool.beq_comm ..
      clear hx
      go_wp2
      go_round
      case rel => exact ⟨k + 1, by omega, by go_num⟩
      case measure => simp [intOf]; omega
    · clear hA
      go_wp2
      go_ret
      exact ⟨rfl, rfl⟩

/-- Is a number there? -/
def isIn (g : Int) (L : List Int) : Bool := L.any (· == g)
theorem isIn_hit {g : Int} {L : List Int} {i : Nat} (h : Hit (· == g) L i) : isIn g L = true := by
  obtain ⟨h1, h2, _⟩ := h
  exact List.any_eq_true.2 ⟨_, List.getElem_mem h1, h2⟩
theorem isIn_miss {g : Int} {L : List Int} (h : Miss (· == g) L) : isIn g L = false := by
  apply Bool.eq_false_iff.2
  intro e
  obtain ⟨x, hx, hg⟩ := List.any_eq_true.1 e
  obtain ⟨i, hi, rfl⟩ := List.getElem_of_mem hx
  exact Bool.false_ne_true ((h i hi).symm.trans hg)

set_option maxHeartbeats 400000 in
theorem contains_is (x : Int) (L : List Int) (A : Option Addr) (cap B : Nat) (w : World) (hA : Ints w B A L) (hl : L.length ≤ 100000) :
    Calls Try.prog 31 #[.slice A L.length cap, .int .i64 x] w fun e w' => e = .returned (.bool (isIn x L)) ∧ w = w' := by
  rcases hit_or_miss (· == x) L with ⟨i, hi⟩ | hm
  · have C := index_hit x L A cap B i w hA hl hi
    have hil := hi.1
    rw [isIn_hit hi]
    clear hA hi
    go_enter Try.func31, Try.ntmps31
    go_wp2_with (go_at_call 35; refine C.mono ?_; rintro e w' ⟨rfl, rfl⟩)
    go_ret
    exact ⟨rfl, rfl⟩
  · have C := index_miss x L A cap B w hA hl hm
    rw [isIn_miss hm]
    clear hA hm
    go_enter Try.func31, Try.ntmps31
    go_wp2_with (go_at_call 35; refine C.mono ?_; rintro e w' ⟨rfl, rfl⟩)
    go_ret
    exact ⟨rfl, rfl⟩

set_option maxHeartbeats 1000000 in
theorem has_is (g : Int) (q : Nat) (N : List (Nat × Int)) (w : World) (h : Qu w q N) (hn : N.length ≤ 100000) :
    Calls Try.prog 22 #[.pointer (some ⟨q, 0, none⟩), .int .i64 g] w fun e W' => e = .returned (.bool (isIn g (vals N))) ∧ Below w.heap.size w W' := by
  have C := all_is q N w h hn
  have hvl : (vals N).length ≤ 100000 := by rw [vals_len]; exact hn
  generalize vals N = L at *
  generalize hr : isIn g L = r at *
  have HR := Lib.hid hr
  clear h hr
  go_enter Try.func22, Try.ntmps22
  go_wp2_with (first | (go_at_call 15; refine C.mono ?_; rintro e w1 ⟨⟨A, cap, rfl, ho⟩, hb⟩; (have HO := Lib.hid ho); (have HB := Lib.hid hb); clear ho hb) | (go_at_call 31; refine (contains_is g L A cap w1.heap.size w1 (Reads.of_own HO.out) hvl).mono ?_; rintro e w2 ⟨rfl, rfl⟩))
  go_ret
  exact ⟨by rw [← HR.out]; rfl, HB.out⟩
end Go.Proofs.Ytdfpbbkdlalpcaa
