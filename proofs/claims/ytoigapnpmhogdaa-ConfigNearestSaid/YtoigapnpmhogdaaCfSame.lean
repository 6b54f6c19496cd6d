/- bytes.Equal, EqualFunc, alike, Same of the program and of the reference, by walks. -/
import Derived.Test.YtoigapnpmhogdaaCfOutI
import Derived.Laws.BytesArg
namespace Go.Proofs.Ytoigapnpmhogdaa
open Go.RowKit
set_option linter.unusedVariables false
set_option linter.unusedSimpArgs false

theorem conv_reads (w : World) (B : Nat) (A : Option Addr) (l : List UInt8) (cap : Nat) (h : Reads w B 1 A l.length (l.map byteV)) (hn : A = none → l = []) :
    (convert 43 9 (.slice A l.length cap)).run Try.prog w = .ok (.string ⟨l.toArray⟩) w := by
  cases A with
  | none =>
    rw [hn rfl]
    exact run_convert_bytes_nil w 43 5 Try.underlying43 Try.underlying5 _ _ _ Try.underlying9
  | some ad =>
    have hl : (loadCells ad l.length).run Try.prog w = .ok (((l.map fun c => (c.toNat : Int))).map (Value.int .u8)).toArray w := by
      have := run_loadCells_list (P := Try.prog) w ad (l.map byteV) (fun j v hj => by
        have hjl : j < l.length := by
          rcases Nat.lt_or_ge j l.length with h | h
          · exact h
          · simp [List.getElem?_eq_none (show (l.map byteV).length ≤ j by simpa using h)] at hj
        obtain ⟨ad', e, _, hc⟩ := h.2 (by omega)
        injection e with e
        subst e
        exact hc j v hj)
      rw [List.length_map] at this
      rw [this, List.map_map]
      rfl
    rw [run_convert_bytes_string w 43 9 5 _ _ cap Try.underlying43 Try.underlying5 Try.underlying9, run_bytesToString w _ l.length cap _ hl, foldl_push_bytes]
    simp [ByteArray.empty, ByteArray.emptyWithCapacity, List.map_map, Function.comp_def]
    rfl

theorem str_eq (l m : List UInt8) : ((⟨l.toArray⟩ : ByteArray).toList == (⟨m.toArray⟩ : ByteArray).toList) = decide (l = m) := by
  rw [ByteArray.toList_eq, ByteArray.toList_eq, Bool.eq_iff_iff, beq_iff_eq, decide_eq_true_eq]

set_option maxHeartbeats 1000000 in
theorem beq_is (B : Nat) (A A' : Option Addr) (l m : List UInt8) (cap cap' : Nat) (w : World) (h : Reads w B 1 A l.length (l.map byteV)) (hn : A = none → l = []) (h' : Reads w B 1 A' m.length (m.map byteV)) (hn' : A' = none → m = []) :
    Calls Try.prog 36 #[.slice A l.length cap, .slice A' m.length cap'] w fun e w' => e = .returned (.bool (decide (l = m))) ∧ w = w' := by
  have C1 := conv_reads w B A l cap h hn
  have C2 := conv_reads w B A' m cap' h' hn'
  rw [← str_eq]
  obtain ⟨s, hs⟩ : ∃ s : ByteArray, s = ⟨l.toArray⟩ := ⟨_, rfl⟩
  obtain ⟨t, ht⟩ : ∃ s : ByteArray, s = ⟨m.toArray⟩ := ⟨_, rfl⟩
  rw [← hs, ← ht]
  rw [← hs] at C1
  rw [← ht] at C2
  generalize l.length = n at *
  generalize m.length = k at *
  clear h h' hn hn' hs ht
  go_enter Try.func36, Try.ntmps36
  go_wp2
  go_ret
  exact ⟨rfl, rfl⟩

set_option maxHeartbeats 1000000 in
theorem alikeI_is (p q : Addr) (x y : Int) (w : World) (hx : w.cell? p = some (.int .i64 x)) (hy : w.cell? q = some (.int .i64 y)) :
    Calls Try.prog 34 #[.iface 62 (.pointer (some p)), .iface 62 (.pointer (some q))] w fun e w' => e = .returned (.bool (x == y)) ∧ Below w.heap.size w w' := by
  have T1 := ta_II (some p) w
  have T2 := ta_II (some q) w
  go_enter Try.func34, Try.ntmps34
  go_wp2
  go_region
  go_wp2
  go_ret
  exact ⟨rfl, (Below.refl _ w).drew⟩

set_option maxHeartbeats 1000000 in
theorem alikeU_is (p q : Addr) (x y : Int) (w : World) (hx : w.cell? p = some (.int .u64 x)) (hy : w.cell? q = some (.int .u64 y)) :
    Calls Try.prog 34 #[.iface 63 (.pointer (some p)), .iface 63 (.pointer (some q))] w fun e w' => e = .returned (.bool (x == y)) ∧ Below w.heap.size w w' := by
  have T1 := ta_UI (some p) w
  have T2 := ta_UU (some q) w
  have T3 := ta_UU (some p) w
  go_enter Try.func34, Try.ntmps34
  go_wp2
  go_region
  go_wp2
  go_ret
  exact ⟨rfl, (Below.refl _ w).drew⟩

theorem alike_is (k : Nat) (p q : Addr) (x y : Int) (w : World) (hx : w.cell? p = some (part' k x)) (hy : w.cell? q = some (part' k y)) :
    Calls Try.prog 34 #[.iface (if k < 10 then 62 else 63) (.pointer (some p)), .iface (if k < 10 then 62 else 63) (.pointer (some q))] w fun e w' => e = .returned (.bool (x == y)) ∧ Below w.heap.size w w' := by
  unfold part' at hx hy
  by_cases h : k < 10
  · rw [if_pos h] at hx hy ⊢
    exact alikeI_is p q x y w hx hy
  · rw [if_neg h] at hx hy ⊢
    exact alikeU_is p q x y w hx hy

set_option maxHeartbeats 8000000 in
theorem equalFunc_is (B : Nat) (A A' : Option Addr) (cap cap' : Nat) (L M : List (List UInt8)) (w : World) (h : PrAt w B A L) (h' : PrAt w B A' M) (hl : L.length < 2 ^ 62) (hl' : M.length < 2 ^ 62) :
    Calls Try.prog 35 #[.slice A L.length cap, .slice A' M.length cap', .func (.func 36) #[] #[]] w fun e w' => e = .returned (.bool (decide (L = M))) ∧ w = w' := by
  by_cases hlen : L.length = M.length
  · have hR := Lib.hid (show ∀ (h1 : ∀ i (hi : i < L.length), L[i]'hi = M[i]'(by omega)), L = M from fun h1 => List.ext_getElem hlen fun i h2 h3 => h1 i h2)
    have hN := Lib.hid (show ∀ i (hi : i < L.length), L[i]'hi ≠ M[i]'(by omega) → L ≠ M from fun i hi hne e => hne (by subst e; rfl))
    rw [show (.slice A L.length cap : Value) = .slice A M.length cap from by rw [hlen]]
    go_enter Try.func35, Try.ntmps35
    go_wp2
    go_loop [17] (fun i => ∃ k : Nat, k ≤ L.length ∧ i = .int .i64 k ∧ ∀ j (hj : j < L.length), j < k → L[j]'hj = M[j]'(by omega)) (fun i => L.length - (intOf i).toNat)
    case atStart => exact ⟨0, Nat.zero_le _, rfl, fun j _ hj => absurd hj (by omega)⟩
    case round =>
      obtain ⟨k, hk, rfl, hno⟩ := hrel
      have HNO := Lib.hid hno
      clear hno
      by_cases hlt : k < L.length
      · obtain ⟨g, o, rfl, hg, hr⟩ := h (fun e => by rw [e] at hlt; simp at hlt)
        obtain ⟨g', o', rfl, hg', hr'⟩ := h' (fun e => by rw [e] at hlen; simp at hlen; rw [hlen] at hlt; simp at hlt)
        obtain ⟨Ai, ci, q1, q2, q3, q4⟩ := hr k hlt
        obtain ⟨Ai', ci', q1', q2', q3', q4'⟩ := hr' k (by omega)
        have C := beq_is B Ai Ai' (L[k]'hlt) (M[k]'(by omega)) ci ci' w q3 (fun e => (q4 e).1) q3' (fun e => (q4' e).1)
        obtain ⟨x, hx⟩ : ∃ x, x = L[k]'hlt := ⟨_, rfl⟩
        obtain ⟨y, hy⟩ : ∃ y, y = M[k]'(by omega) := ⟨_, rfl⟩
        have HX := Lib.hid hx
        have HY := Lib.hid hy
        simp only [← hx, ← hy] at C q1 q1'
        obtain ⟨r, hr0⟩ : ∃ r, r = decide (x = y) := ⟨_, rfl⟩
        rw [← hr0] at C
        have HR0 := Lib.hid hr0
        clear hr0
        generalize x.length = xl at C q1
        generalize y.length = yl at C q1'
        clear hr hr' q2 q3 q4 q2' q3' q4' hx hy h h'
        have hk2 : (k : Int) < M.length := by omega
        have hk0 : (0 : Int) ≤ (k : Int) := by omega
        cases r with
        | true =>
          have h1 := Lib.hid (of_decide_eq_true HR0.out.symm)
          go_wp2_with (go_at_call 36; refine C.mono ?_; rintro e w1 ⟨rfl, rfl⟩)
          go_round
          case rel =>
            refine ⟨k + 1, by omega, by go_num, fun j hj hjk => ?_⟩
            by_cases hjk' : j < k
            · exact HNO.out j hj hjk'
            · obtain rfl : j = k := by omega
              rw [← HX.out, ← HY.out, h1.out]
          case measure => simp [intOf]; omega
        | false =>
          have h1 := Lib.hid (of_decide_eq_false HR0.out.symm)
          go_wp2_with (go_at_call 36; refine C.mono ?_; rintro e w1 ⟨rfl, rfl⟩)
          go_ret
          exact ⟨by rw [decide_eq_false (hN.out k hlt (by rw [← HX.out, ← HY.out]; exact h1.out))]; rfl, rfl⟩
      · have hkl : k = M.length := by omega
        have hD := Lib.hid (decide_eq_true (hR.out fun i hi => HNO.out i hi (by omega)))
        subst hkl
        clear h h'
        go_wp2
        go_ret
        exact ⟨by rw [hD.out]; rfl, rfl⟩
  · have hne : L ≠ M := fun e => hlen (by rw [e])
    rw [decide_eq_false hne]
    have hle : ¬ ((L.length : Int) = (M.length : Int)) := by omega
    clear h h' hne
    go_enter Try.func35, Try.ntmps35
    go_wp2
    go_ret
    exact ⟨rfl, rfl⟩
end Go.Proofs.Ytoigapnpmhogdaa
