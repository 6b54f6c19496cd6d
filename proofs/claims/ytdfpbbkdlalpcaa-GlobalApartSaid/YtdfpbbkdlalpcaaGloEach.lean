/- The iterator each of the global queue, by a walk inside the wide fence: it hands on each node, with the one ahead of it, as long as the loop's body goes on. Condition: the queue is there. -/
import Derived.RangeFuncNested
import Derived.RangeFuncBound
import Derived.RangeFuncCalls
import Derived.RangeFuncLeaves
import Derived.Shelf.Abstract
import Derived.WalkKit
import Derived.OwnWalkIn
import Derived.TacticsInMore
import Derived.LoopNIn
import Derived.LoopIn
import Derived.WalkSpells
import Derived.WalkLawsBesides
import Derived.Lib.Hide
import Derived.Test.YtdfpbbkdlalpcaaRows
import Derived.Test.YtdfpbbkdlalpcaaGloPlain
namespace Go.Proofs.Ytdfpbbkdlalpcaa
open Go.RowKit Go.Shelf
attribute [local go_sem] Oper.semAt_some
set_option linter.unusedVariables false

/-- What is handed on at a place. -/
def enc (N : List (Nat × Int)) (x : Fin N.length) : Array Value := #[pt (bf N x.val), .pointer (some ⟨(N[x.val]'x.isLt).1, 0, none⟩)]
/-- The blocks that a round keeps. -/
def kept (Bn q : Nat) (N : List (Nat × Int)) (k : Nat) : Prop := k = Bn ∨ bl q N k

theorem take_fin {n k : Nat} (h : k < n) : (List.finRange n).take (k + 1) = (List.finRange n).take k ++ [⟨k, h⟩] := by
  rw [List.take_succ_eq_append_getElem (by simpa using h)]
  simp

set_option maxHeartbeats 1000000 in
theorem each1_in (n : Nat) (hn : 1 ≤ n) (l Bn q : Nat) (N : List (Nat × Int)) (J Jx : List (Fin N.length) → World → Prop)
    (hY : ∀ pre x W, J pre W → pre.length < N.length → YieldAt Fence.wide (n - 1) Try.prog l (enc N x) W fun e W' =>
      (e = .returned (.bool true) ∧ J (pre ++ [x]) W' ∧ KeepS (kept Bn q N) W W') ∨ (e = .returned (.bool false) ∧ Jx (pre ++ [x]) W'))
    (W : World) (hBn : Blk W Bn 25 #[.pointer (some ⟨q, 0, none⟩)]) (hQ : Qu W q N) (h0 : J [] W) :
    CallsIn Fence.wide n Try.prog 34 #[.func (.yield l) #[] #[], .pointer (some ⟨Bn, 0, none⟩)] W fun e W' => (∃ v, e = .returned v) ∧
      ((∃ ys, ys = List.finRange N.length ∧ J ys W') ∨ (∃ pre, pre <+: List.finRange N.length ∧ Jx pre W')) := by
  have hc := hBn.cell 0
  have hq0 := hQ.head.cell 0
  simp only [List.getElem?_toArray, List.getElem?_cons_zero] at hc hq0
  refine callsIn_of_wp Try.func34 rfl trivial ?_ rfl
  simp only [Try.ntmps34, List.size_toArray, List.length_cons, List.length_nil, Nat.reduceAdd, Nat.reduceSub, Array.replicate_succ, Array.replicate_zero, List.push_toArray, List.append_toArray, List.nil_append, List.cons_append]
  gi_wp2
  gi_loopw [3, 4] (fun p x wr => ∃ k : Nat, k ≤ N.length ∧ p = pt (bf N k) ∧ x = pt (nd N k) ∧ J ((List.finRange N.length).take k) wr ∧ KeepS (kept Bn q N) W wr) (fun _ x _ => N.length - ixN N x)
  case atStart => exact ⟨0, Nat.zero_le _, rfl, rfl, h0, fun _ _ => rfl⟩
  case round =>
    obtain ⟨k, hk, rfl, rfl, hJ, hK⟩ := hrel
    have hQr : Qu wr q N := hQ.keep fun k hk => hK k (.inr hk)
    have hm := Lib.hid (ixN_eq hQ.row k hk)
    by_cases hlt : k < N.length
    · have hm2 := Lib.hid (ixN_eq hQ.row (k + 1) (by omega))
      have hb := hQr.row.at_ k hlt
      obtain ⟨fn, tmps, assign, body, hy, hR⟩ := hY _ ⟨k, hlt⟩ wr hJ (by simp; omega)
      rw [← take_fin hlt] at hR
      have hnd := nd_lt hlt
      have hbf := Lib.hid (bf_succ N k)
      dsimp only [enc] at hy
      generalize hvb : pt (bf N k) = vb at *
      have HVB := Lib.hid hvb
      have HND := Lib.hid hnd
      rw [hnd]
      clear hvb hnd
      generalize hbb : (N[k]'hlt).1 = b at *
      have HBB := Lib.hid hbb
      clear hbb
      rw [pt_some]
      gi_wp2
      refine hR.mono ?_
      rintro e W3 (⟨rfl, hJ3, hk3⟩ | ⟨rfl, hJx3⟩)
      · have hb3 : Blk W3 b 60 #[.int .i64 (N[k]'hlt).2, pt (nd N (k + 1))] := (hk3 b (.inr (.inr ⟨k, hlt, HBB.out⟩))).trans hb
        have hc3 := hb3.cell 1
        simp only [List.getElem?_toArray, List.getElem?_cons_zero, List.getElem?_cons_succ] at hc3
        have HK3 := Lib.hid (keepS_t _ hK hk3)
        clear hk3 hb3 hb hK hQr
        gi_wp2
        go_roundw
        case rel => exact ⟨k + 1, by omega, by rw [hbf.out, HND.out, pt_some], rfl, hJ3, HK3.out⟩
        case measure =>
          have h1 := hm.out
          have h2 := hm2.out
          rw [HND.out] at h1
          rw [pt_some] at h1
          rw [h1, h2]
          omega
      · gi_wp2
        refine bodyPost_ret (results_none rfl _ _ _) rfl ?_
        exact ⟨⟨_, rfl⟩, .inr ⟨_, List.take_prefix _ _, hJx3⟩⟩
    · have h8 : k = N.length := by omega
      rw [nd_ge (N := N) (k := k) (by omega)]
      subst h8
      rw [pt_none]
      gi_wp2
      go_end0
      exact ⟨⟨_, rfl⟩, .inl ⟨_, by rw [List.take_of_length_le (by simp)], hJ⟩⟩

theorem each_stops (n : Nat) (hn : 1 ≤ n) (Bn q : Nat) (N : List (Nat × Int)) (w : World) (hBn : Blk w Bn 25 #[.pointer (some ⟨q, 0, none⟩)]) (hQ : Qu w q N) :
    SeqStopsK Fence.wide n Try.prog 34 #[.pointer (some ⟨Bn, 0, none⟩)] (enc N) (KeepS (kept Bn q N)) (fun ys => ys = List.finRange N.length) (fun pre => pre <+: List.finRange N.length) N.length w := fun l J Jx W hW _ _ hY h0 =>
  each1_in n hn l Bn q N J Jx hY W (hBn.below hW hBn.lt) (hQ.below hW) h0

theorem kept_lt {w : World} {Bn q : Nat} {N : List (Nat × Int)} (hBn : Bn < w.heap.size) (hQ : Qu w q N) (k : Nat) (hk : kept Bn q N k) : k < w.heap.size := by
  rcases hk with rfl | hk
  · exact hBn
  · exact hQ.lt k hk

set_option maxHeartbeats 400000 in
theorem each_any (q : Nat) (w : World) : Calls Try.prog 27 #[.pointer (some ⟨q, 0, none⟩)] w fun e w' => e = .returned (.func (.func 34) #[] #[.pointer (some ⟨w.heap.size, 0, none⟩)]) ∧ w' = w.alloc (.cells #[.pointer (some ⟨q, 0, none⟩)] 25) := by
  go_enter Try.func27, Try.ntmps27
  go_wp2
  go_ret
  exact ⟨rfl, rfl⟩
end Go.Proofs.Ytdfpbbkdlalpcaa
