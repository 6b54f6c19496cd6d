/- Rows of the program's forest: row, Children, Roots, Parent, by walks. Condition: the places are a forest's. -/
import Derived.Test.YtoihldagpnkfoaaTreeJoin2
import Derived.Test.YtoihldagpnkfoaaOwnKit
import Derived.Deep.Upon
namespace Go.Proofs.Ytoihldagpnkfoaa
open Go.RowKit
set_option linter.unusedVariables false
set_option linter.unusedSimpArgs false

/-- The places are linked as a row is. -/
def Linked (R : Raw) (n : Nat) (K : List Nat) : Prop := (∀ i ∈ K, i < n) ∧ ∀ a i b, K = a ++ i :: b → (R.M i).r = hd b

set_option maxRecDepth 100000 in
set_option maxHeartbeats 2000000 in
theorem row_is {w : World} {f lb n lc : Nat} {R : Raw} {fv : Value} (h : PF w f lb n lc R fv) (K : List Nat) (hK : Linked R n K) (hl : K.length ≤ 4096) :
    Calls Try.prog 46 #[.pointer (some ⟨f, 0, none⟩), .int .i64 (hd K)] w fun e w' => (∃ A cap, e = .returned (.slice A K.length cap) ∧ w'.ownsRow w.heap.size 3 1 (.slice A K.length cap) K.length (intV (nats K))) ∧ Below w.heap.size w w' := by
  obtain ⟨i0, hi0, hz0, hz1, hz2⟩ := info_parts infoInt
  have hn2 := h.n2
  go_enter Try.func46, Try.ntmps46
  go_wp2
  go_loopw [1, 4] (fun v o wr => ∃ a b : List Nat, K = a ++ b ∧ v = .int .i64 (hd b) ∧ wr.ownsRow w.heap.size 3 1 o a.length (intV (nats a)) ∧ Below w.heap.size w wr) (fun _ o _ => match o with | .slice _ k _ => K.length - k | _ => 0)
  case atStart => exact ⟨[], K, rfl, rfl, World.ownsRow_nil _ _ _ _, Below.refl _ _⟩
  case round =>
    obtain ⟨a, b, hab, rfl, hown, hbr⟩ := hrel
    obtain ⟨A, cap, rfl⟩ := own_slice hown
    cases b with
    | nil =>
      have hKa : K = a := by rw [hab, List.append_nil]
      have HK := Lib.hid hKa
      have HO := Lib.hid hown
      have HB := Lib.hid hbr
      clear hab hown hbr hKa h hK
      rw [show hd ([] : List Nat) = -1 from rfl]
      go_wp2
      go_ret
      exact ⟨⟨A, cap, by rw [HK.out]; rfl, by rw [HK.out]; exact HO.out⟩, HB.out⟩
    | cons x b =>
      have hxn := hK.1 x (by rw [hab]; simp)
      have hr := hK.2 a x b hab
      have hc0 := (h.below hbr).cells.1
      have hc4 := ((h.below hbr).at_ x hxn).c4
      rw [hr] at hc4
      have hlen : a.length + 1 ≤ K.length := by rw [hab]; simp
      have hab' : K = (a ++ [x]) ++ b := by rw [hab]; simp
      have HAB := Lib.hid hab'
      have HO := Lib.hid hown
      have HB := Lib.hid hbr
      have HRD := Lib.hid (reads_one_ wr x)
      have HH := Lib.hid (show PF w f lb n lc R fv ∧ (R.M x).r = hd b from ⟨h, hr⟩)
      have m1 := Lib.hid (show a.length + 1 ≤ maxLen from by unfold maxLen; omega)
      have m2 := Lib.hid (show (a.length + 1) * 8 ≤ 140737488355328 from by omega)
      rw [show hd (x :: b) = (x : Int) from rfl]
      obtain ⟨z, hz⟩ : ∃ z, z = hd b := ⟨_, rfl⟩
      rw [← hz] at hr hc4
      have HZ := Lib.hid hz
      clear hz
      clear hab hab' hown hbr h hK hr
      go_wp2_with (at_builtin; refine wpList_append_any _ rfl (.tmp 15) (.tmp 17) 29 rfl w.heap.size 3 i0 (.int .i64 0) 1 8 Try.underlying29 hi0 hz0 hz1 hz2 rfl (by decide) (.slice A a.length cap) a.length (intV (nats a)) rfl (HO.out.alloc _) (wr.heap.size + 1) (some ⟨wr.heap.size, 0, none⟩) 1 1 [.int .i64 x] rfl HRD.out (by simp [Value.oneCell']) m1.out m2.out (by have := HB.out.size; simp; omega) ?_; intro v' w7 hown' hgrow hat; (have hb7 : Below w.heap.size w w7 := (HB.out.alloc HB.out.size _).grown hgrow (by have := HB.out.size; simp; omega) (fun j e => ((HO.out.alloc (.cells #[.int .i64 x] 3)).lt j e).1)); (have q0 := (HH.out.1.below hb7).cells.1); (have q4 := ((HH.out.1.below hb7).at_ x hxn).c4); rw [HH.out.2, ← HZ.out] at q4; (have HB7 := Lib.hid hb7); clear hb7 hgrow hat hc0 hc4)
      obtain ⟨A7, c7, rfl⟩ := own_slice hown'
      go_roundw
      case rel => exact ⟨a ++ [x], b, HAB.out, by rw [HZ.out], by rw [nats_snoc, intV_app, List.length_append]; exact hown', HB7.out⟩
      case measure => simp; omega
end Go.Proofs.Ytoihldagpnkfoaa
