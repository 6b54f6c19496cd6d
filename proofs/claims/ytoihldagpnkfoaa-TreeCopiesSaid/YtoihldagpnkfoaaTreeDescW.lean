/- Descendants of the program's forest, by a walk: in preorder. Condition: the places are a forest's. -/
import Derived.Test.YtoihldagpnkfoaaTreeV
namespace Go.Proofs.Ytoihldagpnkfoaa
open Go.RowKit
set_option linter.unusedVariables false
set_option linter.unusedSimpArgs false

/-- The descendants, on memory of the call's own. -/
def DescPost (w : World) (ds : List Nat) (e : Ending) (w' : World) : Prop :=
  (∃ A cap, e = .returned (.slice A ds.length cap) ∧ w'.ownsRow w.heap.size 3 1 (.slice A ds.length cap) ds.length (intV (nats ds))) ∧ Below w.heap.size w w'
/-- Where the walk stands. -/
def DescAt (F : Fo) (x : Nat) (ds : List Nat) (w : World) (v o : Value) (wr : World) : Prop :=
  ∃ (i : Nat) (a t : List Nat), ds = a ++ t ∧ v = .int .i64 i ∧ At F x i t ∧ wr.ownsRow w.heap.size 3 1 o a.length (intV (nats a)) ∧ Below w.heap.size w wr
theorem desc_len {F : Fo} (hF : WF F) {x : Nat} {ds : List Nat} (hd : Flat F (F.kids (x : Int)) ds) : ds.length ≤ F.n :=
  nodup_le _ _ (hd.nodup hF (x : Int) (fun _ hh => hh) (hF.nd _)) fun i hi => hF.lt i ((desc_mem hF hd i).1 hi).there

set_option maxRecDepth 100000 in
set_option maxHeartbeats 4000000 in
theorem desc_is {w : World} {f lb lc : Nat} {R : Raw} {fv : Value} {F : Fo} (h : PF w f lb F.n lc R fv) (hR : Rep R F) (hF : WF F) (x : Nat) (hx : F.there x = true) {ds : List Nat} (hfl : Flat F (F.kids (x : Int)) ds) :
    Calls Try.prog 12 #[.pointer (some ⟨f, 0, none⟩), .int .i64 x] w (DescPost w ds) := by
  obtain ⟨i0, hi0, hz0, hz1, hz2⟩ := info_parts infoInt
  have CX := has_is h x
  rw [has_rep hR hF, show F.has (x : Int) = true by simp [Fo.has, hx]] at CX
  obtain ⟨ht, hht⟩ := hF.ht
  obtain ⟨H, hH⟩ := bounded ht F.n
  have hn2 := h.n2
  have hl := desc_len hF hfl
  have hcell : ∀ (W : World), Below w.heap.size w W → W.cell? ⟨f, 0, none⟩ = some (.slice (some ⟨lb, 0, none⟩) F.n lc) ∧ ∀ i, F.there i = true → i < F.n ∧ W.cell? ⟨lb, i * 5 + 1, none⟩ = some (.int .i64 (F.par i)) ∧ W.cell? ⟨lb, i * 5 + 2, none⟩ = some (.int .i64 (hd (F.kids (i : Int)))) ∧ W.cell? ⟨lb, i * 5 + 4, none⟩ = some (.int .i64 (nxt i (F.kids (F.par i)))) := by
    intro W hW
    have hP := h.below hW
    refine ⟨hP.cells.1, fun i hi => ?_⟩
    have hin := hF.lt i hi
    have hq := hP.at_ i hin
    rw [hR.at_ i hin] at hq
    have e : F.nod i = ⟨true, F.par i, hd (F.kids (i : Int)), prv i (F.kids (F.par i)), nxt i (F.kids (F.par i))⟩ := by simp [Fo.nod, hi]
    rw [e] at hq
    exact ⟨hin, hq.c1, hq.c2, hq.c4⟩
  have HC := Lib.hid hcell
  have HF := Lib.hid hF
  have hst := at_start hx hfl
  have HS := Lib.hid hst
  have HHT := Lib.hid hht
  have HHH := Lib.hid hH
  have hxt : F.there x = true := hx
  have HX := Lib.hid hxt
  clear h hR hcell hF hst hfl hht hH hx hxt
  go_enter Try.func12, Try.ntmps12
  go_wp2_with fail
  go_step3
  go_wp2_with (go_at_call 24; refine CX.mono ?_; rintro e w' ⟨rfl, rfl⟩)
  go_step3
  go_wp2
  go_loopw [5, 4] (fun v o wr => DescAt F x ds w v o wr) (fun _ o _ => match o with | .slice _ k _ => ds.length - k | _ => 0)
  case atStart => exact ⟨x, [], ds, rfl, rfl, HS.out, World.ownsRow_nil _ _ _ _, Below.refl _ _⟩
  case round =>
    obtain ⟨i, a, t, hat, rfl, hA, hown, hbr⟩ := hrel
    obtain ⟨A, cap, rfl⟩ := own_slice hown
    obtain ⟨c0, hcs⟩ := HC.out wr hbr
    obtain ⟨hin, c1, c2, c4⟩ := hcs i hA.1
    have HCS := Lib.hid hcs
    have hlen : a.length ≤ ds.length := by rw [hat]; simp
    have HAT := Lib.hid hat
    have HAA := Lib.hid hA
    have HO := Lib.hid hown
    have HB := Lib.hid hbr
    have hcase : F.kids (i : Int) = [] ∨ ∃ k s, F.kids (i : Int) = k :: s := by
      cases F.kids (i : Int) with
      | nil => exact .inl rfl
      | cons k s => exact .inr ⟨k, s, rfl⟩
    clear hcs hat hA hown hbr
    rcases hcase with hk | ⟨k, s, hk⟩
    · have hAf := at_leaf HAA.out hk
      rw [hk] at c2
      have HAF := Lib.hid hAf
      clear hAf hk
      rw [show hd ([] : List Nat) = -1 from rfl] at c2
      have hit := HAA.out.1
      have HIT := Lib.hid hit
      clear hit
      go_wp2_with fail
      clear c0 c1 c2 c4
      go_loopw [5] (fun v wv => ∃ j : Nat, v = .int .i64 j ∧ F.there j = true ∧ After F x j t ∧ wv = wr) (fun v _ => climbs ht H v)
      case atStart => exact ⟨i, rfl, HIT.out, HAF.out, rfl⟩
      case round =>
        obtain ⟨j, rfl, hj, hAj, rfl⟩ := hrel
        obtain ⟨hjn, d1, d2, d4⟩ := HCS.out j hj
        obtain ⟨d0, -⟩ := HC.out _ HB.out
        have HJ := Lib.hid hj
        have HAJ := Lib.hid hAj
        clear hj hAj
        by_cases hjx : j = x
        · subst hjx
          have ht0 := after_top HAJ.out
          have hds : ds = a := by rw [HAT.out, ht0]; simp
          have HDS := Lib.hid hds
          clear ht0 hds d0 d1 d2 d4
          go_wp2_with fail
          try rw [Exit.noGoto_ret]
          go_ret
          refine ⟨⟨A, cap, by rw [HDS.out]; rfl, by rw [HDS.out]; exact HO.out⟩, HB.out⟩
        · by_cases hnx : nxt j (F.kids (F.par j)) = -1
          · obtain ⟨q, hq1, -, hqt, hqA⟩ := after_up HF.out HAJ.out hjx hnx
            rw [hnx] at d4
            rw [hq1] at d1
            have hjx' : ¬ (j : Int) = (x : Int) := by omega
            have HQ := Lib.hid (And.intro hq1 (And.intro hqt hqA))
            clear hq1 hqt hqA hnx hjx
            go_wp2_with fail
            go_roundw
            case rel => exact ⟨q, rfl, HQ.out.2.1, HQ.out.2.2, trivial⟩
            case measure =>
              have h1 := HHT.out j q HJ.out HQ.out.1
              have h2 := HHH.out q (HC.out _ HB.out |>.2 q HQ.out.2.1).1
              have h3 := HHH.out j hjn
              have k1 : ¬ ((j : Nat) : Int) < 0 := by omega
              have k2 : ¬ ((q : Nat) : Int) < 0 := by omega
              simp only [climbs, k1, k2, if_false, Int.toNat_natCast]
              omega
          · obtain ⟨k, t', hk1, ht', hkA⟩ := after_next' HF.out HAJ.out hjx hnx
            rw [hk1] at d4
            have hjx' : ¬ (j : Int) = (x : Int) := by omega
            have hjx2 : ((j : Int) == (x : Int)) = false := by simpa using hjx'
            have hjx3 : ((j : Int) != (x : Int)) = true := by simpa using hjx'
            have hk0 : ((k : Int) == -1) = false := by simp
            have hab' : ds = (a ++ [k]) ++ t' := by rw [HAT.out, ht']; simp
            have hlen2 : a.length + 1 ≤ ds.length := by rw [hab']; simp
            have HAB := Lib.hid hab'
            have HA' := Lib.hid hkA
            have HRD := Lib.hid (reads_one_ wr k)
            have m1 := Lib.hid (show a.length + 1 ≤ maxLen from by unfold maxLen; omega)
            have m2 := Lib.hid (show (a.length + 1) * 8 ≤ 140737488355328 from by omega)
            clear hab' hkA ht' hk1 hnx hjx
            go_wp2_with (at_builtin; refine wpList_append_any _ rfl (.tmp 65) (.tmp 67) 29 rfl w.heap.size 3 i0 (.int .i64 0) 1 8 Try.underlying29 hi0 hz0 hz1 hz2 rfl (by decide) (.slice A a.length cap) a.length (intV (nats a)) rfl (HO.out.alloc _) (wr.heap.size + 1) (some ⟨wr.heap.size, 0, none⟩) 1 1 [.int .i64 k] rfl HRD.out (by simp [Value.oneCell']) m1.out m2.out (by have := HB.out.size; simp; omega) ?_; intro v' w7 hown' hgrow hat; (have HB7 := Lib.hid (show Below w.heap.size w w7 from (HB.out.alloc HB.out.size _).grown hgrow (by have := HB.out.size; simp; omega) (fun j e => ((HO.out.alloc (.cells #[.int .i64 k] 3)).lt j e).1))); clear hgrow hat d0 d1 d2 d4)
            obtain ⟨A7, c7, rfl⟩ := own_slice hown'
            go_roundw
            case rel => exact ⟨k, a ++ [k], t', HAB.out, rfl, HA'.out, by rw [nats_snoc, intV_app, List.length_append]; exact hown', HB7.out⟩
            case measure => simp; omega
    · obtain ⟨t', ht', hA'⟩ := at_down' HF.out HAA.out hk
      rw [hk] at c2
      rw [show hd (k :: s) = (k : Int) from rfl] at c2
      have hab' : ds = (a ++ [k]) ++ t' := by rw [HAT.out, ht']; simp
      have hlen2 : a.length + 1 ≤ ds.length := by rw [hab']; simp
      have HAB := Lib.hid hab'
      have HA' := Lib.hid hA'
      have HRD := Lib.hid (reads_one_ wr k)
      have m1 := Lib.hid (show a.length + 1 ≤ maxLen from by unfold maxLen; omega)
      have m2 := Lib.hid (show (a.length + 1) * 8 ≤ 140737488355328 from by omega)
      clear hab' hA' ht' hk
      go_wp2_with (at_builtin; refine wpList_append_any _ rfl (.tmp 28) (.tmp 30) 29 rfl w.heap.size 3 i0 (.int .i64 0) 1 8 Try.underlying29 hi0 hz0 hz1 hz2 rfl (by decide) (.slice A a.length cap) a.length (intV (nats a)) rfl (HO.out.alloc _) (wr.heap.size + 1) (some ⟨wr.heap.size, 0, none⟩) 1 1 [.int .i64 k] rfl HRD.out (by simp [Value.oneCell']) m1.out m2.out (by have := HB.out.size; simp; omega) ?_; intro v' w7 hown' hgrow hat; (have HB7 := Lib.hid (show Below w.heap.size w w7 from (HB.out.alloc HB.out.size _).grown hgrow (by have := HB.out.size; simp; omega) (fun j e => ((HO.out.alloc (.cells #[.int .i64 k] 3)).lt j e).1))); clear hgrow hat c0 c1 c2 c4)
      obtain ⟨A7, c7, rfl⟩ := own_slice hown'
      go_roundw
      case rel => exact ⟨k, a ++ [k], t', HAB.out, rfl, HA'.out, by rw [nats_snoc, intV_app, List.length_append]; exact hown', HB7.out⟩
      case measure => simp; omega
end Go.Proofs.Ytoihldagpnkfoaa
