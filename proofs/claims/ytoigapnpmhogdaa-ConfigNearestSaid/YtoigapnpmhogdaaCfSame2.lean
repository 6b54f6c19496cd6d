/- Same of the program, by a walk. -/
import Derived.Test.YtoigapnpmhogdaaCfSame
namespace Go.Proofs.Ytoigapnpmhogdaa
open Go.RowKit
set_option linter.unusedVariables false
set_option linter.unusedSimpArgs false

def sameN (c d : Nat → Int) : Bool := (List.range 14).all fun k => c k == d k
theorem sameN_yes {c d : Nat → Int} (h : ∀ k, k < 14 → c k = d k) : sameN c d = true := by
  unfold sameN
  rw [List.all_eq_true]
  intro k hk
  rw [beq_iff_eq]
  exact h k (List.mem_range.1 hk)
theorem sameN_no {c d : Nat → Int} (k : Nat) (hk : k < 14) (h : c k ≠ d k) : sameN c d = false := by
  cases e : sameN c d with
  | false => rfl
  | true =>
    unfold sameN at e
    rw [List.all_eq_true] at e
    have := e k (List.mem_range.2 hk)
    rw [beq_iff_eq] at this
    exact absurd this h
theorem bndV_at (b : Nat) : ∀ k, k < 14 → (bndV b)[k * 4 + 1]? = some (.iface (if k < 10 then 62 else 63) (.pointer (some ⟨b, k, none⟩)))
  | 0, _ => rfl
  | 1, _ => rfl
  | 2, _ => rfl
  | 3, _ => rfl
  | 4, _ => rfl
  | 5, _ => rfl
  | 6, _ => rfl
  | 7, _ => rfl
  | 8, _ => rfl
  | 9, _ => rfl
  | 10, _ => rfl
  | 11, _ => rfl
  | 12, _ => rfl
  | 13, _ => rfl
  | k + 14, h => absurd h (by omega)

/-- Two blocks laid, and filled whole. -/
theorem two_boxes (w : World) (Z a b : Array Value) (t : TypeId) (w' : World) (h : w' = ((((w.alloc (.cells Z t)).alloc (.cells Z t)).setRow w.heap.size a).setRow (w.heap.size + 1) b)) :
    Blk w' w.heap.size t a ∧ Blk w' (w.heap.size + 1) t b ∧ Below w.heap.size w w' := by
  subst h
  refine ⟨Blk.setRow_ (Blk.put_ ((Blk.new _ _ _).alloc _) a) (by omega) b, Blk.put_ (Blk.setRow_ (new2 _ _ _ _) (by omega) a) b, below_setRow (below_setRow (below2 w _ _) (Nat.le_refl _) a) (by omega) b⟩

set_option maxRecDepth 100000 in
set_option maxHeartbeats 8000000 in
theorem same_is (c d : Nat → Int) (A A' : Option Addr) (cap cap' : Nat) (L M : List (List UInt8)) (w : World) (h : PrAt w w.heap.size A L) (h' : PrAt w w.heap.size A' M) (hl : L.length < 2 ^ 62) (hl' : M.length < 2 ^ 62) :
    Calls Try.prog 25 #[.agg (cfV c (.slice A L.length cap)), .agg (cfV d (.slice A' M.length cap'))] w fun e w' => e = .returned (.bool (sameN c d && decide (L = M))) ∧ Below w.heap.size w w' := by
  have hb2 := below2 w (.cells (cfV c (.slice A L.length cap)) 25) (.cells (cfV d (.slice A' M.length cap')) 25)
  have B1 : Blk ((w.alloc (.cells (cfV c (.slice A L.length cap)) 25)).alloc (.cells (cfV d (.slice A' M.length cap')) 25)) w.heap.size 25 (cfV c (.slice A L.length cap)) := (Blk.new _ _ _).alloc _
  have B2 : Blk ((w.alloc (.cells (cfV c (.slice A L.length cap)) 25)).alloc (.cells (cfV d (.slice A' M.length cap')) 25)) (w.heap.size + 1) 25 (cfV d (.slice A' M.length cap')) := new2 _ _ _ _
  have hs2 : ((w.alloc (.cells (cfV c (.slice A L.length cap)) 25)).alloc (.cells (cfV d (.slice A' M.length cap')) 25)).heap.size = w.heap.size + 2 := by simp
  have h2 := h.below hb2
  have h2' := h'.below hb2
  obtain ⟨w2, hw2⟩ : ∃ w2, w2 = ((w.alloc (.cells (cfV c (.slice A L.length cap)) 25)).alloc (.cells (cfV d (.slice A' M.length cap')) 25)) := ⟨_, rfl⟩
  rw [← hw2] at hb2 B1 B2 hs2 h2 h2'
  have H2 := Lib.hid h2
  have H2' := Lib.hid h2'
  clear h h' h2 h2'
  obtain ⟨n, hn⟩ : ∃ n, n = L.length := ⟨_, rfl⟩
  obtain ⟨m, hm⟩ : ∃ n, n = M.length := ⟨_, rfl⟩
  rw [← hn] at hw2 B1 ⊢
  rw [← hm] at hw2 B2 ⊢
  have HN := Lib.hid hn
  have HM := Lib.hid hm
  clear hn hm
  go_enter Try.func25, Try.ntmps25
  go_wp2_with fail
  rw [← hw2]
  clear hw2
  refine (bounds_is w.heap.size w2 (by omega)).mono ?_
  rintro e w3 ⟨rfl, hb3⟩
  have C2 := bounds_is (w.heap.size + 1) w3 (by have := hb3.size; omega)
  go_wp2_with fail
  refine C2.mono ?_
  rintro e w4 ⟨rfl, hb4⟩
  have hsz4 : ∀ o : Obj, (w4.alloc o).heap.size = w4.heap.size + 1 := fun o => by simp
  go_wp2_with (first | (refine wpList_store_row rfl 46 (.tmp 5) (.tmp 8) rfl w4.heap.size (bndV w.heap.size) rfl rfl 46 _ ((Blk.new _ _ _).alloc _) (by kernel_rfl) rfl (by simp [bndV, Value.oneCell']) ?_) | (refine wpList_store_row rfl 46 (.tmp 6) (.tmp 9) rfl (w4.heap.size + 1) (bndV (w.heap.size + 1)) rfl rfl 46 _ (Blk.setRow_ (new2 _ _ _ _) (by omega) _) (by kernel_rfl) rfl (by simp [bndV, Value.oneCell']) ?_))
  obtain ⟨w5, hw5⟩ : ∃ w5, w5 = ((((w4.alloc (.cells #[.string ⟨#[]⟩, .nilIface, .int .i64 0, .int .i64 0, .string ⟨#[]⟩, .nilIface, .int .i64 0, .int .i64 0, .string ⟨#[]⟩, .nilIface, .int .i64 0, .int .i64 0, .string ⟨#[]⟩, .nilIface, .int .i64 0, .int .i64 0, .string ⟨#[]⟩, .nilIface, .int .i64 0, .int .i64 0, .string ⟨#[]⟩, .nilIface, .int .i64 0, .int .i64 0, .string ⟨#[]⟩, .nilIface, .int .i64 0, .int .i64 0, .string ⟨#[]⟩, .nilIface, .int .i64 0, .int .i64 0, .string ⟨#[]⟩, .nilIface, .int .i64 0, .int .i64 0, .string ⟨#[]⟩, .nilIface, .int .i64 0, .int .i64 0, .string ⟨#[]⟩, .nilIface, .int .i64 0, .int .i64 0, .string ⟨#[]⟩, .nilIface, .int .i64 0, .int .i64 0, .string ⟨#[]⟩, .nilIface, .int .i64 0, .int .i64 0, .string ⟨#[]⟩, .nilIface, .int .i64 0, .int .i64 0] 46)).alloc (.cells #[.string ⟨#[]⟩, .nilIface, .int .i64 0, .int .i64 0, .string ⟨#[]⟩, .nilIface, .int .i64 0, .int .i64 0, .string ⟨#[]⟩, .nilIface, .int .i64 0, .int .i64 0, .string ⟨#[]⟩, .nilIface, .int .i64 0, .int .i64 0, .string ⟨#[]⟩, .nilIface, .int .i64 0, .int .i64 0, .string ⟨#[]⟩, .nilIface, .int .i64 0, .int .i64 0, .string ⟨#[]⟩, .nilIface, .int .i64 0, .int .i64 0, .string ⟨#[]⟩, .nilIface, .int .i64 0, .int .i64 0, .string ⟨#[]⟩, .nilIface, .int .i64 0, .int .i64 0, .string ⟨#[]⟩, .nilIface, .int .i64 0, .int .i64 0, .string ⟨#[]⟩, .nilIface, .int .i64 0, .int .i64 0, .string ⟨#[]⟩, .nilIface, .int .i64 0, .int .i64 0, .string ⟨#[]⟩, .nilIface, .int .i64 0, .int .i64 0, .string ⟨#[]⟩, .nilIface, .int .i64 0, .int .i64 0] 46)).setRow w4.heap.size (bndV w.heap.size)).setRow (w4.heap.size + 1) (bndV (w.heap.size + 1))) := ⟨_, rfl⟩
  rw [← hw5]
  obtain ⟨B3, B4, hb5⟩ := two_boxes w4 _ _ _ _ w5 hw5
  clear hw5 C2 hsz4
  have hb35 : Below w2.heap.size w2 w5 := hb3.trans ((hb4.mono hb3.size).trans (hb5.mono (by have := hb3.size; have := hb4.size; omega)))
  have hbw : Below w.heap.size w w5 := hb2.trans (hb35.mono hb2.size)
  have B1' := B1.below hb35 B1.lt
  have B2' := B2.below hb35 B2.lt
  have h2 := H2.out.below (hb35.mono (by omega))
  have h2' := H2'.out.below (hb35.mono (by omega))
  have H3 := Lib.hid h2
  have H3' := Lib.hid h2'
  clear h2 h2' H2 H2' B1 B2 hb2 hb3 hb4 hb5 hb35
  go_loopw [10] (fun i wr => ∃ k : Nat, k ≤ 14 ∧ i = .int .i64 k ∧ Below w5.heap.size w5 wr ∧ ∀ j, j < k → c j = d j) (fun i _ => 14 - (intOf i).toNat)
  case atStart => exact ⟨0, Nat.zero_le _, rfl, Below.refl _ _, fun j hj => absurd hj (by omega)⟩
  case round =>
    obtain ⟨k, hk, rfl, hbr, hno⟩ := hrel
    have HNO := Lib.hid hno
    clear hno
    have R1 := B1'.below hbr B1'.lt
    have R2 := B2'.below hbr B2'.lt
    have R3 := B3.below hbr B3.lt
    have R4 := B4.below hbr B4.lt
    by_cases hlt : k < 14
    · have hk1 : (k : Int) < 14 := by omega
      have hk0 : (0 : Int) ≤ (k : Int) := by omega
      have X1 := (R3.cell (k * 4 + 1)).trans (bndV_at _ k hlt)
      have X2 := (R4.cell (k * 4 + 1)).trans (bndV_at _ k hlt)
      have C := alike_is k ⟨w.heap.size, k, none⟩ ⟨w.heap.size + 1, k, none⟩ (c k) (d k) wr.drew ((R1.cell k).trans (cfV_get c _ k hlt)) ((R2.cell k).trans (cfV_get d _ k hlt))
      obtain ⟨r, hr0⟩ : ∃ r, r = (c k == d k) := ⟨_, rfl⟩
      rw [← hr0] at C
      have HR := Lib.hid hr0
      clear hr0 R1 R2 R3 R4
      generalize (if k < 10 then 62 else 63) = ty at *
      cases r with
      | true =>
        have hcd : Hid (c k = d k) := Lib.hid (by have := HR.out; rw [eq_comm, beq_iff_eq] at this; exact this)
        go_wp2_with fail
        go_region_with (go_at_call 34; refine C.mono ?_; rintro e wz ⟨rfl, hz⟩)
        all_goals
          go_wp2_with fail
          go_roundw
          case rel =>
            refine ⟨k + 1, by omega, by go_num, hbr.drew.trans (hz.mono hbr.drew.size), fun j hj => ?_⟩
            by_cases hjk' : j < k
            · exact HNO.out j hjk'
            · obtain rfl : j = k := by omega
              exact hcd.out
          case measure => simp [intOf]; omega
      | false =>
        have hcd : Hid (c k ≠ d k) := Lib.hid (by have := HR.out; intro e; rw [e] at this; simp at this)
        have hS := Lib.hid (sameN_no k hlt hcd.out)
        go_wp2_with fail
        go_region_with (go_at_call 34; refine C.mono ?_; rintro e wz ⟨rfl, hz⟩)
        all_goals
          go_wp2_with fail
          go_ret
          exact ⟨by rw [hS.out]; rfl, hbw.trans ((hbr.drew.trans (hz.mono hbr.drew.size)).mono hbw.size)⟩
    · obtain rfl : k = 14 := by omega
      have hS := Lib.hid (sameN_yes HNO.out)
      have X1 := (R1.cell 14).trans (cfV_last c _)
      have X2 := (R2.cell 14).trans (cfV_last d _)
      have h2 := H3.out.below (hbr.mono hbw.size)
      have h2' := H3'.out.below (hbr.mono hbw.size)
      have C := equalFunc_is w.heap.size A A' cap cap' L M wr h2 h2' hl hl'
      rw [← HN.out, ← HM.out] at C
      obtain ⟨r, hr0⟩ : ∃ r, r = decide (L = M) := ⟨_, rfl⟩
      rw [← hr0] at C
      have HR := Lib.hid hr0
      clear hr0 R1 R2 R3 R4 h2 h2' H3 H3' B1' B2' B3 B4
      go_wp2_with (go_at_call 35; refine C.mono ?_; rintro e wz ⟨rfl, rfl⟩)
      go_ret
      exact ⟨by rw [hS.out, ← HR.out]; rfl, hbw.trans (hbr.mono hbw.size)⟩
end Go.Proofs.Ytoigapnpmhogdaa
