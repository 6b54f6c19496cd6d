/- Nearest of the reference, by a walk. -/
import Derived.Test.YtoigapnpmhogdaaCfNear
import Derived.Test.YtoigapnpmhogdaaCfEdges
import Derived.Test.YtoigapnpmhogdaaCfPlainLaw
import Derived.Deep.RegionLaw
namespace Go.Proofs.Ytoigapnpmhogdaa
open Go.RowKit
set_option linter.unusedVariables false
set_option linter.unusedSimpArgs false

theorem step_store {ops : Array Oper} {o : Oper} {a : Act} {w : World} {K : Act → World → Prop} {Q : Exit → Act → World → Prop} {E : Prop} {c c0 : Nat → Int} {P0 : Value} {A : Option Addr} {n cap g : Nat}
    (hB : Blk w g 25 (cfV c0 P0)) (x v : Operand) (ho : o.op = .store 25 x v) (hx : a.eval x = .pointer (some ⟨g, 0, none⟩)) (hv : a.eval v = .agg (cfV c (.slice A n cap))) (hgd : Region.wanted o (yielded ops a.tmps) = true)
    (h : K (a.put o.dst undef) (w.setRow g (cfV c (.slice A n cap)))) : if Region.wanted o (yielded ops a.tmps) = true then Oper.wp Try.prog o a w K Q else E := by
  rw [if_pos hgd]
  exact wp_store_row 25 x v ho g _ hx hv 25 _ hB (by kernel_rfl) rfl (by simp [cfV, Value.oneCell']) h
theorem toN_small (k : Nat) (hk : k < 14) (v : Int) (h0 : 0 ≤ v) (h1 : v ≤ 4294967296) : toN k v = v := by
  unfold toN
  split
  · unfold wrap64; omega
  · rfl
theorem cfV_congr {c d : Nat → Int} (P : Value) (h : ∀ j, j < 14 → c j = d j) : cfV c P = cfV d P := by
  unfold cfV
  rw [h 0 (by omega), h 1 (by omega), h 2 (by omega), h 3 (by omega), h 4 (by omega), h 5 (by omega), h 6 (by omega), h 7 (by omega), h 8 (by omega), h 9 (by omega), h 10 (by omega), h 11 (by omega), h 12 (by omega), h 13 (by omega)]
theorem upd_cl (c : Nat → Int) (P : Value) (k : Nat) (v : Int) (h : toN k v = cl k (c k)) : cfV (upd (clN c k) k v) P = cfV (clN c (k + 1)) P := cfV_congr P fun j _ => by
  unfold upd clN
  by_cases e : j = k
  · subst e; rw [if_pos rfl, if_pos (by omega), h]
  · rw [if_neg e]
    by_cases h2 : j < k
    · rw [if_pos h2, if_pos (by omega)]
    · rw [if_neg h2, if_neg (by omega)]
theorem clN_same (c : Nat → Int) (P : Value) (k : Nat) (h : cl k (c k) = c k) : cfV (clN c k) P = cfV (clN c (k + 1)) P := cfV_congr P fun j _ => by
  unfold clN
  by_cases e : j = k
  · subst e; rw [if_neg (by omega), if_pos (by omega), h]
  · by_cases h2 : j < k
    · rw [if_pos h2, if_pos (by omega)]
    · rw [if_neg h2, if_neg (by omega)]

theorem RowsAt.base {w : World} {H H' : Nat} {cs : Array Value} {L : List (List UInt8)} (h : RowsAt w H cs L) (hH : H' ≤ H) : RowsAt w H' cs L := fun i l hi => by
  obtain ⟨Ai, ci, q1, q2, q3, q4⟩ := h i l hi
  exact ⟨Ai, ci, q1, q2, q3, fun hm => by
    obtain ⟨gi, cur, a, b, c, d⟩ := q4 hm
    exact ⟨gi, cur, a, by omega, c, d⟩⟩
theorem Reads.pre {w : World} {B n m : Nat} {A : Option Addr} {xs : List Value} (h : Reads w B 1 A n xs) (hm : m ≤ n) : Reads w B 1 A m (xs.take m) := by
  refine ⟨by rw [List.length_take, h.1]; omega, fun hp => ?_⟩
  obtain ⟨ad, e, hb, hc⟩ := h.2 (by omega)
  refine ⟨ad, e, hb, fun j u hu => hc j u ?_⟩
  have hj : j < m := by
    rcases Nat.lt_or_ge j m with h1 | h1
    · exact h1
    · rw [List.getElem?_eq_none (by rw [List.length_take]; omega)] at hu; cases hu
  rwa [List.getElem?_take_of_lt hj] at hu
theorem nearL_some {L : List (List UInt8)} {k : Nat} (hL : L ≠ []) (hk : k = min L.length 16) : nearL L = (L.take k).map fun l => l.take 1024 := by
  unfold nearL
  rw [if_neg hL]
  congr 1
  subst hk
  rcases Nat.le_total L.length 16 with h | h
  · rw [Nat.min_eq_left h, List.take_of_length_le h, List.take_of_length_le (Nat.le_refl _)]
  · rw [Nat.min_eq_right h]

set_option maxHeartbeats 1000000 in
theorem refPlain_blk (w : World) :
    Calls Try.prog 24 #[] w fun e w' => ∃ g g', e = .returned (.agg (cfV plc (.slice (some ⟨g, 0, none⟩) 1 1))) ∧ w.heap.size ≤ g ∧ w.heap.size ≤ g' ∧ Blk w' g 43 #[.slice (some ⟨g', 0, none⟩) 8 8] ∧ Blk w' g' 5 (plP.map byteV).toArray ∧ Below w.heap.size w w' := by
  obtain ⟨d, hu1, hu2⟩ := underCf
  go_enter Try.func24, Try.ntmps24
  go_wp2_with fail
  obtain ⟨t1, t2, t3⟩ := three w (.cells (cfV plc (.slice (some ⟨w.heap.size + 1 + 1, 0, none⟩) 1 1)) 25) (plP.map byteV).toArray #[.slice (some ⟨w.heap.size + 1, 0, none⟩) 8 8] 5 43
  exact bodyPost_ret (results_cell_row (P := Try.prog) rfl _ _ w.heap.size 25 (cfV plc (.slice (some ⟨w.heap.size + 1 + 1, 0, none⟩) 1 1)) (0, 0) d rfl (((Blk.new w 25 (cfV plc (.slice (some ⟨w.heap.size + 1 + 1, 0, none⟩) 1 1))).alloc _).alloc _) hu1 (by cases d <;> first | rfl | exact absurd hu2 Bool.false_ne_true) (by kernel_rfl)) rfl ⟨_, _, rfl, by omega, by omega, t2, t1, t3⟩

set_option maxRecDepth 100000 in
set_option maxHeartbeats 8000000 in
theorem refNear_is (c : Nat → Int) (A : Option Addr) (cap : Nat) (L : List (List UInt8)) (w : World) (h : PrAt w w.heap.size A L) (hl : L.length ≤ 40) (hl2 : ∀ x ∈ L, x.length ≤ 40000) :
    Calls Try.prog 23 #[.agg (cfV c (.slice A L.length cap))] w fun e w' => ∃ g cs capn, e = .returned (.agg (cfV (nearC c) (.slice (some ⟨g, 0, none⟩) (nearL L).length capn))) ∧ w.heap.size ≤ g ∧ Blk w' g 43 cs ∧ RowsAt w' w.heap.size cs (nearL L) ∧ Below w.heap.size w w' := by
  obtain ⟨zz, hzz⟩ : ∃ z : Array Value, z = #[.int .i64 0, .int .i64 0, .int .i64 0, .int .i64 0, .int .i64 0, .int .i64 0, .int .i64 0, .int .i64 0, .int .i64 0, .int .i64 0, .int .u64 0, .int .u64 0, .int .u64 0, .int .u64 0, .slice none 0 0] := ⟨_, rfl⟩
  have hb := below2 w (.cells (cfV c (.slice A L.length cap)) 25) (.cells zz 25)
  have HB : Blk ((w.alloc (.cells (cfV c (.slice A L.length cap)) 25)).alloc (.cells zz 25)) w.heap.size 25 (cfV c (.slice A L.length cap)) := (Blk.new _ _ _).alloc _
  have B2 : Blk ((w.alloc (.cells (cfV c (.slice A L.length cap)) 25)).alloc (.cells zz 25)) (w.heap.size + 1) 25 zz := new2 _ _ _ _
  obtain ⟨w2, hw2⟩ : ∃ w2, w2 = ((w.alloc (.cells (cfV c (.slice A L.length cap)) 25)).alloc (.cells zz 25)) := ⟨_, rfl⟩
  rw [← hw2] at hb HB B2
  have HP := Lib.hid h
  have HL2 := Lib.hid hl2
  rw [hzz] at hw2
  have HZ := Lib.hid hzz
  have CO := fun P k hk => out_is (clN c k) P k hk
  have CS := fun k (hk : k < 14) v wx => set_is (clN c k) A L.length cap v wx k hk
  clear h hzz hl2
  go_enter Try.func23, Try.ntmps23
  go_wp2_with fail
  rw [← hw2]
  clear hw2
  go_loopw [3] (fun i wr => ∃ k : Nat, k ≤ 14 ∧ i = .int .i64 k ∧ Blk wr w.heap.size 25 (cfV (clN c k) (.slice A L.length cap)) ∧ Below w.heap.size w wr ∧ Blk wr (w.heap.size + 1) 25 zz) (fun i _ => 14 - (intOf i).toNat)
  case atStart => exact ⟨0, Nat.zero_le _, rfl, by rw [clN_zero]; exact HB, hb, B2⟩
  case round =>
    clear HB hb B2
    obtain ⟨k, hk, rfl, HB, hb, B2⟩ := hrel
    by_cases hlt : k < 14
    · have hk1 : (k : Int) < 14 := by omega
      have hk0 : (0 : Int) ≤ (k : Int) := by omega
      have C := CO (.slice A L.length cap) k hlt
      rw [clN_at] at C
      have CL := leastC k hlt
      have CMo := mostC k hlt
      obtain ⟨r1, r2, r3⟩ := lo_hi k hlt
      rcases (show c k < lo k ∨ (lo k ≤ c k ∧ hi k < c k) ∨ (lo k ≤ c k ∧ c k ≤ hi k) from by omega) with q | ⟨q, q'⟩ | ⟨q, q'⟩
      · have ho : outN k (c k) = -1 := if_pos q
        have HUP := Lib.hid (upd_cl c (.slice A L.length cap) k (lo k) (by rw [toN_small k hlt _ r2 (by omega)]; exact (if_pos q).symm))
        rw [ho] at C
        have CS1 := CS k hlt (lo k)
        obtain ⟨l, hl0⟩ : ∃ l, l = lo k := ⟨_, rfl⟩
        rw [← hl0] at CL CS1 HUP
        clear ho q r1 r2 r3 CO CS CMo hl0
        go_upto_region 5 with (first | (refine load_cfg HB _ rfl rfl rfl ?_) | (go_at_call 20; refine (C _).mono ?_; rintro e wz ⟨rfl, hz⟩; (replace HB := HB.below hz HB.lt); (replace B2 := B2.below hz B2.lt); (replace hb := hb.trans (hz.mono hb.size)); clear hz))
        replace HB : Blk wz.drew w.heap.size 25 (cfV (clN c k) (.slice A L.length cap)) := HB
        replace B2 : Blk wz.drew (w.heap.size + 1) 25 zz := B2
        replace hb := hb.drew
        refine wp_region_any (by kernel_rfl) ?_
        change wpAny _ _ _ _ _ _ _ (World.drew _)
        refine wpAny_take (i := 1) (v := .int .i64 k) rfl (by kernel_rfl) (by kernel_rfl) (by kernel_rfl) (fun _ _ _ h => h) (Or.inl ⟨by kernel_rfl, by intro w'; go_simp; first | done | (with_reducible rfl)⟩) ?_
        (try simp only [Act.put, List.getElem_toArray, List.getElem_cons_zero, List.getElem_cons_succ, List.setIfInBounds_toArray, List.set_cons_zero, List.set_cons_succ])
        refine wpAny_take (i := 3) (v := .int .i64 k) rfl (by kernel_rfl) (by kernel_rfl) (by kernel_rfl) (fun _ _ _ h => h) (Or.inl ⟨by kernel_rfl, by intro w'; go_simp; first | done | (with_reducible rfl)⟩) ?_
        (try simp only [Act.put, List.getElem_toArray, List.getElem_cons_zero, List.getElem_cons_succ, List.setIfInBounds_toArray, List.set_cons_zero, List.set_cons_succ])
        refine wpAny_ready (rs := [0, 2]) (by kernel_rfl) (by simp) ?_
        refine AllReady.cons rfl (fun K hK => ?_) (AllReady.cons rfl (fun K hK => ?_) AllReady.nil)
        · refine step_cfg HB _ rfl (by kernel_rfl) (by kernel_rfl) ?_
          refine hK _ _ ?_
          clear hK K
          (try simp only [Act.put, List.getElem_toArray, List.getElem_cons_zero, List.getElem_cons_succ, List.setIfInBounds_toArray, List.set_cons_zero, List.set_cons_succ])
          refine wpAny_ready (rs := [2]) (by kernel_rfl) (by simp) ?_
          refine AllReady.cons rfl (fun K hK => ?_) AllReady.nil
          go_simp
          go_at_call 16; refine (CL _).mono ?_; rintro e wl ⟨gl, rfl, hgl, hcl, hz⟩; (replace HB := HB.below hz HB.lt); (replace B2 := B2.below hz B2.lt); (replace hb := hb.trans (hz.mono hb.size)); clear hz
          dsimp only
          refine hK _ _ ?_
          clear hK K
          (try simp only [Act.put, List.getElem_toArray, List.getElem_cons_zero, List.getElem_cons_succ, List.setIfInBounds_toArray, List.set_cons_zero, List.set_cons_succ])
          refine wpAny_take (i := 4) (v := .pointer (some ⟨gl, k, none⟩)) rfl (by kernel_rfl) (by kernel_rfl) (by kernel_rfl) (fun _ _ _ h => h) (Or.inl ⟨by kernel_rfl, by intro w'; go_simp; first | done | (with_reducible rfl)⟩) ?_
          (try simp only [Act.put, List.getElem_toArray, List.getElem_cons_zero, List.getElem_cons_succ, List.setIfInBounds_toArray, List.set_cons_zero, List.set_cons_succ])
          refine wpAny_ready (rs := [5]) (by kernel_rfl) (by simp) ?_
          refine AllReady.cons rfl (fun K hK => ?_) AllReady.nil
          go_simp
          refine hK _ _ ?_
          clear hK K
          (try simp only [Act.put, List.getElem_toArray, List.getElem_cons_zero, List.getElem_cons_succ, List.setIfInBounds_toArray, List.set_cons_zero, List.set_cons_succ])
          refine wpAny_ready (rs := [6]) (by kernel_rfl) (by simp) ?_
          refine AllReady.cons rfl (fun K hK => ?_) AllReady.nil
          go_simp
          go_at_call 19; refine (CS1 _).mono ?_; rintro e ws ⟨rfl, hz⟩; (replace HB := HB.below hz HB.lt); (replace B2 := B2.below hz B2.lt); (replace hb := hb.trans (hz.mono hb.size)); (try (replace hcl := (hz.cell (p := ⟨gl, k, none⟩) hgl).trans hcl)); (try (replace hgl := Nat.lt_of_lt_of_le hgl hz.size)); clear hz
          dsimp only
          refine hK _ _ ?_
          clear hK K
          (try simp only [Act.put, List.getElem_toArray, List.getElem_cons_zero, List.getElem_cons_succ, List.setIfInBounds_toArray, List.set_cons_zero, List.set_cons_succ])
          refine wpAny_ready (rs := [7]) (by kernel_rfl) (by simp) ?_
          refine AllReady.cons rfl (fun K hK => ?_) AllReady.nil
          refine step_store (c := upd (clN c k) k l) (A := A) (n := L.length) (cap := cap) HB _ _ rfl (by kernel_rfl) (by kernel_rfl) (by kernel_rfl) ?_
          refine hK _ _ ?_
          clear hK K
          (try simp only [Act.put, List.getElem_toArray, List.getElem_cons_zero, List.getElem_cons_succ, List.setIfInBounds_toArray, List.set_cons_zero, List.set_cons_succ])
          refine wpAny_done (by kernel_rfl) ?_ _
          go_wp2_with fail
          go_roundw
          case rel => exact ⟨k + 1, by omega, by go_num, HUP.out ▸ HB.put_ _, below_setRow hb (Nat.le_refl _) _, B2.setRow_ (by omega) _⟩
          case measure => simp [intOf]; omega
        · go_simp
          go_at_call 16; refine (CL _).mono ?_; rintro e wl ⟨gl, rfl, hgl, hcl, hz⟩; (replace HB := HB.below hz HB.lt); (replace B2 := B2.below hz B2.lt); (replace hb := hb.trans (hz.mono hb.size)); clear hz
          dsimp only
          refine hK _ _ ?_
          clear hK K
          (try simp only [Act.put, List.getElem_toArray, List.getElem_cons_zero, List.getElem_cons_succ, List.setIfInBounds_toArray, List.set_cons_zero, List.set_cons_succ])
          refine wpAny_take (i := 4) (v := .pointer (some ⟨gl, k, none⟩)) rfl (by kernel_rfl) (by kernel_rfl) (by kernel_rfl) (fun _ _ _ h => h) (Or.inl ⟨by kernel_rfl, by intro w'; go_simp; first | done | (with_reducible rfl)⟩) ?_
          (try simp only [Act.put, List.getElem_toArray, List.getElem_cons_zero, List.getElem_cons_succ, List.setIfInBounds_toArray, List.set_cons_zero, List.set_cons_succ])
          refine wpAny_ready (rs := [0, 5]) (by kernel_rfl) (by simp) ?_
          refine AllReady.cons rfl (fun K hK => ?_) (AllReady.cons rfl (fun K hK => ?_) AllReady.nil)
          · refine step_cfg HB _ rfl (by kernel_rfl) (by kernel_rfl) ?_
            refine hK _ _ ?_
            clear hK K
            (try simp only [Act.put, List.getElem_toArray, List.getElem_cons_zero, List.getElem_cons_succ, List.setIfInBounds_toArray, List.set_cons_zero, List.set_cons_succ])
            refine wpAny_ready (rs := [5]) (by kernel_rfl) (by simp) ?_
            refine AllReady.cons rfl (fun K hK => ?_) AllReady.nil
            go_simp
            refine hK _ _ ?_
            clear hK K
            (try simp only [Act.put, List.getElem_toArray, List.getElem_cons_zero, List.getElem_cons_succ, List.setIfInBounds_toArray, List.set_cons_zero, List.set_cons_succ])
            refine wpAny_ready (rs := [6]) (by kernel_rfl) (by simp) ?_
            refine AllReady.cons rfl (fun K hK => ?_) AllReady.nil
            go_simp
            go_at_call 19; refine (CS1 _).mono ?_; rintro e ws ⟨rfl, hz⟩; (replace HB := HB.below hz HB.lt); (replace B2 := B2.below hz B2.lt); (replace hb := hb.trans (hz.mono hb.size)); (try (replace hcl := (hz.cell (p := ⟨gl, k, none⟩) hgl).trans hcl)); (try (replace hgl := Nat.lt_of_lt_of_le hgl hz.size)); clear hz
            dsimp only
            refine hK _ _ ?_
            clear hK K
            (try simp only [Act.put, List.getElem_toArray, List.getElem_cons_zero, List.getElem_cons_succ, List.setIfInBounds_toArray, List.set_cons_zero, List.set_cons_succ])
            refine wpAny_ready (rs := [7]) (by kernel_rfl) (by simp) ?_
            refine AllReady.cons rfl (fun K hK => ?_) AllReady.nil
            refine step_store (c := upd (clN c k) k l) (A := A) (n := L.length) (cap := cap) HB _ _ rfl (by kernel_rfl) (by kernel_rfl) (by kernel_rfl) ?_
            refine hK _ _ ?_
            clear hK K
            (try simp only [Act.put, List.getElem_toArray, List.getElem_cons_zero, List.getElem_cons_succ, List.setIfInBounds_toArray, List.set_cons_zero, List.set_cons_succ])
            refine wpAny_done (by kernel_rfl) ?_ _
            go_wp2_with fail
            go_roundw
            case rel => exact ⟨k + 1, by omega, by go_num, HUP.out ▸ HB.put_ _, below_setRow hb (Nat.le_refl _) _, B2.setRow_ (by omega) _⟩
            case measure => simp [intOf]; omega
          · go_simp
            refine hK _ _ ?_
            clear hK K
            (try simp only [Act.put, List.getElem_toArray, List.getElem_cons_zero, List.getElem_cons_succ, List.setIfInBounds_toArray, List.set_cons_zero, List.set_cons_succ])
            refine wpAny_ready (rs := [0]) (by kernel_rfl) (by simp) ?_
            refine AllReady.cons rfl (fun K hK => ?_) AllReady.nil
            refine step_cfg HB _ rfl (by kernel_rfl) (by kernel_rfl) ?_
            refine hK _ _ ?_
            clear hK K
            (try simp only [Act.put, List.getElem_toArray, List.getElem_cons_zero, List.getElem_cons_succ, List.setIfInBounds_toArray, List.set_cons_zero, List.set_cons_succ])
            refine wpAny_ready (rs := [6]) (by kernel_rfl) (by simp) ?_
            refine AllReady.cons rfl (fun K hK => ?_) AllReady.nil
            go_simp
            go_at_call 19; refine (CS1 _).mono ?_; rintro e ws ⟨rfl, hz⟩; (replace HB := HB.below hz HB.lt); (replace B2 := B2.below hz B2.lt); (replace hb := hb.trans (hz.mono hb.size)); (try (replace hcl := (hz.cell (p := ⟨gl, k, none⟩) hgl).trans hcl)); (try (replace hgl := Nat.lt_of_lt_of_le hgl hz.size)); clear hz
            dsimp only
            refine hK _ _ ?_
            clear hK K
            (try simp only [Act.put, List.getElem_toArray, List.getElem_cons_zero, List.getElem_cons_succ, List.setIfInBounds_toArray, List.set_cons_zero, List.set_cons_succ])
            refine wpAny_ready (rs := [7]) (by kernel_rfl) (by simp) ?_
            refine AllReady.cons rfl (fun K hK => ?_) AllReady.nil
            refine step_store (c := upd (clN c k) k l) (A := A) (n := L.length) (cap := cap) HB _ _ rfl (by kernel_rfl) (by kernel_rfl) (by kernel_rfl) ?_
            refine hK _ _ ?_
            clear hK K
            (try simp only [Act.put, List.getElem_toArray, List.getElem_cons_zero, List.getElem_cons_succ, List.setIfInBounds_toArray, List.set_cons_zero, List.set_cons_succ])
            refine wpAny_done (by kernel_rfl) ?_ _
            go_wp2_with fail
            go_roundw
            case rel => exact ⟨k + 1, by omega, by go_num, HUP.out ▸ HB.put_ _, below_setRow hb (Nat.le_refl _) _, B2.setRow_ (by omega) _⟩
            case measure => simp [intOf]; omega
      · have ho : outN k (c k) = 1 := by unfold outN; rw [if_neg (by omega), if_pos q']
        have HUP := Lib.hid (upd_cl c (.slice A L.length cap) k (hi k) (by rw [toN_small k hlt _ (by omega) r3]; unfold cl; rw [if_neg (by omega), if_pos q']))
        rw [ho] at C
        have CS1 := CS k hlt (hi k)
        obtain ⟨l, hl0⟩ : ∃ l, l = hi k := ⟨_, rfl⟩
        rw [← hl0] at CMo CS1 HUP
        clear ho q q' r1 r2 r3 CO CS CL hl0
        go_upto_region 7 with (first | (refine load_cfg HB _ rfl rfl rfl ?_) | (go_at_call 20; refine (C _).mono ?_; rintro e wz ⟨rfl, hz⟩; (replace HB := HB.below hz HB.lt); (replace B2 := B2.below hz B2.lt); (replace hb := hb.trans (hz.mono hb.size)); clear hz))
        replace HB : Blk wz.drew w.heap.size 25 (cfV (clN c k) (.slice A L.length cap)) := HB
        replace B2 : Blk wz.drew (w.heap.size + 1) 25 zz := B2
        replace hb := hb.drew
        refine wp_region_any (by kernel_rfl) ?_
        change wpAny _ _ _ _ _ _ _ (World.drew _)
        refine wpAny_take (i := 1) (v := .int .i64 k) rfl (by kernel_rfl) (by kernel_rfl) (by kernel_rfl) (fun _ _ _ h => h) (Or.inl ⟨by kernel_rfl, by intro w'; go_simp; first | done | (with_reducible rfl)⟩) ?_
        (try simp only [Act.put, List.getElem_toArray, List.getElem_cons_zero, List.getElem_cons_succ, List.setIfInBounds_toArray, List.set_cons_zero, List.set_cons_succ])
        refine wpAny_take (i := 3) (v := .int .i64 k) rfl (by kernel_rfl) (by kernel_rfl) (by kernel_rfl) (fun _ _ _ h => h) (Or.inl ⟨by kernel_rfl, by intro w'; go_simp; first | done | (with_reducible rfl)⟩) ?_
        (try simp only [Act.put, List.getElem_toArray, List.getElem_cons_zero, List.getElem_cons_succ, List.setIfInBounds_toArray, List.set_cons_zero, List.set_cons_succ])
        refine wpAny_ready (rs := [0, 2]) (by kernel_rfl) (by simp) ?_
        refine AllReady.cons rfl (fun K hK => ?_) (AllReady.cons rfl (fun K hK => ?_) AllReady.nil)
        · refine step_cfg HB _ rfl (by kernel_rfl) (by kernel_rfl) ?_
          refine hK _ _ ?_
          clear hK K
          (try simp only [Act.put, List.getElem_toArray, List.getElem_cons_zero, List.getElem_cons_succ, List.setIfInBounds_toArray, List.set_cons_zero, List.set_cons_succ])
          refine wpAny_ready (rs := [2]) (by kernel_rfl) (by simp) ?_
          refine AllReady.cons rfl (fun K hK => ?_) AllReady.nil
          go_simp
          go_at_call 17; refine (CMo _).mono ?_; rintro e wl ⟨gl, rfl, hgl, hcl, hz⟩; (replace HB := HB.below hz HB.lt); (replace B2 := B2.below hz B2.lt); (replace hb := hb.trans (hz.mono hb.size)); clear hz
          dsimp only
          refine hK _ _ ?_
          clear hK K
          (try simp only [Act.put, List.getElem_toArray, List.getElem_cons_zero, List.getElem_cons_succ, List.setIfInBounds_toArray, List.set_cons_zero, List.set_cons_succ])
          refine wpAny_take (i := 4) (v := .pointer (some ⟨gl, k, none⟩)) rfl (by kernel_rfl) (by kernel_rfl) (by kernel_rfl) (fun _ _ _ h => h) (Or.inl ⟨by kernel_rfl, by intro w'; go_simp; first | done | (with_reducible rfl)⟩) ?_
          (try simp only [Act.put, List.getElem_toArray, List.getElem_cons_zero, List.getElem_cons_succ, List.setIfInBounds_toArray, List.set_cons_zero, List.set_cons_succ])
          refine wpAny_ready (rs := [5]) (by kernel_rfl) (by simp) ?_
          refine AllReady.cons rfl (fun K hK => ?_) AllReady.nil
          go_simp
          refine hK _ _ ?_
          clear hK K
          (try simp only [Act.put, List.getElem_toArray, List.getElem_cons_zero, List.getElem_cons_succ, List.setIfInBounds_toArray, List.set_cons_zero, List.set_cons_succ])
          refine wpAny_ready (rs := [6]) (by kernel_rfl) (by simp) ?_
          refine AllReady.cons rfl (fun K hK => ?_) AllReady.nil
          go_simp
          go_at_call 19; refine (CS1 _).mono ?_; rintro e ws ⟨rfl, hz⟩; (replace HB := HB.below hz HB.lt); (replace B2 := B2.below hz B2.lt); (replace hb := hb.trans (hz.mono hb.size)); (try (replace hcl := (hz.cell (p := ⟨gl, k, none⟩) hgl).trans hcl)); (try (replace hgl := Nat.lt_of_lt_of_le hgl hz.size)); clear hz
          dsimp only
          refine hK _ _ ?_
          clear hK K
          (try simp only [Act.put, List.getElem_toArray, List.getElem_cons_zero, List.getElem_cons_succ, List.setIfInBounds_toArray, List.set_cons_zero, List.set_cons_succ])
          refine wpAny_ready (rs := [7]) (by kernel_rfl) (by simp) ?_
          refine AllReady.cons rfl (fun K hK => ?_) AllReady.nil
          refine step_store (c := upd (clN c k) k l) (A := A) (n := L.length) (cap := cap) HB _ _ rfl (by kernel_rfl) (by kernel_rfl) (by kernel_rfl) ?_
          refine hK _ _ ?_
          clear hK K
          (try simp only [Act.put, List.getElem_toArray, List.getElem_cons_zero, List.getElem_cons_succ, List.setIfInBounds_toArray, List.set_cons_zero, List.set_cons_succ])
          refine wpAny_done (by kernel_rfl) ?_ _
          go_wp2_with fail
          go_roundw
          case rel => exact ⟨k + 1, by omega, by go_num, HUP.out ▸ HB.put_ _, below_setRow hb (Nat.le_refl _) _, B2.setRow_ (by omega) _⟩
          case measure => simp [intOf]; omega
        · go_simp
          go_at_call 17; refine (CMo _).mono ?_; rintro e wl ⟨gl, rfl, hgl, hcl, hz⟩; (replace HB := HB.below hz HB.lt); (replace B2 := B2.below hz B2.lt); (replace hb := hb.trans (hz.mono hb.size)); clear hz
          dsimp only
          refine hK _ _ ?_
          clear hK K
          (try simp only [Act.put, List.getElem_toArray, List.getElem_cons_zero, List.getElem_cons_succ, List.setIfInBounds_toArray, List.set_cons_zero, List.set_cons_succ])
          refine wpAny_take (i := 4) (v := .pointer (some ⟨gl, k, none⟩)) rfl (by kernel_rfl) (by kernel_rfl) (by kernel_rfl) (fun _ _ _ h => h) (Or.inl ⟨by kernel_rfl, by intro w'; go_simp; first | done | (with_reducible rfl)⟩) ?_
          (try simp only [Act.put, List.getElem_toArray, List.getElem_cons_zero, List.getElem_cons_succ, List.setIfInBounds_toArray, List.set_cons_zero, List.set_cons_succ])
          refine wpAny_ready (rs := [0, 5]) (by kernel_rfl) (by simp) ?_
          refine AllReady.cons rfl (fun K hK => ?_) (AllReady.cons rfl (fun K hK => ?_) AllReady.nil)
          · refine step_cfg HB _ rfl (by kernel_rfl) (by kernel_rfl) ?_
            refine hK _ _ ?_
            clear hK K
            (try simp only [Act.put, List.getElem_toArray, List.getElem_cons_zero, List.getElem_cons_succ, List.setIfInBounds_toArray, List.set_cons_zero, List.set_cons_succ])
            refine wpAny_ready (rs := [5]) (by kernel_rfl) (by simp) ?_
            refine AllReady.cons rfl (fun K hK => ?_) AllReady.nil
            go_simp
            refine hK _ _ ?_
            clear hK K
            (try simp only [Act.put, List.getElem_toArray, List.getElem_cons_zero, List.getElem_cons_succ, List.setIfInBounds_toArray, List.set_cons_zero, List.set_cons_succ])
            refine wpAny_ready (rs := [6]) (by kernel_rfl) (by simp) ?_
            refine AllReady.cons rfl (fun K hK => ?_) AllReady.nil
            go_simp
            go_at_call 19; refine (CS1 _).mono ?_; rintro e ws ⟨rfl, hz⟩; (replace HB := HB.below hz HB.lt); (replace B2 := B2.below hz B2.lt); (replace hb := hb.trans (hz.mono hb.size)); (try (replace hcl := (hz.cell (p := ⟨gl, k, none⟩) hgl).trans hcl)); (try (replace hgl := Nat.lt_of_lt_of_le hgl hz.size)); clear hz
            dsimp only
            refine hK _ _ ?_
            clear hK K
            (try simp only [Act.put, List.getElem_toArray, List.getElem_cons_zero, List.getElem_cons_succ, List.setIfInBounds_toArray, List.set_cons_zero, List.set_cons_succ])
            refine wpAny_ready (rs := [7]) (by kernel_rfl) (by simp) ?_
            refine AllReady.cons rfl (fun K hK => ?_) AllReady.nil
            refine step_store (c := upd (clN c k) k l) (A := A) (n := L.length) (cap := cap) HB _ _ rfl (by kernel_rfl) (by kernel_rfl) (by kernel_rfl) ?_
            refine hK _ _ ?_
            clear hK K
            (try simp only [Act.put, List.getElem_toArray, List.getElem_cons_zero, List.getElem_cons_succ, List.setIfInBounds_toArray, List.set_cons_zero, List.set_cons_succ])
            refine wpAny_done (by kernel_rfl) ?_ _
            go_wp2_with fail
            go_roundw
            case rel => exact ⟨k + 1, by omega, by go_num, HUP.out ▸ HB.put_ _, below_setRow hb (Nat.le_refl _) _, B2.setRow_ (by omega) _⟩
            case measure => simp [intOf]; omega
          · go_simp
            refine hK _ _ ?_
            clear hK K
            (try simp only [Act.put, List.getElem_toArray, List.getElem_cons_zero, List.getElem_cons_succ, List.setIfInBounds_toArray, List.set_cons_zero, List.set_cons_succ])
            refine wpAny_ready (rs := [0]) (by kernel_rfl) (by simp) ?_
            refine AllReady.cons rfl (fun K hK => ?_) AllReady.nil
            refine step_cfg HB _ rfl (by kernel_rfl) (by kernel_rfl) ?_
            refine hK _ _ ?_
            clear hK K
            (try simp only [Act.put, List.getElem_toArray, List.getElem_cons_zero, List.getElem_cons_succ, List.setIfInBounds_toArray, List.set_cons_zero, List.set_cons_succ])
            refine wpAny_ready (rs := [6]) (by kernel_rfl) (by simp) ?_
            refine AllReady.cons rfl (fun K hK => ?_) AllReady.nil
            go_simp
            go_at_call 19; refine (CS1 _).mono ?_; rintro e ws ⟨rfl, hz⟩; (replace HB := HB.below hz HB.lt); (replace B2 := B2.below hz B2.lt); (replace hb := hb.trans (hz.mono hb.size)); (try (replace hcl := (hz.cell (p := ⟨gl, k, none⟩) hgl).trans hcl)); (try (replace hgl := Nat.lt_of_lt_of_le hgl hz.size)); clear hz
            dsimp only
            refine hK _ _ ?_
            clear hK K
            (try simp only [Act.put, List.getElem_toArray, List.getElem_cons_zero, List.getElem_cons_succ, List.setIfInBounds_toArray, List.set_cons_zero, List.set_cons_succ])
            refine wpAny_ready (rs := [7]) (by kernel_rfl) (by simp) ?_
            refine AllReady.cons rfl (fun K hK => ?_) AllReady.nil
            refine step_store (c := upd (clN c k) k l) (A := A) (n := L.length) (cap := cap) HB _ _ rfl (by kernel_rfl) (by kernel_rfl) (by kernel_rfl) ?_
            refine hK _ _ ?_
            clear hK K
            (try simp only [Act.put, List.getElem_toArray, List.getElem_cons_zero, List.getElem_cons_succ, List.setIfInBounds_toArray, List.set_cons_zero, List.set_cons_succ])
            refine wpAny_done (by kernel_rfl) ?_ _
            go_wp2_with fail
            go_roundw
            case rel => exact ⟨k + 1, by omega, by go_num, HUP.out ▸ HB.put_ _, below_setRow hb (Nat.le_refl _) _, B2.setRow_ (by omega) _⟩
            case measure => simp [intOf]; omega
      · have ho : outN k (c k) = 0 := by unfold outN; rw [if_neg (by omega), if_neg (by omega)]
        have HUP := Lib.hid (clN_same c (.slice A L.length cap) k (by unfold cl; rw [if_neg (by omega), if_neg (by omega)]))
        rw [ho] at C
        clear ho q q' r1 r2 r3 CO CS CL CMo
        go_wp2_with (first | (refine load_cfg HB _ rfl rfl rfl ?_) | (go_at_call 20; refine (C _).mono ?_; rintro e wz ⟨rfl, hz⟩; (replace HB := HB.below hz HB.lt); (replace B2 := B2.below hz B2.lt); (replace hb := hb.trans (hz.mono hb.size)); clear hz))
        go_roundw
        case rel => exact ⟨k + 1, by omega, by go_num, HUP.out ▸ HB, hb, B2⟩
        case measure => simp [intOf]; omega
    · obtain rfl : k = 14 := by omega
      rw [clN_end] at HB
      obtain ⟨i0, hi0, hz0, hz1, hz2⟩ := info_parts infoU8
      obtain ⟨i1, hi1, hy0, hy1, hy2⟩ := info_parts infoRowU8
      clear CO CS hlt hk
      have X14o : wr.cell? ⟨w.heap.size, 14, none⟩ = some (.slice A L.length cap) := (HB.cell 14).trans (cfV_last _ _)
      go_wp2_with fail
      obtain ⟨wo, hwo⟩ : ∃ wo, wo = wr := ⟨_, rfl⟩
      subst hwo
      have hsw := hb.size
      go_loopw [4, 5] (fun v i wr => ∃ (k : Nat) (xs : List Value), k ≤ L.length ∧ k ≤ 16 ∧ i = .int .i64 k ∧ wr.ownsRow wo.heap.size 43 1 v k xs ∧ RowsIn wr wo.heap.size xs ((L.take k).map fun l => l.take 1024) ∧ Below wo.heap.size wo wr) (fun _ i _ => 16 - (intOf i).toNat)
      case atStart => exact ⟨0, [], Nat.zero_le _, by omega, rfl, World.ownsRow_nil _ _ _ _, RowsIn.none_ _ _, Below.refl _ _⟩
      case round =>
        obtain ⟨k, xs, hk, hk16, rfl, hown, hrows, hbr⟩ := hrel
        have X14 : wr.cell? ⟨w.heap.size, 14, none⟩ = some (.slice A L.length cap) := (hbr.cell (p := ⟨w.heap.size, 14, none⟩) HB.lt).trans X14o
        obtain ⟨Av, cv, rfl, _, _⟩ := own_form hown
        have HR := Lib.hid hrows
        have hk0 : (0 : Int) ≤ (k : Int) := by omega
        clear hrows
        by_cases hlt : k < L.length ∧ k < 16
        · obtain ⟨hlt, hlt16⟩ := hlt
          obtain ⟨g, o, rfl, hg, hr⟩ := (HP.out.below (hb.trans (hbr.mono hsw))) (fun e => by rw [e] at hlt; simp at hlt)
          obtain ⟨Ai, ci, q1, q2, q3, q4⟩ := hr k hlt
          have hxl := HL2.out _ (List.getElem_mem hlt)
          have ht : Hid ((L.take (k + 1)).map (fun l => l.take 1024) = (L.take k).map (fun l => l.take 1024) ++ [(L[k]'hlt).take 1024]) := Lib.hid (by rw [List.take_add_one, List.getElem?_eq_getElem hlt, List.map_append]; rfl)
          obtain ⟨x, hx⟩ : ∃ x, x = L[k]'hlt := ⟨_, rfl⟩
          rw [← hx] at q1 q2 q3 q4 hxl ht
          obtain ⟨xl, hxl0⟩ : ∃ n, n = x.length := ⟨_, rfl⟩
          rw [← hxl0] at q1 q2 q3 hxl
          obtain ⟨x', hx'⟩ : ∃ x', x' = x.take 1024 := ⟨_, rfl⟩
          rw [← hx'] at ht
          have HT := ht
          have hk1 : (k : Int) < (L.length : Int) := by omega
          have hk2 : (k : Int) < 16 := by omega
          have hc0 : (xl : Int) ≤ (ci : Int) := by omega
          by_cases h4 : xl ≤ 1024
          · have hxx : x' = x := by rw [hx', List.take_of_length_le (by omega)]
            have HQ := Lib.hid (show Reads wr w.heap.size 1 Ai xl (x'.map byteV) from by rw [hxx]; exact q3)
            have HXL := Lib.hid (show x'.length = xl from by rw [hxx]; exact hxl0.symm)
            have h41 : ¬ (1024 : Int) < (xl : Int) := by omega
            clear hx hr q2 q3 q4 hxl0 ht hx' hxx
            go_wp2_with (first | (at_builtin; refine wpList_append_any _ rfl (.const (.slice none 0 0)) (.tmp 55) 43 rfl wr.heap.size 5 i0 _ 1 1 Try.underlying43 hi0 hz0 hz1 hz2 rfl (by decide) (.slice none 0 0) 0 [] rfl (World.ownsRow_nil _ _ _ _) w.heap.size Ai xl ci (x'.map byteV) rfl HQ.out (byte_one _) (by unfold maxLen; omega) (by omega) (Nat.le_refl _) ?_; intro v1 w1 hown1 hg1 hat1; rw [Nat.zero_add, List.nil_append] at hown1; obtain ⟨A1, c1, rfl, h10, h1c⟩ := own_form hown1; clear h10 h1c hat1) | (at_builtin; refine wpList_append_own _ rfl (.tmp 54) (.tmp 57) 23 rfl wo.heap.size 43 i1 _ 1 24 Try.underlying23 hi1 hy0 hy1 hy2 rfl (by decide) (.slice Av k cv) k xs rfl ((own_keep0 hown hg1).alloc _) ⟨w1.heap.size, 0, none⟩ 1 1 [.slice A1 xl c1] rfl rfl (cell_one_new _ _ _) (by simp [Value.oneCell']) (by unfold maxLen; omega) (by omega) (by have := hbr.size; have := hg1.size; simp; omega) ?_; intro v2 w3 hown2 hg2 hat2))
            go_roundw
            case rel =>
              have hrl := RowsIn.more HR.out hown hbr.size hg1 (by rw [HXL.out]; exact hown1) hg2
              have hbl := ((hbr.grown hg1 hbr.size (fun j hj => by cases hj)).alloc (by have := hbr.size; have := hg1.size; omega) _).grown hg2 (by have := hbr.size; have := hg1.size; simp; omega) (fun j hj => (((own_keep0 hown hg1).alloc (.cells #[.slice A1 xl c1] 43)).lt j hj).1)
              have hrl2 : RowsIn w3 wo.heap.size (xs ++ [.slice A1 xl c1]) ((L.take (k + 1)).map fun l => l.take 1024) := by rw [HT.out]; exact hrl
              first
                | exact ⟨k + 1, by omega, by omega, by omega, xs ++ [.slice A1 xl c1], hown2, by rw [← List.map_take]; exact hrl2, hbl⟩
                | ((repeat apply Exists.intro); exact ⟨⟨k + 1, xs ++ [.slice A1 xl c1], by omega, by omega, by go_num, hown2, hrl2, hbl⟩, rfl⟩)
                | ((repeat apply Exists.intro); refine ⟨⟨k + 1, xs ++ [.slice A1 xl c1], ?_, ?_, ?_, hown2, hrl2, hbl⟩, rfl⟩ <;> first | omega | go_num)
            case measure => simp [intOf]; omega
          · have HQ := Lib.hid (show Reads wr w.heap.size 1 Ai 1024 (x'.map byteV) from by rw [hx', List.map_take]; exact q3.pre (by omega))
            have HXL := Lib.hid (show x'.length = 1024 from by rw [hx', List.length_take]; omega)
            have h41 : (1024 : Int) < (xl : Int) := by omega
            have h42 : (1024 : Int) ≤ (ci : Int) := by omega
            clear hx hr q2 q3 q4 hxl0 ht hx'
            go_wp2_with (first | (at_builtin; refine wpList_append_any _ rfl (.const (.slice none 0 0)) (.tmp 55) 43 rfl wr.heap.size 5 i0 _ 1 1 Try.underlying43 hi0 hz0 hz1 hz2 rfl (by decide) (.slice none 0 0) 0 [] rfl (World.ownsRow_nil _ _ _ _) w.heap.size Ai 1024 ci (x'.map byteV) rfl HQ.out (byte_one _) (by unfold maxLen; omega) (by omega) (Nat.le_refl _) ?_; intro v1 w1 hown1 hg1 hat1; rw [Nat.zero_add, List.nil_append] at hown1; obtain ⟨A1, c1, rfl, h10, h1c⟩ := own_form hown1; clear h10 h1c hat1) | (at_builtin; refine wpList_append_own _ rfl (.tmp 54) (.tmp 57) 23 rfl wo.heap.size 43 i1 _ 1 24 Try.underlying23 hi1 hy0 hy1 hy2 rfl (by decide) (.slice Av k cv) k xs rfl ((own_keep0 hown hg1).alloc _) ⟨w1.heap.size, 0, none⟩ 1 1 [.slice A1 1024 c1] rfl rfl (cell_one_new _ _ _) (by simp [Value.oneCell']) (by unfold maxLen; omega) (by omega) (by have := hbr.size; have := hg1.size; simp; omega) ?_; intro v2 w3 hown2 hg2 hat2))
            go_roundw
            case rel =>
              have hrl := RowsIn.more HR.out hown hbr.size hg1 (by rw [HXL.out]; exact hown1) hg2
              have hbl := ((hbr.grown hg1 hbr.size (fun j hj => by cases hj)).alloc (by have := hbr.size; have := hg1.size; omega) _).grown hg2 (by have := hbr.size; have := hg1.size; simp; omega) (fun j hj => (((own_keep0 hown hg1).alloc (.cells #[.slice A1 1024 c1] 43)).lt j hj).1)
              have hrl2 : RowsIn w3 wo.heap.size (xs ++ [.slice A1 1024 c1]) ((L.take (k + 1)).map fun l => l.take 1024) := by rw [HT.out]; exact hrl
              first
                | exact ⟨k + 1, by omega, by omega, by omega, xs ++ [.slice A1 1024 c1], hown2, by rw [← List.map_take]; exact hrl2, hbl⟩
                | ((repeat apply Exists.intro); exact ⟨⟨k + 1, xs ++ [.slice A1 1024 c1], by omega, by omega, by go_num, hown2, hrl2, hbl⟩, rfl⟩)
                | ((repeat apply Exists.intro); refine ⟨⟨k + 1, xs ++ [.slice A1 1024 c1], ?_, ?_, ?_, hown2, hrl2, hbl⟩, rfl⟩ <;> first | omega | go_num)
            case measure => simp [intOf]; omega
        · rcases Nat.eq_zero_or_pos L.length with hn | hnpos
          · have hL0 := Lib.hid (List.length_eq_zero_iff.1 hn)
            obtain rfl : k = 0 := by omega
            have hn1 : ¬ (0 : Int) < (L.length : Int) := by omega
            have CP := refPlain_blk wr
            have FF : ∀ (g : Nat) (w' : World), (Instr.field 25 (.agg (cfV plc (.slice (some ⟨g, 0, none⟩) 1 1))) 14).run Try.prog w' = .ok (.slice (some ⟨g, 0, none⟩) 1 1) w' := fun g w' => by kernel_rfl
            have HN := Lib.hid hn
            clear hn hlt hk
            have B1r := HB.below hbr HB.lt
            have B2r := B2.below hbr B2.lt
            have hbw := hb.trans (hbr.mono hb.size)
            clear HR hown HB B2 hb hbr
            go_upto_region 18 with (go_at_call 24; refine CP.mono ?_; rintro e wp ⟨g, gp, rfl, hgw, hgp, hK, hK', hz⟩; (have HBp := B1r.below hz B1r.lt); (have B2p := B2r.below hz B2r.lt); (have hbp := hbw.trans (hz.mono hbw.size)); (have f14 := HBp.frozen 14); (have x14 : wp.cell? ⟨w.heap.size, 14, none⟩ = some (.slice A L.length cap) := (HBp.cell 14).trans (cfV_last _ _)))
            have B1s := HBp.set_ 14 (.slice (some ⟨g, 0, none⟩) 1 1)
            have B2s := B2p.far (p := ⟨w.heap.size, 14, none⟩) (by show w.heap.size + 1 ≠ w.heap.size; omega) (.slice (some ⟨g, 0, none⟩) 1 1)
            have K1 := (hK.far (p := ⟨w.heap.size, 14, none⟩) (Blk.ne_ hK HBp (by decide)) (.slice (some ⟨g, 0, none⟩) 1 1)).setRow_ (g' := w.heap.size + 1) (Blk.ne_ hK B2p (by decide)) (cfV (nearC c) (.slice (some ⟨g, 0, none⟩) 1 1))
            have K2 := (hK'.far (p := ⟨w.heap.size, 14, none⟩) (Blk.ne_ hK' HBp (by decide)) (.slice (some ⟨g, 0, none⟩) 1 1)).setRow_ (g' := w.heap.size + 1) (Blk.ne_ hK' B2p (by decide)) (cfV (nearC c) (.slice (some ⟨g, 0, none⟩) 1 1))
            have HPR := Lib.hid (RowsAt.of_plain K2 (show w.heap.size ≤ gp by have := hbw.size; omega) (Nat.le_refl _) rfl)
            have HK1 := Lib.hid K1
            have hgg : w.heap.size ≤ g := by have := hbw.size; omega
            rw [HZ.out] at B2s
            have E2 := B2s.put_ (cfV (nearC c) (.slice (some ⟨g, 0, none⟩) 1 1))
            have hbf := below_setRow (hbp.setCell (p := ⟨w.heap.size, 14, none⟩) (Nat.le_refl _) (.slice (some ⟨g, 0, none⟩) 1 1)) (g := w.heap.size + 1) (by omega) (cfV (nearC c) (.slice (some ⟨g, 0, none⟩) 1 1))
            have hnl := Lib.hid (show nearL L = [plP] from if_pos hL0.out)
            clear K1 K2 hK hK' B1r B2r HBp B2p FF CP X14o X14 hbw hbp
            go_wp2_with (first | (refine load_cfg (c := nearC c) (P := .slice (some ⟨g, 0, none⟩) 1 1) B1s _ rfl rfl rfl ?_) | (refine wpList_store_row rfl 25 (.tmp 2) (.tmp 66) rfl (w.heap.size + 1) (cfV (nearC c) (.slice (some ⟨g, 0, none⟩) 1 1)) rfl rfl 25 _ B2s (by kernel_rfl) rfl (by simp [cfV, Value.oneCell']) ?_))
            obtain ⟨d, hu1, hu2⟩ := underCf
            exact bodyPost_ret (results_cell_row (P := Try.prog) rfl _ _ (w.heap.size + 1) 25 _ (0, 0) d rfl E2 hu1 (by cases d <;> first | rfl | exact absurd hu2 Bool.false_ne_true) (by kernel_rfl)) rfl (by first | exact ⟨g, _, 1, by rw [hnl.out]; rfl, hgg, HK1.out, by rw [hnl.out]; exact HPR.out, hbf⟩ | exact ⟨g, ⟨1, by rw [hnl.out]; rfl⟩, hgg, _, HK1.out, by rw [hnl.out]; exact HPR.out, hbf⟩)
          · have hkp : ¬ (k : Int) = 0 := by omega
            have hkb : ((k : Int) == 0) = false := by simp; omega
            by_cases hk2 : k < L.length
            · have hk3 : ¬ (k : Int) < 16 := by omega
              have hk4 : (k : Int) < (L.length : Int) := by omega
              have hown0 := hown
              have hne := Lib.hid (nearL_some (L := L) (k := k) (by intro e; rw [e] at hnpos; simp at hnpos) (by omega))
              have hlen := Lib.hid (show (nearL L).length = k from by rw [hne.out, List.length_map, List.length_take]; omega)
              have B1r := HB.below hbr HB.lt
              have B2r := B2.below hbr B2.lt
              have f14 := B1r.frozen 14
              have B1s := B1r.set_ 14 (.slice Av k cv)
              have B2s := B2r.far (p := ⟨w.heap.size, 14, none⟩) (by show w.heap.size + 1 ≠ w.heap.size; omega) (.slice Av k cv)
              rw [HZ.out] at B2s
              have E2 := B2s.put_ (cfV (nearC c) (.slice Av k cv))
              have hbo := HB.lt
              have hbo2 := B2.lt
              have hfin : ∀ g, wo.heap.size ≤ g → g < wr.heap.size → ((wr.setCell ⟨w.heap.size, 14, none⟩ (.slice Av k cv)).setRow (w.heap.size + 1) (cfV (nearC c) (.slice Av k cv))).heap[g]? = wr.heap[g]? := fun g h1 h2 => (setRow_other _ _ g _ (by omega)).trans (Below.heap_setCell wr _ _ g (by show g ≠ w.heap.size; omega))
              have hbf := below_setRow ((hb.trans (hbr.mono hb.size)).setCell (p := ⟨w.heap.size, 14, none⟩) (Nat.le_refl _) (.slice Av k cv)) (g := w.heap.size + 1) (by omega) (cfV (nearC c) (.slice Av k cv))
              obtain ⟨g, cs, hAv, hg, BG, RA, hnc⟩ := RowsAt.of_own (own_far hown hfin) (HR.out.keep fun _ _ _ ho => own_far ho hfin) (show 0 < k by omega)
              subst hAv
              rw [← hne.out] at RA
              have HPR := Lib.hid (RA.base (show w.heap.size ≤ wo.heap.size from hsw))
              have HBG := Lib.hid BG
              have hgg : w.heap.size ≤ g := by omega
              clear RA BG hnc hown hown0 HR hbr HB B2 B1r B2r hb hfin
              go_wp2_with (first | (refine load_cfg (c := nearC c) (P := .slice (some ⟨g, 0, none⟩) k cv) B1s _ rfl rfl rfl ?_) | (refine wpList_store_row rfl 25 (.tmp 2) (.tmp 66) rfl (w.heap.size + 1) (cfV (nearC c) (.slice (some ⟨g, 0, none⟩) k cv)) rfl rfl 25 _ B2s (by kernel_rfl) rfl (by simp [cfV, Value.oneCell']) ?_))
              obtain ⟨d, hu1, hu2⟩ := underCf
              exact bodyPost_ret (results_cell_row (P := Try.prog) rfl _ _ (w.heap.size + 1) 25 _ (0, 0) d rfl E2 hu1 (by cases d <;> first | rfl | exact absurd hu2 Bool.false_ne_true) (by kernel_rfl)) rfl (by first | exact ⟨g, cs, cv, by rw [hlen.out], hgg, HBG.out, HPR.out, hbf⟩ | exact ⟨g, ⟨cv, by rw [hlen.out]⟩, hgg, cs, HBG.out, HPR.out, hbf⟩ | exact ⟨g, cs, ⟨cv, by rw [hlen.out]⟩, hgg, HBG.out, HPR.out, hbf⟩)
            · have hk3 : ¬ (k : Int) < (L.length : Int) := by omega
              have hown0 := hown
              have hne := Lib.hid (nearL_some (L := L) (k := k) (by intro e; rw [e] at hnpos; simp at hnpos) (by omega))
              have hlen := Lib.hid (show (nearL L).length = k from by rw [hne.out, List.length_map, List.length_take]; omega)
              have B1r := HB.below hbr HB.lt
              have B2r := B2.below hbr B2.lt
              have f14 := B1r.frozen 14
              have B1s := B1r.set_ 14 (.slice Av k cv)
              have B2s := B2r.far (p := ⟨w.heap.size, 14, none⟩) (by show w.heap.size + 1 ≠ w.heap.size; omega) (.slice Av k cv)
              rw [HZ.out] at B2s
              have E2 := B2s.put_ (cfV (nearC c) (.slice Av k cv))
              have hbo := HB.lt
              have hbo2 := B2.lt
              have hfin : ∀ g, wo.heap.size ≤ g → g < wr.heap.size → ((wr.setCell ⟨w.heap.size, 14, none⟩ (.slice Av k cv)).setRow (w.heap.size + 1) (cfV (nearC c) (.slice Av k cv))).heap[g]? = wr.heap[g]? := fun g h1 h2 => (setRow_other _ _ g _ (by omega)).trans (Below.heap_setCell wr _ _ g (by show g ≠ w.heap.size; omega))
              have hbf := below_setRow ((hb.trans (hbr.mono hb.size)).setCell (p := ⟨w.heap.size, 14, none⟩) (Nat.le_refl _) (.slice Av k cv)) (g := w.heap.size + 1) (by omega) (cfV (nearC c) (.slice Av k cv))
              obtain ⟨g, cs, hAv, hg, BG, RA, hnc⟩ := RowsAt.of_own (own_far hown hfin) (HR.out.keep fun _ _ _ ho => own_far ho hfin) (show 0 < k by omega)
              subst hAv
              rw [← hne.out] at RA
              have HPR := Lib.hid (RA.base (show w.heap.size ≤ wo.heap.size from hsw))
              have HBG := Lib.hid BG
              have hgg : w.heap.size ≤ g := by omega
              clear RA BG hnc hown hown0 HR hbr HB B2 B1r B2r hb hfin
              go_wp2_with (first | (refine load_cfg (c := nearC c) (P := .slice (some ⟨g, 0, none⟩) k cv) B1s _ rfl rfl rfl ?_) | (refine wpList_store_row rfl 25 (.tmp 2) (.tmp 66) rfl (w.heap.size + 1) (cfV (nearC c) (.slice (some ⟨g, 0, none⟩) k cv)) rfl rfl 25 _ B2s (by kernel_rfl) rfl (by simp [cfV, Value.oneCell']) ?_))
              obtain ⟨d, hu1, hu2⟩ := underCf
              exact bodyPost_ret (results_cell_row (P := Try.prog) rfl _ _ (w.heap.size + 1) 25 _ (0, 0) d rfl E2 hu1 (by cases d <;> first | rfl | exact absurd hu2 Bool.false_ne_true) (by kernel_rfl)) rfl (by first | exact ⟨g, cs, cv, by rw [hlen.out], hgg, HBG.out, HPR.out, hbf⟩ | exact ⟨g, ⟨cv, by rw [hlen.out]⟩, hgg, cs, HBG.out, HPR.out, hbf⟩ | exact ⟨g, cs, ⟨cv, by rw [hlen.out]⟩, hgg, HBG.out, HPR.out, hbf⟩)
end Go.Proofs.Ytoigapnpmhogdaa
