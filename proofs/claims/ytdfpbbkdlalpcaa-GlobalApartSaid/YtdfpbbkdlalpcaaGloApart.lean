/- GlobalApart, by a walk: true at each row of acts, each P and affinities. -/
import Derived.Test.YtdfpbbkdlalpcaaGloActsLoop
namespace Go.Proofs.Ytdfpbbkdlalpcaa
open Go.RowKit
set_option linter.unusedVariables false
set_option linter.unusedSimpArgs false

/-- Who may not run on p. -/
def notMay (p : Int) (aff : List Nat) (x : Int) : Bool := !mayB p aff x
theorem notMay_yes {p : Int} {aff : List Nat} {x : Int} (h : mayB p aff x = true) : notMay p aff x = false := by simp [notMay, h]
theorem notMay_no {p : Int} {aff : List Nat} {x : Int} (h : mayB p aff x = false) : notMay p aff x = true := by simp [notMay, h]
theorem others_stay {p : Int} {aff : List Nat} : ∀ {L : List Int} {k : Nat}, Hit (mayB p aff) L k → (L.eraseIdx k).filter (notMay p aff) = L.filter (notMay p aff)
  | [], k, h => by have := h.1; simp at this
  | x :: L, 0, h => by
    have hx : mayB p aff x = true := by simpa using h.2.1
    rw [List.eraseIdx_cons_zero, List.filter_cons_of_neg (by rw [notMay_yes hx]; decide)]
  | x :: L, k + 1, h => by
    have hh : Hit (mayB p aff) L k := ⟨by have := h.1; simp at this; omega, by simpa using h.2.1, fun j hj => by simpa using h.2.2 (j + 1) (by omega)⟩
    rw [List.eraseIdx_cons_succ, List.filter_cons, List.filter_cons, others_stay hh]
theorem all_others {p : Int} {aff : List Nat} {L : List Int} (h : many (mayB p aff) L = 0) : L.filter (notMay p aff) = L := by
  rw [List.filter_eq_self]
  intro x hx
  obtain ⟨i, hi, rfl⟩ := List.getElem_of_mem hx
  exact notMay_no (many_zero h i hi)
theorem many_hit {f : Int → Bool} {L : List Int} {k : Nat} (h : Hit f L k) : many f L = many f (L.eraseIdx k) + 1 := by
  unfold many
  rw [hit_filter h]
  simp

set_option maxRecDepth 100000 in
set_option maxHeartbeats 4000000 in
theorem apart_walk (l : List ActD) (A : Option Addr) (cap : Nat) (p : Int) (F : Option Addr) (aff : List Nat) (fc : Nat) (w : World) (hA : Acts w w.heap.size A l) (hl : l.length ≤ maxLen)
    (hF : Bytes w w.heap.size F aff) (h8 : ∀ x ∈ aff, x < 256) (hla : aff.length ≤ maxLen) :
    Calls Try.prog 5 #[.slice A l.length cap, .int .i64 p, .slice F aff.length fc] w fun e w' => e = .returned (.bool true) ∧ Below w.heap.size w w' := by
  by_cases hf : Few l 60
  · by_cases hla2 : aff.length ≤ 100
    · have CF := few_yes l A cap 60 w.heap.size w hA hl (by omega) hf
      obtain ⟨hl2, hf2⟩ := hf
      have HF := Lib.hid hf2
      have HBY := Lib.hid hF
      have H8 := Lib.hid h8
      have hbo := both_begin w
      have hbb := below_begin w
      have hla3 : decide (100 < (aff.length : Int)) = false := by simp; omega
      obtain ⟨i0, hi0, hz0, hz1, hz2⟩ := info_parts infoInt
      clear hf2 hl hF h8
      go_enter Try.func5, Try.ntmps5
      go_wp2_with (first | (go_at_call 6; refine CF.mono ?_; rintro e w' ⟨rfl, rfl⟩) | (go_at_call 8; refine (new_is w).mono ?_; rintro e w' ⟨rfl, rfl⟩))
      generalize (w.alloc (.cells #[.pointer none, .pointer none, .int .i64 0] 49)).alloc (.cells #[.slice none 0 0] 30) = w2 at *
      go_loopw [9] (fun i wr => ∃ (j : Nat) (N : List (Nat × Int)) (A' : Option Addr) (cap' : Nat), j ≤ l.length ∧ i = .int .i64 j ∧ Both wr w.heap.size w.heap.size (w.heap.size + 1) N A' cap' ∧ N.length ≤ 50 * j ∧ Below w.heap.size w wr) (fun i _ => l.length - (intOf i).toNat)
      case atStart => exact ⟨0, [], none, 0, Nat.zero_le _, rfl, hbo, by simp, hbb⟩
      case round =>
        obtain ⟨j, N, A', cap', hj, rfl, hBo, hN, hbr⟩ := hrel
        by_cases hlt : j < l.length
        · have hAr := hA.below hbr
          obtain ⟨b, o, rfl, hg, hc⟩ := hAr.1 (fun e => by rw [e] at hlt; simp at hlt)
          have hR := hAr.2 _ (List.getElem_mem hlt)
          obtain ⟨_, hxs⟩ := HF.out j hlt
          have c0 : wr.cell? ⟨b, o + j * 5, none⟩ = some (.int .i64 (l[j]).k) := hc j hlt 0 _ rfl
          have c1 := hc j hlt 1 _ rfl
          have c2 := hc j hlt 2 _ rfl
          have c3 := hc j hlt 3 _ rfl
          have c4 := hc j hlt 4 _ rfl
          have CD := do_is l[j] w.heap.size w.heap.size (w.heap.size + 1) N A' cap' wr hBo (by omega) hR hxs
          generalize l[j] = a at *
          dsimp only [ActD.vs] at CD
          have HAA := Lib.hid hA
          have HBR := Lib.hid hbr
          have hj1 : (j : Int) < l.length := by omega
          have hj0 : (0 : Int) ≤ (j : Int) := by omega
          clear hc hA hAr hBo hbo hbb hR CF hbr
          go_wp2_with (go_at_call 9; refine CD.mono ?_; rintro e w3 ⟨rfl, ⟨N3, A3, cap3, hB3, hl3⟩, hb3⟩; (have HB3 := Lib.hid hB3); (have HBB3 := Lib.hid hb3); clear hB3 hb3)
          go_roundw
          case rel => exact ⟨j + 1, N3, A3, cap3, by omega, by go_num, HB3.out, by omega, HBR.out.trans HBB3.out⟩
          case measure => simp [intOf]; omega
        · have hjl : j = l.length := by omega
          subst hjl
          clear hA hbo hbb CF hlt hj
          obtain ⟨w5, rfl⟩ : ∃ w5 : World, w5 = wr := ⟨_, rfl⟩
          have hvl : (vals N).length ≤ 3000 := by rw [vals_len]; omega
          have hBF : Bytes w5 w.heap.size F aff := HBY.out.below hbr
          have hx0 := hBo.rq.blk.cell 0
          simp only [List.getElem?_toArray, List.getElem?_cons_zero] at hx0
          have HI := Lib.hid hBo.rq.ints
          have HBo := Lib.hid hBo
          have HBR := Lib.hid hbr
          have hcl := hBo.rq.blk.lt
          have HNL := Lib.hid (vals_len N)
          obtain ⟨L, hL⟩ : ∃ L, vals N = L := ⟨_, rfl⟩
          rw [hL] at hvl hx0 HI HNL
          have HL := Lib.hid hL
          clear hBo hbr hL
          go_wp2
          go_loopw [10, 11] (fun v i wr => ∃ k : Nat, k ≤ L.length ∧ i = .int .i64 k ∧ wr.ownsRow w5.heap.size 3 1 v ((L.take k).filter (notMay p aff)).length (intV ((L.take k).filter (notMay p aff))) ∧ Below w5.heap.size w5 wr) (fun _ i _ => L.length - (intOf i).toNat)
          case atStart => exact ⟨0, Nat.zero_le _, rfl, World.ownsRow_nil _ _ _ _, Below.refl _ _⟩
          case round =>
            obtain ⟨k, hk, rfl, hown, hbr⟩ := hrel
            obtain ⟨Wa, wc, rfl⟩ := own_slice hown
            have hxr := (hbr.cell (p := ⟨w.heap.size + 1, 0, none⟩) hcl).trans hx0
            have hfl := filt_len (notMay p aff) L k
            by_cases hlt : k < L.length
            · obtain ⟨ad, rfl, _, hc⟩ := (HI.out.below hbr).at_ hlt
              have CM := refMay_is p aff F fc L[k] w.heap.size wr (hBF.below (hbr.mono HBR.out.size)) hla H8.out
              by_cases hm : mayB p aff L[k] = true
              · have hup := Lib.hid (filt_no hlt (notMay_yes hm))
                rw [hm] at CM
                have HOW := Lib.hid hown
                have HB := Lib.hid hbr
                clear hm hown hbr hx0 hBF
                generalize L[k] = y at *
                go_wp2_with (go_at_call 11; refine CM.mono ?_; rintro e w' ⟨rfl, rfl⟩)
                go_roundw
                case rel => exact ⟨k + 1, by omega, by go_num, by rw [hup.out]; exact HOW.out, HB.out⟩
                case measure => simp [intOf]; omega
              · have hmf : mayB p aff L[k] = false := by simpa using hm
                have hup := Lib.hid (filt_yes hlt (notMay_no hmf))
                rw [hmf] at CM
                have HOW := Lib.hid hown
                have HB := Lib.hid hbr
                have HRD := Lib.hid (reads_one2 wr L[k])
                obtain ⟨Z, hZ⟩ : ∃ Z, (L.take k).filter (notMay p aff) = Z := ⟨_, rfl⟩
                rw [hZ] at HOW hup hfl
                rw [hZ]
                have m1 := Lib.hid (show Z.length + 1 ≤ maxLen from by unfold maxLen; omega)
                have m2 := Lib.hid (show (Z.length + 1) * 8 ≤ 140737488355328 from by omega)
                have HZ := Lib.hid hZ
                clear hm hmf hown hbr hZ hx0 hBF
                generalize L[k] = y at *
                go_wp2_with (first | (go_at_call 11; refine CM.mono ?_; rintro e w' ⟨rfl, rfl⟩) | (at_builtin; refine wpList_append_any _ rfl (.tmp 60) (.tmp 68) 28 rfl w5.heap.size 3 i0 (.int .i64 0) 1 8 Try.underlying28 hi0 hz0 hz1 hz2 rfl (by decide) (.slice Wa Z.length wc) Z.length (intV Z) rfl (HOW.out.alloc _) (wr.heap.size + 1) (some ⟨wr.heap.size, 0, none⟩) 1 1 [.int .i64 y] rfl HRD.out (by simp [Value.oneCell']) m1.out m2.out (by have := HB.out.size; simp; omega) ?_; intro v' w7 hown' hgrow hat))
                go_roundw
                case rel => exact ⟨k + 1, by omega, by go_num, by rw [hup.out, List.length_append, intV_app]; exact hown', (HB.out.alloc HB.out.size _).grown hgrow (by have := HB.out.size; simp; omega) (fun j e => ((HOW.out.alloc (.cells #[.int .i64 y] 3)).lt j e).1)⟩
                case measure => simp [intOf]; omega
            · have hkl : k = L.length := by omega
              subst hkl
              rw [List.take_length] at hown hfl
              rw [List.take_length]
              obtain ⟨Fl, hFl⟩ : ∃ Fl, L.filter (notMay p aff) = Fl := ⟨_, rfl⟩
              rw [hFl] at hown hfl
              rw [hFl]
              have HFL := Lib.hid hFl
              have HB6 := Lib.hid hbr
              have HB5 := Lib.hid (HBo.out.below hbr)
              have hBF6 := hBF.below (hbr.mono HBR.out.size)
              have HOW := Lib.hid hown
              have H6 := HB5.out
              have hbw6 := HBR.out.trans (HB6.out.mono HBR.out.size)
              have hnn : N.length ≤ 3000 := by have := HNL.out; omega
              have hm0 : many (mayB p aff) (vals N) ≤ L.length - 0 := by rw [HL.out]; exact many_le _ _
              have hf0 : (vals N).filter (notMay p aff) = Fl := by rw [HL.out, HFL.out]
              have hcb := H6.rq.blk
              rw [HL.out] at hcb
              have hq6 := H6.qu
              have hlo6 := H6.lo
              clear hFl hbr hlt hk hx0 hBF
              go_wp2
              go_loopw [12] (fun i wr => ∃ (k : Nat) (M : List (Nat × Int)), k ≤ L.length + 1 ∧ i = .int .i64 k ∧ Qu wr w.heap.size M ∧ (∀ b, bl w.heap.size M b → w.heap.size ≤ b) ∧ M.length ≤ 3000 ∧ many (mayB p aff) (vals M) ≤ L.length - k ∧ (vals M).filter (notMay p aff) = Fl ∧ wr.ownsRow w5.heap.size 3 1 (.slice Wa Fl.length wc) Fl.length (intV Fl) ∧ Blk wr (w.heap.size + 1) 30 #[.slice A' L.length cap'] ∧ Below w.heap.size w wr) (fun i _ => L.length + 1 - (intOf i).toNat)
              case atStart => exact ⟨0, N, Nat.zero_le _, rfl, hq6, hlo6, hnn, hm0, hf0, hown, hcb, hbw6⟩
              case round =>
                obtain ⟨k, M, hk, rfl, hq, hlo, hMn, hmany, hfil, hown', hcb', hbr'⟩ := hrel
                obtain ⟨w8, rfl⟩ : ∃ w8 : World, w8 = wr := ⟨_, rfl⟩
                have hB8 : Bytes w8 w.heap.size F aff := HBY.out.below hbr'
                have hx8 := hcb'.cell 0
                simp only [List.getElem?_toArray, List.getElem?_cons_zero] at hx8
                by_cases hlt : k ≤ L.length
                · rcases hit_or_miss (mayB p aff) (vals M) with ⟨j, hit⟩ | hmiss
                  · obtain ⟨y, hy⟩ : ∃ y, (vals M)[j]? = some y := ⟨_, List.getElem?_eq_getElem hit.1⟩
                    have CT := take_at p aff F fc w.heap.size w.heap.size j M w8 hq (by omega) hB8 hbr'.size hla H8.out _ rfl hit y hy
                    have hrel2 : ∀ w9, Qu w9 w.heap.size (M.eraseIdx j) → Apart (bl w.heap.size M) w8 w9 → ∃ (k' : Nat) (M' : List (Nat × Int)), k' ≤ L.length + 1 ∧ Value.int .i64 ((k : Int) + 1) = .int .i64 k' ∧ Qu w9 w.heap.size M' ∧ (∀ b, bl w.heap.size M' b → w.heap.size ≤ b) ∧ M'.length ≤ 3000 ∧ many (mayB p aff) (vals M') ≤ L.length - k' ∧ (vals M').filter (notMay p aff) = Fl ∧ w9.ownsRow w5.heap.size 3 1 (.slice Wa Fl.length wc) Fl.length (intV Fl) ∧ Blk w9 (w.heap.size + 1) 30 #[.slice A' L.length cap'] ∧ Below w.heap.size w w9 := fun w9 hq9 ha9 => by
                      refine ⟨k + 1, M.eraseIdx j, by omega, by go_num, hq9, fun b hb => hlo b (bl_erase hb), Nat.le_trans (List.length_eraseIdx_le M j) hMn, ?_, by rw [vals_erase, others_stay hit]; exact hfil, own_apart hown' ha9 (fun b e hb => ?_), (ha9.block _ hcb'.lt (fun hb => ?_)).trans hcb', hbr'.trans (ha9.below hbr'.size hlo)⟩
                      · have := many_hit hit
                        rw [vals_erase]
                        omega
                      · rcases hown'.2 with ⟨hv, _⟩ | ⟨g', _, cur, hv, _, hg', _⟩
                        · rw [hv] at e
                          cases e
                        · rw [hv] at e
                          have e' : g' = b := by injection e
                          subst e'
                          rcases bl_types hq hb hg' with e | e <;> exact absurd e (by decide)
                      · rcases bl_types hq hb hcb' with e | e <;> exact absurd e (by decide)
                    have HR2 := Lib.hid hrel2
                    have hkl2 : (k : Int) ≤ (L.length : Int) := by omega
                    clear hrel2 hfil hown' hcb' hbr' hB8 hlo hq hit hy hbw6 hmany hMn hm0 hf0 hown hcb hq6 hlo6 H6
                    go_wp2_with (go_at_call 13; refine CT.mono ?_; rintro e w9 ⟨rfl, hq9, ha9⟩; (have HQ9 := Lib.hid hq9); (have HA9 := Lib.hid ha9); clear hq9 ha9)
                    go_roundw
                    case rel => exact HR2.out w9 HQ9.out HA9.out
                    case measure => simp [intOf]; omega
                  · have CT := take_miss p aff F fc w.heap.size w.heap.size M w8 hq (by omega) hB8 hbr'.size hla H8.out hmiss
                    have hz : many (mayB p aff) (vals M) = 0 := by
                      unfold many
                      rw [List.length_eq_zero_iff, List.filter_eq_nil_iff]
                      intro x hx
                      obtain ⟨i, hi, rfl⟩ := List.getElem_of_mem hx
                      simp [hmiss i hi]
                    have hrel2 : ∀ w9, Below w8.heap.size w8 w9 → ∃ (k' : Nat) (M' : List (Nat × Int)), k' ≤ L.length + 1 ∧ Value.int .i64 ((k : Int) + 1) = .int .i64 k' ∧ Qu w9 w.heap.size M' ∧ (∀ b, bl w.heap.size M' b → w.heap.size ≤ b) ∧ M'.length ≤ 3000 ∧ many (mayB p aff) (vals M') ≤ L.length - k' ∧ (vals M').filter (notMay p aff) = Fl ∧ w9.ownsRow w5.heap.size 3 1 (.slice Wa Fl.length wc) Fl.length (intV Fl) ∧ Blk w9 (w.heap.size + 1) 30 #[.slice A' L.length cap'] ∧ Below w.heap.size w w9 := fun w9 hb9 =>
                      ⟨k + 1, M, by omega, by go_num, hq.below hb9, hlo, hMn, by rw [hz]; exact Nat.zero_le _, hfil, below_own hown' hb9, hcb'.below hb9 hcb'.lt, hbr'.trans (hb9.mono hbr'.size)⟩
                    have HR2 := Lib.hid hrel2
                    have hkl2 : (k : Int) ≤ (L.length : Int) := by omega
                    clear hrel2 hfil hown' hcb' hbr' hB8 hlo hq hmiss hz hbw6 hmany hMn hm0 hf0 hown hcb hq6 hlo6 H6
                    go_wp2_with (go_at_call 13; refine CT.mono ?_; rintro e w9 ⟨rfl, hb9⟩; (have HB9 := Lib.hid hb9); clear hb9)
                    go_roundw
                    case rel => exact HR2.out w9 HB9.out
                    case measure => simp [intOf]; omega
                · have hkl : k = L.length + 1 := by omega
                  have hz : many (mayB p aff) (vals M) = 0 := by omega
                  have hvM : vals M = Fl := by rw [← hfil, all_others hz]
                  have CA := all_is w.heap.size M w8 hq (by omega)
                  have hlen : M.length = Fl.length := by rw [← hvM, vals_len]
                  rw [hvM] at CA
                  have HQ8 := Lib.hid hq
                  have HO8 := Lib.hid hown'
                  have HBR8 := Lib.hid hbr'
                  have HLN := Lib.hid (show (M.length : Int) = (Fl.length : Int) by rw [hlen])
                  have hfl3 : Fl.length ≤ 3000 := by omega
                  have hkl2 : ¬ (k : Int) ≤ (L.length : Int) := by omega
                  clear hkl hz hvM hlen hfil hown' hcb' hbr' hB8 hlo hq hbw6 hmany hMn hm0 hf0 hown hcb hq6 hlo6 H6
                  go_wp2_with (first | (go_at_call 15; refine CA.mono ?_; rintro e w9 ⟨⟨A9, c9, rfl, ho9⟩, hb9⟩; (have HO9 := Lib.hid ho9); (have HB9 := Lib.hid hb9); clear ho9 hb9) | (go_at_call 14; refine (same_yes Fl A9 Wa c9 wc w9.heap.size w9.heap.size w9 (Reads.of_own HO9.out) (Reads.of_own (below_own HO8.out HB9.out)) (by omega)).mono ?_; rintro e w10 ⟨rfl, n10, rfl⟩) | (go_at_call 16; (have CL := len_is w.heap.size M (w9.drewN n10) ((HQ8.out.below HB9.out).drewN n10)); rw [HLN.out] at CL; refine CL.mono ?_; clear CL; rintro e w11 ⟨rfl, rfl⟩) | (go_at_call 7; refine (known_is _).mono ?_; rintro e w12 ⟨rfl, hb12⟩))
                  go_ret
                  have h9 := (HBR8.out.trans (HB9.out.mono HBR8.out.size)).drewN_ n10
                  exact ⟨rfl, h9.trans (hb12.mono h9.size)⟩
    · have CF := few_yes l A cap 60 w.heap.size w hA hl (by omega) hf
      have hla3 : decide (100 < (aff.length : Int)) = true := by simp; omega
      clear hA hf hl hF h8
      go_enter Try.func5, Try.ntmps5
      go_wp2_with (first | (go_at_call 6; refine CF.mono ?_; rintro e w' ⟨rfl, rfl⟩) | (go_at_call 7; refine (known_is w).mono ?_; rintro e w1 ⟨rfl, hb⟩))
      go_ret
      exact ⟨rfl, hb⟩
  · have CF := few_no l A cap 60 w.heap.size w hA hl (by omega) hf
    clear hA hf hl hF h8
    go_enter Try.func5, Try.ntmps5
    go_wp2_with (first | (go_at_call 6; refine CF.mono ?_; rintro e w' ⟨rfl, rfl⟩) | (go_at_call 7; refine (known_is w).mono ?_; rintro e w1 ⟨rfl, hb⟩))
    go_ret
    exact ⟨rfl, hb⟩
end Go.Proofs.Ytdfpbbkdlalpcaa
