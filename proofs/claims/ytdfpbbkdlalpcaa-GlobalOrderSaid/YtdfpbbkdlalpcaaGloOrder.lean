/- GlobalOrder, by a walk: true at each row of acts, each goroutine, P and affinities. -/
import Derived.Test.YtdfpbbkdlalpcaaGloActsLoop
namespace Go.Proofs.Ytdfpbbkdlalpcaa
open Go.RowKit
set_option linter.unusedVariables false
set_option linter.unusedSimpArgs false

def Ahd (is : Bool) (p : Int) (aff : List Nat) (g : Int) (M : List Int) (m k : Nat) : Prop := is = true → k ≤ m → ahead p aff g M = (m - k, true)

set_option maxRecDepth 100000 in
set_option maxHeartbeats 4000000 in
theorem order_walk (l : List ActD) (A : Option Addr) (cap : Nat) (g p : Int) (F : Option Addr) (aff : List Nat) (fc : Nat) (w : World) (hA : Acts w w.heap.size A l) (hl : l.length ≤ maxLen)
    (hF : Bytes w w.heap.size F aff) (h8 : ∀ x ∈ aff, x < 256) (hla : aff.length ≤ maxLen) :
    Calls Try.prog 4 #[.slice A l.length cap, .int .i64 g, .int .i64 p, .slice F aff.length fc] w fun e w' => e = .returned (.bool true) ∧ Below w.heap.size w w' := by
  by_cases hf : Few l 60
  · by_cases hla2 : aff.length ≤ 100
    · have CF := few_yes l A cap 60 w.heap.size w hA hl (by omega) hf
      obtain ⟨hl2, hf2⟩ := hf
      have HF := Lib.hid hf2
      have HBY := Lib.hid hF
      have H8 := Lib.hid h8
      have hbo := both_begin w
      have hbb := below_begin w
      have hla3 : decide (100 < (aff.length : Int)) = false := by simp; omega
      obtain ⟨i0, hi0, hz0, hz1, hz2⟩ := info_parts infoInt
      clear hf2 hl hF h8
      go_enter Try.func4, Try.ntmps4
      go_wp2_with (first | (go_at_call 6; refine CF.mono ?_; rintro e w' ⟨rfl, rfl⟩) | (go_at_call 8; refine (new_is w).mono ?_; rintro e w' ⟨rfl, rfl⟩))
      generalize (w.alloc (.cells #[.pointer none, .pointer none, .int .i64 0] 49)).alloc (.cells #[.slice none 0 0] 30) = w2 at *
      go_loopw [11] (fun i wr => ∃ (j : Nat) (N : List (Nat × Int)) (A' : Option Addr) (cap' : Nat), j ≤ l.length ∧ i = .int .i64 j ∧ Both wr w.heap.size w.heap.size (w.heap.size + 1) N A' cap' ∧ N.length ≤ 50 * j ∧ Below w.heap.size w wr) (fun i _ => l.length - (intOf i).toNat)
      case atStart => exact ⟨0, [], none, 0, Nat.zero_le _, rfl, hbo, by simp, hbb⟩
      case round =>
        obtain ⟨j, N, A', cap', hj, rfl, hBo, hN, hbr⟩ := hrel
        by_cases hlt : j < l.length
        · have hAr := hA.below hbr
          obtain ⟨b, o, rfl, hg, hc⟩ := hAr.1 (fun e => by rw [e] at hlt; simp at hlt)
          have hR := hAr.2 _ (List.getElem_mem hlt)
          obtain ⟨_, hxs⟩ := HF.out j hlt
          have c0 : wr.cell? ⟨b, o + j * 5, none⟩ = some (.int .i64 (l[j]).k) := hc j hlt 0 _ rfl
          have c1 := hc j hlt 1 _ rfl
          have c2 := hc j hlt 2 _ rfl
          have c3 := hc j hlt 3 _ rfl
          have c4 := hc j hlt 4 _ rfl
          have CD := do_is l[j] w.heap.size w.heap.size (w.heap.size + 1) N A' cap' wr hBo (by omega) hR hxs
          generalize l[j] = a at *
          dsimp only [ActD.vs] at CD
          have HAA := Lib.hid hA
          have HBR := Lib.hid hbr
          have hj1 : (j : Int) < l.length := by omega
          have hj0 : (0 : Int) ≤ (j : Int) := by omega
          clear hc hA hAr hBo hbo hbb hR CF hbr
          go_wp2_with (go_at_call 9; refine CD.mono ?_; rintro e w3 ⟨rfl, ⟨N3, A3, cap3, hB3, hl3⟩, hb3⟩; (have HB3 := Lib.hid hB3); (have HBB3 := Lib.hid hb3); clear hB3 hb3)
          go_roundw
          case rel => exact ⟨j + 1, N3, A3, cap3, by omega, by go_num, HB3.out, by omega, HBR.out.trans HBB3.out⟩
          case measure => simp [intOf]; omega
        · have hjl : j = l.length := by omega
          subst hjl
          clear hA hbo hbb CF hlt hj
          obtain ⟨w5, rfl⟩ : ∃ w5 : World, w5 = wr := ⟨_, rfl⟩
          have hvl : (vals N).length ≤ 3000 := by rw [vals_len]; omega
          have hBF : Bytes w5 w.heap.size F aff := HBY.out.below hbr
          have hx0 := hBo.rq.blk.cell 0
          simp only [List.getElem?_toArray, List.getElem?_cons_zero] at hx0
          have HI := Lib.hid hBo.rq.ints
          have HBo := Lib.hid hBo
          have HBR := Lib.hid hbr
          have hcl := hBo.rq.blk.lt
          have HNL := Lib.hid (vals_len N)
          obtain ⟨L, hL⟩ : ∃ L, vals N = L := ⟨_, rfl⟩
          rw [hL] at hvl hx0 HI HNL
          have HL := Lib.hid hL
          clear hBo hbr hL
          go_wp2
          go_loopw [12, 13] (fun v i wr => ∃ k : Nat, k ≤ L.length ∧ i = .int .i64 k ∧ wr.ownsRow w5.heap.size 3 1 v ((L.take k).filter (mayB p aff)).length (intV ((L.take k).filter (mayB p aff))) ∧ Below w5.heap.size w5 wr) (fun _ i _ => L.length - (intOf i).toNat)
          case atStart => exact ⟨0, Nat.zero_le _, rfl, World.ownsRow_nil _ _ _ _, Below.refl _ _⟩
          case round =>
            obtain ⟨k, hk, rfl, hown, hbr⟩ := hrel
            obtain ⟨Wa, wc, rfl⟩ := own_slice hown
            have hxr := (hbr.cell (p := ⟨w.heap.size + 1, 0, none⟩) hcl).trans hx0
            have hfl := filt_len (mayB p aff) L k
            by_cases hlt : k < L.length
            · obtain ⟨ad, rfl, _, hc⟩ := (HI.out.below hbr).at_ hlt
              have CM := refMay_is p aff F fc L[k] w.heap.size wr (hBF.below (hbr.mono HBR.out.size)) hla H8.out
              by_cases hm : mayB p aff L[k] = true
              · have hup := Lib.hid (filt_yes hlt hm)
                rw [hm] at CM
                have HOW := Lib.hid hown
                have HB := Lib.hid hbr
                have HRD := Lib.hid (reads_one2 wr L[k])
                obtain ⟨Z, hZ⟩ : ∃ Z, (L.take k).filter (mayB p aff) = Z := ⟨_, rfl⟩
                rw [hZ] at HOW hup hfl
                rw [hZ]
                have m1 := Lib.hid (show Z.length + 1 ≤ maxLen from by unfold maxLen; omega)
                have m2 := Lib.hid (show (Z.length + 1) * 8 ≤ 140737488355328 from by omega)
                have HZ := Lib.hid hZ
                clear hm hown hbr hZ hx0 hBF
                generalize L[k] = y at *
                go_wp2_with (first | (go_at_call 11; refine CM.mono ?_; rintro e w' ⟨rfl, rfl⟩) | (at_builtin; refine wpList_append_any _ rfl (.tmp 69) (.tmp 77) 28 rfl w5.heap.size 3 i0 (.int .i64 0) 1 8 Try.underlying28 hi0 hz0 hz1 hz2 rfl (by decide) (.slice Wa Z.length wc) Z.length (intV Z) rfl (HOW.out.alloc _) (wr.heap.size + 1) (some ⟨wr.heap.size, 0, none⟩) 1 1 [.int .i64 y] rfl HRD.out (by simp [Value.oneCell']) m1.out m2.out (by have := HB.out.size; simp; omega) ?_; intro v' w7 hown' hgrow hat))
                go_roundw
                case rel => exact ⟨k + 1, by omega, by go_num, by rw [hup.out, List.length_append, intV_app]; exact hown', (HB.out.alloc HB.out.size _).grown hgrow (by have := HB.out.size; simp; omega) (fun j e => ((HOW.out.alloc (.cells #[.int .i64 y] 3)).lt j e).1)⟩
                case measure => simp [intOf]; omega
              · have hmf : mayB p aff L[k] = false := by simpa using hm
                have hup := Lib.hid (filt_no hlt hmf)
                rw [hmf] at CM
                have HOW := Lib.hid hown
                have HB := Lib.hid hbr
                clear hm hmf hown hbr hx0 hBF
                generalize L[k] = y at *
                go_wp2_with (go_at_call 11; refine CM.mono ?_; rintro e w' ⟨rfl, rfl⟩)
                go_roundw
                case rel => exact ⟨k + 1, by omega, by go_num, by rw [hup.out]; exact HOW.out, HB.out⟩
                case measure => simp [intOf]; omega
            · have hkl : k = L.length := by omega
              subst hkl
              rw [List.take_length] at hown hfl
              rw [List.take_length]
              obtain ⟨Fl, hFl⟩ : ∃ Fl, L.filter (mayB p aff) = Fl := ⟨_, rfl⟩
              rw [hFl] at hown hfl
              rw [hFl]
              have HFL := Lib.hid hFl
              have HB6 := Lib.hid hbr
              have HB5 := Lib.hid (HBo.out.below hbr)
              have hBF6 := hBF.below (hbr.mono HBR.out.size)
              have CA := ahead_is p aff F fc g w.heap.size N wr HB5.out.qu (by have := HNL.out; omega) (hBF6.more HB5.out.hB) hla H8.out
              rw [HL.out] at CA
              have HOW := Lib.hid hown
              obtain ⟨m, hm⟩ : ∃ m, (ahead p aff g L).1 = m := ⟨_, rfl⟩
              obtain ⟨is, his⟩ : ∃ is, (ahead p aff g L).2 = is := ⟨_, rfl⟩
              rw [hm, his] at CA
              have HM := Lib.hid (show ahead p aff g L = (m, is) from by rw [← hm, ← his])
              clear hFl hbr hown hm his hlt hk hx0 hBF
              go_wp2_with (go_at_call 12; refine CA.mono ?_; rintro e w6 ⟨rfl, hb6⟩; (have HW6 := Lib.hid hb6); clear hb6)
              have H6 := HB5.out.below HW6.out
              have hloop : (vals N).filter (mayB p aff) = Fl.drop 0 := by rw [HL.out, HFL.out, List.drop_zero]
              have hown6 := below_own HOW.out HW6.out
              have hbw6 := (HBR.out.trans (HB6.out.mono HBR.out.size)).trans (HW6.out.mono (Nat.le_trans HBR.out.size HB6.out.size))
              have hah : Ahd is p aff g (vals N) m 0 := fun h _ => by rw [HL.out, HM.out, h]; rfl
              have hnn : N.length ≤ 3000 := by have := HNL.out; omega
              have HQ6 := Lib.hid (show Qu w6 w.heap.size N ∧ (∀ b, bl w.heap.size N b → w.heap.size ≤ b) from ⟨H6.qu, H6.lo⟩)
              have hml : m ≤ 3000 := by
                have h0 := HM.out
                rcases hit_or_miss (· == g) L with ⟨j, hj⟩ | hms
                · by_cases hg : mayB p aff g = true
                  · rw [ahead_yes hj hg] at h0
                    injection h0 with h0 _
                    have := many_le (mayB p aff) (L.take j)
                    simp at this
                    omega
                  · rw [ahead_no (by simpa using hg)] at h0
                    injection h0 with h0 _
                    omega
                · rw [ahead_miss hms] at h0
                  injection h0 with h0 _
                  omega
              clear H6 hxr CA hBF6
              go_wp2
              go_loopw [16] (fun i wr => ∃ (k : Nat) (M : List (Nat × Int)), k ≤ Fl.length ∧ i = .int .i64 k ∧ Qu wr w.heap.size M ∧ (∀ b, bl w.heap.size M b → w.heap.size ≤ b) ∧ M.length ≤ 3000 ∧ (vals M).filter (mayB p aff) = Fl.drop k ∧ Ahd is p aff g (vals M) m k ∧ wr.ownsRow w5.heap.size 3 1 (.slice Wa Fl.length wc) Fl.length (intV Fl) ∧ Below w.heap.size w wr) (fun i _ => Fl.length - (intOf i).toNat)
              case atStart => exact ⟨0, N, Nat.zero_le _, rfl, HQ6.out.1, HQ6.out.2, hnn, hloop, hah, hown6, hbw6⟩
              case round =>
                obtain ⟨k, M, hk, rfl, hq, hlo, hMn, hfil, hah', hown', hbr'⟩ := hrel
                obtain ⟨w8, rfl⟩ : ∃ w8 : World, w8 = wr := ⟨_, rfl⟩
                have hB8 : Bytes w8 w.heap.size F aff := HBY.out.below hbr'
                by_cases hlt : k < Fl.length
                · rw [List.drop_eq_getElem_cons hlt] at hfil
                  obtain ⟨j, hit, hj, hfil2⟩ := filter_hit _ _ _ _ hfil
                  have CT := take_at p aff F fc w.heap.size w.heap.size j M w8 hq (by omega) hB8 hbr'.size hla H8.out _ rfl hit _ hj
                  obtain ⟨x, hx⟩ : ∃ x, x = Fl[k] := ⟨_, rfl⟩
                  rw [← hx] at CT hj
                  obtain ⟨bw, rfl⟩ := own_form hown' (by omega)
                  have hoc : ∀ w9, Apart (bl w.heap.size M) w8 w9 → w9.ownsRow w5.heap.size 3 1 (.slice (some ⟨bw, 0, none⟩) Fl.length wc) Fl.length (intV Fl) ∧ w9.cell? ⟨bw, k, none⟩ = some (.int .i64 x) := fun w9 ha => by
                    have ho := own_apart hown' ha (fun b e hb => by
                      rcases hown'.2 with ⟨hv, _⟩ | ⟨g', _, cur, hv, _, hg', _⟩
                      · cases hv
                      · injection hv with hO
                        injection hO with hO
                        injection hO with hO
                        subst hO
                        have e' : bw = b := by injection e
                        subst e'
                        rcases bl_types hq hb hg' with e | e <;> exact absurd e (by decide))
                    refine ⟨ho, ?_⟩
                    rw [ho.cellAt k (by omega), intV, List.getElem?_map, List.getElem?_eq_getElem hlt, hx]
                    rfl
                  have hML : (M.eraseIdx j).length ≤ 3000 := Nat.le_trans (List.length_eraseIdx_le M j) hMn
                  have hnext : is = true → k < m → ahead p aff g (vals (M.eraseIdx j)) = (m - (k + 1), true) := fun h1 h2 => by
                    have h3 := hah' h1 (by omega)
                    rw [vals_erase]
                    exact one_fewer (m := m - (k + 1)) (by rw [h3]; congr 1; omega) hit
                  have hturn : is = true → k = m → x = g := fun h1 h2 => by
                    have h3 := hah' h1 (by omega)
                    rw [h2, Nat.sub_self] at h3
                    have h4 := next_turn h3 hit
                    rw [List.getElem?_eq_getElem hit.1, h4] at hj
                    injection hj with hj
                    exact hj.symm
                  have hrel2 : ∀ w9, Qu w9 w.heap.size (M.eraseIdx j) → Apart (bl w.heap.size M) w8 w9 → ∀ wz, Below w9.heap.size w9 wz → ∃ (k' : Nat) (M' : List (Nat × Int)), k' ≤ Fl.length ∧ Value.int .i64 ((k : Int) + 1) = .int .i64 k' ∧ Qu wz w.heap.size M' ∧ (∀ b, bl w.heap.size M' b → w.heap.size ≤ b) ∧ M'.length ≤ 3000 ∧ (vals M').filter (mayB p aff) = Fl.drop k' ∧ Ahd is p aff g (vals M') m k' ∧ wz.ownsRow w5.heap.size 3 1 (.slice (some ⟨bw, 0, none⟩) Fl.length wc) Fl.length (intV Fl) ∧ Below w.heap.size w wz := fun w9 hq9 ha9 wz hbz => by
                    refine ⟨k + 1, M.eraseIdx j, by omega, by go_num, hq9.below hbz, fun b hb => hlo b (bl_erase hb), hML, by rw [vals_erase]; exact hfil2, fun h1 h2 => hnext h1 (by omega), below_own (hoc w9 ha9).1 hbz, ?_⟩
                    have h9 := hbr'.trans (ha9.below hbr'.size hlo)
                    exact h9.trans (hbz.mono h9.size)
                  have hB9 : ∀ w9, Apart (bl w.heap.size M) w8 w9 → Bytes w9 w.heap.size F aff := fun w9 ha9 => HBY.out.below (hbr'.trans (ha9.below hbr'.size hlo))
                  have hs9 : ∀ w9, Apart (bl w.heap.size M) w8 w9 → w.heap.size ≤ w9.heap.size := fun w9 ha9 => (hbr'.trans (ha9.below hbr'.size hlo)).size
                  have HOC := Lib.hid hoc
                  have HN := Lib.hid hnext
                  have HT := Lib.hid hturn
                  have HR2 := Lib.hid hrel2
                  have HB9 := Lib.hid hB9
                  have HS9 := Lib.hid hs9
                  clear hoc hnext hturn hrel2 hB9 hs9 hfil hfil2 hah' hown' hbr' hB8 hlo hq hit hj hx hbw6 hown6 hah hloop hMn
                  have hk0 : (0 : Int) ≤ (k : Int) := by omega
                  have hk1 : (k : Int) < (Fl.length : Int) := by omega
                  have hxx : (x != x) = false := by simp
                  cases his : is
                  · go_wp2_with (go_at_call 13; refine CT.mono ?_; rintro e w9 ⟨rfl, hq9, ha9⟩; (have hcell := (HOC.out w9 ha9).2); (have HQ9 := Lib.hid hq9); (have HA9 := Lib.hid ha9); clear hq9 ha9)
                    go_roundw
                    case rel =>
                      have hrr := HR2.out w9 HQ9.out HA9.out w9 (Below.refl _ _)
                      rw [his] at hrr
                      exact hrr
                    case measure => simp [intOf]; omega
                  · rcases Nat.lt_trichotomy k m with hkm | hkm | hkm
                    · have hz : ((m - (k + 1) : Nat) : Int) = (m : Int) - (k : Int) - 1 := by omega
                      have HZ := Lib.hid hz
                      have hkm' : (k : Int) < (m : Int) := by omega
                      have hne : ((k : Int) == (m : Int)) = false := by simp; omega
                      have hzz : (((m : Int) - (k : Int) - 1) != ((m : Int) - (k : Int) - 1)) = false := by simp
                      clear hz
                      go_wp2_with (first | (go_at_call 13; refine CT.mono ?_; rintro e w9 ⟨rfl, hq9, ha9⟩; (have hcell := (HOC.out w9 ha9).2); (have HQ9 := Lib.hid hq9); (have HA9 := Lib.hid ha9); clear hq9 ha9) | (go_at_call 12; (have CA := ahead_is p aff F fc g w.heap.size (M.eraseIdx j) w9 HQ9.out (by omega) ((HB9.out w9 HA9.out).more (HS9.out w9 HA9.out)) hla H8.out); rw [HN.out his hkm] at CA; dsimp only at CA; rw [HZ.out] at CA; refine CA.mono ?_; clear CA; rintro e w10 ⟨rfl, hb10⟩; (have HB10 := Lib.hid hb10); clear hb10))
                      go_roundw
                      case rel =>
                        have hrr := HR2.out w9 HQ9.out HA9.out w10 HB10.out
                        rw [his] at hrr
                        exact hrr
                      case measure => simp [intOf]; omega
                    · have hxg : x = g := HT.out his hkm
                      have hkm2 : ¬ (k : Int) < (m : Int) := by omega
                      have hkm3 : ((k : Int) == (m : Int)) = true := by simp; omega
                      have hgg : (x != g) = false := by simp [hxg]
                      clear hxg hkm
                      go_wp2_with (go_at_call 13; refine CT.mono ?_; rintro e w9 ⟨rfl, hq9, ha9⟩; (have hcell := (HOC.out w9 ha9).2); (have HQ9 := Lib.hid hq9); (have HA9 := Lib.hid ha9); clear hq9 ha9)
                      go_roundw
                      case rel =>
                        have hrr := HR2.out w9 HQ9.out HA9.out w9 (Below.refl _ _)
                        rw [his] at hrr
                        exact hrr
                      case measure => simp [intOf]; omega
                    · have hkm2 : ¬ (k : Int) < (m : Int) := by omega
                      have hne : ((k : Int) == (m : Int)) = false := by simp; omega
                      go_wp2_with (go_at_call 13; refine CT.mono ?_; rintro e w9 ⟨rfl, hq9, ha9⟩; (have hcell := (HOC.out w9 ha9).2); (have HQ9 := Lib.hid hq9); (have HA9 := Lib.hid ha9); clear hq9 ha9)
                      go_roundw
                      case rel =>
                        have hrr := HR2.out w9 HQ9.out HA9.out w9 (Below.refl _ _)
                        rw [his] at hrr
                        exact hrr
                      case measure => simp [intOf]; omega
                · have hkl : k = Fl.length := by omega
                  have hmiss : Miss (mayB p aff) (vals M) := filter_nil_miss (by rw [hfil, hkl, List.drop_length])
                  have CT := take_miss p aff F fc w.heap.size w.heap.size M w8 hq (by omega) hB8 hbr'.size hla H8.out hmiss
                  have HBR8 := Lib.hid hbr'
                  subst hkl
                  clear hmiss hfil hah' hown' hbr' hB8 hlo hq hbw6 hown6 hah hloop hlt
                  go_wp2_with (first | (go_at_call 13; refine CT.mono ?_; rintro e w9 ⟨rfl, hb9⟩; (have HB9 := Lib.hid hb9); clear hb9) | (go_at_call 7; refine (known_is w9).mono ?_; rintro e w10 ⟨rfl, hb10⟩))
                  go_ret
                  have h9 := HBR8.out.trans (HB9.out.mono HBR8.out.size)
                  exact ⟨rfl, h9.trans (hb10.mono h9.size)⟩
    · have CF := few_yes l A cap 60 w.heap.size w hA hl (by omega) hf
      have hla3 : decide (100 < (aff.length : Int)) = true := by simp; omega
      clear hA hf hl hF h8
      go_enter Try.func4, Try.ntmps4
      go_wp2_with (first | (go_at_call 6; refine CF.mono ?_; rintro e w' ⟨rfl, rfl⟩) | (go_at_call 7; refine (known_is w).mono ?_; rintro e w1 ⟨rfl, hb⟩))
      go_ret
      exact ⟨rfl, hb⟩
  · have CF := few_no l A cap 60 w.heap.size w hA hl (by omega) hf
    clear hA hf hl hF h8
    go_enter Try.func4, Try.ntmps4
    go_wp2_with (first | (go_at_call 6; refine CF.mono ?_; rintro e w' ⟨rfl, rfl⟩) | (go_at_call 7; refine (known_is w).mono ?_; rintro e w1 ⟨rfl, hb⟩))
    go_ret
    exact ⟨rfl, hb⟩
end Go.Proofs.Ytdfpbbkdlalpcaa
