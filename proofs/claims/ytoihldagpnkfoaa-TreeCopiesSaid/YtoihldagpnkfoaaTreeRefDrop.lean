/- Drop of the reference's forest, by a walk. Condition: the places stand for a forest. -/
import Derived.Test.YtoihldagpnkfoaaTreeRefPrune
namespace Go.Proofs.Ytoihldagpnkfoaa
open Go.RowKit
set_option linter.unusedVariables false
set_option linter.unusedSimpArgs false

set_option maxHeartbeats 400000 in
theorem refDrop_no {w : World} {g qb n lc : Nat} {Q : Qw} (h : QF w g qb n lc Q) (x : Int) (hx : hasQ n Q x = false) :
    Calls Try.prog 39 #[.pointer (some ⟨g, 0, none⟩), .int .i64 x] w fun e w' => e = .returned (.int .i64 4) ∧ w = w' := by
  have CH := refHas_is h x
  rw [hx] at CH
  clear h hx
  go_enter Try.func39, Try.ntmps39
  go_wp2_with (go_at_call 22; refine CH.mono ?_; rintro e w' ⟨rfl, rfl⟩)
  go_ret
  exact ⟨rfl, rfl⟩

/-- The row without x, its children there. -/
def outK (x : Nat) (K : List Nat) (l : List Nat) : List Nat := l.flatMap fun i => if i = x then K else [i]
theorem outK_snoc (x : Nat) (K l : List Nat) (d : Nat) : outK x K (l ++ [d]) = outK x K l ++ (if d = x then K else [d]) := by simp [outK]
theorem outK_len (x : Nat) (K : List Nat) (hK : K.length ≤ 4096) : ∀ l : List Nat, l.length ≤ 4096 → (outK x K l).length ≤ 16777216 + l.length ∧ (outK x K l).length ≤ l.length * 4097
  | [], _ => by simp [outK]
  | d :: l, h => by
    simp only [List.length_cons] at h
    have h1 := outK_len x K hK l (by omega)
    have e : outK x K (d :: l) = (if d = x then K else [d]) ++ outK x K l := by simp [outK]
    rw [e, List.length_append]
    simp only [List.length_cons]
    have h2 : (if d = x then K else [d]).length ≤ 4097 := by
      split
      · omega
      · simp
    omega

set_option maxRecDepth 100000 in
set_option maxHeartbeats 1000000 in
theorem refDrop_is {w : World} {g qb : Nat} {Q : Qw} {F : Fo} {T : Nat} (h : Ref w g qb Q F T) (hF : WF F) (hT : T ≤ 900000000) (x : Nat) (hx : F.there x = true) :
    Calls Try.prog 39 #[.pointer (some ⟨g, 0, none⟩), .int .i64 x] w fun e w' => e = .returned (.int .i64 0) ∧ ∃ Q', Ref w' g qb Q' (F.drop x) (T + 1) ∧ (∀ k, Q'.blk F.n k → Q.blk F.n k ∨ w.heap.size ≤ k) ∧ Apart (own2 g qb) w w' := by
  obtain ⟨lc, hq⟩ := h.qf
  obtain ⟨i0, hi0, hz0, hz1, hz2⟩ := info_parts infoInt
  have CH := refHas_is hq x
  rw [has_qrep h.rep hF, show F.has (x : Int) = true by simp [Fo.has, hx]] at CH
  have hn2 := hq.n2
  have hxn := hF.lt x hx
  have hok : F.ok (F.par x) := hF.up x hx
  have hpn : F.par x < (F.n : Int) := by
    rcases hok with e | ⟨j, e, hj⟩
    · omega
    · have := hF.lt j hj; omega
  have hrK := h.rep.row hF hok
  have hrl : (Q.row (F.par x)).K.length ≤ 4096 := by rw [hrK]; exact Nat.le_trans (kids_le hF _) hn2
  have hkK := h.rep.K x hxn
  have hkl : (Q.M x).K.length ≤ 4096 := by rw [hkK]; exact Nat.le_trans (kids_le hF _) hn2
  have hkn : ∀ d ∈ (Q.M x).K, d < F.n := fun d hd => by rw [hkK] at hd; exact hF.lt d ((hF.kin _ _).1 hd).1
  have hp := h.rep.p x hxn
  rw [if_pos hx] at hp
  have ht := (h.rep.t x hxn).trans hx
  obtain ⟨z0, z1, z2, z3⟩ := hq.at_ x hxn
  rw [ht] at z0
  rw [hp] at z1
  have c0 := hq.cells.1
  have hne : ∀ y, hq.head.lt = y → True := fun _ _ => trivial
  have hb1 : ∀ o, Below w.heap.size w (w.alloc o) := fun o => (Below.refl _ w).alloc (Nat.le_refl _) o
  have HQ := Lib.hid hq
  have HREP := Lib.hid h.rep
  have HWF := Lib.hid hF
  have HR := Lib.hid hrK
  have HK := Lib.hid (And.intro hkK hkn)
  have HX := Lib.hid hx
  have HT := Lib.hid (And.intro h.t0 h.t1)
  have HLT := Lib.hid (fun k (hk : qfoot g qb F.n Q k) => h.lt hk)
  have HPV := Lib.hid hok
  clear hp ht hne hq h hF hrK hkK hkn hx hok
  unfold Qd.row Rw.v at z2
  simp only at z2
  obtain ⟨pv, hpv⟩ : ∃ pv, pv = F.par x := ⟨_, rfl⟩
  rw [← hpv] at z1 hpn hrl HPV HR
  obtain ⟨fr, hfr⟩ : ∃ fr, fr = (Q.M x).fr := ⟨_, rfl⟩
  rw [← hfr] at z3
  obtain ⟨KA, hKA⟩ : ∃ z, z = (Q.M x).A := ⟨_, rfl⟩
  obtain ⟨Kc, hKc⟩ : ∃ z, z = (Q.M x).c := ⟨_, rfl⟩
  obtain ⟨K, hK⟩ : ∃ z, z = (Q.M x).K := ⟨_, rfl⟩
  rw [← hKA, ← hKc, ← hK] at z2
  rw [← hK] at hkl HK
  have HCK := Lib.hid (show Cut w (.slice KA K.length Kc) (nats K) from by rw [hKA, hKc, hK]; exact HQ.out.rows x hxn)
  have HKB := Lib.hid (show ∀ k, (Value.slice KA K.length Kc).ownBlock = some k → Q.blk F.n k from fun k hk => .inr ⟨x, hxn, by rw [hKA, hKc, hK] at hk; exact hk⟩)
  clear hKA hKc hK hfr
  have HPV2 := Lib.hid hpv
  clear hpv
  -- the row that x is in
  have hbw : Below w.heap.size w (w.alloc (.cells #[.bool true, .int .i64 pv, .slice KA K.length Kc, .int .i64 fr] 68)) := hb1 _
  have hblk := Blk.new w 68 #[.bool true, .int .i64 pv, .slice KA K.length Kc, .int .i64 fr]
  have hq1 := HQ.out.below hbw
  have CR := refRow_is hq1 pv hpn
  have hrc := hq1.row_cut pv hpn
  obtain ⟨rr, hrr⟩ : ∃ rr, rr = Q.row pv := ⟨_, rfl⟩
  rw [← hrr] at CR hrl HR hrc
  have HRR := Lib.hid hrr
  clear hrr
  unfold Rw.v at CR
  have HI := Lib.hid (And.intro hbw (And.intro hblk (And.intro hq1 hrc)))
  clear hb1 hbw hq1 hrc
  have b1 := hblk.cell 1
  simp only [List.getElem?_toArray, List.getElem?_cons_zero, List.getElem?_cons_succ] at b1
  clear hblk
  go_enter Try.func39, Try.ntmps39
  go_wp2_with (first | (go_at_call 22; refine CH.mono ?_; rintro e w' ⟨rfl, rfl⟩) | (go_at_call 48; refine CR.mono ?_; rintro e w' ⟨rfl, rfl⟩))
  obtain ⟨W1, hW1⟩ : ∃ W1, W1 = w.alloc (.cells #[.bool true, .int .i64 pv, .slice KA K.length Kc, .int .i64 fr] 68) := ⟨_, rfl⟩
  rw [← hW1] at HI ⊢
  clear hW1 b1 CR CH z0 z1 z2 z3 c0
  go_loopw [6, 8] (fun o i wr => ∃ k : Nat, k ≤ rr.K.length ∧ i = .int .i64 k ∧ wr.ownsRow W1.heap.size 3 1 o (outK x K (rr.K.take k)).length (intV (nats (outK x K (rr.K.take k)))) ∧ Below W1.heap.size W1 wr) (fun _ i _ => rr.K.length - (intOf i).toNat)
  case atStart => exact ⟨0, Nat.zero_le _, rfl, World.ownsRow_nil _ _ _ _, Below.refl _ _⟩
  case round =>
    obtain ⟨k, hk, rfl, hown, hbr⟩ := hrel
    obtain ⟨A, cap, rfl⟩ := own_slice hown
    have hbox := HI.out.2.1.below hbr HI.out.2.1.lt
    have b1 := hbox.cell 1
    have b2 := hbox.cell 2
    simp only [List.getElem?_toArray, List.getElem?_cons_zero, List.getElem?_cons_succ] at b1 b2
    have HBX := Lib.hid hbox
    have HO := Lib.hid hown
    have HB := Lib.hid hbr
    by_cases hlt : k < rr.K.length
    · have hkn : k < (nats rr.K).length := by rw [nats_len]; exact hlt
      obtain ⟨gr, hgr, hcell⟩ := Cut.cells (A := rr.A) (n := rr.K.length) (cap := rr.c) (HI.out.2.2.2.below hbr) k hkn
      have hel : (nats rr.K)[k] = ((rr.K[k] : Nat) : Int) := by simp [nats]
      rw [hel] at hcell
      have htk : rr.K.take (k + 1) = rr.K.take k ++ [rr.K[k]] := List.take_succ_eq_append_getElem hlt
      obtain ⟨d, hd⟩ : ∃ d, d = rr.K[k] := ⟨_, rfl⟩
      rw [← hd] at hcell htk
      have hsn := outK_snoc x K (rr.K.take k) d
      rw [← htk] at hsn
      have htl : (rr.K.take k).length ≤ 4096 := by rw [List.length_take]; omega
      have hol := (outK_len x K hkl (rr.K.take k) htl).2
      have hol2 : (outK x K (rr.K.take k)).length ≤ 4096 * 4097 := Nat.le_trans hol (Nat.mul_le_mul_right _ htl)
      have HSN := Lib.hid hsn
      obtain ⟨L, hL⟩ : ∃ L, L = outK x K (rr.K.take k) := ⟨_, rfl⟩
      rw [← hL] at hown hol2 HSN HO ⊢
      obtain ⟨rA, hrA⟩ : ∃ z, z = rr.A := ⟨_, rfl⟩
      rw [← hrA] at hgr ⊢
      subst hgr
      have HRA := Lib.hid hrA
      obtain ⟨-, hrk, -⟩ := Cut.reads (A := KA) (n := K.length) (c := Kc) ((HCK.out.below HI.out.1).below hbr)
      have HRK := Lib.hid hrk
      have m1 := Lib.hid (show L.length + K.length ≤ maxLen from by unfold maxLen; omega)
      have m2 := Lib.hid (show (L.length + K.length) * 8 ≤ 140737488355328 from by omega)
      have m3 := Lib.hid (show L.length + 1 ≤ maxLen from by unfold maxLen; omega)
      have m4 := Lib.hid (show (L.length + 1) * 8 ≤ 140737488355328 from by omega)
      have hkl1 : (k : Int) < (rr.K.length : Int) := by omega
      clear hown hbr hbox hkn hel htk hd hsn htl hol hol2 hL hrA hrk
      by_cases hdx : d = x
      · have hdx' : ((d : Int) == (x : Int)) = true := by simp; omega
        have HDX := Lib.hid hdx
        clear hdx
        go_wp2_with (at_builtin; refine wpList_append_any _ rfl (.tmp 37) (.tmp 39) 29 rfl W1.heap.size 3 i0 (.int .i64 0) 1 8 Try.underlying29 hi0 hz0 hz1 hz2 rfl (by decide) (.slice A L.length cap) L.length (intV (nats L)) rfl HO.out wr.heap.size KA K.length Kc (intV (nats K)) rfl HRK.out (intV_one _) m1.out m2.out HB.out.size ?_; intro v2 w2 hown2 hg2 hat2; (obtain ⟨A2, c2, rfl⟩ := own_slice hown2); (have HO2 := Lib.hid (And.intro hown2 (HB.out.grown hg2 HB.out.size (fun j e => (HO.out.lt j e).1)))); clear hown2 hg2 hat2 b1 b2 hcell)
        go_roundw
        case rel =>
          refine ⟨k + 1, by omega, by go_num, ?_, HO2.out.2⟩
          rw [HSN.out, if_pos HDX.out, nats_app, intV_app, List.length_append]
          exact HO2.out.1
        case measure => simp [intOf]; omega
      · have hdx' : ((d : Int) == (x : Int)) = false := by simp; omega
        have HDX := Lib.hid hdx
        have HRD := Lib.hid (reads_one_ wr d)
        clear hdx
        go_wp2_with (at_builtin; refine wpList_append_any _ rfl (.tmp 41) (.tmp 46) 29 rfl W1.heap.size 3 i0 (.int .i64 0) 1 8 Try.underlying29 hi0 hz0 hz1 hz2 rfl (by decide) (.slice A L.length cap) L.length (intV (nats L)) rfl (HO.out.alloc _) (wr.heap.size + 1) (some ⟨wr.heap.size, 0, none⟩) 1 1 [.int .i64 d] rfl HRD.out (by simp [Value.oneCell']) m3.out m4.out (by have := HB.out.size; simp; omega) ?_; intro v2 w2 hown2 hg2 hat2; (obtain ⟨A2, c2, rfl⟩ := own_slice hown2); (have HO2 := Lib.hid (And.intro hown2 ((HB.out.alloc HB.out.size (.cells #[.int .i64 d] 3)).grown hg2 (by have := HB.out.size; simp; omega) (fun j e => (HO.out.lt j e).1)))); clear hown2 hg2 hat2 b1 b2 hcell)
        go_roundw
        case rel =>
          refine ⟨k + 1, by omega, by go_num, ?_, HO2.out.2⟩
          rw [HSN.out, if_neg HDX.out, nats_app, intV_app, List.length_append]
          exact HO2.out.1
        case measure => simp [intOf]; omega
    · have hkr : k = rr.K.length := by omega
      subst hkr
      obtain ⟨O, hO⟩ : ∃ O, O = outK x K (rr.K.take rr.K.length) := ⟨_, rfl⟩
      rw [← hO] at hown HO ⊢
      rw [List.take_length] at hO
      have HOE := Lib.hid hO
      have hq2 := HI.out.2.2.1.below hbr
      have HQ2 := Lib.hid hq2
      clear hown hbr hbox hO hq2 hlt
      go_wp2_with fail
      clear b1 b2
      obtain ⟨wo, hwo⟩ : ∃ wo, wo = wr := ⟨_, rfl⟩
      subst hwo
      go_loopw [9] (fun i wx => ∃ k : Nat, k ≤ K.length ∧ i = .int .i64 k ∧ QF wx g qb F.n lc (setPs Q (K.take k) pv) ∧ Apart (own2 g qb) wo wx) (fun i _ => K.length - (intOf i).toNat)
      case atStart => exact ⟨0, Nat.zero_le _, rfl, HQ2.out, Apart.refl _ _⟩
      case round =>
        obtain ⟨k, hk, rfl, hqk, hap⟩ := hrel
        have hnb : ¬ own2 g qb w.heap.size := fun e => by have := HLT.out _ (.inl e); omega
        have hbox : Blk wr w.heap.size 68 #[.bool true, .int .i64 pv, .slice KA K.length Kc, .int .i64 fr] := (hap.block _ HBX.out.lt hnb).trans HBX.out
        have b1 := hbox.cell 1
        have b2 := hbox.cell 2
        simp only [List.getElem?_toArray, List.getElem?_cons_zero, List.getElem?_cons_succ] at b1 b2
        have HAP := Lib.hid hap
        have HNB := Lib.hid hnb
        have HBX2 := Lib.hid hbox
        by_cases hlt : k < K.length
        · have hkn : k < (nats K).length := by rw [nats_len]; exact hlt
          have hcutx : Cut wr (.slice KA K.length Kc) (nats K) := ((HCK.out.below HI.out.1).below HB.out).apart hap (fun j hj hs => by
            have h1 := HKB.out j hj
            have h2 := HQ.out.ng j h1
            rcases hs with e | e
            · exact h2.1 e
            · exact h2.2 e)
          obtain ⟨gr, hgr, hcell⟩ := hcutx.cells k hkn
          have hel : (nats K)[k] = ((K[k] : Nat) : Int) := by simp [nats]
          rw [hel] at hcell
          have htk : K.take (k + 1) = K.take k ++ [K[k]] := List.take_succ_eq_append_getElem hlt
          have hdn := HK.out.2 _ (List.getElem_mem hlt)
          obtain ⟨d, hd⟩ : ∃ d, d = K[k] := ⟨_, rfl⟩
          rw [← hd] at hcell htk hdn
          subst hgr
          have hps : setPs Q (K.take (k + 1)) pv = (setPs Q (K.take k) pv).setP d pv := by rw [htk]; simp [setPs]
          have HPS := Lib.hid hps
          have e0 := hqk.cells.1
          have HQK := Lib.hid hqk
          have hkl1 : (k : Int) < (K.length : Int) := by omega
          have hdn1 : (d : Int) < (F.n : Int) := by omega
          clear hqk hap hbox hkn hcutx hel htk hd hps hnb
          go_wp2_with fail
          go_still_tail 13, (by kernel_rfl)
          change wpList _ _ _ _ _ wr.drew
          have hw2 : QF wr.drew g qb F.n lc (setPs Q (K.take k) pv) ∧ Apart (own2 g qb) wo wr.drew := ⟨HQK.out.keep (fun _ _ => rfl) (Nat.le_refl _), HAP.out.drew⟩
          clear b1 b2 hcell e0
          generalize wr.drew = w3 at *
          have e2 := (hw2.1.at_ d hdn).c1
          have ef := hw2.1.fr (d * 4 + 1)
          have HW := Lib.hid (And.intro (hw2.1.setP d hdn pv) (hw2.2.setCell (p := ⟨qb, d * 4 + 1, none⟩) (.inl (.inr rfl)) (.int .i64 pv)))
          generalize ((setPs Q (K.take k) pv).M d).p = oldp at e2
          clear hw2
          go_wp2
          go_roundw
          case rel => exact ⟨k + 1, by omega, by go_num, by rw [HPS.out]; exact HW.out.1, HW.out.2⟩
          case measure => simp [intOf]; omega
        · have hkr : k = K.length := by omega
          subst hkr
          rw [List.take_length] at hqk
          have hor := own_apart HO.out hap (fun j e hs => by
            have h1 := (HO.out.lt j e).1
            have h2 := HLT.out j (.inl hs)
            have h3 := HI.out.1.size
            omega)
          have hoc : Cut wr (⟨A, cap, O⟩ : Rw).v (nats O) := Cut.own (B := W1.heap.size) (by rw [nats_len]; exact hor)
          have hnew : ∀ j, (⟨A, cap, O⟩ : Rw).blk j → w.heap.size ≤ j := fun j e => by
            have h1 := (HO.out.lt j e).1
            have h3 := HI.out.1.size
            omega
          have CS := refSet_is hqk pv hpn ⟨A, cap, O⟩ hoc (fun j e => by
            have h1 := hnew j e
            have h2 := HLT.out g (.inl (.inl rfl))
            have h3 := HLT.out qb (.inl (.inr rfl))
            omega)
          unfold Rw.v at CS
          simp only at CS
          have HNEW := Lib.hid hnew
          clear hqk hap hbox hor hoc hnew hnb hlt
          have htt : ((setPs Q K pv).setRow pv ⟨A, cap, O⟩).T = Q.T := by rw [(setRow_rt _ _ _).2, (setPs_all pv K Q).2.1]
          have HTT := Lib.hid htt
          clear htt
          go_wp2_with (first | (go_at_call 47; refine CS.mono ?_; clear CS; rintro e w6 ⟨⟨z6, rfl⟩, q6, a6⟩; (have HQ6 := Lib.hid (And.intro q6 a6)); clear q6 a6 b1 b2) | (go_at_call 49; refine (refFree_is HQ6.out.1 x hxn (by rw [HTT.out]; exact HT.out.1) (by rw [HTT.out]; have := HT.out.2; omega)).mono ?_; rintro e w7 ⟨⟨z7, rfl⟩, q7, a7⟩; (have HQ7 := Lib.hid (And.intro q7 a7)); clear q7 a7))
          go_ret
          have hK0 : K = F.kids (x : Int) := HK.out.1
          have hrK : (⟨A, cap, O⟩ : Rw).K = (F.kids (F.par x)).flatMap (fun i => if i = x then F.kids (x : Int) else [i]) := by
            show O = _
            rw [HOE.out, HR.out, ← hK0, HPV2.out]
            rfl
          have hrep := qrep_drop HREP.out HWF.out HX.out hrK
          rw [← hK0, ← HPV2.out] at hrep
          have hT7 : (((setPs Q K pv).setRow pv ⟨A, cap, O⟩).free x).T = Q.T + 1 := by
            show ((setPs Q K pv).setRow pv ⟨A, cap, O⟩).T + 1 = _
            rw [HTT.out]
          refine ⟨rfl, _, ⟨⟨lc, HQ7.out.1⟩, hrep, ?_, ?_⟩, fun k hk => ?_, ?_⟩
          · rw [hT7]; have := HT.out.1; omega
          · rw [hT7]; have := HT.out.2; simp only [Int.natCast_add]; omega
          · have h1 := free_blk hk
            have hsp : ∀ (K : List Nat) (Q : Qw) (j : Nat), (setPs Q K pv).blk F.n j → Q.blk F.n j := by
              intro K
              induction K with
              | nil => intro Q j h; exact h
              | cons a K ih =>
                intro Q j h
                have h2 := ih (Q.setP a pv) j h
                unfold Qw.setP at h2
                rcases h2 with h2 | ⟨i, hi, h2⟩
                · exact .inl h2
                · simp only [put_M] at h2
                  by_cases e : i = a
                  · rw [if_pos e] at h2
                    exact .inr ⟨i, hi, by rw [e]; exact h2⟩
                  · rw [if_neg e] at h2
                    exact .inr ⟨i, hi, h2⟩
            unfold Qw.setRow at h1
            by_cases h0 : pv < 0
            · rw [if_pos h0] at h1
              rcases h1 with h1 | h1
              · exact .inr (HNEW.out k h1)
              · exact .inl (hsp K Q k (.inr h1))
            · rw [if_neg h0] at h1
              unfold Qw.setK at h1
              rcases blk_put h1 with h1 | h1
              · exact .inl (hsp K Q k h1)
              · exact .inr (HNEW.out k h1)
          · have h1 : Apart (own2 g qb) w wo := (Apart.of_below HI.out.1).trans (Apart.of_below (S := own2 g qb) HB.out) (fun _ _ hk => hk)
            exact ((h1.trans HAP.out (fun _ _ hk => hk)).trans HQ6.out.2 (fun _ _ hk => hk)).trans HQ7.out.2 (fun _ _ hk => hk)
end Go.Proofs.Ytoihldagpnkfoaa
