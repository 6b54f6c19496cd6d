/- code.Of, by walk: what a text's lines are parsed to, and whether that one's text is it. -/
import Derived.Test.YtnbkpminecoddaaDoorCodeInsI
import Derived.Test.YtnbkpminecoddaaDoorCodeUnhex
import Derived.Test.YtnbkpminecoddaaDoorCodeBytesL
import Derived.Test.YtnbkpminecoddaaDoorCodeRefT
namespace Go.Proofs.YtnbkpminecoddaaDoor
open Go.RowKit
set_option linter.unusedVariables false
set_option linter.unusedSimpArgs false

def insB (x : Int × Int × Int × Int) : List UInt8 := [UInt8.ofNat x.1.toNat, UInt8.ofNat x.2.1.toNat, UInt8.ofNat x.2.2.1.toNat, UInt8.ofNat x.2.2.2.toNat]
/-- What a line is parsed to. -/
def lineB (l : List UInt8) : List UInt8 :=
  if l = [] then [] else if (splitL 32 l).getD 0 [] = [114, 97, 119] ∧ (splitL 32 l).length = 2 then unhex ((splitL 32 l).getD 1 []) else insB (insM (splitL 32 l))
def parseC (l : List UInt8) : List UInt8 := (splitL 10 l).flatMap lineB
theorem lineB_len (l : List UInt8) : (lineB l).length ≤ l.length + 4 := by
  unfold lineB
  split
  · simp
  · split
    · rename_i h
      have h1 := unhex_len ((splitL 32 l).getD 1 [])
      have h2 : (splitL 32 l).getD 1 [] ∈ splitL 32 l := by
        rw [List.getD_eq_getElem?_getD, List.getElem?_eq_getElem (by omega)]
        exact List.getElem_mem _
      have h3 := splitL_piece 32 l h2
      omega
    · simp [insB]
theorem flat_len : ∀ (L : List (List UInt8)), (L.flatMap lineB).length ≤ (L.map List.length).sum + 4 * L.length
  | [] => by simp
  | a :: L => by
    have h1 := flat_len L
    have h2 := lineB_len a
    rw [List.flatMap_cons, List.length_append, List.map_cons, List.sum_cons, List.length_cons]
    omega
theorem take_sum : ∀ (L : List Nat) (k : Nat), (L.take k).sum ≤ L.sum
  | [], k => by simp
  | a :: L, 0 => by simp
  | a :: L, k + 1 => by have := take_sum L k; simp; omega
theorem flat_take (l : List UInt8) (k : Nat) : (((splitL 10 l).take k).flatMap lineB).length ≤ 5 * (l.length + 1) := by
  have h1 := flat_len ((splitL 10 l).take k)
  have h2 := splitL_sum 10 l.length l (Nat.le_refl _)
  have h3 := take_sum ((splitL 10 l).map List.length) k
  rw [← List.map_take] at h3
  have h4 : ((splitL 10 l).take k).length ≤ (splitL 10 l).length := by simp; omega
  omega
theorem reads_bytes {w : World} {A : Option Addr} {l : List UInt8} {cap : Nat} (h : BytesAt w A l cap) : Reads w w.heap.size 1 A l.length (bV l) := by
  refine ⟨by simp [bV], fun h0 => ?_⟩
  rcases h.2 with rfl | ⟨g, o, rfl, hg, hc⟩
  · simp at h0
  · refine ⟨_, rfl, hg, fun j u hu => ?_⟩
    rw [Addr.add_lit]
    have hj : j < l.length := by
      have := (List.getElem?_eq_some_iff.1 hu).1
      simpa [bV] using this
    rw [hc j hj]
    simp [bV, hj] at hu
    rw [hu]
theorem bV_app (a b : List UInt8) : bV (a ++ b) = bV a ++ bV b := by simp [bV]
def D4 (x : Int × Int × Int × Int) (_ : Nat) (j : Nat) : Int := if j = 0 then x.1 else if j = 1 then x.2.1 else if j = 2 then x.2.2.1 else x.2.2.2
theorem ins_at (W : World) (x : Int × Int × Int × Int) (hx : (0 ≤ x.1 ∧ x.1 < 256) ∧ (0 ≤ x.2.1 ∧ x.2.1 < 256) ∧ (0 ≤ x.2.2.1 ∧ x.2.2.1 < 256) ∧ (0 ≤ x.2.2.2 ∧ x.2.2.2 < 256)) :
    InsAt (W.alloc (.cells #[.int .u8 x.1, .int .u8 x.2.1, .int .u8 x.2.2.1, .int .u8 x.2.2.2] 26)) (some ⟨W.heap.size, 0, none⟩) 1 1 (D4 x) := by
  refine ⟨Nat.le_refl _, (fun e => by cases e), fun i j => ?_, fun _ => ⟨_, _, rfl, by simp, fun i hi j hj => ?_⟩⟩
  · unfold D4
    repeat' split
    · exact hx.1
    · exact hx.2.1
    · exact hx.2.2.1
    · exact hx.2.2.2
  · obtain rfl : i = 0 := by omega
    rw [show 0 + 0 * 4 + j = j from by omega, (Blk.new W 26 _).cell j]
    rcases j with _ | _ | _ | _ | j
    all_goals first | rfl | omega
/-- What code.Of answers. -/
def OfPost (l : List UInt8) (w : World) (e : Ending) (w' : World) : Prop :=
  (¬ textL (parseC l) = l → e = .returned (.tuple #[.slice none 0 0, .int .i64 16])) ∧
  (textL (parseC l) = l → 1024 < (parseC l).length → e = .returned (.tuple #[.slice none 0 0, .int .i64 17])) ∧
  (textL (parseC l) = l → ¬ 1024 < (parseC l).length → ∃ A cap, e = .returned (.tuple #[.slice A (parseC l).length cap, .int .i64 0]) ∧ BytesAt w' A (parseC l) cap ∧ (A = none → cap = 0)) ∧
  Below w.heap.size w w'
set_option maxRecDepth 100000 in
set_option maxHeartbeats 4000000 in
theorem of_is (l : List UInt8) (hl : l.length ≤ 19000) (w : World) (he : Env w) : Calls Tryd.prog 19 #[.string (strL l)] w (OfPost l w) := by
  have S10 := split_is 10 l (by omega) w he
  have hlen := flat_take l
  have hpc : ∀ x ∈ splitL 10 l, x.length ≤ l.length := fun x hx => splitL_piece 10 l hx
  have hn0 := splitL_ne 10 l
  obtain ⟨i0, hi, hz0, hz1, hz2⟩ := info_parts infoU8
  obtain ⟨ls, hls⟩ : ∃ ls, ls = splitL 10 l := ⟨_, rfl⟩
  rw [← hls] at S10 hlen hpc hn0
  have HL := Lib.hid (And.intro hls (And.intro hlen (And.intro hpc hl)))
  clear hls hlen hpc hl
  go_enter Tryd.func19, Tryd.ntmps19
  go_wp2_with fail
  go_step3
  go_wp2_with fail
  go_step3
  go_wp2_with (first | (go_at_call 28; refine S10.mono ?_; rintro e1 w1 ⟨rfl, hw1, hb1⟩))
  obtain ⟨n, hn⟩ : ∃ n, n = ls.length := ⟨_, rfl⟩
  have hn9 : n < 30000 := by
    have h2 := splitL_sum 10 l.length l (Nat.le_refl _)
    have := HL.out.1
    have := HL.out.2.2.2
    rw [hn, HL.out.1]
    omega
  simp only [← hn]
  have HN := Lib.hid hn
  clear hn
  go_loopw [4, 11] (fun v i wr => ∃ k : Nat, i = .int .i64 (k : Int) ∧ k ≤ n ∧ wr.ownsRow w1.heap.size 5 1 v ((ls.take k).flatMap lineB).length (bV ((ls.take k).flatMap lineB)) ∧ Below w1.heap.size w1 wr) (fun _ i _ => n - (intOf i).toNat)
  case atStart => exact ⟨0, rfl, Nat.zero_le _, World.ownsRow_nil _ _ _ _, Below.refl _ _⟩
  case round =>
    obtain ⟨k, rfl, hk, hown, hB⟩ := hrel
    obtain ⟨A', cap', rfl⟩ := own_slice hown
    by_cases hlt : k < n
    · have hlt1 : (k : Int) < (n : Int) := by omega
      have hk9 : (k : Int) < 30000 := by omega
      have hkl : k < ls.length := by have := HN.out; omega
      have hc9 := (hB.cell (p := ⟨w.heap.size, k, none⟩) hw1.1).trans (hw1.2 k hkl)
      have hlk : (ls[k]'hkl).length ≤ 19000 := by
        have := HL.out.2.2.1 _ (List.getElem_mem hkl)
        have := HL.out.2.2.2
        omega
      have hup : (ls.take (k + 1)).flatMap lineB = (ls.take k).flatMap lineB ++ lineB (ls[k]'hkl) := by
        rw [List.take_succ_eq_append_getElem hkl, List.flatMap_append]
        simp
      have hol := HL.out.2.1 k
      have hol2 := HL.out.2.1 (k + 1)
      have hlo := HL.out.2.2.2
      generalize ls[k]'hkl = lk at *
      generalize (ls.take k).flatMap lineB = out at *
      have heW : Env wr := (he.below (B := 0) hb1).below (B := 0) hB
      have S32 := split_is 32 lk (by omega) wr heW
      have hne := splitL_ne 32 lk
      by_cases hem : lk = []
      · subst hem
        have hu : (ls.take (k + 1)).flatMap lineB = out := by rw [hup]; unfold lineB; simp
        have HU := Lib.hid hu
        have hiE : (strL []).toList.isEmpty = true := by rw [strL_toList]; rfl
        clear hup hol hol2 hlo hne hu hkl
        generalize strL [] = s0 at *
        go_wp2_with (first | (go_at_call 28; refine S32.mono ?_; rintro e2 w2 ⟨rfl, hw2, hb2⟩))
        exact ⟨⟨k + 1, by go_num, by omega, by rw [HU.out]; exact below_own hown hb2, hB.trans (hb2.mono hB.size)⟩, by simp [intOf]; omega⟩
      · have hiE : (strL lk).toList.isEmpty = false := by
          rw [strL_toList]
          cases lk with
          | nil => exact absurd rfl hem
          | cons _ _ => rfl
        have hpl : ∀ x ∈ splitL 32 lk, x.length ≤ lk.length := fun x hx => splitL_piece 32 lk hx
        have hlineB : lineB lk = if (splitL 32 lk).getD 0 [] = [114, 97, 119] ∧ (splitL 32 lk).length = 2 then unhex ((splitL 32 lk).getD 1 []) else insB (insM (splitL 32 lk)) := if_neg hem
        generalize splitL 32 lk = ws at *
        have hu0 : (ls.take (k + 1)).flatMap lineB = out ++ (if ws.getD 0 [] = [114, 97, 119] ∧ ws.length = 2 then unhex (ws.getD 1 []) else insB (insM ws)) := by rw [hup, hlineB]
        have e0 : ws.getD 0 [] = ws[0]'hne := by rw [List.getD_eq_getElem?_getD, List.getElem?_eq_getElem hne]; rfl
        have hsW : ∀ j (hj : j < ws.length), (ws[j]'hj).length ≤ 100000 := fun j hj => by have := hpl _ (List.getElem_mem hj); omega
        generalize strL lk = s0 at *
        clear hup hlineB hpl hlk hem
        rw [e0] at hu0
        have hBw := hB
        by_cases hraw : ws[0]'hne = [114, 97, 119] ∧ ws.length = 2
        · obtain ⟨hr1, hr2⟩ := hraw
          have e1 : ws.getD 1 [] = ws[1]'(by omega) := by rw [List.getD_eq_getElem?_getD, List.getElem?_eq_getElem (by omega)]; rfl
          rw [if_pos ⟨hr1, hr2⟩, e1] at hu0
          have BO := fun w => bytesOf_is (ws[1]'(by omega)) (hsW 1 (by omega)) w
          have hW2 := fun (w' : World) (h : WordsAt w' wr.heap.size ws) => And.intro (h.2 0 hne) (h.2 1 (by omega))
          have hul := unhex_len (ws[1]'(by omega))
          have h1l := hsW 1 (by omega)
          have hrw : ((strL (ws[0]'hne)).toList == ([114, 97, 119] : List UInt8)) = true := by rw [strL_toList, hr1]; rfl
          have hl2 : ((ws.length : Int) == 2) = true := by rw [hr2]; rfl
          generalize ws[1]'(by omega) = x1 at *
          generalize strL (ws[0]'hne) = x0 at *
          have HU := Lib.hid hu0
          have hm1 : (1 : Int) < (ws.length : Int) := by omega
          have hm0 : 0 < ws.length := hne
          clear hu0 e0 e1 hr1 hr2 hsW
          generalize ws.length = m at *
          generalize unhex x1 = L at *
          generalize strL x1 = y1 at *
          go_wp2_with (first | (go_at_call 28; refine S32.mono ?_; rintro e2 w2 ⟨rfl, hw2, hb2⟩; obtain ⟨hc0, hc1⟩ := hW2 w2 hw2) | (go_at_call 29; refine (BO w2).mono ?_; rintro e3 w3 ⟨v3, rfl, hn3, hb3⟩; obtain ⟨A3, cap3, rfl, hby3, -⟩ := bytes_own hn3; (have hrd := reads_bytes hby3); (have hown3 := below_own (below_own hown hb2) hb3); (have hB3 := (hBw.trans (hb2.mono hBw.size)).trans (hb3.mono (Nat.le_trans hBw.size hb2.size)))) | (refine wpList_append_any _ (o := ⟨some 35, _, _, _, _, _⟩) rfl (.tmp 30) (.tmp 34) 22 rfl w1.heap.size 5 i0 (.int .u8 0) 1 1 underU8 hi hz0 hz1 hz2 rfl (by decide) (.slice A' out.length cap') out.length (bV out) rfl hown3 w3.heap.size A3 L.length cap3 (bV L) rfl hrd (bV_one L) (by unfold maxLen; omega) (by omega) hB3.size ?_; intro v4 w4 hown4 hgr4 hob4))
          exact ⟨⟨k + 1, by go_num, by omega, by rw [HU.out, List.length_append, bV_app]; exact hown4, hB3.grown hgr4 hB3.size (fun j hj => (hown3.lt j hj).1)⟩, by simp [intOf]; omega⟩
        · rw [if_neg hraw] at hu0
          have HU := Lib.hid hu0
          have IA := fun w' (h : WordsAt w' wr.heap.size ws) (h2 : Errs w') => instr_is wr.heap.size ws hne w' h hsW h2
          have hx := insM_bd ws
          have hW2 := fun (w' : World) (h : WordsAt w' wr.heap.size ws) => h.2 0 hne
          have hcase : (((strL (ws[0]'hne)).toList == ([114, 97, 119] : List UInt8)) = true ∧ ((ws.length : Int) == 2) = false) ∨ ((strL (ws[0]'hne)).toList == ([114, 97, 119] : List UInt8)) = false := by
            rw [strL_toList]
            by_cases h1 : ws[0]'hne = [114, 97, 119]
            · refine .inl ⟨by rw [h1]; rfl, ?_⟩
              have : ¬ ws.length = 2 := fun h => hraw ⟨h1, h⟩
              simp
              omega
            · exact .inr (by rw [beq_eq_false_iff_ne]; exact h1)
          have hm0 : 0 < ws.length := hne
          clear hu0 e0 hraw hsW
          generalize strL (ws[0]'hne) = x0 at *
          generalize insM ws = x at *
          obtain ⟨xk, xa, xb, xc⟩ := x
          simp only [insV] at IA hx
          have hEr := heW.1
          have hL : (insL (D4 (xk, xa, xb, xc)) 1) = insB (xk, xa, xb, xc) := rfl
          have hLl : (insB (xk, xa, xb, xc)).length = 4 := rfl
          generalize ws.length = m at *
          rcases hcase with ⟨hf1, hf2⟩ | hf1
          all_goals
            go_wp2_with (first | (go_at_call 28; refine S32.mono ?_; rintro e2 w2 ⟨rfl, hw2, hb2⟩; have hc0 := hW2 w2 hw2) | (go_at_call 30; refine (IA w2 hw2 (hEr.below (B := 0) hb2)).mono ?_; rintro e3 w3 ⟨rfl, hb3⟩; (have hB3 := (hBw.trans (hb2.mono hBw.size)).trans (hb3.mono (Nat.le_trans hBw.size hb2.size))); (have hown3 := (below_own (below_own hown hb2) hb3).alloc (.cells #[.int .u8 xk, .int .u8 xa, .int .u8 xb, .int .u8 xc] 26)); (have BY := bytes_any _ 1 1 _ _ (by omega) (ins_at w3 (xk, xa, xb, xc) hx)); (have hB3' := hB3.alloc hB3.size (.cells #[.int .u8 xk, .int .u8 xa, .int .u8 xb, .int .u8 xc] 26))) | (go_at_call 13; refine BY.mono ?_; rintro e4 w4 ⟨A4, cap4, rfl, hby4, -, hb4⟩; (have hrd := reads_bytes hby4); (have hown4 := below_own hown3 hb4); (have hB4 := hB3'.trans (hb4.mono hB3'.size))) | (refine wpList_append_any _ (o := ⟨some 41, _, _, _, _, _⟩) rfl (.tmp 36) (.tmp 40) 22 rfl w1.heap.size 5 i0 (.int .u8 0) 1 1 underU8 hi hz0 hz1 hz2 rfl (by decide) (.slice A' out.length cap') out.length (bV out) rfl hown4 w4.heap.size A4 (insL (D4 (xk, xa, xb, xc)) 1).length cap4 (bV (insL (D4 (xk, xa, xb, xc)) 1)) rfl hrd (bV_one _) (by rw [hL, hLl]; unfold maxLen; omega) (by rw [hL, hLl]; omega) hB4.size ?_; intro v5 w5 hown5 hgr5 hob5))
            exact ⟨⟨k + 1, by go_num, by omega, by rw [HU.out, List.length_append, bV_app]; exact hown5, hB4.grown hgr5 hB4.size (fun j hj => (hown4.lt j hj).1)⟩, by simp [intOf]; omega⟩
    · have hlt1 : ¬ (k : Int) < (n : Int) := by omega
      have hkn : ls.take k = ls := List.take_of_length_le (by have := HN.out; omega)
      have hpc : ls.flatMap lineB = parseC l := by rw [HL.out.1]; rfl
      have hol := HL.out.2.1 k
      have hlo := HL.out.2.2.2
      rw [hkn, hpc] at hown hol
      rw [hkn, hpc]
      obtain ⟨A2, cap2, hv2, hby, -⟩ := bytes_own hown
      injection hv2 with hv3 hv4 hv5
      subst hv3 hv5
      have hBw := hb1.trans (hB.mono hb1.size)
      have heW : Env wr := (he.below (B := 0) hb1).below (B := 0) hB
      have TX := text_any A' (parseC l) cap' (by omega) wr hby heW.2.1
      have hnone : A' = none → cap' = 0 := by
        rintro rfl
        rcases hown.2 with ⟨h, _⟩ | ⟨g, c, cur, h, _⟩
        · injection h
        · injection h with h1 h2 h3
          cases h1
      have hcmp : ((strL (textL (parseC l))).toList == (strL l).toList) = decide (textL (parseC l) = l) := by rw [strL_toList, strL_toList, Bool.eq_iff_iff, beq_iff_eq, decide_eq_true_eq]
      obtain ⟨out, hout⟩ : ∃ out, out = parseC l := ⟨_, rfl⟩
      rw [← hout] at hown hby TX hcmp hol ⊢
      have HO := Lib.hid hout
      clear hout hv4
      have TX' : Calls Tryd.prog 18 #[.slice A' out.length cap'] wr fun e w' => e = .returned (.string (strL (textL out))) ∧ Below wr.heap.size wr w' := TX
      clear TX hkn hpc hol hlo hown heW he hk hlt
      by_cases hteq : textL out = l
      · rw [decide_eq_true hteq] at hcmp
        have HT := Lib.hid hteq
        clear hteq
        generalize strL (textL out) = s1 at *
        generalize strL l = s2 at *
        by_cases hbig : 1024 < out.length
        · have hbig1 : (1024 : Int) < (out.length : Int) := by omega
          go_wp2_with (first | (go_at_call 18; refine TX'.mono ?_; rintro e2 w2 ⟨rfl, hb2⟩))
          try rw [Exit.noGoto_ret]
          go_ret2
          unfold OfPost
          rw [← HO.out]
          exact ⟨fun h => absurd HT.out h, fun _ _ => rfl, fun _ h => absurd hbig h, hBw.trans (hb2.mono hBw.size)⟩
        · have hbig1 : ¬ (1024 : Int) < (out.length : Int) := by omega
          go_wp2_with (first | (go_at_call 18; refine TX'.mono ?_; rintro e2 w2 ⟨rfl, hb2⟩))
          try rw [Exit.noGoto_ret]
          go_ret2
          unfold OfPost
          rw [← HO.out]
          exact ⟨fun h => absurd HT.out h, fun _ h => absurd h hbig, fun _ _ => ⟨A', cap', rfl, hby.below hb2, hnone⟩, hBw.trans (hb2.mono hBw.size)⟩
      · rw [decide_eq_false hteq] at hcmp
        have HT := Lib.hid hteq
        clear hteq
        generalize strL (textL out) = s1 at *
        generalize strL l = s2 at *
        go_wp2_with (first | (go_at_call 18; refine TX'.mono ?_; rintro e2 w2 ⟨rfl, hb2⟩))
        try rw [Exit.noGoto_ret]
        go_ret2
        unfold OfPost
        rw [← HO.out]
        exact ⟨fun _ => rfl, fun h => absurd h HT.out, fun h => absurd h HT.out, hBw.trans (hb2.mono hBw.size)⟩
end Go.Proofs.YtnbkpminecoddaaDoor
