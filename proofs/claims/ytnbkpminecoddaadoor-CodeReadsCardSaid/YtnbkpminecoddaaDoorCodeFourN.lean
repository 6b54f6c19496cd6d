/- The reference's four, by walk: the half of numbers. -/
import Derived.Test.YtnbkpminecoddaaDoorCodeFour1
import Derived.Deep.MidRow
import Derived.StillTailTactics
namespace Go.Proofs.YtnbkpminecoddaaDoor
open Go.RowKit
set_option linter.unusedVariables false
set_option linter.unusedSimpArgs false

/-- The numbers read so far. -/
def NumsTo (ws : List (List UInt8)) (n : Nat → Int) (k : Nat) : Prop := (∀ j, 1 ≤ j → j < k → (h : j < ws.length) → VP (ws[j]'h) (n j) true) ∧ ∀ j, k ≤ j → n j = 0
def setI (n : Nat → Int) (k : Nat) (z : Int) : Nat → Int := fun j => if j = k then z else n j
theorem nums_step {ws : List (List UInt8)} {n : Nat → Int} {k : Nat} (h : NumsTo ws n k) (hk : 1 ≤ k) (hl : k < ws.length) {z : Int} (hz : VP (ws[k]'hl) z true) : NumsTo ws (setI n k z) (k + 1) := by
  refine ⟨fun j h1 h2 h3 => ?_, fun j hj => ?_⟩
  · by_cases e : j = k
    · subst e
      simpa [setI] using hz
    · simp only [setI, e, if_false]
      exact h.1 j h1 (by omega) h3
  · simp only [setI]
    rw [if_neg (by omega)]
    exact h.2 j (by omega)
theorem nums_all {l : List UInt8} {n : Nat → Int} (h : NumsTo (splitL 32 l) n (splitL 32 l).length) {k a b c : Int} (hk : 0 ≤ k ∧ k < 256) (ha : 0 ≤ a ∧ a < 256) (hb : 0 ≤ b ∧ b < 256) (hc : 0 ≤ c ∧ c < 256)
    (hn : ¬ refLineL k a b c = []) (he : l = refLineL k a b c) : (-40000 ≤ n 1 ∧ n 1 ≤ 70000) ∧ (-40000 ≤ n 2 ∧ n 2 ≤ 70000) ∧ (k, a, b, c) ∈ cands (n 1) (n 2) (n 3) := by
  have hw : splitL 32 l = wordsL k a b c := by rw [he]; exact words_line hn
  rw [hw] at h
  refine cands_all hk ha hb hc hn (fun i h1 h2 => ?_) (fun i hi => h.2 i hi)
  obtain ⟨z0, z1, z2, z3⟩ := wordsL_num hk ha hb hc i h1 h2
  have hv := h.1 i h1 h2 h2
  have e := (hv.2 z0 (by omega) z3.symm).1
  exact ⟨hv.1 rfl, by omega⟩
theorem vp_no {w : List UInt8} {z : Int} (h : VP w z false) {z0 : Int} (hz : -32768 ≤ z0 ∧ z0 < 65536) (he : w = Lib.itoa z0) : False := by
  have := (h.2 z0 (by omega) he.symm).2
  cases this
/-- Not a number: no line of an instruction. -/
theorem FP_word {l : List UInt8} (hr : ¬ RawH l) {i : Nat} (h1 : 1 ≤ i) (hi : i < (splitL 32 l).length) {z : Int} (hv : VP ((splitL 32 l)[i]'hi) z false) : FP l [] false := by
  refine FP_no hr fun k a b c hk ha hb hc _ hn he => ?_
  have hw : splitL 32 l = wordsL k a b c := by rw [he]; exact words_line hn
  have hi' : i < (wordsL k a b c).length := by rw [← hw]; exact hi
  obtain ⟨z0, z1, z2, z3⟩ := wordsL_num hk ha hb hc i h1 hi'
  refine vp_no hv ⟨z1, z2⟩ (Eq.trans ?_ z3)
  congr 1
theorem FP_many {l : List UInt8} (hr : ¬ RawH l) (hm : 4 < (splitL 32 l).length) : FP l [] false := by
  refine FP_no hr fun k a b c hk ha hb hc _ hn he => ?_
  have hw : splitL 32 l = wordsL k a b c := by rw [he]; exact words_line hn
  have := wordsL_len k a b c
  rw [hw] at hm
  omega
theorem FP_far {l : List UInt8} (hr : ¬ RawH l) {n : Nat → Int} (h : NumsTo (splitL 32 l) n (splitL 32 l).length) (hf : ¬ ((-40000 ≤ n 1 ∧ n 1 ≤ 70000) ∧ (-40000 ≤ n 2 ∧ n 2 ≤ 70000))) : FP l [] false := by
  refine FP_no hr fun k a b c hk ha hb hc _ hn he => ?_
  obtain ⟨g1, g2, _⟩ := nums_all h hk ha hb hc hn he
  exact hf ⟨g1, g2⟩
/-- Is the line that of a candidate? -/
def hitB (l : List UInt8) (x : Qi) : Bool := isB x.1 x.2.1 x.2.2.1 x.2.2.2 && decide (refLineL x.1 x.2.1 x.2.2.1 x.2.2.2 = l)
theorem FP_none {l : List UInt8} (hr : ¬ RawH l) {n : Nat → Int} (h : NumsTo (splitL 32 l) n (splitL 32 l).length) (hf : ∀ x ∈ cands (n 1) (n 2) (n 3), hitB l x = false) : FP l [] false := by
  refine FP_no hr fun k a b c hk ha hb hc hi hn he => ?_
  obtain ⟨_, _, g⟩ := nums_all h hk ha hb hc hn he
  have := hf _ g
  simp only [hitB, hi, Bool.true_and, decide_eq_false_iff_not] at this
  exact this he.symm

/-! Candidates in memory. -/
def cV (x : Qi) : List Value := [.int .u8 x.1, .int .u8 x.2.1, .int .u8 x.2.2.1, .int .u8 x.2.2.2]
def csV (L : List Qi) : List Value := L.flatMap cV
theorem csV_len (L : List Qi) : (csV L).length = L.length * 4 := by
  induction L with
  | nil => rfl
  | cons x L ih => simp only [csV, List.flatMap_cons, List.length_append, List.length_cons] at ih ⊢; rw [ih]; simp [cV]; omega
theorem csV_at : ∀ (L : List Qi) (i : Nat) (h : i < L.length) (j : Nat) (v : Value), (cV (L[i]'h))[j]? = some v → (csV L)[i * 4 + j]? = some v
  | x :: L, 0, h, j, v, hv => by
    have hj : j < (cV x).length := (List.getElem?_eq_some_iff.1 hv).1
    simp only [csV, List.flatMap_cons]
    rw [List.getElem?_append_left (by omega)]
    simpa using hv
  | x :: L, i + 1, h, j, v, hv => by
    have := csV_at L i (by simpa using h) j v (by simpa using hv)
    simp only [csV, List.flatMap_cons] at this ⊢
    rw [List.getElem?_append_right (by simp [cV]; omega)]
    rw [show (i + 1) * 4 + j - (cV x).length = i * 4 + j by simp [cV]; omega]
    exact this
theorem infoIns : (Tryd.prog.info? 26).map (fun i => (i.zero, i.size, i.bytes)) = some (some (.agg #[.int .u8 0, .int .u8 0, .int .u8 0, .int .u8 0]), 4, 4) := by kernel_rfl
theorem underInsS : Tryd.prog.underlying 34 = some (.slice 26) := by kernel_rfl
/-- Candidate i lies there. -/
def CandAt (w : World) (g : Nat) (i : Nat) (x : Qi) : Prop := w.rangeAt g (i * 4) (cV x)
theorem own_cands {w : World} {B : Nat} {v : Value} {L : List Qi} (h : w.ownsRow B 26 4 v L.length (csV L)) (hn : 0 < L.length) : ∃ g cap, v = .slice (some ⟨g, 0, none⟩) L.length cap ∧ g < w.heap.size ∧ B ≤ g ∧ ∀ i (hi : i < L.length), CandAt w g i (L[i]'hi) := by
  rcases h.2 with ⟨_, h0⟩ | ⟨g, cap, cur, hv, hb, hg, h1, h2, h3, h4⟩
  · omega
  · refine ⟨g, cap, hv, (Array.getElem?_eq_some_iff.1 hg).1, hb, fun i hi j u hu => ?_⟩
    have hj : j < (cV (L[i]'hi)).length := (List.getElem?_eq_some_iff.1 hu).1
    have h5 := csV_at L i hi j u hu
    rw [← h4, List.getElem?_take] at h5
    split at h5
    · rw [cell_of_row _ g _ _ _ _ hg, ← Array.getElem?_toList]
      exact h5
    · cases h5
theorem CandAt.below {w w' : World} {g i B : Nat} {x : Qi} (h : CandAt w g i x) (hb : Below B w w') (hg : g < B) : CandAt w' g i x := fun j v hv => (hb.cell (p := ⟨g, i * 4 + j, none⟩) hg).trans (h j v hv)
theorem CandAt.cells {w : World} {g i : Nat} {x : Qi} (h : CandAt w g i x) : w.cell? ⟨g, i * 4, none⟩ = some (.int .u8 x.1) ∧ w.cell? ⟨g, i * 4 + 1, none⟩ = some (.int .u8 x.2.1) ∧ w.cell? ⟨g, i * 4 + 2, none⟩ = some (.int .u8 x.2.2.1) ∧ w.cell? ⟨g, i * 4 + 3, none⟩ = some (.int .u8 x.2.2.2) :=
  ⟨h 0 _ rfl, h 1 _ rfl, h 2 _ rfl, h 3 _ rfl⟩
theorem load_cand {ops : Array Oper} {rest : List Oper} {o : Oper} {a : Act} {w : World} {Q : Exit → Act → World → Prop} {g i : Nat} {x : Qi} (hB : CandAt w g i x) (hgd : Region.wanted o (yielded ops a.tmps) = true) (v : Operand)
    (ho : o.op = .load 26 v) (hx : a.eval v = .pointer (some ⟨g, i * 4, none⟩)) (h : wpList Tryd.prog ops Q rest (a.put o.dst (insV x.1 x.2.1 x.2.2.1 x.2.2.2)) w) : wpList Tryd.prog ops Q (o :: rest) a w := by
  obtain ⟨d, hu1, hu2⟩ := underIns
  refine wpList_step fun K hK => ?_
  rw [if_pos hgd]
  exact wp_load_mid 26 v ho g (i * 4) hx (cV x) d hB hu1 (by cases d <;> first | rfl | exact absurd hu2 Bool.false_ne_true) (by kernel_rfl) (hK _ _ h)
/-- The eight that are always there. -/
def cands8 (n1 n2 n3 : Int) : List Qi :=
  [(0, 0, 0, 0), (1, n1 % 256, farO n2 / 256, farO n2 % 256), (2, n1 % 256, n2 % 256, n3 % 256), (3, n1 % 256, n2 % 256, n3 % 256), (4, n1 % 256, n2 % 256, n3 % 256),
   (5, 0, farO n1 / 256, farO n1 % 256), (6, n1 % 256, farO n2 / 256, farO n2 % 256), (7, n1 % 256, 0, 0)]
theorem csV_app (a b : List Qi) : csV (a ++ b) = csV a ++ csV b := by simp [csV]
theorem c8_new (w : World) (x1 x2 x3 : Int) (j : Nat) (u : Value) (h : (csV (cands8 x1 x2 x3))[j]? = some u) : (w.alloc (.cells #[.int .u8 0, .int .u8 0, .int .u8 0, .int .u8 0, .int .u8 1, .int .u8 (x1 % 256), .int .u8 ((x2 + 131072) % 65536 / 256), .int .u8 ((x2 + 131072) % 256), .int .u8 2, .int .u8 (x1 % 256), .int .u8 (x2 % 256), .int .u8 (x3 % 256), .int .u8 3, .int .u8 (x1 % 256), .int .u8 (x2 % 256), .int .u8 (x3 % 256), .int .u8 4, .int .u8 (x1 % 256), .int .u8 (x2 % 256), .int .u8 (x3 % 256), .int .u8 5, .int .u8 0, .int .u8 ((x1 + 131072) % 65536 / 256), .int .u8 ((x1 + 131072) % 256), .int .u8 6, .int .u8 (x1 % 256), .int .u8 ((x2 + 131072) % 65536 / 256), .int .u8 ((x2 + 131072) % 256), .int .u8 7, .int .u8 (x1 % 256), .int .u8 0, .int .u8 0] 26)).cell? ((⟨w.heap.size, 0, none⟩ : Addr).add j) = some u := by
  refine news_new w 26 _ j u ?_
  rw [← h]
  have e2 : farO x2 % 256 = (x2 + 131072) % 256 := by unfold farO; omega
  have e1 : farO x1 % 256 = (x1 + 131072) % 256 := by unfold farO; omega
  simp only [csV, cands8, cV, List.flatMap_cons, List.flatMap_nil, e1, e2]
  rfl
theorem csV_one (L : List Qi) : ∀ u ∈ csV L, u.oneCell' = true := by
  intro u hu
  obtain ⟨x, _, hx⟩ := List.mem_flatMap.1 hu
  simp only [cV, List.mem_cons, List.not_mem_nil, or_false] at hx
  rcases hx with rfl | rfl | rfl | rfl <;> rfl
theorem cands_yes {x1 x2 x3 : Int} (h : 1 ≤ x1 ∧ x1 ≤ 22) : cands x1 x2 x3 = cands8 x1 x2 x3 ++ [(16 + x1, 0, 0, 0)] := by simp only [cands, if_pos h]; rfl
theorem cands_no {x1 x2 x3 : Int} (h : ¬ (1 ≤ x1 ∧ x1 ≤ 22)) : cands x1 x2 x3 = cands8 x1 x2 x3 := by simp only [cands, if_neg h]; rfl
theorem bV_ins {k a b c : Int} (h : (0 ≤ k ∧ k < 256) ∧ (0 ≤ a ∧ a < 256) ∧ (0 ≤ b ∧ b < 256) ∧ (0 ≤ c ∧ c < 256)) : bV (insB (k, a, b, c)) = [.int .u8 k, .int .u8 a, .int .u8 b, .int .u8 c] := by
  have one : ∀ x : Int, 0 ≤ x ∧ x < 256 → ((UInt8.ofNat x.toNat).toNat : Int) = x := fun x hx => by rw [UInt8.toNat_ofNat']; omega
  simp only [bV, insB, List.map_cons, List.map_nil, one k h.1, one a h.2.1, one b h.2.2.1, one c h.2.2.2]
theorem cell4 (a b c d : Value) (k : Nat) (h : k < 4) : ∃ v, #[a, b, c, d][k]? = some v := ⟨_, Array.getElem?_eq_getElem (by simpa using h)⟩
theorem set4 (n : Nat → Int) (k : Nat) (z : Int) (h : k < 4) : (#[Value.int .i64 (n 0), .int .i64 (n 1), .int .i64 (n 2), .int .i64 (n 3)]).setIfInBounds k (.int .i64 z) = #[.int .i64 (setI n k z 0), .int .i64 (setI n k z 1), .int .i64 (setI n k z 2), .int .i64 (setI n k z 3)] := by
  obtain rfl | rfl | rfl | rfl : k = 0 ∨ k = 1 ∨ k = 2 ∨ k = 3 := by omega
  all_goals rfl

set_option maxRecDepth 100000 in
set_option maxHeartbeats 4000000 in
theorem four_num (l : List UInt8) (hl : l.length ≤ 100000) (hr : ¬ RawH l) (w : World) : Calls Tryd.prog 33 #[.string (strL l)] w (FPost l w) := by
  obtain ⟨i0, hi, hz0, hz1, hz2⟩ := info_parts infoIns
  have CT := cut_is l hl w
  have hn0 := splitL_ne 32 l
  have hpc : ∀ i (h : i < (splitL 32 l).length), ((splitL 32 l)[i]'h).length ≤ 100000 := fun i h => Nat.le_trans (splitL_piece 32 l (List.getElem_mem h)) hl
  have hlen9 : (splitL 32 l).length ≤ 100001 := by
    have := splitL_sum 32 l.length l (Nat.le_refl _)
    omega
  have hMany := fun h => FP_many hr h
  have hWord : ∀ (i : Nat), 1 ≤ i → (h : i < (splitL 32 l).length) → ∀ z : Int, VP ((splitL 32 l)[i]'h) z false → FP l [] false := fun i h1 h z hv => FP_word hr h1 h hv
  have hFar : ∀ n : Nat → Int, NumsTo (splitL 32 l) n (splitL 32 l).length → ¬ ((-40000 ≤ n 1 ∧ n 1 ≤ 70000) ∧ (-40000 ≤ n 2 ∧ n 2 ≤ 70000)) → FP l [] false := fun n h1 h2 => FP_far hr h1 h2
  have hNone : ∀ n : Nat → Int, NumsTo (splitL 32 l) n (splitL 32 l).length → (∀ x ∈ cands (n 1) (n 2) (n 3), hitB l x = false) → FP l [] false := fun n h1 h2 => FP_none hr h1 h2
  have hYes := fun (x : Qi) hx he => FP_yes hr (x := x) hx he
  have hrw : ¬ ((splitL 32 l).getD 0 [] = [114, 97, 119] ∧ (splitL 32 l).length = 2 ∧ ((splitL 32 l).getD 1 []).length % 2 = 0 ∧ 2 ≤ ((splitL 32 l).getD 1 []).length ∧ ((splitL 32 l).getD 1 []).length ≤ 8) := hr
  obtain ⟨ws, hws⟩ : ∃ ws, ws = splitL 32 l := ⟨_, rfl⟩
  rw [← hws] at CT hn0 hpc hlen9 hMany hWord hFar hNone hrw
  have HM := Lib.hid hMany
  have HWd := Lib.hid hWord
  have HFr := Lib.hid hFar
  have HNn := Lib.hid hNone
  have HYs := Lib.hid hYes
  have HRW := Lib.hid hrw
  have HPC := Lib.hid hpc
  have HSB := Lib.hid (fun (i : Nat) (hi : i < ws.length) => strL_size (ws[i]'hi))
  clear hMany hWord hFar hNone hYes hrw hpc hws hr
  go_enter Tryd.func33, Tryd.ntmps33
  go_upto_region 2 with (first | (go_at_call 46; refine CT.mono ?_; rintro e1 w1 ⟨v1, rfl, hown, hb1⟩; obtain ⟨g, cap, rfl, hwd, hge⟩ := own_words hown hn0))
  have hc0 := hwd.2 0 hn0
  have hw1 : w1.heap.size = w1.heap.size := rfl
  clear hw1
  go_cut [49] from 19 to 49 (fun v wx => v = .bool false ∧ wx = w1)
  case first =>
    have g0 : ws.getD 0 [] = ws[0]'hn0 := by simp [List.getD_eq_getElem?_getD, hn0]
    by_cases h0 : ws[0]'hn0 = [114, 97, 119]
    · have b0 : ((strL (ws[0]'hn0)).toList == ([114, 97, 119] : List UInt8)) = true := by rw [strL_toList, h0]; rfl
      by_cases h2 : ws.length = 2
      · have h1l : 1 < ws.length := by omega
        have hc1 := hwd.2 1 h1l
        have g1 : ws.getD 1 [] = ws[1]'h1l := by simp [List.getD_eq_getElem?_getD, h1l]
        have hs1 := HSB.out 1 h1l
        have b2 : ((ws.length : Int) == 2) = true := by simp [h2]
        have hRm : ¬ ((strL (ws[1]'h1l)).size % 2 = 0 ∧ 2 ≤ (strL (ws[1]'h1l)).size ∧ (strL (ws[1]'h1l)).size ≤ 8) := by
          intro hh
          rw [hs1] at hh
          exact HRW.out (by rw [g0, g1]; exact ⟨h0, h2, hh⟩)
        have HRm := Lib.hid hRm
        by_cases he : (strL (ws[1]'h1l)).size % 2 = 0
        · have b3 : ((strL (ws[1]'h1l)).size : Int) % 2 = 0 := by omega
          by_cases h2m : 2 ≤ (strL (ws[1]'h1l)).size
          · have b4 : (2 : Int) ≤ ((strL (ws[1]'h1l)).size : Int) := by omega
            have b5 : ¬ ((strL (ws[1]'h1l)).size : Int) ≤ 8 := by
              intro h8
              exact HRm.out ⟨he, h2m, by omega⟩
            clear h0 g0 g1 hRm he h2m h2 hs1
            go_wp2_with fail
            go_meet
            case rel => exact ⟨rfl, rfl⟩
          · have b4 : ¬ (2 : Int) ≤ ((strL (ws[1]'h1l)).size : Int) := by omega
            clear h0 g0 g1 hRm he h2m h2 hs1
            go_wp2_with fail
            go_meet
            case rel => exact ⟨rfl, rfl⟩
        · have b3 : ¬ ((strL (ws[1]'h1l)).size : Int) % 2 = 0 := by omega
          clear h0 g0 g1 hRm he h2 hs1
          go_wp2_with fail
          go_meet
          case rel => exact ⟨rfl, rfl⟩
      · have b2 : ((ws.length : Int) == 2) = false := beq_eq_false_iff_ne.2 (fun h => h2 (by omega))
        clear h0 g0 h2
        go_wp2_with fail
        go_meet
        case rel => exact ⟨rfl, rfl⟩
    · have b0 : ((strL (ws[0]'hn0)).toList == ([114, 97, 119] : List UInt8)) = false := by
        rw [strL_toList]
        exact beq_eq_false_iff_ne.2 h0
      clear h0 g0
      go_wp2_with fail
      go_meet
      case rel => exact ⟨rfl, rfl⟩
  case rest =>
    obtain ⟨h49, hwc⟩ := hcut
    subst h49
    subst wc
    by_cases hm : 4 < ws.length
    · have hm1 : (4 : Int) < (ws.length : Int) := by omega
      have HFP := Lib.hid (HM.out hm)
      go_wp2_with fail
      go_ret2
      exact ⟨_, _, _, rfl, HFP.out, fun h => absurd h (by decide), hb1.alloc hb1.size _⟩
    · have hm1 : ¬ (4 : Int) < (ws.length : Int) := by omega
      go_wp2_with fail
      have R0 := Blk.new w1 86 #[.int .i64 0, .int .i64 0, .int .i64 0, .int .i64 0]
      have hb2 := (Below.refl w1.heap.size w1).alloc (Nat.le_refl _) (.cells #[.int .i64 0, .int .i64 0, .int .i64 0, .int .i64 0] 86)
      obtain ⟨nb, hnb⟩ : ∃ nb, nb = w1.heap.size := ⟨_, rfl⟩
      have hwd2 := hwd
      rw [← hnb] at R0 ⊢
      have HNB := Lib.hid hnb
      clear hnb
      go_loopw [10] (fun i wr => ∃ (k : Nat) (n : Nat → Int), i = .int .i64 (k : Int) ∧ 1 ≤ k ∧ k ≤ max 1 ws.length ∧ Blk wr nb 86 #[.int .i64 (n 0), .int .i64 (n 1), .int .i64 (n 2), .int .i64 (n 3)] ∧ Hid (NumsTo ws n k) ∧ Below w1.heap.size w1 wr) (fun i _ => ws.length - (intOf i).toNat)
      case atStart => exact ⟨1, fun _ => 0, rfl, Nat.le_refl _, by omega, R0, Lib.hid ⟨fun j h1 h2 => by omega, fun j _ => rfl⟩, hb2⟩
      case round =>
        obtain ⟨k, n, rfl, hk1, hk, hB, HN, hb⟩ := hrel
        by_cases hlt : k < ws.length
        · have hlt1 : (k : Int) < (ws.length : Int) := by omega
          have hcw := (hb.cell (p := ⟨g, k, none⟩) hwd.1).trans (hwd.2 k hlt)
          have VI := value_is (ws[k]'hlt) (HPC.out k hlt) wr
          have HW2 := Lib.hid (HWd.out k hk1 hlt)
          have hst := fun z hz => nums_step HN.out hk1 hlt (z := z) hz
          have HST := Lib.hid hst
          clear hst
          generalize ws[k]'hlt = x at *
          have hk4 : k < 4 := by omega
          have hk4' : (k : Int) < 4 := by omega
          have HK := Lib.hid (And.intro hk1 (And.intro hk hlt))
          obtain ⟨v0, hv0⟩ := cell4 (.int .i64 (n 0)) (.int .i64 (n 1)) (.int .i64 (n 2)) (.int .i64 (n 3)) k hk4
          have hbz := hb.size
          have hnlt := hB.lt
          clear hwd2 hk hk1 hlt hc0
          go_wp2_with (first | (go_at_call 48; refine VI.mono ?_; rintro e2 w2 ⟨z, ok, rfl, hb3, hv⟩; (have hB2 := hB.below hb3 hnlt); (have hc2 := (hB2.cell k).trans hv0); (have hf2 := hB2.frozen k); (have HV := Lib.hid hv); clear hv VI; rcases ok with _ | _))
          · go_ret2
            exact ⟨_, _, _, rfl, HW2.out z HV.out, fun h => absurd h (by decide), (hb1.trans ((hb.trans (hb3.mono hbz)).mono hb1.size))⟩
          · have hBs := hB2.set_ k (.int .i64 z)
            rw [set4 n k z hk4] at hBs
            go_roundw
            case rel =>
              obtain ⟨hk1, hk, hlt⟩ := HK.out
              exact ⟨k + 1, setI n k z, by go_num, by omega, by omega, hBs, Lib.hid (HST.out z HV.out), (hb.trans (hb3.mono hbz)).setCell (by have := HNB.out; show _ ≤ nb; omega) _⟩
            case measure =>
              obtain ⟨hk1, hk, hlt⟩ := HK.out
              simp [intOf]
              omega
        · have hlt1 : ¬ (k : Int) < (ws.length : Int) := by omega
          have hN : NumsTo ws n ws.length := by
            refine ⟨fun j h1 h2 h3 => HN.out.1 j h1 (by omega) h3, fun j hj => ?_⟩
            have := HN.out.2 j
            rcases Nat.lt_or_ge j k with h | h
            · rcases Nat.lt_or_ge j 1 with h0 | h0
              · omega
              · omega
            · exact this h
          have HFN := Lib.hid (fun hf => HFr.out n hN hf)
          have HNO := Lib.hid (fun hf => HNn.out n hN hf)
          have q1 := hB.cell 1
          have q2 := hB.cell 2
          have q3 := hB.cell 3
          simp only [List.getElem?_toArray, List.getElem?_cons_zero, List.getElem?_cons_succ] at q1 q2 q3
          have hbz := hb.size
          have hnbw := hB.lt
          clear HN hN hB hwd2 hk1 hk hc0
          generalize n 1 = x1 at *
          generalize n 2 = x2 at *
          generalize n 3 = x3 at *
          clear n
          by_cases hin : (-40000 ≤ x1 ∧ x1 ≤ 70000) ∧ (-40000 ≤ x2 ∧ x2 ≤ 70000)
          · have HB9 := Lib.hid hb
            obtain ⟨⟨r1, r2⟩, r3, r4⟩ := hin
            have hb8 := hb
            have hcand := fun (x : Qi) (h : x ∈ cands x1 x2 x3) => cands_bd h
            have HBD := Lib.hid hcand
            clear hcand
            go_upto_region 28 with (first | (at_builtin; refine wpList_append_own (o := ⟨some 198, _, _, _, _, _⟩) _ rfl _ _ 34 rfl w1.heap.size 26 i0 (.agg #[.int .u8 0, .int .u8 0, .int .u8 0, .int .u8 0]) 4 4 underInsS hi hz0 hz1 hz2 rfl (by decide) _ _ _ rfl (World.ownsRow_nil _ _ _ _) ⟨wr.heap.size, 0, none⟩ 8 8 (csV (cands8 x1 x2 x3)) rfl (by rw [csV_len]; rfl) (c8_new wr x1 x2 x3) (csV_one _) (by unfold maxLen; omega) (by omega) (by simp; omega) ?_; intro v' w2 hown' hgrow _))
            have hB2 := (hb8.alloc hbz _).grown hgrow (by simp; omega) (fun j hj => by cases hj)
            have q1' : w2.cell? ⟨nb, 1, none⟩ = some (.int .i64 x1) := (World.cell?_of_block (a := ⟨nb, 1, none⟩) (hgrow.block nb (by simp; omega) (fun h => by cases h))).trans ((World.cell?_alloc_lt wr _ ⟨nb, 1, none⟩ (by show nb < _; omega)).trans q1)
            rw [show (0 + 8 : Nat) = (cands8 x1 x2 x3).length from rfl, List.nil_append] at hown'
            clear hgrow hb hb8 R0 hbz q1 q2 q3 hnbw HFN
            go_cut [206] from 199 to 206 (fun v wx => v = .bool (decide (1 ≤ x1 ∧ x1 ≤ 22)) ∧ wx = w2)
            case first =>
              by_cases c1 : 1 ≤ x1
              · by_cases c2 : x1 ≤ 22
                · go_wp2_with fail
                  go_meet
                  case rel => exact ⟨by rw [decide_eq_true (by omega)], rfl⟩
                · go_wp2_with fail
                  go_meet
                  case rel => exact ⟨by rw [decide_eq_false (by omega)], rfl⟩
              · go_wp2_with fail
                go_meet
                case rel => exact ⟨by rw [decide_eq_false (by omega)], rfl⟩
            case rest =>
              obtain ⟨h206, hwc⟩ := hcut
              subst h206
              subst wc
              go_upto_if 206 with fail
              go_cut [15] from 199 to 214 (fun v wx => wx.ownsRow w1.heap.size 26 4 v (cands x1 x2 x3).length (csV (cands x1 x2 x3)) ∧ Below w1.heap.size w1 wx)
              case first =>
                by_cases hc : 1 ≤ x1 ∧ x1 ≤ 22
                · have HC := Lib.hid (cands_yes (x2 := x2) (x3 := x3) hc)
                  simp only [decide_eq_true hc]
                  have hB2z := hB2.size
                  obtain ⟨c1, c2⟩ := hc
                  go_wp2_with (first | (at_builtin; refine wpList_append_own (o := ⟨some 214, _, _, _, _, _⟩) _ rfl _ _ 34 rfl w1.heap.size 26 i0 (.agg #[.int .u8 0, .int .u8 0, .int .u8 0, .int .u8 0]) 4 4 underInsS hi hz0 hz1 hz2 rfl (by decide) _ _ _ rfl (hown'.alloc _) ⟨w2.heap.size, 0, none⟩ 1 1 (csV [(16 + x1, 0, 0, 0)]) rfl rfl (fun j u hu => news_new w2 26 #[.int .u8 (16 + x1), .int .u8 0, .int .u8 0, .int .u8 0] j u hu) (csV_one _) (by unfold maxLen; show 8 + 1 ≤ _; omega) (by show (8 + 1) * 4 ≤ _; omega) (by simp; omega) ?_; intro v3 w3 hown3 hgrow3 _))
                  go_meet
                  case rel =>
                    rw [HC.out, csV_app, List.length_append]
                    exact ⟨hown3, (hB2.alloc hB2z _).grown hgrow3 (by simp; omega) (fun j hj => (hown'.lt j hj).1)⟩
                · have HC := Lib.hid (cands_no (x2 := x2) (x3 := x3) hc)
                  simp only [decide_eq_false hc]
                  go_wp2_with fail
                  go_meet
                  case rel =>
                    rw [HC.out]
                    exact ⟨hown', hB2⟩
              case rest =>
                obtain ⟨hownc, hBc⟩ := hcut
                have hpos : 0 < (cands x1 x2 x3).length := by unfold cands; simp
                obtain ⟨L, hL⟩ : ∃ L, L = cands x1 x2 x3 := ⟨_, rfl⟩
                rw [← hL] at hownc hpos
                have HNL := Lib.hid (show (∀ x ∈ L, hitB l x = false) → FP l [] false from fun h => HNO.out (by rw [← hL]; exact h))
                have HBL := Lib.hid (show ∀ x ∈ L, _ from fun x hx => HBD.out x (hL ▸ hx))
                clear hown' hB2 q1' HNO HBD
                obtain ⟨g2, cap2, rfl, hg2, hge2, hca⟩ := own_cands hownc hpos
                have HCA := Lib.hid hca
                have hl30 : L.length ≤ 30 := by rw [hL]; unfold cands; split <;> simp
                clear hca hL hownc
                go_wp2_with fail
                go_loopw [16] (fun i wx => ∃ j : Nat, i = .int .i64 (j : Int) ∧ j ≤ L.length ∧ Hid (∀ m (hm : m < L.length), m < j → hitB l (L[m]'hm) = false) ∧ Below wc.heap.size wc wx) (fun i _ => L.length + 1 - (intOf i).toNat)
                case atStart => exact ⟨0, rfl, Nat.zero_le _, Lib.hid (fun m hm h => absurd h (by omega)), Below.refl _ _⟩
                case round =>
                  obtain ⟨j, rfl, hj, HH, hbx⟩ := hrel
                  by_cases hlt : j < L.length
                  · have hlt1 : (j : Int) < (L.length : Int) := by omega
                    have hca := (HCA.out j hlt).below hbx hg2
                    have hbd := HBL.out _ (List.getElem_mem hlt)
                    have hst : hitB l (L[j]'hlt) = false → ∀ m (hm : m < L.length), m < j + 1 → hitB l (L[m]'hm) = false := by
                      intro h m hm hmj
                      rcases Nat.lt_or_ge m j with h1 | h1
                      · exact HH.out m hm h1
                      · obtain rfl : m = j := by omega
                        exact h
                    have HST := Lib.hid hst
                    clear hst
                    generalize L[j]'hlt = x at *
                    obtain ⟨xk, xa, xb, xc⟩ := x
                    have hgx : g2 < wr.heap.size := Nat.lt_of_lt_of_le hg2 hbx.size
                    obtain ⟨bk, ba, bb, bc⟩ := hbd
                    dsimp only at bk ba bb bc
                    have IS := refIs_is xk xa xb xc bk wr
                    have LN := fun w' => refLine_is xk xa xb xc bk ba bb bc w'
                    have hhit : hitB l (xk, xa, xb, xc) = (isB xk xa xb xc && decide (refLineL xk xa xb xc = l)) := rfl
                    have HBX := Lib.hid (And.intro bk (And.intro ba (And.intro bb bc)))
                    have HJ := Lib.hid (And.intro hj hlt)
                    have hbxs := hbx.size
                    clear bk ba bb bc hj hlt hlt1
                    have hj1 : (j : Int) < (L.length : Int) := by have := HJ.out; omega
                    have hj0 : (j : Int) < 100 := by omega
                    by_cases hisb : isB xk xa xb xc = true
                    · rw [hisb] at IS hhit
                      rw [Bool.true_and] at hhit
                      have hcmp : ((strL (refLineL xk xa xb xc)).toList == (strL l).toList) = decide (refLineL xk xa xb xc = l) := by rw [strL_toList, strL_toList, Bool.eq_iff_iff, beq_iff_eq, decide_eq_true_eq]
                      by_cases hre : refLineL xk xa xb xc = l
                      · rw [decide_eq_true hre] at hcmp
                        have HY := Lib.hid (HYs.out (xk, xa, xb, xc) HBX.out hre)
                        clear hre hhit HST hisb
                        generalize strL (refLineL xk xa xb xc) = sr at *
                        go_wp2_with (first | ((with_reducible refine load_cand (o := ⟨some 224, .load 26 (.tmp 223), _, _, _, _⟩) hca ?_ (.tmp 223) ?_ ?_ ?_); kernel_rfl; exact rfl; exact rfl; dsimp only) | (go_at_call 23; refine IS.mono ?_; rintro e2 w2b ⟨rfl, hbA⟩; (have hca2 := hca.below hbA hgx)) | ((with_reducible refine load_cand (o := ⟨some 230, .load 26 (.tmp 229), _, _, _, _⟩) hca2 ?_ (.tmp 229) ?_ ?_ ?_); kernel_rfl; exact rfl; exact rfl; dsimp only) | (go_at_call 31; refine (LN w2b).mono ?_; rintro e3 w3b ⟨rfl, hbB⟩; obtain ⟨c0, c1, c2, c3⟩ := (hca2.below hbB (Nat.lt_of_lt_of_le hgx hbA.size)).cells; dsimp only at c0 c1 c2 c3))
                        go_still_tail 20, (by kernel_rfl)
                        change wpList _ _ _ _ _ w3b.drew
                        have hB9 := ((hBc.trans (hbx.mono hBc.size)).trans ((hbA.mono hbxs).mono hBc.size)).trans (hbB.mono (Nat.le_trans (Nat.le_trans hBc.size hbxs) hbA.size))
                        have HB9b := Lib.hid hB9.drew
                        clear hca hca2 hB9 c0 c1 c2 c3
                        generalize w3b.drew = w4 at *
                        go_wp2
                        go_ret2
                        have hs9 := Nat.le_trans hb1.size HB9b.out.size
                        refine ⟨_, insB (xk, xa, xb, xc), true, rfl, HY.out, fun _ => ⟨?_, Nat.le_refl 4⟩, hb1.trans ((HB9b.out.alloc HB9b.out.size _).mono hb1.size)⟩
                        rw [bV_ins HBX.out]
                        exact World.ownsRow_lit w4 #[.int .u8 xk, .int .u8 xa, .int .u8 xb, .int .u8 xc] 4 hs9 (by decide) rfl
                      · rw [decide_eq_false hre] at hcmp hhit
                        have HH2 := Lib.hid (HST.out hhit)
                        clear hre hhit HST hisb
                        generalize strL (refLineL xk xa xb xc) = sr at *
                        go_wp2_with (first | ((with_reducible refine load_cand (o := ⟨some 224, .load 26 (.tmp 223), _, _, _, _⟩) hca ?_ (.tmp 223) ?_ ?_ ?_); kernel_rfl; exact rfl; exact rfl; dsimp only) | (go_at_call 23; refine IS.mono ?_; rintro e2 w2b ⟨rfl, hbA⟩; (have hca2 := hca.below hbA hgx)) | ((with_reducible refine load_cand (o := ⟨some 230, .load 26 (.tmp 229), _, _, _, _⟩) hca2 ?_ (.tmp 229) ?_ ?_ ?_); kernel_rfl; exact rfl; exact rfl; dsimp only) | (go_at_call 31; refine (LN w2b).mono ?_; rintro e3 w3b ⟨rfl, hbB⟩))
                        go_roundw
                        case rel => exact ⟨j + 1, by go_num, by have := HJ.out; omega, HH2, (hbx.trans (hbA.mono hbxs)).trans (hbB.mono (Nat.le_trans hbxs hbA.size))⟩
                        case measure =>
                          have := HJ.out
                          simp [intOf]
                          omega
                    · have hisf : isB xk xa xb xc = false := by simpa using hisb
                      rw [hisf] at IS hhit
                      have HH2 := Lib.hid (HST.out (hhit.trans rfl))
                      clear hhit HST hisb hisf LN
                      go_wp2_with (first | ((with_reducible refine load_cand (o := ⟨some 224, .load 26 (.tmp 223), _, _, _, _⟩) hca ?_ (.tmp 223) ?_ ?_ ?_); kernel_rfl; exact rfl; exact rfl; dsimp only) | (go_at_call 23; refine IS.mono ?_; rintro e2 w2b ⟨rfl, hbA⟩))
                      go_roundw
                      case rel => exact ⟨j + 1, by go_num, by have := HJ.out; omega, HH2, hbx.trans (hbA.mono hbxs)⟩
                      case measure =>
                        have := HJ.out
                        simp [intOf]
                        omega
                  · have hlt1 : ¬ (j : Int) < (L.length : Int) := by omega
                    have HFP := Lib.hid (HNL.out (fun x hx => by
                      obtain ⟨m, hm, rfl⟩ := List.getElem_of_mem hx
                      exact HH.out m hm (by omega)))
                    clear hlt hj
                    go_wp2_with fail
                    go_ret2
                    exact ⟨_, _, _, rfl, HFP.out, fun h => absurd h (by decide), hb1.trans ((hBc.trans (hbx.mono hBc.size)).mono hb1.size)⟩
          · have HFP := Lib.hid (HFN.out hin)
            have hcs : x1 < -40000 ∨ (¬ x1 < -40000 ∧ 70000 < x1) ∨ (¬ x1 < -40000 ∧ ¬ 70000 < x1 ∧ x2 < -40000) ∨ (¬ x1 < -40000 ∧ ¬ 70000 < x1 ∧ ¬ x2 < -40000 ∧ 70000 < x2) := by omega
            clear hin
            rcases hcs with h1 | ⟨h1, h2⟩ | ⟨h1, h2, h3⟩ | ⟨h1, h2, h3, h4⟩
            all_goals
              go_wp2_with fail
              go_ret2
              exact ⟨_, _, _, rfl, HFP.out, fun h => absurd h (by decide), hb1.trans (hb.mono hb1.size)⟩
theorem four_is (l : List UInt8) (hl : l.length ≤ 100000) (w : World) : Calls Tryd.prog 33 #[.string (strL l)] w (FPost l w) := by
  by_cases h : RawH l
  · exact four_raw l hl h w
  · exact four_num l hl h w
end Go.Proofs.YtnbkpminecoddaaDoor
