/- The reference's Of: what it has read so far, in plain lists. -/
import Derived.Test.YtnbkpminecoddaaDoorCodeFour1
import Derived.Test.YtnbkpminecoddaaDoorCodeFourN
import Derived.Test.YtnbkpminecoddaaDoorCodeKnown2
namespace Go.Proofs.YtnbkpminecoddaaDoor
open Go.RowKit
set_option linter.unusedVariables false
set_option linter.unusedSimpArgs false

theorem cons_inj_at {c : UInt8} : ∀ {a b r q : List UInt8}, c ∉ a → c ∉ b → a ++ c :: r = b ++ c :: q → a = b ∧ r = q
  | [], [], r, q, _, _, h => by simpa using h
  | [], y :: b, r, q, _, hb, h => by
    injection h with h1 h2
    exact absurd (by rw [h1]; simp) hb
  | x :: a, [], r, q, ha, _, h => by
    injection h with h1 h2
    exact absurd (by rw [← h1]; simp) ha
  | x :: a, y :: b, r, q, ha, hb, h => by
    injection h with h1 h2
    obtain ⟨h3, h4⟩ := cons_inj_at (fun hh => ha (List.mem_cons_of_mem _ hh)) (fun hh => hb (List.mem_cons_of_mem _ hh)) h2
    exact ⟨by rw [h1, h3], h4⟩
def kOf (b : List UInt8) : Nat := (b.length + 3) / 4
def rowB (b : List UInt8) (i : Nat) : List UInt8 := rowL b.length (dOf b) b i
/-- What is left of a text behind so many lines. -/
def restF (b : List UInt8) (m : Nat) : List UInt8 := ((List.range' m (kOf b - m)).map (rowB b)).flatMap fun r => r ++ [10]
theorem rest_all (b : List UInt8) : restF b 0 = textL b := by
  rw [text_eq, textF, restF, List.flatMap_map, List.range_eq_range']
  rfl
theorem rest_cons {b : List UInt8} {m : Nat} (h : m < kOf b) : restF b m = rowB b m ++ 10 :: restF b (m + 1) := by
  unfold restF
  rw [show kOf b - m = (kOf b - (m + 1)) + 1 by omega, List.range'_succ]
  simp
theorem rest_nil {b : List UInt8} {m : Nat} (h : kOf b ≤ m) : restF b m = [] := by
  unfold restF
  rw [show kOf b - m = 0 by omega]
  rfl
theorem rest_ten {b : List UInt8} {m : Nat} (h : m < kOf b) : (10 : UInt8) ∈ restF b m := by
  rw [rest_cons h]
  simp
/-- A line is one of four bytes, or of fewer. -/
theorem row_FP {b : List UInt8} {m : Nat} (h : m < kOf b) {q : List UInt8} {ok : Bool} (hF : FP (rowB b m) q ok) : ok = true ∧ q = (b.drop (4 * m)).take 4 := by
  have hlen : ((b.drop (4 * m)).take 4).length ≤ 4 := by simp; omega
  have hpos : 1 ≤ ((b.drop (4 * m)).take 4).length := by unfold kOf at h; simp; omega
  unfold rowB rowL at hF
  split at hF
  · rename_i h1
    obtain ⟨he, hk, ha, hb, hc⟩ := decR_bd (n := b.length) (dOf_bd b) (m : Int)
    obtain ⟨hl, hd⟩ := decR_zero h1.1
    have hi : isB (decR b.length (dOf b) (m : Int)).k (decR b.length (dOf b) (m : Int)).a (decR b.length (dOf b) (m : Int)).b (decR b.length (dOf b) (m : Int)).c = true := by
      have he0 := h1.1
      unfold decR at he0 ⊢
      dsimp only at he0 ⊢
      split at he0
      · cases he0
      · split at he0
        · cases he0
        · rename_i g1 g2
          rw [if_neg g1, if_neg g2]
          split at he0
          · cases he0
          · rename_i g3
            rw [if_neg g3]
            split at he0
            · cases he0
            · rename_i g4
              rw [if_neg g4]
              have hk0 := (dOf_bd b (4 * (m : Int).toNat)).1
              rw [isB_eq _ _ _ _ hk0]
              simp only [Int.toNat_natCast] at g3 g4 ⊢
              simp [g3, g4]
    obtain ⟨g1, g2⟩ := hF.2 _ _ _ _ hk ha hb hc hi h1.2 rfl
    refine ⟨g1, g2.trans ?_⟩
    rw [hd, chunk_four b m hl]
    simp [insB, dOf]
  · exact hF.1 _ hpos hlen rfl

/-- What is read so far. -/
def RelR (s out : List UInt8) (fr i m : Nat) : Prop :=
  fr ≤ i ∧ i ≤ s.length ∧ (10 : UInt8) ∉ (s.drop fr).take (i - fr) ∧ out.length ≤ 4 * m ∧ m ≤ fr ∧ ∀ b, textL b = s → m ≤ kOf b ∧ out = b.take (4 * m) ∧ s.drop fr = restF b m
theorem relR_start (s : List UInt8) : RelR s [] 0 0 0 := ⟨Nat.le_refl _, Nat.zero_le _, by simp, by simp, Nat.le_refl _, fun b hb => ⟨Nat.zero_le _, by simp, by rw [rest_all, hb]; rfl⟩⟩
theorem relR_no {s out : List UInt8} {fr i m : Nat} (h : RelR s out fr i m) (hi : i < s.length) (hc : ¬ s.getD i 0 = 10) : RelR s out fr (i + 1) m := by
  obtain ⟨h1, h2, h3, h4, h5, h6⟩ := h
  refine ⟨by omega, by omega, ?_, h4, h5, h6⟩
  rw [take_up h1 hi]
  intro hm
  rcases List.mem_append.1 hm with hm | hm
  · exact h3 hm
  · rw [List.mem_singleton] at hm
    exact hc hm.symm
theorem relR_yes {s out : List UInt8} {fr i m : Nat} (h : RelR s out fr i m) (hi : i < s.length) (hc : s.getD i 0 = 10) {q : List UInt8} {ok : Bool} (hF : FP ((s.drop fr).take (i - fr)) q ok) :
    (∀ b, textL b = s → ok = true ∧ out.length % 4 = 0) ∧ (ok = true → q.length ≤ 4 → RelR s (out ++ q) (i + 1) (i + 1) (m + 1)) := by
  obtain ⟨h1, h2, h3, h4, h5, h6⟩ := h
  have e : s.drop fr = (s.drop fr).take (i - fr) ++ 10 :: s.drop (i + 1) := by
    have h5 := List.take_append_drop (i + 1 - fr) (s.drop fr)
    rw [take_up h1 hi, hc, List.drop_drop, show fr + (i + 1 - fr) = i + 1 from by omega] at h5
    refine h5.symm.trans ?_
    simp
  have key : ∀ b, textL b = s → m < kOf b ∧ rowB b m = (s.drop fr).take (i - fr) ∧ restF b (m + 1) = s.drop (i + 1) := by
    intro b hb
    obtain ⟨g1, g2, g3⟩ := h6 b hb
    have hm : m < kOf b := by
      rcases Nat.lt_or_ge m (kOf b) with h | h
      · exact h
      · rw [rest_nil h] at g3
        rw [g3] at e
        simp at e
    rw [rest_cons hm, e] at g3
    obtain ⟨k1, k2⟩ := cons_inj_at h3 (row_no10 b m) g3
    exact ⟨hm, k1.symm, k2.symm⟩
  constructor
  · intro b hb
    obtain ⟨hm, k1, k2⟩ := key b hb
    obtain ⟨g1, g2, g3⟩ := h6 b hb
    rw [← k1] at hF
    refine ⟨(row_FP hm hF).1, ?_⟩
    rw [g2]
    unfold kOf at hm
    simp
    omega
  · intro hok hq
    refine ⟨Nat.le_refl _, by omega, by simp, by simp; omega, by omega, fun b hb => ?_⟩
    obtain ⟨hm, k1, k2⟩ := key b hb
    obtain ⟨g1, g2, g3⟩ := h6 b hb
    rw [← k1] at hF
    refine ⟨hm, ?_, k2.symm⟩
    rw [(row_FP hm hF).2, g2, show 4 * (m + 1) = 4 * m + 4 by omega, List.take_add]
theorem relR_end {s out : List UInt8} {fr m : Nat} (h : RelR s out fr s.length m) : (¬ fr = s.length → ∀ b, ¬ textL b = s) ∧ (∀ b, textL b = s → out = b) := by
  obtain ⟨h1, h2, h3, h4, h5, h6⟩ := h
  rw [List.take_of_length_le (by simp)] at h3
  have key : ∀ b, textL b = s → kOf b ≤ m := by
    intro b hb
    obtain ⟨g1, g2, g3⟩ := h6 b hb
    rcases Nat.lt_or_ge m (kOf b) with h | h
    · exact absurd (by rw [g3]; exact rest_ten h) h3
    · exact h
  constructor
  · intro hne b hb
    obtain ⟨g1, g2, g3⟩ := h6 b hb
    rw [rest_nil (key b hb)] at g3
    have := congrArg List.length g3
    simp at this
    omega
  · intro b hb
    obtain ⟨g1, g2, g3⟩ := h6 b hb
    have hk := key b hb
    rw [g2, List.take_of_length_le (by unfold kOf at hk; omega)]
theorem OfPost_no {s : List UInt8} {w w' : World} {e : Ending} (h : ∀ b, ¬ textL b = s) (he : e = .returned (.tuple #[.slice none 0 0, .int .i64 16])) (hb : Below w.heap.size w w') : OfPost s w e w' :=
  ⟨fun _ => he, fun h' => absurd h' (h _), fun h' => absurd h' (h _), hb⟩
theorem OfPost_long {s out : List UInt8} {w w' : World} {e : Ending} (h : textL out = s) (hl : 1024 < out.length) (he : e = .returned (.tuple #[.slice none 0 0, .int .i64 17])) (hb : Below w.heap.size w w') : OfPost s w e w' := by
  have hp : parseC s = out := by rw [← h, parse_text]
  unfold OfPost
  rw [hp]
  exact ⟨fun h' => absurd h h', fun _ _ => he, fun _ h' => absurd hl h', hb⟩
theorem OfPost_yes {s out : List UInt8} {w w' : World} {e : Ending} (h : textL out = s) (hl : ¬ 1024 < out.length) {A : Option Addr} {cap : Nat} (he : e = .returned (.tuple #[.slice A out.length cap, .int .i64 0])) (hB : BytesAt w' A out cap) (hn : A = none → cap = 0) (hb : Below w.heap.size w w') : OfPost s w e w' := by
  have hp : parseC s = out := by rw [← h, parse_text]
  unfold OfPost
  rw [hp]
  exact ⟨fun h' => absurd h h', fun _ h' => absurd h' hl, fun _ _ => ⟨A, cap, he, hB, hn⟩, hb⟩
end Go.Proofs.YtnbkpminecoddaaDoor

/- The reference's Of, by walk. -/
section
namespace Go.Proofs.YtnbkpminecoddaaDoor
open Go.RowKit
set_option linter.unusedVariables false
set_option linter.unusedSimpArgs false

set_option maxRecDepth 100000 in
set_option maxHeartbeats 4000000 in
theorem refOf_is (s : List UInt8) (hl : s.length ≤ 19000) (w : World) : Calls Tryd.prog 21 #[.string (strL s)] w (OfPost s w) := by
  obtain ⟨i0, hi, hz0, hz1, hz2⟩ := info_parts infoU8
  have hget : ∀ (i : Nat) (h : i < (strL s).size), (strL s)[i]'h = s.getD i 0 := by
    intro i h
    rw [List.getD_eq_getElem?_getD, List.getElem?_eq_getElem (by have := strL_size s; omega)]
    rfl
  have HG := Lib.hid hget
  have HSZ := Lib.hid (strL_size s)
  clear hget
  go_enter Tryd.func21, Tryd.ntmps21
  go_wp2_with fail
  go_loopw [4, 5, 6] (fun v f i wr => ∃ (k fr m : Nat) (out : List UInt8), i = .int .i64 (k : Int) ∧ f = .int .i64 (fr : Int) ∧ Hid (RelR s out fr k m) ∧ k ≤ s.length ∧ fr ≤ k ∧ out.length ≤ 76000 ∧ wr.ownsRow w.heap.size 5 1 v out.length (bV out) ∧ Below w.heap.size w wr) (fun _ _ i _ => s.length + 1 - (intOf i).toNat)
  case atStart => exact ⟨0, 0, 0, [], rfl, rfl, Lib.hid (relR_start s), Nat.zero_le _, Nat.le_refl _, by simp, World.ownsRow_nil _ _ _ _, Below.refl _ _⟩
  case round =>
    obtain ⟨k, fr, m, out, rfl, rfl, HR, hk, hfr, hout, hown, hb⟩ := hrel
    by_cases hlt : k < s.length
    · have hlt1 : (k : Int) < ((strL s).size : Int) := by have := HSZ.out; omega
      have h0 : k < (strL s).size := by have := HSZ.out; omega
      have e0 := HG.out k h0
      by_cases hc : s.getD k 0 = 10
      · have hq2 : ((((strL s)[k]'h0).toNat : Int) == 10) = true := by rw [e0, hc]; rfl
        have hx := extract_L s fr k
        have hfk1 : (fr : Int) ≤ (k : Int) := by omega
        obtain ⟨pc, hpc⟩ : ∃ pc, pc = (s.drop fr).take (k - fr) := ⟨_, rfl⟩
        rw [← hpc] at hx
        have FI := fun w' => four_is pc (by rw [hpc]; simp; omega) w'
        have hst := fun q ok (hF : FP pc q ok) => relR_yes HR.out hlt hc (q := q) (ok := ok) (hpc ▸ hF)
        have HST := Lib.hid hst
        have HK := Lib.hid (And.intro hlt (And.intro hk hfr))
        have hbs := hb.size
        have hk9 : (k : Int) < 20000 := by omega
        clear hst hpc e0 hc hlt hk hfr
        obtain ⟨A', cap', rfl⟩ := own_slice hown
        by_cases hm4 : out.length % 4 = 0
        · have b4 : ((out.length : Nat) : Int) % 4 = 0 := by omega
          have HM4 := Lib.hid hm4
          clear hm4
          go_wp2_with (first | (go_at_call 33; refine (FI wr).mono ?_; rintro e2 w2 ⟨v2, q, ok, rfl, hF, hokk, hb2⟩; (have HF := Lib.hid hF); (have HO := Lib.hid hokk); clear hF hokk FI; rcases ok with _ | _; all_goals (try (obtain ⟨hown2, hq4⟩ := HO.out rfl; obtain ⟨A2, cap2, rfl, hby2, -⟩ := bytes_own hown2; (have hrd := reads_bytes hby2); (have hown3 := below_own hown hb2)))) | (refine wpList_append_any _ (o := ⟨some 37, _, _, _, _, _⟩) rfl (.tmp 35) (.tmp 36) 22 rfl w.heap.size 5 i0 (.int .u8 0) 1 1 underU8 hi hz0 hz1 hz2 rfl (by decide) (.slice A' out.length cap') out.length (bV out) rfl hown3 w2.heap.size A2 q.length cap2 (bV q) rfl hrd (bV_one q) (by unfold maxLen; omega) (by omega) (Nat.le_trans hbs hb2.size) ?_; intro v4 w4 hown4 hgr4 hob4))
          · go_ret2
            exact OfPost_no (fun b hb9 => by have := ((HST.out q _ HF.out).1 b hb9).1; cases this) rfl (hb.trans (hb2.mono hbs))
          · go_roundw
            case rel =>
              have hR2 := (HST.out q _ HF.out).2 rfl hq4
              have hk0 := HK.out
              exact ⟨k + 1, k + 1, m + 1, out ++ q, by go_num, by go_num, Lib.hid hR2, by omega, Nat.le_refl _, by have := hR2.2.2.2.1; have := hR2.2.2.2.2.1; omega, by rw [bV_app, List.length_append]; exact hown4, (hb.trans (hb2.mono hbs)).grown hgr4 (Nat.le_trans hbs hb2.size) (fun j hj => (hown3.lt j hj).1)⟩
            case measure =>
              have := HK.out
              simp [intOf]
              omega
        · have b4 : ¬ ((out.length : Nat) : Int) % 4 = 0 := by omega
          have HM4 := Lib.hid hm4
          clear hm4
          go_wp2_with (first | (go_at_call 33; refine (FI wr).mono ?_; rintro e2 w2 ⟨v2, q, ok, rfl, hF, hokk, hb2⟩; (have HF := Lib.hid hF); clear hF hokk FI; rcases ok with _ | _))
          all_goals
            go_ret2
            exact OfPost_no (fun b hb9 => HM4.out ((HST.out q _ HF.out).1 b hb9).2) rfl (hb.trans (hb2.mono hbs))
      · have hq2 : ((((strL s)[k]'h0).toNat : Int) == 10) = false := by
          rw [e0]
          exact beq_eq_false_iff_ne.2 (fun h => hc (UInt8.toNat_inj.1 (Int.ofNat_inj.1 h)))
        have HRn := Lib.hid (relR_no HR.out hlt hc)
        have hk9 : (k : Int) < 20000 := by omega
        have HK := Lib.hid (And.intro hlt (And.intro hk hfr))
        clear e0 hc hlt hk hfr
        go_wp2_with fail
        go_roundw
        case rel => exact ⟨k + 1, fr, m, out, by go_num, rfl, HRn, by have := HK.out; omega, by have := HK.out; omega, hout, hown, hb⟩
        case measure =>
          have := HK.out
          simp [intOf]
          omega
    · have hlt1 : ¬ (k : Int) < ((strL s).size : Int) := by have := HSZ.out; omega
      obtain rfl : k = s.length := by omega
      have hend := relR_end HR.out
      have HEN := Lib.hid hend
      clear hend
      obtain ⟨A', cap', rfl⟩ := own_slice hown
      have hss := HSZ.out
      by_cases hfe : fr = s.length
      · have b5 : ((fr : Int) == ((strL s).size : Int)) = true := by simp; omega
        have b6 : ((fr : Int) != ((strL s).size : Int)) = false := by simp; omega
        have HFE := Lib.hid hfe
        clear hfe hlt hk hfr hss
        obtain ⟨A2, cap2, hv2, hby, -⟩ := bytes_own hown
        injection hv2 with hv3 hv4 hv5
        subst hv3 hv5
        have hnone : A' = none → cap' = 0 := by
          rintro rfl
          rcases hown.2 with ⟨h, _⟩ | ⟨g, c, cur, h, _⟩
          · injection h
          · injection h with h1 h2 h3
            cases h1
        have TX := refText_is A' out cap' (by omega) wr hby
        have hcmp : ((strL (textL out)).toList == (strL s).toList) = decide (textL out = s) := by rw [strL_toList, strL_toList, Bool.eq_iff_iff, beq_iff_eq, decide_eq_true_eq]
        have hbs := hb.size
        clear hv4
        by_cases hteq : textL out = s
        · rw [decide_eq_true hteq] at hcmp
          have HT := Lib.hid hteq
          clear hteq
          generalize strL (textL out) = s1 at *
          generalize strL s = s2 at *
          by_cases hbig : 1024 < out.length
          · have hbig1 : (1024 : Int) < (out.length : Int) := by omega
            go_wp2_with (first | (go_at_call 20; refine TX.mono ?_; rintro e2 w2 ⟨rfl, hb2⟩))
            go_ret2
            exact OfPost_long HT.out hbig rfl (hb.trans (hb2.mono hbs))
          · have hbig1 : ¬ (1024 : Int) < (out.length : Int) := by omega
            go_wp2_with (first | (go_at_call 20; refine TX.mono ?_; rintro e2 w2 ⟨rfl, hb2⟩))
            go_ret2
            exact OfPost_yes HT.out hbig rfl (hby.below hb2) hnone (hb.trans (hb2.mono hbs))
        · rw [decide_eq_false hteq] at hcmp
          have HT := Lib.hid hteq
          clear hteq
          generalize strL (textL out) = s1 at *
          generalize strL s = s2 at *
          go_wp2_with (first | (go_at_call 20; refine TX.mono ?_; rintro e2 w2 ⟨rfl, hb2⟩))
          go_ret2
          exact OfPost_no (fun b hb9 => HT.out (by rw [HEN.out.2 b hb9]; exact hb9)) rfl (hb.trans (hb2.mono hbs))
      · have b5 : ((fr : Int) == ((strL s).size : Int)) = false := by simp; omega
        have b6 : ((fr : Int) != ((strL s).size : Int)) = true := by simp; omega
        have HN := Lib.hid (HEN.out.1 hfe)
        clear hfe hlt hk hfr hss
        go_wp2_with fail
        go_ret2
        exact OfPost_no HN.out rfl hb
end Go.Proofs.YtnbkpminecoddaaDoor
end

/- The law CodeReads, by walk. -/
section
namespace Go.Proofs.YtnbkpminecoddaaDoor
open Go.RowKit
set_option linter.unusedVariables false
set_option linter.unusedSimpArgs false

def P16 (w : World) (e : Ending) (w' : World) : Prop := e = .returned (.tuple #[.slice none 0 0, .int .i64 16]) ∧ Below w.heap.size w w'
def P17 (w : World) (e : Ending) (w' : World) : Prop := e = .returned (.tuple #[.slice none 0 0, .int .i64 17]) ∧ Below w.heap.size w w'
def P0 (b : List UInt8) (w : World) (e : Ending) (w' : World) : Prop := ∃ A cap, e = .returned (.tuple #[.slice A b.length cap, .int .i64 0]) ∧ BytesAt w' A b cap ∧ (A = none → cap = 0) ∧ Below w.heap.size w w'
theorem ofPost_16 {s : List UInt8} (h : ¬ textL (parseC s) = s) {w : World} {e : Ending} {w' : World} (hp : OfPost s w e w') : P16 w e w' := ⟨hp.1 h, hp.2.2.2⟩
theorem ofPost_17 {s : List UInt8} (h : textL (parseC s) = s) (hl : 1024 < (parseC s).length) {w : World} {e : Ending} {w' : World} (hp : OfPost s w e w') : P17 w e w' := ⟨hp.2.1 h hl, hp.2.2.2⟩
theorem ofPost_0 {s : List UInt8} (h : textL (parseC s) = s) (hl : ¬ 1024 < (parseC s).length) {w : World} {e : Ending} {w' : World} (hp : OfPost s w e w') : P0 (parseC s) w e w' := by
  obtain ⟨A, cap, h1, h2, h3⟩ := hp.2.2.1 h hl
  exact ⟨A, cap, h1, h2, h3, hp.2.2.2⟩
theorem conv_nil (w : World) : (convert 22 9 (.slice none 0 0)).run Tryd.prog w = .ok (.string (strL [])) w := conv_bytes (l := []) (A := none) (cap := 0) ⟨Nat.le_refl _, .inl rfl⟩
theorem strL_back (s : ByteArray) : strL s.data.toList = s := by
  apply ByteArray.ext
  simp [strL]
set_option maxRecDepth 100000 in
set_option maxHeartbeats 4000000 in
theorem reads_walk (s : List UInt8) (w : World) (he : Env w) :
    Calls Tryd.prog 6 #[.string (strL s)] w fun e w' => e = .returned (.bool true) ∧ Below w.heap.size w w' := by
  have hsz := strL_size s
  by_cases hbig : s.length ≤ 3000
  · have hl2 : ¬ (3000 : Int) < ((strL s).size : Int) := by omega
    have O1 := of_is s (by omega) w he
    have O2 := fun w' => refOf_is s (by omega) w'
    have hsl : s.length ≤ 3000 := hbig
    by_cases ht : textL (parseC s) = s
    · by_cases hlong : 1024 < (parseC s).length
      · have C1 := O1.mono fun e w' hp => ofPost_17 ht hlong hp
        have C2 := fun w' => (O2 w').mono fun e w'' hp => ofPost_17 ht hlong hp
        have c0 := conv_nil
        clear O1 O2 hbig ht hlong hsz
        generalize strL s = t at *
        generalize strL [] = t0 at *
        go_enter Tryd.func6, Tryd.ntmps6
        go_wp2_with (first | (go_at_call 19; refine C1.mono ?_; rintro e1 w1 ⟨rfl, hb1⟩) | (go_at_call 21; refine (C2 w1).mono ?_; rintro e2 w2 ⟨rfl, hb2⟩; (have hB2 := hb1.trans (hb2.mono hb1.size)); (have d0 := c0 w2); clear c0) | (go_at_call 9; refine (known_is _ (he.2.1.below (B := 0) hB2)).mono ?_; rintro eK wK ⟨rfl, hbK⟩))
        go_ret
        exact ⟨rfl, hB2.trans (hbK.mono hB2.size)⟩
      · have C1 := O1.mono fun e w' hp => ofPost_0 ht hlong hp
        have C2 := fun w' => (O2 w').mono fun e w'' hp => ofPost_0 ht hlong hp
        have hbl : (parseC s).length ≤ 100000 := by omega
        obtain ⟨b, hb⟩ : ∃ b, b = parseC s := ⟨_, rfl⟩
        rw [← hb] at C1 C2 hbl ht
        have T1 : ∀ (A' : Option Addr) (cap' : Nat) (w' : World), BytesAt w' A' b cap' → Tab w' → Calls Tryd.prog 18 #[.slice A' b.length cap'] w' fun e w'' => e = .returned (.string (strL s)) ∧ Below w'.heap.size w' w'' := by
          intro A' cap' w' h1 h2
          have := text_any A' b cap' hbl w' h1 h2
          rw [ht] at this
          exact this
        clear O1 O2 hbig ht hlong hsz hb
        have T2 := T1
        clear T1
        generalize strL s = t at *
        go_enter Tryd.func6, Tryd.ntmps6
        go_wp2_with (first | (go_at_call 19; refine C1.mono ?_; rintro e1 w1 ⟨A1, cap1, rfl, hy1, -, hb1⟩) | (go_at_call 21; refine (C2 w1).mono ?_; rintro e2 w2 ⟨A2, cap2, rfl, hy2, -, hb2⟩; (have hB2 := hb1.trans (hb2.mono hb1.size)); (have hy1' := hy1.below hb2); (have d1 := conv_bytes hy1'); (have d2 := conv_bytes hy2)) | (go_at_call 18; refine (T2 A1 cap1 w2 hy1' (he.2.1.below (B := 0) hB2)).mono ?_; rintro e3 w3 ⟨rfl, hb3⟩; (have hB3 := hB2.trans (hb3.mono hB2.size))) | (go_at_call 9; refine (known_is _ (he.2.1.below (B := 0) hB3)).mono ?_; rintro eK wK ⟨rfl, hbK⟩))
        go_ret
        exact ⟨rfl, hB3.trans (hbK.mono hB3.size)⟩
    · have C1 := O1.mono fun e w' hp => ofPost_16 ht hp
      have C2 := fun w' => (O2 w').mono fun e w'' hp => ofPost_16 ht hp
      have c0 := conv_nil
      clear O1 O2 hbig ht hsz
      generalize strL s = t at *
      generalize strL [] = t0 at *
      go_enter Tryd.func6, Tryd.ntmps6
      go_wp2_with (first | (go_at_call 19; refine C1.mono ?_; rintro e1 w1 ⟨rfl, hb1⟩) | (go_at_call 21; refine (C2 w1).mono ?_; rintro e2 w2 ⟨rfl, hb2⟩; (have hB2 := hb1.trans (hb2.mono hb1.size)); (have d0 := c0 w2); clear c0) | (go_at_call 9; refine (known_is _ (he.2.1.below (B := 0) hB2)).mono ?_; rintro eK wK ⟨rfl, hbK⟩))
      go_ret
      exact ⟨rfl, hB2.trans (hbK.mono hB2.size)⟩
  · have hl : (3000 : Int) < ((strL s).size : Int) := by omega
    have ht : Tab w := he.2.1
    go_enter Tryd.func6, Tryd.ntmps6
    go_wp2_with (go_at_call 9; refine (known_is _ ht).mono ?_; rintro e w2 ⟨rfl, hb2⟩)
    go_ret
    exact ⟨rfl, hb2⟩
theorem reads_any (s : ByteArray) (w : World) (he : Env w) :
    Calls Tryd.prog 6 #[.string s] w fun e w' => e = .returned (.bool true) ∧ Below w.heap.size w w' := by
  have := reads_walk s.data.toList w he
  rwa [strL_back] at this
end Go.Proofs.YtnbkpminecoddaaDoor
end
