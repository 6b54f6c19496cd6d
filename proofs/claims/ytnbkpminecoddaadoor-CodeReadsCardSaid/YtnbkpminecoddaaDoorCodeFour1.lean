/- The reference's four: what it answers, in plain lists. -/
import Derived.Test.YtnbkpminecoddaaDoorCodeCut
import Derived.Test.YtnbkpminecoddaaDoorCodeParse
import Derived.Deep.CutRange
import Derived.BigQuiet
import Derived.Deep.QuietTactic
import Derived.IntWalk
namespace Go.Proofs.YtnbkpminecoddaaDoor
open Go.RowKit
set_option linter.unusedVariables false
set_option linter.unusedSimpArgs false

theorem nib_hv (c : UInt8) : nibR c < 0 ∨ nibR c = (hv c : Int) := by
  have key : ∀ i : Fin 256, nibR (UInt8.ofNat i.val) < 0 ∨ nibR (UInt8.ofNat i.val) = (hv (UInt8.ofNat i.val) : Int) := by decide +kernel
  have h := key ⟨c.toNat, c.toNat_lt⟩
  simpa using h
theorem nib_dig (n : Nat) (h : n < 16) : 0 ≤ nibR (UInt8.ofNat (digN n)) := by
  have : ∀ i : Fin 16, 0 ≤ nibR (UInt8.ofNat (digN i.val)) := by decide +kernel
  exact this ⟨n, h⟩
theorem nib_hex (q : List UInt8) : ∀ c ∈ q.flatMap hexL, 0 ≤ nibR c := by
  intro c hc
  obtain ⟨b, _, hb⟩ := List.mem_flatMap.1 hc
  have hl := b.toNat_lt
  rcases List.mem_cons.1 hb with rfl | hb
  · exact nib_dig _ (by omega)
  · rw [List.mem_singleton] at hb
    subst hb
    exact nib_dig _ (by omega)
theorem hex_no32 (q : List UInt8) : (32 : UInt8) ∉ q.flatMap hexL := fun h => by
  have := nib_hex q 32 h
  revert this
  decide +kernel
theorem hex_len : ∀ q : List UInt8, (q.flatMap hexL).length = 2 * q.length
  | [] => rfl
  | c :: q => by
    have := hex_len q
    simp [hexL] at this ⊢
    omega
theorem raw_words (q : List UInt8) : splitL 32 (rawL q) = [[114, 97, 119], q.flatMap hexL] := by
  have := words2 (w := [114, 97, 119]) (a := q.flatMap hexL) (by decide) (hex_no32 q)
  simpa [rawL] using this
/-- What four answers. -/
def FP (l q : List UInt8) (ok : Bool) : Prop :=
  (∀ q0 : List UInt8, 1 ≤ q0.length → q0.length ≤ 4 → l = rawL q0 → ok = true ∧ q = q0) ∧
  (∀ k a b c : Int, 0 ≤ k ∧ k < 256 → 0 ≤ a ∧ a < 256 → 0 ≤ b ∧ b < 256 → 0 ≤ c ∧ c < 256 → isB k a b c = true → ¬ refLineL k a b c = [] → l = refLineL k a b c → ok = true ∧ q = insB (k, a, b, c))
/-- The raw half is taken. -/
def RawH (l : List UInt8) : Prop := (splitL 32 l).getD 0 [] = [114, 97, 119] ∧ (splitL 32 l).length = 2 ∧ ((splitL 32 l).getD 1 []).length % 2 = 0 ∧ 2 ≤ ((splitL 32 l).getD 1 []).length ∧ ((splitL 32 l).getD 1 []).length ≤ 8
theorem raw_half {q : List UInt8} (h1 : 1 ≤ q.length) (h4 : q.length ≤ 4) : RawH (rawL q) := by
  unfold RawH
  rw [raw_words]
  have := hex_len q
  refine ⟨rfl, rfl, ?_, ?_, ?_⟩ <;> simp only [List.getD_cons_succ, List.getD_cons_zero] <;> omega
theorem wordsL_head (k a b c : Int) : ¬ (wordsL k a b c).getD 0 [] = [114, 97, 119] := by
  unfold wordsL
  repeat' split
  all_goals (simp only [List.getD_cons_zero]; decide)
theorem raw_not {l : List UInt8} (h : RawH l) {k a b c : Int} (hn : ¬ refLineL k a b c = []) (he : l = refLineL k a b c) : False := by
  obtain ⟨h0, _⟩ := h
  rw [he, words_line hn] at h0
  exact wordsL_head _ _ _ _ h0
theorem FP_raw {l : List UInt8} (h : RawH l) : FP l (unhex ((splitL 32 l).getD 1 [])) true := by
  refine ⟨fun q0 h1 h4 he => ⟨rfl, ?_⟩, fun k a b c _ _ _ _ _ hn he => (raw_not h hn he).elim⟩
  subst he
  rw [raw_words]
  exact unhex_hex q0
theorem FP_rawno {l : List UInt8} (h : RawH l) {c : UInt8} (hc : c ∈ (splitL 32 l).getD 1 []) (hn : nibR c < 0) : FP l [] false := by
  refine ⟨fun q0 h1 h4 he => ?_, fun k a b c _ _ _ _ _ hn he => (raw_not h hn he).elim⟩
  subst he
  rw [raw_words] at hc
  have := nib_hex q0 c hc
  omega
/-! The number half. -/
/-- The number of a word, as value has it. -/
def NumH (l : List UInt8) (n : Nat → Int) : Prop := ∀ i, 1 ≤ i → (h : i < (splitL 32 l).length) → Lib.itoa (n i) = (splitL 32 l)[i]'h
theorem FP_no {l : List UInt8} (hr : ¬ RawH l) (h : ∀ k a b c : Int, 0 ≤ k ∧ k < 256 → 0 ≤ a ∧ a < 256 → 0 ≤ b ∧ b < 256 → 0 ≤ c ∧ c < 256 → isB k a b c = true → ¬ refLineL k a b c = [] → ¬ l = refLineL k a b c) : FP l [] false :=
  ⟨fun q0 h1 h4 he => absurd (by rw [he]; exact raw_half h1 h4) hr, fun k a b c hk ha hb hc hi hn he => absurd he (h k a b c hk ha hb hc hi hn)⟩
theorem wordsL_len (k a b c : Int) : (wordsL k a b c).length ≤ 4 := by
  unfold wordsL
  repeat' split
  all_goals simp
/-- Each word of an instruction's line but its first is a number's text. -/
theorem wordsL_num {k a b c : Int} (hk : 0 ≤ k ∧ k < 256) (ha : 0 ≤ a ∧ a < 256) (hb : 0 ≤ b ∧ b < 256) (hc : 0 ≤ c ∧ c < 256) (i : Nat) (h1 : 1 ≤ i) (h : i < (wordsL k a b c).length) : ∃ z : Int, -32768 ≤ z ∧ z < 65536 ∧ (wordsL k a b c)[i]'h = Lib.itoa z := by
  have hj : -32768 ≤ jmpN (256 * b + c) ∧ jmpN (256 * b + c) < 65536 := by unfold jmpN; split <;> omega
  have key : ∀ (ws : List (List UInt8)), (∀ j, (hj : j < ws.length) → 1 ≤ j → ∃ z : Int, -32768 ≤ z ∧ z < 65536 ∧ ws[j]'hj = Lib.itoa z) → ∀ h : i < ws.length, ∃ z : Int, -32768 ≤ z ∧ z < 65536 ∧ ws[i]'h = Lib.itoa z := fun ws h2 h => h2 i h h1
  revert h
  unfold wordsL
  repeat' split
  all_goals
    intro h
    simp only [List.length_cons, List.length_nil] at h
    rcases (show i = 1 ∨ i = 2 ∨ i = 3 by omega) with rfl | rfl | rfl
  all_goals first
    | omega
    | exact ⟨_, by omega, by omega, rfl⟩
    | exact ⟨_, hj.1, hj.2, rfl⟩
theorem itoa_inj {x y : Int} (hx : x.natAbs < 1000000000) (hy : y.natAbs < 1000000000) (h : Lib.itoa x = Lib.itoa y) : x = y := by
  rw [← atoi_itoa x hx, ← atoi_itoa y hy, h]
abbrev Qi := Int × Int × Int × Int
def farO (n : Int) : Int := (n + 131072) % 65536
def cands (n1 n2 n3 : Int) : List Qi :=
  [(0, 0, 0, 0), (1, n1 % 256, farO n2 / 256, farO n2 % 256), (2, n1 % 256, n2 % 256, n3 % 256), (3, n1 % 256, n2 % 256, n3 % 256), (4, n1 % 256, n2 % 256, n3 % 256),
   (5, 0, farO n1 / 256, farO n1 % 256), (6, n1 % 256, farO n2 / 256, farO n2 % 256), (7, n1 % 256, 0, 0)] ++ if 1 ≤ n1 ∧ n1 ≤ 22 then [(16 + n1, 0, 0, 0)] else []
theorem cands_bd {n1 n2 n3 : Int} {x : Qi} (h : x ∈ cands n1 n2 n3) : (0 ≤ x.1 ∧ x.1 < 256) ∧ (0 ≤ x.2.1 ∧ x.2.1 < 256) ∧ (0 ≤ x.2.2.1 ∧ x.2.2.1 < 256) ∧ (0 ≤ x.2.2.2 ∧ x.2.2.2 < 256) := by
  unfold cands farO at h
  rcases List.mem_append.1 h with h | h
  · simp only [List.mem_cons, List.not_mem_nil, or_false] at h
    rcases h with rfl | rfl | rfl | rfl | rfl | rfl | rfl | rfl <;> (refine ⟨?_, ?_, ?_, ?_⟩ <;> dsimp only <;> omega)
  · split at h
    · rw [List.mem_singleton] at h
      subst h
      refine ⟨?_, ?_, ?_, ?_⟩ <;> dsimp only <;> omega
    · cases h
theorem cands_all {k a b c : Int} (hk : 0 ≤ k ∧ k < 256) (ha : 0 ≤ a ∧ a < 256) (hb : 0 ≤ b ∧ b < 256) (hc : 0 ≤ c ∧ c < 256) (hn : ¬ refLineL k a b c = [])
    {n : Nat → Int} (hN : ∀ i, 1 ≤ i → (h : i < (wordsL k a b c).length) → Lib.itoa (n i) = (wordsL k a b c)[i]'h ∧ (n i).natAbs < 1000000000) (h0 : ∀ i, (wordsL k a b c).length ≤ i → n i = 0) :
    (-40000 ≤ n 1 ∧ n 1 ≤ 70000) ∧ (-40000 ≤ n 2 ∧ n 2 ≤ 70000) ∧ (k, a, b, c) ∈ cands (n 1) (n 2) (n 3) := by
  have hj : (jmpN (256 * b + c)).natAbs < 1000000000 := by unfold jmpN; split <;> omega
  have j0 : -40000 ≤ jmpN (256 * b + c) ∧ jmpN (256 * b + c) ≤ 70000 := by unfold jmpN; split <;> omega
  have j1 : farO (jmpN (256 * b + c)) = 256 * b + c := by unfold jmpN farO; split <;> omega
  have j2 : farO (256 * b + c) = 256 * b + c := by unfold farO; omega
  have j3 : (256 * b + c) / 256 = b := by omega
  have j4 : (256 * b + c) % 256 = c := by omega
  have u1 : a % 256 = a := by omega
  have u2 : b % 256 = b := by omega
  have u3 : c % 256 = c := by omega
  have at1 : ∀ {ws : List (List UInt8)} {i : Nat} {z : Int}, wordsL k a b c = ws → 1 ≤ i → ws[i]? = some (Lib.itoa z) → z.natAbs < 1000000000 → n i = z := by
    intro ws i z hw h1 hz hb
    subst hw
    have hi := (List.getElem?_eq_some_iff.1 hz).1
    have he := (List.getElem?_eq_some_iff.1 hz).2
    obtain ⟨g1, g2⟩ := hN i h1 hi
    exact itoa_inj g2 hb (g1.trans he)
  have z1 : ∀ {ws : List (List UInt8)} (i : Nat), wordsL k a b c = ws → ws.length ≤ i → n i = 0 := by
    intro ws i hw hl
    subst hw
    exact h0 i hl
  unfold refLineL at hn
  by_cases h8 : k < 8
  · obtain rfl | rfl | rfl | rfl | rfl | rfl | rfl | rfl : k = 0 ∨ k = 1 ∨ k = 2 ∨ k = 3 ∨ k = 4 ∨ k = 5 ∨ k = 6 ∨ k = 7 := by omega
    · have hz : a = 0 ∧ b = 0 ∧ c = 0 := Classical.byContradiction fun hq => hn (by rw [if_pos rfl, if_neg hq])
      obtain ⟨rfl, rfl, rfl⟩ := hz
      rw [z1 1 rfl (by decide), z1 2 rfl (by decide)]
      exact ⟨by omega, by omega, by simp [cands]⟩
    · rw [at1 (i := 1) (z := a) rfl (by omega) rfl (by omega), at1 (i := 2) (z := 256 * b + c) rfl (by omega) rfl (by omega)]
      exact ⟨by omega, by omega, by simp [cands, j2, j3, j4, u1]⟩
    · rw [at1 (i := 1) (z := a) rfl (by omega) rfl (by omega), at1 (i := 2) (z := b) rfl (by omega) rfl (by omega), at1 (i := 3) (z := c) rfl (by omega) rfl (by omega)]
      exact ⟨by omega, by omega, by simp [cands, u1, u2, u3]⟩
    · rw [at1 (i := 1) (z := a) rfl (by omega) rfl (by omega), at1 (i := 2) (z := b) rfl (by omega) rfl (by omega), at1 (i := 3) (z := c) rfl (by omega) rfl (by omega)]
      exact ⟨by omega, by omega, by simp [cands, u1, u2, u3]⟩
    · rw [at1 (i := 1) (z := a) rfl (by omega) rfl (by omega), at1 (i := 2) (z := b) rfl (by omega) rfl (by omega), at1 (i := 3) (z := c) rfl (by omega) rfl (by omega)]
      exact ⟨by omega, by omega, by simp [cands, u1, u2, u3]⟩
    · have hz : a = 0 := Classical.byContradiction fun hq => hn (by simp [hq])
      subst hz
      rw [at1 (i := 1) (z := jmpN (256 * b + c)) rfl (by omega) rfl hj, z1 2 rfl (by simp [wordsL])]
      exact ⟨j0, by omega, by simp [cands, j1, j3, j4]⟩
    · rw [at1 (i := 1) (z := a) rfl (by omega) rfl (by omega), at1 (i := 2) (z := jmpN (256 * b + c)) rfl (by omega) rfl hj]
      exact ⟨by omega, j0, by simp [cands, j1, j3, j4, u1]⟩
    · have hz : b = 0 ∧ c = 0 := Classical.byContradiction fun hq => hn (by simp [hq])
      obtain ⟨rfl, rfl⟩ := hz
      rw [at1 (i := 1) (z := a) rfl (by omega) rfl (by omega), z1 2 rfl (by simp [wordsL])]
      exact ⟨by omega, by omega, by simp [cands, u1]⟩
  · rw [if_neg (by omega), if_neg (by omega), if_neg (by omega), if_neg (by omega), if_neg (by omega), if_neg (by omega), if_neg (by omega), if_neg (by omega)] at hn
    have hkc : 17 ≤ k ∧ k ≤ 38 := Classical.byContradiction fun hq => hn (by rw [if_neg hq])
    have hz : a = 0 ∧ b = 0 ∧ c = 0 := Classical.byContradiction fun hq => hn (by rw [if_pos hkc, if_neg hq])
    obtain ⟨rfl, rfl, rfl⟩ := hz
    have hw : wordsL k 0 0 0 = [[99, 97, 108, 108], Lib.itoa (k - 16)] := by
      unfold wordsL
      rw [if_neg (by omega), if_neg (by omega), if_neg (by omega), if_neg (by omega), if_neg (by omega), if_neg (by omega), if_neg (by omega), if_neg (by omega)]
    rw [at1 (i := 1) (z := k - 16) hw (by omega) rfl (by omega), z1 2 hw (by simp)]
    refine ⟨by omega, by omega, ?_⟩
    unfold cands
    rw [if_pos (by omega)]
    refine List.mem_append_right _ ?_
    rw [List.mem_singleton, show 16 + (k - 16) = k by omega]
theorem FP_yes {l : List UInt8} (hr : ¬ RawH l) {x : Qi} (hx : (0 ≤ x.1 ∧ x.1 < 256) ∧ (0 ≤ x.2.1 ∧ x.2.1 < 256) ∧ (0 ≤ x.2.2.1 ∧ x.2.2.1 < 256) ∧ (0 ≤ x.2.2.2 ∧ x.2.2.2 < 256)) (he : refLineL x.1 x.2.1 x.2.2.1 x.2.2.2 = l) : FP l (insB x) true := by
  refine ⟨fun q0 h1 h4 hq => absurd (by rw [hq]; exact raw_half h1 h4) hr, fun k a b c hk ha hb hc hi hn hl => ⟨rfl, ?_⟩⟩
  have h1 := ins_words hk ha hb hc hn
  have hn2 : ¬ refLineL x.1 x.2.1 x.2.2.1 x.2.2.2 = [] := by rw [he, hl]; exact hn
  have h2 := ins_words hx.1 hx.2.1 hx.2.2.1 hx.2.2.2 hn2
  rw [← words_line hn2, he, hl, words_line hn, h1] at h2
  rw [h2]
end Go.Proofs.YtnbkpminecoddaaDoor

/- The reference's four, by walk: the raw half. -/
section
namespace Go.Proofs.YtnbkpminecoddaaDoor
open Go.RowKit
set_option linter.unusedVariables false
set_option linter.unusedSimpArgs false

theorem own_words {w : World} {B : Nat} {v : Value} {ws : List (List UInt8)} (h : w.ownsRow B 9 1 v ws.length (wV ws)) (hn : 0 < ws.length) : ∃ g cap, v = .slice (some ⟨g, 0, none⟩) ws.length cap ∧ WordsAt w g ws ∧ B ≤ g := by
  rcases h.2 with ⟨_, h0⟩ | ⟨g, cap, cur, hv, hb, hg, h1, h2, h3, h4⟩
  · omega
  · have hlt := (Array.getElem?_eq_some_iff.1 hg).1
    refine ⟨g, cap, hv, ⟨hlt, fun i hi => ?_⟩, hb⟩
    have hcell : cur[i]? = some (.string (strL (ws[i]'hi))) := by
      have e : (cur.toList.take (ws.length * 1))[i]? = some (.string (strL (ws[i]'hi))) := by
        rw [h4]
        simp [wV, hi]
      rw [List.getElem?_take] at e
      split at e
      · simpa using e
      · cases e
    simp [World.cell?, hg, hcell]
def FPost (l : List UInt8) (w : World) (e : Ending) (w' : World) : Prop := ∃ v q ok, e = .returned (.tuple #[v, .bool ok]) ∧ FP l q ok ∧ (ok = true → w'.ownsRow w.heap.size 5 1 v q.length (bV q) ∧ q.length ≤ 4) ∧ Below w.heap.size w w'
theorem below_drewN (w : World) (B n : Nat) : Below B w (w.drewN n) := ⟨rfl, rfl, rfl, Nat.le_refl _, fun _ _ => rfl⟩
theorem unhex_len2 : ∀ l : List UInt8, 2 * (unhex l).length ≤ l.length
  | [] => by simp [unhex]
  | [a] => by simp [unhex]
  | a :: b :: l => by
    have := unhex_len2 l
    simp [unhex]
    omega
set_option maxRecDepth 100000 in
set_option maxHeartbeats 4000000 in
theorem four_raw (l : List UInt8) (hl : l.length ≤ 100000) (hr : RawH l) (w : World) : Calls Tryd.prog 33 #[.string (strL l)] w (FPost l w) := by
  obtain ⟨i0, hi, hz0, hz1, hz2⟩ := info_parts infoU8
  have CT := cut_is l hl w
  have hF := FP_raw hr
  have hNo : ∀ c, c ∈ (splitL 32 l).getD 1 [] → nibR c < 0 → FP l [] false := fun c hc hn => FP_rawno hr hc hn
  obtain ⟨r0, r2, re, r2m, r8m⟩ := hr
  have hn0 := splitL_ne 32 l
  obtain ⟨ws, hws⟩ : ∃ ws, ws = splitL 32 l := ⟨_, rfl⟩
  rw [← hws] at CT hF hNo r0 r2 re r2m r8m hn0
  have h1l : 1 < ws.length := by omega
  have g0 : ws.getD 0 [] = ws[0]'hn0 := by simp [List.getD_eq_getElem?_getD, hn0]
  have g1 : ws.getD 1 [] = ws[1]'h1l := by simp [List.getD_eq_getElem?_getD, h1l]
  rw [g0] at r0
  rw [g1] at hF hNo re r2m r8m
  have hW2 := fun (g : Nat) (w' : World) (h : WordsAt w' g ws) => And.intro (h.2 0 hn0) (h.2 1 h1l)
  have b0 : ((strL (ws[0]'hn0)).toList == ([114, 97, 119] : List UInt8)) = true := by rw [strL_toList, r0]; rfl
  have b2 : ((ws.length : Int) == 2) = true := by simp [r2]
  clear g0 g1 r0 hws
  generalize ws[1]'h1l = x1 at *
  generalize strL (ws[0]'hn0) = x0 at *
  have hsz : (strL x1).size = x1.length := strL_size x1
  have b3 : ((strL x1).size : Int) % 2 = 0 := by omega
  have b4 : (2 : Int) ≤ ((strL x1).size : Int) := by omega
  have b5 : ((strL x1).size : Int) ≤ 8 := by omega
  have HX := Lib.hid (And.intro hsz (And.intro re (And.intro r2m r8m)))
  have HF := Lib.hid hF
  have HNO := Lib.hid hNo
  clear hF hNo re r2m r8m r2 hsz
  have hul := unhex_len2 x1
  go_enter Tryd.func33, Tryd.ntmps33
  go_wp2_with (first | (go_at_call 46; refine CT.mono ?_; rintro e1 w1 ⟨v1, rfl, hown, hb1⟩; obtain ⟨g, cap, rfl, hwd, hge⟩ := own_words hown hn0; (have hg1 := hwd.1); obtain ⟨hc0, hc1⟩ := hW2 g w1 hwd))
  go_loopw [5, 6] (fun v i wr => ∃ k : Nat, i = .int .i64 ((2 * k : Nat) : Int) ∧ 2 * k ≤ x1.length ∧ wr.ownsRow w1.heap.size 5 1 v (unhex (x1.take (2 * k))).length (bV (unhex (x1.take (2 * k)))) ∧ Below w1.heap.size w1 wr) (fun _ i _ => x1.length + 2 - (intOf i).toNat)
  case atStart => exact ⟨0, rfl, Nat.zero_le _, World.ownsRow_nil _ _ _ _, Below.refl _ _⟩
  case round =>
    obtain ⟨k, rfl, hk, hown2, hb⟩ := hrel
    obtain ⟨A', cap', rfl⟩ := own_slice hown2
    obtain ⟨p, hp⟩ : ∃ p, p = 2 * k := ⟨_, rfl⟩
    have hc1r := (hb.cell (p := ⟨g, 1, none⟩) hg1).trans hc1
    by_cases hlt : 2 * k + 1 < x1.length
    · have hp9 : (p : Int) < 100000 := by have := HX.out.2.2.2; omega
      have hlt1 : (p : Int) < ((strL x1).size : Int) := by have := HX.out.1; omega
      simp only [← hp]
      have HP := Lib.hid (And.intro hp (And.intro hk hlt))
      have h1 : p < (strL x1).size := by omega
      obtain ⟨p1, hp1⟩ : ∃ p1, p1 = p + 1 := ⟨_, rfl⟩
      have h2' : p1 < (strL x1).size := by have := HX.out.1; omega
      have hlt2 : (p1 : Int) < ((strL x1).size : Int) := by omega
      have m1 : IntKind.i64.wrap ((p : Int) + 1) = (p1 : Int) := by rw [IntKind.wrap_i64]; omega
      have hup := unhex_snoc k x1 hlt
      rw [← hp] at hup
      have e1 : x1.getD p 0 = (strL x1)[p]'h1 := by rw [List.getD_eq_getElem?_getD, List.getElem?_eq_getElem (by have := HX.out.1; omega)]; rfl
      have e2 : x1.getD (p + 1) 0 = (strL x1)[p1]'h2' := by subst hp1; rw [List.getD_eq_getElem?_getD, List.getElem?_eq_getElem (by have := HX.out.1; omega)]; rfl
      rw [e1, e2] at hup
      have m1e : (strL x1)[p]'h1 ∈ x1 := List.getElem_mem (l := x1) (by have := HX.out.1; omega)
      have m2e : (strL x1)[p1]'h2' ∈ x1 := List.getElem_mem (l := x1) (by have := HX.out.1; omega)
      have n1 := nib_hv ((strL x1)[p]'h1)
      have n2 := nib_hv ((strL x1)[p1]'h2')
      have v1 := hv_lt ((strL x1)[p]'h1)
      have v2 := hv_lt ((strL x1)[p1]'h2')
      have o1 := HNO.out _ m1e
      have o2 := HNO.out _ m2e
      have HU := Lib.hid hup
      have HN := Lib.hid (And.intro n1 (And.intro n2 (And.intro v1 (And.intro v2 (And.intro o1 o2)))))
      have HE := Lib.hid hp1
      have HLn : (unhex (x1.take p)).length ≤ 100 := by have h7 := unhex_len2 (x1.take p); have h8 : (x1.take p).length ≤ x1.length := by simp; omega
                                                        have := HX.out.2.2.2; omega
      rw [← hp] at hown2
      generalize unhex (x1.take p) = pre at *
      clear hup e1 e2 m1e m2e n1 n2 v1 v2 o1 o2 hp hk hlt hp1
      go_wp2_with fail
      go_quiet ((go_at_call 47; exact Calls.quiet_of_same (nibble_is _ _)))
      obtain ⟨n1, n2, v1, v2, o1, o2⟩ := HN.out
      have hu := HU.out
      clear HN HU m1
      generalize nibR ((strL x1)[p]'h1) = z1 at *
      generalize nibR ((strL x1)[p1]'h2') = z2 at *
      generalize hv ((strL x1)[p]'h1) = e1 at *
      generalize hv ((strL x1)[p1]'h2') = e2 at *
      obtain ⟨c, hc⟩ : ∃ c, c = 16 * e1 + e2 := ⟨_, rfl⟩
      rw [← hc] at hu
      have HU := Lib.hid hu
      clear hu
      by_cases hq1 : z1 < 0
      · have HO := Lib.hid (o1 hq1)
        clear n1 n2 o1 o2 hc HU
        go_wp2_with fail
        go_ret2
        exact ⟨_, _, _, rfl, HO.out, fun h => absurd h (by decide), hb1.trans ((hb.trans (below_drewN _ _ _)).mono hb1.size)⟩
      · have hz1' : z1 = (e1 : Int) := n1.resolve_left hq1
        by_cases hq2 : z2 < 0
        · have HO := Lib.hid (o2 hq2)
          clear n1 n2 o1 o2 hc HU hz1'
          go_wp2_with fail
          go_ret2
          exact ⟨_, _, _, rfl, HO.out, fun h => absurd h (by decide), hb1.trans ((hb.trans (below_drewN _ _ _)).mono hb1.size)⟩
        · have hz2' : z2 = (e2 : Int) := n2.resolve_left hq2
          clear n1 n2 o1 o2
          have zb1 : 0 ≤ z1 ∧ z1 < 16 := by omega
          have zb2 : 0 ≤ z2 ∧ z2 < 16 := by omega
          obtain ⟨za1, zc1⟩ := zb1
          obtain ⟨za2, zc2⟩ := zb2
          have w3' : 16 * z1 + z2 = (c : Int) := by omega
          have hcl : c < 256 := by omega
          have HC := Lib.hid hc
          have HW := Lib.hid w3'
          clear hc w3' hz1' hz2' v1 v2
          have hown3 := below_own hown2 (below_drewN wr wr.heap.size nq)
          have hbl := hb.size
          clear b3 hul
          go_wp2_with (at_builtin; refine wpList_append_own _ rfl _ _ 22 rfl w1.heap.size 5 i0 (.int .u8 0) 1 1 underU8 hi hz0 hz1 hz2 rfl (by decide) _ _ _ rfl (hown3.alloc _) ⟨wr.heap.size, 0, none⟩ 1 1 [.int .u8 (16 * z1 + z2)] rfl rfl (fun j u hu => news_new (wr.drewN nq) 5 #[.int .u8 (16 * z1 + z2)] j u hu) (by simp [Value.oneCell']) (by unfold maxLen; omega) (by omega) (by simp; omega) ?_; intro v' w2 hown' hgrow _)
          have hvc : bV pre ++ [.int .u8 (16 * z1 + z2)] = bV (pre ++ [UInt8.ofNat c]) := by
            rw [HW.out]
            have : ((UInt8.ofNat c).toNat : Int) = (c : Int) := by rw [UInt8.toNat_ofNat', Nat.mod_eq_of_lt (by omega)]
            simp [bV, this]
            omega
          rw [hvc] at hown'
          go_roundw
          case rel =>
            obtain ⟨hp, hk, hlt⟩ := HP.out
            refine ⟨k + 1, by congr 1; omega, by omega, ?_, ?_⟩
            · rw [HU.out]
              simpa using hown'
            · exact ((hb.trans (below_drewN wr _ nq)).alloc hb.size _).grown hgrow (by simp; omega) (fun j hj => (hown3.lt j hj).1)
          case measure =>
            obtain ⟨hp, hk, hlt⟩ := HP.out
            simp [intOf]
            omega
    · have hX := HX.out
      have hke : 2 * k = x1.length := by omega
      have eu : unhex (x1.take (2 * k)) = unhex x1 := by rw [hke, List.take_length]
      rw [eu] at hown2 ⊢
      obtain ⟨q, hq⟩ : ∃ q, q = 2 * k := ⟨_, rfl⟩
      have hk1 : ¬ (q : Int) < ((strL x1).size : Int) := by omega
      simp only [← hq]
      have hl4 : (unhex x1).length ≤ 4 := by omega
      have HL4 := Lib.hid hl4
      clear hl4 hX hp hke hk hlt hul eu hq b3
      generalize unhex x1 = pre at *
      go_wp2_with fail
      go_ret2
      exact ⟨_, _, _, rfl, HF.out, fun _ => ⟨own_mono hown2 hb1.size, HL4.out⟩, hb1.trans (hb.mono hb1.size)⟩
end Go.Proofs.YtnbkpminecoddaaDoor
end
