/- The reference's Text, by walk; the program's text is the same. -/
import Derived.Test.YtnbkpminecoddaaDoorCodeLineEq
import Derived.LoopTactic
namespace Go.Proofs.YtnbkpminecoddaaDoor
open Go.RowKit
set_option linter.unusedVariables false
set_option linter.unusedSimpArgs false

/-- The bytes of a line of bytes. -/
def hexL (c : UInt8) : List UInt8 := [UInt8.ofNat (digN (c.toNat / 16)), UInt8.ofNat (digN (c.toNat % 16))]
def rawL (l : List UInt8) : List UInt8 := [114, 97, 119, 32] ++ l.flatMap hexL
theorem raw_str (l : List UInt8) : strOfNums (rawI l) = strL (rawL l) := by
  unfold strOfNums strL rawI rawL
  rw [List.map_append, List.map_flatMap]
  rfl
theorem rawL_snoc (l : List UInt8) (k : Nat) (hk : k < l.length) : rawL (l.take (k + 1)) = rawL (l.take k) ++ hexL (l[k]'hk) := by
  unfold rawL
  rw [List.take_succ_eq_append_getElem hk, List.flatMap_append]
  simp
theorem rawL_len (l : List UInt8) : (rawL l).length = 4 + 2 * l.length := by
  unfold rawL
  induction l with
  | nil => rfl
  | cons c l ih =>
    simp only [List.flatMap_cons, List.length_append, List.length_cons, List.length_nil] at ih ⊢
    simp only [hexL, List.length_cons, List.length_nil]
    omega
/-- The line of so many bytes at a place. -/
def rowL (n : Nat) (D : Nat → Int) (l : List UInt8) (i : Nat) : List UInt8 :=
  if (decR n D i).e = 0 ∧ ¬ refLineL (decR n D i).k (decR n D i).a (decR n D i).b (decR n D i).c = [] then refLineL (decR n D i).k (decR n D i).a (decR n D i).b (decR n D i).c else rawL ((l.drop (4 * i)).take 4)
theorem decR_ok {n : Nat} {D : Nat → Int} {i : Int} (h : (decR n D i).e = 0) : okOf (decR n D i).k = true := by
  unfold decR at h ⊢
  dsimp only at h ⊢
  split at h
  · cases h
  · split at h
    · cases h
    · split at h
      · cases h
      · rename_i h1 h2 h3
        split at h
        · cases h
        · rename_i h4
          rw [if_neg h1, if_neg h2, if_neg h3, if_neg h4]
          simpa using h3
theorem decR_07 {n : Nat} {D : Nat → Int} {pc : Int} (h : ¬ (n % 4 = 0 ∧ pc = ((n / 4 : Nat) : Int))) : (decR n D pc).e = 0 ∨ (decR n D pc).e = 7 := by
  unfold decR
  rw [if_neg h]
  dsimp only
  split
  · exact .inr rfl
  · split
    · exact .inr rfl
    · split
      · exact .inr rfl
      · exact .inl rfl
theorem row_eq (l : List UInt8) (i : Nat) : rowS (lineO l.length (dOf l)) l i = strL (rowL l.length (dOf l) l i) := by
  obtain ⟨he, hk, ha, hb, hc⟩ := decR_bd (n := l.length) (dOf_bd l) (i : Int)
  unfold rowS lineO rowL
  by_cases h0 : (decR l.length (dOf l) i).e = 0
  · have E := line_eq _ _ _ _ hk ha hb hc (decR_ok h0)
    unfold lineP at E
    simp only [h0, true_and, E]
    by_cases hl : refLineL (decR l.length (dOf l) i).k (decR l.length (dOf l) i).a (decR l.length (dOf l) i).b (decR l.length (dOf l) i).c = []
    · simp only [hl, if_true, not_true_eq_false, if_false]
      exact raw_str _
    · simp only [hl, if_false, not_false_eq_true, if_true]
  · simp only [h0, false_and, if_false]
    exact raw_str _
def textF (n : Nat) (D : Nat → Int) (l : List UInt8) (k : Nat) : List UInt8 := (List.range k).flatMap fun i => rowL n D l i ++ [10]
theorem text_eq (l : List UInt8) : textL l = textF l.length (dOf l) l ((l.length + 3) / 4) := by
  unfold textL textS textF
  congr 1
  funext i
  rw [row_eq]
  simp [strL]
theorem rowL_len (l : List UInt8) (i : Nat) : (rowL l.length (dOf l) l i).length ≤ 1000 := by
  have h := rowS_size l.length l i
  rw [row_eq, strL_size] at h
  exact h
theorem textF_succ (n : Nat) (D : Nat → Int) (l : List UInt8) (k : Nat) : textF n D l (k + 1) = textF n D l k ++ (rowL n D l k ++ [10]) := by
  unfold textF
  rw [List.range_succ, List.flatMap_append]
  simp
theorem textF_len (l : List UInt8) : ∀ k, (textF l.length (dOf l) l k).length ≤ 1001 * k
  | 0 => by simp [textF]
  | k + 1 => by
    rw [textF_succ]
    have h1 := textF_len l k
    have h2 := rowL_len l k
    simp
    omega
set_option maxHeartbeats 1000000 in
theorem digit_is (n : Nat) (h : n < 16) (w : World) : Calls Tryd.prog 32 #[.int .u8 (n : Int)] w fun e w' => e = .returned (.int .u8 (digN n : Int)) ∧ w' = w := by
  by_cases h10 : n < 10
  · have e : (digN n : Int) = 48 + (n : Int) := by unfold digN; rw [if_pos h10]; omega
    rw [e]
    clear e
    have h1 : (n : Int) < 10 := by omega
    go_enter Tryd.func32, Tryd.ntmps32
    go_wp2
    go_ret
    exact ⟨rfl, rfl⟩
  · have e : (digN n : Int) = 97 + (n : Int) - 10 := by unfold digN; rw [if_neg h10]; omega
    rw [e]
    clear e
    have h1 : ¬ (n : Int) < 10 := by omega
    have h2 : (n : Int) < 16 := by omega
    go_enter Tryd.func32, Tryd.ntmps32
    go_wp2
    go_ret
    exact ⟨rfl, rfl⟩
theorem strL_toList (l : List UInt8) : (strL l).toList = l := by
  rw [ByteArray.toList_eq]
  simp [strL]
theorem conv_two (g c : Nat) (a b : Nat) (w : World) (h0 : w.cell? ⟨g, 0, none⟩ = some (.int .u8 (a : Int))) (h1 : w.cell? ⟨g, 1, none⟩ = some (.int .u8 (b : Int))) : (convert 22 9 (.slice (some ⟨g, 0, none⟩) 2 c)).run Tryd.prog w = .ok (.string (strL [UInt8.ofNat a, UInt8.ofNat b])) w := by
  have := run_convert_bytes_arg (P := Tryd.prog) w 22 5 Tryd.underlying22 Tryd.underlying5 g 0 2 c [(a : Int), (b : Int)] rfl (fun i hi => (by
    have e : i = 0 ∨ i = 1 := (by omega)
    rcases e with e | e
    · subst e; exact h0
    · subst e; exact h1)) 9 Tryd.underlying9
  rw [this]
  rfl
set_option maxRecDepth 100000 in
set_option maxHeartbeats 4000000 in
theorem refText_is (A : Option Addr) (l : List UInt8) (cap : Nat) (h4 : l.length ≤ 100000) (w : World) (h : BytesAt w A l cap) :
    Calls Tryd.prog 20 #[.slice A l.length cap] w fun e w' => e = .returned (.string (strL (textL l))) ∧ Below w.heap.size w w' := by
  have DC := fun (i : Nat) (w' : World) (hb : Below w.heap.size w w') => refDecode_is A l.length cap (dOf l) (dOf_bd l) (i : Int) w' ((h.below hb).code (by omega))
  have hbd := fun i : Nat => decR_bd (n := l.length) (dOf_bd l) (i : Int)
  have HB := Lib.hid hbd
  have HX := Lib.hid h
  clear hbd h
  rw [text_eq]
  go_enter Tryd.func20, Tryd.ntmps20
  go_wp2_with fail
  go_loopw [3, 4] (fun s v wr => ∃ i : Nat, v = .int .i64 (4 * (i : Int)) ∧ 4 * i < l.length + 4 ∧ s = .string (strL (textF l.length (dOf l) l i)) ∧ Below w.heap.size w wr) (fun s v wr => l.length + 4 - (intOf v).toNat)
  case atStart => exact ⟨0, rfl, by omega, rfl, Below.refl _ _⟩
  case round =>
    obtain ⟨i, rfl, hi, rfl, hB⟩ := hrel
    have hi1 : i < 30000 := by omega
    by_cases hlt : 4 * (i : Int) < (l.length : Int)
    · have C1 := DC i wr hB
      obtain ⟨he, hk, ha, hb, hc⟩ := HB.out i
      have he' := decR_07 (n := l.length) (D := dOf l) (pc := (i : Int)) (by omega)
      have hR := textF_succ l.length (dOf l) l i
      have hLB := textF_len l i
      have hrl := rowL_len l i
      unfold rowL at hR hrl
      generalize textF l.length (dOf l) l i = acc at *
      generalize decR l.length (dOf l) (i : Int) = d at *
      obtain ⟨k, a, b, c, e⟩ := d
      simp only at he hk ha hb hc he' hR hrl
      have L1 := refLine_is k a b c hk ha hb hc
      simp only [Dec.v, insV] at C1 L1
      clear he HB
      have hi' : ((4 * (i : Int)) / 4) = (i : Int) := by omega
      have hsz := hB.size
      by_cases hA : e = 0 ∧ ¬ refLineL k a b c = []
      · obtain ⟨rfl, hne0⟩ := hA
        rw [if_pos ⟨rfl, hne0⟩] at hR hrl
        have hne : (strL (refLineL k a b c)).toList.isEmpty = false := by
          rw [strL_toList]
          cases hl : refLineL k a b c with
          | nil => exact absurd hl hne0
          | cons _ _ => rfl
        have HR := Lib.hid (show strL (textF l.length (dOf l) l (i + 1)) = strL acc ++ strL (refLineL k a b c) ++ (⟨#[10]⟩ : ByteArray) by
          rw [hR, show (⟨#[10]⟩ : ByteArray) = strL [10] from rfl, str_add, str_add, List.append_assoc])
        have n1 : ¬ 9223372036854775807 < (strL acc).size + (strL (refLineL k a b c)).size := by rw [strL_size, strL_size]; omega
        have n2 : ¬ 9223372036854775807 < (strL acc).size + (strL (refLineL k a b c)).size + 1 := by rw [strL_size, strL_size]; omega
        generalize strL (refLineL k a b c) = Ls at *
        generalize strL acc = As at *
        clear hR hrl hne0 hLB he'
        go_wp2_with (first | (go_at_call 11; refine C1.mono ?_; rintro e2 w2 ⟨rfl, hb2⟩; (have I5 := Blk.new w2 26 #[.int .u8 k, .int .u8 a, .int .u8 b, .int .u8 c]); (have B5 := Lib.hid ((hB.trans (hb2.mono hsz)).alloc (Nat.le_trans hsz hb2.size) (.cells #[.int .u8 k, .int .u8 a, .int .u8 b, .int .u8 c] 26)))) | ((with_reducible refine load_ins (o := ⟨some 22, .load 26 (.tmp 5), _, _, _, _⟩) (I5) ?_ (.tmp 5) ?_ ?_ ?_); exact rfl; exact rfl; exact rfl; simp only [insV]) | (go_at_call 31; refine (L1 _).mono ?_; rintro e3 w3 ⟨rfl, hb3⟩; (have B6 := Lib.hid (B5.out.trans (hb3.mono B5.out.size)))))
        go_roundw
        case rel => exact ⟨i + 1, by go_num, by omega, by rw [HR.out], B6.out⟩
        case measure => simp [intOf]; omega
      · rw [if_neg hA] at hR hrl
        obtain ⟨q, hq⟩ : ∃ q, q = (l.drop (4 * i)).take 4 := ⟨_, rfl⟩
        rw [← hq] at hR hrl
        have hlt' : 4 * i < l.length := by omega
        have hql : q.length = min 4 (l.length - 4 * i) := by rw [hq]; simp
        obtain ⟨g, o, hAe, hg, hcl⟩ : ∃ g o, A = some ⟨g, o, none⟩ ∧ g < w.heap.size ∧ ∀ j (hj : j < q.length), w.cell? ⟨g, o + (4 * i + j), none⟩ = some (.int .u8 ((q[j]'hj).toNat : Int)) := by
          rcases HX.out.2 with h | ⟨g, o, h, hg, hc⟩
          · rw [h] at hlt'; simp at hlt'
          · refine ⟨g, o, h, hg, fun j hj => ?_⟩
            subst hq
            have hj' : 4 * i + j < l.length := by simp at hj; omega
            rw [hc (4 * i + j) hj']
            simp
        subst hAe
        clear hq
        have HR := Lib.hid (show strL (textF l.length (dOf l) l (i + 1)) = strL acc ++ strL (rawL q) ++ (⟨#[10]⟩ : ByteArray) by
          rw [hR, show (⟨#[10]⟩ : ByteArray) = strL [10] from rfl, str_add, str_add, List.append_assoc])
        have n1 : ¬ 9223372036854775807 < (strL acc).size + (strL (rawL q)).size := by rw [strL_size, strL_size, rawL_len]; omega
        have n2 : ¬ 9223372036854775807 < (strL acc).size + (strL (rawL q)).size + 1 := by rw [strL_size, strL_size, rawL_len]; omega
        generalize strL acc = As at *
        have HQ := Lib.hid (And.intro hql hcl)
        clear hR hrl hLB hql hcl
        have hcase : (e = 0 ∧ refLineL k a b c = []) ∨ e = 7 := by
          rcases he' with rfl | rfl
          · exact .inl ⟨rfl, Classical.byContradiction fun h => hA ⟨rfl, h⟩⟩
          · exact .inr rfl
        clear hA he'
        have e0 : strL [] = (⟨#[]⟩ : ByteArray) := rfl
        obtain ⟨Ls, hLs⟩ : ∃ Ls, Ls = strL (refLineL k a b c) := ⟨_, rfl⟩
        rw [← hLs] at L1
        have hc2 : (e = 0 ∧ Ls = (⟨#[]⟩ : ByteArray)) ∨ e = 7 := hcase.imp (fun h => ⟨h.1, by rw [hLs, h.2, e0]⟩) id
        clear hcase e0 hLs
        rcases hc2 with ⟨rfl, rfl⟩ | rfl
        all_goals
          go_wp2_with (first | (go_at_call 11; refine C1.mono ?_; rintro e2 w2 ⟨rfl, hb2⟩; (have I5 := Blk.new w2 26 #[.int .u8 k, .int .u8 a, .int .u8 b, .int .u8 c]); (have B5 := Lib.hid ((hB.trans (hb2.mono hsz)).alloc (Nat.le_trans hsz hb2.size) (.cells #[.int .u8 k, .int .u8 a, .int .u8 b, .int .u8 c] 26)))) | ((with_reducible refine load_ins (o := ⟨some 22, .load 26 (.tmp 5), _, _, _, _⟩) (I5) ?_ (.tmp 5) ?_ ?_ ?_); exact rfl; exact rfl; exact rfl; simp only [insV]) | (go_at_call 31; refine (L1 _).mono ?_; rintro e3 w3 ⟨rfl, hb3⟩; (have B6 := Lib.hid (B5.out.trans (hb3.mono B5.out.size)))))
          go_loopw [7, 8] (fun s v wr2 => ∃ j : Nat, v = .int .i64 ((4 * i + j : Nat) : Int) ∧ j ≤ q.length ∧ s = .string (strL (rawL (q.take j))) ∧ Below w.heap.size w wr2) (fun s v wr2 => l.length + 4 - (intOf v).toNat)
          case atStart => exact ⟨0, by simp, Nat.zero_le _, rfl, B6.out⟩
          case round =>
            obtain ⟨j, rfl, hj, rfl, hB2⟩ := hrel
            obtain ⟨p, hp⟩ : ∃ p, p = 4 * i + j := ⟨_, rfl⟩
            simp only [← hp]
            have hql := HQ.out.1
            by_cases hjm : j < q.length
            · have hp1 : (p : Int) < 4 * (i : Int) + 4 := by omega
              have hp2 : (p : Int) < (l.length : Int) := by omega
              have hp3 : p < l.length := by omega
              have hcell := (hB2.cell (p := ⟨g, o + (4 * i + j), none⟩) hg).trans (HQ.out.2 j hjm)
              rw [← hp] at hcell
              have hup := rawL_snoc q j hjm
              obtain ⟨x, hx⟩ : ∃ x : Nat, x = (q[j]'hjm).toNat := ⟨_, rfl⟩
              have hxb : x < 256 := by rw [hx]; exact (q[j]'hjm).toNat_lt
              unfold hexL at hup
              rw [← hx] at hcell hup
              obtain ⟨y1, hy1⟩ : ∃ y : Nat, y = x / 16 := ⟨_, rfl⟩
              obtain ⟨y2, hy2⟩ : ∃ y : Nat, y = x % 16 := ⟨_, rfl⟩
              rw [← hy1, ← hy2] at hup
              have DG1 := fun w => digit_is y1 (by omega) w
              have DG2 := fun w => digit_is y2 (by omega) w
              have v1 : IntKind.u8.wrap ((x : Int) / 16) = (y1 : Int) := by rw [IntKind.wrap_u8]; omega
              have v2 : (x : Int).tmod 16 = (y2 : Int) := by rw [hy2]; exact (Int.ofNat_tmod x 16).symm
              generalize digN y1 = d1 at *
              generalize digN y2 = d2 at *
              have CV := fun g w h0 h1 => conv_two g 2 d1 d2 w h0 h1
              have hU : strL (rawL (q.take (j + 1))) = strL (rawL (q.take j)) ++ strL [UInt8.ofNat d1, UInt8.ofNat d2] := by rw [hup, str_add]
              have HU := Lib.hid hU
              have n3 : ¬ 9223372036854775807 < (strL (rawL (q.take j))).size + (strL [UInt8.ofNat d1, UInt8.ofNat d2]).size := by rw [strL_size, strL_size, rawL_len]; simp; omega
              generalize strL (rawL (q.take j)) = Rs at *
              have HP := Lib.hid (And.intro hp hql)
              have HV := Lib.hid (And.intro v1 v2)
              have hgW : g < wr.drew.heap.size := Nat.lt_of_lt_of_le hg hB2.size
              have hHeld0 : wr.drew.cell? ⟨g, o + p, none⟩ = some (.int .u8 (x : Int)) := hcell
              clear hup hU hx hy1 hy2 v1 v2 hp hql hcell
              go_wp2_with fail
              obtain ⟨v1, v2⟩ := HV.out
              refine wp_region_held_drew (S := (fun w' => w'.cell? ⟨g, o + p, none⟩ = some (.int .u8 (x : Int)))) (by kernel_rfl) hHeld0 (fun hHeld => ?_)
              refine wpAnyH_take (i := 0) (v := ?_) rfl (by kernel_rfl) (by kernel_rfl) (by kernel_rfl) (fun _ _ _ h => h) (Or.inl ⟨by kernel_rfl, by (intro w' hSw; go_simp; first | done | (with_reducible rfl) | rfl)⟩) hHeld ?_
              (try simp only [Act.put, List.getElem_toArray, List.getElem_cons_zero, List.getElem_cons_succ, List.setIfInBounds_toArray, List.set_cons_zero, List.set_cons_succ])
              refine wpAnyH_take (i := 1) (v := ?_) rfl (by kernel_rfl) (by kernel_rfl) (by kernel_rfl) (fun _ _ _ h => h) (Or.inl ⟨by kernel_rfl, by (intro w' hSw; go_simp; first | done | (with_reducible rfl) | rfl)⟩) hHeld ?_
              (try simp only [Act.put, List.getElem_toArray, List.getElem_cons_zero, List.getElem_cons_succ, List.setIfInBounds_toArray, List.set_cons_zero, List.set_cons_succ])
              refine wpAnyH_take (i := 2) (v := ?_) rfl (by kernel_rfl) (by kernel_rfl) (by kernel_rfl) (fun _ _ _ h => h) (Or.inl ⟨by kernel_rfl, by (intro w' hSw; go_simp; first | done | (with_reducible rfl) | rfl)⟩) hHeld ?_
              (try simp only [Act.put, List.getElem_toArray, List.getElem_cons_zero, List.getElem_cons_succ, List.setIfInBounds_toArray, List.set_cons_zero, List.set_cons_succ])
              refine wpAnyH_take (i := 3) (v := ?_) rfl (by kernel_rfl) (by kernel_rfl) (by kernel_rfl) (fun _ _ _ h => h) (Or.inl ⟨by kernel_rfl, by (intro w' hSw; go_simp; first | done | (with_reducible rfl) | rfl)⟩) hHeld ?_
              (try simp only [Act.put, List.getElem_toArray, List.getElem_cons_zero, List.getElem_cons_succ, List.setIfInBounds_toArray, List.set_cons_zero, List.set_cons_succ])
              refine wpAnyH_take (i := 4) (v := ?_) rfl (by kernel_rfl) (by kernel_rfl) (by kernel_rfl) (fun _ _ _ h => h) (Or.inl ⟨by kernel_rfl, by (intro w' hSw; go_simp; first | done | (with_reducible rfl) | rfl)⟩) hHeld ?_
              (try simp only [Act.put, List.getElem_toArray, List.getElem_cons_zero, List.getElem_cons_succ, List.setIfInBounds_toArray, List.set_cons_zero, List.set_cons_succ])
              refine wpAnyH_take (i := 5) (v := ?_) rfl (by kernel_rfl) (by kernel_rfl) (by kernel_rfl) (fun _ _ _ h => h) (Or.inl ⟨by kernel_rfl, by (intro w' hSw; go_simp; first | done | (with_reducible rfl) | rfl)⟩) hHeld ?_
              (try simp only [Act.put, List.getElem_toArray, List.getElem_cons_zero, List.getElem_cons_succ, List.setIfInBounds_toArray, List.set_cons_zero, List.set_cons_succ])
              refine wpAnyH_take (i := 7) (v := ?_) rfl (by kernel_rfl) (by kernel_rfl) (by kernel_rfl) (fun _ _ _ h => h) (Or.inl ⟨by kernel_rfl, by (intro w' hSw; go_simp; first | done | (with_reducible rfl) | rfl)⟩) hHeld ?_
              (try simp only [Act.put, List.getElem_toArray, List.getElem_cons_zero, List.getElem_cons_succ, List.setIfInBounds_toArray, List.set_cons_zero, List.set_cons_succ])
              refine wpAnyH_take (i := 8) (v := ?_) rfl (by kernel_rfl) (by kernel_rfl) (by kernel_rfl) (fun _ _ _ h => h) (Or.inl ⟨by kernel_rfl, by (intro w' hSw; go_simp; first | done | (with_reducible rfl) | rfl)⟩) hHeld ?_
              (try simp only [Act.put, List.getElem_toArray, List.getElem_cons_zero, List.getElem_cons_succ, List.setIfInBounds_toArray, List.set_cons_zero, List.set_cons_succ])
              refine wpAnyH_take (i := 9) (v := ?_) rfl (by kernel_rfl) (by kernel_rfl) (by kernel_rfl) (fun _ _ _ h => h) (Or.inl ⟨by kernel_rfl, by (intro w' hSw; go_simp; first | done | (with_reducible rfl) | rfl)⟩) hHeld ?_
              (try simp only [Act.put, List.getElem_toArray, List.getElem_cons_zero, List.getElem_cons_succ, List.setIfInBounds_toArray, List.set_cons_zero, List.set_cons_succ])
              refine wpAnyH_take (i := 10) (v := ?_) rfl (by kernel_rfl) (by kernel_rfl) (by kernel_rfl) (fun _ _ _ h => h) (Or.inl ⟨by kernel_rfl, by (intro w' hSw; go_simp; first | done | (with_reducible rfl) | rfl)⟩) hHeld ?_
              (try simp only [Act.put, List.getElem_toArray, List.getElem_cons_zero, List.getElem_cons_succ, List.setIfInBounds_toArray, List.set_cons_zero, List.set_cons_succ])
              refine wpAnyH_take (i := 11) (v := ?_) rfl (by kernel_rfl) (by kernel_rfl) (by kernel_rfl) (fun _ _ _ h => h) (Or.inl ⟨by kernel_rfl, by (intro w' hSw; go_simp; first | done | (with_reducible rfl) | rfl)⟩) hHeld ?_
              (try simp only [Act.put, List.getElem_toArray, List.getElem_cons_zero, List.getElem_cons_succ, List.setIfInBounds_toArray, List.set_cons_zero, List.set_cons_succ])
              refine wpAnyH_ready (rs := [6]) (by kernel_rfl) (by simp) ?_
              refine AllReadyH.cons rfl (fun K hK => ?_) AllReadyH.nil
              go_simp
              go_at_call 32; refine (DG1 _).mono ?_; rintro eA wA ⟨rfl, hwA⟩; subst wA
              try dsimp only
              clear hHeld
              refine hK.out _ _ hHeld0 (fun hHeld => ?_)
              clear hK K
              (try simp only [Act.put, List.getElem_toArray, List.getElem_cons_zero, List.getElem_cons_succ, List.setIfInBounds_toArray, List.set_cons_zero, List.set_cons_succ])
              refine wpAnyH_ready (rs := [12]) (by kernel_rfl) (by simp) ?_
              refine AllReadyH.cons rfl (fun K hK => ?_) AllReadyH.nil
              go_simp
              go_at_call 32; refine (DG2 _).mono ?_; rintro eB wB ⟨rfl, hwB⟩; subst wB
              try dsimp only
              clear hHeld
              refine hK.out _ _ hHeld0 (fun hHeld => ?_)
              clear hK K
              (try simp only [Act.put, List.getElem_toArray, List.getElem_cons_zero, List.getElem_cons_succ, List.setIfInBounds_toArray, List.set_cons_zero, List.set_cons_succ])
              refine wpAnyH_ready (rs := [13]) (by kernel_rfl) (by simp) ?_
              refine AllReadyH.cons rfl (fun K hK => ?_) AllReadyH.nil
              go_simp
              have hx : Blk (wr.drew.alloc (.cells #[.int .u8 (d1 : Int), .int .u8 (d2 : Int)] 5)) wr.heap.size 5 #[.int .u8 (d1 : Int), .int .u8 (d2 : Int)] := Blk.new wr.drew 5 #[.int .u8 (d1 : Int), .int .u8 (d2 : Int)]; have cv := CV _ _ (hx.cell 0) (hx.cell 1); have hHeld1 := (((Below.refl wr.drew.heap.size wr.drew).alloc (Nat.le_refl _) (.cells #[.int .u8 (d1 : Int), .int .u8 (d2 : Int)] 5)).cell (p := ⟨g, o + p, none⟩) hgW).trans hHeld0
              try dsimp only
              clear hHeld
              refine hK.out _ _ hHeld1 (fun hHeld => ?_)
              clear hK K
              (try simp only [Act.put, List.getElem_toArray, List.getElem_cons_zero, List.getElem_cons_succ, List.setIfInBounds_toArray, List.set_cons_zero, List.set_cons_succ])
              refine wpAnyH_ready (rs := [14]) (by kernel_rfl) (by simp) ?_
              refine AllReadyH.cons rfl (fun K hK => ?_) AllReadyH.nil
              go_simp
              try dsimp only
              clear hHeld
              refine hK.out _ _ hHeld1 (fun hHeld => ?_)
              clear hK K
              (try simp only [Act.put, List.getElem_toArray, List.getElem_cons_zero, List.getElem_cons_succ, List.setIfInBounds_toArray, List.set_cons_zero, List.set_cons_succ])
              refine wpAnyH_take (i := 15) (v := ?_) rfl (by kernel_rfl) (by kernel_rfl) (by kernel_rfl) (fun _ _ _ h => h) (Or.inl ⟨by kernel_rfl, by (intro w' hSw; go_simp; first | done | (with_reducible rfl) | rfl)⟩) hHeld ?_
              (try simp only [Act.put, List.getElem_toArray, List.getElem_cons_zero, List.getElem_cons_succ, List.setIfInBounds_toArray, List.set_cons_zero, List.set_cons_succ])
              refine wpAnyH_take (i := 16) (v := ?_) rfl (by kernel_rfl) (by kernel_rfl) (by kernel_rfl) (fun _ _ _ h => h) (Or.inl ⟨by kernel_rfl, by (intro w' hSw; go_simp; first | done | (with_reducible rfl) | rfl)⟩) hHeld ?_
              (try simp only [Act.put, List.getElem_toArray, List.getElem_cons_zero, List.getElem_cons_succ, List.setIfInBounds_toArray, List.set_cons_zero, List.set_cons_succ])
              refine wpAnyH_done (by kernel_rfl) ?_ _
              
              go_wp2_with fail
              go_roundw
              case rel => exact ⟨j + 1, by have hp := HP.out.1; congr 1; omega, by omega, by rw [HU.out], hB2.drew.alloc hB2.size _⟩
              case measure => have hp := HP.out.1; simp [intOf]; omega
            · have hjq : q.take j = q := List.take_of_length_le (by omega)
              rw [hjq]
              generalize strL (rawL q) = Rq at *
              have hfin : ¬ (p : Int) < 4 * (i : Int) + 4 ∨ ((p : Int) < 4 * (i : Int) + 4 ∧ ¬ (p : Int) < (l.length : Int)) := by omega
              clear hql hjm hjq hp hj
              rcases hfin with hf | ⟨hf1, hf2⟩
              all_goals
                go_wp2_with fail
                go_roundw
                case rel => exact ⟨i + 1, by go_num, by omega, by rw [HR.out], hB2⟩
                case measure => simp [intOf]; omega
    · go_wp2_with fail
      go_ret
      exact ⟨by rw [show (l.length + 3) / 4 = i from by omega]; rfl, hB⟩
end Go.Proofs.YtnbkpminecoddaaDoor
