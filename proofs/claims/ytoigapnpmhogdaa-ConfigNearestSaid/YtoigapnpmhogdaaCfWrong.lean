/- IndexFunc over programs, Wrong, May of the program, by walks. -/
import Derived.Test.YtoigapnpmhogdaaCfWithin
namespace Go.Proofs.Ytoigapnpmhogdaa
open Go.RowKit
set_option linter.unusedVariables false
set_option linter.unusedSimpArgs false

def byteV (c : UInt8) : Value := .int .u8 (c.toNat : Int)
/-- A slice of programs lies in memory, each with its bytes. -/
def PrAt (w : World) (B : Nat) (A : Option Addr) (L : List (List UInt8)) : Prop :=
  L ≠ [] → ∃ g o, A = some ⟨g, o, none⟩ ∧ g < B ∧ ∀ i (h : i < L.length), ∃ Ai ci, w.cell? ⟨g, o + i, none⟩ = some (.slice Ai (L[i]'h).length ci) ∧ (L[i]'h).length ≤ ci ∧ Reads w B 1 Ai (L[i]'h).length ((L[i]'h).map byteV) ∧ (Ai = none → (L[i]'h) = [] ∧ ci = 0)

theorem PrAt.below {w w' : World} {B : Nat} {A : Option Addr} {L : List (List UInt8)} (h : PrAt w B A L) (hb : Below B w w') : PrAt w' B A L := fun hne => by
  obtain ⟨g, o, hA, hg, hr⟩ := h hne
  refine ⟨g, o, hA, hg, fun i hi => ?_⟩
  obtain ⟨Ai, ci, h1, h2, h3, h4⟩ := hr i hi
  exact ⟨Ai, ci, (hb.cell (p := ⟨g, o + i, none⟩) hg).trans h1, h2, h3.below hb, h4⟩
theorem PrAt.more {w : World} {B B' : Nat} {A : Option Addr} {L : List (List UInt8)} (h : PrAt w B A L) (hB : B ≤ B') : PrAt w B' A L := fun hne => by
  obtain ⟨g, o, hA, hg, hr⟩ := h hne
  refine ⟨g, o, hA, by omega, fun i hi => ?_⟩
  obtain ⟨Ai, ci, h1, h2, h3, h4⟩ := hr i hi
  exact ⟨Ai, ci, h1, h2, h3.more hB, h4⟩

/-- The first program that is too long. -/
def longI (L : List (List UInt8)) : Int := match L.findIdx? (fun p => decide (1024 < p.length)) with
  | some i => i
  | none => -1
theorem longI_hit {L : List (List UInt8)} {k : Nat} (h : k < L.length) (h1 : 1024 < (L[k]'h).length) (h2 : ∀ i (hi : i < k), ¬ 1024 < (L[i]'(by omega)).length) : longI L = k := by
  have : L.findIdx? (fun p => decide (1024 < p.length)) = some k := by
    rw [List.findIdx?_eq_some_iff_getElem]
    exact ⟨h, by simpa using h1, fun j hj => by simpa using h2 j hj⟩
  unfold longI
  rw [this]
theorem longI_none {L : List (List UInt8)} (h2 : ∀ i (hi : i < L.length), ¬ 1024 < (L[i]'hi).length) : longI L = -1 := by
  have : L.findIdx? (fun p => decide (1024 < p.length)) = none := by
    rw [List.findIdx?_eq_none_iff]
    intro x hx
    obtain ⟨i, hi, rfl⟩ := List.getElem_of_mem hx
    simpa using h2 i hi
  unfold longI
  rw [this]

set_option maxHeartbeats 400000 in
theorem wrong1_is (A : Option Addr) (n c : Nat) (w : World) (hn : n < 2 ^ 62) : Calls Try.prog 30 #[.slice A n c] w fun e w' => e = .returned (.bool (decide (1024 < n))) ∧ w = w' := by
  have h : decide ((1024 : Int) < (n : Int)) = decide (1024 < n) := by rw [decide_eq_decide]; omega
  generalize decide (1024 < n) = r at *
  go_enter Try.func30, Try.ntmps30
  go_wp2
  go_ret
  exact ⟨rfl, rfl⟩

set_option maxHeartbeats 1000000 in
theorem index_is (B : Nat) (A : Option Addr) (cap : Nat) (L : List (List UInt8)) (w : World) (h : PrAt w B A L) (hl : L.length < 2 ^ 62) (hl2 : ∀ x ∈ L, x.length < 2 ^ 62) :
    Calls Try.prog 29 #[.slice A L.length cap, .func (.func 30) #[] #[]] w fun e w' => e = .returned (.int .i64 (longI L)) ∧ w = w' := by
  go_enter Try.func29, Try.ntmps29
  go_wp2
  go_loop [8] (fun i => ∃ k : Nat, k ≤ L.length ∧ i = .int .i64 k ∧ ∀ j (hj : j < L.length), j < k → ¬ 1024 < (L[j]'hj).length) (fun i => L.length - (intOf i).toNat)
  case atStart => exact ⟨0, Nat.zero_le _, rfl, fun j _ hj => absurd hj (by omega)⟩
  case round =>
    obtain ⟨k, hk, rfl, hno⟩ := hrel
    have HNO := Lib.hid hno
    have HL2 := Lib.hid hl2
    clear hno hl2
    by_cases hlt : k < L.length
    · obtain ⟨g, o, rfl, hg, hr⟩ := h (fun e => by rw [e] at hlt; simp at hlt)
      obtain ⟨Ai, ci, q1, q2, q3, _⟩ := hr k hlt
      have hn := HL2.out _ (List.getElem_mem hlt)
      have HHIT := fun h1 => longI_hit hlt h1 (fun i hi => HNO.out i (by omega) hi)
      obtain ⟨n, hnn⟩ : ∃ n, n = (L[k]'hlt).length := ⟨_, rfl⟩
      rw [← hnn] at q1 hn HHIT
      have HN := Lib.hid hnn
      have HH := Lib.hid HHIT
      clear hr hnn q2 q3 h HHIT
      have hk1 : (k : Int) < L.length := by omega
      have hk0 : (0 : Int) ≤ (k : Int) := by omega
      have C := wrong1_is Ai n ci w hn
      by_cases h1 : 1024 < n
      · rw [decide_eq_true h1] at C
        go_wp2_with (go_at_call 30; refine C.mono ?_; rintro e w1 ⟨rfl, rfl⟩)
        go_ret
        exact ⟨by rw [HH.out h1]; rfl, rfl⟩
      · rw [decide_eq_false h1] at C
        go_wp2_with (go_at_call 30; refine C.mono ?_; rintro e w1 ⟨rfl, rfl⟩)
        go_round
        case rel =>
          refine ⟨k + 1, by omega, by go_num, fun j hj hjk => ?_⟩
          by_cases hjk' : j < k
          · exact HNO.out j hj hjk'
          · obtain rfl : j = k := by omega
            rw [← HN.out]; exact h1
        case measure => simp [intOf]; omega
    · have hkl : k = L.length := by omega
      subst hkl
      have hr := longI_none (fun i hi => HNO.out i hi hi)
      have HR := Lib.hid hr
      clear hr h
      go_wp2
      go_ret
      exact ⟨by rw [HR.out]; rfl, rfl⟩

theorem cfV_set (c : Nat → Int) (P : Value) (k : Nat) (hk : k < 14) : (cfV c P).setIfInBounds k (part' k (c k)) = cfV c P := by
  apply Array.ext_getElem?
  intro i
  rw [Array.getElem?_setIfInBounds]
  split
  · rename_i h
    subst h
    rw [cfV_get c P k hk]
    split
    · rfl
    · rename_i h2
      exact absurd (show k < (cfV c P).size from Nat.lt_of_lt_of_le hk (by simp [cfV])) h2
  · rfl

/-- The first part that is out of its bounds. -/
def firstBad (c : Nat → Int) : Option Nat := (List.range 14).find? fun k => !inB k (c k)
theorem bad_hit (c : Nat → Int) (k : Nat) (hk : k < 14) (h : inB k (c k) = false) (h2 : ∀ j, j < k → inB j (c j) = true) : firstBad c = some k := by
  unfold firstBad
  rw [List.find?_range_eq_some]
  exact ⟨by simpa using h, by simpa using hk, fun j hj => by simpa using h2 j hj⟩
theorem bad_none (c : Nat → Int) (h2 : ∀ j, j < 14 → inB j (c j) = true) : firstBad c = none := by
  unfold firstBad
  rw [List.find?_range_eq_none]
  intro j hj
  simpa using h2 j hj
def sProg : ByteArray := ⟨#[80, 114, 111, 103, 114, 97, 109, 115]⟩
/-- What is wrong, and with which program. -/
def wrongS (c : Nat → Int) (L : List (List UInt8)) : ByteArray × Int :=
  match firstBad c with
  | some k => (cn k, -1)
  | none => if L.length < 1 ∨ 16 < L.length then (sProg, -1) else if longI L < 0 then (⟨#[]⟩, -1) else (sProg, longI L)

set_option maxRecDepth 100000 in
set_option maxHeartbeats 2000000 in
theorem wrong_is (c : Nat → Int) (A : Option Addr) (cap : Nat) (L : List (List UInt8)) (w : World) (h : PrAt w w.heap.size A L) (hl : L.length < 2 ^ 62) (hl2 : ∀ x ∈ L, x.length < 2 ^ 62) :
    Calls Try.prog 11 #[.agg (cfV c (.slice A L.length cap))] w fun e w' => e = .returned (.tuple #[.string (wrongS c L).1, .int .i64 (wrongS c L).2]) ∧ Below w.heap.size w w' := by
  have hb1 := (Below.refl w.heap.size w).alloc (Nat.le_refl _) (.cells (cfV c (.slice A L.length cap)) 25)
  have hblk : Blk (w.alloc (.cells (cfV c (.slice A L.length cap)) 25)) w.heap.size 25 (cfV c (.slice A L.length cap)) := Blk.new _ _ _
  have hsz : (w.alloc (.cells (cfV c (.slice A L.length cap)) 25)).heap.size = w.heap.size + 1 := by simp
  have C0 := bounds_is w.heap.size (w.alloc (.cells (cfV c (.slice A L.length cap)) 25)) (by rw [hsz]; omega)
  have HH := Lib.hid h
  have HL2 := Lib.hid hl2
  have HSZ := Lib.hid hsz
  clear h hl2 hsz
  go_enter Try.func11, Try.ntmps11
  go_wp2_with (go_at_call 27; refine C0.mono ?_; rintro e w1 ⟨rfl, hb2⟩)
  have hblk1 : Blk w1 w.heap.size 25 (cfV c (.slice A L.length cap)) := hblk.below (by rw [HSZ.out] at hb2; exact hb2) (Nat.lt_succ_self _)
  have hb3 : Below w.heap.size w w1 := hb1.trans (hb2.mono (by rw [HSZ.out]; omega))
  go_loopw [9] (fun i wr => ∃ k : Nat, k ≤ 14 ∧ i = .int .i64 k ∧ Blk wr w.heap.size 25 (cfV c (.slice A L.length cap)) ∧ Below w.heap.size w wr ∧ ∀ j, j < k → inB j (c j) = true) (fun i _ => 14 - (intOf i).toNat)
  case atStart => exact ⟨0, Nat.zero_le _, rfl, hblk1, hb3, fun j hj => absurd hj (by omega)⟩
  case round =>
    obtain ⟨k, hk, rfl, HB, hbw, hno⟩ := hrel
    have HNO := Lib.hid hno
    clear hno
    by_cases hlt : k < 14
    · have hk1 : (k : Int) < 14 := by omega
      have hk0 : (0 : Int) ≤ (k : Int) := by omega
      have I := fun w' => index_bnd w.heap.size w' k hlt
      have HB1 := HB.alloc (.cells (bnd w.heap.size k) 45)
      have C := within_is w.heap.size k (c k) (wr.alloc (.cells (bnd w.heap.size k) 45)) hlt ((HB1.cell k).trans (cfV_get c _ k hlt)) (HB1.frozen k)
      have hbw1 := hbw.alloc hbw.size (.cells (bnd w.heap.size k) 45)
      have hbw2 := hbw1.setCell (p := ⟨w.heap.size, k, none⟩) (Nat.le_refl _) (part' k (cl k (c k)))
      have hbw3 := hbw2.alloc hbw2.size (.cells (bnd w.heap.size k) 45)
      have HB3 := (HB1.set_ k (part' k (cl k (c k)))).alloc (.cells (bnd w.heap.size k) 45)
      have HBX : Blk (((wr.alloc (.cells (bnd w.heap.size k) 45)).setCell ⟨w.heap.size, k, none⟩ (part' k (cl k (c k)))).alloc (.cells (bnd w.heap.size k) 45)) wr.heap.size 45 (bnd w.heap.size k) := ((Blk.new wr 45 (bnd w.heap.size k)).far (p := ⟨w.heap.size, k, none⟩) (by have := HB.lt; exact fun e => by simp only at e; omega) _).alloc _
      obtain ⟨w2, hw2⟩ : ∃ w2, w2 = (((wr.alloc (.cells (bnd w.heap.size k) 45)).setCell ⟨w.heap.size, k, none⟩ (part' k (cl k (c k)))).alloc (.cells (bnd w.heap.size k) 45)) := ⟨_, rfl⟩
      rw [← hw2] at HB3 hbw3 HBX C
      clear hw2 hbw2 hbw1 HB1 HB
      have X0 : w2.cell? ⟨wr.heap.size, 0, none⟩ = some (.string (cn k)) := HBX.cell 0
      by_cases hin : inB k (c k) = true
      · rw [hin] at C
        rw [cl_in hin, cfV_set c _ k hlt] at HB3
        unfold bnd at *
        generalize (if k < 10 then 62 else 63) = ty at *
        go_wp2_with (go_at_call 28; refine C.mono ?_; rintro e w' ⟨rfl, rfl⟩)
        go_round
        case rel =>
          refine ⟨k + 1, by omega, by go_num, HB3, hbw3, fun j hj => ?_⟩
          by_cases hjk' : j < k
          · exact HNO.out j hjk'
          · obtain rfl : j = k := by omega
            exact hin
        case measure => simp [intOf]; omega
      · rw [Bool.eq_false_iff.mpr hin] at C
        unfold bnd at *
        generalize (if k < 10 then 62 else 63) = ty at *
        go_wp2_with (go_at_call 28; refine C.mono ?_; rintro e w' ⟨rfl, rfl⟩)
        go_ret2
        have hbad := bad_hit c k hlt (Bool.eq_false_iff.mpr hin) HNO.out
        exact ⟨by simp only [wrongS, hbad]; rfl, hbw3⟩
    · obtain rfl : k = 14 := by omega
      have hbad := bad_none c HNO.out
      have X0 : wr.cell? ⟨w.heap.size, 14, none⟩ = some (.slice A L.length cap) := (HB.cell 14).trans (cfV_last c _)
      have hw : wrongS c L = if L.length < 1 ∨ 16 < L.length then (sProg, -1) else if longI L < 0 then (⟨#[]⟩, -1) else (sProg, longI L) := by simp only [wrongS, hbad]
      have D := index_is w.heap.size A cap L wr (HH.out.below hbw) hl HL2.out
      clear hbad HB
      obtain ⟨n, hn⟩ : ∃ n, n = L.length := ⟨_, rfl⟩
      rw [← hn] at X0 D hw hl
      clear hn
      obtain ⟨r, hr⟩ : ∃ r, r = longI L := ⟨_, rfl⟩
      rw [← hr] at D hw
      clear hr
      have HW := Lib.hid hw
      clear hw
      by_cases h1 : n < 1
      · go_wp2_with fail
        go_ret2
        exact ⟨by rw [HW.out, if_pos (Or.inl h1)]; rfl, hbw⟩
      · by_cases h2 : 16 < n
        · go_wp2_with fail
          go_ret2
          exact ⟨by rw [HW.out, if_pos (Or.inr h2)]; rfl, hbw⟩
        · by_cases h3 : r < 0
          · go_wp2_with (go_at_call 29; refine D.mono ?_; rintro e w' ⟨rfl, rfl⟩)
            go_ret2
            exact ⟨by rw [HW.out, if_neg (by omega), if_pos h3]; rfl, hbw⟩
          · go_wp2_with (go_at_call 29; refine D.mono ?_; rintro e w' ⟨rfl, rfl⟩)
            go_ret2
            exact ⟨by rw [HW.out, if_neg (by omega), if_neg (by omega)]; rfl, hbw⟩

/-- May it be, as a number. -/
def mayN (c : Nat → Int) (L : List (List UInt8)) : Int := if 0 ≤ (wrongS c L).2 then 17 else if (wrongS c L).1 ≠ ⟨#[]⟩ then 2 else 0

theorem may_is (c : Nat → Int) (A : Option Addr) (cap : Nat) (L : List (List UInt8)) (w : World) (h : PrAt w w.heap.size A L) (hl : L.length < 2 ^ 62) (hl2 : ∀ x ∈ L, x.length < 2 ^ 62) :
    Calls Try.prog 13 #[.agg (cfV c (.slice A L.length cap))] w fun e w' => e = .returned (.int .i64 (mayN c L)) ∧ Below w.heap.size w w' := by
  have hb1 := (Below.refl w.heap.size w).alloc (Nat.le_refl _) (.cells (cfV c (.slice A L.length cap)) 25)
  have hs : w.heap.size ≤ (w.alloc (.cells (cfV c (.slice A L.length cap)) 25)).heap.size := by simp
  have C := wrong_is c A cap L (w.alloc (.cells (cfV c (.slice A L.length cap)) 25)) ((h.below hb1).more hs) hl hl2
  have hm : mayN c L = if 0 ≤ (wrongS c L).2 then 17 else if (wrongS c L).1 ≠ ⟨#[]⟩ then 2 else 0 := rfl
  generalize wrongS c L = R at C hm
  obtain ⟨s, r⟩ := R
  simp only at C hm
  have HM := Lib.hid hm
  have HS := Lib.hid hs
  clear h hl2 hm hs
  unfold cfV at *
  by_cases h1 : 0 ≤ r
  · go_enter Try.func13, Try.ntmps13
    go_wp2_with (go_at_call 11; refine C.mono ?_; rintro e w1 ⟨rfl, hb2⟩)
    go_ret
    exact ⟨by rw [HM.out, if_pos h1]; rfl, hb1.trans (hb2.mono HS.out)⟩
  · by_cases h2 : s = ⟨#[]⟩
    · subst h2
      go_enter Try.func13, Try.ntmps13
      go_wp2_with (go_at_call 11; refine C.mono ?_; rintro e w1 ⟨rfl, hb2⟩)
      go_ret
      exact ⟨by rw [HM.out, if_neg (by omega), if_neg (by simp)]; rfl, hb1.trans (hb2.mono HS.out)⟩
    · have hne : s.toList.isEmpty = false := by
        rw [ByteArray.toList_eq]
        cases hl : s.data.toList with
        | nil => exact absurd (show s = ⟨#[]⟩ from by cases s; simp at hl; rw [hl]) h2
        | cons _ _ => rfl
      go_enter Try.func13, Try.ntmps13
      go_wp2_with (go_at_call 11; refine C.mono ?_; rintro e w1 ⟨rfl, hb2⟩)
      go_ret
      exact ⟨by rw [HM.out, if_neg (by omega), if_pos h2]; rfl, hb1.trans (hb2.mono HS.out)⟩
end Go.Proofs.Ytoigapnpmhogdaa
