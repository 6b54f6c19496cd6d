/- Acts in memory; the law's own few, by a walk. No condition. -/
import Derived.Test.YtdfpbbkdlalpcaaGloSame
namespace Go.Proofs.Ytdfpbbkdlalpcaa
open Go.RowKit
set_option linter.unusedVariables false
set_option linter.unusedSimpArgs false

/-- An act, and where its rows lie. -/
structure ActD where
  k : Int
  X : Option Addr
  xs : List Int
  xc : Nat
  g : Int
  p : Int
  F : Option Addr
  aff : List Nat
  fc : Nat

/-- The act's cells. -/
def ActD.vs (a : ActD) : List Value := [.int .i64 a.k, .slice a.X a.xs.length a.xc, .int .i64 a.g, .int .i64 a.p, .slice a.F a.aff.length a.fc]
/-- What the act's rows hold. -/
structure ActR (w : World) (B : Nat) (a : ActD) : Prop where
  xs : Ints w B a.X a.xs
  aff : Bytes w B a.F a.aff
  b8 : ∀ x ∈ a.aff, x < 256
  lx : a.xs.length ≤ maxLen
  la : a.aff.length ≤ maxLen
theorem ActR.below {w w' : World} {B : Nat} {a : ActD} (h : ActR w B a) (hb : Below B w w') : ActR w' B a := ⟨h.xs.below hb, h.aff.below hb, h.b8, h.lx, h.la⟩

/-- A slice of acts. -/
def Acts (w : World) (B : Nat) (A : Option Addr) (l : List ActD) : Prop :=
  (l ≠ [] → ∃ g o, A = some ⟨g, o, none⟩ ∧ g < B ∧ ∀ i (h : i < l.length) j u, (l[i]).vs[j]? = some u → w.cell? ⟨g, o + i * 5 + j, none⟩ = some u) ∧ ∀ a ∈ l, ActR w B a
theorem Acts.below {w w' : World} {B : Nat} {A : Option Addr} {l : List ActD} (h : Acts w B A l) (hb : Below B w w') : Acts w' B A l :=
  ⟨fun hne => by
    obtain ⟨g, o, e, hg, hc⟩ := h.1 hne
    exact ⟨g, o, e, hg, fun i hi j u hu => (hb.cell (p := ⟨g, o + i * 5 + j, none⟩) hg).trans (hc i hi j u hu)⟩, fun a ha => (h.2 a ha).below hb⟩

/-- Are acts few? -/
def Few (l : List ActD) (most : Nat) : Prop := l.length ≤ most ∧ ∀ i (h : i < l.length), (l[i]).aff.length ≤ 100 ∧ (l[i]).xs.length ≤ 50

set_option maxHeartbeats 1000000 in
theorem few_yes (l : List ActD) (A : Option Addr) (cap most B : Nat) (w : World) (hA : Acts w B A l) (hl : l.length ≤ maxLen) (hm : most ≤ 1000) (h : Few l most) :
    Calls Try.prog 6 #[.slice A l.length cap, .int .i64 most] w fun e w' => e = .returned (.bool true) ∧ w = w' := by
  obtain ⟨h1, h2⟩ := h
  have H2 := Lib.hid h2
  clear h2
  unfold maxLen at hl
  go_enter Try.func6, Try.ntmps6
  go_wp2
  go_loop [5] (fun v => ∃ k : Nat, k ≤ l.length ∧ v = .int .i64 k) (fun v => l.length - (intOf v).toNat)
  case atStart => exact ⟨0, Nat.zero_le _, rfl⟩
  case round =>
    obtain ⟨k, hk, rfl⟩ := hrel
    by_cases hlt : k < l.length
    · obtain ⟨g, o, rfl, hg, hc⟩ := hA.1 (fun e => by rw [e] at hlt; simp at hlt)
      have c1 := hc k hlt 1 _ rfl
      have c4 := hc k hlt 4 _ rfl
      obtain ⟨q1, q2⟩ := H2.out k hlt
      generalize l[k] = a at *
      have d1 : decide ((k : Int) ≤ (most : Int)) = true := by simp; omega
      have d2 : ¬ 100 < (a.aff.length : Int) := by omega
      have d3 : ¬ 50 < (a.xs.length : Int) := by omega
      clear hc hA
      go_wp2
      go_round
      case rel => exact ⟨k + 1, by omega, by go_num⟩
      case measure => simp [intOf]; omega
    · clear hA
      have d1 : (l.length : Int) ≤ (most : Int) := by omega
      go_wp2
      go_ret
      exact ⟨by simp, rfl⟩

set_option maxHeartbeats 1000000 in
theorem few_no (l : List ActD) (A : Option Addr) (cap most B : Nat) (w : World) (hA : Acts w B A l) (hl : l.length ≤ maxLen) (hm : most ≤ 1000) (h : ¬ Few l most) :
    Calls Try.prog 6 #[.slice A l.length cap, .int .i64 most] w fun e w' => e = .returned (.bool false) ∧ w = w' := by
  have H := Lib.hid h
  clear h
  unfold maxLen at hl
  go_enter Try.func6, Try.ntmps6
  go_wp2
  go_loop [5] (fun v => ∃ k : Nat, k ≤ l.length ∧ k ≤ most + 1 ∧ v = .int .i64 k ∧ ∀ i (h : i < l.length), i < k → (l[i]).aff.length ≤ 100 ∧ (l[i]).xs.length ≤ 50) (fun v => l.length - (intOf v).toNat)
  case atStart => exact ⟨0, Nat.zero_le _, by omega, rfl, fun i _ hi => by omega⟩
  case round =>
    obtain ⟨k, hk, hk2, rfl, hall⟩ := hrel
    have HALL := Lib.hid hall
    clear hall
    by_cases hlt : k < l.length
    · by_cases hle : k ≤ most
      · obtain ⟨g, o, rfl, hg, hc⟩ := hA.1 (fun e => by rw [e] at hlt; simp at hlt)
        have c1 := hc k hlt 1 _ rfl
        have c4 := hc k hlt 4 _ rfl
        have d1 : decide ((k : Int) ≤ (most : Int)) = true := by simp; omega
        have b1 := (hA.2 _ (List.getElem_mem hlt)).lx
        have b2 := (hA.2 _ (List.getElem_mem hlt)).la
        unfold maxLen at b1 b2
        by_cases q1 : (l[k]).aff.length ≤ 100
        · by_cases q2 : (l[k]).xs.length ≤ 50
          · have hnew := Lib.hid (show ∀ i (h : i < l.length), i < k + 1 → (l[i]).aff.length ≤ 100 ∧ (l[i]).xs.length ≤ 50 from fun i h hi => by
              by_cases hik : i < k
              · exact HALL.out i h hik
              · obtain rfl : i = k := by omega
                exact ⟨q1, q2⟩)
            generalize l[k] = a at *
            have d2 : ¬ 100 < (a.aff.length : Int) := by omega
            have d3 : ¬ 50 < (a.xs.length : Int) := by omega
            clear hc hA
            go_wp2
            go_round
            case rel => exact ⟨k + 1, by omega, by omega, by go_num, hnew.out⟩
            case measure => simp [intOf]; omega
          · generalize l[k] = a at *
            have d2 : ¬ 100 < (a.aff.length : Int) := by omega
            have d3 : 50 < (a.xs.length : Int) := by omega
            clear hc hA
            go_wp2
            go_ret
            exact ⟨rfl, rfl⟩
        · generalize l[k] = a at *
          have d2 : 100 < (a.aff.length : Int) := by omega
          clear hc hA
          go_wp2
          go_ret
          exact ⟨rfl, rfl⟩
      · have d1 : decide ((k : Int) ≤ (most : Int)) = false := by simp; omega
        have d4 : ¬ (l.length : Int) ≤ (most : Int) := by omega
        clear hA
        go_wp2
        go_ret
        exact ⟨by simp, rfl⟩
    · have d4 : ¬ l.length ≤ most := fun hle => H.out ⟨hle, fun i h => HALL.out i h (by omega)⟩
      have d5 : ¬ (l.length : Int) ≤ (most : Int) := by omega
      clear hA
      go_wp2
      go_ret
      exact ⟨by simp, rfl⟩
end Go.Proofs.Ytdfpbbkdlalpcaa
