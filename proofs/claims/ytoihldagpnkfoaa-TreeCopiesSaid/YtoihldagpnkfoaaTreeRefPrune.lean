/- Prune and Len of the reference's forest, by walks. Condition: the places stand for a forest. -/
import Derived.Test.YtoihldagpnkfoaaTreeRefDesc
namespace Go.Proofs.Ytoihldagpnkfoaa
open Go.RowKit
set_option linter.unusedVariables false
set_option linter.unusedSimpArgs false

set_option maxHeartbeats 400000 in
theorem refPrune_no {w : World} {g qb n lc : Nat} {Q : Qw} (h : QF w g qb n lc Q) (x : Int) (hx : hasQ n Q x = false) :
    Calls Try.prog 40 #[.pointer (some ⟨g, 0, none⟩), .int .i64 x] w fun e w' => e = .returned (.tuple #[.slice none 0 0, .int .i64 4]) ∧ w = w' := by
  have CH := refHas_is h x
  rw [hx] at CH
  clear h hx
  go_enter Try.func40, Try.ntmps40
  go_wp2_with (go_at_call 22; refine CH.mono ?_; rintro e w' ⟨rfl, rfl⟩)
  go_ret2
  exact ⟨rfl, rfl⟩

theorem freeL_snoc (Q : Qw) (ds : List Nat) (d : Nat) : freeL Q (ds ++ [d]) = (freeL Q ds).free d := by simp [freeL]
theorem free_blk {Q : Qw} {n x k : Nat} (h : (Q.free x).blk n k) : Q.blk n k := by
  unfold Qw.free at h
  rcases blk_put h with h | h
  · exact h
  · cases h
theorem freeL_blk {n k : Nat} : ∀ (ds : List Nat) (Q : Qw), (freeL Q ds).blk n k → Q.blk n k
  | [], Q, h => h
  | d :: ds, Q, h => free_blk (freeL_blk ds (Q.free d) h)
theorem freeL_T : ∀ (ds : List Nat) (Q : Qw), (freeL Q ds).T = Q.T + ds.length
  | [], Q => by simp [freeL]
  | d :: ds, Q => by
    have := freeL_T ds (Q.free d)
    show (freeL (Q.free d) ds).T = _
    rw [this]
    show Q.T + 1 + ds.length = _
    simp only [List.length_cons]
    omega

set_option maxRecDepth 100000 in
set_option maxHeartbeats 1000000 in
theorem refPrune_is {w : World} {g qb : Nat} {Q : Qw} {F : Fo} {T : Nat} (h : Ref w g qb Q F T) (hF : WF F) (hT : T ≤ 900000000) (x : Nat) (hx : F.there x = true) {ds : List Nat} (hfl : Flat F (F.kids (x : Int)) ds) :
    Calls Try.prog 40 #[.pointer (some ⟨g, 0, none⟩), .int .i64 x] w fun e w' => (∃ A cap, e = .returned (.tuple #[.slice A ds.length cap, .int .i64 0]) ∧ w'.ownsRow w.heap.size 3 1 (.slice A ds.length cap) ds.length (intV (nats ds))) ∧ ∃ Q', Ref w' g qb Q' (F.prune x ds) (T + F.n) ∧ (∀ k, Q'.blk F.n k → Q.blk F.n k ∨ w.heap.size ≤ k) ∧ Apart (own2 g qb) w w' := by
  obtain ⟨lc, hq⟩ := h.qf
  have CH := refHas_is hq x
  rw [has_qrep h.rep hF, show F.has (x : Int) = true by simp [Fo.has, hx]] at CH
  have CD := refDesc_is h hF x hx hfl
  have hn2 := hq.n2
  have hxn := hF.lt x hx
  have hl := desc_len hF hfl
  have hm := desc_mem hF hfl
  have hdn : ∀ d ∈ ds, d < F.n := fun d hd => hF.lt d ((hm d).1 hd).there
  have ht0 := h.t0
  have ht1 := h.t1
  have HRP := Lib.hid (qrep_prune h.rep hF hx hfl)
  have HD := Lib.hid hdn
  have HQ := Lib.hid hq
  have HFT := Lib.hid (fun k (hk : own2 g qb k) => h.lt (k := k) (.inl hk))
  clear hq h hF hm hdn hfl hx
  go_enter Try.func40, Try.ntmps40
  go_wp2_with (first | (go_at_call 22; refine CH.mono ?_; rintro e w' ⟨rfl, rfl⟩) | (go_at_call 42; refine CD.mono ?_; rintro e w1 ⟨⟨A, cap, rfl, hown⟩, hb1⟩; (have HO := Lib.hid hown); (have HB1 := Lib.hid hb1); clear hown hb1))
  go_loopw [7] (fun i wr => ∃ k : Nat, k ≤ ds.length ∧ i = .int .i64 k ∧ QF wr g qb F.n lc (freeL Q (ds.take k)) ∧ Apart (own2 g qb) w1 wr) (fun i _ => ds.length - (intOf i).toNat)
  case atStart => exact ⟨0, Nat.zero_le _, rfl, by simpa [freeL] using HQ.out.below HB1.out, Apart.refl _ _⟩
  case round =>
    obtain ⟨k, hk, rfl, hqk, hap⟩ := hrel
    have hOr : wr.ownsRow w.heap.size 3 1 (.slice A ds.length cap) ds.length (intV (nats ds)) := own_apart HO.out hap (fun b e hb => by
      have h1 := (HO.out.lt b e).1
      have h2 := HFT.out b hb
      omega)
    have HOR := Lib.hid hOr
    have HAP := Lib.hid hap
    by_cases hlt : k < ds.length
    · obtain ⟨b, rfl⟩ := own_form hOr (by omega)
      have hcell := hOr.cellAt k (by omega)
      have hsel : (intV (nats ds))[k]? = some (.int .i64 (ds[k] : Nat)) := by
        rw [intV, nats, List.getElem?_map, List.getElem?_map, List.getElem?_eq_getElem hlt]
        rfl
      rw [hsel] at hcell
      have hdk : ds[k] < F.n := HD.out _ (List.getElem_mem hlt)
      have htk : ds.take (k + 1) = ds.take k ++ [ds[k]] := List.take_succ_eq_append_getElem hlt
      have hTk := freeL_T (ds.take k) Q
      have hlk : (ds.take k).length ≤ 4096 := by rw [List.length_take]; omega
      have CG := refFree_is hqk ds[k] hdk (by omega) (by omega)
      rw [← freeL_snoc, ← htk] at CG
      generalize ds[k] = d at *
      clear hqk hOr hap hsel htk hTk hlk
      go_wp2_with (go_at_call 49; refine CG.mono ?_; rintro e w5 ⟨⟨z3, rfl⟩, q5, a5⟩; (have HF5 := Lib.hid (And.intro q5 a5)); clear q5 a5 hcell)
      go_roundw
      case rel => exact ⟨k + 1, by omega, by go_num, HF5.out.1, HAP.out.trans HF5.out.2 (fun _ _ hk => hk)⟩
      case measure => simp [intOf]; omega
    · have hkl : k = ds.length := by omega
      subst hkl
      rw [List.take_length] at hqk
      have e0 := hqk.cells.1
      have e2 := (hqk.at_ x hxn).c2
      have ef := hqk.fr (x * 4 + 2)
      have q := hqk.setK x hxn ⟨none, 0, []⟩ (Cut.nil _) (fun k hk => by cases hk)
      have HQ2 := Lib.hid q
      clear hqk hOr hap q
      generalize ((freeL Q ds).M x).row.v = rv at e2
      go_wp2
      go_ret2
      have hne : ∀ j, (Value.slice A ds.length cap).ownBlock = some j → j ≠ qb := fun j e e2 => by
        have h1 := (HO.out.lt j e).1
        have h2 := HFT.out j (.inr e2)
        omega
      refine ⟨⟨A, cap, rfl, own_apart HOR.out ((Apart.refl (fun k => k = qb) wr).setCell (p := ⟨qb, x * 4 + 2, none⟩) (.inl rfl) _) (fun j e => hne j e)⟩, _, ⟨⟨lc, HQ2.out⟩, HRP.out, ?_, ?_⟩, fun k hk => ?_, ?_⟩
      · have := freeL_T ds Q
        show 0 ≤ (freeL Q ds).T
        omega
      · have := freeL_T ds Q
        show (freeL Q ds).T ≤ _
        rw [this]
        simp only [Int.natCast_add]
        omega
      · unfold Qw.setK at hk
        rcases blk_put hk with hk | hk
        · exact .inl (freeL_blk ds Q hk)
        · cases hk
      · exact ((Apart.of_below HB1.out).trans HAP.out (fun j _ hj => hj)).setCell (p := ⟨qb, x * 4 + 2, none⟩) (.inl (.inr rfl)) _

/-- How many are there. -/
def cnt (F : Fo) : Nat → Nat
  | 0 => 0
  | k + 1 => cnt F k + (if F.there k = true then 1 else 0)
theorem cnt_le (F : Fo) : ∀ k, cnt F k ≤ k
  | 0 => Nat.le_refl _
  | k + 1 => by
    have := cnt_le F k
    unfold cnt
    split <;> omega
theorem cnt_filter (F : Fo) : ∀ k, cnt F k = ((List.range k).filter F.there).length
  | 0 => rfl
  | k + 1 => by
    rw [cnt, cnt_filter F k, List.range_succ, List.filter_append, List.length_append]
    by_cases h : F.there k = true <;> simp [h]
theorem filter_split (p : Nat → Bool) : ∀ L : List Nat, (L.filter p).length + (L.filter (fun i => !p i)).length = L.length
  | [] => rfl
  | x :: L => by
    have := filter_split p L
    by_cases h : p x = true <;> simp [h] <;> omega
theorem nodup_sub : ∀ (A B : List Nat), A.Nodup → (∀ i ∈ A, i ∈ B) → A.length ≤ B.length
  | [], B, _, _ => Nat.zero_le _
  | x :: A, B, hn, h => by
    rw [List.nodup_cons] at hn
    have hx := h x (by simp)
    have h1 := nodup_sub A (B.erase x) hn.2 (fun i hi => by
      have h2 := h i (by simp [hi])
      have h3 : i ≠ x := fun e => hn.1 (e ▸ hi)
      exact (List.mem_erase_of_ne h3).2 h2)
    have h4 := List.length_erase_of_mem hx
    have h5 : 0 < B.length := List.length_pos_of_mem hx
    simp only [List.length_cons]
    omega
theorem cnt_free {F : Fo} (hF : WF F) : cnt F F.n = F.n - F.free.length := by
  have h1 := filter_split F.there (List.range F.n)
  rw [← cnt_filter, List.length_range] at h1
  have h2 := nodup_sub F.free ((List.range F.n).filter (fun i => !F.there i)) hF.fnd (fun i hi => by
    have := (hF.fr i).1 hi
    simp [this.1, this.2])
  have h3 := nodup_sub ((List.range F.n).filter (fun i => !F.there i)) F.free (List.Pairwise.filter _ List.nodup_range) (fun i hi => by
    simp at hi
    exact (hF.fr i).2 hi)
  omega

set_option maxRecDepth 100000 in
set_option maxHeartbeats 1000000 in
theorem refLen_is {w : World} {g qb : Nat} {Q : Qw} {F : Fo} {T : Nat} (h : Ref w g qb Q F T) (hF : WF F) :
    Calls Try.prog 41 #[.pointer (some ⟨g, 0, none⟩)] w fun e w' => e = .returned (.int .i64 ((F.n - F.free.length : Nat) : Int)) ∧ w = w' := by
  rw [← cnt_free hF]
  obtain ⟨lc, hq⟩ := h.qf
  have hn2 := hq.n2
  have c0 := hq.cells.1
  have hrt := h.rep.t
  have HR := Lib.hid hrt
  have HQ := Lib.hid hq
  clear hq h hF hrt
  go_enter Try.func41, Try.ntmps41
  go_wp2
  go_loopw [3, 4] (fun n i wr => ∃ k : Nat, k ≤ F.n ∧ i = .int .i64 k ∧ n = .int .i64 (cnt F k) ∧ wr = w) (fun _ i _ => F.n - (intOf i).toNat)
  case atStart => exact ⟨0, Nat.zero_le _, rfl, rfl, rfl⟩
  case round =>
    obtain ⟨k, hk, rfl, rfl, rfl⟩ := hrel
    by_cases hlt : k < F.n
    · have d0 := (HQ.out.at_ k hlt).c0
      rw [HR.out k hlt] at d0
      have hck := cnt_le F k
      have hs : cnt F (k + 1) = cnt F k + (if F.there k = true then 1 else 0) := rfl
      have HS := Lib.hid hs
      clear hs
      generalize cnt F k = z at *
      cases ht : F.there k
      · rw [ht] at d0 HS
        have hs : cnt F (k + 1) = z := by simpa using HS.out
        have HS2 := Lib.hid hs
        clear ht hs HS
        go_wp2
        go_roundw
        case rel => exact ⟨k + 1, by omega, by go_num, by rw [HS2.out], trivial⟩
        case measure => simp [intOf]; omega
      · rw [ht] at d0 HS
        have hs : cnt F (k + 1) = z + 1 := by simpa using HS.out
        have HS2 := Lib.hid hs
        clear ht hs HS
        go_wp2
        go_roundw
        case rel => exact ⟨k + 1, by omega, by go_num, by rw [HS2.out]; go_num, trivial⟩
        case measure => simp [intOf]; omega
    · have hkl : k = F.n := by omega
      subst hkl
      go_wp2
      go_ret
      exact ⟨rfl, rfl⟩
end Go.Proofs.Ytoihldagpnkfoaa
