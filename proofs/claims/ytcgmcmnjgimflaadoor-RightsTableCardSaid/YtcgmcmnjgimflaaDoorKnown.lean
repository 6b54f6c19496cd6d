/- Narrow, Text and the chapter's rows, by walks, in the seat of the tied cards. Conditions: rights are from 0 to 255. -/
import Derived.Test.YtcgmcmnjgimflaaDoorRows
import Derived.Test.YtcgmcmnjgimflaaDoorRightsPlain
import Derived.WalkKit
import Derived.WalkSpells
import Derived.WalkLawsBesides
import Derived.Lib.OthersKept
import Derived.Lib.Strings
import Derived.Lib.Hide
import Derived.Laws.Cover4
namespace Go.Proofs.YtcgmcmnjgimflaaDoor
open Go.RowKit
set_option linter.unusedVariables false

theorem ret_bool {a b : Bool} (h : a = b) : Ending.returned (.bool a) = .returned (.bool b) := by rw [h]
theorem ret_int {k : IntKind} {a b : Int} (h : a = b) : Ending.returned (.int k a) = .returned (.int k b) := by rw [h]

set_option maxHeartbeats 400000 in
theorem narrow_yes (a b : Int) (w : World) (h1 : 0 ≤ a) (h2 : a ≤ 255) (h3 : 0 ≤ b) (h4 : b ≤ 255) (h : among b.toNat a.toNat = true) :
    Calls Tryd.prog 13 #[.int .u8 a, .int .u8 b] w fun e w' => e = .returned (.tuple #[.int .u8 b, .bool true]) ∧ w = w' := by
  have hn := narrow_ne a b h1 (by omega) h3 (by omega)
  rw [h] at hn
  go_enter Tryd.func13, Tryd.ntmps13
  go_wp2
  go_ret2
  exact ⟨rfl, rfl⟩
set_option maxHeartbeats 400000 in
theorem narrow_no (a b : Int) (w : World) (h1 : 0 ≤ a) (h2 : a ≤ 255) (h3 : 0 ≤ b) (h4 : b ≤ 255) (h : among b.toNat a.toNat = false) :
    Calls Tryd.prog 13 #[.int .u8 a, .int .u8 b] w fun e w' => e = .returned (.tuple #[.int .u8 0, .bool false]) ∧ w = w' := by
  have hn := narrow_ne a b h1 (by omega) h3 (by omega)
  rw [h] at hn
  go_enter Tryd.func13, Tryd.ntmps13
  go_wp2
  go_ret2
  exact ⟨rfl, rfl⟩
def str (l : List UInt8) : ByteArray := ⟨l.toArray⟩
def textI (r : Nat) : List Int := (textL r).map fun c => (c.toNat : Int)

theorem Tryd.info21 : (Tryd.prog.info? 21).map (fun i => (i.zero, i.size, i.bytes)) = some (some (.int .i32 0), 1, 4) := by kernel_rfl

theorem textI_len (r : Nat) : (textI r).length = 8 := by simp [textI, textL]
theorem letter_at : ∀ (k : Nat) (h : k < (⟨#[115, 119, 107, 117, 97, 100, 109, 114]⟩ : ByteArray).size), (⟨#[115, 119, 107, 117, 97, 100, 109, 114]⟩ : ByteArray)[k] = letter k
  | 0, _ | 1, _ | 2, _ | 3, _ | 4, _ | 5, _ | 6, _ | 7, _ => rfl
  | n + 8, h => absurd h (by show ¬ n + 8 < 8; omega)

def lenOf : Value → Nat
  | .slice _ n _ => n
  | _ => 0
def Ls : ByteArray := ⟨#[115, 119, 107, 117, 97, 100, 109, 114]⟩

theorem ownsRow_iter {w : World} {base : Nat} {e : TypeId} {size : Nat} {v : Value} {n : Nat} {xs : List Value} (h : w.ownsRow base e size v n xs) {k : Nat} {s : ByteArray} {p : Nat} (hk : w.heap[k]? = some (.stringIter s p)) (p' : Nat) :
    (w.iterAt k s p').ownsRow base e size v n xs := by
  refine ⟨h.1, ?_⟩
  rcases h.2 with hn | ⟨g, cap, cur, hv, hbg, hg, rest⟩
  · exact .inl hn
  · have hkg : g ≠ k := by
      intro e1
      rw [e1, hk] at hg
      cases hg
    exact .inr ⟨g, cap, cur, hv, hbg, (Lib.iterAt_other w k g s p' hkg).trans hg, rest⟩

theorem letter_small (k : Nat) (h : k < Ls.size) : (Ls[k]'h).toNat < 128 := by
  have e : Ls[k]'h = letter k := letter_at k h
  rw [e]
  have hk : k < 8 := h
  have hh : ∀ k : Fin 8, (letter k.val).toNat < 128 := by decide
  exact hh ⟨k, hk⟩
theorem shr_bit (r : Int) (k : Nat) (h1 : 0 ≤ r) (h2 : r ≤ 255) (hk : k < 8) : (bits .and .u8 (r / 2 ^ k) 1 == 0) = !bitB r.toNat k := by
  obtain ⟨n, rfl⟩ := Int.eq_ofNat_of_zero_le h1
  have h : ∀ n : Fin 256, ∀ k : Fin 8, (bits .and .u8 (((n.val / 2 ^ k.val : Nat)) : Int) 1 == 0) = !bitB n.val k.val := by decide +kernel
  have := h ⟨n, by omega⟩ ⟨k, hk⟩
  simpa using this
theorem textI_take32 (r k : Nat) (hk : k < 8) : ((textI r).take (k + 1)).map (Value.int .i32) = ((textI r).take k).map (Value.int .i32) ++ [.int .i32 ((if bitB r k then letter k else 45 : UInt8).toNat)] := by
  rw [List.take_succ_eq_append_getElem (by rw [textI_len]; exact hk), List.map_append]
  simp [textI, textL]
theorem runes_textI (r : Nat) (hr : r < 256) : runesBytes (textI r) = str (textL r) := by
  have h : ∀ n : Fin 256, (runesBytes (textI n.val)).data.toList = textL n.val := by decide +kernel
  have := h ⟨r, hr⟩
  simp only at this
  unfold str
  rw [← this]

set_option maxHeartbeats 400000 in
theorem text_any (r : Int) (w : World) (h1 : 0 ≤ r) (h2 : r ≤ 255) :
    Calls Tryd.prog 14 #[.int .u8 r] w fun e w' => e = .returned (.string (str (textL r.toNat))) ∧ Below w.heap.size w w' := by
  obtain ⟨i0, hi, hz0, hz1, hz2⟩ := info_parts Tryd.info21
  go_enter Tryd.func14, Tryd.ntmps14
  go_wp2_with (at_make; refine wpList_make_own _ rfl _ _ 49 rfl w.heap.size 21 i0 (.int .i32 0) 1 Tryd.underlying49 hi hz0 hz1 .i64 .i64 8 8 rfl rfl rfl (by omega) (by decide) (Nat.le_refl _) ?_; intro w1 hown1 hgrow1)
  have hlt0 : w.heap.size < w1.heap.size := (hown1.lt _ rfl).2
  go_loopw [3] (fun v wr => ∃ k : Nat, k ≤ 8 ∧ v = .slice (some ⟨w.heap.size, 0, none⟩) k 8 ∧ wr.ownsRow w.heap.size 21 1 (.slice (some ⟨w.heap.size, 0, none⟩) k 8) k (((textI r.toNat).take k).map (Value.int .i32)) ∧ wr.heap[w1.heap.size]? = some (.stringIter Ls k) ∧ Below w.heap.size w wr) (fun v _ => 8 - lenOf v)
  case atStart => exact ⟨0, by omega, rfl, hown1.alloc _, World.iter_heap _ _ _, (((Below.refl _ w).grown hgrow1 (Nat.le_refl _) (fun _ h => by cases h)).alloc (Nat.le_of_lt hlt0) _)⟩
  case round =>
    obtain ⟨k, hk, rfl, hown, hit, hb⟩ := hrel
    by_cases hlt : k < 8
    · have hnx0 := fun ty => Lib.run_next_ascii_at (P := Tryd.prog) wr w1.heap.size Ls k ty hit hlt (letter_small k hlt)
      have hnx : ∀ ty, (Instr.next (.pointer (some ⟨w1.heap.size, 0, none⟩)) true ty).run Tryd.prog wr = .ok (.tuple #[.bool true, .int .i64 k, .int .i32 (letter k).toNat]) (wr.iterAt w1.heap.size Ls (k + 1)) := fun ty => by rw [hnx0 ty]; unfold Ls; rw [letter_at]
      clear hnx0
      have hbit := shr_bit r k h1 h2 hlt
      have hown2 := ownsRow_iter hown hit (k + 1)
      have hit2 := Lib.iterAt_heap wr w1.heap.size Ls k (k + 1) hit
      have hb2 := Lib.below_iterAt hb (Nat.le_of_lt hlt0) Ls (k + 1)
      have ht : Hid (((textI r.toNat).take (k + 1)).map (Value.int .i32) = ((textI r.toNat).take k).map (Value.int .i32) ++ [.int .i32 ((if bitB r.toNat k then letter k else 45 : UInt8).toNat)]) := textI_take32 _ k hlt
      have hnw : Hid ((w1.heap.size : Nat) ≠ w.heap.size) := by show _ ≠ _; omega
      clear hit hown hb
      cases ha : bitB r.toNat k
      all_goals
        rw [ha] at hbit ht
        go_wp2_with (at_builtin; refine wpList_append_fits _ rfl _ _ 49 rfl w.heap.size 21 i0 1 Tryd.underlying49 hi hz1 w.heap.size k 8 _ rfl (hown2.alloc _) _ 1 1 _ rfl rfl (cell_one_new _ _ _) (by simp [Value.oneCell']) (by omega) ?_; intro w3 hown3 hgrow3)
        go_roundw
        case rel => exact ⟨k + 1, by omega, rfl, by rw [ht.out]; exact hown3, by rw [hgrow3.block _ (by have := (Array.getElem?_eq_some_iff.1 hit2).1; simp; omega) (fun e => hnw.out (Option.some.inj e))]; exact Lib.alloc_old _ _ _ (Array.getElem?_eq_some_iff.1 hit2).1 ▸ hit2, (hb2.alloc hb2.size _).grown hgrow3 (by have := hb2.size; simp; omega) (fun j hj => by cases hj; exact Nat.le_refl _)⟩
        case measure => simp [lenOf]; omega
    · have h8 : k = 8 := by omega
      subst h8
      have hnx := fun ty => Lib.run_next_end_at (P := Tryd.prog) wr w1.heap.size Ls 8 ty hit (by show ¬ 8 < 8; omega)
      have hl8 : (textI r.toNat).length = 8 := textI_len _
      rw [List.take_of_length_le (by rw [hl8]; exact Nat.le_refl _)] at hown
      have hconv := run_convert_runes (P := Tryd.prog) wr 49 9 21 ⟨w.heap.size, 0, none⟩ 8 8 (textI r.toNat) (by rw [hl8]; exact Nat.le_refl _) Tryd.underlying49 Tryd.underlying21 Tryd.underlying9 (fun j hj => by
        rw [show (⟨w.heap.size, 0, none⟩ : Addr).add j = ⟨w.heap.size, j, none⟩ from by simp only [Addr.add]; split <;> simp_all, hown.cellAt j (by omega)]
        simp [List.getD, List.getElem?_eq_getElem hj])
      rw [List.take_of_length_le (by rw [hl8]; exact Nat.le_refl _), runes_textI r.toNat (by omega)] at hconv
      clear hown hit hl8
      go_wp2
      go_ret
      exact ⟨rfl, hb⟩
theorem str_eq (l : List UInt8) (s : ByteArray) : ((str l).toList == s.toList) = (l == s.data.toList) := by
  rw [Lib.toList_data, Lib.toList_data]
  rfl
set_option maxRecDepth 100000 in
set_option maxHeartbeats 400000 in
theorem known_any (w : World) : Calls Tryd.prog 5 #[] w fun e w' => e = .returned (.bool true) ∧ Below w.heap.size w w' := by
  have hk : ((str (textL 65)).toList == [115, 45, 45, 45, 45, 45, 109, 45]) = true := by rw [Lib.toList_data]; decide +kernel
  go_enter Tryd.func5, Tryd.ntmps5
  go_wp2_with fail
  refine (narrow_yes 65 64 _ (by decide) (by decide) (by decide) (by decide) (by decide +kernel)).mono ?_
  rintro e w1 ⟨rfl, rfl⟩
  go_wp2_with fail
  refine (narrow_no 64 65 _ (by decide) (by decide) (by decide) (by decide) (by decide +kernel)).mono ?_
  rintro e w1 ⟨rfl, rfl⟩
  go_wp2_with fail
  refine (text_any 65 _ (by decide) (by decide)).mono ?_
  rintro e w1 ⟨rfl, hb⟩
  go_wp2_with fail
  go_ret
  exact ⟨rfl, hb⟩

end Go.Proofs.YtcgmcmnjgimflaaDoor
