/- code.line and code.Text of a row of bytes, joined with the library's Itoa and String; the chapter's row. -/
import Derived.Test.YtnbkpminecoddaaDoorCodeTextW
import Derived.Test.YtnbkpminecoddaaDoorCodeNumT
import Derived.Test.YtnbkpminecoddaaDoorShelf
import Derived.Lib.AppendIntMem
namespace Go.Proofs.YtnbkpminecoddaaDoor
open Go.RowKit
set_option linter.unusedVariables false
set_option linter.unusedSimpArgs false

/-- The library's table of powers. -/
def Tab (w : World) : Prop := Lib.TabBelow Tryd.prog w.heap.size w "internal/strconv.uint64pow10" .u64 Lib.pow10Tab
theorem Tab.below {B : Nat} {w w' : World} (h : Tab w) (hb : Below w.heap.size w w') : Tab w' := fun w2 h2 => h w2 (hb.trans (h2.mono hb.size))
/-- The bytes' numbers. -/
def dOf (l : List UInt8) (i : Nat) : Int := ((l.getD i 0).toNat : Int)
theorem dOf_bd (l : List UInt8) (i : Nat) : 0 ≤ dOf l i ∧ dOf l i < 256 := by
  unfold dOf
  have := (l.getD i 0).toNat_lt
  omega
theorem itoa_is (z : Int) (hz : z.natAbs < 1000000) (w : World) (ht : Tab w) : Calls Tryd.prog 38 #[.int .i64 z] w fun e w' => e = .returned (.string (tI z)) ∧ Below w.heap.size w w' := by
  refine (Tryd.strconv_Itoa z (by omega) (by omega) w ht.here).mono fun e w' ⟨he, k, os, hw⟩ => ?_
  subst hw
  exact ⟨by rw [he]; unfold tI; rw [numT_itoa hz], Lib.below_grow _ w (Nat.le_refl _) k os⟩
/-- The line of an instruction, if it has one. -/
def lineO (n : Nat) (D : Nat → Int) (i : Nat) : Option ByteArray :=
  if (decR n D i).e = 0 ∧ plF (decR n D i).a (decR n D i).b (decR n D i).c (argsOf (decR n D i).k) (argsOf (decR n D i).k).size = ((decR n D i).a, (decR n D i).b, (decR n D i).c) then some (lineS tI (decR n D i).k (decR n D i).a (decR n D i).b (decR n D i).c) else none
theorem decR_bd {n : Nat} {D : Nat → Int} (hD : ∀ i, 0 ≤ D i ∧ D i < 256) (pc : Int) : ((decR n D pc).e = 0 ∨ (decR n D pc).e = 4 ∨ (decR n D pc).e = 7) ∧ (0 ≤ (decR n D pc).k ∧ (decR n D pc).k < 256) ∧ (0 ≤ (decR n D pc).a ∧ (decR n D pc).a < 256) ∧ (0 ≤ (decR n D pc).b ∧ (decR n D pc).b < 256) ∧ (0 ≤ (decR n D pc).c ∧ (decR n D pc).c < 256) := by
  unfold decR
  dsimp only
  repeat' split
  · exact ⟨.inr (.inl rfl), ⟨by decide, by decide⟩, ⟨by decide, by decide⟩, ⟨by decide, by decide⟩, by decide, by decide⟩
  · exact ⟨.inr (.inr rfl), ⟨by decide, by decide⟩, ⟨by decide, by decide⟩, ⟨by decide, by decide⟩, by decide, by decide⟩
  · exact ⟨.inr (.inr rfl), ⟨by decide, by decide⟩, ⟨by decide, by decide⟩, ⟨by decide, by decide⟩, by decide, by decide⟩
  · exact ⟨.inr (.inr rfl), ⟨by decide, by decide⟩, ⟨by decide, by decide⟩, ⟨by decide, by decide⟩, by decide, by decide⟩
  · exact ⟨.inl rfl, hD _, hD _, hD _, hD _⟩
theorem line_is (A : Option Addr) (n cap : Nat) (D : Nat → Int) (hD : ∀ i, 0 ≤ D i ∧ D i < 256) (pc : Nat) (w : World) (h : CodeAt w (.slice A n cap) n D) (ht : Tab w) :
    Calls Tryd.prog 24 #[.slice A n cap, .int .i64 pc] w fun e w' => e = .returned (.tuple #[.string ((lineO n D pc).getD ⟨#[]⟩), .bool (lineO n D pc).isSome]) ∧ Below w.heap.size w w' := by
  have DC := decode_is _ n D pc w h
  obtain ⟨he, hk, ha, hb, hc⟩ := decR_bd (n := n) hD (pc : Int)
  unfold lineO
  generalize decR n D (pc : Int) = d at *
  obtain ⟨k, a, b, c, e⟩ := d
  simp only [Dec.v] at *
  by_cases h0 : e = 0
  · subst h0
    by_cases hx : plF a b c (argsOf k) (argsOf k).size = (a, b, c)
    · rw [if_pos ⟨rfl, hx⟩]
      exact line_good A n cap pc k a b c w hk.1 DC hx tI tI_size (fun q w' hb' => itoa_is _ (by have := valL_small hk ha hb hc q; omega) w' (ht.below (B := 0) hb'))
    · rw [if_neg (fun h => hx h.2)]
      exact line_not A n cap pc k a b c w hk.1 DC hx
  · rw [if_neg (fun h => h0 h.1)]
    exact line_bad A n cap pc k a b c e w hk.1 (he.resolve_left h0) DC
theorem lineO_size (n : Nat) (D : Nat → Int) (i : Nat) (t : ByteArray) (h : lineO n D i = some t) : t.size ≤ 1000 := by
  unfold lineO at h
  split at h
  · cases h
    have h1 := lineT_size tI tI_size (decR n D i).k (decR n D i).a (decR n D i).b (decR n D i).c (argsOf (decR n D i).k) _ (Nat.le_refl _)
    have h2 := args_size (decR n D i).k
    unfold lineS
    omega
  · cases h
/-- A program's text. -/
def textL (l : List UInt8) : List UInt8 := textS (lineO l.length (dOf l)) l ((l.length + 3) / 4)
theorem rowS_size (n : Nat) (l : List UInt8) (i : Nat) : (rowS (lineO n (dOf l)) l i).size ≤ 1000 := by
  unfold rowS
  split
  · rename_i t h; exact lineO_size _ _ _ _ h
  · rw [strOfNums_size, rawI_len]
    have : ((l.drop (4 * i)).take 4).length ≤ 4 := by simp; omega
    omega
set_option maxRecDepth 100000 in
set_option maxHeartbeats 1000000 in
theorem text_nil (A : Option Addr) (cap : Nat) (w : World) :
    Calls Tryd.prog 18 #[.slice A 0 cap] w fun e w' => e = .returned (.string ⟨#[]⟩) ∧ Below w.heap.size w w' := by
  have ST := Tryd.Builder_String_any w.heap.size w.heap.size [] _ (builder_new w) (by simp)
  go_enter Tryd.func18, Tryd.ntmps18
  go_wp2_with fail
  go_loopw [4] (fun v wr => v = .int .i64 0 ∧ wr = w.alloc (.cells #[.pointer none, .slice none 0 0] 54)) (fun v wr => 0)
  case atStart => exact ⟨rfl, rfl⟩
  case round =>
    obtain ⟨rfl, rfl⟩ := hrel
    go_wp2_with (first | (go_at_call 27; refine ST.mono ?_; rintro e w2 ⟨rfl, hb2⟩))
    go_ret
    exact ⟨rfl, ((Below.refl w.heap.size w).alloc (Nat.le_refl _) _).trans hb2⟩
/-- A row of bytes in memory. -/
def BytesAt (w : World) (A : Option Addr) (l : List UInt8) (cap : Nat) : Prop :=
  l.length ≤ cap ∧ (l = [] ∨ ∃ g o, A = some ⟨g, o, none⟩ ∧ g < w.heap.size ∧ ∀ i (hi : i < l.length), w.cell? ⟨g, o + i, none⟩ = some (.int .u8 ((l[i]'hi).toNat : Int)))
theorem BytesAt.code {w : World} {A : Option Addr} {l : List UInt8} {cap : Nat} (h : BytesAt w A l cap) (hn : l.length < 1000000000) : CodeAt w (.slice A l.length cap) l.length (dOf l) := by
  refine ⟨hn, fun i => (dOf_bd l i).1, A, cap, rfl, h.1, fun h0 => ?_⟩
  rcases h.2 with rfl | ⟨g, o, rfl, hg, hc⟩
  · simp at h0
  · refine ⟨g, o, rfl, hg, fun i hi => ?_⟩
    rw [hc i hi]
    unfold dOf
    rw [List.getD_eq_getElem?_getD, List.getElem?_eq_getElem hi]
    rfl
theorem BytesAt.below {w w' : World} {A : Option Addr} {l : List UInt8} {cap : Nat} (h : BytesAt w A l cap) (hb : Below w.heap.size w w') : BytesAt w' A l cap := by
  refine ⟨h.1, h.2.imp id ?_⟩
  rintro ⟨g, o, rfl, hg, hc⟩
  exact ⟨g, o, rfl, Nat.lt_of_lt_of_le hg hb.size, fun i hi => (hb.cell (p := ⟨g, o + i, none⟩) hg).trans (hc i hi)⟩
theorem text_any (A : Option Addr) (l : List UInt8) (cap : Nat) (h4 : l.length ≤ 100000) (w : World) (h : BytesAt w A l cap) (ht : Tab w) :
    Calls Tryd.prog 18 #[.slice A l.length cap] w fun e w' => e = .returned (.string ⟨(textL l).toArray⟩) ∧ Below w.heap.size w w' := by
  by_cases hl : l = []
  · subst hl
    exact text_nil A cap w
  · obtain ⟨g, o, rfl, hg, hc⟩ := h.2.resolve_left hl
    have hcode := h.code (by omega)
    exact text_is g o cap l h4 h.1 (lineO l.length (dOf l)) (rowS_size _ l) w hg hc
      (fun i w' hi hb => line_is _ _ _ _ (dOf_bd l) i w' (hcode.below (B := 0) hb) (ht.below (B := 0) hb))
      (fun B b L w' h1 h2 => Tryd.Builder_String_any B b L w' h1 h2)
end Go.Proofs.YtnbkpminecoddaaDoor
