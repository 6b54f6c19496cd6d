/- The chapter's rows (known), by a walk: true. -/
import Derived.Test.YtoihldagpnkfoaaTreePrg
import Derived.Test.YtoihldagpnkfoaaTreeInts
namespace Go.Proofs.Ytoihldagpnkfoaa
open Go.RowKit
set_option linter.unusedVariables false
set_option linter.unusedSimpArgs false

/-- A forest of the call's own. -/
structure Kn (W w : World) (f lb : Nat) (v : Value) (F : Fo) : Prop where
  prg : Prg w f lb v F
  lo : ∀ k, own3 f lb v k → W.heap.size ≤ k
  bel : Below W.heap.size W w
theorem Kn.step {W w w' : World} {f lb : Nat} {v v' : Value} {F F' : Fo} (h : Kn W w f lb v F) (hp : Prg w' f lb v' F') (hf : Fresh w v v') (ha : Apart (own3 f lb v) w w') : Kn W w' f lb v' F' :=
  ⟨hp, fun k hk => by
    rcases hk with e | e | e
    · exact h.lo k (.inl e)
    · exact h.lo k (.inr (.inl e))
    · rcases hf k e with e | e
      · exact h.lo k (.inr (.inr e))
      · exact Nat.le_trans h.bel.size e, h.bel.trans (ha.below h.bel.size h.lo)⟩
theorem Kn.below {W w w' : World} {f lb : Nat} {v : Value} {F : Fo} (h : Kn W w f lb v F) (hb : Below w.heap.size w w') : Kn W w' f lb v F := ⟨h.prg.below hb, h.lo, h.bel.trans (hb.mono h.bel.size)⟩
theorem kn_add {W w : World} {f lb : Nat} {v : Value} {F : Fo} (h : Kn W w f lb v F) {x : Nat} (hx : F.free.getLast? = some x) (p : Int) (hp : 0 ≤ p → F.has p = true) :
    Calls Try.prog 11 #[.pointer (some ⟨f, 0, none⟩), .int .i64 p] w fun e w' => e = .returned (.tuple #[.int .i64 x, .int .i64 0]) ∧ ∃ v', Kn W w' f lb v' (F.add (norm p) x) :=
  (prg_add h.prg hx p hp).mono fun e w' ⟨he, v', h1, h2, h3⟩ => ⟨he, v', h.step h1 h2 h3⟩
theorem kn_drop {W w : World} {f lb : Nat} {v : Value} {F : Fo} (h : Kn W w f lb v F) (x : Nat) (hx : F.there x = true) :
    Calls Try.prog 21 #[.pointer (some ⟨f, 0, none⟩), .int .i64 x] w fun e w' => e = .returned (.int .i64 0) ∧ ∃ v', Kn W w' f lb v' (F.drop x) :=
  (drop_is h.prg x hx).mono fun e w' ⟨he, v', h1, h2, h3⟩ => ⟨he, v', h.step h1 h2 h3⟩
/-- A row of whole numbers that lies in memory, whatever comes. -/
def Lies (w : World) (A : Option Addr) (K : List Nat) : Prop := Ints w w.heap.size A (nats K)
theorem Lies.below {w w' : World} {A : Option Addr} {K : List Nat} (h : Lies w A K) (hb : Below w.heap.size w w') : Lies w' A K := (Reads.below h hb).more hb.size
theorem lies_own {w w' : World} {A : Option Addr} {cap : Nat} {K : List Nat} (h : w'.ownsRow w.heap.size 3 1 (.slice A K.length cap) K.length (intV (nats K))) : Lies w' A K := by
  unfold Lies Ints
  rw [nats_len]
  exact Reads.of_own h
theorem kn_row {W w : World} {f lb : Nat} {v : Value} {F : Fo} {K : List Nat} {fn : FuncId} {args : Array Value} (h : Kn W w f lb v F) (hc : Calls Try.prog fn args w (RowPost w K)) :
    Calls Try.prog fn args w fun e w' => (∃ A cap, e = .returned (.slice A K.length cap) ∧ Lies w' A K) ∧ Kn W w' f lb v F ∧ Below w.heap.size w w' :=
  hc.mono fun e w' ⟨⟨A, cap, he, ho⟩, hb⟩ => ⟨⟨A, cap, he, lies_own ho⟩, h.below hb, hb⟩
theorem lies_lit (w : World) (K : List Nat) (cs : Array Value) (hcs : cs.toList = intV (nats K)) : Lies (w.alloc (.cells cs 3)) (some ⟨w.heap.size, 0, none⟩) K := by
  refine ⟨by rw [intV_len, Nat.mul_one], fun _ => ⟨_, rfl, by simp, fun j u hu => ?_⟩⟩
  have hadd : (⟨w.heap.size, 0, none⟩ : Addr).add j = ⟨w.heap.size, j, none⟩ := by unfold Addr.add; split <;> simp_all
  rw [hadd, (Blk.new w 3 cs).cell j, ← Array.getElem?_toList, hcs]
  exact hu
theorem lies_ints {w : World} {A A' : Option Addr} {K K' : List Nat} (c c' : Nat) (h : Lies w A K) (h' : Lies w A' K') (hl : K.length ≤ 100000) (hl' : K'.length ≤ 100000) :
    Calls Try.prog 26 #[.slice A K.length c, .slice A' K'.length c'] w fun e w' => e = .returned (.bool (decide (K = K'))) ∧ ∃ m, w' = w.drewN m := by
  have := ints_is A A' c c' w.heap.size w.heap.size (nats K) (nats K') w h h' (by rw [nats_len]; exact hl) (by rw [nats_len]; exact hl')
  rw [nats_len, nats_len] at this
  refine this.mono fun e w' ⟨he, hw⟩ => ⟨?_, hw⟩
  rw [he]
  congr 2
  apply decide_eq_decide.2
  constructor
  · intro h
    have inj : ∀ (a b : List Nat), nats a = nats b → a = b := by
      intro a
      induction a with
      | nil => intro b h; cases b with
        | nil => rfl
        | cons y b => simp [nats] at h
      | cons x a ih => intro b h; cases b with
        | nil => simp [nats] at h
        | cons y b =>
          simp [nats] at h
          have h2 := ih b (by simp [nats]; exact h.2)
          have h3 : x = y := by have := h.1; omega
          rw [h3, h2]
    exact inj _ _ h
  · intro h; rw [h]

theorem lies_apart {S : Nat → Prop} {w w' : World} {A : Option Addr} {K : List Nat} (h : Lies w A K) (ha : Apart S w w') (hS : ∀ ad, A = some ad → ¬ S ad.block) : Lies w' A K := by
  refine ⟨h.1, fun hn => ?_⟩
  obtain ⟨ad, e, hb, hc⟩ := h.2 hn
  refine ⟨ad, e, Nat.lt_of_lt_of_le hb ha.size, fun j u hu => ?_⟩
  have h1 := ha.block ad.block hb (hS ad e)
  have h2 : w'.cell? (ad.add j) = w.cell? (ad.add j) := World.cell?_of_block (w := w) (a := ad.add j) (by rw [block_of_add]; exact h1)
  exact h2.trans (hc j u hu)

/-- A row that lies apart from the forest. -/
def LiesP (w : World) (f lb : Nat) (v : Value) (A : Option Addr) (K : List Nat) : Prop := ∃ ad, A = some ad ∧ ad.block < w.heap.size ∧ ¬ own3 f lb v ad.block ∧ Lies w A K
theorem LiesP.step {w w' : World} {f lb : Nat} {v v' : Value} {A : Option Addr} {K : List Nat} (h : LiesP w f lb v A K) (hf : Fresh w v v') (ha : Apart (own3 f lb v) w w') : LiesP w' f lb v' A K := by
  obtain ⟨ad, rfl, h1, h2, h3⟩ := h
  refine ⟨ad, rfl, Nat.lt_of_lt_of_le h1 ha.size, fun hk => ?_, lies_apart h3 ha fun ad' e => by injection e with e; subst e; exact h2⟩
  rcases hk with e | e | e
  · exact h2 (.inl e)
  · exact h2 (.inr (.inl e))
  · rcases hf _ e with e | e
    · exact h2 (.inr (.inr e))
    · omega
theorem LiesP.lies {w : World} {f lb : Nat} {v : Value} {A : Option Addr} {K : List Nat} (h : LiesP w f lb v A K) : Lies w A K := by
  obtain ⟨_, _, _, _, h3⟩ := h
  exact h3
theorem liesP_own {w w' : World} {f lb : Nat} {v v' : Value} {F : Fo} {A : Option Addr} {cap : Nat} {K : List Nat} (hp : Prg w f lb v F) (hk : 0 < K.length) (h : w'.ownsRow w.heap.size 3 1 (.slice A K.length cap) K.length (intV (nats K)))
    (hv : ∀ k, (Value.slice A K.length cap).ownBlock = some k → v'.ownBlock ≠ some k) : LiesP w' f lb v' A K := by
  obtain ⟨b, rfl⟩ := own_form h hk
  have hl := h.lt b rfl
  refine ⟨_, rfl, hl.2, fun e => ?_, lies_own h⟩
  rcases e with e | e | e
  · have := own3_lt hp (k := f) (.inl rfl); simp only at e; omega
  · have := own3_lt hp (k := lb) (.inr (.inl rfl)); simp only at e; omega
  · exact hv b rfl e
theorem kn_row' {W w : World} {f lb : Nat} {v : Value} {F : Fo} {K : List Nat} {fn : FuncId} {args : Array Value} (h : Kn W w f lb v F) (hk : 0 < K.length) (hc : Calls Try.prog fn args w (RowPost w K)) :
    Calls Try.prog fn args w fun e w' => (∃ A cap, e = .returned (.slice A K.length cap) ∧ LiesP w' f lb v A K) ∧ Kn W w' f lb v F :=
  hc.mono fun e w' ⟨⟨A, cap, he, ho⟩, hb⟩ => ⟨⟨A, cap, he, liesP_own h.prg hk ho fun k e e2 => by
    have h1 := (ho.lt k e).1
    have h2 := own3_lt h.prg (k := k) (.inr (.inr e2))
    omega⟩, h.below hb⟩
theorem kn_prune' {W w : World} {f lb : Nat} {v : Value} {F : Fo} {A0 : Option Addr} {K0 : List Nat} (h : Kn W w f lb v F) (hl : LiesP w f lb v A0 K0) (x : Nat) (hx : F.there x = true) {ds : List Nat} (hfl : Flat F (F.kids (x : Int)) ds) (hd : 0 < ds.length) :
    Calls Try.prog 14 #[.pointer (some ⟨f, 0, none⟩), .int .i64 x] w fun e w' => ∃ A cap, e = .returned (.tuple #[.slice A ds.length cap, .int .i64 0]) ∧ ∃ v', Kn W w' f lb v' (F.prune x ds) ∧ LiesP w' f lb v' A ds ∧ LiesP w' f lb v' A0 K0 :=
  (prune_is h.prg x hx hfl).mono fun e w' ⟨A, cap, he, ho, v', h1, h2, h3, h4⟩ => ⟨A, cap, he, v', h.step h1 h2 h3, liesP_own h.prg hd ho h4, hl.step h2 h3⟩
theorem kn_add' {W w : World} {f lb : Nat} {v : Value} {F : Fo} {A A0 : Option Addr} {K K0 : List Nat} (h : Kn W w f lb v F) (hl : LiesP w f lb v A K) (hl0 : LiesP w f lb v A0 K0) {x : Nat} (hx : F.free.getLast? = some x) (p : Int) (hp : 0 ≤ p → F.has p = true) :
    Calls Try.prog 11 #[.pointer (some ⟨f, 0, none⟩), .int .i64 p] w fun e w' => e = .returned (.tuple #[.int .i64 x, .int .i64 0]) ∧ Lies w' A K ∧ Lies w' A0 K0 ∧ Below W.heap.size W w' :=
  (prg_add h.prg hx p hp).mono fun e w' ⟨he, v', h1, h2, h3⟩ => ⟨he, (hl.step h2 h3).lies, (hl0.step h2 h3).lies, (h.step h1 h2 h3).bel⟩

def G0 : Fo := chain 5 0
def G1 : Fo := G0.add (-1) 0
def G2 : Fo := G1.add 0 1
def G3 : Fo := G2.add 0 2
def G4 : Fo := G3.add 1 3
def G5 : Fo := G4.drop 1
def G6 : Fo := G5.prune 0 [2, 3]
theorem g4_flat : Flat G4 (G4.kids ((0 : Nat) : Int)) [2, 1, 3] := by
  rw [show G4.kids ((0 : Nat) : Int) = [2, 1] from rfl]
  have h2 : Flat G4 (G4.kids ((2 : Nat) : Int)) [] := by rw [show G4.kids ((2 : Nat) : Int) = [] from rfl]; exact .nil
  have h3 : Flat G4 (G4.kids ((3 : Nat) : Int)) [] := by rw [show G4.kids ((3 : Nat) : Int) = [] from rfl]; exact .nil
  have h1 : Flat G4 (G4.kids ((1 : Nat) : Int)) [3] := by rw [show G4.kids ((1 : Nat) : Int) = [3] from rfl]; exact .cons h3 .nil
  exact .cons h2 (.cons h1 .nil)
theorem g5_flat : Flat G5 (G5.kids ((0 : Nat) : Int)) [2, 3] := by
  rw [show G5.kids ((0 : Nat) : Int) = [2, 3] from rfl]
  have h2 : Flat G5 (G5.kids ((2 : Nat) : Int)) [] := by rw [show G5.kids ((2 : Nat) : Int) = [] from rfl]; exact .nil
  have h3 : Flat G5 (G5.kids ((3 : Nat) : Int)) [] := by rw [show G5.kids ((3 : Nat) : Int) = [] from rfl]; exact .nil
  exact .cons h2 (.cons h3 .nil)

set_option maxRecDepth 100000 in
set_option maxHeartbeats 4000000 in
theorem known_is (W : World) : Calls Try.prog 9 #[] W fun e w' => e = .returned (.bool true) ∧ Below W.heap.size W w' := by
  go_enter Try.func9, Try.ntmps9
  go_wp2_with fail
  refine (new_is 5 W (by omega) (by omega)).mono ?_
  rintro e w0 ⟨f, lb, v0, rfl, h1, h2, h3⟩
  have HK : Hid (Kn W w0 f lb v0 G0) := Lib.hid ⟨h1, h2, h3⟩
  clear h1 h2 h3
  go_wp2_with fail
  refine (kn_add HK.out (x := 0) rfl (-1) (by omega)).mono ?_
  rintro e w1 ⟨rfl, v1, h1⟩
  have HK1 : Hid (Kn W w1 f lb v1 G1) := Lib.hid h1
  clear h1 HK
  go_wp2_with fail
  refine (kn_add HK1.out (x := 1) rfl 0 (fun _ => rfl)).mono ?_
  rintro e w2 ⟨rfl, v2, h1⟩
  have HK2 : Hid (Kn W w2 f lb v2 G2) := Lib.hid h1
  clear h1 HK1
  go_wp2_with fail
  refine (kn_add HK2.out (x := 2) rfl 0 (fun _ => rfl)).mono ?_
  rintro e w3 ⟨rfl, v3, h1⟩
  have HK3 : Hid (Kn W w3 f lb v3 G3) := Lib.hid h1
  clear h1 HK2
  go_wp2_with fail
  refine (kn_add HK3.out (x := 3) rfl 1 (fun _ => rfl)).mono ?_
  rintro e w4 ⟨rfl, v4, h1⟩
  have HK4 : Hid (Kn W w4 f lb v4 G4) := Lib.hid h1
  clear h1 HK3
  go_wp2_with fail
  refine (kn_row (K := [2, 1]) HK4.out (prg_children HK4.out.prg 0 rfl)).mono ?_
  rintro e w5 ⟨⟨A5, c5, rfl, hr5⟩, h1, -⟩
  have HK5 := Lib.hid h1
  have HR5 := Lib.hid (hr5.below ((Below.refl _ w5).alloc (Nat.le_refl _) (.cells #[.int .i64 2, .int .i64 1] 3)))
  clear h1 HK4 hr5
  go_wp2_with fail
  refine (lies_ints (K := [2, 1]) (K' := [2, 1]) c5 2 HR5.out (lies_lit w5 [2, 1] _ rfl) (by decide) (by decide)).mono ?_
  rintro e w6 ⟨rfl, m6, rfl⟩
  have HK6 := Lib.hid (HK5.out.below (((Below.refl _ w5).alloc (Nat.le_refl _) (.cells #[.int .i64 2, .int .i64 1] 3)).trans (below_drewN _ _ m6)))
  clear HK5 HR5
  generalize (w5.alloc (.cells #[.int .i64 2, .int .i64 1] 3)).drewN m6 = w6 at *
  go_wp2_with fail
  refine (kn_row (K := [2, 1, 3]) HK6.out (prg_desc HK6.out.prg 0 rfl g4_flat)).mono ?_
  rintro e w7 ⟨⟨A7, c7, rfl, hr7⟩, h1, -⟩
  have HK7 := Lib.hid h1
  have HR7 := Lib.hid (hr7.below ((Below.refl _ w7).alloc (Nat.le_refl _) (.cells #[.int .i64 2, .int .i64 1, .int .i64 3] 3)))
  clear h1 HK6 hr7
  go_wp2_with fail
  refine (lies_ints (K := [2, 1, 3]) (K' := [2, 1, 3]) c7 3 HR7.out (lies_lit w7 [2, 1, 3] _ rfl) (by decide) (by decide)).mono ?_
  rintro e w8 ⟨rfl, m8, rfl⟩
  have HK8 := Lib.hid (HK7.out.below (((Below.refl _ w7).alloc (Nat.le_refl _) (.cells #[.int .i64 2, .int .i64 1, .int .i64 3] 3)).trans (below_drewN _ _ m8)))
  clear HK7 HR7
  generalize (w7.alloc (.cells #[.int .i64 2, .int .i64 1, .int .i64 3] 3)).drewN m8 = w8 at *
  go_wp2_with fail
  refine (kn_drop HK8.out 1 rfl).mono ?_
  rintro e w9 ⟨rfl, v9, h1⟩
  have HK9 : Hid (Kn W w9 f lb v9 G5) := Lib.hid h1
  clear h1 HK8
  go_wp2_with fail
  refine (kn_row' (K := [2, 3]) HK9.out (by decide) (prg_children HK9.out.prg 0 rfl)).mono ?_
  rintro e w10 ⟨⟨A10, c10, rfl, hr10⟩, h1⟩
  have HK10 := Lib.hid h1
  have HR10 := Lib.hid hr10
  clear h1 HK9 hr10
  go_wp2_with fail
  refine (kn_prune' HK10.out HR10.out 0 rfl g5_flat (by decide)).mono ?_
  rintro e w11 ⟨A11, c11, rfl, v11, h1, h2, h3⟩
  have HK11 : Hid (Kn W w11 f lb v11 G6) := Lib.hid h1
  have HR11 := Lib.hid (And.intro h2 h3)
  clear h1 h2 h3 HK10 HR10
  go_wp2_with fail
  refine (kn_add' HK11.out HR11.out.1 HR11.out.2 (x := 3) rfl (-1) (by omega)).mono ?_
  rintro e w12 ⟨rfl, hq2, hq1, hb⟩
  have HB := Lib.hid hb
  have HR12 := Lib.hid (And.intro (hq1.below ((Below.refl _ w12).alloc (Nat.le_refl _) (.cells #[.int .i64 2, .int .i64 3] 3))) hq2)
  clear HK11 HR11 hq1 hq2 hb
  go_wp2_with fail
  refine (lies_ints (K := [2, 3]) (K' := [2, 3]) c10 2 HR12.out.1 (lies_lit w12 [2, 3] _ rfl) (by decide) (by decide)).mono ?_
  rintro e w13 ⟨rfl, m13, rfl⟩
  have hb13 : Below w12.heap.size w12 ((w12.alloc (.cells #[.int .i64 2, .int .i64 3] 3)).drewN m13) := ((Below.refl _ w12).alloc (Nat.le_refl _) _).trans (below_drewN _ _ m13)
  have HB13 := Lib.hid (HB.out.trans (hb13.mono HB.out.size))
  have HR13 := Lib.hid (HR12.out.2.below hb13)
  clear HR12 hb13
  generalize (w12.alloc (.cells #[.int .i64 2, .int .i64 3] 3)).drewN m13 = w13 at *
  have HR14 := Lib.hid (HR13.out.below ((Below.refl _ w13).alloc (Nat.le_refl _) (.cells #[.int .i64 2, .int .i64 3] 3)))
  go_wp2_with fail
  refine (lies_ints (K := [2, 3]) (K' := [2, 3]) c11 2 HR14.out (lies_lit w13 [2, 3] _ rfl) (by decide) (by decide)).mono ?_
  rintro e w14 ⟨rfl, m14, rfl⟩
  have hb14 : Below w13.heap.size w13 ((w13.alloc (.cells #[.int .i64 2, .int .i64 3] 3)).drewN m14) := ((Below.refl _ w13).alloc (Nat.le_refl _) _).trans (below_drewN _ _ m14)
  have HB14 := Lib.hid (HB13.out.trans (hb14.mono HB13.out.size))
  clear hb14
  generalize (w13.alloc (.cells #[.int .i64 2, .int .i64 3] 3)).drewN m14 = w14 at *
  go_wp2
  go_ret
  exact ⟨rfl, HB14.out⟩
end Go.Proofs.Ytoihldagpnkfoaa
