/- The program's forest and the reference's, side by side: both are of one forest, on blocks of their own. No program walked. -/
import Derived.Test.YtoihldagpnkfoaaTreeQR
namespace Go.Proofs.Ytoihldagpnkfoaa
open Go.RowKit
set_option linter.unusedVariables false
set_option linter.unusedSimpArgs false

/-- The program's forest is F. -/
structure Prg (w : World) (f lb : Nat) (v : Value) (F : Fo) : Prop where
  ps : ∃ lc R, PS w f lb F.n lc R v (nats F.free) ∧ Rep R F
  wf : WF F
/-- The reference's forest is F. -/
structure Ref (w : World) (g qb : Nat) (Q : Qw) (F : Fo) (T : Nat) : Prop where
  qf : ∃ lc, QF w g qb F.n lc Q
  rep : QRep Q F
  t0 : 0 ≤ Q.T
  t1 : Q.T ≤ (T : Int)

theorem own3_lt {w : World} {f lb : Nat} {v : Value} {F : Fo} (h : Prg w f lb v F) {k : Nat} (hk : own3 f lb v k) : k < w.heap.size := by
  obtain ⟨lc, R, hp, hr⟩ := h.ps
  rcases hk with rfl | rfl | hk
  · exact hp.pf.head.lt
  · exact hp.pf.lt
  · exact hp.cut.lt k hk
theorem Prg.keep {w w' : World} {f lb : Nat} {v : Value} {F : Fo} (h : Prg w f lb v F) (hk : ∀ k, own3 f lb v k → w'.heap[k]? = w.heap[k]?) (hs : w.heap.size ≤ w'.heap.size) : Prg w' f lb v F := by
  obtain ⟨lc, R, hp, hr⟩ := h.ps
  exact ⟨⟨lc, R, ⟨hp.pf.keep (hk f (.inl rfl)) (hk lb (.inr (.inl rfl))) hs, hp.cut.keep fun k hh => hk k (.inr (.inr hh)), hp.nf, hp.nl⟩, hr⟩, h.wf⟩
theorem Prg.apart {S : Nat → Prop} {w w' : World} {f lb : Nat} {v : Value} {F : Fo} (h : Prg w f lb v F) (ha : Apart S w w') (hS : ∀ k, own3 f lb v k → ¬ S k) : Prg w' f lb v F :=
  h.keep (fun k hk => ha.block k (own3_lt h hk) (hS k hk)) ha.size
theorem Prg.below {w w' : World} {f lb : Nat} {v : Value} {F : Fo} (h : Prg w f lb v F) (hb : Below w.heap.size w w') : Prg w' f lb v F := h.keep (fun k hk => hb.block k (own3_lt h hk)) hb.size
theorem Ref.lt {w : World} {g qb : Nat} {Q : Qw} {F : Fo} {T : Nat} (h : Ref w g qb Q F T) {k : Nat} (hk : qfoot g qb F.n Q k) : k < w.heap.size := by
  obtain ⟨lc, hq⟩ := h.qf
  exact hq.foot_lt hk
theorem Ref.keep {w w' : World} {g qb : Nat} {Q : Qw} {F : Fo} {T : Nat} (h : Ref w g qb Q F T) (hk : ∀ k, qfoot g qb F.n Q k → w'.heap[k]? = w.heap[k]?) (hs : w.heap.size ≤ w'.heap.size) : Ref w' g qb Q F T := by
  obtain ⟨lc, hq⟩ := h.qf
  exact ⟨⟨lc, hq.keep hk hs⟩, h.rep, h.t0, h.t1⟩
theorem Ref.apart {S : Nat → Prop} {w w' : World} {g qb : Nat} {Q : Qw} {F : Fo} {T : Nat} (h : Ref w g qb Q F T) (ha : Apart S w w') (hS : ∀ k, qfoot g qb F.n Q k → ¬ S k) : Ref w' g qb Q F T :=
  h.keep (fun k hk => ha.block k (h.lt hk) (hS k hk)) ha.size
theorem Ref.below {w w' : World} {g qb : Nat} {Q : Qw} {F : Fo} {T : Nat} (h : Ref w g qb Q F T) (hb : Below w.heap.size w w') : Ref w' g qb Q F T := h.keep (fun k hk => hb.block k (h.lt hk)) hb.size

/-- Both. -/
structure Joint (w : World) (B f lb g qb : Nat) (v : Value) (Q : Qw) (F : Fo) (T : Nat) : Prop where
  prg : Prg w f lb v F
  ref : Ref w g qb Q F T
  sep : ∀ k, own3 f lb v k → ¬ qfoot g qb F.n Q k
  lo : ∀ k, own3 f lb v k ∨ own2 g qb k → B ≤ k
  hB : B ≤ w.heap.size
/-- The blocks that are written to. -/
def jm (f lb g qb : Nat) (v : Value) (k : Nat) : Prop := own3 f lb v k ∨ own2 g qb k
/-- All blocks. -/
def jf (f lb g qb n : Nat) (v : Value) (Q : Qw) (k : Nat) : Prop := own3 f lb v k ∨ qfoot g qb n Q k
theorem jm_jf {f lb g qb n : Nat} {v : Value} {Q : Qw} {k : Nat} (h : jm f lb g qb v k) : jf f lb g qb n v Q k := by
  rcases h with h | h
  · exact .inl h
  · exact .inr (.inl h)
section
variable {w w' : World} {B f lb g qb : Nat} {v : Value} {Q : Qw} {F : Fo} {T : Nat}
theorem Joint.lt (h : Joint w B f lb g qb v Q F T) {k : Nat} (hk : jf f lb g qb F.n v Q k) : k < w.heap.size := by
  rcases hk with hk | hk
  · exact own3_lt h.prg hk
  · exact h.ref.lt hk
theorem Joint.apart {S : Nat → Prop} (h : Joint w B f lb g qb v Q F T) (ha : Apart S w w') (hS : ∀ k, jf f lb g qb F.n v Q k → ¬ S k) : Joint w' B f lb g qb v Q F T :=
  ⟨h.prg.apart ha fun k hk => hS k (.inl hk), h.ref.apart ha fun k hk => hS k (.inr hk), h.sep, h.lo, Nat.le_trans h.hB ha.size⟩
theorem Joint.below (h : Joint w B f lb g qb v Q F T) (hb : Below w.heap.size w w') : Joint w' B f lb g qb v Q F T :=
  ⟨h.prg.below hb, h.ref.below hb, h.sep, h.lo, Nat.le_trans h.hB hb.size⟩
theorem Joint.more (h : Joint w B f lb g qb v Q F T) {T' : Nat} (hT : T ≤ T') : Joint w B f lb g qb v Q F T' :=
  ⟨h.prg, ⟨h.ref.qf, h.ref.rep, h.ref.t0, by have := h.ref.t1; omega⟩, h.sep, h.lo, h.hB⟩
/-- The program has taken a step, and then the reference the same step. -/
theorem Joint.step {w1 w2 : World} {v' : Value} {Q' : Qw} {F' : Fo} {T' : Nat} (h : Joint w B f lb g qb v Q F T) (ha : Apart (own3 f lb v) w w1) (hf : Fresh w v v') (hp : Prg w1 f lb v' F')
    (hb : Apart (own2 g qb) w1 w2) (hr : Ref w2 g qb Q' F' T') (hn : ∀ k, Q'.blk F'.n k → Q.blk F.n k ∨ w1.heap.size ≤ k) :
    Joint w2 B f lb g qb v' Q' F' T' ∧ Apart (jm f lb g qb v) w w2 ∧ ∀ k, jf f lb g qb F'.n v' Q' k → jf f lb g qb F.n v Q k ∨ w.heap.size ≤ k := by
  have hq2 : ∀ k, own2 g qb k → ¬ own3 f lb v' k := by
    intro k hk hk'
    have hlt := h.ref.lt (k := k) (.inl hk)
    rcases hk' with e | e | e
    · exact h.sep k (.inl e) (.inl hk)
    · exact h.sep k (.inr (.inl e)) (.inl hk)
    · rcases hf k e with e' | e'
      · exact h.sep k (.inr (.inr e')) (.inl hk)
      · omega
  have hsz := ha.size
  refine ⟨⟨hp.apart hb fun k hk hk' => hq2 k hk' hk, hr, fun k hk hk' => ?_, fun k hk => ?_, Nat.le_trans h.hB (Nat.le_trans ha.size hb.size)⟩, ha.mono (fun k hk => .inl hk) |>.trans hb fun k _ hk => .inr hk, fun k hk => ?_⟩
  · rcases hk' with hk' | hk'
    · exact hq2 k hk' hk
    · have hlt := own3_lt hp hk
      rcases hn k hk' with e | e
      · have hlt' := h.ref.lt (k := k) (.inr e)
        rcases hk with e1 | e1 | e1
        · exact h.sep k (.inl e1) (.inr e)
        · exact h.sep k (.inr (.inl e1)) (.inr e)
        · rcases hf k e1 with e2 | e2
          · exact h.sep k (.inr (.inr e2)) (.inr e)
          · omega
      · omega
  · rcases hk with (e | e | e) | e
    · exact h.lo k (.inl (.inl e))
    · exact h.lo k (.inl (.inr (.inl e)))
    · rcases hf k e with e' | e'
      · exact h.lo k (.inl (.inr (.inr e')))
      · have := h.hB; omega
    · exact h.lo k (.inr e)
  · rcases hk with (e | e | e) | e | e
    · exact .inl (.inl (.inl e))
    · exact .inl (.inl (.inr (.inl e)))
    · rcases hf k e with e' | e'
      · exact .inl (.inl (.inr (.inr e')))
      · exact .inr e'
    · exact .inl (.inr (.inl e))
    · rcases hn k e with e' | e'
      · exact .inl (.inr (.inr e'))
      · exact .inr (by omega)
end
end Go.Proofs.Ytoihldagpnkfoaa
