/- What the laws of acts have in common: two new forests agree; what acts leave alone. No program walked. -/
import Derived.Test.YtoihldagpnkfoaaTreeDo
import Derived.Test.YtoihldagpnkfoaaTreeOpen
namespace Go.Proofs.Ytoihldagpnkfoaa
open Go.RowKit
set_option linter.unusedVariables false
set_option linter.unusedSimpArgs false

/-- Two new forests agree. -/
theorem joint_new {W w1 w2 : World} {f lb g qb n : Nat} {v : Value} (hp : Prg w1 f lb v (chain n 0)) (hlo : ∀ k, own3 f lb v k → W.heap.size ≤ k) (hb1 : Below W.heap.size W w1) (hr : Ref w2 g qb newQw (chain n 0) 0) (hg : w1.heap.size ≤ g) (hq : w1.heap.size ≤ qb) (hb2 : Below w1.heap.size w1 w2) :
    Joint w2 W.heap.size f lb g qb v newQw (chain n 0) 0 := by
  have hblk : ∀ k, ¬ newQw.blk n k := fun k hk => by rcases hk with hk | ⟨i, _, hk⟩ <;> cases hk
  refine ⟨hp.below hb2, hr, fun k hk hk' => ?_, fun k hk => ?_, Nat.le_trans hb1.size hb2.size⟩
  · have h1 := own3_lt hp hk
    rcases hk' with (e | e) | e
    · omega
    · omega
    · exact hblk k e
  · have h2 := hb1.size
    rcases hk with e | e | e
    · exact hlo k e
    · omega
    · omega
/-- Acts keep the blocks of the forests at or behind B, so that what was there ahead of B is as it was. -/
theorem joint_below {w w' : World} {B f lb g qb : Nat} {v : Value} {Q : Qw} {F : Fo} {T : Nat} (h : Joint w B f lb g qb v Q F T) (ha : Apart (jm f lb g qb v) w w') : Below B w w' := ha.below h.hB h.lo

end Go.Proofs.Ytoihldagpnkfoaa
