/- Add of the program's forest, by a walk. Conditions: 1 to 4096 places; a number is free; the parent is there, or none is asked for. -/
import Derived.Test.YtoihldagpnkfoaaTreeGone
namespace Go.Proofs.Ytoihldagpnkfoaa
open Go.RowKit
set_option linter.unusedVariables false
set_option linter.unusedSimpArgs false

/-- The new place. -/
def newN (q : Int) : Nd := ⟨true, q, -1, -1, -1⟩

theorem add_fin {w W2 w3 w4 : World} {f lb n lc g m cap k : Nat} {R' : Raw} {L : List Int} (ha : Apart (own3 f lb (.slice (some ⟨g, 0, none⟩) m cap)) w W2) (hc : Cut W2 (.slice (some ⟨g, 0, none⟩) k k) L) (hgf : g ≠ f) (hgl : g ≠ lb)
    (a3 : Apart (own2 f lb) W2 w3) (q4 : PF w4 f lb n lc R' (.slice (some ⟨g, 0, none⟩) k k)) (a4 : Apart (own2 f lb) w3 w4) :
    ∃ v', PS w4 f lb n lc R' v' L ∧ Fresh w (.slice (some ⟨g, 0, none⟩) m cap) v' ∧ Apart (own3 f lb (.slice (some ⟨g, 0, none⟩) m cap)) w w4 := by
  have hno : ∀ r, (Value.slice (some ⟨g, 0, none⟩) k k).ownBlock = some r → ¬ own2 f lb r := by
    intro r hr
    simp [Value.ownBlock] at hr
    subst hr
    rintro (e | e)
    · exact hgf e
    · exact hgl e
  have hsub : ∀ r, own2 f lb r → own3 f lb (.slice (some ⟨g, 0, none⟩) m cap) r := by
    rintro r (e | e)
    · exact .inl e
    · exact .inr (.inl e)
  refine ⟨_, ⟨q4, (hc.apart a3 hno).apart a4 hno, ?_, ?_⟩, fun r hr => .inl hr, (ha.trans a3 fun r _ hr => hsub r hr).trans a4 fun r _ hr => hsub r hr⟩
  · simp [Value.ownBlock, hgf]
  · simp [Value.ownBlock, hgl]

set_option maxHeartbeats 2000000 in
theorem add_ok {w : World} {f lb n lc : Nat} {R : Raw} {v : Value} {L : List Int} {x : Nat} (h : PS w f lb n lc R v (L ++ [(x : Int)])) (hx : x < n) (hL : L.length < 4096) (p q : Int) (hq : (p < -1 ∧ q = -1) ∨ (¬ p < -1 ∧ q = p)) (hp : 0 ≤ p → hasR n R p = true) (hpn : p < (n : Int)) (hd : inF n (R.head p)) :
    Calls Try.prog 11 #[.pointer (some ⟨f, 0, none⟩), .int .i64 p] w fun e w' => e = .returned (.tuple #[.int .i64 x, .int .i64 0]) ∧ ∃ v', PS w' f lb n lc (((R.put x (newN q)).join p (-1) x).join p x (R.head p)) v' L ∧ Fresh w v v' ∧ Apart (own3 f lb v) w w' := by
  obtain ⟨A, cap, rfl⟩ := h.cut.slice
  have hll : (L ++ [(x : Int)]).length = L.length + 1 := by simp
  rw [hll] at h
  have hpf := h.pf
  have hn2 := hpf.n2
  have CN := nothing_is hpf
  have CH := has_is hpf p
  have d2 := hpf.cells.2.2.1
  have df := hpf.cells.2.2.2
  obtain ⟨g, rfl, hc⟩ := h.cut.cells L.length (by simp)
  rw [List.getElem_append_right (Nat.le_refl _)] at hc
  simp only [Nat.sub_self, List.getElem_cons_zero] at hc
  have hcap : L.length + 1 ≤ cap := by
    rcases h.cut with ⟨h0, _⟩ | ⟨_, cap', _, h1, _, h2, _⟩
    · cases h0
    · injection h1 with _ _ h4
      subst h4
      rw [hll] at h2
      exact h2
  have hgf : g ≠ f := fun e => h.nf (by rw [e]; rfl)
  have hgl : g ≠ lb := fun e => h.nl (by rw [e]; rfl)
  have hq1 := hpf.setFree (.slice (some ⟨g, 0, none⟩) L.length L.length)
  have ha1 : Apart (own3 f lb (.slice (some ⟨g, 0, none⟩) (L.length + 1) cap)) w (w.setCell ⟨f, 2, none⟩ (.slice (some ⟨g, 0, none⟩) L.length L.length)) := (Apart.refl _ w).setCell (p := ⟨f, 2, none⟩) (.inl (.inl rfl)) _
  have hcut1 : Cut (w.setCell ⟨f, 2, none⟩ (.slice (some ⟨g, 0, none⟩) L.length L.length)) (.slice (some ⟨g, 0, none⟩) L.length L.length) L := h.cut.cut.keep fun r hr => Below.heap_setCell _ ⟨f, 2, none⟩ _ r (fun e => hgf (by simp [Value.ownBlock] at hr; simp only at e; omega))
  obtain ⟨W1, hW1⟩ : ∃ W1, W1 = w.setCell ⟨f, 2, none⟩ (.slice (some ⟨g, 0, none⟩) L.length L.length) := ⟨_, rfl⟩
  rw [← hW1] at hq1 ha1 hcut1
  have CD := head_is hq1 p hpn
  obtain ⟨hdc, hdf⟩ := head_cell hq1 p hpn
  have e0 := hq1.cells.1
  have ht := (hq1.at_ x hx).there hq1.fr
  have hq2 := hq1.putW x hx (newN q)
  have ha2 := putW_apart ha1 (.inl (.inr (.inl rfl))) (x * 5) (newN q)
  have hcut2 : Cut (putW W1 lb (x * 5) (newN q)) (.slice (some ⟨g, 0, none⟩) L.length L.length) L := hcut1.apart (S := fun k => k = lb) (putW_apart (S := fun k => k = lb) (Apart.refl _ W1) (.inl rfl) _ _) (fun r hr e => hgl (by simp [Value.ownBlock] at hr; omega))
  obtain ⟨W2, hW2⟩ : ∃ W2, W2 = putW W1 lb (x * 5) (newN q) := ⟨_, rfl⟩
  rw [← hW2] at hq2 ha2 hcut2
  have C1 := join_is hq2 p (-1) x hpn (.inl rfl) (.inr ⟨x, rfl, hx⟩)
  have HW1 := Lib.hid hW1
  have HW2 := Lib.hid hW2
  have HA := Lib.hid (And.intro ha2 hcut2)
  have HN := Lib.hid (And.intro hgf hgl)
  have HD := Lib.hid hd
  have HX := Lib.hid (And.intro hx hpn)
  have t1 : (Try.prog.info? 61).map (·.size) = some (newN q).cs.size := by kernel_rfl
  have t2 : (newN q).cs.all (·.oneCell') = true := by simp [Nd.cs, Value.oneCell']
  generalize headA f lb p = ad at *
  generalize R.head p = z at *
  clear h hpf hW1 hW2 hq1 ha1 hcut1 hq2 ha2 hcut2 hd hgf hgl hll
  by_cases h0 : 0 ≤ p
  · have b0 : decide (0 ≤ p) = true := by simpa using h0
    have hm : ¬ p < -1 := by omega
    rcases hq with ⟨hq1, _⟩ | ⟨_, rfl⟩
    · omega
    rw [hp h0] at CH
    clear hp h0 hpn
    go_enter Try.func11, Try.ntmps11
    go_wp2_with (first | (go_at_call 32; refine CN.mono ?_; rintro e w' ⟨rfl, rfl⟩) | (go_at_call 24; refine CH.mono ?_; rintro e w' ⟨rfl, rfl⟩) | (go_at_call 33; rw [← HW1.out]; refine CD.mono ?_; rintro e w' ⟨rfl, rfl⟩) | (refine wpList_store_mid rfl 61 (.tmp 64) (.tmp 63) rfl lb (x * 5) (newN q).cs (by exact rfl) (by exact rfl) (by exact ht _ rfl) t1 t2 ?_; rw [putW_cells, ← HW2.out]; clear ht) | (go_at_call 34; (have := mk1); (have C2 := join_is q3 q x z HX.out.2 (.inr ⟨x, rfl, HX.out.1⟩) HD.out); refine C2.mono ?_; clear C2; rintro e w4 ⟨⟨z2, rfl⟩, q4, a4⟩) | (go_at_call 34; (fail_if_success have := mk1); refine C1.mono ?_; clear C1; rintro e w3 ⟨⟨z1, rfl⟩, q3, a3⟩; have mk1 := trivial))
    go_ret2
    exact ⟨rfl, add_fin HA.out.1 HA.out.2 HN.out.1 HN.out.2 a3 q4 a4⟩
  · have b0 : decide (0 ≤ p) = false := by simpa using h0
    clear hp h0 hpn CH
    rcases hq with ⟨hm, rfl⟩ | ⟨hm, rfl⟩
    · skip
      go_enter Try.func11, Try.ntmps11
      go_wp2_with (first | (go_at_call 32; refine CN.mono ?_; rintro e w' ⟨rfl, rfl⟩) | (go_at_call 24; refine CH.mono ?_; rintro e w' ⟨rfl, rfl⟩) | (go_at_call 33; rw [← HW1.out]; refine CD.mono ?_; rintro e w' ⟨rfl, rfl⟩) | (refine wpList_store_mid rfl 61 (.tmp 64) (.tmp 63) rfl lb (x * 5) (newN (-1)).cs (by exact rfl) (by exact rfl) (by exact ht _ rfl) t1 t2 ?_; rw [putW_cells, ← HW2.out]; clear ht) | (go_at_call 34; (have := mk1); (have C2 := join_is q3 p x z HX.out.2 (.inr ⟨x, rfl, HX.out.1⟩) HD.out); refine C2.mono ?_; clear C2; rintro e w4 ⟨⟨z2, rfl⟩, q4, a4⟩) | (go_at_call 34; (fail_if_success have := mk1); refine C1.mono ?_; clear C1; rintro e w3 ⟨⟨z1, rfl⟩, q3, a3⟩; have mk1 := trivial))
      go_ret2
      exact ⟨rfl, add_fin HA.out.1 HA.out.2 HN.out.1 HN.out.2 a3 q4 a4⟩
    · skip
      go_enter Try.func11, Try.ntmps11
      go_wp2_with (first | (go_at_call 32; refine CN.mono ?_; rintro e w' ⟨rfl, rfl⟩) | (go_at_call 24; refine CH.mono ?_; rintro e w' ⟨rfl, rfl⟩) | (go_at_call 33; rw [← HW1.out]; refine CD.mono ?_; rintro e w' ⟨rfl, rfl⟩) | (refine wpList_store_mid rfl 61 (.tmp 64) (.tmp 63) rfl lb (x * 5) (newN q).cs (by exact rfl) (by exact rfl) (by exact ht _ rfl) t1 t2 ?_; rw [putW_cells, ← HW2.out]; clear ht) | (go_at_call 34; (have := mk1); (have C2 := join_is q3 q x z HX.out.2 (.inr ⟨x, rfl, HX.out.1⟩) HD.out); refine C2.mono ?_; clear C2; rintro e w4 ⟨⟨z2, rfl⟩, q4, a4⟩) | (go_at_call 34; (fail_if_success have := mk1); refine C1.mono ?_; clear C1; rintro e w3 ⟨⟨z1, rfl⟩, q3, a3⟩; have mk1 := trivial))
      go_ret2
      exact ⟨rfl, add_fin HA.out.1 HA.out.2 HN.out.1 HN.out.2 a3 q4 a4⟩
end Go.Proofs.Ytoihldagpnkfoaa
