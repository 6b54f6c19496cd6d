/- Drop and Prune of the program's forest, whole, by walks. Condition: the places are a forest's. -/
import Derived.Test.YtoihldagpnkfoaaTreeDrop
import Derived.Test.YtoihldagpnkfoaaTreeDescW
import Derived.Test.YtoihldagpnkfoaaTreeJ
namespace Go.Proofs.Ytoihldagpnkfoaa
open Go.RowKit
set_option linter.unusedVariables false
set_option linter.unusedSimpArgs false

theorem free_le {F : Fo} (hF : WF F) : F.free.length ≤ F.n := nodup_le _ _ hF.fnd fun i hi => ((hF.fr i).1 hi).1
theorem drop_is {w : World} {f lb : Nat} {v : Value} {F : Fo} (h : Prg w f lb v F) (x : Nat) (hx : F.there x = true) :
    Calls Try.prog 21 #[.pointer (some ⟨f, 0, none⟩), .int .i64 x] w fun e w' => e = .returned (.int .i64 0) ∧ ∃ v', Prg w' f lb v' (F.drop x) ∧ Fresh w v v' ∧ Apart (own3 f lb v) w w' := by
  obtain ⟨lc, R, hp, hR⟩ := h.ps
  have hF := h.wf
  have hxn := hF.lt x hx
  have hM := hR.at_ x hxn
  have e : F.nod x = ⟨true, F.par x, hd (F.kids (x : Int)), prv x (F.kids (F.par x)), nxt x (F.kids (F.par x))⟩ := by simp [Fo.nod, hx]
  have hn2 := hp.pf.n2
  have hxk : x ∈ F.kids (F.par x) := (hF.kin _ _).2 ⟨hx, rfl⟩
  obtain ⟨a, b, hab, ha, hb⟩ := split_at hxk (hF.nd _)
  have hprv : prv x (F.kids (F.par x)) = lastOr (-1) a := by rw [hab, prv_at b ha]
  have hnxt : nxt x (F.kids (F.par x)) = hd b := by rw [hab, nxt_at b ha]
  have hkn : ∀ p, ∀ i ∈ F.kids p, i < F.n := fun p i hi => hF.lt i ((hF.kin _ _).1 hi).1
  have hpar : F.par x = -1 ∨ (0 ≤ F.par x ∧ F.par x < (F.n : Int)) := by
    rcases hF.up x hx with e | ⟨j, e, hj⟩
    · exact .inl e
    · have := hF.lt j hj
      exact .inr (by omega)
  have hpv : prv x (F.kids (F.par x)) = -1 ∨ ∃ z ∈ F.kids (F.par x), prv x (F.kids (F.par x)) = (z : Int) := by
    rw [hprv]
    rcases lastOr_cases a with rfl | ⟨z, hz, hh⟩
    · exact .inl rfl
    · exact .inr ⟨z, by rw [hab]; simp [hz], hh _⟩
  obtain ⟨g, hg⟩ := hF.ht
  have main := drop_loop hp x hxn (F.kids (x : Int)) (by rw [nats_len]; exact Nat.le_trans (free_le hF) hn2) _ (hM.trans e) rfl rfl (hkn _) hpar
    (by
      rcases hpv with e | ⟨z, hz, e⟩
      · exact .inl e
      · have := hkn _ z hz
        refine .inr ?_
        show 0 ≤ prv x (F.kids (F.par x)) ∧ prv x (F.kids (F.par x)) < (F.n : Int)
        rw [e]
        omega)
    (by
      show inF F.n (nxt x (F.kids (F.par x)))
      rw [hnxt]
      exact hd_in fun i hi => hkn (F.par x) i (by rw [hab]; simp [hi]))
    (fun i hi => by
      show (i : Int) ≠ prv x (F.kids (F.par x))
      intro e2
      rcases hpv with e | ⟨z, hz, e⟩
      · omega
      · have : i = z := by omega
        subst this
        have h1 := ((hF.kin _ _).1 hi).2
        have h2 := ((hF.kin _ _).1 hz).2
        exact hF.not_self hx (by omega))
    (fun i hi => by
      show (i : Int) ≠ F.par x
      intro e2
      obtain ⟨k1, k2⟩ := (hF.kin _ _).1 hi
      have h1 := hg i x k1 k2
      have h2 := hg x i hx e2.symm
      omega)
    (hF.nd _) (fun c i d e2 => (linked_rep hR hF (x : Int)).2 c i d e2)
  refine main.mono ?_
  rintro e w' ⟨rfl, v', h', hf, ha'⟩
  refine ⟨rfl, v', ⟨⟨lc, _, ?_, rep_drop hR hF hx⟩, hF.drop hx⟩, hf, ha'⟩
  have : nats (F.drop x).free = nats F.free ++ [(x : Int)] := by simp [Fo.drop, nats]
  rw [this]
  exact h'
theorem prg_drop_no {w : World} {f lb : Nat} {v : Value} {F : Fo} (h : Prg w f lb v F) (x : Int) (hx : F.has x = false) :
    Calls Try.prog 21 #[.pointer (some ⟨f, 0, none⟩), .int .i64 x] w fun e w' => e = .returned (.int .i64 4) ∧ w = w' := by
  obtain ⟨lc, R, hp, hR⟩ := h.ps
  exact drop_no hp.pf x (by rw [has_rep hR h.wf]; exact hx)

theorem prune_no {w : World} {f lb : Nat} {v : Value} {F : Fo} (h : Prg w f lb v F) (x : Int) (hx : F.has x = false) :
    Calls Try.prog 14 #[.pointer (some ⟨f, 0, none⟩), .int .i64 x] w fun e w' => e = .returned (.tuple #[.slice none 0 0, .int .i64 4]) ∧ w = w' := by
  obtain ⟨lc, R, hp, hR⟩ := h.ps
  have CK := check_is hp.pf x
  rw [has_rep hR h.wf, hx] at CK
  clear hp hR h hx
  go_enter Try.func14, Try.ntmps14
  go_wp2_with (go_at_call 35; refine CK.mono ?_; rintro e w' ⟨rfl, rfl⟩)
  go_ret2
  exact ⟨rfl, rfl⟩

/-- The world at the head of Prune's loop. -/
def PruneAt (w w1 : World) (f lb lc : Nat) (v : Value) (R : Raw) (F : Fo) (ds : List Nat) (i : Value) (wr : World) : Prop :=
  ∃ (k : Nat) (v' : Value), k ≤ ds.length ∧ i = .int .i64 k ∧ PS wr f lb F.n lc (goneL R (ds.take k)) v' (nats (F.free ++ ds.take k)) ∧ Fresh w1 v v' ∧ Apart (own3 f lb v) w1 wr
theorem goneL_snoc (R : Raw) (ds : List Nat) (d : Nat) : goneL R (ds ++ [d]) = (goneL R ds).put d Nd.zero := by simp [goneL]

set_option maxRecDepth 100000 in
set_option maxHeartbeats 4000000 in
theorem prune_is {w : World} {f lb : Nat} {v : Value} {F : Fo} (h : Prg w f lb v F) (x : Nat) (hx : F.there x = true) {ds : List Nat} (hfl : Flat F (F.kids (x : Int)) ds) :
    Calls Try.prog 14 #[.pointer (some ⟨f, 0, none⟩), .int .i64 x] w fun e w' => ∃ A cap, e = .returned (.tuple #[.slice A ds.length cap, .int .i64 0]) ∧ w'.ownsRow w.heap.size 3 1 (.slice A ds.length cap) ds.length (intV (nats ds)) ∧ ∃ v', Prg w' f lb v' (F.prune x ds) ∧ Fresh w v v' ∧ Apart (own3 f lb v) w w' ∧ (∀ k, (Value.slice A ds.length cap).ownBlock = some k → v'.ownBlock ≠ some k) := by
  obtain ⟨lc, R, hp, hR⟩ := h.ps
  have hF := h.wf
  have hxn := hF.lt x hx
  have hn2 := hp.pf.n2
  have CK := check_is hp.pf x
  rw [has_rep hR hF, show F.has (x : Int) = true by simp [Fo.has, hx]] at CK
  have CD := desc_is hp.pf hR hF x hx hfl
  have hm := desc_mem hF hfl
  have hdn : ∀ d ∈ ds, d < F.n := fun d hd => hF.lt d ((hm d).1 hd).there
  have hwp := hF.prune hx hfl
  have hfp := free_le hwp
  have hfin : (F.prune x ds).free = F.free ++ ds := rfl
  rw [hfin, List.length_append] at hfp
  have hfn : (F.prune x ds).n = F.n := rfl
  rw [hfn] at hfp
  have hrp := rep_prune hR hF hx hfl
  have HRP := Lib.hid (And.intro hrp hwp)
  have HD := Lib.hid hdn
  have HPS := Lib.hid hp
  have HLT := Lib.hid (fun k (hk : own3 f lb v k) => own3_lt h hk)
  clear hp hR hF hm hdn hfl hwp hfin hfn hrp h hx
  go_enter Try.func14, Try.ntmps14
  go_wp2_with (first | (go_at_call 35; refine CK.mono ?_; rintro e w' ⟨rfl, rfl⟩) | (go_at_call 12; refine CD.mono ?_; rintro e w1 ⟨⟨A, cap, rfl, hown⟩, hb1⟩; (have HO := Lib.hid hown); (have HB1 := Lib.hid hb1); clear hown hb1))
  go_loopw [21] (fun i wr => PruneAt w w1 f lb lc v R F ds i wr) (fun i _ => ds.length - (intOf i).toNat)
  case atStart => exact ⟨0, v, Nat.zero_le _, rfl, by simpa [goneL] using (⟨HPS.out.pf.below HB1.out, HPS.out.cut.below HB1.out, HPS.out.nf, HPS.out.nl⟩ : PS w1 f lb F.n lc R v (nats F.free)), fun r hr => .inl hr, Apart.refl _ _⟩
  case round =>
    obtain ⟨k, v', hk, rfl, hps, hfr, hap⟩ := hrel
    have hOr : wr.ownsRow w.heap.size 3 1 (.slice A ds.length cap) ds.length (intV (nats ds)) := own_apart HO.out hap (fun b e hb => by
      have h1 := (HO.out.lt b e).1
      have h2 := HLT.out b hb
      omega)
    have HOR := Lib.hid hOr
    have HAP := Lib.hid hap
    have HFR := Lib.hid hfr
    by_cases hlt : k < ds.length
    · obtain ⟨b, rfl⟩ := own_form hOr (by omega)
      have hcell := hOr.cellAt k (by omega)
      have hkn : k < (nats ds).length := by rw [nats_len]; exact hlt
      rw [intV, List.getElem?_map, List.getElem?_eq_getElem hkn] at hcell
      have hkd : (nats ds)[k] = ((ds[k] : Nat) : Int) := by simp [nats]
      rw [hkd] at hcell
      simp only [Option.map_some] at hcell
      have hdk : ds[k] < F.n := HD.out _ (List.getElem_mem hlt)
      have htk : ds.take (k + 1) = ds.take k ++ [ds[k]] := List.take_succ_eq_append_getElem hlt
      have hLk : (nats (F.free ++ ds.take k)).length ≤ 4096 := by rw [nats_len, List.length_append, List.length_take]; omega
      have CG := gone_is hps ds[k] hdk hLk
      rw [← goneL_snoc, ← htk] at CG
      have hfl2 : nats (F.free ++ ds.take k) ++ [((ds[k] : Nat) : Int)] = nats (F.free ++ ds.take (k + 1)) := by rw [htk, ← List.append_assoc, nats_snoc]
      rw [hfl2] at CG
      have hsz := Nat.le_trans HB1.out.size hap.size
      have hsz1 := hap.size
      generalize ds[k] = d at *
      have e0 := hps.pf.cells.1
      clear hps hOr hap hfr hkd htk hfl2 hkn
      go_wp2_with (go_at_call 36; refine CG.mono ?_; rintro e w5 ⟨⟨z3, rfl⟩, v5, h5, f5, a5⟩; (have HF5 := Lib.hid (And.intro h5 (And.intro f5 a5))); clear h5 f5 a5 hcell)
      go_roundw
      case rel =>
        obtain ⟨h5, f5, a5⟩ := HF5.out
        exact ⟨k + 1, v5, by omega, by go_num, h5, fun r hr => by
          rcases f5 r hr with e | e
          · exact HFR.out r e
          · exact .inr (by omega), HAP.out.trans a5 (fun q hq hk => by
            rcases hk with e | e | e
            · exact .inl e
            · exact .inr (.inl e)
            · rcases HFR.out q e with e | e
              · exact .inr (.inr e)
              · omega)⟩
      case measure => simp [intOf]; omega
    · have hkl : k = ds.length := by omega
      subst hkl
      rw [List.take_length] at hps
      have e0 := hps.pf.cells.1
      have e2 := (hps.pf.at_ x hxn).c2
      have ef := hps.pf.fr (x * 5 + 2)
      have q := hps.pf.setD x hxn (-1)
      have HQ := Lib.hid (And.intro q (And.intro hps.cut (And.intro hps.nf hps.nl)))
      clear hps hOr hap hfr q
      go_wp2
      go_ret2
      obtain ⟨q, qc, qf, ql⟩ := HQ.out
      have hne : ∀ j, (Value.slice A ds.length cap).ownBlock = some j → j ≠ lb := fun j e e2 => by
        have h1 := (HO.out.lt j e).1
        have h2 := HPS.out.pf.lt
        omega
      refine ⟨A, cap, rfl, own_apart HOR.out ((Apart.refl (fun k => k = lb) wr).setCell (p := ⟨lb, x * 5 + 2, none⟩) (.inl rfl) _) (fun j e => hne j e), v', ⟨⟨lc, _, ⟨q, qc.keep fun j e => Below.heap_setCell _ ⟨lb, x * 5 + 2, none⟩ _ j (fun e2 => ql (by rw [e, e2])), qf, ql⟩, HRP.out.1⟩, HRP.out.2⟩, fun r hr => (HFR.out r hr).imp id (fun e => Nat.le_trans HB1.out.size e), ?_, fun j e e2 => ?_⟩
      rotate_left
      · have h1 := HO.out.lt j e
        rcases HFR.out j e2 with e3 | e3
        · have h2 := HLT.out j (.inr (.inr e3)); omega
        · omega
      exact ((Apart.of_below HB1.out).trans HAP.out (fun j _ hj => hj)).setCell (p := ⟨lb, x * 5 + 2, none⟩) (.inl (.inr (.inl rfl))) _
end Go.Proofs.Ytoihldagpnkfoaa
