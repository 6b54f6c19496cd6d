/- pick and All of a ring that is there, by walks. -/
import Derived.Test.YthmjhepjlgcgfaaAuditRing
import Derived.Test.YthmjhepjlgcgfaaAppendG
import Derived.Deep.RegionHeld3
import Derived.Below
import Derived.Laws.Bits64
import Derived.RangeFuncRecord
import Derived.OwnWalk
namespace Go.Proofs.Ythmjhepjlgcgfaa
open Go.RowKit
set_option linter.unusedVariables false

/-- The ring: its head, its places, apart. -/
structure Ring (w : World) (b g n : Nat) (L : Nat → Rec) (m : Nat) : Prop where
  head : Head w b g n m
  at' : ∀ i, i < n → RecAt w g (i * 12) (L i)
  ne : b ≠ g
  lo : 1 ≤ n
  hi : n ≤ 256
  seq : m < 2 ^ 62
  frb : ∀ o, w.frozen? ⟨b, o, none⟩ = false
  frg : ∀ o, w.frozen? ⟨g, o, none⟩ = false

theorem below_own {w w' : World} {base : Nat} {e : TypeId} {size : Nat} {v : Value} {n : Nat} {xs : List Value} (h : w.ownsRow base e size v n xs) (hb : Below w.heap.size w w') : w'.ownsRow base e size v n xs := by
  refine ⟨h.1, ?_⟩
  rcases h.2 with hn | ⟨g, cap, cur, hv, hbg, hg, rest⟩
  · exact .inl hn
  · exact .inr ⟨g, cap, cur, hv, hbg, (hb.block g (Array.getElem?_eq_some_iff.1 hg).1).trans hg, rest⟩

theorem RecAt.block {w w' : World} {g o : Nat} {r : Rec} (h : RecAt w g o r) (hb : w'.heap[g]? = w.heap[g]?) : RecAt w' g o r := by
  have e : ∀ k, w'.cell? ⟨g, k, none⟩ = w.cell? ⟨g, k, none⟩ := fun k => World.cell?_of_block (w := w) hb
  unfold RecAt at *
  simpa only [e] using h

theorem Head.block {w w' : World} {b g n m : Nat} (h : Head w b g n m) (hb : w'.heap[b]? = w.heap[b]?) : Head w' b g n m :=
  ⟨h.s.imp fun _ hk => (World.cell?_of_block (w := w) (a := ⟨b, 0, none⟩) hb).trans hk, (World.cell?_of_block (w := w) (a := ⟨b, 1, none⟩) hb).trans h.q⟩

theorem Ring.below {w w' : World} {b g n m B : Nat} {L : Nat → Rec} (h : Ring w b g n L m) (hb : Below B w w') (h1 : b < B) (h2 : g < B) : Ring w' b g n L m :=
  ⟨h.head.block (hb.block b h1), fun i hi => (h.at' i hi).block (hb.block g h2), h.ne, h.lo, h.hi, h.seq, fun o => (World.frozen?_of_block (w := w) (a := ⟨b, o, none⟩) (hb.block b h1)).trans (h.frb o), fun o => (World.frozen?_of_block (w := w) (a := ⟨g, o, none⟩) (hb.block g h2)).trans (h.frg o)⟩

def Rec0 (w : World) (g : Nat) (r : Rec) : Prop :=
  w.cell? ⟨g, 0, none⟩ = some (.int .u64 r.sq) ∧ w.cell? ⟨g, 1, none⟩ = some (.int .u64 r.tm) ∧ w.cell? ⟨g, 2, none⟩ = some (.int .i64 r.gi) ∧ w.cell? ⟨g, 3, none⟩ = some (.int .u64 r.gg) ∧ w.cell? ⟨g, 4, none⟩ = some (.int .i64 r.p) ∧ w.cell? ⟨g, 5, none⟩ = some (.int .i64 r.kd) ∧ w.cell? ⟨g, 6, none⟩ = some (.int .u64 r.a0) ∧ w.cell? ⟨g, 7, none⟩ = some (.int .u64 r.a1) ∧ w.cell? ⟨g, 8, none⟩ = some (.int .u64 r.a2) ∧ w.cell? ⟨g, 9, none⟩ = some (.int .u64 r.a3) ∧ w.cell? ⟨g, 10, none⟩ = some (.int .u64 r.a4) ∧ w.cell? ⟨g, 11, none⟩ = some (.int .i64 r.cd)
theorem rec0 {w : World} {g : Nat} {r : Rec} (h : RecAt w g 0 r) : Rec0 w g r := by simpa only [RecAt, Rec0, Nat.zero_add] using h

/-- The records that are there, the eldest ahead. -/
def live (L : Nat → Rec) (n m : Nat) : List Rec := (List.range (min m n)).map fun i => L ((m - min m n + 1 + i) % n)

/-- A record's cells are one row's. -/
theorem rec_news {w : World} {g o : Nat} {r : Rec} (h : RecAt w g o r) : ∀ j u, r.vs[j]? = some u → w.cell? ((⟨g, o, none⟩ : Addr).add j) = some u := by
  obtain ⟨h0, h1, h2, h3, h4, h5, h6, h7, h8, h9, h10, h11⟩ := h
  intro j u hj
  have hl : j < 12 := by have := (List.getElem?_eq_some_iff.1 hj).1; simpa [Rec.vs] using this
  rcases j with _ | _ | _ | _ | _ | _ | _ | _ | _ | _ | _ | _ | j
  all_goals first
    | (simp only [Rec.vs, List.getElem?_cons_zero, List.getElem?_cons_succ, Option.some.injEq] at hj; subst hj; assumption)
    | omega
theorem rec_one (r : Rec) : ∀ u ∈ r.vs, u.oneCell' = true := by
  intro u hu
  simp only [Rec.vs, List.mem_cons, List.not_mem_nil, or_false] at hu
  rcases hu with rfl | rfl | rfl | rfl | rfl | rfl | rfl | rfl | rfl | rfl | rfl | rfl <;> rfl

theorem recAt_new (w : World) (r : Rec) : RecAt (w.alloc (.cells #[.int .u64 r.sq, .int .u64 r.tm, .int .i64 r.gi, .int .u64 r.gg, .int .i64 r.p, .int .i64 r.kd, .int .u64 r.a0, .int .u64 r.a1, .int .u64 r.a2, .int .u64 r.a3, .int .u64 r.a4, .int .i64 r.cd] 42)) w.heap.size 0 r := by
  have e : ∀ (j : Nat) (u : Value), (#[Value.int .u64 r.sq, .int .u64 r.tm, .int .i64 r.gi, .int .u64 r.gg, .int .i64 r.p, .int .i64 r.kd, .int .u64 r.a0, .int .u64 r.a1, .int .u64 r.a2, .int .u64 r.a3, .int .u64 r.a4, .int .i64 r.cd] : Array Value)[j]? = some u → (w.alloc (.cells #[.int .u64 r.sq, .int .u64 r.tm, .int .i64 r.gi, .int .u64 r.gg, .int .i64 r.p, .int .i64 r.kd, .int .u64 r.a0, .int .u64 r.a1, .int .u64 r.a2, .int .u64 r.a3, .int .u64 r.a4, .int .i64 r.cd] 42)).cell? ⟨w.heap.size, j, none⟩ = some u := by
    intro j u h
    unfold World.cell?
    rw [World.alloc_heap_new]
    simpa using h
  exact ⟨e 0 _ rfl, e 1 _ rfl, e 2 _ rfl, e 3 _ rfl, e 4 _ rfl, e 5 _ rfl, e 6 _ rfl, e 7 _ rfl, e 8 _ rfl, e 9 _ rfl, e 10 _ rfl, e 11 _ rfl⟩

theorem infoRec : (Try.prog.info? 42).map (fun i => (i.zero, i.size, i.bytes)) = some (some (.agg #[.int .u64 0, .int .u64 0, .int .i64 0, .int .u64 0, .int .i64 0, .int .i64 0, .int .u64 0, .int .u64 0, .int .u64 0, .int .u64 0, .int .u64 0, .int .i64 0]), 12, 96) := by kernel_rfl

set_option maxHeartbeats 400000 in
theorem all1_is (r : Rec) (w : World) : Calls Try.prog 36 #[.agg #[.int .u64 r.sq, .int .u64 r.tm, .int .i64 r.gi, .int .u64 r.gg, .int .i64 r.p, .int .i64 r.kd, .int .u64 r.a0, .int .u64 r.a1, .int .u64 r.a2, .int .u64 r.a3, .int .u64 r.a4, .int .i64 r.cd]] w fun e w' => e = .returned (.bool true) ∧ w.heap.size < w'.heap.size ∧ Below w.heap.size w w' := by
  go_enter Try.func36, Try.ntmps36
  go_wp2
  go_ret
  refine ⟨rfl, by simp, ?_⟩
  exact (Below.refl _ w).alloc (by omega) _

set_option maxRecDepth 100000 in
set_option maxHeartbeats 2000000 in
theorem pickAll_row (b g n : Nat) (L : Nat → Rec) (m : Nat) (w : World) (h : Ring w b g n L m) (hbg : b < w.heap.size ∧ g < w.heap.size) :
    Calls Try.prog 33 #[.pointer (some ⟨b, 0, none⟩), .func (.func 36) #[] #[]] w fun e w' => ∃ v, e = .returned v ∧ w'.ownsRow w.heap.size 42 12 v (min m n) ((live L n m).flatMap Rec.vs) ∧ Below w.heap.size w w' := by
  obtain ⟨hh, hat, hne, hlo, hhi, hseq, hfrb, hfrg⟩ := h
  obtain ⟨i0, hi, hz0, hz1, hz2⟩ := info_parts infoRec
  have CL := lost_is b g n m w hh hlo hhi (by omega)
  have CN := len_is b g n m w hh hlo hhi (by omega)
  have hx : min m n ≤ m ∧ min m n ≤ n := by omega
  unfold live
  generalize min m n = x at *
  obtain ⟨hxm, hxn⟩ := hx
  obtain ⟨y, hye, hy⟩ : ∃ y, m - x = y ∧ y < 2 ^ 62 := ⟨_, rfl, by omega⟩
  simp only [hye] at CL CN ⊢
  clear hye
  obtain ⟨⟨kc, hs⟩, hq⟩ := hh
  go_enter Try.func33, Try.ntmps33
  go_wp2_with fail
  refine CL.mono ?_
  rintro e w1 ⟨rfl, rfl⟩
  go_wp2_with fail
  refine CN.mono ?_
  rintro e w1 ⟨rfl, rfl⟩
  go_wp2
  go_loopw [4, 13] (fun v i wr => ∃ k : Nat, k ≤ x ∧ i = .int .i64 k ∧ wr.ownsRow w.heap.size 42 12 v k (((List.range k).map fun i => L ((y + 1 + i) % n)).flatMap Rec.vs) ∧ Below w.heap.size w wr) (fun _ i _ => x - (intOf i).toNat)
  case atStart => exact ⟨0, Nat.zero_le _, rfl, World.ownsRow_nil _ _ _ _, Below.refl _ _⟩
  case round =>
    obtain ⟨k, hk, rfl, hown, hb⟩ := hrel
    by_cases hlt : k < x
    · have C := fun w' (h0 : w'.cell? ⟨b, 0, none⟩ = some (.slice (some ⟨g, 0, none⟩) n kc)) (h1 : w'.cell? ⟨b, 1, none⟩ = some (.int .u64 m)) => at_is b g n m (y + 1 + k) w' ⟨⟨kc, h0⟩, h1⟩ hlo hhi (by omega)
      have hup : Hid (((List.range (k + 1)).map fun i => L ((y + 1 + i) % n)).flatMap Rec.vs = (((List.range k).map fun i => L ((y + 1 + i) % n)).flatMap Rec.vs) ++ (L ((y + 1 + k) % n)).vs) := by
        show _ = _
        rw [List.range_succ]; simp
      have hp : (y + 1 + k) % n < n := Nat.mod_lt _ (by omega)
      generalize hpe : (y + 1 + k) % n = p at *
      clear hpe
      have e1 : ((y + 1 + k : Nat) : Int) = IntKind.u64.wrap ((y : Int) + 1 + IntKind.u64.wrap (k : Int)) := by rw [IntKind.wrap_u64, IntKind.wrap_u64]; omega
      rw [e1] at C
      clear e1
      obtain ⟨r0, r1, r2, r3, r4, r5, r6, r7, r8, r9, r10, r11⟩ := (hat p hp).block (hb.block g hbg.2)
      clear hat
      have hq' : wr.cell? ⟨b, 1, none⟩ = some (.int .u64 m) := (hb.cell (p := ⟨b, 1, none⟩) hbg.1).trans hq
      have hs' : wr.cell? ⟨b, 0, none⟩ = some (.slice (some ⟨g, 0, none⟩) n kc) := (hb.cell (p := ⟨b, 0, none⟩) hbg.1).trans hs
      have hpn : (p : Int) < n := by omega
      have hx4 : x ≤ 256 := by omega
      have hp0 : (0 : Int) ≤ (p : Int) := by omega
      have hn1 := World.new_ne wr _ hs'
      have hn2 := World.new_ne wr _ r0
      go_wp2_with fail
      go_region_held3 (fun w' => w'.cell? ⟨b, 0, none⟩ = some (.slice (some ⟨g, 0, none⟩) n kc) ∧ w'.cell? ⟨b, 1, none⟩ = some (.int .u64 m) ∧ w'.cell? ⟨g, p * 12, none⟩ = some (.int .u64 (L p).sq) ∧ w'.cell? ⟨g, p * 12 + 1, none⟩ = some (.int .u64 (L p).tm) ∧ w'.cell? ⟨g, p * 12 + 2, none⟩ = some (.int .i64 (L p).gi) ∧ w'.cell? ⟨g, p * 12 + 3, none⟩ = some (.int .u64 (L p).gg) ∧ w'.cell? ⟨g, p * 12 + 4, none⟩ = some (.int .i64 (L p).p) ∧ w'.cell? ⟨g, p * 12 + 5, none⟩ = some (.int .i64 (L p).kd) ∧ w'.cell? ⟨g, p * 12 + 6, none⟩ = some (.int .u64 (L p).a0) ∧ w'.cell? ⟨g, p * 12 + 7, none⟩ = some (.int .u64 (L p).a1) ∧ w'.cell? ⟨g, p * 12 + 8, none⟩ = some (.int .u64 (L p).a2) ∧ w'.cell? ⟨g, p * 12 + 9, none⟩ = some (.int .u64 (L p).a3) ∧ w'.cell? ⟨g, p * 12 + 10, none⟩ = some (.int .u64 (L p).a4) ∧ w'.cell? ⟨g, p * 12 + 11, none⟩ = some (.int .i64 (L p).cd)) (go_keep) (first | (go_at_call 30; refine (C _ ?_ ?_).mono ?_; (simp [*]); (simp [*]); rintro e w' ⟨rfl, rfl⟩))
      all_goals
        have hw : ∃ w2 : World, w2 = (wr.alloc (.cells #[.int .u64 (L p).sq, .int .u64 (L p).tm, .int .i64 (L p).gi, .int .u64 (L p).gg, .int .i64 (L p).p, .int .i64 (L p).kd, .int .u64 (L p).a0, .int .u64 (L p).a1, .int .u64 (L p).a2, .int .u64 (L p).a3, .int .u64 (L p).a4, .int .i64 (L p).cd] 42)).drew := ⟨_, rfl⟩
        obtain ⟨w2, hw⟩ := hw
        have hsz2 : w2.heap.size = wr.heap.size + 1 := by rw [hw]; simp [World.drew]
        have hb2 : Below wr.heap.size wr w2 := by rw [hw]; exact ((Below.refl _ wr).alloc (by omega) _).drew
        have hr2 : RecAt w2 wr.heap.size 0 (L p) := by rw [hw]; exact recAt_new wr (L p)
        rw [← hw]
        clear hw
        have hown2 := below_own hown hb2
        obtain ⟨c0, c1, c2, c3, c4, c5, c6, c7, c8, c9, c10, c11⟩ := rec0 hr2
        have hb2' := hb.trans (hb2.mono (B' := w.heap.size) hb.size)
        go_wp2_with (first | (go_at_call 36; refine (all1_is (L p) _).mono ?_; rintro e w3 ⟨rfl, hsz3, hb3⟩; (obtain ⟨d0, d1, d2, d3, d4, d5, d6, d7, d8, d9, d10, d11⟩ := rec0 (hr2.block (hb3.block wr.heap.size (by omega)))); (have hown3 := below_own hown2 hb3); (have hb3' := hb2'.trans (hb3.mono (B' := w.heap.size) (by have := hb.size; omega)))) | (at_builtin; refine wpList_append_own _ rfl _ _ 22 rfl w.heap.size 42 i0 (.agg #[.int .u64 0, .int .u64 0, .int .i64 0, .int .u64 0, .int .i64 0, .int .i64 0, .int .u64 0, .int .u64 0, .int .u64 0, .int .u64 0, .int .u64 0, .int .i64 0]) 12 96 Try.underlying22 hi hz0 hz1 hz2 rfl (by decide) _ _ _ rfl (hown3.alloc _) ⟨w3.heap.size, 0, none⟩ 1 1 (L p).vs rfl rfl (rec_news (recAt_new w3 (L p))) (rec_one _) (by unfold maxLen; omega) (by omega) (by have := hb3'.size; simp; omega) ?_; intro v' w1 hown' hgrow _))
        go_roundw
        case rel => exact ⟨k + 1, by omega, by go_num, by rw [hup.out]; exact hown', (hb3'.alloc (by have := hb3'.size; omega) _).grown hgrow (by have := hb3'.size; simp; omega) (fun j hj => (hown3.lt j hj).1)⟩
        case measure => simp [intOf]; omega
    · have h8 : k = x := by omega
      subst h8
      go_wp2
      go_ret
      exact ⟨_, rfl, hown, hb⟩

set_option maxHeartbeats 400000 in
theorem all_row (b g n : Nat) (L : Nat → Rec) (m : Nat) (w : World) (h : Ring w b g n L m) (hbg : b < w.heap.size ∧ g < w.heap.size) :
    Calls Try.prog 27 #[.pointer (some ⟨b, 0, none⟩)] w fun e w' => ∃ v, e = .returned v ∧ w'.ownsRow w.heap.size 42 12 v (min m n) ((live L n m).flatMap Rec.vs) ∧ Below w.heap.size w w' := by
  have C := pickAll_row b g n L m w h hbg
  go_enter Try.func27, Try.ntmps27
  go_wp2_with fail
  refine C.mono ?_
  rintro e w1 ⟨v, rfl, ho, hb⟩
  go_wp2
  go_ret
  exact ⟨_, rfl, ho, hb⟩
end Go.Proofs.Ythmjhepjlgcgfaa
