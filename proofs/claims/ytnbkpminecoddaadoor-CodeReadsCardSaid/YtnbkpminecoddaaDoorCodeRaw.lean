/- code.raw, by walk: a line of bytes in hexadecimal digits. -/
import Derived.Test.YtnbkpminecoddaaDoorCodeShape
import Derived.Test.YtnbkpminecoddaaDoorOwnKit
import Derived.Test.YtnbkpminecoddaaDoorCodeBytes
import Derived.Lib.SlBytesConst
import Derived.Lib.SmallJoins
import Derived.ArgAppend
import Derived.Deep.RegionHeld3
import Derived.OrdersHeld
import Derived.Laws.BytesArg
namespace Go.Proofs.YtnbkpminecoddaaDoor
open Go.RowKit
set_option linter.unusedVariables false
set_option linter.unusedSimpArgs false

/-- A hexadecimal digit. -/
def digN (n : Nat) : Nat := if n < 10 then 48 + n else 87 + n
/-- A byte's two. -/
def hexI (c : UInt8) : List Int := [(digN (c.toNat / 16) : Int), (digN (c.toNat % 16) : Int)]
def rawI (l : List UInt8) : List Int := [114, 97, 119, 32] ++ l.flatMap hexI
theorem rawI_snoc (l : List UInt8) (k : Nat) (hk : k < l.length) : rawI (l.take (k + 1)) = rawI (l.take k) ++ hexI (l[k]'hk) := by
  unfold rawI
  rw [List.take_succ_eq_append_getElem hk, List.flatMap_append]
  simp
theorem rawI_len (l : List UInt8) : (rawI l).length = 4 + 2 * l.length := by
  unfold rawI
  induction l with
  | nil => rfl
  | cons c l ih =>
    simp only [List.flatMap_cons, List.length_append, List.length_cons, List.length_nil] at ih ⊢
    simp only [hexI, List.length_cons, List.length_nil]
    omega
def u8V (L : List Int) : List Value := L.map fun x => Value.int .u8 x
/-- The digits, all. -/
def hexD : ByteArray := ⟨#[48, 49, 50, 51, 52, 53, 54, 55, 56, 57, 97, 98, 99, 100, 101, 102]⟩
theorem hexD_at (i : Nat) (h : i < 16) : (hexD[i]'(by show i < 16; exact h)).toNat = digN i := by
  have : ∀ i : Fin 16, (hexD[i.val]'(by show i.val < 16; exact i.isLt)).toNat = digN i.val := by decide +kernel
  exact this ⟨i, h⟩

theorem dig_if {a : Int} (n : Nat) (hn : n < 16) (ha : a = n) {X : Result Value} {w : World} : (if h : 0 ≤ a ∧ a < 16 then Result.ok (Value.int .u8 (((⟨#[48, 49, 50, 51, 52, 53, 54, 55, 56, 57, 97, 98, 99, 100, 101, 102]⟩ : ByteArray)[a.toNat]'(by show a.toNat < 16; omega)).toNat : Int)) w else X) = Result.ok (.int .u8 (digN n : Int)) w := by
  subst ha
  rw [dif_pos ⟨by omega, by omega⟩]
  have := hexD_at n hn
  rw [← this]
  rfl
theorem low_four (n : Nat) (h : n < 256) : bits .and .u8 (n : Int) 15 = ((n % 16 : Nat) : Int) := by
  have : ∀ i : Fin 256, bits .and .u8 (i.val : Int) 15 = ((i.val % 16 : Nat) : Int) := by decide +kernel
  exact this ⟨n, h⟩
/-- The letters that are there: a row of the call's own, or the literal. -/
def RawR (B : Nat) (v : Value) (n : Nat) (xs : List Value) (w : World) : Prop :=
  ∃ g' cap', v = .slice (some ⟨g', 0, none⟩) n cap' ∧ B ≤ g' ∧ g' < w.heap.size ∧ xs.length = n ∧ (∀ j u, xs[j]? = some u → w.cell? ⟨g', j, none⟩ = some u) ∧ (cap' = n ∨ w.ownsRow B 5 1 v n xs)
theorem RawR.form {B : Nat} {v : Value} {n : Nat} {xs : List Value} {w : World} (h : RawR B v n xs w) : ∃ g' cap', v = .slice (some ⟨g', 0, none⟩) n cap' := by
  obtain ⟨g', cap', hv, _⟩ := h
  exact ⟨g', cap', hv⟩
theorem RawR.below {B : Nat} {v : Value} {n : Nat} {xs : List Value} {w w' : World} (h : RawR B v n xs w) (hb : Below w.heap.size w w') : RawR B v n xs w' := by
  obtain ⟨g', cap', hv, hg, hlt, hlen, hc, hor⟩ := h
  exact ⟨g', cap', hv, hg, Nat.lt_of_lt_of_le hlt hb.size, hlen, fun j u hu => (hb.cell (p := ⟨g', j, none⟩) hlt).trans (hc j u hu), hor.imp id (fun ho => below_own ho hb)⟩
theorem raw_start (w : World) (j : Nat) (u : Value) (h : (u8V (rawI []))[j]? = some u) : (w.alloc (.cells #[.int .u8 114, .int .u8 97, .int .u8 119, .int .u8 32] 5 (4, 5))).cell? ⟨w.heap.size, j, none⟩ = some u := by
  have hb : (w.alloc (.cells #[.int .u8 114, .int .u8 97, .int .u8 119, .int .u8 32] 5 (4, 5))).heap[w.heap.size]? = some (.cells #[.int .u8 114, .int .u8 97, .int .u8 119, .int .u8 32] 5 (4, 5)) := heap_alloc_new w _
  rw [cell_of_row _ w.heap.size j _ _ _ hb]
  have e : u8V (rawI []) = [.int .u8 114, .int .u8 97, .int .u8 119, .int .u8 32] := rfl
  rw [e] at h
  simpa using h
theorem RawR.app {B : Nat} {v : Value} {n : Nat} {xs : List Value} {w : World} (h : RawR B v n xs w) (hB : B ≤ w.heap.size) (ty : TypeId) (ad : Addr) (m c : Nat) (news : List Value) (hl : news.length = m) (hnews : ∀ j u, news[j]? = some u → w.cell? (ad.add j) = some u) (h1 : ∀ u ∈ news, u.oneCell' = true) (hm : 0 < m) (hn : 0 < n) (hs : n + m ≤ 4096) :
    ∃ v' w', (Builtin.append_ #[22, 22] ty #[v, .slice (some ad) m c]).run Tryd.prog w = .ok v' w' ∧ RawR B v' (n + m) (xs ++ news) w' ∧ Below B w w' := by
  obtain ⟨i0, hi, hz0, hz1, hz2⟩ := info_parts infoU8
  obtain ⟨g', cap', rfl, hg, hglt, hlen, hc, hor⟩ := h
  have key : ∀ B' v' w', B ≤ B' → w'.ownsRow B' 5 1 v' (n + m) (xs ++ news) → RawR B v' (n + m) (xs ++ news) w' := by
    intro B' v' w' hBB ho
    obtain ⟨A, cap2, rfl⟩ := own_slice ho
    obtain ⟨g2, rfl⟩ := own_form ho (by omega)
    refine ⟨g2, cap2, rfl, Nat.le_trans hBB (ho.lt g2 rfl).1, (ho.lt g2 rfl).2, by rw [List.length_append, hlen, hl], fun j u hu => ?_, Or.inr (own_mono ho hBB)⟩
    have := ho.cells (g := g2) rfl j u hu
    have e : (⟨g2, 0, none⟩ : Addr).add j = ⟨g2, j, none⟩ := by simp [Addr.add]; omega
    rwa [e] at this
  rcases hor with hcap | ho
  · obtain ⟨v', w', hr, ho, hg2⟩ := run_append_arg_grows (P := Tryd.prog) w 22 ty 5 i0 (.int .u8 0) 1 1 underU8 hi hz0 hz1 hz2 rfl (by decide) ⟨g', 0, none⟩ n cap' xs (by rw [hlen, Nat.mul_one]) (fun j u hu => by
      have e : (⟨g', 0, none⟩ : Addr).add j = ⟨g', j, none⟩ := by simp [Addr.add]; omega
      rw [e]; exact hc j u hu) ad m c news (by rw [hl, Nat.mul_one]) hnews (by omega) (by unfold maxLen; omega) (by omega)
    exact ⟨v', w', hr, key _ _ _ hB ho, (Below.refl B w).grown hg2 hB (fun k e => by cases e)⟩
  · obtain ⟨v', w', hr, ho2, hg2, _⟩ := run_append_own (P := Tryd.prog) w B 22 ty 5 i0 (.int .u8 0) 1 1 underU8 hi hz0 hz1 hz2 rfl (by decide) _ n xs ho ad m c news (by rw [hl, Nat.mul_one]) hnews h1 (by unfold maxLen; omega) (by omega) hB
    exact ⟨v', w', hr, key _ _ _ (Nat.le_refl _) ho2, (Below.refl B w).grown hg2 hB (fun k e => (ho.lt k e).1)⟩
theorem step_append_raw {ops : Array Oper} {o : Oper} {a : Act} {w : World} {K : Act → World → Prop} {Q : Exit → Act → World → Prop} {E : Prop} (hgd : o.guard = none) (s x : Operand)
    (ho : o.op = .call { callee := .builtin .append, args := #[s, x], argTypes := #[22, 22] })
    {B : Nat} {v : Value} {n : Nat} {xs : List Value} (h : RawR B v n xs w) (hs : a.eval s = v) (hB : B ≤ w.heap.size) (ad : Addr) (m c : Nat) (news : List Value) (hx : a.eval x = .slice (some ad) m c) (hl : news.length = m) (hnews : ∀ j u, news[j]? = some u → w.cell? (ad.add j) = some u) (h1 : ∀ u ∈ news, u.oneCell' = true) (hm : 0 < m) (hn : 0 < n) (hsz : n + m ≤ 4096)
    (hK : ∀ v' w', RawR B v' (n + m) (xs ++ news) w' → Below B w w' → K (a.put o.dst v') w') :
    if Region.wanted o (yielded ops a.tmps) = true then Oper.wp Tryd.prog o a w K Q else E := by
  have hw : Region.wanted o (yielded ops a.tmps) = true := by simp [Region.wanted, hgd]
  rw [if_pos hw]
  obtain ⟨v', w', hrun, h2, h3⟩ := h.app hB o.type ad m c news hl hnews h1 hm hn hsz
  unfold Oper.wp execOp
  simp only [ho, resolve, invoke, builtin, Sem.run_bind, Sem.run_pure, Result.andThen_ok, List.map_toArray, List.map_cons, List.map_nil, hs, hx, hrun]
  exact hK v' w' h2 h3
set_option maxRecDepth 100000 in
set_option maxHeartbeats 2000000 in
theorem raw_is (g o cap : Nat) (l : List UInt8) (h1 : 1 ≤ l.length) (h4 : l.length ≤ 4) (w : World) (hg : g < w.heap.size) (hc : ∀ i (hi : i < l.length), w.cell? ⟨g, o + i, none⟩ = some (.int .u8 ((l[i]'hi).toNat : Int))) :
    Calls Tryd.prog 25 #[.slice (some ⟨g, o, none⟩) l.length cap] w fun e w' => e = .returned (.string (strOfNums (rawI l))) ∧ Below w.heap.size w w' := by
  have HC := Lib.hid hc
  clear hc
  have hcv := Joins.run_convert_bytes_const_at w 22 5 #[.int .u8 114, .int .u8 97, .int .u8 119, .int .u8 32] 4 4 w.heap.size rfl Tryd.underlying22 Tryd.underlying5
  go_enter Tryd.func25, Tryd.ntmps25
  go_wp2_with fail
  go_loopw [3, 10] (fun v i wr => ∃ k : Nat, k ≤ l.length ∧ i = .int .i64 k ∧ RawR w.heap.size v (4 + 2 * k) (u8V (rawI (l.take k))) wr ∧ Below w.heap.size w wr) (fun _ i _ => l.length - (intOf i).toNat)
  case atStart => exact ⟨0, Nat.zero_le _, rfl, ⟨w.heap.size, 4, rfl, Nat.le_refl _, by simp, rfl, raw_start w, Or.inl rfl⟩, (Below.refl _ _).alloc (Nat.le_refl _) _⟩
  case round =>
    obtain ⟨k, hk, rfl, hR, hb⟩ := hrel
    obtain ⟨g', cap', rfl, hgB, hglt, hlen', hcells, hor⟩ := id hR
    by_cases hlt : k < l.length
    · have hcu : (l[k]'hlt).toNat < 256 := by have := (l[k]'hlt).toNat_lt; omega
      have r0 : wr.cell? ⟨g, o + k, none⟩ = some (.int .u8 ((l[k]'hlt).toNat : Int)) := (hb.cell (p := ⟨g, o + k, none⟩) hg).trans (HC.out k hlt)
      have hk1 : (k : Int) < (l.length : Int) := by omega
      have hk0 : (0 : Int) ≤ (k : Int) := by omega
      go_wp2_with fail
      --W
      refine wp_region_held_drew (S := fun _ => True) (by kernel_rfl) trivial (fun hHeld => ?_)
      refine wpAnyH_take (i := 0) (v := ?_) rfl (by kernel_rfl) (by kernel_rfl) (by kernel_rfl) (fun _ _ _ h => h) (Or.inl ⟨by kernel_rfl, by (intro w' hSw; go_simp; first | done | (with_reducible rfl))⟩) hHeld ?_
      (try simp only [Act.put, List.getElem_toArray, List.getElem_cons_zero, List.getElem_cons_succ, List.setIfInBounds_toArray, List.set_cons_zero, List.set_cons_succ])
      refine wpAnyH_take (i := 1) (v := ?_) rfl (by kernel_rfl) (by kernel_rfl) (by kernel_rfl) (fun _ _ _ h => h) (Or.inl ⟨by kernel_rfl, by (intro w' hSw; go_simp; first | done | (with_reducible rfl))⟩) hHeld ?_
      (try simp only [Act.put, List.getElem_toArray, List.getElem_cons_zero, List.getElem_cons_succ, List.setIfInBounds_toArray, List.set_cons_zero, List.set_cons_succ])
      refine wpAnyH_take (i := 2) (v := ?_) rfl (by kernel_rfl) (by kernel_rfl) (by kernel_rfl) (fun _ _ _ h => h) (Or.inl ⟨by kernel_rfl, by (intro w' hSw; go_simp; first | done | (with_reducible rfl))⟩) hHeld ?_
      (try simp only [Act.put, List.getElem_toArray, List.getElem_cons_zero, List.getElem_cons_succ, List.setIfInBounds_toArray, List.set_cons_zero, List.set_cons_succ])
      refine wpAnyH_take (i := 3) (v := .int .u8 (digN ((l[k]'hlt).toNat / 16) : Int)) rfl (by kernel_rfl) (by kernel_rfl) (by kernel_rfl) (fun _ _ _ h => h) (Or.inl ⟨by kernel_rfl, by (intro w' hSw; go_simp; rw [dig_if ((l[k]'hlt).toNat / 16) (by omega) (by omega)]; rfl)⟩) hHeld ?_
      (try simp only [Act.put, List.getElem_toArray, List.getElem_cons_zero, List.getElem_cons_succ, List.setIfInBounds_toArray, List.set_cons_zero, List.set_cons_succ])
      refine wpAnyH_take (i := 4) (v := ?_) rfl (by kernel_rfl) (by kernel_rfl) (by kernel_rfl) (fun _ _ _ h => h) (Or.inl ⟨by kernel_rfl, by (intro w' hSw; go_simp; first | done | (with_reducible rfl))⟩) hHeld ?_
      (try simp only [Act.put, List.getElem_toArray, List.getElem_cons_zero, List.getElem_cons_succ, List.setIfInBounds_toArray, List.set_cons_zero, List.set_cons_succ])
      refine wpAnyH_take (i := 5) (v := ?_) rfl (by kernel_rfl) (by kernel_rfl) (by kernel_rfl) (fun _ _ _ h => h) (Or.inl ⟨by kernel_rfl, by (intro w' hSw; go_simp; first | done | (with_reducible rfl))⟩) hHeld ?_
      (try simp only [Act.put, List.getElem_toArray, List.getElem_cons_zero, List.getElem_cons_succ, List.setIfInBounds_toArray, List.set_cons_zero, List.set_cons_succ])
      refine wpAnyH_take (i := 6) (v := .int .u8 (digN ((l[k]'hlt).toNat % 16) : Int)) rfl (by kernel_rfl) (by kernel_rfl) (by kernel_rfl) (fun _ _ _ h => h) (Or.inl ⟨by kernel_rfl, by (intro w' hSw; go_simp; rw [dig_if ((l[k]'hlt).toNat % 16) (by omega) (low_four _ hcu)]; rfl)⟩) hHeld ?_
      (try simp only [Act.put, List.getElem_toArray, List.getElem_cons_zero, List.getElem_cons_succ, List.setIfInBounds_toArray, List.set_cons_zero, List.set_cons_succ])
      refine wpAnyH_ready (rs := [7]) (by kernel_rfl) (by simp) ?_
      refine AllReadyH.cons rfl (fun K hK => ?_) AllReadyH.nil
      go_simp
      skip
      try dsimp only
      clear hHeld
      refine hK.out _ _ trivial (fun hHeld => ?_)
      clear hK K
      (try simp only [Act.put, List.getElem_toArray, List.getElem_cons_zero, List.getElem_cons_succ, List.setIfInBounds_toArray, List.set_cons_zero, List.set_cons_succ])
      refine wpAnyH_ready (rs := [8]) (by kernel_rfl) (by simp) ?_
      refine AllReadyH.cons rfl (fun K hK => ?_) AllReadyH.nil
      refine step_append_raw rfl (.tmp 14) (.tmp 21) rfl (hR.below ((Below.refl _ wr).drew.alloc (Nat.le_refl _) _)) rfl (by have := hb.size; simp; omega) ⟨wr.heap.size, 0, none⟩ 2 2 [Value.int .u8 (digN ((l[k]'hlt).toNat / 16) : Int), .int .u8 (digN ((l[k]'hlt).toNat % 16) : Int)] rfl rfl (news_new wr.drew 5 #[Value.int .u8 (digN ((l[k]'hlt).toNat / 16) : Int), .int .u8 (digN ((l[k]'hlt).toNat % 16) : Int)]) (by simp [Value.oneCell']) (by decide) (by omega) (by omega) ?_
      intro v' w2 hr2 hb2
      obtain ⟨g2, cap2, rfl⟩ := hr2.form
      try dsimp only
      clear hHeld
      refine hK.out _ _ trivial (fun hHeld => ?_)
      clear hK K
      (try simp only [Act.put, List.getElem_toArray, List.getElem_cons_zero, List.getElem_cons_succ, List.setIfInBounds_toArray, List.set_cons_zero, List.set_cons_succ])
      refine wpAnyH_take (i := 9) (v := ?_) rfl (by kernel_rfl) (by kernel_rfl) (by kernel_rfl) (fun _ _ _ h => h) (Or.inl ⟨by kernel_rfl, by (intro w' hSw; go_simp; first | done | (with_reducible rfl))⟩) hHeld ?_
      (try simp only [Act.put, List.getElem_toArray, List.getElem_cons_zero, List.getElem_cons_succ, List.setIfInBounds_toArray, List.set_cons_zero, List.set_cons_succ])
      refine wpAnyH_done (by kernel_rfl) ?_ _
      go_wp2_with fail
      go_roundw
      case rel => exact ⟨k + 1, by omega, by go_num, by rw [rawI_snoc l k hlt, show 4 + 2 * (k + 1) = 4 + 2 * k + 2 from by omega, show u8V (rawI (l.take k) ++ hexI (l[k]'hlt)) = u8V (rawI (l.take k)) ++ u8V (hexI (l[k]'hlt)) from by simp [u8V]]; exact hr2, (hb.drew.alloc hb.size _).trans hb2⟩
      case measure => simp [intOf]; omega
    · have hkn : k = l.length := by omega
      subst hkn
      have hcv2 := run_convert_bytes_arg (P := Tryd.prog) wr 22 5 Tryd.underlying22 Tryd.underlying5 g' 0 (4 + 2 * l.length) cap' (rawI l) (rawI_len l) (fun i hi => by
        have e := hcells i ((u8V (rawI (l.take l.length)))[i]'(by rw [hlen']; exact hi)) (List.getElem?_eq_getElem _)
        rw [Nat.zero_add, e]
        simp [u8V, List.getD, List.getElem?_eq_getElem (show i < (rawI l).length by rw [rawI_len]; exact hi)]) 9 Tryd.underlying9
      go_wp2
      go_ret
      exact ⟨rfl, hb⟩
end Go.Proofs.YtnbkpminecoddaaDoor
