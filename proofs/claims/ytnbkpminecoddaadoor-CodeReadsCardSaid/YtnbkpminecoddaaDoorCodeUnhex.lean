/- code.bytesOf, by walk: hexadecimal digits read. -/
import Derived.Test.YtnbkpminecoddaaDoorCodeRefN
import Derived.Test.YtnbkpminecoddaaDoorCodeRaw
import Derived.Test.YtnbkpminecoddaaDoorShelf2
namespace Go.Proofs.YtnbkpminecoddaaDoor
open Go.RowKit
set_option linter.unusedVariables false
set_option linter.unusedSimpArgs false

/-- A digit's value; 0 of what is none. -/
def hv (c : UInt8) : Nat := (Lib.indexByte hexD.data.toList c).toNat
theorem hv_lt (c : UInt8) : hv c < 16 := by
  have key : ∀ (l : List UInt8) (c : UInt8), l ≠ [] → (Lib.indexByte l c).toNat < l.length := by
    intro l
    induction l with
    | nil => intro c h; exact absurd rfl h
    | cons a l ih =>
      intro c _
      unfold Lib.indexByte
      split
      · simp
      · by_cases hl : l = []
        · subst hl; simp [Lib.indexByte]
        · have := ih c hl
          split <;> simp <;> omega
  exact key _ c (by decide)
def unhex : List UInt8 → List UInt8
  | a :: b :: r => UInt8.ofNat (16 * hv a + hv b) :: unhex r
  | _ => []
theorem unhex_snoc : ∀ (k : Nat) (l : List UInt8), 2 * k + 1 < l.length → unhex (l.take (2 * (k + 1))) = unhex (l.take (2 * k)) ++ [UInt8.ofNat (16 * hv (l.getD (2 * k) 0) + hv (l.getD (2 * k + 1) 0))]
  | 0, a :: b :: r, h => by simp [unhex]
  | k + 1, a :: b :: r, h => by
    have e1 : (a :: b :: r).take (2 * (k + 1 + 1)) = a :: b :: r.take (2 * (k + 1)) := rfl
    have e2 : (a :: b :: r).take (2 * (k + 1)) = a :: b :: r.take (2 * k) := rfl
    have e3 : (a :: b :: r).getD (2 * (k + 1)) 0 = r.getD (2 * k) 0 := rfl
    have e4 : (a :: b :: r).getD (2 * (k + 1) + 1) 0 = r.getD (2 * k + 1) 0 := rfl
    rw [e1, e2, e3, e4]
    simp only [unhex, List.cons_append]
    rw [unhex_snoc k r (by simp at h; omega)]
  | 0, [], h => by simp at h
  | 0, [_], h => by simp at h
  | k + 1, [], h => by simp at h
  | k + 1, [_], h => by simp at h
theorem unhex_len : ∀ l : List UInt8, (unhex l).length ≤ l.length
  | [] => by simp [unhex]
  | [_] => by simp [unhex]
  | _ :: _ :: r => by have := unhex_len r; simp [unhex]; omega
theorem unhex_odd : ∀ (k : Nat) (l : List UInt8), l.length ≤ 2 * k + 1 → 2 * k ≤ l.length → unhex (l.take (2 * k)) = unhex l
  | 0, [], _, _ => rfl
  | 0, [_], _, _ => rfl
  | k + 1, a :: b :: r, h1, h2 => by
    have := unhex_odd k r (by simp at h1; omega) (by simp at h2; omega)
    rw [show 2 * (k + 1) = 2 * k + 1 + 1 from by omega]
    simp only [List.take_succ_cons, unhex, this]
  | 0, _ :: _ :: _, h, _ => by simp at h
  | k + 1, [], _, h => by simp at h
  | k + 1, [_], _, h => by simp at h; omega
theorem or_hex (a b : Nat) (ha : a < 16) (hb : b < 16) : bits .or .i64 ((a : Int) * 16) (b : Int) = ((16 * a + b : Nat) : Int) := by
  have : ∀ (a b : Fin 16), bits .or .i64 ((a.val : Int) * 16) (b.val : Int) = ((16 * a.val + b.val : Nat) : Int) := by decide +kernel
  exact this ⟨a, ha⟩ ⟨b, hb⟩
theorem reads_b1 (W : World) (c : Nat) : Reads (W.alloc (.cells #[.int .u8 (c : Int)] 5)) (W.heap.size + 1) 1 (some ⟨W.heap.size, 0, none⟩) 1 [.int .u8 (c : Int)] :=
  ⟨rfl, fun _ => ⟨_, rfl, Nat.lt_succ_self _, fun j u hu => news_new W 5 #[.int .u8 (c : Int)] j u hu⟩⟩
set_option maxRecDepth 100000 in
set_option maxHeartbeats 4000000 in
theorem bytesOf_is (l : List UInt8) (hl : l.length ≤ 100000) (w : World) : Calls Tryd.prog 29 #[.string (strL l)] w fun e w' => ∃ v, e = .returned v ∧ w'.ownsRow w.heap.size 5 1 v (unhex l).length (bV (unhex l)) ∧ Below w.heap.size w w' := by
  obtain ⟨i0, hi, hz0, hz1, hz2⟩ := info_parts infoU8
  have hsz : (strL l).size = l.length := strL_size l
  go_enter Tryd.func29, Tryd.ntmps29
  go_wp2_with fail
  go_loopw [2, 3] (fun v i wr => ∃ k : Nat, i = .int .i64 ((2 * k : Nat) : Int) ∧ 2 * k ≤ l.length ∧ wr.ownsRow w.heap.size 5 1 v (unhex (l.take (2 * k))).length (bV (unhex (l.take (2 * k)))) ∧ Below w.heap.size w wr) (fun _ i _ => l.length + 2 - (intOf i).toNat)
  case atStart => exact ⟨0, rfl, Nat.zero_le _, World.ownsRow_nil _ _ _ _, Below.refl _ _⟩
  case round =>
    obtain ⟨k, rfl, hk, hown, hb⟩ := hrel
    obtain ⟨A', cap', rfl⟩ := own_slice hown
    obtain ⟨p, hp⟩ : ∃ p, p = 2 * k := ⟨_, rfl⟩
    by_cases hlt : 2 * k + 1 < l.length
    · have hp9 : (p : Int) < 100000 := by omega
      have hlt1 : (p : Int) + 1 < ((strL l).size : Int) := by omega
      simp only [← hp]
      have HP := Lib.hid (And.intro hp (And.intro hk (And.intro hlt (And.intro hl hsz))))
      have h1 : p < (strL l).size := by omega
      have h2 : p + 1 < (strL l).size := by omega
      have IB : ∀ (b : UInt8) w, Calls Tryd.prog 41 #[.string ⟨#[48, 49, 50, 51, 52, 53, 54, 55, 56, 57, 97, 98, 99, 100, 101, 102]⟩, .int .u8 (b.toNat : Int)] w fun e w' => e = .returned (.int .i64 (Lib.indexByte hexD.data.toList b)) ∧ w' = w := fun b w => by
        have := Tryd.strings_IndexByte hexD (b.toNat : Int) w
        rw [show (b.toNat : Int).toNat.toUInt8 = b from by simp] at this
        exact this
      have IB1 := IB ((strL l)[p]'h1)
      obtain ⟨u1, hu1⟩ : ∃ u1, u1 = hv ((strL l)[p]'h1) := ⟨_, rfl⟩
      have hx1 : max (Lib.indexByte hexD.data.toList ((strL l)[p]'h1)) 0 = (u1 : Int) := by rw [hu1]; unfold hv; omega
      have hu1l : u1 < 16 := by rw [hu1]; exact hv_lt _
      obtain ⟨p1, hp1⟩ : ∃ p1, p1 = p + 1 := ⟨_, rfl⟩
      have h2' : p1 < (strL l).size := by omega
      have IB2 := IB ((strL l)[p1]'h2')
      obtain ⟨u2, hu2⟩ : ∃ u2, u2 = hv ((strL l)[p1]'h2') := ⟨_, rfl⟩
      have hx2 : max (Lib.indexByte hexD.data.toList ((strL l)[p1]'h2')) 0 = (u2 : Int) := by rw [hu2]; unfold hv; omega
      have hu2l : u2 < 16 := by rw [hu2]; exact hv_lt _
      obtain ⟨g1, hg1⟩ : ∃ g1, g1 = 16 * u1 := ⟨_, rfl⟩
      have w1' : IntKind.i64.wrap ((u1 : Int) * 16) = (g1 : Int) := by rw [IntKind.wrap_i64]; omega
      obtain ⟨c, hc⟩ : ∃ c, c = 16 * u1 + u2 := ⟨_, rfl⟩
      have w2' : bits .or .i64 (g1 : Int) (u2 : Int) = (c : Int) := by rw [hc, hg1, ← or_hex u1 u2 hu1l hu2l, show ((16 * u1 : Nat) : Int) = (u1 : Int) * 16 from by omega]
      have w3' : IntKind.u8.wrap (c : Int) = (c : Int) := by rw [IntKind.wrap_u8]; omega
      have HV := Lib.hid (And.intro hx1 (And.intro hx2 (And.intro w1' (And.intro w2' w3'))))
      have hup := unhex_snoc k l hlt
      rw [← hp] at hup
      have e1 : l.getD p 0 = (strL l)[p]'h1 := by rw [List.getD_eq_getElem?_getD, List.getElem?_eq_getElem (by omega)]; rfl
      have e2 : l.getD (p + 1) 0 = (strL l)[p1]'h2' := by subst hp1; rw [List.getD_eq_getElem?_getD, List.getElem?_eq_getElem (by omega)]; rfl
      rw [e1, e2, ← hu1, ← hu2, ← hc] at hup
      have HU := Lib.hid hup
      have h7 : (l.take p).length ≤ l.length := by simp; omega
      have h8 := unhex_len (l.take p)
      have hlen9 : (unhex (l.take p)).length ≤ 100000 := by omega
      clear h7 h8
      have HLn := Lib.hid hlen9
      have HC := Lib.hid hc
      rw [← hp] at hown
      generalize unhex (l.take p) = pre at *
      clear hup e1 e2 hx1 hx2 w1' w2' w3' hu1 hu2 hg1 hc hlen9
      generalize Lib.indexByte hexD.data.toList ((strL l)[p]'h1) = X1 at *
      generalize Lib.indexByte hexD.data.toList ((strL l)[p1]'h2') = X2 at *
      have hlt2 : (p1 : Int) < ((strL l).size : Int) := by omega
      have m1 : IntKind.i64.wrap ((p : Int) + 1) = (p1 : Int) := by rw [IntKind.wrap_i64]; omega
      have HM := Lib.hid m1
      have HP1 := Lib.hid hp1
      clear m1 hp1 h2
      clear hp hk hlt hl hsz
      go_wp2_with fail
      have m1 := HM.out
      obtain ⟨hx1, hx2, w1', w2', w3'⟩ := HV.out
      have hownD := hown.drew
      refine wp_region_held_drew (S := (fun _ => True)) (by kernel_rfl) trivial (fun hHeld => ?_)
      refine wpAnyH_take (i := 0) (v := ?_) rfl (by kernel_rfl) (by kernel_rfl) (by kernel_rfl) (fun _ _ _ h => h) (Or.inl ⟨by kernel_rfl, by (intro w' hSw; go_simp; first | done | (with_reducible rfl) | rfl)⟩) hHeld ?_
      (try simp only [Act.put, List.getElem_toArray, List.getElem_cons_zero, List.getElem_cons_succ, List.setIfInBounds_toArray, List.set_cons_zero, List.set_cons_succ])
      refine wpAnyH_take (i := 1) (v := ?_) rfl (by kernel_rfl) (by kernel_rfl) (by kernel_rfl) (fun _ _ _ h => h) (Or.inl ⟨by kernel_rfl, by (intro w' hSw; go_simp; first | done | (with_reducible rfl) | rfl)⟩) hHeld ?_
      (try simp only [Act.put, List.getElem_toArray, List.getElem_cons_zero, List.getElem_cons_succ, List.setIfInBounds_toArray, List.set_cons_zero, List.set_cons_succ])
      refine wpAnyH_take (i := 2) (v := ?_) rfl (by kernel_rfl) (by kernel_rfl) (by kernel_rfl) (fun _ _ _ h => h) (Or.inl ⟨by kernel_rfl, by (intro w' hSw; go_simp; first | done | (with_reducible rfl) | rfl)⟩) hHeld ?_
      (try simp only [Act.put, List.getElem_toArray, List.getElem_cons_zero, List.getElem_cons_succ, List.setIfInBounds_toArray, List.set_cons_zero, List.set_cons_succ])
      refine wpAnyH_take (i := 3) (v := ?_) rfl (by kernel_rfl) (by kernel_rfl) (by kernel_rfl) (fun _ _ _ h => h) (Or.inl ⟨by kernel_rfl, by (intro w' hSw; go_simp; first | done | (with_reducible rfl) | rfl)⟩) hHeld ?_
      (try simp only [Act.put, List.getElem_toArray, List.getElem_cons_zero, List.getElem_cons_succ, List.setIfInBounds_toArray, List.set_cons_zero, List.set_cons_succ])
      refine wpAnyH_take (i := 7) (v := ?_) rfl (by kernel_rfl) (by kernel_rfl) (by kernel_rfl) (fun _ _ _ h => h) (Or.inl ⟨by kernel_rfl, by (intro w' hSw; go_simp; first | done | (with_reducible rfl) | rfl)⟩) hHeld ?_
      (try simp only [Act.put, List.getElem_toArray, List.getElem_cons_zero, List.getElem_cons_succ, List.setIfInBounds_toArray, List.set_cons_zero, List.set_cons_succ])
      refine wpAnyH_take (i := 8) (v := ?_) rfl (by kernel_rfl) (by kernel_rfl) (by kernel_rfl) (fun _ _ _ h => h) (Or.inl ⟨by kernel_rfl, by (intro w' hSw; go_simp; first | done | (with_reducible rfl) | rfl)⟩) hHeld ?_
      (try simp only [Act.put, List.getElem_toArray, List.getElem_cons_zero, List.getElem_cons_succ, List.setIfInBounds_toArray, List.set_cons_zero, List.set_cons_succ])
      refine wpAnyH_take (i := 9) (v := ?_) rfl (by kernel_rfl) (by kernel_rfl) (by kernel_rfl) (fun _ _ _ h => h) (Or.inl ⟨by kernel_rfl, by (intro w' hSw; go_simp; first | done | (with_reducible rfl) | rfl)⟩) hHeld ?_
      (try simp only [Act.put, List.getElem_toArray, List.getElem_cons_zero, List.getElem_cons_succ, List.setIfInBounds_toArray, List.set_cons_zero, List.set_cons_succ])
      refine wpAnyH_take (i := 10) (v := ?_) rfl (by kernel_rfl) (by kernel_rfl) (by kernel_rfl) (fun _ _ _ h => h) (Or.inl ⟨by kernel_rfl, by (intro w' hSw; go_simp; first | done | (with_reducible rfl) | rfl)⟩) hHeld ?_
      (try simp only [Act.put, List.getElem_toArray, List.getElem_cons_zero, List.getElem_cons_succ, List.setIfInBounds_toArray, List.set_cons_zero, List.set_cons_succ])
      refine wpAnyH_ready (rs := [4]) (by kernel_rfl) (by simp) ?_
      refine AllReadyH.cons rfl (fun K hK => ?_) AllReadyH.nil
      go_simp
      go_at_call 41; refine (IB1 _).mono ?_; rintro eA wA ⟨rfl, hwA⟩; subst wA
      try dsimp only
      clear hHeld
      refine hK.out _ _ trivial (fun hHeld => ?_)
      clear hK K
      (try simp only [Act.put, List.getElem_toArray, List.getElem_cons_zero, List.getElem_cons_succ, List.setIfInBounds_toArray, List.set_cons_zero, List.set_cons_succ])
      refine wpAnyH_take (i := 5) (v := ?_) rfl (by kernel_rfl) (by kernel_rfl) (by kernel_rfl) (fun _ _ _ h => h) (Or.inl ⟨by kernel_rfl, by (intro w' hSw; go_simp; first | done | (with_reducible rfl) | rfl)⟩) hHeld ?_
      (try simp only [Act.put, List.getElem_toArray, List.getElem_cons_zero, List.getElem_cons_succ, List.setIfInBounds_toArray, List.set_cons_zero, List.set_cons_succ])
      refine wpAnyH_take (i := 6) (v := ?_) rfl (by kernel_rfl) (by kernel_rfl) (by kernel_rfl) (fun _ _ _ h => h) (Or.inl ⟨by kernel_rfl, by (intro w' hSw; go_simp; first | done | (with_reducible rfl) | rfl)⟩) hHeld ?_
      (try simp only [Act.put, List.getElem_toArray, List.getElem_cons_zero, List.getElem_cons_succ, List.setIfInBounds_toArray, List.set_cons_zero, List.set_cons_succ])
      refine wpAnyH_ready (rs := [11]) (by kernel_rfl) (by simp) ?_
      refine AllReadyH.cons rfl (fun K hK => ?_) AllReadyH.nil
      go_simp
      go_at_call 41; refine (IB2 _).mono ?_; rintro eB wB ⟨rfl, hwB⟩; subst wB
      try dsimp only
      clear hHeld
      refine hK.out _ _ trivial (fun hHeld => ?_)
      clear hK K
      (try simp only [Act.put, List.getElem_toArray, List.getElem_cons_zero, List.getElem_cons_succ, List.setIfInBounds_toArray, List.set_cons_zero, List.set_cons_succ])
      refine wpAnyH_take (i := 12) (v := ?_) rfl (by kernel_rfl) (by kernel_rfl) (by kernel_rfl) (fun _ _ _ h => h) (Or.inl ⟨by kernel_rfl, by (intro w' hSw; go_simp; first | done | (with_reducible rfl) | rfl)⟩) hHeld ?_
      (try simp only [Act.put, List.getElem_toArray, List.getElem_cons_zero, List.getElem_cons_succ, List.setIfInBounds_toArray, List.set_cons_zero, List.set_cons_succ])
      refine wpAnyH_take (i := 13) (v := ?_) rfl (by kernel_rfl) (by kernel_rfl) (by kernel_rfl) (fun _ _ _ h => h) (Or.inl ⟨by kernel_rfl, by (intro w' hSw; go_simp; first | done | (with_reducible rfl) | rfl)⟩) hHeld ?_
      (try simp only [Act.put, List.getElem_toArray, List.getElem_cons_zero, List.getElem_cons_succ, List.setIfInBounds_toArray, List.set_cons_zero, List.set_cons_succ])
      refine wpAnyH_take (i := 14) (v := ?_) rfl (by kernel_rfl) (by kernel_rfl) (by kernel_rfl) (fun _ _ _ h => h) (Or.inl ⟨by kernel_rfl, by (intro w' hSw; go_simp; first | done | (with_reducible rfl) | rfl)⟩) hHeld ?_
      (try simp only [Act.put, List.getElem_toArray, List.getElem_cons_zero, List.getElem_cons_succ, List.setIfInBounds_toArray, List.set_cons_zero, List.set_cons_succ])
      refine wpAnyH_ready (rs := [15]) (by kernel_rfl) (by simp) ?_
      refine AllReadyH.cons rfl (fun K hK => ?_) AllReadyH.nil
      go_simp
      try dsimp only
      clear hHeld
      refine hK.out _ _ trivial (fun hHeld => ?_)
      clear hK K
      (try simp only [Act.put, List.getElem_toArray, List.getElem_cons_zero, List.getElem_cons_succ, List.setIfInBounds_toArray, List.set_cons_zero, List.set_cons_succ])
      refine wpAnyH_ready (rs := [16]) (by kernel_rfl) (by simp) ?_
      refine AllReadyH.cons rfl (fun K hK => ?_) AllReadyH.nil
      refine step_append_any _ rfl (.tmp 11) (.tmp 26) 22 rfl w.heap.size 5 i0 (.int .u8 0) 1 1 underU8 hi hz0 hz1 hz2 rfl (by decide) (.slice A' pre.length cap') pre.length (bV pre) rfl (hownD.alloc _) (wr.heap.size + 1) (some ⟨wr.heap.size, 0, none⟩) 1 1 [.int .u8 (c : Int)] rfl (reads_b1 wr.drew c) (by simp [Value.oneCell']) (by have := HLn.out; unfold maxLen; omega) (by have := HLn.out; omega) (by have := hb.size; simp; omega) ?_
      intro v' w2 hown2 hgr2 _
      obtain ⟨A2, cap2, rfl⟩ := own_slice hown2
      try dsimp only
      clear hHeld
      refine hK.out _ _ trivial (fun hHeld => ?_)
      clear hK K
      (try simp only [Act.put, List.getElem_toArray, List.getElem_cons_zero, List.getElem_cons_succ, List.setIfInBounds_toArray, List.set_cons_zero, List.set_cons_succ])
      refine wpAnyH_take (i := 17) (v := ?_) rfl (by kernel_rfl) (by kernel_rfl) (by kernel_rfl) (fun _ _ _ h => h) (Or.inl ⟨by kernel_rfl, by (intro w' hSw; go_simp; first | done | (with_reducible rfl) | rfl)⟩) hHeld ?_
      (try simp only [Act.put, List.getElem_toArray, List.getElem_cons_zero, List.getElem_cons_succ, List.setIfInBounds_toArray, List.set_cons_zero, List.set_cons_succ])
      refine wpAnyH_done (by kernel_rfl) ?_ _
      
      go_wp2_with fail
      have hp := HP.out.1
      have hk' := HP.out.2.2.1
      have hcv : bV (unhex (l.take (2 * (k + 1)))) = bV pre ++ [.int .u8 (c : Int)] := by
        rw [HU.out]
        simp only [bV, List.map_append, List.map_cons, List.map_nil]
        rw [UInt8.toNat_ofNat', Nat.mod_eq_of_lt (by have := HC.out; omega)]
      have hln : (unhex (l.take (2 * (k + 1)))).length = pre.length + 1 := by rw [HU.out]; simp
      exact ⟨⟨k + 1, by congr 1; omega, by omega, by rw [hcv, hln]; exact hown2, (hb.drew.alloc hb.size _).grown hgr2 (by have := hb.size; simp; omega) (fun j hj => (hownD.lt j hj).1)⟩, by simp [intOf]; omega⟩
    · have hlt1 : ¬ (p : Int) + 1 < ((strL l).size : Int) := by omega
      have hp9 : (p : Int) < 200000 := by omega
      have hfin := unhex_odd k l (by omega) hk
      rw [hfin] at hown
      simp only [← hp]
      rw [← hp] at hfin
      have HF := Lib.hid hfin
      clear hp hk hlt hl hsz hfin
      go_wp2_with fail
      go_ret
      refine ⟨_, rfl, ?_, hb⟩
      have := HF.out
      rw [this]
      exact hown
end Go.Proofs.YtnbkpminecoddaaDoor
