/- The reference's queue: Put, Take, Remove, Ahead, by walks. Conditions: a queue of at most 100000; at most 1000 come; the affinities are bytes. -/
import Derived.Test.YtdfpbbkdlalpcaaGloRef
import Derived.Test.YtdfpbbkdlalpcaaGloModel
import Derived.Deep.Upon
namespace Go.Proofs.Ytdfpbbkdlalpcaa
open Go.RowKit
set_option linter.unusedVariables false
set_option linter.unusedSimpArgs false

/-- The reference's queue in memory. -/
structure RQ (w : World) (c B : Nat) (L : List Int) (A : Option Addr) (cap : Nat) : Prop where
  blk : Blk w c 30 #[.slice A L.length cap]
  own : w.ownsRow B 3 1 (.slice A L.length cap) L.length (intV L)
  lo : B ≤ c

theorem own_mono {w : World} {B B' : Nat} {e : TypeId} {size : Nat} {v : Value} {n : Nat} {xs : List Value} (h : w.ownsRow B e size v n xs) (hB : B' ≤ B) : w.ownsRow B' e size v n xs := by
  refine ⟨h.1, ?_⟩
  rcases h.2 with hn | ⟨g, cap, cur, hv, hbg, hg, rest⟩
  · exact .inl hn
  · exact .inr ⟨g, cap, cur, hv, Nat.le_trans hB hbg, hg, rest⟩
theorem own_cap {w : World} {B : Nat} {e : TypeId} {size : Nat} {A : Option Addr} {n c : Nat} {xs : List Value} (h : w.ownsRow B e size (.slice A n c) n xs) : n ≤ c ∧ c ≤ maxLen := by
  rcases h.2 with ⟨hn, h0⟩ | ⟨g, cap, cur, hv, hbg, hg, h1, h2, rest⟩
  · injection hn with _ _ hc
    subst hc
    subst h0
    exact ⟨Nat.le_refl _, Nat.zero_le _⟩
  · injection hv with _ _ hc
    subst hc
    exact ⟨h1, h2⟩
theorem RQ.ints {w : World} {c B : Nat} {L : List Int} {A : Option Addr} {cap : Nat} (h : RQ w c B L A cap) : Ints w w.heap.size A L := Reads.of_own h.own
theorem RQ.apart {S : Nat → Prop} {w w' : World} {c B : Nat} {L : List Int} {A : Option Addr} {cap : Nat} (h : RQ w c B L A cap) (hA : Apart S w w') (hS : ∀ k t cs, S k → w.heap[k]? = some (.cells cs t (0, 0)) → t ≠ 3 ∧ t ≠ 30) : RQ w' c B L A cap := by
  refine ⟨(hA.block c h.blk.lt (fun hs => (hS c _ _ hs h.blk).2 rfl)).trans h.blk, ⟨h.own.1, ?_⟩, h.lo⟩
  rcases h.own.2 with hn | ⟨g, cap, cur, hv, hbg, hg, rest⟩
  · exact .inl hn
  · exact .inr ⟨g, cap, cur, hv, hbg, (hA.block g (Array.getElem?_eq_some_iff.1 hg).1 (fun hs => (hS g _ _ hs hg).1 rfl)).trans hg, rest⟩
theorem RQ.below {w w' : World} {c B : Nat} {L : List Int} {A : Option Addr} {cap : Nat} (h : RQ w c B L A cap) (hb : Below w.heap.size w w') : RQ w' c B L A cap :=
  ⟨h.blk.below hb h.blk.lt, below_own h.own hb, h.lo⟩

set_option maxRecDepth 100000 in
set_option maxHeartbeats 2000000 in
theorem refPut_is (c B : Nat) (L xs : List Int) (A X : Option Addr) (cap xc BX : Nat) (w : World) (h : RQ w c B L A cap) (hl : L.length ≤ 100000) (hx : xs.length ≤ 1000) (hX : Ints w BX X xs) (hBX : BX ≤ w.heap.size) (hB : B ≤ w.heap.size) :
    Calls Try.prog 18 #[.pointer (some ⟨c, 0, none⟩), .slice X xs.length xc] w fun e w' => (∃ v, e = .returned v) ∧ (∃ A' cap', RQ w' c B (L ++ xs) A' cap' ∧ w'.ownsRow w.heap.size 3 1 (.slice A' (L ++ xs).length cap') (L ++ xs).length (intV (L ++ xs))) ∧ Apart (fun k => k = c) w w' := by
  obtain ⟨i0, hi0, hz0, hz1, hz2⟩ := info_parts infoInt
  have HL := Lib.hid h.ints
  have HX := Lib.hid hX
  have c0 := h.blk.cell 0
  have f0 := h.blk.frozen 0
  simp only [List.getElem?_toArray, List.getElem?_cons_zero, List.getElem?_cons_succ] at c0
  have hcl := h.blk.lt
  have o1 := Lib.hid (intV_one L)
  have o2 := Lib.hid (intV_one xs)
  have m1 := Lib.hid (show 0 + L.length ≤ maxLen from by unfold maxLen; omega)
  have m2 := Lib.hid (show (0 + L.length) * 8 ≤ 140737488355328 from by omega)
  have m3 := Lib.hid (show 0 + L.length + xs.length ≤ maxLen from by unfold maxLen; omega)
  have m4 := Lib.hid (show (0 + L.length + xs.length) * 8 ≤ 140737488355328 from by omega)
  have H := Lib.hid h
  obtain ⟨M, hM⟩ : ∃ M, M = L ++ xs := ⟨_, rfl⟩
  rw [← hM]
  have hln : 0 + L.length + xs.length = M.length := by rw [hM]; simp
  have hV : [] ++ intV L ++ intV xs = intV M := by rw [hM]; simp [intV]
  have HLN := Lib.hid hln
  have HV := Lib.hid hV
  clear hX h hln hV hM
  go_enter Try.func18, Try.ntmps18
  go_wp2_with (first
    | (at_builtin; refine wpList_append_any _ rfl (.const (.slice none 0 0)) (.tmp 8) 28 rfl w.heap.size 3 i0 (.int .i64 0) 1 8 Try.underlying28 hi0 hz0 hz1 hz2 rfl (by decide) (.slice none 0 0) 0 [] rfl (World.ownsRow_nil _ _ _ _) w.heap.size A L.length cap (intV L) rfl HL.out o1.out m1.out m2.out (Nat.le_refl _) ?_; intro v1 w1 hown1 hg1 hat1; (have HX1 := Lib.hid (Reads.grown HX.out hg1 hBX (fun g e => by cases e))))
    | (at_builtin; refine wpList_append_any _ rfl (.tmp 9) (.tmp 10) 28 rfl w.heap.size 3 i0 (.int .i64 0) 1 8 Try.underlying28 hi0 hz0 hz1 hz2 rfl (by decide) v1 (0 + L.length) ([] ++ intV L) rfl hown1 BX X xs.length xc (intV xs) rfl HX1.out o2.out m3.out m4.out hg1.size ?_; intro v2 w2 hown2 hg2 hat2; (have hb1 : Below w.heap.size w w1 := (Below.refl _ w).grown hg1 (Nat.le_refl _) (fun k e => by cases e)); (have hb2 : Below w.heap.size w w2 := hb1.grown hg2 hb1.size (fun k e => (hown1.lt k e).1)); rw [HLN.out, HV.out] at hown2; (obtain ⟨A2, c2, rfl⟩ := own_slice hown2); (have c2' : w2.cell? ⟨c, 0, none⟩ = some (.slice A L.length cap) := (hb2.cell (p := ⟨c, 0, none⟩) hcl).trans c0); (have f2' : w2.frozen? ⟨c, 0, none⟩ = false := (hb2.frozen (p := ⟨c, 0, none⟩) hcl).trans f0); (have HB2 := Lib.hid hb2); (have HO2 := Lib.hid hown2); clear hat1 hat2 hg1 hg2 hown1 hown2 hb1 hb2 c0 f0))
  go_end0
  have hq := (Blk.below (H.out.blk) HB2.out hcl).set_ 0 (.slice A2 M.length c2)
  have ho := HO2.out.kept (grownBy_setCell' w2 c (.slice A2 M.length c2)) (.inr (own_blk_ne HO2.out (Blk.below (H.out.blk) HB2.out hcl) (by decide)))
  exact ⟨⟨_, rfl⟩, ⟨A2, c2, ⟨hq, own_mono ho hB, H.out.lo⟩, ho⟩, (Apart.of_below (S := fun k => k = c) HB2.out).setCell (p := ⟨c, 0, none⟩) (.inl rfl) _⟩

set_option maxRecDepth 100000 in
set_option maxHeartbeats 2000000 in
theorem refTake_hit (p : Int) (aff : List Nat) (FA : Option Addr) (fc FB : Nat) (c B i : Nat) (L : List Int) (A : Option Addr) (cap : Nat) (w : World) (h : RQ w c B L A cap) (hl : L.length ≤ 100000)
    (hF : Bytes w FB FA aff) (hfl : aff.length ≤ maxLen) (h8 : ∀ x ∈ aff, x < 256) (hB : B ≤ w.heap.size) (ht : Hit (mayB p aff) L i) :
    Calls Try.prog 19 #[.pointer (some ⟨c, 0, none⟩), .int .i64 p, .slice FA aff.length fc] w fun e w' => (∃ g, w.heap.size ≤ g ∧ e = .returned (.slice (some ⟨g, 0, none⟩) 1 1) ∧ ∃ hi : i < L.length, w'.cell? ⟨g, 0, none⟩ = some (.int .i64 L[i])) ∧ (∃ A' cap', RQ w' c B (L.eraseIdx i) A' cap') ∧ Apart (fun k => k = c) w w' := by
  obtain ⟨hi, hti, hfi⟩ := ht
  have hcap := own_cap h.own
  have hint := h.ints
  obtain ⟨ad, rfl, _, hci⟩ := hint.at_ hi
  have hcut := cut_is L ad cap w.heap.size i w hint (Nat.le_refl _) hl hcap.1 hcap.2 hi
  have HL := Lib.hid hint
  have c0 := h.blk.cell 0
  have f0 := h.blk.frozen 0
  simp only [List.getElem?_toArray, List.getElem?_cons_zero, List.getElem?_cons_succ] at c0
  have hcl := h.blk.lt
  have H := Lib.hid h
  have HFI := Lib.hid hfi
  have CM := fun g => refMay_is p aff FA fc g FB w hF hfl h8
  obtain ⟨M, hM⟩ : ∃ M, M = L.eraseIdx i := ⟨_, rfl⟩
  rw [← hM] at hcut ⊢
  have CC := Lib.hid hcut
  clear hF h8 h hfi hint hcut hM hcap
  obtain ⟨yi, hyi⟩ : ∃ y, y = L[i] := ⟨_, rfl⟩
  rw [← hyi] at hti hci
  have CI := CM yi
  rw [hti] at CI
  have HYI := Lib.hid hyi
  clear hti hyi
  go_enter Try.func19, Try.ntmps19
  go_wp2
  go_loop [7] (fun v => ∃ k : Nat, k ≤ i ∧ v = .int .i64 k) (fun v => i + 1 - (intOf v).toNat)
  case atStart => exact ⟨0, Nat.zero_le _, rfl⟩
  case round =>
    obtain ⟨k, hk, rfl⟩ := hrel
    by_cases hlt : k < i
    · have hkl : k < L.length := by omega
      obtain ⟨ad', he, _, hc⟩ := HL.out.at_ hkl
      obtain rfl : ad = ad' := by injection he
      have CK := CM L[k]
      have hx := HFI.out k hlt
      rw [hx] at CK
      clear hx CI CM hci
      generalize L[k] = y at *
      go_wp2_with (go_at_call 11; refine CK.mono ?_; rintro e w' ⟨rfl, rfl⟩)
      go_round
      case rel => exact ⟨k + 1, by omega, by go_num⟩
      case measure => simp [intOf]; omega
    · obtain rfl : k = i := by omega
      clear CM
      go_wp2_with (first | (go_at_call 11; refine CI.mono ?_; rintro e w' ⟨rfl, rfl⟩) | (go_at_call 29; refine CC.out.mono ?_; rintro e w2 ⟨⟨A2, c2, rfl, ho2⟩, hb2⟩; (have HB2 := Lib.hid hb2); (have HO2 := Lib.hid ho2); (have c2' : w2.cell? ⟨c, 0, none⟩ = some (.slice (some ad) L.length cap) := (hb2.cell (p := ⟨c, 0, none⟩) hcl).trans c0); (have f2' : w2.frozen? ⟨c, 0, none⟩ = false := (hb2.frozen (p := ⟨c, 0, none⟩) hcl).trans f0); (have hz2 : w.heap.size ≤ w2.heap.size := hb2.size); clear hb2 ho2 c0 f0))
      go_ret
      have hsz : (w2.setCell ⟨c, 0, none⟩ (.slice A2 M.length c2)).heap.size = w2.heap.size := by simp [World.setCell]
      have hq := ((Blk.below H.out.blk HB2.out hcl).set_ 0 (.slice A2 M.length c2)).alloc (.cells #[.int .i64 yi] 3)
      have ho := (HO2.out.kept (grownBy_setCell' w2 c (.slice A2 M.length c2)) (.inr (own_blk_ne HO2.out (Blk.below H.out.blk HB2.out hcl) (by decide)))).alloc (.cells #[.int .i64 yi] 3)
      have hnew := (Blk.new (w2.setCell ⟨c, 0, none⟩ (.slice A2 M.length c2)) 3 #[.int .i64 yi]).cell 0
      rw [hsz] at hnew
      refine ⟨⟨w2.heap.size, hz2, rfl, hi, ?_⟩, ⟨A2, c2, hq, own_mono ho hB, H.out.lo⟩, ((Apart.of_below (S := fun k => k = c) HB2.out).setCell (p := ⟨c, 0, none⟩) (.inl rfl) _).alloc _⟩
      rw [← HYI.out]
      exact hnew

set_option maxHeartbeats 1000000 in
theorem refTake_miss (p : Int) (aff : List Nat) (FA : Option Addr) (fc FB : Nat) (c B : Nat) (L : List Int) (A : Option Addr) (cap : Nat) (w : World) (h : RQ w c B L A cap) (hl : L.length ≤ 100000)
    (hF : Bytes w FB FA aff) (hfl : aff.length ≤ maxLen) (h8 : ∀ x ∈ aff, x < 256) (ht : Miss (mayB p aff) L) :
    Calls Try.prog 19 #[.pointer (some ⟨c, 0, none⟩), .int .i64 p, .slice FA aff.length fc] w fun e w' => e = .returned (.slice none 0 0) ∧ w = w' := by
  have HL := Lib.hid h.ints
  have c0 := h.blk.cell 0
  simp only [List.getElem?_toArray, List.getElem?_cons_zero, List.getElem?_cons_succ] at c0
  have HFI := Lib.hid ht
  have CM := fun g => refMay_is p aff FA fc g FB w hF hfl h8
  clear hF h8 h ht
  go_enter Try.func19, Try.ntmps19
  go_wp2
  go_loop [7] (fun v => ∃ k : Nat, k ≤ L.length ∧ v = .int .i64 k) (fun v => L.length - (intOf v).toNat)
  case atStart => exact ⟨0, Nat.zero_le _, rfl⟩
  case round =>
    obtain ⟨k, hk, rfl⟩ := hrel
    by_cases hlt : k < L.length
    · obtain ⟨ad, rfl, _, hc⟩ := HL.out.at_ hlt
      have CK := CM L[k]
      have hx := HFI.out k hlt
      rw [hx] at CK
      clear hx CM
      generalize L[k] = y at *
      go_wp2_with (go_at_call 11; refine CK.mono ?_; rintro e w' ⟨rfl, rfl⟩)
      go_round
      case rel => exact ⟨k + 1, by omega, by go_num⟩
      case measure => simp [intOf]; omega
    · clear CM
      go_wp2
      go_ret
      exact ⟨rfl, rfl⟩

set_option maxRecDepth 100000 in
set_option maxHeartbeats 2000000 in
theorem refRemove_hit (g : Int) (c B i : Nat) (L : List Int) (A : Option Addr) (cap : Nat) (w : World) (h : RQ w c B L A cap) (hl : L.length ≤ 100000) (hB : B ≤ w.heap.size) (ht : Hit (· == g) L i) :
    Calls Try.prog 21 #[.pointer (some ⟨c, 0, none⟩), .int .i64 g] w fun e w' => e = .returned (.bool true) ∧ (∃ A' cap', RQ w' c B (L.eraseIdx i) A' cap') ∧ Apart (fun k => k = c) w w' := by
  have hcap := own_cap h.own
  have hint := h.ints
  have CF := find_hit g L A cap w.heap.size i w hint hl ht
  obtain ⟨hi, hti, hfi⟩ := ht
  obtain ⟨ad, rfl, _, hci⟩ := hint.at_ hi
  have hcut := cut_is L ad cap w.heap.size i w hint (Nat.le_refl _) hl hcap.1 hcap.2 hi
  have c0 := h.blk.cell 0
  have f0 := h.blk.frozen 0
  simp only [List.getElem?_toArray, List.getElem?_cons_zero, List.getElem?_cons_succ] at c0
  have hcl := h.blk.lt
  have H := Lib.hid h
  obtain ⟨M, hM⟩ : ∃ M, M = L.eraseIdx i := ⟨_, rfl⟩
  rw [← hM] at hcut ⊢
  have CC := Lib.hid hcut
  clear h hfi hti hint hcut hM hcap hci
  go_enter Try.func21, Try.ntmps21
  go_wp2_with (first | (go_at_call 23; refine CF.mono ?_; rintro e w' ⟨rfl, rfl⟩) | (go_at_call 29; refine CC.out.mono ?_; rintro e w2 ⟨⟨A2, c2, rfl, ho2⟩, hb2⟩; (have HB2 := Lib.hid hb2); (have HO2 := Lib.hid ho2); (have c2' : w2.cell? ⟨c, 0, none⟩ = some (.slice (some ad) L.length cap) := (hb2.cell (p := ⟨c, 0, none⟩) hcl).trans c0); (have f2' : w2.frozen? ⟨c, 0, none⟩ = false := (hb2.frozen (p := ⟨c, 0, none⟩) hcl).trans f0); clear hb2 ho2 c0 f0))
  go_ret
  have hq := (Blk.below H.out.blk HB2.out hcl).set_ 0 (.slice A2 M.length c2)
  have ho := HO2.out.kept (grownBy_setCell' w2 c (.slice A2 M.length c2)) (.inr (own_blk_ne HO2.out (Blk.below H.out.blk HB2.out hcl) (by decide)))
  exact ⟨rfl, ⟨A2, c2, hq, own_mono ho hB, H.out.lo⟩, (Apart.of_below (S := fun k => k = c) HB2.out).setCell (p := ⟨c, 0, none⟩) (.inl rfl) _⟩

set_option maxHeartbeats 400000 in
theorem refRemove_miss (g : Int) (c B : Nat) (L : List Int) (A : Option Addr) (cap : Nat) (w : World) (h : RQ w c B L A cap) (hl : L.length ≤ 100000) (ht : Miss (· == g) L) :
    Calls Try.prog 21 #[.pointer (some ⟨c, 0, none⟩), .int .i64 g] w fun e w' => e = .returned (.bool false) ∧ w = w' := by
  have CF := find_miss g L A cap w.heap.size w h.ints hl ht
  have c0 := h.blk.cell 0
  simp only [List.getElem?_toArray, List.getElem?_cons_zero, List.getElem?_cons_succ] at c0
  clear h ht
  go_enter Try.func21, Try.ntmps21
  go_wp2_with (go_at_call 23; refine CF.mono ?_; rintro e w' ⟨rfl, rfl⟩)
  go_ret
  exact ⟨rfl, rfl⟩

set_option maxRecDepth 100000 in
set_option maxHeartbeats 2000000 in
theorem refAhead_is (p : Int) (aff : List Nat) (FA : Option Addr) (fc FB : Nat) (g : Int) (c B : Nat) (L : List Int) (A : Option Addr) (cap : Nat) (w : World) (h : RQ w c B L A cap) (hl : L.length ≤ 100000)
    (hF : Bytes w FB FA aff) (hfl : aff.length ≤ maxLen) (h8 : ∀ x ∈ aff, x < 256) :
    Calls Try.prog 24 #[.pointer (some ⟨c, 0, none⟩), .int .i64 g, .int .i64 p, .slice FA aff.length fc] w fun e w' => e = .returned (.tuple #[.int .i64 ((ahead p aff g L).1 : Nat), .bool (ahead p aff g L).2]) ∧ w = w' := by
  have HL := Lib.hid h.ints
  have c0 := h.blk.cell 0
  simp only [List.getElem?_toArray, List.getElem?_cons_zero, List.getElem?_cons_succ] at c0
  have CM := fun g => refMay_is p aff FA fc g FB w hF hfl h8
  rcases hit_or_miss (· == g) L with ⟨i, hit⟩ | miss
  · have CF := find_hit g L A cap w.heap.size i w h.ints hl hit
    have hil : i < L.length := hit.1
    have CG := CM g
    by_cases hm : mayB p aff g = true
    · rw [ahead_yes hit hm]
      rw [hm] at CG
      clear hF h8 h hit hm
      go_enter Try.func24, Try.ntmps24
      go_wp2_with (first | (go_at_call 23; refine CF.mono ?_; rintro e w' ⟨rfl, rfl⟩) | (go_at_call 11; refine CG.mono ?_; rintro e w' ⟨rfl, rfl⟩))
      clear CF CG
      go_loop [11, 12] (fun n v => ∃ k : Nat, k ≤ i ∧ v = .int .i64 k ∧ n = .int .i64 (many (mayB p aff) (L.take k) : Nat)) (fun _ v => i - (intOf v).toNat)
      case atStart => exact ⟨0, Nat.zero_le _, rfl, rfl⟩
      case round =>
        obtain ⟨k, hk, rfl, rfl⟩ := hrel
        have hml := many_le (mayB p aff) (L.take k)
        have hml2 : (L.take k).length ≤ L.length := by simp; omega
        by_cases hlt : k < i
        · have hkl : k < L.length := by omega
          obtain ⟨ad, rfl, _, hc⟩ := HL.out.at_ hkl
          have CK := CM L[k]
          by_cases hx : mayB p aff L[k] = true
          · have hmy := Lib.hid (many_yes hkl hx)
            rw [hx] at CK
            clear CM hx
            generalize L[k] = y at *
            generalize many (mayB p aff) (L.take k) = m at *
            go_wp2_with (go_at_call 11; refine CK.mono ?_; rintro e w' ⟨rfl, rfl⟩)
            go_round
            case rel => exact ⟨k + 1, by omega, by go_num, by rw [hmy.out]; go_num⟩
            case measure => simp [intOf]; omega
          · have hxf : mayB p aff L[k] = false := by simpa using hx
            have hmy := Lib.hid (many_no hkl hxf)
            rw [hxf] at CK
            clear CM hx hxf
            generalize L[k] = y at *
            generalize many (mayB p aff) (L.take k) = m at *
            go_wp2_with (go_at_call 11; refine CK.mono ?_; rintro e w' ⟨rfl, rfl⟩)
            go_round
            case rel => exact ⟨k + 1, by omega, by go_num, by rw [hmy.out]⟩
            case measure => simp [intOf]; omega
        · obtain rfl : k = i := by omega
          clear CM
          go_wp2
          go_ret2
          exact ⟨rfl, rfl⟩
    · have hmf : mayB p aff g = false := by simpa using hm
      rw [ahead_no hmf]
      rw [hmf] at CG
      clear hF h8 h hit hm hmf CM
      go_enter Try.func24, Try.ntmps24
      go_wp2_with (first | (go_at_call 23; refine CF.mono ?_; rintro e w' ⟨rfl, rfl⟩) | (go_at_call 11; refine CG.mono ?_; rintro e w' ⟨rfl, rfl⟩))
      go_ret2
      exact ⟨rfl, rfl⟩
  · have CF := find_miss g L A cap w.heap.size w h.ints hl miss
    rw [ahead_miss miss]
    clear hF h8 h miss CM
    go_enter Try.func24, Try.ntmps24
    go_wp2_with (go_at_call 23; refine CF.mono ?_; rintro e w' ⟨rfl, rfl⟩)
    go_ret2
    exact ⟨rfl, rfl⟩
end Go.Proofs.Ytdfpbbkdlalpcaa
