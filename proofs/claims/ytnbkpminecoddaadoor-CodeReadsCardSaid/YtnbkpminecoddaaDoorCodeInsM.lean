/- code.instr where the word is none of a call, by walk: the table is gone over in whatever order. -/
import Derived.Test.YtnbkpminecoddaaDoorCodeInsW
namespace Go.Proofs.YtnbkpminecoddaaDoor
open Go.RowKit
open Go.ChangeMaps (setBlock)
set_option linter.unusedVariables false
set_option linter.unusedSimpArgs false

/-- The instruction of the words of no call: o is the word's operation; below 0: there is none. -/
def insO (ws : List (List UInt8)) (o : Int) : Int × Int × Int × Int := if 0 ≤ o ∧ o < 8 then (o, fillF (zW ws) (argsOf o) (argsOf o).size) else (0, 0, 0, 0)
def rowI4 (x : Int × Int × Int × Int) : Array Value := #[.int .u8 x.1, .int .u8 x.2.1, .int .u8 x.2.2.1, .int .u8 x.2.2.2]
theorem toList_eqb (a b : ByteArray) : (a.toList == b.toList) = decide (a = b) := by
  rw [ByteArray.toList_eq, ByteArray.toList_eq, Bool.eq_iff_iff, beq_iff_eq, decide_eq_true_eq]
  constructor
  · intro h
    cases a; cases b
    simp at h
    rw [h]
  · rintro rfl; rfl
set_option maxRecDepth 100000 in
set_option maxHeartbeats 4000000 in
theorem instr_map (gw : Nat) (ws : List (List UInt8)) (W0 : ByteArray) (hne : 0 < ws.length) (hW0 : strL (ws[0]'hne) = W0) (o : Int) (ho : ∀ q, 0 ≤ q → q < 8 → (wordOf q = W0 ↔ q = o)) (hnc : ¬ W0 = ⟨#[99, 97, 108, 108]⟩)
    (w : World) (hw : WordsAt w gw ws) (hs : ∀ j (hj : j < ws.length), (ws[j]'hj).length ≤ 100000) (he : Errs w) :
    Calls Tryd.prog 30 #[.slice (some ⟨gw, 0, none⟩) ws.length ws.length] w fun e w' => e = .returned (insV (insO ws o).1 (insO ws o).2.1 (insO ws o).2.2.1 (insO ws o).2.2.2) ∧ Below w.heap.size w w' := by
  have hc0 := hw.2 0 hne
  rw [hW0] at hc0
  have hgw := hw.1
  have NF : ∀ (j : Nat), j < 1000 → ∀ w', Below w.heap.size w w' → Blk w' w.heap.size 62 #[.slice (some ⟨gw, 0, none⟩) ws.length ws.length] → Calls Tryd.prog 42 #[.int .i64 ((j : Int) + 1), .pointer (some ⟨w.heap.size, 0, none⟩)] w' fun e w'' => e = .returned (.int .i64 (zW ws (j + 1))) ∧ Below w'.heap.size w' w'' := fun j hj w' hb hx => by
    have N := number_fn w.heap.size gw ws (j + 1) (by omega) w' (hx.cell 0) (hw.below hb) hs (he.below (B := 0) hb)
    rw [show ((j + 1 : Nat) : Int) = (j : Int) + 1 from by omega] at N
    exact N
  obtain ⟨n, hn⟩ : ∃ n, n = ws.length := ⟨_, rfl⟩
  have hn0 : 0 < n := by omega
  simp only [← hn] at NF ⊢
  have HN := Lib.hid (And.intro ho hnc)
  clear ho hn hw hs he hW0
  have hcall : (W0.toList == ([99, 97, 108, 108] : List UInt8)) = false := by
    rw [show ([99, 97, 108, 108] : List UInt8) = (⟨#[99, 97, 108, 108]⟩ : ByteArray).toList from by rw [ByteArray.toList_eq], toList_eqb, decide_eq_false_iff_not]
    exact hnc
  obtain ⟨bx, hbx⟩ : ∃ bx, bx = w.heap.size := ⟨_, rfl⟩
  go_enter Tryd.func30, Tryd.ntmps30
  have hmf : ∀ (fn : Fn) (first cap : Array Value) (w : World), (Instr.makeFunc fn first cap).run Tryd.prog w = .ok (.func fn first cap) w := fun _ _ _ _ => rfl
  have B2 := ((Below.refl w.heap.size w).alloc (Nat.le_refl _) (.cells #[.slice (some ⟨gw, 0, none⟩) n n] 62)).alloc (by simp) (.cells #[.int .u8 0, .int .u8 0, .int .u8 0, .int .u8 0] 26)
  have R1 := (Blk.new w 62 #[.slice (some ⟨gw, 0, none⟩) n n]).alloc (.cells #[.int .u8 0, .int .u8 0, .int .u8 0, .int .u8 0] 26)
  have R2 := Blk.new (w.alloc (.cells #[.slice (some ⟨gw, 0, none⟩) n n] 62)) 26 #[.int .u8 0, .int .u8 0, .int .u8 0, .int .u8 0]
  go_wp2_with (first | (go_at_call 35; refine (shapes_st _).mono ?_; rintro e3 w3 ⟨m, rfl, ⟨es, clock, hm1, hm2, hm3, hm4⟩, hmm, hb3⟩; (have hrg := run_range_map (P := Tryd.prog) w3 73 _ _ m es clock Tryd.underlying73 hm1)))
  have hlt3 : m < w3.heap.size := (Array.getElem?_eq_some_iff.1 hm1).1
  obtain ⟨x2, hx2⟩ : ∃ x2, x2 = w.heap.size + 1 := ⟨_, rfl⟩
  obtain ⟨r, hr⟩ : ∃ r, r = w3.heap.size := ⟨_, rfl⟩
  have hB3 := B2.trans (hb3.mono B2.size)
  have hmm' : w.heap.size + 2 ≤ m := by simpa using hmm
  have HT := Lib.hid (show bx = w.heap.size ∧ x2 = bx + 1 ∧ x2 < m ∧ m < r by omega)
  have hk8 := shape_keys hm2
  have IW : InsW w bx x2 m r (.slice (some ⟨gw, 0, none⟩) n n) es clock #[] (rowI4 (0, 0, 0, 0)) (w3.alloc (.mapIter (some m) clock #[] clock)) := by
    refine ⟨⟨clock, Nat.le_refl _, by rw [hr]; exact heap_alloc_new w3 _⟩, (heap_alloc_old w3 _ hlt3).trans hm1, ?_, ?_, hB3.alloc hB3.size _⟩
    · rw [hbx]; exact (R1.below hb3 R1.lt).alloc _
    · have e : x2 = (w.alloc (.cells #[.slice (some ⟨gw, 0, none⟩) n n] 62)).heap.size := by rw [hx2]; simp
      rw [e]; exact (R2.below hb3 R2.lt).alloc _
  simp only [← hbx] at hx2 NF ⊢
  simp only [← hx2, ← hr] at IW ⊢
  have HI := Lib.hid IW
  have HK := Lib.hid (And.intro hk8 (And.intro hm3 hm4))
  generalize (w3.alloc (.mapIter (some m) clock #[] clock)) = w4 at *
  clear IW hrg R1 R2 B2 hB3 hm1 hm2 hm3 hm4 hk8 hmm hmm' hb3 hlt3 hr hx2 hbx
  obtain ⟨fv, hfv⟩ : ∃ fv, fv = Value.slice (some ⟨gw, 0, none⟩) n n := ⟨_, rfl⟩
  rw [← hfv] at HI NF
  go_loopw [] (fun wr => ∃ (seen : Array Nat) (flag : Bool), InsW w bx x2 m r fv es clock seen (rowI4 (if flag = true then insO ws o else (0, 0, 0, 0))) wr ∧ (flag = false → ∀ x ∈ es.toList, x.key = .int .u8 o → seen.contains x.born = false) ∧ (flag = true → ∃ x ∈ es.toList, seen.contains x.born = true ∧ x.key = .int .u8 o)) (fun wr => (leftOf es (wr.iterSeen r)).size)
  case atStart => exact ⟨#[], false, HI.out, fun _ x _ _ => by simp, fun h => by cases h⟩
  case round =>
    obtain ⟨seen, flag, hI, hf0, hf1⟩ := hrel
    have hlaw := run_next_at (P := Tryd.prog) wr 0 r m clock hI.1.choose seen es clock hI.1.choose_spec.2 hI.2.1 HK.out.2.1 hI.1.choose_spec.1
    rcases hlaw with ⟨h0, hrun⟩ | ⟨e, hel, w1, hw1, hrun⟩
    · have hnx : ∀ ty, (Instr.next (.pointer (some ⟨r, 0, none⟩)) false ty).run Tryd.prog wr = .ok (.tuple #[.bool false]) wr := fun _ => hrun
      have hall := all_seen es seen h0
      have hR : (if flag = true then insO ws o else (0, 0, 0, 0)) = insO ws o := by
        cases flag with
        | true => rfl
        | false =>
          have hz : insO ws o = (0, 0, 0, 0) := by
            unfold insO
            refine if_neg ?_
            rintro ⟨h1, h2⟩
            obtain ⟨x, hx, hk⟩ := key_is HK.out.1 h1 h2
            have := hf0 rfl x hx hk
            rw [hall x hx] at this
            cases this
          rw [hz]
          rfl
      rw [hR] at hI
      obtain ⟨R, hRd⟩ : ∃ R, R = insO ws o := ⟨_, rfl⟩
      rw [← hRd] at hI
      have HRd := Lib.hid hRd
      clear hRd
      have I4 := hI.2.2.2.1
      have B4 := Lib.hid hI.2.2.2.2
      have hbx2 : w.heap.size ≤ x2 := by have := HT.out; omega
      clear hI hf0 hf1 hrun hall h0 hR
      go_wp2_with (first | ((with_reducible refine load_ins (o := ⟨some 73, .load 26 (.tmp 2), _, _, _, _⟩) (k := R.1) (x := R.2.1) (y := R.2.2.1) (z := R.2.2.2) I4 ?_ (.tmp 2) ?_ ?_ ?_); exact rfl; exact rfl; exact rfl; simp only [insV]) | (refine wpList_store_row (by exact rfl) 26 (.tmp 2) (.tmp 73) (by exact rfl) x2 #[.int .u8 R.1, .int .u8 R.2.1, .int .u8 R.2.2.1, .int .u8 R.2.2.2] (by exact rfl) (by exact rfl) 26 _ I4 (by kernel_rfl) (by exact rfl) (by simp [Value.oneCell']) ?_))
      exact bodyPost_ret (results_one (p := 2) (by kernel_rfl) _ _ rfl (I4.put_ _)) rfl ⟨by rw [← HRd.out], below_setRow B4.out hbx2 _⟩
    · have hmem := mem_left hel
      obtain ⟨q, hq0, hq8, hqk⟩ := key_of HK.out.1 hmem.1
      have hI2 := hI.next HT.out hw1 e.born
      have hseen := hI.seen
      have hshr := left_shrinks es seen e hel
      have hrl : r < w1.heap.size := by
        have := (Array.getElem?_eq_some_iff.1 hI.1.choose_spec.2).1
        rcases hw1 with rfl | rfl
        · exact this
        · exact this
      have hsb := setBlock_at (w := w1) (r := r) (.mapIter (some m) clock (seen.push e.born) clock) hrl
      generalize setBlock w1 r (.mapIter (some m) clock (seen.push e.born) clock) = wn at *
      have hnx : ∀ ty, (Instr.next (.pointer (some ⟨r, 0, none⟩)) false ty).run Tryd.prog wr = .ok (.tuple #[.bool true, .int .u8 q, e.val]) wn := fun _ => by rw [← hqk]; exact hrun
      have hent : (Instr.entry (.pointer (some ⟨r, 0, none⟩))).run Tryd.prog wn = .ok (.tuple #[.int .u8 q, e.val]) wn := by
        rw [← hqk]; exact run_entry_at wn r m clock seen es clock e hsb hI2.2.1 hmem.1 HK.out.2.2
      have hW : wordOf q = W0 ↔ q = o := HN.out.1 q hq0 hq8
      have SW := fun w' => shape_w q hq0 w'
      clear hsb hrl hw1 hrun
      generalize e.val = ev at *
      by_cases hqo : q = o
      · have hfl : flag = false := by
          cases hff : flag with
          | false => rfl
          | true =>
            obtain ⟨x, hx, hs, hk⟩ := hf1 hff
            have := key_inj HK.out.1 hx hmem.1 (by rw [hk, hqk, hqo])
            rw [this, hmem.2] at hs
            cases hs
        subst hfl
        have hne' : ((wordOf q).toList == W0.toList) = true := by rw [toList_eqb, decide_eq_true_iff]; exact hW.2 hqo
        have hRo : insO ws o = (q, fillF (zW ws) (argsOf q) (argsOf q).size) := by
          unfold insO
          rw [if_pos (by omega), hqo]
        rw [if_neg (by decide)] at hI2
        have H8 := Lib.hid (args_ascii q)
        have H3 := Lib.hid (args_size q)
        have HE := Lib.hid (And.intro hqk (And.intro hmem (And.intro hseen (And.intro hshr (And.intro hqo hRo)))))
        have HI2 := Lib.hid hI2
        clear hW hqk hmem hseen hshr hf0 hf1 hI2 hel hI hqo hRo
        generalize wordOf q = wq at *
        generalize argsOf q = s at *
        go_wp2_with (first | (go_at_call 22; refine (SW _).mono ?_; rintro e5 w5 ⟨rfl, hb5⟩; (have hI5 := HI2.out.below hb5); (have hx5 := hI5.2.2.1.cell 0); (have hc5 := (hI5.2.2.2.2.cell (p := ⟨gw, 0, none⟩) hgw).trans hc0); simp only [List.getElem?_toArray, List.getElem?_cons_zero, hfv] at hx5; (have d0 := hI5.2.2.2.1.cell 0); simp only [rowI4, List.getElem?_toArray, List.getElem?_cons_zero] at d0; (have f0 := hI5.2.2.2.1.frozen 0); have HI5 := Lib.hid hI5; clear hI5))
        have hr2 : r < w5.heap.size := (Array.getElem?_eq_some_iff.1 HI5.out.1.choose_spec.2).1
        have hI6 := HI5.out.set HT.out 0 (.int .u8 q)
        have hI7 := hI6.below ((Below.refl _ _).alloc (Nat.le_refl _) (.stringIter s 0))
        have IT := World.iter_heap (w5.setCell ⟨x2, 0, none⟩ (.int .u8 q)) s 0
        have hsz : (w5.setCell ⟨x2, 0, none⟩ (.int .u8 q)).heap.size = w5.heap.size := by simp
        rw [hsz] at IT
        obtain ⟨r2, hr2d⟩ : ∃ r2, r2 = w5.heap.size := ⟨_, rfl⟩
        rw [← hr2d] at IT hr2
        simp only [← hr2d]
        have hI8 : InsW w bx x2 m r fv es clock (seen.push e.born) (rowI4 (q, 0, 0, 0)) ((w5.setCell ⟨x2, 0, none⟩ (.int .u8 q)).iter s 0) := hI7
        have HS := Lib.hid (And.intro IT (And.intro hI8 hr2))
        generalize (w5.setCell ⟨x2, 0, none⟩ (.int .u8 q)).iter s 0 = w6 at *
        clear IT hI6 hI7 hI8 hr2 hr2d hsz d0 f0 HI5 hb5 hx5 hc5 hnx hent SW
        go_loopw [] (fun wr => ∃ j : Nat, j ≤ s.size ∧ wr.heap[r2]? = some (.stringIter s j) ∧ InsW w bx x2 m r fv es clock (seen.push e.born) (rowI4 (q, fillF (zW ws) s j)) wr) (fun wr => s.size + 1 - wr.iterPos r2)
        case atStart => exact ⟨0, Nat.zero_le _, HS.out.1, HS.out.2.1⟩
        case round =>
          obtain ⟨j, hj, hit, hI⟩ := hrel
          by_cases hlt : j < s.size
          · have hnx := fun ty => Lib.run_next_ascii_at (P := Tryd.prog) wr r2 s j ty hit hlt (H8.out j hlt)
            have hit2 := Lib.iterAt_heap wr r2 s j (j + 1) hit
            have hI2 := hI.iter HT.out HS.out.2.2 s (j + 1)
            have hpos : wr.iterPos r2 = j := by unfold World.iterPos; rw [hit]
            obtain ⟨wn, hwn⟩ : ∃ wn, wn = wr.iterAt r2 s (j + 1) := ⟨_, rfl⟩
            rw [← hwn] at hit2 hI2
            simp only [← hwn] at hnx
            clear hwn hit hI
            have hup := fillF_succ (zW ws) s j hlt
            obtain ⟨l, hl⟩ : ∃ l : Int, l = ((s[j]'hlt).toNat : Int) := ⟨_, rfl⟩
            simp only [← hl] at hnx hup
            have hj9 : j < 1000 := by have := H3.out; omega
            have NJ := NF j hj9 wn (by rw [HT.out.1]; exact hI2.2.2.2.2) hI2.2.2.1
            have hzb := zW_bd ws (j + 1)
            generalize zW ws (j + 1) = z at *
            generalize fillF (zW ws) s j = x at *
            obtain ⟨x1, x2', x3⟩ := x
            have HU := Lib.hid hup
            have HP := Lib.hid hpos
            have HH := Lib.hid (And.intro hit2 hI2)
            obtain ⟨hz0, hz1⟩ := hzb
            clear hup hpos hl hit2 hI2
            by_cases e97 : l = 97
            · subst e97
              go_wp2_with (first | (go_at_call 42; refine NJ.mono ?_; rintro e8 w8 ⟨rfl, hb8⟩; (have hI8 := HH.out.2.below hb8); (have hit8 := (hb8.block r2 (Array.getElem?_eq_some_iff.1 HH.out.1).1).trans HH.out.1); (have d1 := hI8.2.2.2.1.cell 1); (have d2 := hI8.2.2.2.1.cell 2); (have d3 := hI8.2.2.2.1.cell 3); (have f1 := hI8.2.2.2.1.frozen 1); (have f2 := hI8.2.2.2.1.frozen 2); (have f3 := hI8.2.2.2.1.frozen 3); simp only [rowI4, List.getElem?_toArray, List.getElem?_cons_zero, List.getElem?_cons_succ] at d1 d2 d3; (have H9 := Lib.hid (And.intro hit8 hI8)); clear hI8 hit8))
              have hit' := (Below.heap_setCell w8 ⟨x2, 1, none⟩ (.int .u8 (z % 256)) r2 (by show r2 ≠ x2; have := HT.out; have := HS.out.2.2; omega)).trans H9.out.1
              have H2 := H9.out.2.set HT.out 1 (.int .u8 (z % 256))
              exact ⟨⟨j + 1, by omega, hit', by rw [show fillF (zW ws) s (j + 1) = (z % 256, x2', x3) from HU.out]; exact H2⟩, by rw [show World.iterPos _ r2 = j + 1 from by unfold World.iterPos; rw [hit'], HP.out]; omega⟩
            · by_cases e98 : l = 98
              · subst e98
                go_wp2_with (first | (go_at_call 42; refine NJ.mono ?_; rintro e8 w8 ⟨rfl, hb8⟩; (have hI8 := HH.out.2.below hb8); (have hit8 := (hb8.block r2 (Array.getElem?_eq_some_iff.1 HH.out.1).1).trans HH.out.1); (have d1 := hI8.2.2.2.1.cell 1); (have d2 := hI8.2.2.2.1.cell 2); (have d3 := hI8.2.2.2.1.cell 3); (have f1 := hI8.2.2.2.1.frozen 1); (have f2 := hI8.2.2.2.1.frozen 2); (have f3 := hI8.2.2.2.1.frozen 3); simp only [rowI4, List.getElem?_toArray, List.getElem?_cons_zero, List.getElem?_cons_succ] at d1 d2 d3; (have H9 := Lib.hid (And.intro hit8 hI8)); clear hI8 hit8))
                have hit' := (Below.heap_setCell w8 ⟨x2, 2, none⟩ (.int .u8 (z % 256)) r2 (by show r2 ≠ x2; have := HT.out; have := HS.out.2.2; omega)).trans H9.out.1
                have H2 := H9.out.2.set HT.out 2 (.int .u8 (z % 256))
                exact ⟨⟨j + 1, by omega, hit', by rw [show fillF (zW ws) s (j + 1) = (x1, z % 256, x3) from HU.out]; exact H2⟩, by rw [show World.iterPos _ r2 = j + 1 from by unfold World.iterPos; rw [hit'], HP.out]; omega⟩
              · by_cases e99 : l = 99
                · subst e99
                  go_wp2_with (first | (go_at_call 42; refine NJ.mono ?_; rintro e8 w8 ⟨rfl, hb8⟩; (have hI8 := HH.out.2.below hb8); (have hit8 := (hb8.block r2 (Array.getElem?_eq_some_iff.1 HH.out.1).1).trans HH.out.1); (have d1 := hI8.2.2.2.1.cell 1); (have d2 := hI8.2.2.2.1.cell 2); (have d3 := hI8.2.2.2.1.cell 3); (have f1 := hI8.2.2.2.1.frozen 1); (have f2 := hI8.2.2.2.1.frozen 2); (have f3 := hI8.2.2.2.1.frozen 3); simp only [rowI4, List.getElem?_toArray, List.getElem?_cons_zero, List.getElem?_cons_succ] at d1 d2 d3; (have H9 := Lib.hid (And.intro hit8 hI8)); clear hI8 hit8))
                  have hit' := (Below.heap_setCell w8 ⟨x2, 3, none⟩ (.int .u8 (z % 256)) r2 (by show r2 ≠ x2; have := HT.out; have := HS.out.2.2; omega)).trans H9.out.1
                  have H2 := H9.out.2.set HT.out 3 (.int .u8 (z % 256))
                  exact ⟨⟨j + 1, by omega, hit', by rw [show fillF (zW ws) s (j + 1) = (x1, x2', z % 256) from HU.out]; exact H2⟩, by rw [show World.iterPos _ r2 = j + 1 from by unfold World.iterPos; rw [hit'], HP.out]; omega⟩
                · have hset : setA (x1, x2', x3) l z = (x1, z / 256 % 256, z % 256) := by unfold setA; rw [if_neg e97, if_neg e98, if_neg e99]
                  have HS2 := Lib.hid hset
                  clear hset
                  go_wp2_with (first | (go_at_call 42; refine NJ.mono ?_; rintro e8 w8 ⟨rfl, hb8⟩; (have hI8 := HH.out.2.below hb8); (have hit8 := (hb8.block r2 (Array.getElem?_eq_some_iff.1 HH.out.1).1).trans HH.out.1); (have d1 := hI8.2.2.2.1.cell 1); (have d2 := hI8.2.2.2.1.cell 2); (have d3 := hI8.2.2.2.1.cell 3); (have f1 := hI8.2.2.2.1.frozen 1); (have f2 := hI8.2.2.2.1.frozen 2); (have f3 := hI8.2.2.2.1.frozen 3); simp only [rowI4, List.getElem?_toArray, List.getElem?_cons_zero, List.getElem?_cons_succ] at d1 d2 d3; (have H9 := Lib.hid (And.intro hit8 hI8)); clear hI8 hit8))
                  have hit' := (Below.heap_setCell w8 ⟨x2, 2, none⟩ (.int .u8 (z / 256 % 256)) r2 (by show r2 ≠ x2; have := HT.out; have := HS.out.2.2; omega)).trans H9.out.1
                  have hit'' := (Below.heap_setCell _ ⟨x2, 3, none⟩ (.int .u8 (z % 256)) r2 (by show r2 ≠ x2; have := HT.out; have := HS.out.2.2; omega)).trans hit'
                  have H2 := (H9.out.2.set HT.out 2 (.int .u8 (z / 256 % 256))).set HT.out 3 (.int .u8 (z % 256))
                  exact ⟨⟨j + 1, by omega, hit'', by rw [show fillF (zW ws) s (j + 1) = (x1, z / 256 % 256, z % 256) from HU.out.trans HS2.out]; exact H2⟩, by rw [show World.iterPos _ r2 = j + 1 from by unfold World.iterPos; rw [hit''], HP.out]; omega⟩
          · have hjs : j = s.size := by omega
            have hnx := fun ty => Lib.run_next_end_at (P := Tryd.prog) wr r2 s j ty hit hlt
            subst hjs
            obtain ⟨hqk, hmem, hseen, hshr, hqo, hRo⟩ := HE.out
            have hI' : InsW w bx x2 m r fv es clock (seen.push e.born) (rowI4 (if (true : Bool) = true then insO ws o else (0, 0, 0, 0))) wr := by rw [if_pos rfl, hRo]; exact hI
            have HI' := Lib.hid (And.intro hI' (And.intro hseen hshr))
            have HK2 := Lib.hid (And.intro hqk (And.intro hmem hqo))
            clear hI hI' hqk hmem hseen hshr hqo hRo HE hit
            go_wp2_with fail
            refine ⟨⟨seen.push e.born, true, HI'.out.1, (fun h => by cases h), fun _ => ⟨e, HK2.out.2.1.1, by rw [contains_push, beq_self_eq_true, Bool.or_true], by rw [HK2.out.1, HK2.out.2.2]⟩⟩, by rw [HI'.out.1.seen, HI'.out.2.1]; exact HI'.out.2.2⟩
      · have hne' : ((wordOf q).toList == W0.toList) = false := by rw [toList_eqb, decide_eq_false_iff_not]; exact fun h => hqo (hW.1 h)
        have HE := Lib.hid (And.intro hqk (And.intro hmem (And.intro hseen (And.intro hshr (And.intro hf0 hf1)))))
        have HI2 := Lib.hid hI2
        clear hW hqk hmem hseen hshr hf0 hf1 hI2 hel hI
        generalize wordOf q = wq at *
        go_wp2_with (first | (go_at_call 22; refine (SW _).mono ?_; rintro e5 w5 ⟨rfl, hb5⟩; (have hI5 := HI2.out.below hb5); (have hx5 := hI5.2.2.1.cell 0); (have hc5 := (hI5.2.2.2.2.cell (p := ⟨gw, 0, none⟩) hgw).trans hc0); simp only [List.getElem?_toArray, List.getElem?_cons_zero, hfv] at hx5; have HI5 := Lib.hid hI5; clear hI5))
        obtain ⟨hqk, hmem, hseen, hshr, hf0, hf1⟩ := HE.out
        refine ⟨⟨seen.push e.born, flag, HI5.out, fun hfl x hx hk => ?_, fun hfl => ?_⟩, by rw [HI5.out.seen, hseen]; exact hshr⟩
        · rw [contains_push, hf0 hfl x hx hk, Bool.false_or]
          cases hxe : (x.born == e.born) with
          | false => rfl
          | true =>
            have hxe2 := born_inj HK.out.2.2 hx hmem.1 (beq_iff_eq.1 hxe)
            rw [hxe2, hqk] at hk
            exact absurd (by injection hk) hqo
        · obtain ⟨x, hx, hs, hk⟩ := hf1 hfl
          exact ⟨x, hx, by rw [contains_push, hs, Bool.true_or], hk⟩
end Go.Proofs.YtnbkpminecoddaaDoor
