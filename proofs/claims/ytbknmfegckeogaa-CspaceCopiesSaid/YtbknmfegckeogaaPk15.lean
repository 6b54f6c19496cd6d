/- Of the following, one behind the other: The comparison of two capabilities, and of two that are held: true just if all their cells are the same. Copy of both sides, by walks; New of the reference; Under of the program where one is not there. -/
import Derived.Test.YtbknmfegckeogaaPk14
import Derived.Laws.StructEq
import Derived.ChangeKeysEq
import Derived.Laws.Externs
import Derived.MapKept
/- The comparison of two capabilities, and of two that are held: true just if all their cells are the same. -/
namespace Go.Proofs.Ytbknmfegckeogaa
open Go.RowKit
set_option linter.unusedVariables false
set_option linter.unusedSimpArgs false

theorem Cp.ext_iff_ (a b : Cp) : a = b ↔ a.k = b.k ∧ a.i = b.i ∧ a.n = b.n ∧ a.r = b.r := by
  obtain ⟨k, i, n, r⟩ := a
  obtain ⟨k', i', n', r'⟩ := b
  simp
instance cpDec : DecidableEq Cp := fun a b => decidable_of_iff _ (Cp.ext_iff_ a b).symm
theorem partInt {P : Program} {e : TypeId} {k : IntKind} {xs : Array Value} {off : Nat} {v : Value} (w : World) (hu : P.underlying e = some (.int k)) (hx : xs[off]? = some v) : (part e xs off).run P w = .ok v w := by
  simp [part, isAgg, run_underlying hu, hx]
theorem partStruct {P : Program} {e : TypeId} {xs : Array Value} {off : Nat} (w : World) {fs : Array Field} {i : TypeInfo} (hu : P.underlying e = some (.struct fs)) (hi : P.info? e = some i) : (part e xs off).run P w = .ok (.agg (xs.extract off (off + P.cellsOf e))) w := by
  simp [part, isAgg, run_underlying hu, run_sizeOf w hi]
theorem someInfo {P : Program} {e : TypeId} (h : (P.info? e).isSome = true) : ∃ i, P.info? e = some i := by
  cases hx : P.info? e with
  | none => rw [hx] at h; cases h
  | some i => exact ⟨i, rfl⟩
theorem ftHeld : (Try.prog.fieldsOf 44).toList = [⟨"Slot", 3, 0, false, "", "", 0⟩, ⟨"Cap", 36, 1, false, "", "", 8⟩] := by kernel_rfl
theorem ftCap : (Try.prog.fieldsOf 36).toList = [⟨"Kind", 30, 0, false, "", "", 0⟩, ⟨"Object", 33, 1, false, "", "", 8⟩, ⟨"Rights", 34, 3, false, "", "", 24⟩] := by kernel_rfl
theorem ftRef : (Try.prog.fieldsOf 33).toList = [⟨"Index", 3, 0, false, "", "", 0⟩, ⟨"Gen", 31, 1, false, "", "", 8⟩] := by kernel_rfl
theorem uHeld : Try.prog.underlying 44 = some (.struct (Try.prog.fieldsOf 44)) := by kernel_rfl
theorem uCap : Try.prog.underlying 36 = some (.struct (Try.prog.fieldsOf 36)) := by kernel_rfl
theorem uRef : Try.prog.underlying 33 = some (.struct (Try.prog.fieldsOf 33)) := by kernel_rfl
theorem uKind : Try.prog.underlying 30 = some (.int .i64) := by kernel_rfl
theorem uInt_ : Try.prog.underlying 3 = some (.int .i64) := by kernel_rfl
theorem uU64 : Try.prog.underlying 31 = some (.int .u64) := by kernel_rfl
theorem uRights : Try.prog.underlying 34 = some (.int .u8) := by kernel_rfl
theorem sHeld : Try.prog.stoodInHeld 44 = false := by kernel_rfl
theorem sCap : Try.prog.stoodInHeld 36 = false := by kernel_rfl
theorem sRef : Try.prog.stoodInHeld 33 = false := by kernel_rfl
theorem cRef : Try.prog.cellsOf 33 = 2 := by kernel_rfl
theorem cCap : Try.prog.cellsOf 36 = 4 := by kernel_rfl
theorem eqInt {P : Program} {k k' : IntKind} {t : TypeId} (d : Nat) (hu : P.underlying t = some (.int k')) (w : World) (a b : Int) : (Op.equalIn (d + 1) t (.int k a) (.int k b)).run P w = .ok (a == b) w := run_equalIn_int w d t k k' a b hu
theorem run_ref_ (d : Nat) (a b a' b' : Int) (w : World) :
    (Op.equalIn (d + 2) 33 (.agg #[.int .i64 a, .int .u64 b]) (.agg #[.int .i64 a', .int .u64 b'])).run Try.prog w = .ok (decide (a = a' ∧ b = b')) w := by
  rw [run_equalIn_agg w (d + 1) _ _ _ uRef sRef, ftRef]
  simp only [Op.eqFields, ne_eq, String.reduceEq, not_false_eq_true, if_true, Sem.run_bind, Sem.run_ite, Sem.run_pure, partInt (P := Try.prog) w uInt_ (xs := #[.int .i64 a, .int .u64 b]) (off := 0) (v := .int .i64 a) rfl, partInt (P := Try.prog) w uInt_ (xs := #[.int .i64 a', .int .u64 b']) (off := 0) (v := .int .i64 a') rfl,
    partInt (P := Try.prog) w uU64 (xs := #[.int .i64 a, .int .u64 b]) (off := 1) (v := .int .u64 b) rfl, partInt (P := Try.prog) w uU64 (xs := #[.int .i64 a', .int .u64 b']) (off := 1) (v := .int .u64 b') rfl, eqInt (P := Try.prog) (k := .i64) d uInt_ w, eqInt (P := Try.prog) (k := .u64) d uU64 w, Result.andThen_ok]
  by_cases h1 : a = a' <;> by_cases h2 : b = b' <;> simp [h1, h2]
theorem run_cap_ (d : Nat) (a b : Cp) (w : World) :
    (Op.equalIn (d + 3) 36 (.agg #[.int .i64 a.k, .int .i64 a.i, .int .u64 a.n, .int .u8 a.r]) (.agg #[.int .i64 b.k, .int .i64 b.i, .int .u64 b.n, .int .u8 b.r])).run Try.prog w = .ok (decide (a = b)) w := by
  obtain ⟨i, hi⟩ := someInfo (P := Try.prog) (e := 33) (by kernel_rfl)
  rw [run_equalIn_agg w (d + 2) _ _ _ uCap sCap, ftCap]
  have H1 : ∀ (xs : Array Value) (o : Nat) v, xs[o]? = some v → (part 30 xs o).run Try.prog w = .ok v w := fun xs o v h => partInt w uKind h
  have H2 : ∀ (xs : Array Value) (o : Nat) v, xs[o]? = some v → (part 34 xs o).run Try.prog w = .ok v w := fun xs o v h => partInt w uRights h
  have G : ∀ (xs : Array Value) (o : Nat), (part 33 xs o).run Try.prog w = .ok (.agg (xs.extract o (o + 2))) w := fun xs o => by rw [partStruct w uRef hi, cRef]
  have e1 : ∀ (x y z u : Value), (#[x, y, z, u] : Array Value).extract 1 (1 + 2) = #[y, z] := fun x y z u => rfl
  simp only [Op.eqFields, ne_eq, String.reduceEq, not_false_eq_true, if_true, Sem.run_bind, Sem.run_ite, Sem.run_pure, H1 #[.int .i64 a.k, .int .i64 a.i, .int .u64 a.n, .int .u8 a.r] 0 (.int .i64 a.k) rfl, H1 #[.int .i64 b.k, .int .i64 b.i, .int .u64 b.n, .int .u8 b.r] 0 (.int .i64 b.k) rfl, H2 #[.int .i64 a.k, .int .i64 a.i, .int .u64 a.n, .int .u8 a.r] 3 (.int .u8 a.r) rfl, H2 #[.int .i64 b.k, .int .i64 b.i, .int .u64 b.n, .int .u8 b.r] 3 (.int .u8 b.r) rfl, G, e1,
    eqInt (P := Try.prog) (k := .i64) (d + 1) uKind w, eqInt (P := Try.prog) (k := .u8) (d + 1) uRights w, run_ref_ d, Result.andThen_ok]
  obtain ⟨x0, x1, x2, x3⟩ := a
  obtain ⟨y0, y1, y2, y3⟩ := b
  simp only [Cp.mk.injEq]
  by_cases h0 : x0 = y0 <;> simp [h0]
  by_cases h1 : x1 = y1 <;> simp [h1]
  by_cases h2 : x2 = y2 <;> simp [h2]
  by_cases h3 : x3 = y3 <;> simp [h3]
theorem run_held_ (d : Nat) (s s' : Int) (a b : Cp) (w : World) :
    (Op.equalIn (d + 4) 44 (.agg #[.int .i64 s, .int .i64 a.k, .int .i64 a.i, .int .u64 a.n, .int .u8 a.r]) (.agg #[.int .i64 s', .int .i64 b.k, .int .i64 b.i, .int .u64 b.n, .int .u8 b.r])).run Try.prog w = .ok (decide (s = s' ∧ a = b)) w := by
  obtain ⟨i, hi⟩ := someInfo (P := Try.prog) (e := 36) (by kernel_rfl)
  rw [run_equalIn_agg w (d + 3) _ _ _ uHeld sHeld, ftHeld]
  have H1 : ∀ (xs : Array Value) (o : Nat) v, xs[o]? = some v → (part 3 xs o).run Try.prog w = .ok v w := fun xs o v h => partInt w uInt_ h
  have G : ∀ (xs : Array Value) (o : Nat), (part 36 xs o).run Try.prog w = .ok (.agg (xs.extract o (o + 4))) w := fun xs o => by rw [partStruct w uCap hi, cCap]
  have e1 : ∀ (x y z u t : Value), (#[x, y, z, u, t] : Array Value).extract 1 (1 + 4) = #[y, z, u, t] := fun x y z u t => rfl
  simp only [Op.eqFields, ne_eq, String.reduceEq, not_false_eq_true, if_true, Sem.run_bind, Sem.run_ite, Sem.run_pure, H1 #[.int .i64 s, .int .i64 a.k, .int .i64 a.i, .int .u64 a.n, .int .u8 a.r] 0 (.int .i64 s) rfl, H1 #[.int .i64 s', .int .i64 b.k, .int .i64 b.i, .int .u64 b.n, .int .u8 b.r] 0 (.int .i64 s') rfl, G, e1,
    eqInt (P := Try.prog) (k := .i64) (d + 2) uInt_ w, run_cap_ d, Result.andThen_ok]
  by_cases h0 : s = s' <;> by_cases h1 : a = b <;> simp [h0, h1]
theorem cap_eql (a b : Cp) (w : World) : (binOp .eql 36 (.agg #[.int .i64 a.k, .int .i64 a.i, .int .u64 a.n, .int .u8 a.r]) (.agg #[.int .i64 b.k, .int .i64 b.i, .int .u64 b.n, .int .u8 b.r])).run Try.prog w = .ok (.bool (decide (a = b))) w := by
  rw [run_eql_struct, run_cap_ 9997, Result.andThen_ok]
theorem cap_neq (a b : Cp) (w : World) : (binOp .neq 36 (.agg #[.int .i64 a.k, .int .i64 a.i, .int .u64 a.n, .int .u8 a.r]) (.agg #[.int .i64 b.k, .int .i64 b.i, .int .u64 b.n, .int .u8 b.r])).run Try.prog w = .ok (.bool (!decide (a = b))) w := by
  rw [run_neq_struct, run_cap_ 9997, Result.andThen_ok]
theorem held_neq (s s' : Int) (a b : Cp) (w : World) : (binOp .neq 44 (.agg #[.int .i64 s, .int .i64 a.k, .int .i64 a.i, .int .u64 a.n, .int .u8 a.r]) (.agg #[.int .i64 s', .int .i64 b.k, .int .i64 b.i, .int .u64 b.n, .int .u8 b.r])).run Try.prog w = .ok (.bool (!decide (s = s' ∧ a = b))) w := by
  rw [run_neq_struct, run_held_ 9996, Result.andThen_ok]

/-! SameHeld. -/
set_option maxRecDepth 100000 in
set_option maxHeartbeats 1000000 in
theorem sameHeld_is {w : World} {B B' : Nat} {A A' : Option Addr} {c c' : Nat} (L L' : List (Int × Cp)) (h : w.ownsRow B 44 5 (.slice A L.length c) L.length (heldsV L)) (h' : w.ownsRow B' 44 5 (.slice A' L'.length c') L'.length (heldsV L')) (hn : L.length ≤ 1000) :
    Calls Try.prog 51 #[.slice A L.length c, .slice A' L'.length c'] w fun e w' => e = .returned (.bool (decide (L = L'))) ∧ ∃ n, w' = w.drewN n := by
  have H := Lib.hid (And.intro h h')
  clear h h'
  by_cases hl : L.length = L'.length
  · have hl1 : ((L.length : Int) != (L'.length : Int)) = false := by simp; omega
    have HL := Lib.hid hl
    clear hl
    go_enter Try.func51, Try.ntmps51
    go_wp2_with fail
    clear hl1
    go_loopw [5] (fun i wr => ∃ k n : Nat, i = .int .i64 k ∧ k ≤ L.length ∧ wr = w.drewN n ∧ Hid (∀ j, j < k → L[j]? = L'[j]?)) (fun i _ => L.length - (intOf i).toNat)
    case atStart => exact ⟨0, 0, rfl, Nat.zero_le _, rfl, Lib.hid (fun j hj => absurd hj (Nat.not_lt_zero _))⟩
    case round =>
      obtain ⟨k, n, rfl, hk, rfl, HA⟩ := hrel
      by_cases hlt : k < L.length
      · have hlt' : k < L'.length := by rw [← HL.out]; exact hlt
        obtain ⟨q, hq, ho⟩ := held_at H.out.1 k hlt
        obtain ⟨q', hq', ho'⟩ := held_at H.out.2 k hlt'
        have d0 := ho.c0
        have d1 := ho.c1
        have d2 := ho.c2
        have d3 := ho.c3
        have d4 := ho.c4
        have f0 := ho'.c0
        have f1 := ho'.c1
        have f2 := ho'.c2
        have f3 := ho'.c3
        have f4 := ho'.c4
        have g1 := List.getElem?_eq_getElem hlt
        have g2 := List.getElem?_eq_getElem hlt'
        obtain ⟨⟨s, a⟩, hx⟩ : ∃ x, x = L[k]'hlt := ⟨_, rfl⟩
        obtain ⟨⟨s', b⟩, hy⟩ : ∃ x, x = L'[k]'hlt' := ⟨_, rfl⟩
        rw [← hx] at d0 d1 d2 d3 d4 g1
        rw [← hy] at f0 f1 f2 f3 f4 g2
        have HG := Lib.hid (And.intro g1 g2)
        have HK := Lib.hid hlt
        have hk1 : (k : Int) < (L.length : Int) := by omega
        have hk2 : (k : Int) < (L'.length : Int) := by omega
        have EQ := fun w' => held_neq s s' a b w'
        dsimp only at d0 d1 d2 d3 d4 f0 f1 f2 f3 f4
        subst hq
        subst hq'
        clear hx hy g1 g2 ho ho' hlt hlt'
        by_cases hab : s = s' ∧ a = b
        · rw [decide_eq_true hab] at EQ
          have HAB := Lib.hid hab
          clear hab
          simp only [Bool.not_true] at EQ
          go_wp2_with fail
          go_quiet (fail)
          go_wp2_with fail
          exact ⟨⟨k + 1, n + nq, by go_num, HK.out, by simp only [World.drewN_drewN], Lib.hid (fun j hj => by
            by_cases e : j < k
            · exact HA.out j e
            · have : j = k := by omega
              subst this
              rw [HG.out.1, HG.out.2, HAB.out.1, HAB.out.2])⟩, by have := HK.out; simp [intOf]; omega⟩
        · rw [decide_eq_false hab] at EQ
          have HAB := Lib.hid hab
          clear hab
          simp only [Bool.not_false] at EQ
          go_wp2_with fail
          go_quiet (fail)
          go_wp2_with fail
          go_ret
          have hne : L ≠ L' := fun e => by
            have h1 := HG.out.1
            rw [e, HG.out.2] at h1
            injection h1 with h1
            injection h1 with h1 h2
            exact HAB.out ⟨h1.symm, h2.symm⟩
          exact ⟨by rw [decide_eq_false hne]; rfl, n + nq, by simp only [World.drewN_drewN]⟩
      · have hkr : k = L.length := by omega
        subst hkr
        have hk1 : ¬ (L.length : Int) < (L.length : Int) := by omega
        have he : L = L' := List.ext_getElem? fun j => by
          by_cases e : j < L.length
          · exact HA.out j e
          · rw [List.getElem?_eq_none (by omega), List.getElem?_eq_none (by have := HL.out; omega)]
        have HE := Lib.hid he
        clear he hlt
        go_wp2_with fail
        go_ret
        exact ⟨by rw [decide_eq_true HE.out]; rfl, _, rfl⟩
  · have hl1 : ((L.length : Int) != (L'.length : Int)) = true := by simp; omega
    have hne : L ≠ L' := fun e => hl (by rw [e])
    have HNE := Lib.hid hne
    clear hl hne
    go_enter Try.func51, Try.ntmps51
    go_wp2_with fail
    go_ret
    exact ⟨by rw [decide_eq_false HNE.out]; rfl, 0, rfl⟩
end Go.Proofs.Ytbknmfegckeogaa

/- Copy of both sides, by walks; New of the reference; Under of the program where one is not there. -/
namespace Go.Proofs.Ytbknmfegckeogaa
open Go.RowKit Go.Maps
set_option linter.unusedVariables false
set_option linter.unusedSimpArgs false

section
variable {P : Program} (w : World)
theorem eqIn_map_nil (d : Nat) (t k e : TypeId) (p : Option Nat) (h : P.underlying t = some (.map k e)) : (Op.equalIn (d + 1) t (.map p) (.map none)).run P w = .ok p.isNone w := by
  cases p <;> simp [Op.equalIn, run_underlying h]
theorem eq_map_nil (t k e : TypeId) (p : Option Nat) (h : P.underlying t = some (.map k e)) :
    (binOp .eql t (.map p) (.map none)).run P w = .ok (.bool p.isNone) w := by
  simp only [binOp]
  simp [show Op.equal t (.map p) (.map none) = Op.equalIn (9999 + 1) t (.map p) (.map none) from rfl, eqIn_map_nil w 9999 t k e p h]
theorem assert_map (t xT k e : TypeId) (v : Value) (h : P.underlying t = some (.map k e)) : (Instr.typeAssert (.iface t v) xT t false).run P w = .ok v w := by
  simp [Instr.typeAssert, run_underlying h, go_sem, Result.andThen]
end
set_option maxRecDepth 100000 in
set_option maxHeartbeats 2000000 in
theorem clone_mi {w : World} {k : TypeId} {m n : Nat} {Q : Value → Value → Prop} (h : MapR Try.prog k w m Q n) : Calls Try.prog 54 #[.map (some m)] w fun e w' => e = .returned (.map (some w.heap.size)) ∧ MapR Try.prog k w' w.heap.size Q n ∧ Below w.heap.size w w' := by
  obtain ⟨w2, hr, hm, hb, hs⟩ := run_clone h 70
  have HF := Lib.hid (And.intro hm hb)
  have hq := fun w' => eq_map_nil (P := Try.prog) w' 70 _ _ (some m) Try.underlying70
  clear hm hb hs h
  go_enter Try.func54, Try.ntmps54
  go_wp2
  rw [run_callFunc_extern Try.func84 (by kernel_rfl) (by kernel_rfl) (by kernel_rfl) (e := Extern.MapsClone.clone) (by kernel_rfl), hr]
  simp only [Result.andThen]
  rw [Oper.upon_value]
  go_wp2
  rw [assert_map _ 70 _ _ _ _ Try.underlying70]
  simp only [Result.andThen]
  rw [Oper.upon_value]
  go_wp2
  go_ret
  exact ⟨rfl, HF.out.1, HF.out.2⟩
set_option maxRecDepth 100000 in
set_option maxHeartbeats 2000000 in
theorem clone_ma {w : World} {k : TypeId} {m n : Nat} {Q : Value → Value → Prop} (h : MapR Try.prog k w m Q n) : Calls Try.prog 55 #[.map (some m)] w fun e w' => e = .returned (.map (some w.heap.size)) ∧ MapR Try.prog k w' w.heap.size Q n ∧ Below w.heap.size w w' := by
  obtain ⟨w2, hr, hm, hb, hs⟩ := run_clone h 71
  have HF := Lib.hid (And.intro hm hb)
  have hq := fun w' => eq_map_nil (P := Try.prog) w' 71 _ _ (some m) Try.underlying71
  clear hm hb hs h
  go_enter Try.func55, Try.ntmps55
  go_wp2
  rw [run_callFunc_extern Try.func84 (by kernel_rfl) (by kernel_rfl) (by kernel_rfl) (e := Extern.MapsClone.clone) (by kernel_rfl), hr]
  simp only [Result.andThen]
  rw [Oper.upon_value]
  go_wp2
  rw [assert_map _ 71 _ _ _ _ Try.underlying71]
  simp only [Result.andThen]
  rw [Oper.upon_value]
  go_wp2
  go_ret
  exact ⟨rfl, HF.out.1, HF.out.2⟩
set_option maxRecDepth 100000 in
set_option maxHeartbeats 2000000 in
theorem clone_mc {w : World} {k : TypeId} {m n : Nat} {Q : Value → Value → Prop} (h : MapR Try.prog k w m Q n) : Calls Try.prog 56 #[.map (some m)] w fun e w' => e = .returned (.map (some w.heap.size)) ∧ MapR Try.prog k w' w.heap.size Q n ∧ Below w.heap.size w w' := by
  obtain ⟨w2, hr, hm, hb, hs⟩ := run_clone h 72
  have HF := Lib.hid (And.intro hm hb)
  have hq := fun w' => eq_map_nil (P := Try.prog) w' 72 _ _ (some m) Try.underlying72
  clear hm hb hs h
  go_enter Try.func56, Try.ntmps56
  go_wp2
  rw [run_callFunc_extern Try.func84 (by kernel_rfl) (by kernel_rfl) (by kernel_rfl) (e := Extern.MapsClone.clone) (by kernel_rfl), hr]
  simp only [Result.andThen]
  rw [Oper.upon_value]
  go_wp2
  rw [assert_map _ 72 _ _ _ _ Try.underlying72]
  simp only [Result.andThen]
  rw [Oper.upon_value]
  go_wp2
  go_ret
  exact ⟨rfl, HF.out.1, HF.out.2⟩
section
variable {w w' : World} {R : Rd} {A : Ad} {S : Sp}
set_option maxRecDepth 100000 in
set_option maxHeartbeats 1000000 in
theorem rfNew_is (gs sl : Int) (n : Nat) (w : World) : Calls Try.prog 38 #[.int .i64 gs, .int .i64 sl, .int .i64 (n : Int)] w fun e w' => ∃ R : Rd, e = .returned (.pointer (some ⟨R.b, 0, none⟩)) ∧ RfAt w' R (Sp.new gs sl n) ∧ (∀ k, R.foot k → w.heap.size ≤ k) ∧ Below w.heap.size w w' := by
  go_enter Try.func38, Try.ntmps38
  go_wp2
  go_ret
  refine ⟨⟨w.heap.size, none, 0⟩, rfl, ⟨Blk.new w _ _, World.ownsRow_nil _ _ _ _⟩, ?_, (Below.refl _ _).alloc (Nat.le_refl _) _⟩
  rintro k (rfl | h)
  · exact Nat.le_refl _
  · cases h
set_option maxRecDepth 100000 in
set_option maxHeartbeats 2000000 in
theorem rfCopy_is (h : RfAt w R S) (hn : S.L.length ≤ 512) : Calls Try.prog 26 #[.pointer (some ⟨R.b, 0, none⟩)] w fun e w' => ∃ R' : Rd, e = .returned (.pointer (some ⟨R'.b, 0, none⟩)) ∧ RfAt w' R' S ∧ (∀ k, R'.foot k → w.heap.size ≤ k) ∧ Below w.heap.size w w' := by
  obtain ⟨i0, hi0, hz0, hz1, hz2⟩ := info_parts_ infoOne
  obtain ⟨c0, c1, c2, c3, c4⟩ := h.cells
  obtain ⟨w1, hw1⟩ : ∃ w1, w1 = w.alloc (.cells #[.int .i64 S.gs, .int .i64 S.sl, .int .i64 (S.F.n : Int), .slice R.A S.L.length R.c, .int .i64 (S.came : Int)] 64) := ⟨_, rfl⟩
  have hb1 : Below w.heap.size w w1 := by rw [hw1]; exact (Below.refl _ _).alloc (Nat.le_refl _) _
  have hR1 : RfAt w1 ⟨w.heap.size, R.A, R.c⟩ S := ⟨by rw [hw1]; exact Blk.new w _ _, (h.below hb1).row⟩
  have k3 := (h.below hb1).cells.2.2.2.1
  have f3 := hR1.head.frozen 3
  have j3 := hR1.cells.2.2.2.1
  have H1 := Lib.hid (And.intro hR1 hb1)
  have RD := Lib.hid (Reads.of_own hR1.row)
  have m1 := Lib.hid (show 0 + S.L.length ≤ maxLen from by unfold maxLen; omega)
  have m2 := Lib.hid (show (0 + S.L.length) * 64 ≤ 140737488355328 from by omega)
  dsimp only at f3 j3
  clear h hb1 hR1
  go_enter Try.func26, Try.ntmps26
  go_upto_region 2 with fail
  rw [← hw1]
  clear hw1 c0 c1 c2 c3 c4
  go_wp2_with (at_builtin; refine wpList_append_any _ rfl (.const (.slice none 0 0)) (.tmp 10) 62 rfl w1.heap.size 66 i0 (.agg #[.int .i64 0, .int .i64 0, .int .i64 0, .int .i64 0, .int .i64 0, .int .i64 0, .int .u64 0, .int .u8 0]) 8 64 Try.underlying62 hi0 hz0 hz1 hz2 rfl (by decide) (.slice none 0 0) 0 [] rfl (World.ownsRow_nil _ _ _ _) w1.heap.size R.A S.L.length R.c (onesV S.L) rfl RD.out (onesV_cells _) m1.out m2.out (Nat.le_refl _) ?_; intro v2 w3 hown2 hg2 hat2; rw [Nat.zero_add, List.nil_append] at hown2; (obtain ⟨A2, c2, rfl⟩ := own_slice hown2); (have hb2 := (Below.refl w1.heap.size w1).grown hg2 (Nat.le_refl _) (fun j e => by cases e)); (have HS := Lib.hid (H1.out.1.store hb2 (L := S.L) hown2)); (have HLO := Lib.hid (show ∀ k, (Value.slice A2 S.L.length c2).ownBlock = some k → w1.heap.size ≤ k from fun k hk => (hown2.lt k hk).1)); (have c3' := (hb2.cell (p := ⟨w.heap.size, 3, none⟩) H1.out.1.head.lt).trans j3); (have f3' : w3.frozen? ⟨w.heap.size, 3, none⟩ = false := (World.frozen?_of_block (w := w1) (a := ⟨w.heap.size, 3, none⟩) (hb2.block _ H1.out.1.head.lt)).trans f3); clear hown2 hg2 hat2 hb2 k3 f3 j3)
  go_ret
  refine ⟨⟨w.heap.size, A2, c2⟩, rfl, HS.out.1.ext rfl rfl rfl rfl rfl, ?_, ?_⟩
  · rintro k (rfl | hk)
    · exact Nat.le_refl _
    · exact Nat.le_trans H1.out.2.size (HLO.out k ((own_any _ _ _ _).trans hk))
  · have ha := HS.out.2.apart
    exact H1.out.2.trans (ha.below H1.out.2.size fun k hk => by rw [hk]; exact Nat.le_refl _)
set_option maxRecDepth 100000 in
set_option maxHeartbeats 1000000 in
theorem under_no (h : SpAt w A S) (hl : Lim S) {g s g' s' : Int} (hf : S.full g s ≠ 0 ∨ S.full g' s' ≠ 0) :
    Calls Try.prog 23 #[.pointer (some ⟨A.b, 0, none⟩), .int .i64 g, .int .i64 s, .int .i64 g', .int .i64 s'] w fun e w' => e = .returned (.bool false) ∧ w = w' := by
  have CF := full_is h hl g s
  have CG := full_is h hl g' s'
  clear h
  by_cases h1 : S.full g s = 0
  · have h2 : S.full g' s' ≠ 0 := hf.resolve_left (fun e => e h1)
    rw [h1] at CF
    have hq : (S.full g' s' != 0) = true := by simpa using h2
    generalize S.full g' s' = E at *
    clear h1 h2 hf
    go_enter Try.func23, Try.ntmps23
    go_wp2_with (first | ((with_reducible refine CF.mono ?_); rintro e w2 ⟨rfl, hw2⟩; subst w2) | ((with_reducible refine CG.mono ?_); rintro e w2 ⟨rfl, hw2⟩; subst w2))
    go_ret
    exact ⟨rfl, rfl⟩
  · have hq : (S.full g s != 0) = true := by simpa using h1
    generalize S.full g s = E at *
    generalize S.full g' s' = E2 at *
    clear h1 hf
    go_enter Try.func23, Try.ntmps23
    go_wp2_with (first | ((with_reducible refine CF.mono ?_); rintro e w2 ⟨rfl, hw2⟩; subst w2) | ((with_reducible refine CG.mono ?_); rintro e w2 ⟨rfl, hw2⟩; subst w2))
    go_ret
    exact ⟨rfl, rfl⟩
set_option maxRecDepth 100000 in
set_option maxHeartbeats 4000000 in
theorem spCopy_is (h : SpAt w A S) : Calls Try.prog 20 #[.pointer (some ⟨A.b, 0, none⟩)] w fun e w' => ∃ A' : Ad, e = .returned (.pointer (some ⟨A'.b, 0, none⟩)) ∧ SpAt w' A' S ∧ (∀ k, A'.own k → w.heap.size ≤ k) ∧ Below w.heap.size w w' := by
  have CN := none_is h
  have h0 : SpAt w.drew A S := h.drewN 1
  have CP := copy_is h0.prg
  have MI := Lib.hid h.mi
  have MA := Lib.hid h.ma
  have MC := Lib.hid h.mc
  have LB := Lib.hid (show A.b < w.drew.heap.size ∧ A.mi < w.drew.heap.size ∧ A.ma < w.drew.heap.size ∧ A.mc < w.drew.heap.size from ⟨h.head.lt, h.mi.lt, h.ma.lt, h.mc.lt⟩)
  obtain ⟨c0, c1, c2, c3, c4, c5, c6⟩ := h.cells
  clear h h0
  go_enter Try.func20, Try.ntmps20
  go_wp2_with (go_at_call 47; refine CN.mono ?_; rintro e w2 ⟨rfl, hw2⟩; subst w2)
  refine wp_region_held_drew (S := fun wx => wx.heap[A.b]? = w.heap[A.b]?) (by kernel_rfl) rfl (fun hHeld => ?_)
  refine wpAnyH_take (i := 0) (v := ?_) rfl (by kernel_rfl) (by kernel_rfl) (by kernel_rfl) (fun _ _ _ h => h) (Or.inl ⟨by kernel_rfl, by (intro w' hSw; have q0 := (World.cell?_of_block (w := w) (a := ⟨A.b, 0, none⟩) hSw).trans c0; have q1 := (World.cell?_of_block (w := w) (a := ⟨A.b, 1, none⟩) hSw).trans c1; have q2 := (World.cell?_of_block (w := w) (a := ⟨A.b, 2, none⟩) hSw).trans c2; have q3 := (World.cell?_of_block (w := w) (a := ⟨A.b, 3, none⟩) hSw).trans c3; have q4 := (World.cell?_of_block (w := w) (a := ⟨A.b, 4, none⟩) hSw).trans c4; have q5 := (World.cell?_of_block (w := w) (a := ⟨A.b, 5, none⟩) hSw).trans c5; have q6 := (World.cell?_of_block (w := w) (a := ⟨A.b, 6, none⟩) hSw).trans c6; go_simp; first | done | (with_reducible rfl) | rfl)⟩) hHeld ?_
  (try simp only [Act.put, List.getElem_toArray, List.getElem_cons_zero, List.getElem_cons_succ, List.setIfInBounds_toArray, List.set_cons_zero, List.set_cons_succ])
  refine wpAnyH_take (i := 1) (v := ?_) rfl (by kernel_rfl) (by kernel_rfl) (by kernel_rfl) (fun _ _ _ h => h) (Or.inl ⟨by kernel_rfl, by (intro w' hSw; have q0 := (World.cell?_of_block (w := w) (a := ⟨A.b, 0, none⟩) hSw).trans c0; have q1 := (World.cell?_of_block (w := w) (a := ⟨A.b, 1, none⟩) hSw).trans c1; have q2 := (World.cell?_of_block (w := w) (a := ⟨A.b, 2, none⟩) hSw).trans c2; have q3 := (World.cell?_of_block (w := w) (a := ⟨A.b, 3, none⟩) hSw).trans c3; have q4 := (World.cell?_of_block (w := w) (a := ⟨A.b, 4, none⟩) hSw).trans c4; have q5 := (World.cell?_of_block (w := w) (a := ⟨A.b, 5, none⟩) hSw).trans c5; have q6 := (World.cell?_of_block (w := w) (a := ⟨A.b, 6, none⟩) hSw).trans c6; go_simp; first | done | (with_reducible rfl) | rfl)⟩) hHeld ?_
  (try simp only [Act.put, List.getElem_toArray, List.getElem_cons_zero, List.getElem_cons_succ, List.setIfInBounds_toArray, List.set_cons_zero, List.set_cons_succ])
  refine wpAnyH_take (i := 2) (v := ?_) rfl (by kernel_rfl) (by kernel_rfl) (by kernel_rfl) (fun _ _ _ h => h) (Or.inl ⟨by kernel_rfl, by (intro w' hSw; have q0 := (World.cell?_of_block (w := w) (a := ⟨A.b, 0, none⟩) hSw).trans c0; have q1 := (World.cell?_of_block (w := w) (a := ⟨A.b, 1, none⟩) hSw).trans c1; have q2 := (World.cell?_of_block (w := w) (a := ⟨A.b, 2, none⟩) hSw).trans c2; have q3 := (World.cell?_of_block (w := w) (a := ⟨A.b, 3, none⟩) hSw).trans c3; have q4 := (World.cell?_of_block (w := w) (a := ⟨A.b, 4, none⟩) hSw).trans c4; have q5 := (World.cell?_of_block (w := w) (a := ⟨A.b, 5, none⟩) hSw).trans c5; have q6 := (World.cell?_of_block (w := w) (a := ⟨A.b, 6, none⟩) hSw).trans c6; go_simp; first | done | (with_reducible rfl) | rfl)⟩) hHeld ?_
  (try simp only [Act.put, List.getElem_toArray, List.getElem_cons_zero, List.getElem_cons_succ, List.setIfInBounds_toArray, List.set_cons_zero, List.set_cons_succ])
  refine wpAnyH_take (i := 3) (v := ?_) rfl (by kernel_rfl) (by kernel_rfl) (by kernel_rfl) (fun _ _ _ h => h) (Or.inl ⟨by kernel_rfl, by (intro w' hSw; have q0 := (World.cell?_of_block (w := w) (a := ⟨A.b, 0, none⟩) hSw).trans c0; have q1 := (World.cell?_of_block (w := w) (a := ⟨A.b, 1, none⟩) hSw).trans c1; have q2 := (World.cell?_of_block (w := w) (a := ⟨A.b, 2, none⟩) hSw).trans c2; have q3 := (World.cell?_of_block (w := w) (a := ⟨A.b, 3, none⟩) hSw).trans c3; have q4 := (World.cell?_of_block (w := w) (a := ⟨A.b, 4, none⟩) hSw).trans c4; have q5 := (World.cell?_of_block (w := w) (a := ⟨A.b, 5, none⟩) hSw).trans c5; have q6 := (World.cell?_of_block (w := w) (a := ⟨A.b, 6, none⟩) hSw).trans c6; go_simp; first | done | (with_reducible rfl) | rfl)⟩) hHeld ?_
  (try simp only [Act.put, List.getElem_toArray, List.getElem_cons_zero, List.getElem_cons_succ, List.setIfInBounds_toArray, List.set_cons_zero, List.set_cons_succ])
  refine wpAnyH_take (i := 4) (v := ?_) rfl (by kernel_rfl) (by kernel_rfl) (by kernel_rfl) (fun _ _ _ h => h) (Or.inl ⟨by kernel_rfl, by (intro w' hSw; have q0 := (World.cell?_of_block (w := w) (a := ⟨A.b, 0, none⟩) hSw).trans c0; have q1 := (World.cell?_of_block (w := w) (a := ⟨A.b, 1, none⟩) hSw).trans c1; have q2 := (World.cell?_of_block (w := w) (a := ⟨A.b, 2, none⟩) hSw).trans c2; have q3 := (World.cell?_of_block (w := w) (a := ⟨A.b, 3, none⟩) hSw).trans c3; have q4 := (World.cell?_of_block (w := w) (a := ⟨A.b, 4, none⟩) hSw).trans c4; have q5 := (World.cell?_of_block (w := w) (a := ⟨A.b, 5, none⟩) hSw).trans c5; have q6 := (World.cell?_of_block (w := w) (a := ⟨A.b, 6, none⟩) hSw).trans c6; go_simp; first | done | (with_reducible rfl) | rfl)⟩) hHeld ?_
  (try simp only [Act.put, List.getElem_toArray, List.getElem_cons_zero, List.getElem_cons_succ, List.setIfInBounds_toArray, List.set_cons_zero, List.set_cons_succ])
  refine wpAnyH_take (i := 5) (v := ?_) rfl (by kernel_rfl) (by kernel_rfl) (by kernel_rfl) (fun _ _ _ h => h) (Or.inl ⟨by kernel_rfl, by (intro w' hSw; have q0 := (World.cell?_of_block (w := w) (a := ⟨A.b, 0, none⟩) hSw).trans c0; have q1 := (World.cell?_of_block (w := w) (a := ⟨A.b, 1, none⟩) hSw).trans c1; have q2 := (World.cell?_of_block (w := w) (a := ⟨A.b, 2, none⟩) hSw).trans c2; have q3 := (World.cell?_of_block (w := w) (a := ⟨A.b, 3, none⟩) hSw).trans c3; have q4 := (World.cell?_of_block (w := w) (a := ⟨A.b, 4, none⟩) hSw).trans c4; have q5 := (World.cell?_of_block (w := w) (a := ⟨A.b, 5, none⟩) hSw).trans c5; have q6 := (World.cell?_of_block (w := w) (a := ⟨A.b, 6, none⟩) hSw).trans c6; go_simp; first | done | (with_reducible rfl) | rfl)⟩) hHeld ?_
  (try simp only [Act.put, List.getElem_toArray, List.getElem_cons_zero, List.getElem_cons_succ, List.setIfInBounds_toArray, List.set_cons_zero, List.set_cons_succ])
  refine wpAnyH_take (i := 6) (v := ?_) rfl (by kernel_rfl) (by kernel_rfl) (by kernel_rfl) (fun _ _ _ h => h) (Or.inl ⟨by kernel_rfl, by (intro w' hSw; have q0 := (World.cell?_of_block (w := w) (a := ⟨A.b, 0, none⟩) hSw).trans c0; have q1 := (World.cell?_of_block (w := w) (a := ⟨A.b, 1, none⟩) hSw).trans c1; have q2 := (World.cell?_of_block (w := w) (a := ⟨A.b, 2, none⟩) hSw).trans c2; have q3 := (World.cell?_of_block (w := w) (a := ⟨A.b, 3, none⟩) hSw).trans c3; have q4 := (World.cell?_of_block (w := w) (a := ⟨A.b, 4, none⟩) hSw).trans c4; have q5 := (World.cell?_of_block (w := w) (a := ⟨A.b, 5, none⟩) hSw).trans c5; have q6 := (World.cell?_of_block (w := w) (a := ⟨A.b, 6, none⟩) hSw).trans c6; go_simp; first | done | (with_reducible rfl) | rfl)⟩) hHeld ?_
  (try simp only [Act.put, List.getElem_toArray, List.getElem_cons_zero, List.getElem_cons_succ, List.setIfInBounds_toArray, List.set_cons_zero, List.set_cons_succ])
  refine wpAnyH_take (i := 7) (v := ?_) rfl (by kernel_rfl) (by kernel_rfl) (by kernel_rfl) (fun _ _ _ h => h) (Or.inl ⟨by kernel_rfl, by (intro w' hSw; have q0 := (World.cell?_of_block (w := w) (a := ⟨A.b, 0, none⟩) hSw).trans c0; have q1 := (World.cell?_of_block (w := w) (a := ⟨A.b, 1, none⟩) hSw).trans c1; have q2 := (World.cell?_of_block (w := w) (a := ⟨A.b, 2, none⟩) hSw).trans c2; have q3 := (World.cell?_of_block (w := w) (a := ⟨A.b, 3, none⟩) hSw).trans c3; have q4 := (World.cell?_of_block (w := w) (a := ⟨A.b, 4, none⟩) hSw).trans c4; have q5 := (World.cell?_of_block (w := w) (a := ⟨A.b, 5, none⟩) hSw).trans c5; have q6 := (World.cell?_of_block (w := w) (a := ⟨A.b, 6, none⟩) hSw).trans c6; go_simp; first | done | (with_reducible rfl) | rfl)⟩) hHeld ?_
  (try simp only [Act.put, List.getElem_toArray, List.getElem_cons_zero, List.getElem_cons_succ, List.setIfInBounds_toArray, List.set_cons_zero, List.set_cons_succ])
  refine wpAnyH_take (i := 8) (v := ?_) rfl (by kernel_rfl) (by kernel_rfl) (by kernel_rfl) (fun _ _ _ h => h) (Or.inl ⟨by kernel_rfl, by (intro w' hSw; have q0 := (World.cell?_of_block (w := w) (a := ⟨A.b, 0, none⟩) hSw).trans c0; have q1 := (World.cell?_of_block (w := w) (a := ⟨A.b, 1, none⟩) hSw).trans c1; have q2 := (World.cell?_of_block (w := w) (a := ⟨A.b, 2, none⟩) hSw).trans c2; have q3 := (World.cell?_of_block (w := w) (a := ⟨A.b, 3, none⟩) hSw).trans c3; have q4 := (World.cell?_of_block (w := w) (a := ⟨A.b, 4, none⟩) hSw).trans c4; have q5 := (World.cell?_of_block (w := w) (a := ⟨A.b, 5, none⟩) hSw).trans c5; have q6 := (World.cell?_of_block (w := w) (a := ⟨A.b, 6, none⟩) hSw).trans c6; go_simp; first | done | (with_reducible rfl) | rfl)⟩) hHeld ?_
  (try simp only [Act.put, List.getElem_toArray, List.getElem_cons_zero, List.getElem_cons_succ, List.setIfInBounds_toArray, List.set_cons_zero, List.set_cons_succ])
  refine wpAnyH_take (i := 9) (v := ?_) rfl (by kernel_rfl) (by kernel_rfl) (by kernel_rfl) (fun _ _ _ h => h) (Or.inl ⟨by kernel_rfl, by (intro w' hSw; have q0 := (World.cell?_of_block (w := w) (a := ⟨A.b, 0, none⟩) hSw).trans c0; have q1 := (World.cell?_of_block (w := w) (a := ⟨A.b, 1, none⟩) hSw).trans c1; have q2 := (World.cell?_of_block (w := w) (a := ⟨A.b, 2, none⟩) hSw).trans c2; have q3 := (World.cell?_of_block (w := w) (a := ⟨A.b, 3, none⟩) hSw).trans c3; have q4 := (World.cell?_of_block (w := w) (a := ⟨A.b, 4, none⟩) hSw).trans c4; have q5 := (World.cell?_of_block (w := w) (a := ⟨A.b, 5, none⟩) hSw).trans c5; have q6 := (World.cell?_of_block (w := w) (a := ⟨A.b, 6, none⟩) hSw).trans c6; go_simp; first | done | (with_reducible rfl) | rfl)⟩) hHeld ?_
  (try simp only [Act.put, List.getElem_toArray, List.getElem_cons_zero, List.getElem_cons_succ, List.setIfInBounds_toArray, List.set_cons_zero, List.set_cons_succ])
  refine wpAnyH_take (i := 10) (v := ?_) rfl (by kernel_rfl) (by kernel_rfl) (by kernel_rfl) (fun _ _ _ h => h) (Or.inl ⟨by kernel_rfl, by (intro w' hSw; have q0 := (World.cell?_of_block (w := w) (a := ⟨A.b, 0, none⟩) hSw).trans c0; have q1 := (World.cell?_of_block (w := w) (a := ⟨A.b, 1, none⟩) hSw).trans c1; have q2 := (World.cell?_of_block (w := w) (a := ⟨A.b, 2, none⟩) hSw).trans c2; have q3 := (World.cell?_of_block (w := w) (a := ⟨A.b, 3, none⟩) hSw).trans c3; have q4 := (World.cell?_of_block (w := w) (a := ⟨A.b, 4, none⟩) hSw).trans c4; have q5 := (World.cell?_of_block (w := w) (a := ⟨A.b, 5, none⟩) hSw).trans c5; have q6 := (World.cell?_of_block (w := w) (a := ⟨A.b, 6, none⟩) hSw).trans c6; go_simp; first | done | (with_reducible rfl) | rfl)⟩) hHeld ?_
  (try simp only [Act.put, List.getElem_toArray, List.getElem_cons_zero, List.getElem_cons_succ, List.setIfInBounds_toArray, List.set_cons_zero, List.set_cons_succ])
  refine wpAnyH_take (i := 11) (v := ?_) rfl (by kernel_rfl) (by kernel_rfl) (by kernel_rfl) (fun _ _ _ h => h) (Or.inl ⟨by kernel_rfl, by (intro w' hSw; have q0 := (World.cell?_of_block (w := w) (a := ⟨A.b, 0, none⟩) hSw).trans c0; have q1 := (World.cell?_of_block (w := w) (a := ⟨A.b, 1, none⟩) hSw).trans c1; have q2 := (World.cell?_of_block (w := w) (a := ⟨A.b, 2, none⟩) hSw).trans c2; have q3 := (World.cell?_of_block (w := w) (a := ⟨A.b, 3, none⟩) hSw).trans c3; have q4 := (World.cell?_of_block (w := w) (a := ⟨A.b, 4, none⟩) hSw).trans c4; have q5 := (World.cell?_of_block (w := w) (a := ⟨A.b, 5, none⟩) hSw).trans c5; have q6 := (World.cell?_of_block (w := w) (a := ⟨A.b, 6, none⟩) hSw).trans c6; go_simp; first | done | (with_reducible rfl) | rfl)⟩) hHeld ?_
  (try simp only [Act.put, List.getElem_toArray, List.getElem_cons_zero, List.getElem_cons_succ, List.setIfInBounds_toArray, List.set_cons_zero, List.set_cons_succ])
  refine wpAnyH_take (i := 12) (v := ?_) rfl (by kernel_rfl) (by kernel_rfl) (by kernel_rfl) (fun _ _ _ h => h) (Or.inl ⟨by kernel_rfl, by (intro w' hSw; have q0 := (World.cell?_of_block (w := w) (a := ⟨A.b, 0, none⟩) hSw).trans c0; have q1 := (World.cell?_of_block (w := w) (a := ⟨A.b, 1, none⟩) hSw).trans c1; have q2 := (World.cell?_of_block (w := w) (a := ⟨A.b, 2, none⟩) hSw).trans c2; have q3 := (World.cell?_of_block (w := w) (a := ⟨A.b, 3, none⟩) hSw).trans c3; have q4 := (World.cell?_of_block (w := w) (a := ⟨A.b, 4, none⟩) hSw).trans c4; have q5 := (World.cell?_of_block (w := w) (a := ⟨A.b, 5, none⟩) hSw).trans c5; have q6 := (World.cell?_of_block (w := w) (a := ⟨A.b, 6, none⟩) hSw).trans c6; go_simp; first | done | (with_reducible rfl) | rfl)⟩) hHeld ?_
  (try simp only [Act.put, List.getElem_toArray, List.getElem_cons_zero, List.getElem_cons_succ, List.setIfInBounds_toArray, List.set_cons_zero, List.set_cons_succ])
  refine wpAnyH_take (i := 13) (v := ?_) rfl (by kernel_rfl) (by kernel_rfl) (by kernel_rfl) (fun _ _ _ h => h) (Or.inl ⟨by kernel_rfl, by (intro w' hSw; have q0 := (World.cell?_of_block (w := w) (a := ⟨A.b, 0, none⟩) hSw).trans c0; have q1 := (World.cell?_of_block (w := w) (a := ⟨A.b, 1, none⟩) hSw).trans c1; have q2 := (World.cell?_of_block (w := w) (a := ⟨A.b, 2, none⟩) hSw).trans c2; have q3 := (World.cell?_of_block (w := w) (a := ⟨A.b, 3, none⟩) hSw).trans c3; have q4 := (World.cell?_of_block (w := w) (a := ⟨A.b, 4, none⟩) hSw).trans c4; have q5 := (World.cell?_of_block (w := w) (a := ⟨A.b, 5, none⟩) hSw).trans c5; have q6 := (World.cell?_of_block (w := w) (a := ⟨A.b, 6, none⟩) hSw).trans c6; go_simp; first | done | (with_reducible rfl) | rfl)⟩) hHeld ?_
  (try simp only [Act.put, List.getElem_toArray, List.getElem_cons_zero, List.getElem_cons_succ, List.setIfInBounds_toArray, List.set_cons_zero, List.set_cons_succ])
  refine wpAnyH_take (i := 14) (v := ?_) rfl (by kernel_rfl) (by kernel_rfl) (by kernel_rfl) (fun _ _ _ h => h) (Or.inl ⟨by kernel_rfl, by (intro w' hSw; have q0 := (World.cell?_of_block (w := w) (a := ⟨A.b, 0, none⟩) hSw).trans c0; have q1 := (World.cell?_of_block (w := w) (a := ⟨A.b, 1, none⟩) hSw).trans c1; have q2 := (World.cell?_of_block (w := w) (a := ⟨A.b, 2, none⟩) hSw).trans c2; have q3 := (World.cell?_of_block (w := w) (a := ⟨A.b, 3, none⟩) hSw).trans c3; have q4 := (World.cell?_of_block (w := w) (a := ⟨A.b, 4, none⟩) hSw).trans c4; have q5 := (World.cell?_of_block (w := w) (a := ⟨A.b, 5, none⟩) hSw).trans c5; have q6 := (World.cell?_of_block (w := w) (a := ⟨A.b, 6, none⟩) hSw).trans c6; go_simp; first | done | (with_reducible rfl) | rfl)⟩) hHeld ?_
  (try simp only [Act.put, List.getElem_toArray, List.getElem_cons_zero, List.getElem_cons_succ, List.setIfInBounds_toArray, List.set_cons_zero, List.set_cons_succ])
  refine wpAnyH_take (i := 15) (v := ?_) rfl (by kernel_rfl) (by kernel_rfl) (by kernel_rfl) (fun _ _ _ h => h) (Or.inl ⟨by kernel_rfl, by (intro w' hSw; have q0 := (World.cell?_of_block (w := w) (a := ⟨A.b, 0, none⟩) hSw).trans c0; have q1 := (World.cell?_of_block (w := w) (a := ⟨A.b, 1, none⟩) hSw).trans c1; have q2 := (World.cell?_of_block (w := w) (a := ⟨A.b, 2, none⟩) hSw).trans c2; have q3 := (World.cell?_of_block (w := w) (a := ⟨A.b, 3, none⟩) hSw).trans c3; have q4 := (World.cell?_of_block (w := w) (a := ⟨A.b, 4, none⟩) hSw).trans c4; have q5 := (World.cell?_of_block (w := w) (a := ⟨A.b, 5, none⟩) hSw).trans c5; have q6 := (World.cell?_of_block (w := w) (a := ⟨A.b, 6, none⟩) hSw).trans c6; go_simp; first | done | (with_reducible rfl) | rfl)⟩) hHeld ?_
  (try simp only [Act.put, List.getElem_toArray, List.getElem_cons_zero, List.getElem_cons_succ, List.setIfInBounds_toArray, List.set_cons_zero, List.set_cons_succ])
  refine wpAnyH_take (i := 17) (v := ?_) rfl (by kernel_rfl) (by kernel_rfl) (by kernel_rfl) (fun _ _ _ h => h) (Or.inl ⟨by kernel_rfl, by (intro w' hSw; have q0 := (World.cell?_of_block (w := w) (a := ⟨A.b, 0, none⟩) hSw).trans c0; have q1 := (World.cell?_of_block (w := w) (a := ⟨A.b, 1, none⟩) hSw).trans c1; have q2 := (World.cell?_of_block (w := w) (a := ⟨A.b, 2, none⟩) hSw).trans c2; have q3 := (World.cell?_of_block (w := w) (a := ⟨A.b, 3, none⟩) hSw).trans c3; have q4 := (World.cell?_of_block (w := w) (a := ⟨A.b, 4, none⟩) hSw).trans c4; have q5 := (World.cell?_of_block (w := w) (a := ⟨A.b, 5, none⟩) hSw).trans c5; have q6 := (World.cell?_of_block (w := w) (a := ⟨A.b, 6, none⟩) hSw).trans c6; go_simp; first | done | (with_reducible rfl) | rfl)⟩) hHeld ?_
  (try simp only [Act.put, List.getElem_toArray, List.getElem_cons_zero, List.getElem_cons_succ, List.setIfInBounds_toArray, List.set_cons_zero, List.set_cons_succ])
  refine wpAnyH_take (i := 18) (v := ?_) rfl (by kernel_rfl) (by kernel_rfl) (by kernel_rfl) (fun _ _ _ h => h) (Or.inl ⟨by kernel_rfl, by (intro w' hSw; have q0 := (World.cell?_of_block (w := w) (a := ⟨A.b, 0, none⟩) hSw).trans c0; have q1 := (World.cell?_of_block (w := w) (a := ⟨A.b, 1, none⟩) hSw).trans c1; have q2 := (World.cell?_of_block (w := w) (a := ⟨A.b, 2, none⟩) hSw).trans c2; have q3 := (World.cell?_of_block (w := w) (a := ⟨A.b, 3, none⟩) hSw).trans c3; have q4 := (World.cell?_of_block (w := w) (a := ⟨A.b, 4, none⟩) hSw).trans c4; have q5 := (World.cell?_of_block (w := w) (a := ⟨A.b, 5, none⟩) hSw).trans c5; have q6 := (World.cell?_of_block (w := w) (a := ⟨A.b, 6, none⟩) hSw).trans c6; go_simp; first | done | (with_reducible rfl) | rfl)⟩) hHeld ?_
  (try simp only [Act.put, List.getElem_toArray, List.getElem_cons_zero, List.getElem_cons_succ, List.setIfInBounds_toArray, List.set_cons_zero, List.set_cons_succ])
  refine wpAnyH_take (i := 19) (v := ?_) rfl (by kernel_rfl) (by kernel_rfl) (by kernel_rfl) (fun _ _ _ h => h) (Or.inl ⟨by kernel_rfl, by (intro w' hSw; have q0 := (World.cell?_of_block (w := w) (a := ⟨A.b, 0, none⟩) hSw).trans c0; have q1 := (World.cell?_of_block (w := w) (a := ⟨A.b, 1, none⟩) hSw).trans c1; have q2 := (World.cell?_of_block (w := w) (a := ⟨A.b, 2, none⟩) hSw).trans c2; have q3 := (World.cell?_of_block (w := w) (a := ⟨A.b, 3, none⟩) hSw).trans c3; have q4 := (World.cell?_of_block (w := w) (a := ⟨A.b, 4, none⟩) hSw).trans c4; have q5 := (World.cell?_of_block (w := w) (a := ⟨A.b, 5, none⟩) hSw).trans c5; have q6 := (World.cell?_of_block (w := w) (a := ⟨A.b, 6, none⟩) hSw).trans c6; go_simp; first | done | (with_reducible rfl) | rfl)⟩) hHeld ?_
  (try simp only [Act.put, List.getElem_toArray, List.getElem_cons_zero, List.getElem_cons_succ, List.setIfInBounds_toArray, List.set_cons_zero, List.set_cons_succ])
  refine wpAnyH_take (i := 20) (v := ?_) rfl (by kernel_rfl) (by kernel_rfl) (by kernel_rfl) (fun _ _ _ h => h) (Or.inl ⟨by kernel_rfl, by (intro w' hSw; have q0 := (World.cell?_of_block (w := w) (a := ⟨A.b, 0, none⟩) hSw).trans c0; have q1 := (World.cell?_of_block (w := w) (a := ⟨A.b, 1, none⟩) hSw).trans c1; have q2 := (World.cell?_of_block (w := w) (a := ⟨A.b, 2, none⟩) hSw).trans c2; have q3 := (World.cell?_of_block (w := w) (a := ⟨A.b, 3, none⟩) hSw).trans c3; have q4 := (World.cell?_of_block (w := w) (a := ⟨A.b, 4, none⟩) hSw).trans c4; have q5 := (World.cell?_of_block (w := w) (a := ⟨A.b, 5, none⟩) hSw).trans c5; have q6 := (World.cell?_of_block (w := w) (a := ⟨A.b, 6, none⟩) hSw).trans c6; go_simp; first | done | (with_reducible rfl) | rfl)⟩) hHeld ?_
  (try simp only [Act.put, List.getElem_toArray, List.getElem_cons_zero, List.getElem_cons_succ, List.setIfInBounds_toArray, List.set_cons_zero, List.set_cons_succ])
  refine wpAnyH_take (i := 22) (v := ?_) rfl (by kernel_rfl) (by kernel_rfl) (by kernel_rfl) (fun _ _ _ h => h) (Or.inl ⟨by kernel_rfl, by (intro w' hSw; have q0 := (World.cell?_of_block (w := w) (a := ⟨A.b, 0, none⟩) hSw).trans c0; have q1 := (World.cell?_of_block (w := w) (a := ⟨A.b, 1, none⟩) hSw).trans c1; have q2 := (World.cell?_of_block (w := w) (a := ⟨A.b, 2, none⟩) hSw).trans c2; have q3 := (World.cell?_of_block (w := w) (a := ⟨A.b, 3, none⟩) hSw).trans c3; have q4 := (World.cell?_of_block (w := w) (a := ⟨A.b, 4, none⟩) hSw).trans c4; have q5 := (World.cell?_of_block (w := w) (a := ⟨A.b, 5, none⟩) hSw).trans c5; have q6 := (World.cell?_of_block (w := w) (a := ⟨A.b, 6, none⟩) hSw).trans c6; go_simp; first | done | (with_reducible rfl) | rfl)⟩) hHeld ?_
  (try simp only [Act.put, List.getElem_toArray, List.getElem_cons_zero, List.getElem_cons_succ, List.setIfInBounds_toArray, List.set_cons_zero, List.set_cons_succ])
  refine wpAnyH_take (i := 23) (v := ?_) rfl (by kernel_rfl) (by kernel_rfl) (by kernel_rfl) (fun _ _ _ h => h) (Or.inl ⟨by kernel_rfl, by (intro w' hSw; have q0 := (World.cell?_of_block (w := w) (a := ⟨A.b, 0, none⟩) hSw).trans c0; have q1 := (World.cell?_of_block (w := w) (a := ⟨A.b, 1, none⟩) hSw).trans c1; have q2 := (World.cell?_of_block (w := w) (a := ⟨A.b, 2, none⟩) hSw).trans c2; have q3 := (World.cell?_of_block (w := w) (a := ⟨A.b, 3, none⟩) hSw).trans c3; have q4 := (World.cell?_of_block (w := w) (a := ⟨A.b, 4, none⟩) hSw).trans c4; have q5 := (World.cell?_of_block (w := w) (a := ⟨A.b, 5, none⟩) hSw).trans c5; have q6 := (World.cell?_of_block (w := w) (a := ⟨A.b, 6, none⟩) hSw).trans c6; go_simp; first | done | (with_reducible rfl) | rfl)⟩) hHeld ?_
  (try simp only [Act.put, List.getElem_toArray, List.getElem_cons_zero, List.getElem_cons_succ, List.setIfInBounds_toArray, List.set_cons_zero, List.set_cons_succ])
  refine wpAnyH_take (i := 24) (v := ?_) rfl (by kernel_rfl) (by kernel_rfl) (by kernel_rfl) (fun _ _ _ h => h) (Or.inl ⟨by kernel_rfl, by (intro w' hSw; have q0 := (World.cell?_of_block (w := w) (a := ⟨A.b, 0, none⟩) hSw).trans c0; have q1 := (World.cell?_of_block (w := w) (a := ⟨A.b, 1, none⟩) hSw).trans c1; have q2 := (World.cell?_of_block (w := w) (a := ⟨A.b, 2, none⟩) hSw).trans c2; have q3 := (World.cell?_of_block (w := w) (a := ⟨A.b, 3, none⟩) hSw).trans c3; have q4 := (World.cell?_of_block (w := w) (a := ⟨A.b, 4, none⟩) hSw).trans c4; have q5 := (World.cell?_of_block (w := w) (a := ⟨A.b, 5, none⟩) hSw).trans c5; have q6 := (World.cell?_of_block (w := w) (a := ⟨A.b, 6, none⟩) hSw).trans c6; go_simp; first | done | (with_reducible rfl) | rfl)⟩) hHeld ?_
  (try simp only [Act.put, List.getElem_toArray, List.getElem_cons_zero, List.getElem_cons_succ, List.setIfInBounds_toArray, List.set_cons_zero, List.set_cons_succ])
  refine wpAnyH_take (i := 25) (v := ?_) rfl (by kernel_rfl) (by kernel_rfl) (by kernel_rfl) (fun _ _ _ h => h) (Or.inl ⟨by kernel_rfl, by (intro w' hSw; have q0 := (World.cell?_of_block (w := w) (a := ⟨A.b, 0, none⟩) hSw).trans c0; have q1 := (World.cell?_of_block (w := w) (a := ⟨A.b, 1, none⟩) hSw).trans c1; have q2 := (World.cell?_of_block (w := w) (a := ⟨A.b, 2, none⟩) hSw).trans c2; have q3 := (World.cell?_of_block (w := w) (a := ⟨A.b, 3, none⟩) hSw).trans c3; have q4 := (World.cell?_of_block (w := w) (a := ⟨A.b, 4, none⟩) hSw).trans c4; have q5 := (World.cell?_of_block (w := w) (a := ⟨A.b, 5, none⟩) hSw).trans c5; have q6 := (World.cell?_of_block (w := w) (a := ⟨A.b, 6, none⟩) hSw).trans c6; go_simp; first | done | (with_reducible rfl) | rfl)⟩) hHeld ?_
  (try simp only [Act.put, List.getElem_toArray, List.getElem_cons_zero, List.getElem_cons_succ, List.setIfInBounds_toArray, List.set_cons_zero, List.set_cons_succ])
  refine wpAnyH_take (i := 27) (v := ?_) rfl (by kernel_rfl) (by kernel_rfl) (by kernel_rfl) (fun _ _ _ h => h) (Or.inl ⟨by kernel_rfl, by (intro w' hSw; have q0 := (World.cell?_of_block (w := w) (a := ⟨A.b, 0, none⟩) hSw).trans c0; have q1 := (World.cell?_of_block (w := w) (a := ⟨A.b, 1, none⟩) hSw).trans c1; have q2 := (World.cell?_of_block (w := w) (a := ⟨A.b, 2, none⟩) hSw).trans c2; have q3 := (World.cell?_of_block (w := w) (a := ⟨A.b, 3, none⟩) hSw).trans c3; have q4 := (World.cell?_of_block (w := w) (a := ⟨A.b, 4, none⟩) hSw).trans c4; have q5 := (World.cell?_of_block (w := w) (a := ⟨A.b, 5, none⟩) hSw).trans c5; have q6 := (World.cell?_of_block (w := w) (a := ⟨A.b, 6, none⟩) hSw).trans c6; go_simp; first | done | (with_reducible rfl) | rfl)⟩) hHeld ?_
  (try simp only [Act.put, List.getElem_toArray, List.getElem_cons_zero, List.getElem_cons_succ, List.setIfInBounds_toArray, List.set_cons_zero, List.set_cons_succ])
  refine wpAnyH_take (i := 28) (v := ?_) rfl (by kernel_rfl) (by kernel_rfl) (by kernel_rfl) (fun _ _ _ h => h) (Or.inl ⟨by kernel_rfl, by (intro w' hSw; have q0 := (World.cell?_of_block (w := w) (a := ⟨A.b, 0, none⟩) hSw).trans c0; have q1 := (World.cell?_of_block (w := w) (a := ⟨A.b, 1, none⟩) hSw).trans c1; have q2 := (World.cell?_of_block (w := w) (a := ⟨A.b, 2, none⟩) hSw).trans c2; have q3 := (World.cell?_of_block (w := w) (a := ⟨A.b, 3, none⟩) hSw).trans c3; have q4 := (World.cell?_of_block (w := w) (a := ⟨A.b, 4, none⟩) hSw).trans c4; have q5 := (World.cell?_of_block (w := w) (a := ⟨A.b, 5, none⟩) hSw).trans c5; have q6 := (World.cell?_of_block (w := w) (a := ⟨A.b, 6, none⟩) hSw).trans c6; go_simp; first | done | (with_reducible rfl) | rfl)⟩) hHeld ?_
  (try simp only [Act.put, List.getElem_toArray, List.getElem_cons_zero, List.getElem_cons_succ, List.setIfInBounds_toArray, List.set_cons_zero, List.set_cons_succ])
  refine wpAnyH_take (i := 29) (v := ?_) rfl (by kernel_rfl) (by kernel_rfl) (by kernel_rfl) (fun _ _ _ h => h) (Or.inl ⟨by kernel_rfl, by (intro w' hSw; have q0 := (World.cell?_of_block (w := w) (a := ⟨A.b, 0, none⟩) hSw).trans c0; have q1 := (World.cell?_of_block (w := w) (a := ⟨A.b, 1, none⟩) hSw).trans c1; have q2 := (World.cell?_of_block (w := w) (a := ⟨A.b, 2, none⟩) hSw).trans c2; have q3 := (World.cell?_of_block (w := w) (a := ⟨A.b, 3, none⟩) hSw).trans c3; have q4 := (World.cell?_of_block (w := w) (a := ⟨A.b, 4, none⟩) hSw).trans c4; have q5 := (World.cell?_of_block (w := w) (a := ⟨A.b, 5, none⟩) hSw).trans c5; have q6 := (World.cell?_of_block (w := w) (a := ⟨A.b, 6, none⟩) hSw).trans c6; go_simp; first | done | (with_reducible rfl) | rfl)⟩) hHeld ?_
  (try simp only [Act.put, List.getElem_toArray, List.getElem_cons_zero, List.getElem_cons_succ, List.setIfInBounds_toArray, List.set_cons_zero, List.set_cons_succ])
  refine wpAnyH_take (i := 30) (v := ?_) rfl (by kernel_rfl) (by kernel_rfl) (by kernel_rfl) (fun _ _ _ h => h) (Or.inl ⟨by kernel_rfl, by (intro w' hSw; have q0 := (World.cell?_of_block (w := w) (a := ⟨A.b, 0, none⟩) hSw).trans c0; have q1 := (World.cell?_of_block (w := w) (a := ⟨A.b, 1, none⟩) hSw).trans c1; have q2 := (World.cell?_of_block (w := w) (a := ⟨A.b, 2, none⟩) hSw).trans c2; have q3 := (World.cell?_of_block (w := w) (a := ⟨A.b, 3, none⟩) hSw).trans c3; have q4 := (World.cell?_of_block (w := w) (a := ⟨A.b, 4, none⟩) hSw).trans c4; have q5 := (World.cell?_of_block (w := w) (a := ⟨A.b, 5, none⟩) hSw).trans c5; have q6 := (World.cell?_of_block (w := w) (a := ⟨A.b, 6, none⟩) hSw).trans c6; go_simp; first | done | (with_reducible rfl) | rfl)⟩) hHeld ?_
  (try simp only [Act.put, List.getElem_toArray, List.getElem_cons_zero, List.getElem_cons_succ, List.setIfInBounds_toArray, List.set_cons_zero, List.set_cons_succ])
  refine wpAnyH_ready (rs := [16]) (by kernel_rfl) (by simp) ?_
  refine AllReadyH.cons rfl (fun K hK => ?_) AllReadyH.nil
  go_simp
  go_at_call 53; refine CP.mono ?_; rintro e w1 ⟨f2, lb2, v2, rfl, hp2, ho2, hb1⟩; (have hS1 := hb1.block A.b LB.out.1); (have H1 := Lib.hid (And.intro hp2 (And.intro ho2 hb1))); (have C1 := clone_mi (MI.out.block (hb1.block A.mi LB.out.2.1))); clear hp2 ho2 CP
  try dsimp only
  clear hHeld
  refine hK.out _ _ hS1 (fun hHeld => ?_)
  clear hK K
  (try simp only [Act.put, List.getElem_toArray, List.getElem_cons_zero, List.getElem_cons_succ, List.setIfInBounds_toArray, List.set_cons_zero, List.set_cons_succ])
  refine wpAnyH_ready (rs := [21]) (by kernel_rfl) (by simp) ?_
  refine AllReadyH.cons rfl (fun K hK => ?_) AllReadyH.nil
  go_simp
  go_at_call 54; refine C1.mono ?_; rintro e w2 ⟨rfl, hm2, hb2⟩; (have hb12 := hb1.trans (hb2.mono hb1.size)); (have hS2 := hb12.block A.b LB.out.1); (have H2 := Lib.hid (And.intro hm2 (And.intro hb2 hb12))); (have C2 := clone_ma (MA.out.block (hb12.block A.ma LB.out.2.2.1))); clear hm2 C1
  try dsimp only
  clear hHeld
  refine hK.out _ _ hS2 (fun hHeld => ?_)
  clear hK K
  (try simp only [Act.put, List.getElem_toArray, List.getElem_cons_zero, List.getElem_cons_succ, List.setIfInBounds_toArray, List.set_cons_zero, List.set_cons_succ])
  refine wpAnyH_ready (rs := [26]) (by kernel_rfl) (by simp) ?_
  refine AllReadyH.cons rfl (fun K hK => ?_) AllReadyH.nil
  go_simp
  go_at_call 55; refine C2.mono ?_; rintro e w3 ⟨rfl, hm3, hb3⟩; (have hb13 := hb12.trans (hb3.mono hb12.size)); (have hS3 := hb13.block A.b LB.out.1); (have H3 := Lib.hid (And.intro hm3 (And.intro hb3 hb13))); (have C3 := clone_mc (MC.out.block (hb13.block A.mc LB.out.2.2.2))); clear hm3 C2
  try dsimp only
  clear hHeld
  refine hK.out _ _ hS3 (fun hHeld => ?_)
  clear hK K
  (try simp only [Act.put, List.getElem_toArray, List.getElem_cons_zero, List.getElem_cons_succ, List.setIfInBounds_toArray, List.set_cons_zero, List.set_cons_succ])
  refine wpAnyH_ready (rs := [31]) (by kernel_rfl) (by simp) ?_
  refine AllReadyH.cons rfl (fun K hK => ?_) AllReadyH.nil
  go_simp
  go_at_call 56; refine C3.mono ?_; rintro e w4 ⟨rfl, hm4, hb4⟩; (have hb14 := hb13.trans (hb4.mono hb13.size)); (have hS4 := hb14.block A.b LB.out.1); (have H4 := Lib.hid (And.intro hm4 (And.intro hb4 hb14))); clear hm4 C3
  try dsimp only
  clear hHeld
  refine hK.out _ _ hS4 (fun hHeld => ?_)
  clear hK K
  (try simp only [Act.put, List.getElem_toArray, List.getElem_cons_zero, List.getElem_cons_succ, List.setIfInBounds_toArray, List.set_cons_zero, List.set_cons_succ])
  refine wpAnyH_take (i := 32) (v := ?_) rfl (by kernel_rfl) (by kernel_rfl) (by kernel_rfl) (fun _ _ _ h => h) (Or.inl ⟨by kernel_rfl, by (intro w' hSw; have q0 := (World.cell?_of_block (w := w) (a := ⟨A.b, 0, none⟩) hSw).trans c0; have q1 := (World.cell?_of_block (w := w) (a := ⟨A.b, 1, none⟩) hSw).trans c1; have q2 := (World.cell?_of_block (w := w) (a := ⟨A.b, 2, none⟩) hSw).trans c2; have q3 := (World.cell?_of_block (w := w) (a := ⟨A.b, 3, none⟩) hSw).trans c3; have q4 := (World.cell?_of_block (w := w) (a := ⟨A.b, 4, none⟩) hSw).trans c4; have q5 := (World.cell?_of_block (w := w) (a := ⟨A.b, 5, none⟩) hSw).trans c5; have q6 := (World.cell?_of_block (w := w) (a := ⟨A.b, 6, none⟩) hSw).trans c6; go_simp; first | done | (with_reducible rfl) | rfl)⟩) hHeld ?_
  (try simp only [Act.put, List.getElem_toArray, List.getElem_cons_zero, List.getElem_cons_succ, List.setIfInBounds_toArray, List.set_cons_zero, List.set_cons_succ])
  refine wpAnyH_ready (rs := [33]) (by kernel_rfl) (by simp) ?_
  refine AllReadyH.cons rfl (fun K hK => ?_) AllReadyH.nil
  go_simp
  
  try dsimp only
  clear hHeld
  refine hK.out _ _ ((Below.heap_alloc _ _ _ (Nat.lt_of_lt_of_le LB.out.1 hb14.size)).trans hS4) (fun hHeld => ?_)
  clear hK K
  (try simp only [Act.put, List.getElem_toArray, List.getElem_cons_zero, List.getElem_cons_succ, List.setIfInBounds_toArray, List.set_cons_zero, List.set_cons_succ])
  refine wpAnyH_take (i := 34) (v := ?_) rfl (by kernel_rfl) (by kernel_rfl) (by kernel_rfl) (fun _ _ _ h => h) (Or.inl ⟨by kernel_rfl, by (intro w' hSw; have q0 := (World.cell?_of_block (w := w) (a := ⟨A.b, 0, none⟩) hSw).trans c0; have q1 := (World.cell?_of_block (w := w) (a := ⟨A.b, 1, none⟩) hSw).trans c1; have q2 := (World.cell?_of_block (w := w) (a := ⟨A.b, 2, none⟩) hSw).trans c2; have q3 := (World.cell?_of_block (w := w) (a := ⟨A.b, 3, none⟩) hSw).trans c3; have q4 := (World.cell?_of_block (w := w) (a := ⟨A.b, 4, none⟩) hSw).trans c4; have q5 := (World.cell?_of_block (w := w) (a := ⟨A.b, 5, none⟩) hSw).trans c5; have q6 := (World.cell?_of_block (w := w) (a := ⟨A.b, 6, none⟩) hSw).trans c6; go_simp; first | done | (with_reducible rfl) | rfl)⟩) hHeld ?_
  (try simp only [Act.put, List.getElem_toArray, List.getElem_cons_zero, List.getElem_cons_succ, List.setIfInBounds_toArray, List.set_cons_zero, List.set_cons_succ])
  refine wpAnyH_done (by kernel_rfl) ?_ _
  clear c0 c1 c2 c3 c4 c5 c6
  go_wp2_with fail
  go_ret
  have l1 := H2.out.1.lt
  have l2 := H3.out.1.lt
  have l3 := H4.out.1.lt
  have s0 := H1.out.2.2.size
  have sd : w.drew.heap.size = w.heap.size := rfl
  have hbn : ∀ o, Below w4.heap.size w4 (w4.alloc o) := fun o => (Below.refl _ _).alloc (Nat.le_refl _) o
  refine ⟨⟨w4.heap.size, f2, lb2, w1.heap.size, w2.heap.size, w3.heap.size, v2⟩, rfl, ⟨Blk.new w4 _ _, ((((H1.out.1.below H2.out.2.1).below H3.out.2.1).below H4.out.2.1).below (hbn _)), ((H2.out.1.block (H3.out.2.1.block _ l1)).block (H4.out.2.1.block _ (by omega))).block ((hbn _).block _ (by omega)), (H3.out.1.block (H4.out.2.1.block _ l2)).block ((hbn _).block _ (by omega)), H4.out.1.block ((hbn _).block _ l3), ?_, ?_, ?_⟩, ?_, ?_⟩
  · intro k hk
    have := own3_lt H1.out.1 hk
    dsimp only
    omega
  · dsimp only
    omega
  · dsimp only
    omega
  · intro k hk
    rcases hk with hk | hk | hk | hk | hk
    · have := H1.out.2.1 k hk
      omega
    all_goals
      dsimp only at hk
      omega
  · exact below_undrew 1 (H4.out.2.2.trans ((hbn _).mono H4.out.2.2.size))
end
end Go.Proofs.Ytbknmfegckeogaa
