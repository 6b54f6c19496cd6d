/- Audit records as twelve cells each; what it is for a record, or a row of records, to lie in memory. No program in sight. -/
import Derived.WalkKit
import Derived.Lib.Hide
namespace Go.Proofs.Ythmjhepjlgcgfaa
open Go.RowKit

structure Rec where
  sq : Int
  tm : Int
  gi : Int
  gg : Int
  p : Int
  kd : Int
  a0 : Int
  a1 : Int
  a2 : Int
  a3 : Int
  a4 : Int
  cd : Int
deriving DecidableEq

def Rec.vs (r : Rec) : List Value := [.int .u64 r.sq, .int .u64 r.tm, .int .i64 r.gi, .int .u64 r.gg, .int .i64 r.p, .int .i64 r.kd, .int .u64 r.a0, .int .u64 r.a1, .int .u64 r.a2, .int .u64 r.a3, .int .u64 r.a4, .int .i64 r.cd]
/-- The record lies in memory. -/
def RecAt (w : World) (g o : Nat) (r : Rec) : Prop :=
  w.cell? ⟨g, o, none⟩ = some (.int .u64 r.sq) ∧ w.cell? ⟨g, o + 1, none⟩ = some (.int .u64 r.tm) ∧ w.cell? ⟨g, o + 2, none⟩ = some (.int .i64 r.gi) ∧ w.cell? ⟨g, o + 3, none⟩ = some (.int .u64 r.gg) ∧
  w.cell? ⟨g, o + 4, none⟩ = some (.int .i64 r.p) ∧ w.cell? ⟨g, o + 5, none⟩ = some (.int .i64 r.kd) ∧ w.cell? ⟨g, o + 6, none⟩ = some (.int .u64 r.a0) ∧ w.cell? ⟨g, o + 7, none⟩ = some (.int .u64 r.a1) ∧
  w.cell? ⟨g, o + 8, none⟩ = some (.int .u64 r.a2) ∧ w.cell? ⟨g, o + 9, none⟩ = some (.int .u64 r.a3) ∧ w.cell? ⟨g, o + 10, none⟩ = some (.int .u64 r.a4) ∧ w.cell? ⟨g, o + 11, none⟩ = some (.int .i64 r.cd)
end Go.Proofs.Ythmjhepjlgcgfaa
