/- Records that are one, by the document and by the program's own '=='. Structs that are one by the program's own '==': records, commits. -/
import Derived.Test.YtdklpenpmeplfaaBat
import Derived.Test.YtdklpenpmeplfaaCm
import Derived.Test.YtdklpenpmeplfaaCmR
namespace Go.Proofs.Ytdklpenpmeplfaa
open Go.RowKit

set_option maxHeartbeats 2000000 in
theorem rsame_any (a b : Rec) (w : World) :
    Calls Try.prog 16 #[recv a, recv b] w fun e w' => e = .returned (.bool (sameR a b)) ∧ Ext w w' := by
  obtain ⟨d1, t1, k1, y1, z1, v1⟩ := a
  obtain ⟨d2, t2, k2, y2, z2, v2⟩ := b
  have hx0 := (Ext.alloc w (.cells #[.int .i64 d1, .int .i64 t1, .bool k1, .string ⟨y1.toArray⟩, .bool z1, .string ⟨v1.toArray⟩] 25)).trans (Ext.alloc _ (.cells #[.int .i64 d2, .int .i64 t2, .bool k2, .string ⟨y2.toArray⟩, .bool z2, .string ⟨v2.toArray⟩] 25))
  obtain ⟨S, hS⟩ : ∃ S, sameR ⟨d1, t1, k1, y1, z1, v1⟩ ⟨d2, t2, k2, y2, z2, v2⟩ = S := ⟨_, rfl⟩
  rw [hS]
  unfold sameR at hS
  simp only at hS
  cases h1 : (d1 == d2)
  case' true => cases h2 : (t1 == t2)
  case' true.true => cases h3 : (k1 == k2)
  case' true.true.true => cases h4 : (y1 == y2)
  case' true.true.true.true => cases h5 : (z1 == z2)
  case' true.true.true.true.true => cases h6 : (v1 == v2)
  all_goals
    simp only [*, Bool.false_and, Bool.true_and] at hS
    subst hS
    go_enter Try.func16, Try.ntmps16
    go_wp2_with fail
    go_ret
    exact ⟨rfl, hx0⟩

theorem eqCm_run (a b : Cm) (w : World) : (Op.equalIn 10000 33 (cmv a) (cmv b)).run Try.prog w = .ok (eqC a b) w := by
  obtain ⟨g1, t1, i1, o1⟩ := a
  obtain ⟨g2, t2, i2, o2⟩ := b
  have u3 := Try.underlying3
  have a3 := Try.isAgg3
  have z3 := Try.sizeOf3
  have u9 := Try.underlying9
  have a9 := Try.isAgg9
  have z9 := Try.sizeOf9
  have hS : Try.prog.underlying 33 = some (.struct (Try.prog.fieldsOf 33)) := by kernel_rfl
  have hp : Try.prog.stoodInHeld 33 = false := by kernel_rfl
  rw [show (10000 : Nat) = 9999 + 1 from rfl, run_equalIn_agg w 9999 33 _ _ hS hp]
  simp only [Program.fieldsOf, Try.underlying33]
  go_simp
  unfold eqC
  by_cases h1 : g1 = g2 <;> by_cases h2 : t1 = t2 <;> by_cases h3 : i1 = i2 <;> by_cases h4 : o1 = o2 <;> simp [h1, h2, h3, h4]
theorem run_neqCm {o : Oper} {a : Act} {x y : Operand} {ty : TypeId} (ho : o.op = .binOp .neq 33 x y ty) {c d : Cm} (hx : a.eval x = cmv c) (hy : a.eval y = cmv d) (W : World) :
    (execOp a.eval o).run Try.prog W = .ok (.value (.bool (!eqC c d))) W := by
  have hm : Try.prog.eqGuardType Try.prog.depth 33 = false := by kernel_rfl
  simp [execOp, ho, hx, hy, run_eqGuard_agg W .neq 33 x y _ _ hm, run_neq_struct, eqCm_run, Result.andThen]
theorem eqRec_run (a b : Rec) (w : World) : (Op.equalIn 10000 25 (recv a) (recv b)).run Try.prog w = .ok (sameR a b) w := by
  obtain ⟨d1, t1, k1, y1, z1, v1⟩ := a
  obtain ⟨d2, t2, k2, y2, z2, v2⟩ := b
  have u3 := Try.underlying3
  have a3 := Try.isAgg3
  have z3 := Try.sizeOf3
  have u9 := Try.underlying9
  have a9 := Try.isAgg9
  have z9 := Try.sizeOf9
  have u4 := Try.underlying4
  have a4 := Try.isAgg4
  have z4 := Try.sizeOf4
  have hS : Try.prog.underlying 25 = some (.struct (Try.prog.fieldsOf 25)) := by kernel_rfl
  have hp : Try.prog.stoodInHeld 25 = false := by kernel_rfl
  rw [show (10000 : Nat) = 9999 + 1 from rfl, run_equalIn_agg w 9999 25 _ _ hS hp]
  simp only [Program.fieldsOf, Try.underlying25]
  go_simp
  unfold sameR
  by_cases h1 : d1 = d2
  · by_cases h2 : t1 = t2
    · by_cases h3 : k1 = k2
      · by_cases h4 : y1 = y2
        · by_cases h5 : z1 = z2
          · by_cases h6 : v1 = v2 <;> simp [h1, h2, h3, h4, h5, h6]
          · simp [h1, h2, h3, h4, h5]
        · simp [h1, h2, h3, h4]
      · simp [h1, h2, h3]
    · simp [h1, h2]
  · simp [h1]
theorem run_neqRec {o : Oper} {a : Act} {x y : Operand} {ty : TypeId} (ho : o.op = .binOp .neq 25 x y ty) {c d : Rec} (hx : a.eval x = recv c) (hy : a.eval y = recv d) (W : World) :
    (execOp a.eval o).run Try.prog W = .ok (.value (.bool (!sameR c d))) W := by
  have hm : Try.prog.eqGuardType Try.prog.depth 25 = false := by kernel_rfl
  simp [execOp, ho, hx, hy, run_eqGuard_agg W .neq 25 x y _ _ hm, run_neq_struct, eqRec_run, Result.andThen]
theorem run_eqlCm {o : Oper} {a : Act} {x y : Operand} {ty : TypeId} (ho : o.op = .binOp .eql 33 x y ty) {c d : Cm} (hx : a.eval x = cmv c) (hy : a.eval y = cmv d) (W : World) :
    (execOp a.eval o).run Try.prog W = .ok (.value (.bool (eqC c d))) W := by
  have hm : Try.prog.eqGuardType Try.prog.depth 33 = false := by kernel_rfl
  simp [execOp, ho, hx, hy, run_eqGuard_agg W .eql 33 x y _ _ hm, run_eql_struct, eqCm_run, Result.andThen]
end Go.Proofs.Ytdklpenpmeplfaa
