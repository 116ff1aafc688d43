/- What the document's functions of layer 33 compute: Same. -/
import Derived.Test.YthlhhnkalknidaaBmR
namespace Go.Proofs.Ythlhhnkalknidaa
open Go.RowKit

set_option maxHeartbeats 1000000 in
theorem rsame_any (v1 : Value) (l1 : List UInt8) (e1 n1 : Int) (v2 : Value) (l2 : List UInt8) (e2 n2 : Int) (w : World) (h1 : BV w v1 l1) (h2 : BV w v2 l2) :
    Calls Try.prog 13 #[stv v1 e1 n1, stv v2 e2 n2] w fun e w' => e = .returned (.bool (sameB ⟨l1, e1, n1⟩ ⟨l2, e2, n2⟩)) ∧ Ext w w' := by
  obtain ⟨p1, c1, rfl, _, _, _⟩ := id h1
  obtain ⟨p2, c2, rfl, _, _, _⟩ := id h2
  have hx0 := (Ext.alloc w (.cells #[Value.slice p1 l1.length c1, .int .i64 e1, .int .i64 n1] 24)).trans (Ext.alloc _ (.cells #[Value.slice p2 l2.length c2, .int .i64 e2, .int .i64 n2] 24))
  have k1 := h1.ext hx0
  have k2 := h2.ext hx0
  cases hb : (l1 == l2) <;> cases he : (e1 == e2) <;> cases hm : (n1 == n2)
  all_goals
    obtain ⟨S, hS⟩ : ∃ S, sameB ⟨l1, e1, n1⟩ ⟨l2, e2, n2⟩ = S := ⟨_, rfl⟩
    rw [hS]
    unfold sameB at hS
    simp only at hS
    rw [hb, he, hm] at hS
    subst hS
    go_enter Try.func13, Try.ntmps13
    go_wp2_with (first
      | ((with_reducible show wpList _ _ _ (Oper.mk _ (Op.convert _ _ _) _ _ _ _ :: _) _ _); refine st_string T.bytes T.u8 T.str k1 ?_)
      | ((with_reducible show wpList _ _ _ (Oper.mk _ (Op.convert _ _ _) _ _ _ _ :: _) _ _); refine st_string T.bytes T.u8 T.str k2 ?_))
    go_ret
    exact ⟨rfl, hx0⟩
end Go.Proofs.Ythlhhnkalknidaa
