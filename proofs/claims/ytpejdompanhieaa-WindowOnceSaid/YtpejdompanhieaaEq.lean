/- What bytes.Equal computes. -/
import Derived.Test.YtpejdompanhieaaClone
import Derived.Test.YtpejdompanhieaaBase
namespace Go.Proofs.Ytpejdompanhieaa
open Go.RowKit

set_option maxHeartbeats 1000000 in
theorem bequal_any (v1 : Value) (l1 : List UInt8) (v2 : Value) (l2 : List UInt8) (w : World) (h1 : BV w v1 l1) (h2 : BV w v2 l2) :
    Calls Try.prog 55 #[v1, v2] w fun e w' => e = .returned (.bool (l1 == l2)) ∧ w = w' := by
  go_enter Try.func55, Try.ntmps55
  go_wp2_with (first
    | ((with_reducible show wpList _ _ _ (Oper.mk _ (Op.convert _ _ _) _ _ _ _ :: _) _ _); refine st_string T.bytes T.u8 T.str h1 ?_)
    | ((with_reducible show wpList _ _ _ (Oper.mk _ (Op.convert _ _ _) _ _ _ _ :: _) _ _); refine st_string T.bytes T.u8 T.str h2 ?_))
  go_ret
  exact ⟨rfl, rfl⟩
end Go.Proofs.Ytpejdompanhieaa
