/- The types of bytes and texts in this translation. -/
import Derived.Test.YtpejdompanhieaaProg
import Derived.Test.YtpejdompanhieaaMem
import Derived.Lib.Hide
namespace Go.Proofs.Ytpejdompanhieaa
open Go.RowKit

theorem T.info : (Try.prog.info? 5).map (fun i => (i.zero, i.size, i.bytes)) = some (some (.int .u8 0), 1, 1) := by kernel_rfl
theorem T.u8 : Try.prog.underlying 5 = some (.int .u8) := Try.underlying5
theorem T.str : Try.prog.underlying 9 = some .string := Try.underlying9
theorem FB.stable (B : Nat) (l : List UInt8) : ∀ v W W', Ext W W' → FB W B v l → FB W' B v l := fun _ _ _ hx h => FB.keep h hx
theorem BV.stable (l : List UInt8) : ∀ v W W', Ext W W' → BV W v l → BV W' v l := fun _ _ _ hx h => h.ext hx
end Go.Proofs.Ytpejdompanhieaa
