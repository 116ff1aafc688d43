/- Rows of bytes in this translation, and bytes.Clone. -/
import Derived.Test.YtpejdompanhieaaBase
namespace Go.Proofs.Ytpejdompanhieaa
open Go.RowKit

theorem T.bytes : RowT Try.prog 53 5 (.int .u8 0) 1 1 := ⟨Try.underlying53, info_parts T.info, rfl, by omega⟩

set_option maxHeartbeats 400000 in
theorem clone_any (v : Value) (l : List UInt8) (w : World) (h : BV w v l) (hl : l.length ≤ 140737488355328) :
    Calls Try.prog 69 #[v] w fun e w' => ∃ v', e = .returned v' ∧ FB w' w.heap.size v' l ∧ Ext w w' := by
  have h0 := h
  obtain ⟨p, c, rfl, hn, hc, hs⟩ := h
  unfold maxLen at hc
  have q22 : ∀ (w : World) (a : Option Addr) (n c n' c' : Nat), (binOp .eql 53 (.slice a n c) (.slice none n' c')).run Try.prog w = .ok (.bool a.isNone) w := fun w a n c n' c' => Lib.run_eql_slice_nil w _ _ a n c n' c' Try.underlying53
  cases p with
  | none =>
    have hl : l = [] := by
      cases l with
      | nil => rfl
      | cons x r =>
        obtain ⟨b, o, e, _⟩ := hs (by simp [bs])
        cases e
    subst hl
    go_enter Try.func69, Try.ntmps69
    go_wp2
    go_ret
    exact ⟨_, rfl, FB.nil _ _, Ext.refl _⟩
  | some ad =>
    have h1 := h0.ext (Ext.alloc w (.cells #[] 5))
    have hown : FB (w.alloc (.cells #[] 5)) w.heap.size (.slice (some ⟨w.heap.size, 0, none⟩) 0 0) [] := World.ownsRow_lit w #[] 0 (Nat.le_refl _) (by simp [maxLen]) rfl
    go_enter Try.func69, Try.ntmps69
    go_wp2_with (at_builtin; refine wpList_append_bytes T.bytes rfl rfl rfl rfl hown h1 (by simpa using hl) (by simp) ?_; intro v' w' hf hg _)
    go_ret
    exact ⟨_, rfl, by simpa using hf, (Ext.alloc w _).thenBelow (below_grown hown hg (Nat.le_refl _) (by simp))⟩
end Go.Proofs.Ytpejdompanhieaa
