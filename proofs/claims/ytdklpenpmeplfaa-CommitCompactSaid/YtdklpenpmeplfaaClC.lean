/- slices.Clone of rows of commits. -/
import Derived.Test.YtdklpenpmeplfaaIns
import Derived.Test.YtdklpenpmeplfaaCmR
namespace Go.Proofs.Ytdklpenpmeplfaa
open Go.RowKit

set_option maxHeartbeats 400000 in
theorem cloneC_any {α : Type} {R : World → List Value → α → Prop} {S : Nat → Prop} (v : Value) (xs : List α) (w : World) (h : SRow 4 R S w v xs) (hl : xs.length ≤ 100000) :
    Calls Try.prog 41 #[v] w fun e w' => ∃ v', e = .returned v' ∧ ORow 33 4 R S w' w.heap.size v' xs ∧ Ext w w' := by
  obtain ⟨p, c, rfl, hn, hc⟩ := h.slice
  have q22 : ∀ (w : World) (a : Option Addr) (n c n' c' : Nat), (binOp .eql 48 (.slice a n c) (.slice none n' c')).run Try.prog w = .ok (.bool a.isNone) w := fun w a n c n' c' => Lib.run_eql_slice_nil w _ _ a n c n' c' Try.underlying48
  have HL := Lib.hid hl
  clear hl
  cases p with
  | none =>
    have hnil : xs = [] := h.none_nil (by decide)
    subst hnil
    go_enter Try.func41, Try.ntmps41
    go_wp2
    go_ret
    exact ⟨_, rfl, ORow.nil _ _ _, Ext.refl _⟩
  | some ad =>
    have hx0 := Ext.alloc w (.cells #[] 33)
    have h1 : SRow 4 R (fun k => S k ∧ some k ≠ (Value.slice (some ⟨w.heap.size, 0, none⟩) 0 0).ownBlock) (w.alloc (.cells #[] 33)) (.slice (some ad) xs.length c) xs := by
      obtain ⟨css, p, c', k1, k2, k3, k4, k5, k6⟩ := h
      refine ⟨css, p, c', k1, k2, k3, k4, k5.ext hx0, k6.1, fun j cs x hcs hxx w' kk => ?_⟩
      refine k6.2 j cs x hcs hxx w' ⟨Nat.le_trans hx0.size kk.1, fun k hk hS => ?_⟩
      rw [kk.2 k (Nat.lt_of_lt_of_le hk hx0.size) ⟨hS, fun e => by cases e; exact absurd hk (Nat.lt_irrefl _)⟩]
      exact hx0.block k hk
    have hown : ORow 33 4 R S (w.alloc (.cells #[] 33)) w.heap.size (.slice (some ⟨w.heap.size, 0, none⟩) 0 0) ([] : List α) := ORow.lit0 S w (Nat.le_refl _)
    have HX := Lib.hid hx0
    clear hx0 h hn hc
    go_enter Try.func41, Try.ntmps41
    go_wp2_with (at_builtin; refine st_items T.cms hown h1 ?_ (by have := HL.out; simp [maxLen]; omega) (by have := HL.out; simp; omega) HX.out.size; intro v2 w2 ho2 hg2 hw2)
    go_ret
    exact ⟨_, rfl, by simpa using ho2, hown.grown HX.out hg2⟩
end Go.Proofs.Ytdklpenpmeplfaa
