/- What the functions of layer 7 compute that copy: as. -/
import Derived.Test.YtlbeemjcndhenaaFrT
namespace Go.Proofs.Ytlbeemjcndhenaa
open Go.RowKit

set_option maxHeartbeats 1000000 in
theorem as_any (v : Value) (xs : List Fnd) (w : World) (h : SRow 2 RF (fun _ => True) w v xs) (hb : xs.length ≤ 100000) :
    Calls Try.prog 19 #[v] w fun e w' => ∃ v', e = .returned v' ∧ ORow 34 2 RF (fun k => k < w.heap.size) w' w.heap.size v' xs ∧ Ext w w' := by
  obtain ⟨q1, d1, rfl, _, hd1⟩ := h.slice
  have hlow : SRow 2 RF (fun k => k < w.heap.size) w (.slice q1 xs.length d1) xs := h.mono fun k hk _ => hk
  go_enter Try.func19, Try.ntmps19
  go_wp2_with fail
  go_loopg [3, 4] (xs.length) (fun k s3 s4 wr => ∃ j : Nat, s4 = .int .i64 j ∧ j ≤ xs.length ∧ k = xs.length - j ∧ ORow 34 2 RF (fun k => k < w.heap.size) wr w.heap.size s3 (xs.take j) ∧ Ext w wr)
  case atStart => exact ⟨0, rfl, Nat.zero_le _, rfl, ORow.nil _ _ _, Ext.refl _⟩
  case round =>
    obtain ⟨j, rfl, hj, hk, ho, hx⟩ := hrel
    by_cases hlt : j < xs.length
    case neg =>
      obtain rfl : j = xs.length := by omega
      rw [List.take_of_length_le (Nat.le_refl _)] at ho
      go_wp2_with fail
      go_ret
      exact ⟨_, rfl, ho, hx⟩
    case pos =>
      obtain ⟨po, co, rfl, hno, hco⟩ := ho.view.slice
      obtain ⟨b1, o1, u1, rfl, hc1, hc2, hu1⟩ := found_at hlow hlt
      obtain ⟨pu, cu, rfl, _, _, _⟩ := hu1.now
      have hcc1 := hx.cell hc1
      have hcc2 := hx.cell hc2
      have htl : (xs.take j).length = j := by rw [List.length_take]; omega
      rw [htl] at hno
      have HT : Hid (xs.take j ++ [xs[j]] = xs.take (j + 1)) := by
        have : xs.take j ++ [xs[j]] = xs.take (j + 1) := by rw [List.take_add_one, List.getElem?_eq_getElem hlt]; rfl
        exact this
      generalize xs[j] = x at *
      have ho1 := ho.keep (Ext.alloc wr (.cells #[.int .i64 x.1, .slice pu x.2.length cu] 34))
      have hxx := hx.trans (Ext.alloc wr (.cells #[.int .i64 x.1, .slice pu x.2.length cu] 34))
      have hl1 : SRow 2 RF (fun k => k < w.heap.size ∧ some k ≠ (Value.slice po (xs.take j).length co).ownBlock) (wr.alloc (.cells #[.int .i64 x.1, .slice pu x.2.length cu] 34)) (.slice (some ⟨wr.heap.size, 0, none⟩) 1 1) [x] :=
        SRow.lit1 (cs := [.int .i64 x.1, .slice pu x.2.length cu]) rfl (fun u hu => (RF.one (x := x) ⟨_, rfl, hu1.now⟩).2 u hu)
          (((hu1.later (T := fun k => k < w.heap.size) (hx.keeps _) fun k _ hk => hk).mono fun k _ hk => ⟨hk, fun e => by have := (ho.own k e.symm).1; omega⟩).imp fun w hw => ⟨_, rfl, hw⟩)
      clear hc1 hc2 hu1
      go_wp2_with (at_builtin; refine st_items T.rfounds ho1 hl1 ?_ (by simp [maxLen]; omega) (by simp; omega) hxx.size; intro v2 w2 ho2 hg2 hw2; have hx2 := ho1.grown hxx hg2; rw [HT.out] at ho2)
      go_roundg (xs.length - (j + 1))
      case measure => omega
      case rel => exact ⟨j + 1, by go_num, hlt, rfl, ho2, hx2⟩
end Go.Proofs.Ytlbeemjcndhenaa
