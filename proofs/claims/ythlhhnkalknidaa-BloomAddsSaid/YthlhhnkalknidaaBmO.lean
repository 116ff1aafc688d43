/- What the program's functions of layer 33 compute: own, Full, Same, New. -/
import Derived.Test.YthlhhnkalknidaaBmW
import Derived.Test.YthlhhnkalknidaaEq
import Derived.Lib.BitFns
namespace Go.Proofs.Ythlhhnkalknidaa
open Go.RowKit

theorem T.stInfo : (Try.prog.info? 27).map (·.size) = some 3 := by kernel_rfl
theorem st_results {fn : Func} {p : Tmp} (h : fn.results = #[.cell p 27]) (tmps : Array Value) (w : World) (g : Nat) (x y z : Value)
    (hp : tmps.getD p undef = .pointer (some ⟨g, 0, none⟩)) (hg : ObjAt w g 27 [x, y, z]) :
    (results fn tmps).run Try.prog w = .ok (.agg #[x, y, z]) w :=
  results_cell_row h tmps w g _ #[x, y, z] (0, 0) _ hp hg Try.underlying27 rfl T.stInfo
theorem st_results2 {fn : Func} {p u : Tmp} (h : fn.results = #[.cell p 27, .tmp u]) (tmps : Array Value) (w : World) (g : Nat) (x y z : Value)
    (hp : tmps.getD p undef = .pointer (some ⟨g, 0, none⟩)) (hg : ObjAt w g 27 [x, y, z]) :
    (results fn tmps).run Try.prog w = .ok (.tuple #[.agg #[x, y, z], tmps.getD u undef]) w :=
  results_row_tmp h tmps w g _ #[x, y, z] _ hp hg Try.underlying27 rfl T.stInfo

set_option maxHeartbeats 1000000 in
theorem own_any (v : Value) (l : List UInt8) (each n : Int) (w : World) (h : BV w v l) (hl : l.length ≤ 140737488355328) :
    Calls Try.prog 32 #[stv v each n] w fun e w' => ∃ v', e = .returned (stv v' each n) ∧ FB w' w.heap.size v' l ∧ Ext w w' := by
  obtain ⟨p, c, rfl, hn, hc, hs⟩ := id h
  have hx0 := (Ext.alloc w (.cells #[Value.slice p l.length c, .int .i64 each, .int .i64 n] 27)).trans (Ext.alloc _ (.cells #[Value.slice none 0 0, .int .i64 0, .int .i64 0] 27))
  have ho1 : ObjAt ((w.alloc (.cells #[Value.slice p l.length c, .int .i64 each, .int .i64 n] 27)).alloc (.cells #[Value.slice none 0 0, .int .i64 0, .int .i64 0] 27)) w.heap.size 27 [.slice p l.length c, .int .i64 each, .int .i64 n] := heap_alloc2_old w _ _
  have ho2 : ObjAt ((w.alloc (.cells #[Value.slice p l.length c, .int .i64 each, .int .i64 n] 27)).alloc (.cells #[Value.slice none 0 0, .int .i64 0, .int .i64 0] 27)) (w.heap.size + 1) 27 [.slice none 0 0, .int .i64 0, .int .i64 0] := heap_alloc2_new w _ _
  have C1 := clone_any (.slice p l.length c) l _ (h.ext hx0) hl
  have hsz : ((w.alloc (.cells #[Value.slice p l.length c, .int .i64 each, .int .i64 n] 27)).alloc (.cells #[Value.slice none 0 0, .int .i64 0, .int .i64 0] 27)).heap.size = w.heap.size + 2 := by simp
  have HL := Lib.hid hl
  have HSZ := Lib.hid hsz
  clear hl hsz
  go_enter Try.func32, Try.ntmps32
  go_wp2_with (go_at_call 48; refine C1.mono ?_; rintro e w1 ⟨v1, rfl, hfr, hx1⟩
               rw [HSZ.out] at hfr
               have hlt : ∀ k, v1.ownBlock = some k → w.heap.size + 2 ≤ k := fun k hk => (hfr.lt k hk).1
               have hb1 : v1.ownBlock ≠ some w.heap.size := fun e => by have := hlt _ e; omega
               have hb2 : v1.ownBlock ≠ some (w.heap.size + 1) := fun e => by have := hlt _ e; omega
               obtain ⟨p1, c1, rfl, hn1, hc1, _⟩ := hfr.slice
               have ho3 := ho1.ext hx1
               have hc0 := ho3.cell (j := 0) (u := .slice p l.length c) rfl
               have hf0 := ho3.free 0
               have ho4 := ho3.store 0 (.slice p1 l.length c1)
               obtain ⟨hd0, hd1, hd2⟩ := ho4.cells3
               have ho5 := (ho2.ext hx1).far (p := ⟨w.heap.size, 0, none⟩) (by simp) (.slice p1 l.length c1)
               obtain ⟨⟨he0, hf0, he1, hf1, he2, hf2⟩, ho6⟩ := ho5.stored3 (.slice p1 l.length c1) (.int .i64 each) (.int .i64 n))
  refine bodyPost_ret (st_results rfl _ _ (w.heap.size + 1) _ _ _ rfl ho6) rfl ?_
  exact ⟨_, rfl, FB.base ((hfr.far (p := ⟨w.heap.size, 0, none⟩) hb1 _).far3 hb2 _ _ _) (by omega), ((hx0.trans hx1).store (p := ⟨w.heap.size, 0, none⟩) (Nat.le_refl _) _).set3 (by omega) _ _ _⟩

theorem ones_pop8 : ∀ c : Fin 256, Lib.onesCount c.val = (List.range 8).countP (fun j => c.val.testBit j) := by decide +kernel
set_option maxHeartbeats 1000000 in
theorem ones_any (x : UInt8) (w : World) :
    Calls Try.prog 36 #[bv x] w fun e w' => e = .returned (.int .i64 (pop8 x : Nat)) ∧ w = w' := by
  have h0 : 0 ≤ (x.toNat : Int) := by omega
  have h1 : (x.toNat : Int) ≤ 255 := by have := x.toNat_lt; omega
  have HP := Lib.hid (Lib.pop8_int (x.toNat : Int) h0 h1)
  go_enter Try.func36, Try.ntmps36
  go_wp2
  go_ret
  refine ⟨?_, rfl⟩
  have e : wrap64 (Lib.pop8 (x.toNat : Int)) = (pop8 x : Nat) := by
    unfold wrap64
    rw [HP.out, Int.toNat_natCast]
    exact congrArg _ (ones_pop8 ⟨x.toNat, x.toNat_lt⟩)
  rw [← e]
  rfl

set_option maxHeartbeats 1000000 in
theorem full_any (v : Value) (l : List UInt8) (each n : Int) (w : World) (h : BV w v l) (hl : l.length ≤ 100000) :
    Calls Try.prog 23 #[stv v each n] w fun e w' => e = .returned (.int .i64 (fullL l : Nat)) ∧ Ext w w' := by
  obtain ⟨p, c, rfl, hn, hc, hs⟩ := id h
  have h1 := h.ext (Ext.alloc w (.cells #[Value.slice p l.length c, .int .i64 each, .int .i64 n] 27))
  obtain ⟨_, _, e0, _, _, hs1⟩ := h1
  cases e0
  have HL := Lib.hid hl
  clear hl
  unfold maxLen at hc
  go_enter Try.func23, Try.ntmps23
  go_wp2_with fail
  go_loopg [3, 9] (l.length) (fun k s3 s9 wr => ∃ j : Nat, s9 = .int .i64 j ∧ j ≤ l.length ∧ k = l.length - j ∧ s3 = .int .i64 (fullTo l (8 * j) : Nat) ∧ wr = w.alloc (.cells #[Value.slice p l.length c, .int .i64 each, .int .i64 n] 27))
  case atStart => exact ⟨0, rfl, Nat.zero_le _, rfl, rfl, rfl⟩
  case round =>
    obtain ⟨j, rfl, hj, hk, rfl, rfl⟩ := hrel
    by_cases hlt : j < l.length
    case pos =>
      obtain ⟨b, o, rfl, hcell⟩ := hs1.at (bs_get l hlt)
      have HF := Lib.hid (full_step l j hlt)
      have hf1 := fullTo_le l (8 * j)
      have hp8 := pop8_le l[j]
      have hb1 : fullTo l (8 * j) ≤ 800000 := by have := HL.out; omega
      clear hf1
      generalize fullTo l (8 * j) = F at *
      have ho := ones_any l[j]
      generalize hP : pop8 l[j] = P8 at *
      have HP := Lib.hid hP
      clear hP
      have hi : (j : Int) < (l.length : Int) := by omega
      go_wp2_with (go_at_call 36; refine (ho _).mono ?_; rintro e w' ⟨rfl, rfl⟩)
      go_roundg (l.length - (j + 1))
      case measure => omega
      case rel => exact ⟨j + 1, by go_num, hlt, rfl, by rw [HF.out]; rfl, rfl⟩
    case neg =>
      obtain rfl : j = l.length := by omega
      go_wp2_with fail
      go_ret
      exact ⟨rfl, Ext.alloc _ _⟩

def sameB (a b : SetB) : Bool := (a.bits == b.bits) && (a.each == b.each) && (a.n == b.n)
set_option maxHeartbeats 1000000 in
theorem same_any (v1 : Value) (l1 : List UInt8) (e1 n1 : Int) (v2 : Value) (l2 : List UInt8) (e2 n2 : Int) (w : World) (h1 : BV w v1 l1) (h2 : BV w v2 l2) :
    Calls Try.prog 25 #[stv v1 e1 n1, stv v2 e2 n2] w fun e w' => e = .returned (.bool (sameB ⟨l1, e1, n1⟩ ⟨l2, e2, n2⟩)) ∧ Ext w w' := by
  obtain ⟨p1, c1, rfl, _, _, _⟩ := id h1
  obtain ⟨p2, c2, rfl, _, _, _⟩ := id h2
  have hx0 := (Ext.alloc w (.cells #[Value.slice p1 l1.length c1, .int .i64 e1, .int .i64 n1] 27)).trans (Ext.alloc _ (.cells #[Value.slice p2 l2.length c2, .int .i64 e2, .int .i64 n2] 27))
  have E1 := bequal_any _ l1 _ l2 _ (h1.ext hx0) (h2.ext hx0)
  cases hb : (l1 == l2) <;> cases he : (e1 == e2) <;> cases hm : (n1 == n2)
  all_goals
    rw [hb] at E1
    obtain ⟨S, hS⟩ : ∃ S, sameB ⟨l1, e1, n1⟩ ⟨l2, e2, n2⟩ = S := ⟨_, rfl⟩
    rw [hS]
    unfold sameB at hS
    simp only at hS
    rw [hb, he, hm] at hS
    subst hS
    go_enter Try.func25, Try.ntmps25
    go_wp2_with (go_at_call 37; refine E1.mono ?_; rintro e w' ⟨rfl, rfl⟩)
    go_ret
    exact ⟨rfl, hx0⟩
end Go.Proofs.Ythlhhnkalknidaa
