/- What the document's functions of layer 1 compute: numbers and texts laid and read. -/
import Derived.Test.YtpejdompanhieaaClone
import Derived.Test.YtpejdompanhieaaVarT
namespace Go.Proofs.Ytpejdompanhieaa
open Go.RowKit

set_option maxHeartbeats 400000 in
theorem rzigzag_any (n : Int) (h1 : -9223372036854775808 ≤ n) (h2 : n ≤ 9223372036854775807) (w : World) :
    Calls Try.prog 68 #[.int .i64 n] w fun e w' => e = .returned (.int .u64 (zig n : Nat)) ∧ w = w' := by
  by_cases h : 0 ≤ n
  · have e : ((zig n : Nat) : Int) = 2 * n := by unfold zig; rw [if_pos h]; omega
    rw [e]
    go_enter Try.func68, Try.ntmps68
    go_wp2
    go_ret
    exact ⟨rfl, rfl⟩
  · have e : ((zig n : Nat) : Int) = -2 * n - 1 := by unfold zig; rw [if_neg h]; omega
    rw [e]
    go_enter Try.func68, Try.ntmps68
    go_wp2
    go_ret
    exact ⟨by rw [show -2 * n - 1 = 2 * -(n + 1) + 1 by omega]; rfl, rfl⟩
set_option maxHeartbeats 400000 in
theorem rzagzig_any (u : Nat) (h : u < 18446744073709551616) (w : World) :
    Calls Try.prog 79 #[.int .u64 (u : Int)] w fun e w' => e = .returned (.int .i64 (zag u)) ∧ w = w' := by
  by_cases h2 : u % 2 = 0
  · have e : zag u = ((u / 2 : Nat) : Int) := by unfold zag; rw [if_pos h2]
    have hz : ((u : Int) % 2 == 0) = true := by rw [beq_iff_eq]; omega
    rw [e]
    go_enter Try.func79, Try.ntmps79
    go_wp2
    go_ret
    exact ⟨rfl, rfl⟩
  · have e : zag u = -((u / 2 : Nat) : Int) - 1 := by unfold zag; rw [if_neg h2]
    have hz : ((u : Int) % 2 == 0) = false := by rw [beq_eq_false_iff_ne]; omega
    rw [e]
    go_enter Try.func79, Try.ntmps79
    go_wp2
    go_ret
    exact ⟨rfl, rfl⟩
set_option maxRecDepth 20000 in
set_option maxHeartbeats 1000000 in
theorem rbytes_any (u : Nat) (h : u < 18446744073709551616) (w : World) :
    Calls Try.prog 67 #[.int .u64 (u : Int)] w fun e w' => ∃ v, e = .returned v ∧ FB w' w.heap.size v (vb u) ∧ Ext w w' := by
  have hu : u < 128 ^ (9 + 1) := by omega
  have HU := Lib.hid hu
  have H64 := Lib.hid h
  clear hu h
  go_enter Try.func67, Try.ntmps67
  go_wp2_with fail
  go_loopg [0, 3] (u) (fun k s0 s3 wr => ∃ (f m : Nat) (pre : List UInt8), s0 = .int .u64 (m : Int) ∧ m ≤ k ∧ Hid (m < 18446744073709551616) ∧ Hid (m < 128 ^ (f + 1)) ∧ pre.length + f ≤ 9 ∧ Hid (pre ++ vbF f m = vb u) ∧ FB wr w.heap.size s3 pre ∧ Ext w wr)
  case atStart => exact ⟨9, u, [], rfl, Nat.le_refl _, H64, HU, by simp, rfl, FB.nil _ _, Ext.refl _⟩
  case round =>
    obtain ⟨f, m, pre, rfl, hmk, H64, HM, hp, HP, hf, hx⟩ := hrel
    have hsz := hx.size
    by_cases hlt : 128 ≤ m
    case pos =>
      have hlt2 : (128 : Int) ≤ (m : Int) := by omega
      obtain ⟨f', rfl⟩ : ∃ f', f = f' + 1 := by
        cases f with
        | zero => have := HM.out; simp at this; omega
        | succ f => exact ⟨f, rfl⟩
      obtain ⟨x, hb, HX⟩ : ∃ x : UInt8, (m : Int) % 128 + 128 = (x.toNat : Int) ∧ Hid (x = UInt8.ofNat (m % 128 + 128)) := ⟨UInt8.ofNat (m % 128 + 128), by rw [toNat_ofNat8]; omega, rfl⟩
      have hm2 : m / 128 < 128 ^ (f' + 1) := Nat.div_lt_of_lt_mul (by have := HM.out; rw [Nat.pow_succ, Nat.mul_comm] at this; exact this)
      have HM2 := Lib.hid hm2
      have HV : Hid (vbF (f' + 1) m = x :: vbF f' (m / 128)) := by rw [HX.out]; exact vbF_go f' m (by omega)
      have hk : m / 128 < m := by omega
      have hd : (m : Int) / 128 = ((m / 128 : Nat) : Int) := by omega
      have hp2 : pre.length + 1 ≤ 10 := by omega
      generalize m / 128 = m' at *
      have HD := Lib.hid hd
      have h640 : (m : Int) < 18446744073709551616 := by have := H64.out; omega
      have H64b : Hid (m' < 18446744073709551616) := Nat.lt_trans hk H64.out
      have H641 := Lib.hid h640
      clear hd hm2 HX h640
      go_wp2_with (at_builtin; refine st_append T.bytes (hf.keep (Ext.alloc wr _)) (FB.lit1 wr (Nat.le_refl _) x).view ?_ (by simp; omega) (by simp; omega); intro v2 w2 hf2 hg2 hw2; have h640 := H641.out)
      go_roundg (m')
      case measure => omega
      case rel =>
        refine ⟨f', m', pre ++ [x], ?_, Nat.le_refl _, H64b, HM2, by simp; omega, ?_, hf2, (hx.trans (Ext.alloc _ _)).thenBelow (below_grown (hf.keep (Ext.alloc wr _)) hg2 (Nat.le_refl _) (by simp; omega))⟩
        · rw [← HD.out]
        · have := HP.out
          rw [HV.out] at this
          rw [List.append_assoc]
          exact this
    case neg =>
      have hlt2 : ¬ (128 : Int) ≤ (m : Int) := by omega
      obtain ⟨x, rfl⟩ : ∃ x : UInt8, m = x.toNat := ⟨UInt8.ofNat m, by rw [toNat_ofNat8]; omega⟩
      have HV : Hid (vbF f x.toNat = [x]) := by rw [vbF_small f x.toNat (by omega)]; simp [Hid]
      have hx0 : 0 ≤ (x.toNat : Int) := by omega
      have hx1 : (x.toNat : Int) ≤ 127 := by omega
      go_wp2_with (at_builtin; refine st_append T.bytes (hf.keep (Ext.alloc wr _)) (FB.lit1 wr (Nat.le_refl _) x).view ?_ (by simp; omega) (by simp; omega); intro v2 w2 hf2 hg2 hw2)
      go_ret
      have := HP.out
      rw [HV.out] at this
      rw [← this]
      exact ⟨_, rfl, hf2, (hx.trans (Ext.alloc _ _)).thenBelow (below_grown (hf.keep (Ext.alloc wr _)) hg2 (Nat.le_refl _) (by simp; omega))⟩

set_option maxHeartbeats 400000 in
theorem rput_any (n : Int) (h1 : -9223372036854775808 ≤ n) (h2 : n ≤ 9223372036854775807) (w : World) :
    Calls Try.prog 50 #[.int .i64 n] w fun e w' => ∃ v, e = .returned v ∧ FB w' w.heap.size v (putV n) ∧ Ext w w' := by
  have HZ := Lib.hid (zig_lt n h1 h2)
  have H1 := Lib.hid h1
  have H2 := Lib.hid h2
  clear h1 h2
  go_enter Try.func50, Try.ntmps50
  go_wp2_with (first
    | (go_at_call 68; refine (rzigzag_any n H1.out H2.out _).mono ?_; rintro e w' ⟨rfl, rfl⟩)
    | (go_at_call 67; refine (rbytes_any (zig n) HZ.out _).mono ?_; rintro e w' ⟨v1, rfl, hf1, hx1⟩))
  go_ret
  exact ⟨_, rfl, hf1, hx1⟩
set_option maxHeartbeats 400000 in
theorem rtextp_any (l : List UInt8) (hl : l.length ≤ 100000000) (w : World) :
    Calls Try.prog 51 #[.string ⟨l.toArray⟩] w fun e w' => ∃ v, e = .returned v ∧ FB w' w.heap.size v (textV l) ∧ Ext w w' := by
  have hs : (ByteArray.mk l.toArray).size = l.length := by show l.toArray.size = _; simp
  have HP := Lib.hid (vb_length (zig (l.length : Int)))
  go_enter Try.func51, Try.ntmps51
  go_wp2_with (first
    | (go_at_call 50; refine (rput_any (l.length : Int) (by omega) (by omega) _).mono ?_; rintro e w' ⟨v1, rfl, hf1, hx1⟩)
    | (at_builtin; refine st_append_str T.bytes T.str hf1 (m := l) ?_ (by have := HP.out; unfold putV; omega) hx1.size; intro v2 w2 hf2 hg2))
  go_ret
  exact ⟨_, rfl, hf2, hx1.append hf1 hg2⟩
end Go.Proofs.Ytpejdompanhieaa
