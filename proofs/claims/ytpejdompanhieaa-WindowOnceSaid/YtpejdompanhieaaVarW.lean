/- What the program's functions of layer 1 compute: numbers and texts laid. -/
import Derived.Test.YtpejdompanhieaaClone
import Derived.Test.YtpejdompanhieaaBase
import Derived.Test.YtpejdompanhieaaVarN
import Derived.Lib.AppendStr
import Derived.Deep.LoopGhost
namespace Go.Proofs.Ytpejdompanhieaa
open Go.RowKit

set_option maxHeartbeats 400000 in
theorem zigzag_any (n : Int) (h1 : -9223372036854775808 ≤ n) (h2 : n ≤ 9223372036854775807) (w : World) :
    Calls Try.prog 66 #[.int .i64 n] w fun e w' => e = .returned (.int .u64 (zig n : Nat)) ∧ w = w' := by
  have HZ := Lib.hid (zig_bits n h1 h2)
  go_enter Try.func66, Try.ntmps66
  go_wp2
  go_ret
  exact ⟨by rw [← HZ.out]; rfl, rfl⟩
set_option maxHeartbeats 400000 in
theorem zagzig_any (u : Nat) (h : u < 18446744073709551616) (w : World) :
    Calls Try.prog 78 #[.int .u64 (u : Int)] w fun e w' => e = .returned (.int .i64 (zag u)) ∧ w = w' := by
  have HZ := Lib.hid (zag_bits u h)
  go_enter Try.func78, Try.ntmps78
  go_wp2
  go_ret
  exact ⟨by rw [← HZ.out]; rfl, rfl⟩
set_option maxHeartbeats 400000 in
theorem lay_any (u : Nat) (h : u < 18446744073709551616) (w : World) :
    Calls Try.prog 65 #[.int .u64 (u : Int)] w fun e w' => ∃ v, e = .returned v ∧ FB w' w.heap.size v (vb u) ∧ Ext w w' := by
  have hu : u < 128 ^ (9 + 1) := by omega
  have HU := Lib.hid hu
  clear hu h
  go_enter Try.func65, Try.ntmps65
  go_wp2_with fail
  go_loopg [0, 3] (u) (fun k s0 s3 wr => ∃ (f m : Nat) (pre : List UInt8), s0 = .int .u64 (m : Int) ∧ m ≤ k ∧ Hid (m < 128 ^ (f + 1)) ∧ pre.length + f ≤ 9 ∧ Hid (pre ++ vbF f m = vb u) ∧ FB wr w.heap.size s3 pre ∧ Ext w wr)
  case atStart => exact ⟨9, u, [], rfl, Nat.le_refl _, HU, by simp, rfl, FB.nil _ _, Ext.refl _⟩
  case round =>
    obtain ⟨f, m, pre, rfl, hmk, HM, hp, HP, hf, hx⟩ := hrel
    have hsz := hx.size
    by_cases hlt : 127 < m
    case pos =>
      have hlt2 : (127 : Int) < (m : Int) := by omega
      obtain ⟨f', rfl⟩ : ∃ f', f = f' + 1 := by
        cases f with
        | zero => have := HM.out; simp at this; omega
        | succ f => exact ⟨f, rfl⟩
      obtain ⟨x, hb, HX⟩ : ∃ x : UInt8, bits .or .u8 ((m : Int) % 256) 128 = (x.toNat : Int) ∧ Hid (x = UInt8.ofNat (m % 128 + 128)) := ⟨_, by rw [← IntKind.wrap_u8]; exact lay_byte m, rfl⟩
      have hm2 : m / 128 < 128 ^ (f' + 1) := Nat.div_lt_of_lt_mul (by have := HM.out; rw [Nat.pow_succ, Nat.mul_comm] at this; exact this)
      have HM2 := Lib.hid hm2
      have HV : Hid (vbF (f' + 1) m = x :: vbF f' (m / 128)) := by rw [HX.out]; exact vbF_go f' m (by omega)
      have hk : m / 128 < m := by omega
      have hd : (m : Int) / 128 = ((m / 128 : Nat) : Int) := by omega
      have hp2 : pre.length + 1 ≤ 10 := by omega
      generalize m / 128 = m' at *
      have HD := Lib.hid hd
      clear hd hm2 HX
      go_wp2_with (at_builtin; refine st_append T.bytes (hf.keep (Ext.alloc wr _)) (FB.lit1 wr (Nat.le_refl _) x).view ?_ (by simp; omega) (by simp; omega); intro v2 w2 hf2 hg2 hw2)
      go_roundg (m')
      case measure => omega
      case rel =>
        refine ⟨f', m', pre ++ [x], by rw [HD.out], Nat.le_refl _, HM2, by simp; omega, ?_, hf2, (hx.trans (Ext.alloc _ _)).thenBelow (below_grown (hf.keep (Ext.alloc wr _)) hg2 (Nat.le_refl _) (by simp; omega))⟩
        have := HP.out
        rw [HV.out] at this
        rw [List.append_assoc]
        exact this
    case neg =>
      have hlt2 : ¬ (127 : Int) < (m : Int) := by omega
      obtain ⟨x, rfl⟩ : ∃ x : UInt8, m = x.toNat := ⟨UInt8.ofNat m, by rw [toNat_ofNat8]; omega⟩
      have HV : Hid (vbF f x.toNat = [x]) := by rw [vbF_small f x.toNat (by omega)]; simp [Hid]
      have hx0 : 0 ≤ (x.toNat : Int) := by omega
      have hx1 : (x.toNat : Int) ≤ 127 := by omega
      go_wp2_with (at_builtin; refine st_append T.bytes (hf.keep (Ext.alloc wr _)) (FB.lit1 wr (Nat.le_refl _) x).view ?_ (by simp; omega) (by simp; omega); intro v2 w2 hf2 hg2 hw2)
      go_ret
      have := HP.out
      rw [HV.out] at this
      rw [← this]
      exact ⟨_, rfl, hf2, (hx.trans (Ext.alloc _ _)).thenBelow (below_grown (hf.keep (Ext.alloc wr _)) hg2 (Nat.le_refl _) (by simp; omega))⟩

theorem vb_small (u : Nat) : (vb u).length ≤ 140737488355328 := Nat.le_trans (vb_length u).2 (by decide)
set_option maxHeartbeats 400000 in
theorem put_any (n : Int) (h1 : -9223372036854775808 ≤ n) (h2 : n ≤ 9223372036854775807) (w : World) :
    Calls Try.prog 48 #[.int .i64 n] w fun e w' => ∃ v, e = .returned v ∧ FB w' w.heap.size v (putV n) ∧ Ext w w' := by
  have HZ := Lib.hid (zig_lt n h1 h2)
  have H1 := Lib.hid h1
  have H2 := Lib.hid h2
  clear h1 h2
  go_enter Try.func48, Try.ntmps48
  go_wp2_with (first
    | (go_at_call 66; refine (zigzag_any n H1.out H2.out _).mono ?_; rintro e w' ⟨rfl, rfl⟩)
    | (go_at_call 65; refine (lay_any (zig n) HZ.out _).mono ?_; rintro e w' ⟨v1, rfl, hf1, hx1⟩))
  go_ret
  exact ⟨_, rfl, hf1, hx1⟩

theorem st_append_str {P : Program} {t u : TypeId} (hT : RowT P t 5 (.int .u8 0) 1 1) (hu : P.underlying u = some .string) {ops : Array Oper} {Q : Exit → Act → World → Prop} {rest : List Oper} {a : Act} {w : World} {dst : Option Tmp} {ty : TypeId} {pos : String} {after : Array Edge}
    {x y : Operand} {vx : Value} {B : Nat} {l m : List UInt8} (hx : FB w B vx l)
    (h : ∀ v' w', FB w' B v' (l ++ m) → w.grownBy w' vx.ownBlock → wpList P ops Q rest (a.put dst v') w')
    (hlen : l.length + m.length ≤ 140737488355328) (hB : B ≤ w.heap.size)
    (ex : a.eval x = vx := by exact rfl) (ey : a.eval y = .string ⟨m.toArray⟩ := by exact rfl) :
    wpList P ops Q (⟨dst, .call { callee := .builtin .append, args := #[x, y], argTypes := #[t, u] }, ty, pos, after, none⟩ :: rest) a w := by
  obtain ⟨i, hi, hz, hs, hb⟩ := hT.info
  refine Lib.wpList_append_own_string (w := w) rfl x y t u rfl B 5 i hT.und hu hi hz hs hb vx l.length (bs l) ex hx ⟨m.toArray⟩ ey (by show l.length + m.toArray.size ≤ maxLen; simp only [maxLen, List.size_toArray]; omega) (by show l.length + m.toArray.size ≤ _; simp only [List.size_toArray]; exact hlen) hB fun v' w' h1 h2 _ => h v' w' ?_ h2
  unfold FB
  rw [List.length_append, bs_append]
  have e : Lib.strCells ⟨m.toArray⟩ = bs m := by simp [Lib.strCells, bs]
  rw [e] at h1
  have e2 : (ByteArray.mk m.toArray).size = m.length := by show m.toArray.size = _; simp
  rw [e2] at h1
  exact h1
set_option maxHeartbeats 400000 in
theorem text_any (l : List UInt8) (hl : l.length ≤ 100000000) (w : World) :
    Calls Try.prog 49 #[.string ⟨l.toArray⟩] w fun e w' => ∃ v, e = .returned v ∧ FB w' w.heap.size v (textV l) ∧ Ext w w' := by
  have hs : (ByteArray.mk l.toArray).size = l.length := by show l.toArray.size = _; simp
  have HP := Lib.hid (vb_length (zig (l.length : Int)))
  go_enter Try.func49, Try.ntmps49
  go_wp2_with (first
    | (go_at_call 48; refine (put_any (l.length : Int) (by omega) (by omega) _).mono ?_; rintro e w' ⟨v1, rfl, hf1, hx1⟩)
    | (at_builtin; refine st_append_str T.bytes T.str hf1 (m := l) ?_ (by have := HP.out; unfold putV; omega) hx1.size; intro v2 w2 hf2 hg2))
  go_ret
  exact ⟨_, rfl, hf2, hx1.append hf1 hg2⟩
end Go.Proofs.Ytpejdompanhieaa
