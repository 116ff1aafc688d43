/- Numbers of a set width: how the program's are read (for seats that lay none). Numbers of a set width: how the document's are read. One byte off a reader: the program's and the document's. -/
import Derived.Test.YtdklpenpmeplfaaClone
import Derived.Test.YtdklpenpmeplfaaBase
import Derived.Test.YtdklpenpmeplfaaSum
import Derived.Deep.LoopGhost
import Derived.Test.YtdklpenpmeplfaaVarS
import Derived.Test.YtdklpenpmeplfaaCm
namespace Go.Proofs.Ytdklpenpmeplfaa
open Go.RowKit

set_option maxHeartbeats 400000 in
theorem unfixed_any (v : Value) (l : List UInt8) (w : World) (h : BV w v l) :
    Calls Try.prog 64 #[v] w fun e w' => e = .returned (uv (unfixed l)) ∧ w = w' := by
  obtain ⟨p, c, rfl, hn, hc, hs⟩ := h
  unfold maxLen at hc
  go_enter Try.func64, Try.ntmps64
  go_wp2_with fail
  go_loop [3, 8] (fun t i => ∃ k : Nat, k ≤ l.length ∧ i = .int .i64 k ∧ t = uv (BitVec.ofNat 64 (valL (l.take k)))) (fun _ i => l.length - (intOf i).toNat)
  case atStart => exact ⟨0, by omega, rfl, rfl⟩
  case round =>
    obtain ⟨k, hk, rfl, rfl⟩ := hrel
    by_cases hlt : k < l.length
    · obtain ⟨b, o, rfl, hcell⟩ := hs.at (bs_get l hlt)
      have HW := wrap_mul256 (valL (l.take k))
      have HX := or_byte (valL (l.take k)) l[k]
      have HS := Lib.hid (valL_take l hlt)
      go_wp2
      go_round
      case rel => exact ⟨k + 1, by omega, by go_num, by rw [HS.out]⟩
      case measure => simp [intOf]; omega
    · obtain rfl : k = l.length := by omega
      go_wp2
      go_ret
      exact ⟨rfl, rfl⟩

theorem wide_any (k : Nat) (hk : k ≤ 8) (w : World) :
    Calls Try.prog 65 #[.int .i64 k] w fun e w' => e = .returned (.int .i64 k) ∧ w = w' := by
  have h1 : min (k : Int) 8 = k := by omega
  have h2 : max (0 : Int) k = k := by omega
  go_enter Try.func65, Try.ntmps65
  go_wp2
  all_goals (go_ret; refine ⟨?_, rfl⟩)
  · rfl
  · have : k = 0 := by omega
    subst this
    rfl

theorem mul256_left (n : Nat) : IntKind.u64.wrap (256 * un (BitVec.ofNat 64 n)) = un (BitVec.ofNat 64 (n * 256)) := by
  unfold un
  rw [IntKind.wrap_u64, BitVec.toNat_ofNat, BitVec.toNat_ofNat]
  omega
theorem add_byte (n : Nat) (x : UInt8) : IntKind.u64.wrap (un (BitVec.ofNat 64 (n * 256)) + (x.toNat : Int)) = un (BitVec.ofNat 64 (n * 256 + x.toNat)) := by
  unfold un
  rw [IntKind.wrap_u64, BitVec.toNat_ofNat, BitVec.toNat_ofNat]
  omega
set_option maxHeartbeats 1000000 in
theorem runfixed_any (v : Value) (l : List UInt8) (w : World) (h : BV w v l) (hl : l.length ≤ 8) :
    Calls Try.prog 67 #[v] w fun e w' => e = .returned (uv (unfixed l)) ∧ w = w' := by
  obtain ⟨p, c, rfl, hn, hc, hs⟩ := h
  have hmax : max (0 : Int) ((l.length : Int) - 8) = 0 := by omega
  have hw : IntKind.i64.wrap ((l.length : Int) - 8) = (l.length : Int) - 8 := by rw [IntKind.wrap_i64]; omega
  go_enter Try.func67, Try.ntmps67
  go_wp2_with ((with_reducible show wpList _ _ _ (Oper.mk _ (Op.call { callee := Callee.builtin Builtin.max, args := _, argTypes := _ }) _ _ _ _ :: _) _ _); refine wpList_run rfl (run_max rfl rfl rfl _) ?_; rw [hmax])
  go_loopg [3, 4] l.length (fun k s3 s4 wr => ∃ i : Nat, s4 = .int .i64 i ∧ i ≤ l.length ∧ k = l.length - i ∧ s3 = uv (BitVec.ofNat 64 (valL (l.take i))) ∧ wr = w)
  case atStart => exact ⟨0, rfl, by omega, rfl, rfl, rfl⟩
  case round =>
    obtain ⟨i, rfl, hi, hk, rfl, rfl⟩ := hrel
    by_cases hlt : i < l.length
    · obtain ⟨b, o, rfl, hcell⟩ := hs.at (bs_get l hlt)
      have HS := Lib.hid (valL_take l hlt)
      generalize l[i] = x at *
      obtain ⟨v1, hv1⟩ : ∃ v1, valL (l.take (i + 1)) = v1 := ⟨_, rfl⟩
      rw [hv1] at HS
      have HV := Lib.hid hv1; clear hv1
      have hx256 : x.toNat < 256 := x.toNat_lt
      have h1 := mul256_left (valL (l.take i))
      have h2 := add_byte (valL (l.take i)) x
      rw [← HS.out] at h2
      clear HS
      go_wp2_with fail
      go_roundg (l.length - (i + 1))
      case measure => omega
      case rel => exact ⟨i + 1, by go_num, hlt, rfl, by rw [HV.out], rfl⟩
    · obtain rfl : i = l.length := by omega
      go_wp2_with fail
      go_ret
      rw [List.take_of_length_le (Nat.le_refl _)]
      exact ⟨rfl, rfl⟩

theorem unfixed_none : un (unfixed []) = 0 := by decide
theorem unfixed_single (x : UInt8) : un (unfixed [x]) = (x.toNat : Int) := by
  have := unfixed_toNat [x] (by simp)
  unfold un
  rw [this]
  simp [valL]
theorem fix_take (r : RdV) (he : r.e = 0) : un (unfixed (takeL r 1)) = fixN r ∧ takeR r 1 = fixR r := by
  obtain ⟨b, e⟩ := r
  simp only at he
  subst he
  refine ⟨?_, by unfold fixR; rw [if_pos rfl]⟩
  unfold takeL fixN
  simp only [if_true]
  cases b with
  | nil => rw [if_pos (by simp)]; exact unfixed_none
  | cons x l => rw [if_neg (by simp)]; simpa using unfixed_single x
set_option maxHeartbeats 1000000 in
theorem fixed1_any (g : Nat) (r : RdV) (w : World) (h : RdAt w g r) :
    Calls Try.prog 36 #[.pointer (some ⟨g, 0, none⟩), .int .i64 1] w fun e w' => e = .returned (.int .u64 (fixN r)) ∧ RdAt w' g (fixR r) ∧ w.grownBy w' (some g) := by
  by_cases he : r.e = 0
  case neg =>
    have hz : (r.e != 0) = true := by rw [bne_iff_ne]; exact he
    have e1 : fixN r = 0 := by unfold fixN; rw [if_neg he]
    have e2 : fixR r = r := by unfold fixR; rw [if_neg he]
    rw [e1, e2]
    clear he e1 e2
    go_enter Try.func36, Try.ntmps36
    go_wp2_with (go_at_call 62; refine (err_any g r _ h).mono ?_; rintro e w' ⟨rfl, rfl⟩)
    go_ret
    exact ⟨rfl, h, World.grownBy.refl _ _⟩
  have hz : (r.e != 0) = false := by rw [he]; rfl
  obtain ⟨e1, e2⟩ := fix_take r he
  rw [← e1, ← e2]
  have HW := fun W => wide_any 1 (by decide) W
  clear he e1 e2
  go_enter Try.func36, Try.ntmps36
  go_wp2_with (first
    | (go_at_call 62; refine (err_any g r _ h).mono ?_; rintro e w' ⟨rfl, rfl⟩)
    | (go_at_call 65; refine (HW _).mono ?_; rintro e w' ⟨rfl, rfl⟩)
    | (go_at_call 63; refine (take_any g r 1 _ h).mono ?_; rintro e w2 ⟨v2, rfl, hb2, hr2, hg2⟩)
    | (go_at_call 64; refine (unfixed_any _ _ _ hb2).mono ?_; rintro e w' ⟨rfl, rfl⟩))
  go_ret
  exact ⟨rfl, hr2, hg2⟩
end Go.Proofs.Ytdklpenpmeplfaa
