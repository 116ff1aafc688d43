/- What the functions of layer 2 compute that tell a sum: half, More, Of, and the document's Of. -/
import Derived.Test.YthlhhnkalknidaaBase
import Derived.Test.YthlhhnkalknidaaSum
namespace Go.Proofs.Ythlhhnkalknidaa
open Go.RowKit

set_option maxHeartbeats 400000 in
theorem half_any (c : BitVec 64) (w : World) :
    Calls Try.prog 58 #[uv c] w fun e w' => e = .returned (uv (crcN 4 c)) ∧ w = w' := by
  go_enter Try.func58, Try.ntmps58
  go_wp2
  go_loop [0, 3] (fun t i => ∃ k : Nat, k ≤ 4 ∧ i = .int .i64 k ∧ t = uv (crcN k c)) (fun _ i => 4 - (intOf i).toNat)
  case atStart => exact ⟨0, by omega, rfl, rfl⟩
  case round =>
    obtain ⟨k, hk, rfl, rfl⟩ := hrel
    by_cases hlt : k < 4
    · have HS := Lib.hid (half_step (crcN k c))
      go_wp2
      go_round
      case rel => exact ⟨k + 1, by omega, by go_num, by rw [HS.out]; rfl⟩
      case measure => simp [intOf]; omega
    · obtain rfl : k = 4 := by omega
      go_wp2
      go_ret
      exact ⟨rfl, rfl⟩

set_option maxHeartbeats 400000 in
theorem more_any (s : BitVec 64) (v : Value) (l : List UInt8) (w : World) (h : BV w v l) :
    Calls Try.prog 47 #[uv s, v] w fun e w' => e = .returned (uv (sumMore s l)) ∧ w = w' := by
  obtain ⟨p, c, rfl, hn, hc, hs⟩ := h
  unfold maxLen at hc
  go_enter Try.func47, Try.ntmps47
  have HN := Lib.hid (not_bv s)
  go_wp2_with fail
  rw [HN.out]
  go_loop [5, 12] (fun t i => ∃ k : Nat, k ≤ l.length ∧ i = .int .i64 k ∧ t = uv (crcAll (~~~ s) (l.take k))) (fun _ i => l.length - (intOf i).toNat)
  case atStart => exact ⟨0, by omega, rfl, rfl⟩
  case round =>
    obtain ⟨k, hk, rfl, rfl⟩ := hrel
    by_cases hlt : k < l.length
    · obtain ⟨b, o, rfl, hcell⟩ := hs.at (bs_get l hlt)
      have HX := xor_byte (crcAll (~~~ s) (l.take k)) l[k]
      have HS := Lib.hid (crcAll_snoc (~~~ s) l hlt)
      go_wp2_with (go_at_call 58; refine (half_any _ _).mono ?_; rintro e w' ⟨rfl, rfl⟩)
      go_round
      case rel => exact ⟨k + 1, by omega, by go_num, by rw [HS.out]⟩
      case measure => simp [intOf]; omega
    · obtain rfl : k = l.length := by omega
      have HM := Lib.hid (not_bv (crcAll (~~~ s) l))
      go_wp2
      go_ret
      exact ⟨by rw [HM.out]; rfl, rfl⟩

set_option maxHeartbeats 400000 in
theorem of_any (v : Value) (l : List UInt8) (w : World) (h : BV w v l) :
    Calls Try.prog 30 #[v] w fun e w' => e = .returned (uv (sumOf l)) ∧ w = w' := by
  go_enter Try.func30, Try.ntmps30
  go_wp2_with (go_at_call 47; refine (more_any 0 v l _ h).mono ?_; rintro e w' ⟨rfl, rfl⟩)
  go_ret
  exact ⟨rfl, rfl⟩

set_option maxHeartbeats 400000 in
theorem rof_any (v : Value) (l : List UInt8) (w : World) (h : BV w v l) :
    Calls Try.prog 31 #[v] w fun e w' => e = .returned (uv (sumOf l)) ∧ w = w' := by
  obtain ⟨p, c, rfl, hn, hc, hs⟩ := h
  unfold maxLen at hc
  go_enter Try.func31, Try.ntmps31
  go_wp2_with fail
  go_loop [3, 4] (fun t i => ∃ k : Nat, k ≤ l.length ∧ i = .int .i64 k ∧ t = uv (crcAll ones (l.take k))) (fun _ i => l.length - (intOf i).toNat)
  case atStart => exact ⟨0, by omega, rfl, rfl⟩
  case round =>
    obtain ⟨k, hk, rfl, rfl⟩ := hrel
    by_cases hlt : k < l.length
    · obtain ⟨b, o, rfl, hcell⟩ := hs.at (bs_get l hlt)
      have HX := xor_byte (crcAll ones (l.take k)) l[k]
      have HS := Lib.hid (crcAll_snoc8 ones l hlt)
      go_wp2
      go_loop [3, 5] (fun t j => ∃ m : Nat, m ≤ 8 ∧ j = .int .i64 m ∧ t = uv (crcN m (crcAll ones (l.take k) ^^^ ofByte l[k]))) (fun _ j => 8 - (intOf j).toNat)
      case atStart => exact ⟨0, by omega, rfl, rfl⟩
      case round =>
        obtain ⟨m, hm, rfl, rfl⟩ := hrel
        by_cases hm8 : m < 8
        · generalize hd : crcN m (crcAll ones (l.take k) ^^^ ofByte l[k]) = d
          have HD := Lib.hid hd; clear hd
          have HC := Lib.hid (shr_crc d)
          have h1 := quo2_bv d
          have h2 := poly_xor (d >>> 1)
          have h3 := un_nonneg d
          by_cases hb : un d % 2 = 1
          · have hb1 : (un d % 2 == 1) = true := by simp [hb]
            have HB := Lib.hid hb; clear hb
            go_wp2
            go_round
            case rel => exact ⟨m + 1, by omega, by go_num, by simp only [crcN]; rw [HD.out, HC.out, if_pos HB.out]⟩
            case measure => simp [intOf]; omega
          · have hb1 : (un d % 2 == 1) = false := by simp [hb]
            have HB := Lib.hid hb; clear hb
            go_wp2
            go_round
            case rel => exact ⟨m + 1, by omega, by go_num, by simp only [crcN]; rw [HD.out, HC.out, if_neg HB.out]⟩
            case measure => simp [intOf]; omega
        · obtain rfl : m = 8 := by omega
          go_wp2
          go_round
          case rel => exact ⟨k + 1, by omega, by go_num, by rw [HS.out]⟩
          case measure => simp [intOf]; omega
    · obtain rfl : k = l.length := by omega
      have HM := Lib.hid (ones_xor (crcAll ones l))
      go_wp2
      go_ret
      exact ⟨by show Ending.returned (Value.int .u64 (bits .xor .u64 (un (crcAll ones l)) 18446744073709551615)) = _; rw [HM.out]; rfl, rfl⟩
end Go.Proofs.Ythlhhnkalknidaa
