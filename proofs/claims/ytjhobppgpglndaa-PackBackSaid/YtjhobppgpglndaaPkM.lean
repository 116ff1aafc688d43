/- What the program's and the document's functions of layer 32 compute: the longest match. -/
import Derived.Test.YtjhobppgpglndaaPkW
namespace Go.Proofs.Ytjhobppgpglndaa
open Go.RowKit

theorem bestM_step (l : List UInt8) (c d : Nat) : bestM l c (d + 1) = if 4 ≤ sameB l (c - (d + 1)) c ∧ (bestM l c d).1 < sameB l (c - (d + 1)) c then (sameB l (c - (d + 1)) c, d + 1) else bestM l c d := rfl

set_option maxHeartbeats 1000000 in
theorem match_any (v : Value) (l : List UInt8) (c : Nat) (w : World) (h : BV w v l) (hc : c < l.length) :
    Calls Try.prog 8 #[v, .int .i64 c] w fun e w' => e = .returned (.tuple #[.int .i64 (matchB l c).1, .int .i64 (matchB l c).2]) ∧ Ext w w' := by
  obtain ⟨p, cp, rfl, hn, hcp, _⟩ := id h
  have hcp : cp ≤ 9223372036854775807 := by simpa [maxLen] using hcp
  obtain ⟨D, hD, hDc, HD, hmin⟩ : ∃ D : Nat, D ≤ 1024 ∧ D ≤ c ∧ Hid (D = min c 1024) ∧ min (c : Int) 1024 = (D : Int) := ⟨min c 1024, by omega, by omega, rfl, by omega⟩
  have HM : Hid (matchB l c = bestM l c D) := by
    have : matchB l c = bestM l c D := by unfold matchB; rw [if_pos hc, HD.out]
    exact this
  have hc0 : ¬ ((c : Int) < 0) := by omega
  go_enter Try.func8, Try.ntmps8
  go_wp2_with ((with_reducible show wpList _ _ _ (Oper.mk _ (Op.call { callee := Callee.builtin Builtin.min, args := _, argTypes := _ }) _ _ _ _ :: _) _ _); refine wpList_run rfl (run_min rfl rfl rfl _) ?_; rw [hmin])
  go_loopg [6, 7, 20] D (fun k s6 s7 s20 wr => ∃ d q : Nat, s20 = .int .i64 d ∧ s6 = .int .i64 q ∧ s7 = .int .i64 (bestM l c d).2 ∧ q = max 3 (bestM l c d).1 ∧ d ≤ D ∧ k = D - d ∧ Ext w wr)
  case atStart => exact ⟨0, 3, rfl, rfl, rfl, rfl, by omega, rfl, Ext.refl _⟩
  case round =>
    obtain ⟨d, q, rfl, rfl, rfl, hq, hdD, hk, hx⟩ := hrel
    have hbf := bestM_far l c d
    by_cases hlt : d < D
    case pos =>
      obtain ⟨a, ha, ea⟩ : ∃ a : Nat, a = c - (d + 1) ∧ (c : Int) - (d : Int) - 1 = (a : Int) := ⟨c - (d + 1), rfl, by omega⟩
      have ew1 : IntKind.i64.wrap ((c : Int) - (d : Int)) = (c : Int) - (d : Int) := by rw [IntKind.wrap_i64]; omega
      have ew2 : IntKind.i64.wrap (a : Int) = (a : Int) := by rw [IntKind.wrap_i64]; omega
      have hs := bestM_step l c d
      rw [← ha] at hs
      have S1 := fun w h => same_any (.slice p l.length cp) l a c w h (by omega) (by omega)
      have h131 := (sameB_le l a c).1
      generalize sameB l a c = n at *
      by_cases hnq : 4 ≤ n ∧ (bestM l c d).1 < n
      · rw [if_pos hnq] at hs
        have HS := Lib.hid hs; clear hs
        generalize bestM l c d = bp at *
        obtain ⟨b1, b2⟩ := bp
        have hgt : q < n := by dsimp only at hq hnq; omega
        have hq3 : 3 ≤ q := by omega
        clear hq hbf hnq ha
        go_wp2_with (go_at_call 18; refine (S1 _ (h.ext hx)).mono ?_; rintro e w1 ⟨rfl, hx1⟩)
        go_roundg (D - (d + 1))
        case measure => omega
        case rel => exact ⟨d + 1, n, by go_num, rfl, by rw [HS.out]; go_num, by rw [HS.out]; show n = max 3 n; omega, hlt, rfl, hx.trans hx1⟩
      · rw [if_neg hnq] at hs
        have HS := Lib.hid hs; clear hs
        have HQ := Lib.hid hq
        have hgt : ¬ q < n := by intro h; apply hnq; omega
        generalize hb : bestM l c d = bp at *
        obtain ⟨b1, b2⟩ := bp
        clear hq hbf hnq ha hb
        go_wp2_with (go_at_call 18; refine (S1 _ (h.ext hx)).mono ?_; rintro e w1 ⟨rfl, hx1⟩)
        go_roundg (D - (d + 1))
        case measure => omega
        case rel => exact ⟨d + 1, q, by go_num, rfl, by rw [HS.out], by rw [HS.out]; exact HQ.out, hlt, rfl, hx.trans hx1⟩
    case neg =>
      obtain rfl : d = D := by omega
      have HQ := Lib.hid hq
      generalize hb : bestM l c d = bp at *
      obtain ⟨b1, b2⟩ := bp
      dsimp only at hbf
      clear hq hb
      by_cases h0 : b2 = 0
      · have hz : ((b2 : Int) == 0) = true := by simp [h0]
        have hb1 : b1 = 0 := hbf.1.1 h0
        clear hbf
        go_wp2_with fail
        go_ret2
        rw [HM.out, hb1, h0]
        exact ⟨rfl, hx⟩
      · have hz : ((b2 : Int) == 0) = false := by rw [beq_eq_false_iff_ne]; omega
        have hqb : q = b1 := by have := HQ.out; dsimp only at this; omega
        clear hbf
        go_wp2_with fail
        go_ret2
        rw [HM.out]
        exact ⟨rfl, hx⟩

set_option maxHeartbeats 1000000 in
theorem rmatch_any (v : Value) (l : List UInt8) (c : Nat) (w : World) (h : BV w v l) (hc : c < l.length) :
    Calls Try.prog 9 #[v, .int .i64 c] w fun e w' => e = .returned (.tuple #[.int .i64 (matchB l c).1, .int .i64 (matchB l c).2]) ∧ Ext w w' := by
  obtain ⟨p, cp, rfl, hn, hcp, _⟩ := id h
  have hcp : cp ≤ 9223372036854775807 := by simpa [maxLen] using hcp
  obtain ⟨D, hD, hDc, HD⟩ : ∃ D : Nat, D ≤ 1024 ∧ D ≤ c ∧ Hid (D = min c 1024) := ⟨min c 1024, by omega, by omega, rfl⟩
  have HM : Hid (matchB l c = bestM l c D) := by
    have : matchB l c = bestM l c D := by unfold matchB; rw [if_pos hc, HD.out]
    exact this
  have hc0 : ¬ ((c : Int) < 0) := by omega
  go_enter Try.func9, Try.ntmps9
  go_wp2_with fail
  go_loopg [6, 7, 8] D (fun k s6 s7 s8 wr => ∃ d d1 : Nat, s8 = .int .i64 d1 ∧ d1 = d + 1 ∧ s6 = .int .i64 (bestM l c d).1 ∧ s7 = .int .i64 (bestM l c d).2 ∧ d ≤ D ∧ k = D - d ∧ Ext w wr)
  case atStart => exact ⟨0, 1, rfl, rfl, rfl, rfl, by omega, rfl, Ext.refl _⟩
  case round =>
    obtain ⟨d, d1, rfl, hd1, rfl, rfl, hdD, hk, hx⟩ := hrel
    have hbf := (bestM_far l c d).2.2.1
    by_cases hlt : d < D
    case pos =>
      have ha : ∃ a : Nat, a = c - (d + 1) ∧ (c : Int) - (d1 : Int) = (a : Int) := ⟨c - (d + 1), rfl, by omega⟩
      obtain ⟨a, ha, ea⟩ := ha
      have ew2 : IntKind.i64.wrap (a : Int) = (a : Int) := by rw [IntKind.wrap_i64]; omega
      have hs := bestM_step l c d
      rw [← ha] at hs
      have S1 := fun w h => rsame_any (.slice p l.length cp) l a c w h (by omega) (by omega)
      have h131 := (sameB_le l a c).1
      generalize sameB l a c = n at *
      have ht1 : d1 ≤ 1024 := by omega
      have ht2 : d1 ≤ c := by omega
      generalize hb : bestM l c d = bp at *
      obtain ⟨b1, b2⟩ := bp
      dsimp only at hbf
      by_cases hnq : 4 ≤ n ∧ b1 < n
      · rw [if_pos hnq] at hs
        have HS := Lib.hid hs; clear hs
        obtain ⟨hn4, hbn⟩ := hnq
        have Hd := Lib.hid hd1
        clear ha hb hd1
        go_wp2_with (go_at_call 19; refine (S1 _ (h.ext hx)).mono ?_; rintro e w1 ⟨rfl, hx1⟩)
        go_roundg (D - (d + 1))
        case measure => omega
        case rel => exact ⟨d + 1, d1 + 1, by go_num, by rw [Hd.out], by rw [HS.out], by rw [HS.out, Hd.out], hlt, rfl, hx.trans hx1⟩
      · rw [if_neg hnq] at hs
        have HS := Lib.hid hs; clear hs
        have Hd := Lib.hid hd1
        clear ha hb hd1
        by_cases hn4 : 4 ≤ n
        · have hbn : ¬ b1 < n := fun e => hnq ⟨hn4, e⟩
          clear hnq
          go_wp2_with (go_at_call 19; refine (S1 _ (h.ext hx)).mono ?_; rintro e w1 ⟨rfl, hx1⟩)
          go_roundg (D - (d + 1))
          case measure => omega
          case rel => exact ⟨d + 1, d1 + 1, by go_num, by rw [Hd.out], by rw [HS.out], by rw [HS.out], hlt, rfl, hx.trans hx1⟩
        · clear hnq
          go_wp2_with (go_at_call 19; refine (S1 _ (h.ext hx)).mono ?_; rintro e w1 ⟨rfl, hx1⟩)
          go_roundg (D - (d + 1))
          case measure => omega
          case rel => exact ⟨d + 1, d1 + 1, by go_num, by rw [Hd.out], by rw [HS.out], by rw [HS.out], hlt, rfl, hx.trans hx1⟩
    case neg =>
      obtain rfl : d = D := by omega
      have hstop : ¬ d1 ≤ 1024 ∨ d1 ≤ 1024 ∧ ¬ d1 ≤ c := by have := HD.out; omega
      generalize bestM l c d = bp at *
      obtain ⟨b1, b2⟩ := bp
      clear hd1
      rcases hstop with hst | ⟨hst, hst2⟩
      all_goals
        go_wp2_with fail
        go_ret2
        rw [HM.out]
        exact ⟨rfl, hx⟩

def matchI (b : List UInt8) (i : Int) : Nat × Nat := if i < 0 then (0, 0) else matchB b i.toNat
set_option maxHeartbeats 1000000 in
theorem matchi_any (v : Value) (l : List UInt8) (i : Int) (w : World) (h : BV w v l) :
    Calls Try.prog 8 #[v, .int .i64 i] w fun e w' => e = .returned (.tuple #[.int .i64 (matchI l i).1, .int .i64 (matchI l i).2]) ∧ Ext w w' := by
  obtain ⟨p, cp, rfl, hn, hcp, _⟩ := id h
  by_cases h0 : i < 0
  · have e : matchI l i = (0, 0) := by unfold matchI; rw [if_pos h0]
    rw [e]
    go_enter Try.func8, Try.ntmps8
    go_wp2_with fail
    go_ret2
    exact ⟨rfl, Ext.refl _⟩
  · obtain ⟨c, rfl⟩ : ∃ c : Nat, i = c := ⟨i.toNat, by omega⟩
    by_cases hc : c < l.length
    · have := match_any _ l c w h hc
      have e : matchI l c = matchB l c := by unfold matchI; rw [if_neg h0]; rfl
      rwa [e]
    · have e : matchI l c = (0, 0) := by unfold matchI matchB; rw [if_neg h0, if_neg (by simpa using hc)]
      rw [e]
      go_enter Try.func8, Try.ntmps8
      go_wp2_with fail
      go_ret2
      exact ⟨rfl, Ext.refl _⟩
set_option maxHeartbeats 1000000 in
theorem rmatchi_any (v : Value) (l : List UInt8) (i : Int) (w : World) (h : BV w v l) :
    Calls Try.prog 9 #[v, .int .i64 i] w fun e w' => e = .returned (.tuple #[.int .i64 (matchI l i).1, .int .i64 (matchI l i).2]) ∧ Ext w w' := by
  obtain ⟨p, cp, rfl, hn, hcp, _⟩ := id h
  by_cases h0 : i < 0
  · have e : matchI l i = (0, 0) := by unfold matchI; rw [if_pos h0]
    rw [e]
    go_enter Try.func9, Try.ntmps9
    go_wp2_with fail
    go_ret2
    exact ⟨rfl, Ext.refl _⟩
  · obtain ⟨c, rfl⟩ : ∃ c : Nat, i = c := ⟨i.toNat, by omega⟩
    by_cases hc : c < l.length
    · have := rmatch_any _ l c w h hc
      have e : matchI l c = matchB l c := by unfold matchI; rw [if_neg h0]; rfl
      rwa [e]
    · have e : matchI l c = (0, 0) := by unfold matchI matchB; rw [if_neg h0, if_neg (by simpa using hc)]
      rw [e]
      go_enter Try.func9, Try.ntmps9
      go_wp2_with fail
      go_ret2
      exact ⟨rfl, Ext.refl _⟩
end Go.Proofs.Ytjhobppgpglndaa
