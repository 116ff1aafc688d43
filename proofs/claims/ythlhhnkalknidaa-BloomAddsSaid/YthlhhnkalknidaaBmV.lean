/- What the document's functions of layer 33 compute: Places, Has. -/
import Derived.Test.YthlhhnkalknidaaBmU
import Derived.Test.YthlhhnkalknidaaBmP
namespace Go.Proofs.Ythlhhnkalknidaa
open Go.RowKit

set_option maxRecDepth 20000 in
set_option maxHeartbeats 2000000 in
theorem rplaces_any (v : Value) (l : List UInt8) (each n : Int) (key : List UInt8) (w : World) (h : BV w v l) (hk : key.length ≤ maxLen) :
    Calls Try.prog 11 #[stv v each n, .string ⟨key.toArray⟩] w fun e w' => ∃ v', e = .returned v' ∧ IO w' w.heap.size v' (ni (placesB ⟨l, each, n⟩ key)) ∧ Ext w w' := by
  obtain ⟨p, c, rfl, hn, hc, hs⟩ := id h
  have hx0 := Ext.alloc w (.cells #[Value.slice p l.length c, .int .i64 each, .int .i64 n] 24)
  have ho0 : ObjAt (w.alloc (.cells #[Value.slice p l.length c, .int .i64 each, .int .i64 n] 24)) w.heap.size 24 [.slice p l.length c, .int .i64 each, .int .i64 n] := heap_alloc_new w _
  have C1 := rcheck_any _ l each n _ (h.ext hx0)
  by_cases hg : goodB ⟨l, each, n⟩
  case neg =>
    rw [checkB_bad hg] at C1
    have e1 : placesB ⟨l, each, n⟩ key = [] := by unfold placesB; rw [if_neg hg]
    rw [e1]
    clear hg e1
    go_enter Try.func11, Try.ntmps11
    go_wp2_with (go_at_call 18; refine C1.mono ?_; rintro e w' ⟨rfl, hx1⟩)
    go_ret
    exact ⟨_, rfl, ORow.nil _ _ _, hx0.trans hx1⟩
  rw [checkB_ok hg] at C1
  obtain ⟨H, hH, HH⟩ : ∃ H : Nat, un (sumOf key) = (H : Int) ∧ Hid ((sumOf key).toNat = H ∧ H < 18446744073709551616) := ⟨(sumOf key).toNat, rfl, rfl, (sumOf key).isLt⟩
  have e1 : placesB ⟨l, each, n⟩ key = placesN H l.length each.toNat := by unfold placesB placesL; rw [if_pos hg, HH.out.1]
  rw [e1]
  clear e1
  unfold goodB at hg
  simp only at hg
  obtain ⟨g1, g2, g3, g4, _⟩ := hg
  obtain ⟨E, rfl⟩ : ∃ E : Nat, each = (E : Int) := ⟨each.toNat, by omega⟩
  rw [Int.toNat_natCast]
  have O1 := fun v w h => rof_any v key w h
  rw [show uv (sumOf key) = .int .u64 (H : Int) from congrArg _ hH] at O1
  clear hH
  obtain ⟨A0, hA, hA2⟩ : ∃ A0 : Nat, H / 4294967296 = A0 ∧ A0 < 4294967296 := ⟨_, rfl, by have := HH.out.2; omega⟩
  obtain ⟨B0, hB, hB2⟩ : ∃ B0 : Nat, H % 4294967296 = B0 ∧ B0 < 4294967296 := ⟨_, rfl, Nat.mod_lt _ (by decide)⟩
  have hqa : (H : Int) / 4294967296 = (A0 : Int) := by omega
  have hqb : (H : Int) % 4294967296 = (B0 : Int) := by omega
  have hH0 : (H : Int) < 18446744073709551616 := by have := HH.out.2; omega
  have HA := Lib.hid hA
  obtain ⟨S, hS, hS2⟩ : ∃ S : Nat, stepOf H = S ∧ S ≤ 4294967296 := ⟨_, rfl, by unfold stepOf; split <;> omega⟩
  have HSS := Lib.hid hS
  have finish : ∀ (w2 : World), Ext w w2 → ObjAt w2 w.heap.size 24 [.slice p l.length c, .int .i64 (E : Int), .int .i64 n] → True := fun _ _ _ => trivial
  clear finish
  by_cases hev : B0 % 2 = 0
  case pos =>
    have ht : ((B0 : Int) % 2 == 0) = true := by rw [beq_iff_eq]; omega
    have hs1 : (B0 : Int) + 1 = (S : Int) := by rw [← hS]; unfold stepOf; rw [hB, if_pos hev]; rfl
    clear hev hS hA hB
    go_enter Try.func11, Try.ntmps11
    go_wp2_with (first
      | (go_at_call 18; refine C1.mono ?_; rintro e w1 ⟨rfl, hx1⟩)
      | (go_at_call 31; refine (O1 _ _ hb2).mono ?_; rintro e w' ⟨rfl, rfl⟩)
      | ((with_reducible show wpList _ _ _ (Oper.mk _ (Op.convert _ _ _) _ _ _ _ :: _) _ _); refine st_bytes T.bytes T.u8 T.str key hk ?_; intro v2 w2 hb2 hx2))
    have hxa : Ext w w2 := (hx0.trans hx1).trans hx2
    have ho2 := (ho0.ext hx1).ext hx2
    clear C1 O1
    try rw [hqa]
    try rw [hqb]
    try rw [hs1]
    go_loopg [8, 9] (E) (fun k s8 s9 wr => ∃ j : Nat, s9 = .int .i64 j ∧ j ≤ E ∧ k = E - j ∧ IO wr w2.heap.size s8 (ni (placesN H l.length j)) ∧ Ext w2 wr)
    case atStart => exact ⟨0, rfl, Nat.zero_le _, rfl, ORow.nil _ _ _, Ext.refl _⟩
    case round =>
      obtain ⟨j, rfl, hj, hk, hr, hx⟩ := hrel
      obtain ⟨m0, m1, m2⟩ := (ho2.ext hx).cells3
      by_cases hlt : j < E
      case pos =>
        have hlt2 : (j : Int) < (E : Int) := by omega
        have hP : (A0 + j * S) % 4294967296 % (8 * l.length) = placeN H l.length j := by unfold placeN; rw [HSS.out, HA.out]
        have hX : (j : Int) * (S : Int) = ((j * S : Nat) : Int) := by simp
        have hXb : j * S ≤ 16 * 4294967296 := Nat.mul_le_mul (by omega) hS2
        generalize j * S = X at *
        have hA : (A0 + X) % 4294967296 < 4294967296 := Nat.mod_lt _ (by decide)
        have hPm : ((A0 : Int) + (X : Int)) % 4294967296 = (((A0 + X) % 4294967296 : Nat) : Int) := by simp
        generalize (A0 + X) % 4294967296 = P at *
        have hpi : (P : Int) % (8 * (l.length : Int)) = ((placeN H l.length j : Nat) : Int) := by rw [← hP]; simp
        have hpl : placeN H l.length j < 8 * l.length := Nat.mod_lt _ (by omega)
        have HST := Lib.hid (places_step H l.length j)
        have hlen : (ni (placesN H l.length j)).length = j := by rw [ni_length, placesN_length]
        obtain ⟨po, co, e5, _, _⟩ := (IO.view hr).slice
        subst e5
        generalize placeN H l.length j = PL at *
        generalize hL1 : ni (placesN H l.length j) = L1 at *
        have HL1 := Lib.hid hL1
        have h63 : L1.length + [(PL : Int)].length ≤ maxLen := by rw [hlen]; simp [maxLen]; omega
        have hby : (L1.length + [(PL : Int)].length) * 8 ≤ 140737488355328 := by rw [hlen]; simp; omega
        have H63 := Lib.hid h63
        have HBY := Lib.hid hby
        clear hL1 h63 hby hlen hP
        go_wp2_with (at_builtin; refine st_items T.ints (hr.keep (Ext.alloc wr (.cells #[.int .i64 (PL : Int)] 3))) (int_lit1 _ wr (PL : Int)) ?_ H63.out HBY.out (by simp; have := hx.size; omega); intro v3 w3 hr3 hg3 hw3)
        have hx3 := (hr.keep (Ext.alloc wr (.cells #[.int .i64 (PL : Int)] 3))).grown (hx.trans (Ext.alloc _ _)) hg3
        go_roundg (E - (j + 1))
        case measure => omega
        case rel => exact ⟨j + 1, by go_num, hlt, rfl, by rw [HST.out, ni_snoc, HL1.out]; exact hr3, hx3⟩
      case neg =>
        obtain rfl : j = E := by omega
        go_wp2_with fail
        go_ret
        exact ⟨_, rfl, ORow.base hr hxa.size, hxa.trans hx⟩
  case neg =>
    have ht : ((B0 : Int) % 2 == 0) = false := by rw [beq_eq_false_iff_ne]; omega
    have hs1 : B0 = S := by rw [← hS]; unfold stepOf; rw [hB, if_neg hev]
    subst hs1
    clear hev hS hA hB
    go_enter Try.func11, Try.ntmps11
    go_wp2_with (first
      | (go_at_call 18; refine C1.mono ?_; rintro e w1 ⟨rfl, hx1⟩)
      | (go_at_call 31; refine (O1 _ _ hb2).mono ?_; rintro e w' ⟨rfl, rfl⟩)
      | ((with_reducible show wpList _ _ _ (Oper.mk _ (Op.convert _ _ _) _ _ _ _ :: _) _ _); refine st_bytes T.bytes T.u8 T.str key hk ?_; intro v2 w2 hb2 hx2))
    have hxa : Ext w w2 := (hx0.trans hx1).trans hx2
    have ho2 := (ho0.ext hx1).ext hx2
    clear C1 O1
    try rw [hqa]
    try rw [hqb]
    try rw [hs1]
    go_loopg [8, 9] (E) (fun k s8 s9 wr => ∃ j : Nat, s9 = .int .i64 j ∧ j ≤ E ∧ k = E - j ∧ IO wr w2.heap.size s8 (ni (placesN H l.length j)) ∧ Ext w2 wr)
    case atStart => exact ⟨0, rfl, Nat.zero_le _, rfl, ORow.nil _ _ _, Ext.refl _⟩
    case round =>
      obtain ⟨j, rfl, hj, hk, hr, hx⟩ := hrel
      obtain ⟨m0, m1, m2⟩ := (ho2.ext hx).cells3
      by_cases hlt : j < E
      case pos =>
        have hlt2 : (j : Int) < (E : Int) := by omega
        have hP : (A0 + j * B0) % 4294967296 % (8 * l.length) = placeN H l.length j := by unfold placeN; rw [HSS.out, HA.out]
        have hX : (j : Int) * (B0 : Int) = ((j * B0 : Nat) : Int) := by simp
        have hXb : j * B0 ≤ 16 * 4294967296 := Nat.mul_le_mul (by omega) hS2
        generalize j * B0 = X at *
        have hA : (A0 + X) % 4294967296 < 4294967296 := Nat.mod_lt _ (by decide)
        have hPm : ((A0 : Int) + (X : Int)) % 4294967296 = (((A0 + X) % 4294967296 : Nat) : Int) := by simp
        generalize (A0 + X) % 4294967296 = P at *
        have hpi : (P : Int) % (8 * (l.length : Int)) = ((placeN H l.length j : Nat) : Int) := by rw [← hP]; simp
        have hpl : placeN H l.length j < 8 * l.length := Nat.mod_lt _ (by omega)
        have HST := Lib.hid (places_step H l.length j)
        have hlen : (ni (placesN H l.length j)).length = j := by rw [ni_length, placesN_length]
        obtain ⟨po, co, e5, _, _⟩ := (IO.view hr).slice
        subst e5
        generalize placeN H l.length j = PL at *
        generalize hL1 : ni (placesN H l.length j) = L1 at *
        have HL1 := Lib.hid hL1
        have h63 : L1.length + [(PL : Int)].length ≤ maxLen := by rw [hlen]; simp [maxLen]; omega
        have hby : (L1.length + [(PL : Int)].length) * 8 ≤ 140737488355328 := by rw [hlen]; simp; omega
        have H63 := Lib.hid h63
        have HBY := Lib.hid hby
        clear hL1 h63 hby hlen hP
        go_wp2_with (at_builtin; refine st_items T.ints (hr.keep (Ext.alloc wr (.cells #[.int .i64 (PL : Int)] 3))) (int_lit1 _ wr (PL : Int)) ?_ H63.out HBY.out (by simp; have := hx.size; omega); intro v3 w3 hr3 hg3 hw3)
        have hx3 := (hr.keep (Ext.alloc wr (.cells #[.int .i64 (PL : Int)] 3))).grown (hx.trans (Ext.alloc _ _)) hg3
        go_roundg (E - (j + 1))
        case measure => omega
        case rel => exact ⟨j + 1, by go_num, hlt, rfl, by rw [HST.out, ni_snoc, HL1.out]; exact hr3, hx3⟩
      case neg =>
        obtain rfl : j = E := by omega
        go_wp2_with fail
        go_ret
        exact ⟨_, rfl, ORow.base hr hxa.size, hxa.trans hx⟩
end Go.Proofs.Ythlhhnkalknidaa
