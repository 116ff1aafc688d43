/- What the program's functions of layer 33 compute: Places. -/
import Derived.Test.YthlhhnkalknidaaBmO
import Derived.Test.YthlhhnkalknidaaInts
namespace Go.Proofs.Ythlhhnkalknidaa
open Go.RowKit

theorem st_bytes {P : Program} {t e : TypeId} {z : Value} {sz bytes : Nat} (hT : RowT P t e z sz bytes) (he : P.underlying e = some (.int .u8)) {src : TypeId} (hd : P.underlying src = some .string) {ops : Array Oper} {Q : Exit → Act → World → Prop} {rest : List Oper} {a : Act} {w : World} {dst : Option Tmp} {ty : TypeId} {pos : String} {after : Array Edge} {guard : Option (Nat × Bool)}
    {x : Operand} (l : List UInt8) (hl : l.length ≤ maxLen) (h : ∀ v w', BV w' v l → Ext w w' → wpList P ops Q rest (a.put dst v) w')
    (hg : Region.wanted ⟨dst, .convert src t x, ty, pos, after, guard⟩ (yielded ops a.tmps) = true := by exact rfl) (ex : a.eval x = .string ⟨l.toArray⟩ := by exact rfl) :
    wpList P ops Q (⟨dst, .convert src t x, ty, pos, after, guard⟩ :: rest) a w := by
  obtain ⟨v, w', hr, hb, hx⟩ := run_string_bytes hT he hd ⟨l.toArray⟩ (by show l.toArray.size ≤ maxLen; rw [List.size_toArray]; exact hl) w
  refine wpList_run (v := v) (w' := w') hg ?_ (h v w' (by simpa using hb) hx)
  simp [execOp, ex, hr, Result.andThen]
theorem or_one32 (H : Nat) : bits .or .u32 (IntKind.u32.wrap (H : Int)) 1 = ((stepOf H : Nat) : Int) := by
  have e1 : IntKind.u32.wrap (H : Int) = ((H % 4294967296 : Nat) : Int) := by rw [IntKind.wrap_u32]; omega
  rw [e1]
  show IntKind.u32.wrap (((BitVec.ofInt 32 ((H % 4294967296 : Nat) : Int) ||| BitVec.ofInt 32 1).toNat : Nat) : Int) = _
  have e2 : BitVec.ofInt 32 1 = 1#32 := by decide
  rw [e2, BitVec.ofInt_natCast, BitVec.toNat_or, BitVec.toNat_ofNat, IntKind.wrap_u32]
  have e3 : (1#32).toNat = 1 := rfl
  rw [e3, Nat.mod_eq_of_lt (show H % 4294967296 < 2 ^ 32 by omega)]
  have e4 : ∀ x : Nat, x ||| 1 = if x % 2 = 0 then x + 1 else x := by
    intro x
    have h1 : x = 2 * (x / 2) + x % 2 := by omega
    by_cases h : x % 2 = 0
    · rw [if_pos h]
      have h2 : x = (x / 2) <<< 1 := by rw [Nat.shiftLeft_eq]; omega
      have h3 := Nat.shiftLeft_add_eq_or_of_lt (b := 1) (i := 1) (by omega) (x / 2)
      rw [← h2] at h3
      exact h3.symm
    · rw [if_neg h]
      have h2 : x = (x / 2) <<< 1 ||| 1 := by rw [← Nat.shiftLeft_add_eq_or_of_lt (by omega), Nat.shiftLeft_eq]; omega
      conv => lhs; rw [h2]
      rw [Nat.or_assoc, Nat.or_self]
      exact h2.symm
  rw [e4]
  unfold stepOf
  split <;> omega
theorem places_step (H m j : Nat) : placesN H m (j + 1) = placesN H m j ++ [placeN H m j] := by simp [placesN, List.range_succ]
set_option maxRecDepth 20000 in
set_option maxHeartbeats 2000000 in
theorem places_any (v : Value) (l : List UInt8) (each n : Int) (key : List UInt8) (w : World) (h : BV w v l) (hk : key.length ≤ maxLen) :
    Calls Try.prog 10 #[stv v each n, .string ⟨key.toArray⟩] w fun e w' => ∃ v', e = .returned v' ∧ IO w' w.heap.size v' (ni (placesB ⟨l, each, n⟩ key)) ∧ Ext w w' := by
  obtain ⟨p, c, rfl, hn, hc, hs⟩ := id h
  have hx0 := Ext.alloc w (.cells #[Value.slice p l.length c, .int .i64 each, .int .i64 n] 27)
  have ho0 : ObjAt (w.alloc (.cells #[Value.slice p l.length c, .int .i64 each, .int .i64 n] 27)) w.heap.size 27 [.slice p l.length c, .int .i64 each, .int .i64 n] := heap_alloc_new w _
  have C1 := check_any _ l each n _ (h.ext hx0)
  by_cases hg : goodB ⟨l, each, n⟩
  case neg =>
    rw [checkB_bad hg] at C1
    have e1 : placesB ⟨l, each, n⟩ key = [] := by unfold placesB; rw [if_neg hg]
    rw [e1]
    clear hg e1
    go_enter Try.func10, Try.ntmps10
    go_wp2_with (go_at_call 17; refine C1.mono ?_; rintro e w' ⟨rfl, hx1⟩)
    go_ret
    exact ⟨_, rfl, ORow.nil _ _ _, hx0.trans hx1⟩
  rw [checkB_ok hg] at C1
  obtain ⟨H, hH, HH⟩ : ∃ H : Nat, un (sumOf key) = (H : Int) ∧ Hid ((sumOf key).toNat = H ∧ H < 18446744073709551616) := ⟨(sumOf key).toNat, rfl, rfl, (sumOf key).isLt⟩
  have e1 : placesB ⟨l, each, n⟩ key = placesN H l.length each.toNat := by unfold placesB placesL; rw [if_pos hg, HH.out.1]
  rw [e1]
  have hO := or_one32 H
  clear e1
  unfold goodB at hg
  simp only at hg
  obtain ⟨g1, g2, g3, g4, _⟩ := hg
  obtain ⟨E, rfl⟩ : ∃ E : Nat, each = (E : Int) := ⟨each.toNat, by omega⟩
  rw [Int.toNat_natCast]
  have O1 := fun v w h => of_any v key w h
  rw [show uv (sumOf key) = .int .u64 (H : Int) from congrArg _ hH] at O1
  clear hH
  have hq : (H : Int) / 4294967296 = ((H / 4294967296 : Nat) : Int) := by omega
  have hq2 : H / 4294967296 < 4294967296 := by have := HH.out.2; omega
  have HQ := Lib.hid hq
  have HQ2 := Lib.hid hq2
  clear hq hq2
  go_enter Try.func10, Try.ntmps10
  go_wp2_with (first
    | (go_at_call 17; refine C1.mono ?_; rintro e w1 ⟨rfl, hx1⟩
       have hc1 := (ho0.ext hx1).cell (j := 1) (u := .int .i64 (E : Int)) rfl)
    | (go_at_call 30; refine (O1 _ _ hb2).mono ?_; rintro e w' ⟨rfl, rfl⟩
       have hc2 := hx2.cell hc1)
    | ((with_reducible show wpList _ _ _ (Oper.mk _ (Op.convert _ _ _) _ _ _ _ :: _) _ _); refine st_bytes T.bytes T.u8 T.str key hk ?_; intro v2 w2 hb2 hx2))
  have hS : bits BinOp.or IntKind.u32 ((H : Int) % 4294967296) 1 = ((stepOf H : Nat) : Int) := by rw [← IntKind.wrap_u32]; exact hO
  rw [hS]
  have hSlt : stepOf H < 4294967296 := by unfold stepOf; split <;> omega
  have HSL := Lib.hid hSlt
  generalize hSt : stepOf H = S at *
  have HSt := Lib.hid hSt
  have hxa : Ext w w2 := (hx0.trans hx1).trans hx2
  have ho2 := (ho0.ext hx1).ext hx2
  clear hO hS hSt hSlt hc1 hc2 C1 O1
  go_loopg [6, 8, 23] (E) (fun k s6 s8 s23 wr => ∃ j : Nat, s23 = .int .i64 j ∧ j ≤ E ∧ k = E - j ∧ s6 = .int .u32 (((H / 4294967296 + j * S) % 4294967296 : Nat) : Int) ∧ IO wr w2.heap.size s8 (ni (placesN H l.length j)) ∧ Ext w2 wr)
  case atStart => exact ⟨0, rfl, Nat.zero_le _, rfl, by simp, ORow.nil _ _ _, Ext.refl _⟩
  case round =>
    obtain ⟨j, rfl, hj, hk, rfl, hr, hx⟩ := hrel
    by_cases hlt : j < E
    case pos =>
      have hlt2 : (j : Int) < (E : Int) := by omega
      have hc0 := (ho2.ext hx).cell (j := 0) (u := .slice p l.length c) rfl
      have hP : ((H / 4294967296 + j * S) % 4294967296 : Nat) % (8 * l.length) = placeN H l.length j := by unfold placeN; rw [HSt.out]
      have HN : Hid ((H / 4294967296 + (j + 1) * S) % 4294967296 = ((H / 4294967296 + j * S) % 4294967296 + S) % 4294967296) := by
        show (H / 4294967296 + (j + 1) * S) % 4294967296 = ((H / 4294967296 + j * S) % 4294967296 + S) % 4294967296
        rw [Nat.add_mul, Nat.one_mul]
        generalize j * S = X
        omega
      have hA : (H / 4294967296 + j * S) % 4294967296 < 4294967296 := Nat.mod_lt _ (by decide)
      generalize (H / 4294967296 + j * S) % 4294967296 = A at *
      have hpi : (A : Int) % (8 * (l.length : Int)) = ((placeN H l.length j : Nat) : Int) := by rw [← hP]; simp
      have HP := Lib.hid hP
      clear hP
      have hpl : placeN H l.length j < 8 * l.length := Nat.mod_lt _ (by omega)
      have HST := Lib.hid (places_step H l.length j)
      have hlen : (ni (placesN H l.length j)).length = j := by rw [ni_length, placesN_length]
      obtain ⟨po, co, e5, _, _⟩ := (IO.view hr).slice
      subst e5
      generalize placeN H l.length j = PL at *
      generalize hL1 : ni (placesN H l.length j) = L1 at *
      have HL1 := Lib.hid hL1
      have h63 : L1.length + [(PL : Int)].length ≤ maxLen := by rw [hlen]; simp [maxLen]; omega
      have hby : (L1.length + [(PL : Int)].length) * 8 ≤ 140737488355328 := by rw [hlen]; simp; omega
      have H63 := Lib.hid h63
      have HBY := Lib.hid hby
      clear hL1 h63 hby hlen
      go_wp2_with (at_builtin; refine st_items T.ints (hr.keep (Ext.alloc wr (.cells #[.int .i64 (PL : Int)] 3))) (int_lit1 _ wr (PL : Int)) ?_ H63.out HBY.out (by simp; have := hx.size; omega); intro v3 w3 hr3 hg3 hw3)
      have hx3 := (hr.keep (Ext.alloc wr (.cells #[.int .i64 (PL : Int)] 3))).grown (hx.trans (Ext.alloc _ _)) hg3
      go_roundg (E - (j + 1))
      case measure => omega
      case rel => exact ⟨j + 1, by go_num, hlt, rfl, by rw [HN.out]; rfl, by rw [HST.out, ni_snoc, HL1.out]; exact hr3, hx3⟩
    case neg =>
      obtain rfl : j = E := by omega
      go_wp2_with fail
      go_ret
      exact ⟨_, rfl, ORow.base hr hxa.size, hxa.trans hx⟩
end Go.Proofs.Ythlhhnkalknidaa
