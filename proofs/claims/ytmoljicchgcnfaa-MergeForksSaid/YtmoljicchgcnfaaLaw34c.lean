/- The statement MergeForks of layer 34: the walk of the law. -/
import Derived.Test.YtmoljicchgcnfaaMgF
import Derived.Test.YtmoljicchgcnfaaLaw34b
namespace Go.Proofs.Ytmoljicchgcnfaa
open Go.RowKit

theorem next_len (hs : List Src) : (nextH hs).length ≤ hs.length := by
  unfold nextH
  rw [downI_length]
  unfold dropH
  split
  · rw [List.length_take, List.length_set]; omega
  · rw [List.length_set]; exact Nat.le_refl _
theorem srcs_len (ls : List (List Bat)) : ∀ n, (srcs ls n).length ≤ n
  | 0 => by simp [srcs]
  | n + 1 => by
    have ih := srcs_len ls n
    rw [srcs_succ, List.length_append]
    have : (src1 ls n).length ≤ 1 := by unfold src1; split <;> simp
    omega
theorem new_len (ls : List (List Bat)) : (newH ls).length ≤ ls.length := by
  unfold newH
  rw [buildH_length]
  exact srcs_len ls _

set_option maxRecDepth 20000 in
set_option maxHeartbeats 8000000 in
theorem mergeForks_walk (v : Value) (ls : List (List Bat)) (n : Nat) (w : World) (h : BatsV w v ls) (hn : n < 256) :
    Calls Try.prog 5 #[v, .int .u8 (n : Int)] w fun e w' => e = .returned (.bool true) ∧ Ext w w' := by
  obtain ⟨p, c, rfl, hlc, hcm⟩ := h.slice
  have L1 := rlightL_any _ ls _ h
  cases hlt : lightL ls with
  | false =>
    rw [hlt] at L1
    clear hlt
    go_enter Try.func5, Try.ntmps5
    go_wp2_with (first
      | (go_at_call 6; refine L1.mono ?_; rintro e w2 ⟨rfl, hx2⟩)
      | (go_at_call 7; refine (awake_any _).mono ?_; rintro e w3 ⟨rfl, hx3⟩))
    go_ret
    exact ⟨rfl, hx2.trans hx3⟩
  | true =>
    rw [hlt] at L1
    obtain ⟨hl8, hfew⟩ := light_all hlt
    have hcnt := count_few hfew ls.length (Nat.le_refl _)
    have N1 := fun W hW => new_any (.slice p ls.length c) ls W hW (by omega) (fun i hi => by have := hfew i hi; omega)
    have hN1 := new_len ls
    have hN2 := new_left ls
    have hLF : leftH (newH ls) ≤ 2560 := by omega
    have hLN : (newH ls).length ≤ 8 := by omega
    generalize newH ls = h0 at *
    obtain ⟨q, hq⟩ : ∃ q, n % 40 = q := ⟨_, rfl⟩
    have htm : (n : Int).tmod 40 = (q : Int) := by rw [Int.tmod_eq_emod_of_nonneg (by omega)]; omega
    have hem : (n : Int) % 40 = (q : Int) := by omega
    have hq40 : q < 40 := by omega
    clear hlt hfew hcnt hN1 hN2 hq
    go_enter Try.func5, Try.ntmps5
    go_wp2_with (first
      | (go_at_call 6; refine L1.mono ?_; rintro e w1 ⟨rfl, hx1⟩)
      | (go_at_call 14; refine (N1 _ (h.ext hx1)).mono ?_; rintro e w2 ⟨m, hv, gs, rfl, hh2, hx2⟩
         have hlive : Live w1.heap.size (fun k => k < w2.heap.size) (fun k => w1.heap.size ≤ k ∧ k < w2.heap.size) w2 m h0 (-1) := ⟨hv, gs, hh2, hh2.tops, fun k hk => ⟨hh2.own_low k hk, hh2.own_lt k hk⟩⟩
         have HL2 := Lib.hid hlive
         clear hlive hh2))
    clear N1 L1
    go_loopg [6] (q) (fun k s6 wr => ∃ (j : Nat) (hs : List Src) (nw : Int), s6 = .int .i64 j ∧ j ≤ q ∧ k = q - j ∧ Hid (Live w1.heap.size (fun k => k < w2.heap.size) (fun k => w1.heap.size ≤ k ∧ k < w2.heap.size) wr m hs nw) ∧ leftH hs ≤ 2560 ∧ hs.length ≤ 8 ∧ Hid (w2.heap.size ≤ wr.heap.size) ∧ Ext w wr)
    case atStart => exact ⟨0, h0, -1, rfl, Nat.zero_le _, rfl, HL2, hLF, hLN, Lib.hid (Nat.le_refl _), hx1.trans hx2⟩
    case round =>
      obtain ⟨j, hs, nw, rfl, hj, hk, HL, hlf, hln, HSZ, hx⟩ := hrel
      by_cases hjq : j < q
      case pos =>
        have hji : (j : Int) < (q : Int) := by omega
        by_cases hemp : hs = []
        · subst hemp
          have X1 := live_none HL.out
          go_wp2_with (go_at_call 15; refine X1.mono ?_; rintro e w5 ⟨rfl, hx5⟩)
          go_roundg (q - (j + 1))
          case measure => omega
          case rel => exact ⟨j + 1, [], nw, by go_num, hjq, rfl, Lib.hid (HL.out.ext hx5), hlf, hln, Lib.hid (Nat.le_trans HSZ.out hx5.size), hx.trans hx5⟩
        · have X1 := live_next HL.out hemp (by omega) (fun k hk => Nat.lt_of_lt_of_le hk HSZ.out)
          have h1 := left_next hemp HL.out.full
          have h2 := next_len hs
          have HE := Lib.hid hemp
          clear hemp
          go_wp2_with (go_at_call 15; refine X1.mono ?_; rintro e w5 ⟨rfl, hl5, hc5⟩)
          go_roundg (q - (j + 1))
          case measure => omega
          case rel => exact ⟨j + 1, nextH hs, _, by go_num, hjq, rfl, Lib.hid hl5, by omega, by omega, Lib.hid (Nat.le_trans HSZ.out hc5.size), hc5.ext hx (fun k hk => Nat.le_trans hx1.size hk.1)⟩
      case neg =>
        have hje : j = q := by omega
        subst hje
        have hji : ¬ (j : Int) < (j : Int) := by omega
        have F1 := live_fork HL.out (by omega) (by omega)
        have heq1 : ((leftH hs : Int) == (leftH hs : Int)) = true := by simp
        have heq2 : (nw == nw) = true := by simp
        obtain ⟨LF, hLFq⟩ : ∃ LF, leftH hs = LF := ⟨_, rfl⟩
        have HLF := Lib.hid hLFq
        have HLN := Lib.hid hln
        have hLF0 : LF ≤ 2560 := by omega
        clear hjq
        go_wp2_with (first
          | (go_at_call 16; refine F1.mono ?_; rintro e w5 ⟨f, rfl, hf5, hx5⟩
             have hm5 := HL.out.ext hx5
             have LM5 := live_left hm5 (by omega) (by omega)
             have LF5 := live_left hf5 (by omega) (by omega)
             have NM5 := live_newest hm5
             have NF5 := live_newest hf5)
          | (go_at_call 17; refine LM5.mono ?_; rintro e w' ⟨rfl, hw⟩; replace hw := hw.symm; subst hw; clear LM5)
          | (go_at_call 17; refine LF5.mono ?_; rintro e w' ⟨rfl, hw⟩; replace hw := hw.symm; subst hw)
          | (go_at_call 18; refine NF5.mono ?_; rintro e w' ⟨rfl, hw⟩; replace hw := hw.symm; subst hw; clear NF5)
          | (go_at_call 18; refine NM5.mono ?_; rintro e w' ⟨rfl, hw⟩; replace hw := hw.symm; subst hw))
        clear heq1 heq2 F1 LF5 NM5 hlf hln
        obtain ⟨wo, hwo⟩ : ∃ wo, wo = wr := ⟨_, rfl⟩
        subst hwo
        have hln := HLN.out
        have HF5 := Lib.hid hf5
        have HX5 := Lib.hid (hx.trans hx5)
        have HS5 := Lib.hid hx5.size
        clear hf5
        go_loopg [9] (LF) (fun k s9 wi => ∃ (j2 : Nat) (hsf : List Src) (nf : Int), s9 = .int .i64 j2 ∧ leftH hsf + j2 = LF ∧ k = LF - j2 ∧ hsf.length ≤ 8 ∧ Hid (Live wo.heap.size (fun k => wo.heap.size ≤ k ∧ k < w5.heap.size) (fun k => wo.heap.size ≤ k ∧ k < w5.heap.size) wi f hsf nf) ∧ Hid (Chg (fun k => wo.heap.size ≤ k ∧ k < w5.heap.size) w5 wi))
        case atStart => exact ⟨0, hs, nw, rfl, HLF.out, rfl, HLN.out, HF5, Lib.hid (Chg.refl _ _)⟩
        case round =>
          obtain ⟨j2, hsf, nf, rfl, hjl, hk2, hlnf, HFL, HC⟩ := hrel
          by_cases hjq : j2 < LF
          case pos =>
            have hji2 : (j2 : Int) < (LF : Int) := by omega
            have hemp : hsf ≠ [] := fun e => by subst e; rw [show leftH [] = 0 from rfl] at hjl; omega
            have X1 := live_next HFL.out hemp (by omega) (fun k hk => Nat.lt_of_lt_of_le hk.2 HC.out.size)
            have h1 := left_next hemp HFL.out.full
            have h2 := next_len hsf
            generalize topH hsf = y at *
            generalize nextH hsf = hs2 at *
            clear hemp
            go_wp2_with (go_at_call 15; refine X1.mono ?_; rintro e w6 ⟨rfl, hl6, hc6⟩
                         have hxa := Ext.alloc w6 (.cells #[.int .i64 y.list, .int .i64 y.off, .int .i64 y.time, .int .i64 y.rcd.delta, .int .i64 y.rcd.time, .bool y.rcd.keyed, .string ⟨y.rcd.key.toArray⟩, .bool y.rcd.dead, .string ⟨y.rcd.value.toArray⟩] 36)
                         have HL6 := Lib.hid (hl6.ext hxa)
                         have HC6 := Lib.hid ((HC.out.trans hc6).trans hxa.chg)
                         clear hl6)
            go_roundg (LF - (j2 + 1))
            case measure => omega
            case rel => exact ⟨j2 + 1, hs2, _, by go_num, by omega, rfl, by omega, HL6, HC6⟩
          case neg =>
            have hje : leftH hsf = 0 := by omega
            have hje2 : j2 = LF := by omega
            subst hje2
            have hji2 : ¬ (j2 : Int) < (j2 : Int) := by omega
            have HX6 := Lib.hid (HC.out.ext HX5.out (fun k hk => Nat.le_trans hx.size hk.1))
            have HM6 := Lib.hid ((HL.out.ext hx5).keep HC.out (fun q hq hq2 => by have := HSZ.out; omega) (fun q hq hq2 => by have := HSZ.out; omega))
            have LF6 := live_left HFL.out (by omega) (by omega)
            have LM6 := live_left HM6.out (by rw [HLF.out]; omega) (by omega)
            have F6 := live_fork HM6.out (by omega) (by rw [HLF.out]; omega)
            rw [hje] at LF6
            rw [HLF.out] at LM6
            have heq3 : ((j2 : Int) == (j2 : Int)) = true := by simp
            have HSZ6 := Lib.hid (Nat.le_trans HSZ.out (Nat.le_trans hx5.size HC.out.size))
            obtain ⟨w6, hw6⟩ : ∃ w6, w6 = wr := ⟨_, rfl⟩
            subst hw6
            clear hjq hjl hlnf HFL HC HF5
            go_wp2_with (first
              | (go_at_call 17; refine LF6.mono ?_; rintro e w' ⟨rfl, hw⟩; replace hw := hw.symm; subst hw; clear LF6)
              | (go_at_call 17; refine LM6.mono ?_; rintro e w' ⟨rfl, hw⟩; replace hw := hw.symm; subst hw)
              | (go_at_call 16; refine F6.mono ?_; rintro e w7 ⟨g, rfl, hg7, hx7⟩))
            have HG7 := Lib.hid hg7
            have HM7 := Lib.hid (HM6.out.ext hx7)
            have HS7 := Lib.hid hx7.size
            have HX7 := Lib.hid (HX6.out.trans hx7)
            clear hg7 LM6 F6 heq3
            go_loopg [13] (j2) (fun k s13 wi => ∃ (j3 : Nat) (hs3 : List Src) (n3 : Int), s13 = .int .i64 j3 ∧ leftH hs3 + j3 = j2 ∧ k = j2 - j3 ∧ hs3.length ≤ 8 ∧ Hid (Live w1.heap.size (fun k => k < w2.heap.size) (fun k => w1.heap.size ≤ k ∧ k < w2.heap.size) wi m hs3 n3) ∧ Hid (Live w6.heap.size (fun k => w6.heap.size ≤ k ∧ k < w7.heap.size) (fun k => w6.heap.size ≤ k ∧ k < w7.heap.size) wi g hs3 n3) ∧ Hid (w7.heap.size ≤ wi.heap.size) ∧ Hid (Ext w wi))
            case atStart => exact ⟨0, hs, nw, rfl, HLF.out, rfl, HLN.out, HM7, HG7, Lib.hid (Nat.le_refl _), HX7⟩
            case round =>
              obtain ⟨j3, hs3, n3, rfl, hj3, hk3, hln3, HM, HG, HZ, HX⟩ := hrel
              by_cases hjq : j3 < j2
              case pos =>
                have hji3 : (j3 : Int) < (j2 : Int) := by omega
                have hemp : hs3 ≠ [] := fun e => by subst e; rw [show leftH [] = 0 from rfl] at hj3; omega
                have X1 := live_next HM.out hemp (by omega) (fun k hk => by have := HSZ6.out; have := HS7.out; have := HZ.out; omega)
                have X2 := fun W (hW : Live w6.heap.size (fun k => w6.heap.size ≤ k ∧ k < w7.heap.size) (fun k => w6.heap.size ≤ k ∧ k < w7.heap.size) W g hs3 n3) (hs : w7.heap.size ≤ W.heap.size) => live_next hW hemp (by omega) (fun k hk => by omega)
                have h1 := left_next hemp HM.out.full
                have h2 := next_len hs3
                have Z1 := fun W => isame_any (topH hs3) (topH hs3) W
                rw [sameI_refl] at Z1
                generalize topH hs3 = y at *
                generalize nextH hs3 = hs4 at *
                unfold itmv at Z1
                clear hemp
                have HX1 := Lib.hid X1
                clear X1
                go_wp2_with (first
                  | (go_at_call 15; refine HX1.out.mono ?_; rintro e w8 ⟨rfl, hm8, hc8⟩
                     have hxa := Ext.alloc w8 (.cells #[.int .i64 y.list, .int .i64 y.off, .int .i64 y.time, .int .i64 y.rcd.delta, .int .i64 y.rcd.time, .bool y.rcd.keyed, .string ⟨y.rcd.key.toArray⟩, .bool y.rcd.dead, .string ⟨y.rcd.value.toArray⟩] 36)
                     have HM8 := Lib.hid (hm8.ext hxa)
                     have HG8 := Lib.hid ((HG.out.keep hc8 (fun q hq hq2 => by have := HSZ6.out; omega) (fun q hq hq2 => by have := HSZ6.out; omega)).ext hxa)
                     have HZ8 := Lib.hid (Nat.le_trans HZ.out hc8.size)
                     have HX8 := Lib.hid ((hc8.ext HX.out (fun k hk => Nat.le_trans hx1.size hk.1)).trans hxa)
                     have ob8 : ObjAt (w8.alloc (.cells #[.int .i64 y.list, .int .i64 y.off, .int .i64 y.time, .int .i64 y.rcd.delta, .int .i64 y.rcd.time, .bool y.rcd.keyed, .string ⟨y.rcd.key.toArray⟩, .bool y.rcd.dead, .string ⟨y.rcd.value.toArray⟩] 36)) w8.heap.size 36 (itmCells y) := heap_alloc_new w8 _
                     have OB8 := Lib.hid ob8
                     clear hm8 ob8 HX1)
                  | (go_at_call 15; refine (X2 _ HG8.out (Nat.le_trans HZ8.out hxa.size)).mono ?_; rintro e w9 ⟨rfl, hg9, hc9⟩
                     have hxb := Ext.alloc w9 (.cells #[.int .i64 y.list, .int .i64 y.off, .int .i64 y.time, .int .i64 y.rcd.delta, .int .i64 y.rcd.time, .bool y.rcd.keyed, .string ⟨y.rcd.key.toArray⟩, .bool y.rcd.dead, .string ⟨y.rcd.value.toArray⟩] 36)
                     have HM9 := Lib.hid ((HM8.out.keep hc9 (fun q hq hq2 => by have := HSZ6.out; omega) (fun q hq hq2 => by have := HSZ6.out; omega)).ext hxb)
                     have HG9 := Lib.hid (hg9.ext hxb)
                     have HX9 := Lib.hid ((hc9.ext HX8.out (fun k hk => by have := HX6.out.size; omega)).trans hxb)
                     have HZ9 := Lib.hid (Nat.le_trans HZ8.out (Nat.le_trans hxa.size (Nat.le_trans hc9.size hxb.size)))
                     have ob9 : ObjAt (w9.alloc (.cells #[.int .i64 y.list, .int .i64 y.off, .int .i64 y.time, .int .i64 y.rcd.delta, .int .i64 y.rcd.time, .bool y.rcd.keyed, .string ⟨y.rcd.key.toArray⟩, .bool y.rcd.dead, .string ⟨y.rcd.value.toArray⟩] 36)) w8.heap.size 36 (itmCells y) := (OB8.out.chg hc9 (fun e => by have := HZ8.out; omega)).ext hxb
                     have p0 := ob9.cell (j := 0) rfl
                     have p1 := ob9.cell (j := 1) rfl
                     have p2 := ob9.cell (j := 2) rfl
                     have p3 := ob9.cell (j := 3) rfl
                     have p4 := ob9.cell (j := 4) rfl
                     have p5 := ob9.cell (j := 5) rfl
                     have p6 := ob9.cell (j := 6) rfl
                     have p7 := ob9.cell (j := 7) rfl
                     have p8 := ob9.cell (j := 8) rfl
                     clear hg9 ob9)
                  | (go_at_call 10; refine (Z1 _).mono ?_; rintro e wz ⟨rfl, hz⟩))
                go_roundg (j2 - (j3 + 1))
                case measure => omega
                case rel => exact ⟨j3 + 1, hs4, _, by go_num, by omega, rfl, by omega, Lib.hid (HM9.out.ext hz), Lib.hid (HG9.out.ext hz), Lib.hid (Nat.le_trans HZ9.out hz.size), Lib.hid (HX9.out.trans hz)⟩
              case neg =>
                have hje4 : j3 = j2 := by omega
                subst hje4
                have hji3 : ¬ (j3 : Int) < (j3 : Int) := by omega
                clear hjq
                go_wp2_with (first
                  | (go_at_call 15; refine (next_nil _).mono ?_; rintro e w8 ⟨rfl, hx8⟩
                     have hxa := Ext.alloc w8 (.cells #[.int .i64 0, .int .i64 0, .int .i64 0, .int .i64 0, .int .i64 0, .bool false, .string ⟨#[]⟩, .bool false, .string ⟨#[]⟩] 36))
                  | (go_at_call 17; refine (left_nil _).mono ?_; rintro e w' ⟨rfl, rfl⟩)
                  | (go_at_call 18; refine (newest_nil _).mono ?_; rintro e w' ⟨rfl, rfl⟩)
                  | (go_at_call 16; refine (fork_nil _).mono ?_; rintro e w' ⟨rfl, rfl⟩)
                  | (go_at_call 7; refine (awake_any _).mono ?_; rintro e w9 ⟨rfl, hx9⟩))
                go_ret
                exact ⟨rfl, ((HX.out.trans hx8).trans hxa).trans hx9⟩
end Go.Proofs.Ytmoljicchgcnfaa
