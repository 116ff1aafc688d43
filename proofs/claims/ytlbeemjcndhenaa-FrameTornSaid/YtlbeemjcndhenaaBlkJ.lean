/- What the program's and the document's functions of layer 5 compute when they join blocks, and whether blocks are few and short. -/
import Derived.Test.YtlbeemjcndhenaaBlkO
import Derived.Test.YtlbeemjcndhenaaLst
import Derived.Deep.LoopGhost
namespace Go.Proofs.Ytlbeemjcndhenaa
open Go.RowKit

/-- Where joining stands: at which block, what was found, which kind is wanted. -/
structure Joining (ls : List (List UInt8)) (j : Nat) (out : List UInt8) (want : UInt8) : Prop where
  le : j ≤ ls.length
  wants : want = if j = 0 then 1 else 2
  all : joinGo 1 ls = ⟨out ++ (joinGo want (ls.drop j)).body, j + (joinGo want (ls.drop j)).n⟩
  few : out.length ≤ 61 * j
theorem Joining.start (ls : List (List UInt8)) : Joining ls 0 [] 1 := ⟨Nat.zero_le _, rfl, by simp, by simp⟩
theorem openB_short (b : List UInt8) (h : (openB b).err = 0) : (openB b).body.length ≤ 61 := (open_err b h).2.2
theorem Joining.step {ls : List (List UInt8)} {j : Nat} {out : List UInt8} {want : UInt8} (h : Joining ls j out want) (hj : j < ls.length) (ho : (openB ls[j]).err = 0 ∧ (openB ls[j]).kind = want) :
    Joining ls (j + 1) (out ++ (openB ls[j]).body) 2 := by
  refine ⟨hj, rfl, ?_, ?_⟩
  · rw [h.all, List.drop_eq_getElem_cons hj, joinGo_go _ _ _ ho]
    simp [Nat.add_assoc, Nat.add_comm]
  · have := h.few
    have := openB_short _ ho.1
    simp; omega
theorem Joining.stop {ls : List (List UInt8)} {j : Nat} {out : List UInt8} {want : UInt8} (h : Joining ls j out want) (hj : j < ls.length) (ho : ¬ ((openB ls[j]).err = 0 ∧ (openB ls[j]).kind = want)) : joinGo 1 ls = ⟨out, j⟩ := by
  rw [h.all, List.drop_eq_getElem_cons hj, joinGo_stop _ _ _ ho]
  simp
theorem Joining.over {ls : List (List UInt8)} {j : Nat} {out : List UInt8} {want : UInt8} (h : Joining ls j out want) (hj : j = ls.length) : joinGo 1 ls = ⟨out, j⟩ := by
  rw [h.all, hj, List.drop_length]
  simp [joinGo]
theorem told_none {ls : List (List UInt8)} {out : List UInt8} (h : joinGo 1 ls = ⟨out, 0⟩) : joinB ls = ⟨[], 0, 8⟩ := by unfold joinB; rw [h]; rfl
theorem told_some {ls : List (List UInt8)} {out : List UInt8} {j : Nat} (h : joinGo 1 ls = ⟨out, j⟩) (hj : 0 < j) : joinB ls = ⟨out, j, 0⟩ := by
  unfold joinB; rw [h, if_neg (by show ¬ j = 0; omega)]

set_option maxHeartbeats 1000000 in
theorem bjoin_any (v : Value) (ls : List (List UInt8)) (w : World) (h : LV w v ls) (hl : ls.length ≤ 100000) :
    Calls Try.prog 30 #[v] w fun e w' => ∃ v', e = .returned (.tuple #[v', .int .i64 (joinB ls).n, .int .i64 (joinB ls).err]) ∧ FB w' w.heap.size v' (joinB ls).body ∧ Ext w w' := by
  obtain ⟨p, c, rfl, hn, hc⟩ := h.slice
  unfold maxLen at hc
  go_enter Try.func30, Try.ntmps30
  go_wp2_with fail
  go_loopg [0, 5, 6, 14] (ls.length) (fun k s0 s5 s6 s14 wr => ∃ (j : Nat) (out : List UInt8) (want : UInt8), s0 = .slice p ls.length c ∧ s14 = .int .i64 j ∧ s6 = bv want ∧ Joining ls j out want ∧ k = ls.length - j ∧ FB wr w.heap.size s5 out ∧ Ext w wr)
  case atStart => exact ⟨0, [], 1, rfl, rfl, rfl, Joining.start ls, rfl, FB.nil _ _, Ext.refl _⟩
  case round =>
    obtain ⟨j, out, want, rfl, rfl, rfl, hj, hk, hf, hx⟩ := hrel
    have hjl := hj.le
    have hfew := hj.few
    have HJ := Lib.hid hj
    by_cases hlt : j < ls.length
    case neg =>
      have hov := hj.over (by omega)
      by_cases h0 : ls.length = 0
      · have HT := Lib.hid (told_none (hov.trans (by rw [show j = 0 by omega])))
        clear hj hov
        go_wp2_with fail
        go_ret3
        rw [HT.out]
        exact ⟨_, rfl, FB.nil _ _, hx⟩
      · have HT := Lib.hid (told_some hov (by omega))
        have hb : ((ls.length : Int) == 0) = false := by rw [beq_eq_false_iff_ne]; omega
        have hjj : j = ls.length := by omega
        clear hj hov
        go_wp2_with fail
        go_ret3
        rw [HT.out, hjj]
        exact ⟨_, rfl, hf, hx⟩
    case pos =>
      obtain ⟨b, o, u, rfl, hcell, hu⟩ := (h.ext hx).row hlt
      obtain ⟨x, hx0⟩ : ∃ x, ls[j] = x := ⟨_, rfl⟩
      have hvx := hu.now
      rw [hx0] at hvx
      by_cases hok : (openB ls[j]).err = 0 ∧ (openB ls[j]).kind = want
      case pos =>
        have HS := Lib.hid (hj.step hlt hok)
        have HSH := Lib.hid (openB_short _ hok.1)
        rw [hx0] at hok HS HSH
        obtain ⟨he, hkd⟩ := hok
        clear hj hu hx0
        go_wp2_with fail
        refine (bopen_any _ _ _ hvx).mono ?_
        rintro e w1 ⟨v1, rfl, hf1, hx1⟩
        rw [he, hkd]
        generalize (openB x).body = y at *
        have hb : ((want.toNat : Int) != want.toNat) = false := by simp
        go_wp2_with (at_builtin; refine st_append T.bytes (hf.keep hx1) hf1.view ?_ (by have := HSH.out; omega) (Nat.le_trans hx.size hx1.size); intro v2 w2 hf2 hg2 _; have hx2 := (hx.trans hx1).append (hf.keep hx1) hg2)
        go_roundg (ls.length - (j + 1))
        case measure => omega
        case rel => exact ⟨j + 1, out ++ y, 2, rfl, by go_num, rfl, HS.out, rfl, hf2, hx2⟩
      case neg =>
        have hst := hj.stop hlt hok
        rw [hx0] at hok
        have hcases : ((openB x).err != 0) = true ∨ ((openB x).err = 0 ∧ (((openB x).kind.toNat : Int) != (want.toNat : Int)) = true) := by
          by_cases e : (openB x).err = 0
          · refine .inr ⟨e, ?_⟩
            rw [bne_iff_ne]; intro e2
            exact hok ⟨e, UInt8.toNat_inj.1 (by omega)⟩
          · left; simpa using e
        have hj0 : (j = 0 ∧ Hid (joinB ls = ⟨[], 0, 8⟩)) ∨ (((j : Int) == 0) = false ∧ Hid (joinB ls = ⟨out, j, 0⟩)) := by
          by_cases e : j = 0
          · subst e; exact .inl ⟨rfl, Lib.hid (told_none hst)⟩
          · exact .inr ⟨by rw [beq_eq_false_iff_ne]; omega, Lib.hid (told_some hst (by omega))⟩
        clear hj hu hx0 hst hok
        rcases hcases with hb | ⟨he, hb⟩ <;> rcases hj0 with ⟨rfl, HT⟩ | ⟨hj0, HT⟩
        all_goals
          try rw [Nat.add_zero] at hcell
          go_wp2_with fail
          refine (bopen_any _ _ _ hvx).mono ?_
          rintro e w1 ⟨v1, rfl, hf1, hx1⟩
          try rw [he]
          generalize (openB x).err = y at *
          generalize (openB x).kind = z at *
          go_wp2_with ((with_reducible show wpList _ _ _ (Oper.mk _ (Op.slice _ _ _ _ _) _ _ _ _ :: _) _ _); first | refine st_sliceTo T.lists 0 c ?_ | refine st_sliceTo T.lists j c ?_)
          go_ret3
          rw [HT.out]
          first
            | exact ⟨_, rfl, FB.nil _ _, hx.trans hx1⟩
            | exact ⟨_, rfl, hf.keep hx1, hx.trans hx1⟩

set_option maxHeartbeats 1000000 in
theorem rbjoin_any (v : Value) (ls : List (List UInt8)) (w : World) (h : LV w v ls) (hl : ls.length ≤ 100000) :
    Calls Try.prog 33 #[v] w fun e w' => ∃ v', e = .returned (.tuple #[v', .int .i64 (joinB ls).n, .int .i64 (joinB ls).err]) ∧ FB w' w.heap.size v' (joinB ls).body ∧ Ext w w' := by
  obtain ⟨p, c, rfl, hn, hc⟩ := h.slice
  unfold maxLen at hc
  by_cases hl0 : ls.length = 0
  · have hjb : joinB ls = ⟨[], 0, 8⟩ := told_none ((Joining.start ls).over (by omega))
    rw [hjb]
    have hb : ((ls.length : Int) == 0) = true := by rw [hl0]; rfl
    clear hl0 h
    go_enter Try.func33, Try.ntmps33
    go_wp2_with fail
    go_ret3
    exact ⟨_, rfl, FB.nil _ _, Ext.refl _⟩
  have hlp : 0 < ls.length := by omega
  have hb0 : ((ls.length : Int) == 0) = false := by rw [beq_eq_false_iff_ne]; omega
  obtain ⟨b, o, u, rfl, hcell, hu⟩ := h.row (j := 0) (by omega)
  rw [Nat.add_zero] at hcell
  obtain ⟨x, hx0⟩ : ∃ x, ls[0] = x := ⟨_, rfl⟩
  have hvx := hu.now
  rw [hx0] at hvx
  by_cases hok : (openB ls[0]).err = 0 ∧ (openB ls[0]).kind = 1
  case neg =>
    have hjb : joinB ls = ⟨[], 0, 8⟩ := told_none ((Joining.start ls).stop (by omega) hok)
    rw [hjb]
    rw [hx0] at hok
    have hcases : ((openB x).err != 0) = true ∨ ((openB x).err = 0 ∧ (((openB x).kind.toNat : Int) != 1) = true) := by
      by_cases e : (openB x).err = 0
      · refine .inr ⟨e, ?_⟩
        rw [bne_iff_ne]; intro e2
        exact hok ⟨e, UInt8.toNat_inj.1 (by simp; omega)⟩
      · left; simpa using e
    clear hu hx0 hok hl0 hjb
    rcases hcases with hb | ⟨he, hb⟩
    all_goals
      go_enter Try.func33, Try.ntmps33
      go_wp2_with fail
      refine (rbopen_any _ _ _ hvx).mono ?_
      rintro e w1 ⟨v1, rfl, hf1, hx1⟩
      try rw [he]
      generalize (openB x).err = y at *
      generalize (openB x).kind = z at *
      go_wp2_with fail
      go_ret3
      exact ⟨_, rfl, FB.nil _ _, hx1⟩
  case pos =>
    have HS := (Joining.start ls).step (by omega) hok
    rw [List.nil_append] at HS
    rw [hx0] at hok HS
    obtain ⟨he, hkd⟩ := hok
    clear hu hx0
    go_enter Try.func33, Try.ntmps33
    go_wp2_with fail
    refine (rbopen_any _ _ _ hvx).mono ?_
    rintro e w0 ⟨v0, rfl, hf0, hx0⟩
    rw [he, hkd]
    generalize (openB x).body = y0 at *
    go_wp2_with fail
    go_loopg [6, 8] (ls.length) (fun k s6 s8 wr => ∃ (j : Nat) (out : List UInt8), 0 < j ∧ s8 = .int .i64 j ∧ Joining ls j out 2 ∧ k = ls.length - j + 1 ∧ FB wr w.heap.size s6 out ∧ Ext w wr)
    case atStart => exact ⟨1, y0, by omega, rfl, HS, by omega, hf0, hx0⟩
    case round =>
      obtain ⟨j, out, hj0, rfl, hj, hk, hf, hx⟩ := hrel
      have hjl := hj.le
      have hfew := hj.few
      have HJ := Lib.hid hj
      by_cases hlt : j < ls.length
      case neg =>
        have HT := Lib.hid (told_some (hj.over (by omega)) hj0)
        clear hj
        go_wp2_with fail
        go_ret3
        rw [HT.out]
        exact ⟨_, rfl, hf, hx⟩
      case pos =>
        obtain ⟨b', o', u', hbo, hcell', hu'⟩ := (h.ext hx).row hlt
        cases hbo
        obtain ⟨x', hx0'⟩ : ∃ x, ls[j] = x := ⟨_, rfl⟩
        have hvx' := hu'.now
        rw [hx0'] at hvx'
        by_cases hok' : (openB ls[j]).err = 0 ∧ (openB ls[j]).kind = 2
        case pos =>
          have HS := Lib.hid (hj.step hlt hok')
          have HSH := Lib.hid (openB_short _ hok'.1)
          rw [hx0'] at hok' HS HSH
          obtain ⟨he', hkd'⟩ := hok'
          clear hj hu' hx0'
          go_wp2_with fail
          refine (rbopen_any _ _ _ hvx').mono ?_
          rintro e w1 ⟨v1, rfl, hf1, hx1⟩
          rw [he', hkd']
          generalize (openB x').body = y at *
          go_wp2_with (at_builtin; refine st_append T.bytes (hf.keep hx1) hf1.view ?_ (by have := HSH.out; omega) (Nat.le_trans hx.size hx1.size); intro v2 w2 hf2 hg2 _; have hx2 := (hx.trans hx1).append (hf.keep hx1) hg2)
          go_roundg (ls.length - (j + 1) + 1)
          case measure => omega
          case rel => exact ⟨j + 1, out ++ y, by omega, by go_num, HS.out, rfl, hf2, hx2⟩
        case neg =>
          have HT := Lib.hid (told_some (hj.stop hlt hok') hj0)
          rw [hx0'] at hok'
          have hcases : ((openB x').err != 0) = true ∨ ((openB x').err = 0 ∧ (((openB x').kind.toNat : Int) != 2) = true) := by
            by_cases e : (openB x').err = 0
            · refine .inr ⟨e, ?_⟩
              rw [bne_iff_ne]; intro e2
              exact hok' ⟨e, UInt8.toNat_inj.1 (by simp; omega)⟩
            · left; simpa using e
          clear hj hu' hx0' hok'
          rcases hcases with hb | ⟨he', hb⟩
          all_goals
            go_wp2_with fail
            refine (rbopen_any _ _ _ hvx').mono ?_
            rintro e w1 ⟨v1, rfl, hf1, hx1⟩
            try rw [he']
            generalize (openB x').err = y at *
            generalize (openB x').kind = z at *
            go_wp2_with fail
            go_ret3
            rw [HT.out]
            exact ⟨_, rfl, hf.keep hx1, hx.trans hx1⟩

/-- Whether blocks are few and short. -/
def lightB (ls : List (List UInt8)) (most : Nat) : Bool := decide (ls.length ≤ most) && ls.all fun l => decide (l.length ≤ 200)
theorem blight_any (v : Value) (ls : List (List UInt8)) (most : Nat) (w : World) (h : LV w v ls) :
    Calls Try.prog 13 #[v, .int .i64 most] w fun e w' => e = .returned (.bool (lightB ls most)) ∧ w = w' := by
  obtain ⟨p, c, rfl, hn, hc⟩ := h.slice
  unfold maxLen at hc
  by_cases hm : most < ls.length
  · have e : lightB ls most = false := by unfold lightB; rw [decide_eq_false (by omega)]; rfl
    rw [e]
    clear e h
    go_enter Try.func13, Try.ntmps13
    go_wp2_with fail
    go_ret
    exact ⟨rfl, rfl⟩
  · go_enter Try.func13, Try.ntmps13
    go_wp2_with fail
    go_loopg [5] (ls.length) (fun k s5 wr => ∃ (j : Nat), s5 = .int .i64 j ∧ wr = w ∧ j ≤ ls.length ∧ k = ls.length - j ∧ ∀ i (hi : i < j) (hl : i < ls.length), ls[i].length ≤ 200)
    case atStart => exact ⟨0, rfl, rfl, Nat.zero_le _, rfl, fun i hi => by omega⟩
    case round =>
      obtain ⟨j, rfl, rfl, hj, hk, ha⟩ := hrel
      have HA := Lib.hid ha; clear ha
      by_cases hlt : j < ls.length
      case neg =>
        have e : lightB ls most = true := by
          unfold lightB
          rw [decide_eq_true (by omega), Bool.true_and, List.all_eq_true]
          intro l hl
          obtain ⟨i, hi, rfl⟩ := List.getElem_of_mem hl
          exact decide_eq_true (HA.out i (by omega) hi)
        have HE := Lib.hid e; clear e
        go_wp2_with fail
        go_ret
        rw [HE.out]
        exact ⟨rfl, rfl⟩
      case pos =>
        obtain ⟨b, o, u, rfl, hcell, hu⟩ := h.row hlt
        obtain ⟨p', c', rfl, _, _, _⟩ := hu.now
        obtain ⟨d, hd⟩ : ∃ d, ls[j].length = d := ⟨_, rfl⟩
        rw [hd] at hcell
        by_cases h200 : 200 < d
        · have e : lightB ls most = false := by
            unfold lightB
            rw [Bool.and_eq_false_iff]
            right
            rw [List.all_eq_false]
            exact ⟨ls[j], List.getElem_mem hlt, by rw [hd]; simpa using h200⟩
          have HE := Lib.hid e; clear e hu hd
          go_wp2_with fail
          go_ret
          rw [HE.out]
          exact ⟨rfl, rfl⟩
        · have HD := Lib.hid hd
          clear hu hd
          go_wp2_with fail
          go_roundg (ls.length - (j + 1))
          case measure => omega
          case rel => exact ⟨j + 1, by go_num, rfl, by omega, rfl, fun i hi hl => by
            by_cases e : i = j
            · subst e; have := HD.out; omega
            · exact HA.out i (by omega) hl⟩
end Go.Proofs.Ytlbeemjcndhenaa
