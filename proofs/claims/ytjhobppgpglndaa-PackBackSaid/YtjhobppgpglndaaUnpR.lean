/- What the document's functions of layer 32 compute: unpacking. -/
import Derived.Test.YtjhobppgpglndaaUnpU
namespace Go.Proofs.Ytjhobppgpglndaa
open Go.RowKit

set_option maxHeartbeats 2000000 in
set_option maxRecDepth 20000 in
theorem runpack_any (v : Value) (l : List UInt8) (m : Int) (w : World) (h : BV w v l) (hl : l.length ≤ 100000) (hm : -9223372036854775808 ≤ m ∧ m ≤ 9223372036854775807) :
    Calls Try.prog 15 #[v, .int .i64 m] w fun e w' => ∃ v', e = .returned (.tuple #[v', .int .i64 (unpB l m.toNat).err]) ∧ FB w' w.heap.size v' (unpB l m.toNat).out ∧ Ext w w' := by
  obtain ⟨p, cp, rfl, hn, hcp, _⟩ := id h
  obtain ⟨most, hmo⟩ : ∃ most : Nat, m.toNat = most := ⟨_, rfl⟩
  have hmax : max (0 : Int) m = (most : Int) := by omega
  rw [hmo]
  clear hm
  go_enter Try.func15, Try.ntmps15
  go_wp2_with fail
  go_loopg [0, 6] l.length (fun k s0 s6 wr => ∃ (rest out : List UInt8), BV w s0 rest ∧ FB wr w.heap.size s6 out ∧ Ext w wr ∧ Unping l rest out most ∧ k = rest.length)
  case atStart => exact ⟨l, [], h, FB.nil _ _, Ext.refl _, Unping.start l most, rfl⟩
  case round =>
    obtain ⟨rest, out, hb, ho, hx, hu, hk⟩ := hrel
    obtain ⟨q, cq, rfl, hq1, hq2, hqs⟩ := id hb
    obtain ⟨po, co, rfl, hlo, hco, _⟩ := id ho.slice
    have hroom := hu.room
    cases rest with
    | nil =>
      have HS := Lib.hid hu.stop
      clear hu
      go_wp2_with fail
      go_ret2
      refine ⟨.slice po out.length co, ?_, ?_, hx⟩
      · rw [HS.out]; rfl
      · rw [HS.out]; exact ho
    | cons c r =>
      obtain ⟨b, o, rfl, hcell⟩ := hqs.at (k := 0) (u := bv c) rfl
      rw [Nat.add_zero] at hcell
      have hcc := hx.cell hcell
      have hc256 : c.toNat < 256 := c.toNat_lt
      rw [List.length_cons] at hroom
      have hwl : IntKind.i64.wrap ((r.length : Int) + 1 - 1) = (r.length : Int) := by rw [IntKind.wrap_i64]; omega
      have hol : out.length ≤ 20000000 := by omega
      have hrl : r.length ≤ 100000 := by omega
      by_cases hc : c.toNat < 128
      · have hr := hu.run hc
        unfold runE at hr
        obtain ⟨n, hn1, hn2⟩ : ∃ n, n = c.toNat + 1 ∧ (c.toNat : Int) + 1 = (n : Int) := ⟨_, rfl, by omega⟩
        obtain ⟨n2, hn3, hn4⟩ : ∃ n2, n2 = c.toNat + 2 ∧ (c.toNat : Int) + 2 = (n2 : Int) := ⟨_, rfl, by omega⟩
        rw [← hn1] at hr
        have hwo : IntKind.i64.wrap ((out.length : Int) + (c.toNat : Int)) = (out.length : Int) + (c.toNat : Int) := by rw [IntKind.wrap_i64]; omega
        have hwo2 : IntKind.i64.wrap ((out.length : Int) + (c.toNat : Int) + 1) = (out.length : Int) + (n : Int) := by rw [IntKind.wrap_i64]; omega
        have hwn : IntKind.i64.wrap (n : Int) = (n : Int) := by rw [IntKind.wrap_i64]; omega
        have hwn2 : IntKind.i64.wrap (n2 : Int) = (n2 : Int) := by rw [IntKind.wrap_i64]; omega
        by_cases h2 : r.length < n
        · rw [if_pos h2] at hr
          rcases hr with ⟨e, _⟩ | ⟨_, hs⟩
          · cases e
          have HS := Lib.hid hs
          clear hs hu hcell hqs hn1 hn3
          go_wp2_with fail
          go_ret2
          refine ⟨.slice none 0 0, ?_, ?_, hx⟩
          · rw [HS.out]; rfl
          · rw [HS.out]; exact FB.nil _ _
        rw [if_neg h2] at hr
        by_cases h3 : most < out.length + n
        · rw [if_pos h3] at hr
          rcases hr with ⟨e, _⟩ | ⟨_, hs⟩
          · cases e
          have HS := Lib.hid hs
          clear hs hu hcell hqs hn1 hn3
          go_wp2_with ((with_reducible show wpList _ _ _ (Oper.mk _ (Op.call { callee := Callee.builtin Builtin.max, args := _, argTypes := _ }) _ _ _ _ :: _) _ _); refine wpList_run rfl (run_max rfl rfl rfl _) ?_; rw [hmax])
          go_ret2
          refine ⟨.slice none 0 0, ?_, ?_, hx⟩
          · rw [HS.out]; rfl
          · rw [HS.out]; exact FB.nil _ _
        rw [if_neg h3] at hr
        rcases hr with ⟨_, hr⟩ | ⟨e, _⟩
        case inr => exact absurd rfl e
        have HU := Lib.hid hr
        have hmid := hb.mid (L := 1) (H := n2) (by omega) (by simp; omega)
        rw [List.drop_succ_cons, List.drop_zero, show n2 - 1 = n by omega] at hmid
        have hdr := hb.drop (k := n2) (by simp; omega)
        rw [show n2 = n + 1 by omega, List.drop_succ_cons, ← show n2 = n + 1 by omega] at hdr
        have hn21 : n2 - 1 = n := by omega
        have hn2r : n2 ≤ r.length + 1 := by omega
        have hlen1 : (c :: r).length = r.length + 1 := rfl
        have hl256 : n ≤ 256 := by omega
        clear hr hu hcell hqs hn1 hn3
        rw [hlen1] at hq1 hb hdr
        go_wp2_with (first
          | ((with_reducible show wpList _ _ _ (Oper.mk _ (Op.call { callee := Callee.builtin Builtin.max, args := _, argTypes := _ }) _ _ _ _ :: _) _ _); refine wpList_run rfl (run_max rfl rfl rfl _) ?_; rw [hmax])
          | ((with_reducible show wpList _ _ _ (Oper.mk _ (Op.slice _ _ _ _ _) _ _ _ _ :: _) _ _); refine st_slice T.bytes 1 n2 cq ?_; rw [hn21])
          | (at_builtin; refine st_append T.bytes ho (hmid.ext hx) ?_ (by simp; omega) hx.size; intro v2 w2 hf2 hg2 hw2; have hx2 := hx.append ho hg2)
          | ((with_reducible show wpList _ _ _ (Oper.mk _ (Op.slice _ _ _ _ _) _ _ _ _ :: _) _ _); refine st_slice T.bytes n2 (r.length + 1) cq ?_))
        go_roundg (r.drop n).length
        case measure => simp; omega
        case rel => exact ⟨_, _, hdr, hf2, hx2, HU.out, rfl⟩
      · have hr := hu.match hc
        unfold matchE at hr
        have hdc : ¬ ((c.toNat : Int) < 128) := by omega
        by_cases h2 : r.length < 2
        · rw [if_pos h2] at hr
          rcases hr with ⟨e, _⟩ | ⟨_, hs⟩
          · cases e
          have HS := Lib.hid hs
          have h2' : r.length + 1 < 3 := by omega
          clear hs hu hcell hqs
          go_wp2_with fail
          go_ret2
          refine ⟨.slice none 0 0, ?_, ?_, hx⟩
          · rw [HS.out]; rfl
          · rw [HS.out]; exact FB.nil _ _
        rw [if_neg h2] at hr
        match r, h2 with
        | [], h2 => exact absurd (by simp) h2
        | [_], h2 => exact absurd (by simp) h2
        | x :: y :: r, _ =>
        have hx1 : w.cell? ⟨b, o + 1, none⟩ = some (bv x) := by
          obtain ⟨b', o', e, h2⟩ := hqs.at (k := 1) (u := bv x) rfl
          cases e; exact h2
        have hx2 : w.cell? ⟨b, o + 2, none⟩ = some (bv y) := by
          obtain ⟨b', o', e, h2⟩ := hqs.at (k := 2) (u := bv y) rfl
          cases e; exact h2
        have hcx := hx.cell hx1
        have hcy := hx.cell hx2
        have hx256 : x.toNat < 256 := x.toNat_lt
        have hy256 : y.toNat < 256 := y.toNat_lt
        obtain ⟨D, hDe, hD1⟩ : ∃ D, farM (x :: y :: r) = D ∧ (256 : Int) * (x.toNat : Int) + (y.toNat : Int) = (D : Int) := ⟨farM (x :: y :: r), rfl, by show _ = ((256 * x.toNat + y.toNat : Nat) : Int); omega⟩
        obtain ⟨N, hNe, hN1⟩ : ∃ N, manyM c = N ∧ (c.toNat : Int) - 128 + 4 = (N : Int) := ⟨manyM c, rfl, by unfold manyM; omega⟩
        rw [hDe, hNe] at hr
        have hN131 : N ≤ 131 := by omega
        have hD65 : D < 65536 := by omega
        have hq3 : (x :: y :: r).length = r.length + 2 := rfl
        have hw1 : IntKind.i64.wrap ((256 : Int) * (x.toNat : Int)) = (256 : Int) * (x.toNat : Int) := by rw [IntKind.wrap_i64]; omega
        have hw2 : IntKind.i64.wrap (D : Int) = (D : Int) := by rw [IntKind.wrap_i64]; omega
        have hw3 : IntKind.i64.wrap ((c.toNat : Int) - 128) = (c.toNat : Int) - 128 := by rw [IntKind.wrap_i64]; omega
        have hw4 : IntKind.i64.wrap (N : Int) = (N : Int) := by rw [IntKind.wrap_i64]; omega
        have hw5 : IntKind.i64.wrap ((out.length : Int) + (N : Int)) = (out.length : Int) + (N : Int) := by rw [IntKind.wrap_i64]; omega
        have hdr := hb.drop (k := 3) (by simp)
        rw [show (c :: x :: y :: r).drop 3 = r from rfl] at hdr
        have hlen1 : (c :: x :: y :: r).length = r.length + 3 := rfl
        rw [hlen1] at hq1 hb hdr
        clear hu hcell hqs hx1 hx2 hc hrl hwl hroom hq3 hlen1
        go_wp2_with fail
        apply wp_region_dag (X := Ext) (by kernel_rfl) (by kernel_rfl) (fun _ _ _ => Ext.trans) (Ext.drew1 _)
        apply dag_val Ext.refl rfl (by intro W hW H; go_simp <;> rfl)
        simp only [Act.put, List.setIfInBounds_toArray, List.set_cons_zero, List.set_cons_succ]
        apply dag_val Ext.refl rfl (by intro W hW H; have hi : (1 : Int) < (r.length : Int) + 1 + 1 + 1 := (by omega); go_simp <;> rfl)
        simp only [Act.put, List.setIfInBounds_toArray, List.set_cons_zero, List.set_cons_succ]
        apply dag_val Ext.refl rfl (by intro W hW H; have hq := hW.cell hcx; go_simp <;> rfl)
        simp only [Act.put, List.setIfInBounds_toArray, List.set_cons_zero, List.set_cons_succ]
        apply dag_val Ext.refl rfl (by intro W hW H; go_simp <;> rfl)
        simp only [Act.put, List.setIfInBounds_toArray, List.set_cons_zero, List.set_cons_succ]
        apply dag_val Ext.refl rfl (by intro W hW H; go_simp <;> rfl)
        simp only [Act.put, List.setIfInBounds_toArray, List.set_cons_zero, List.set_cons_succ]
        apply dag_val Ext.refl rfl (by intro W hW H; go_simp <;> rfl)
        simp only [Act.put, List.setIfInBounds_toArray, List.set_cons_zero, List.set_cons_succ]
        apply dag_val Ext.refl rfl (by intro W hW H; have hi : (2 : Int) < (r.length : Int) + 1 + 1 + 1 := (by omega); go_simp <;> rfl)
        simp only [Act.put, List.setIfInBounds_toArray, List.set_cons_zero, List.set_cons_succ]
        apply dag_val Ext.refl rfl (by intro W hW H; have hq := hW.cell hcy; go_simp <;> rfl)
        simp only [Act.put, List.setIfInBounds_toArray, List.set_cons_zero, List.set_cons_succ]
        apply dag_val Ext.refl rfl (by intro W hW H; go_simp <;> rfl)
        simp only [Act.put, List.setIfInBounds_toArray, List.set_cons_zero, List.set_cons_succ]
        apply dag_val Ext.refl rfl (by intro W hW H; go_simp <;> rfl)
        simp only [Act.put, List.setIfInBounds_toArray, List.set_cons_zero, List.set_cons_succ]
        apply dag_val Ext.refl rfl (by intro W hW H; go_simp <;> rfl)
        simp only [Act.put, List.setIfInBounds_toArray, List.set_cons_zero, List.set_cons_succ]
        refine dag_end fun W1 hW H => ?_
        have hxw := hx.trans hW
        have ho1 := ho.keep hW
        clear H hcx hcy hw1 hD1
        by_cases hz : D = 0
        · rw [if_pos (.inl hz)] at hr
          rcases hr with ⟨e, _⟩ | ⟨_, hs⟩
          · cases e
          have HS := Lib.hid hs
          have hz1 : ((D : Int) == 0) = true := by simp [hz]
          clear hz hs hw2
          go_wp2_with fail
          go_ret2
          refine ⟨.slice none 0 0, ?_, ?_, hxw⟩
          · rw [HS.out]; rfl
          · rw [HS.out]; exact FB.nil _ _
        have hz1 : ((D : Int) == 0) = false := by rw [beq_eq_false_iff_ne]; omega
        by_cases hfar : out.length < D
        · rw [if_pos (.inr hfar)] at hr
          rcases hr with ⟨e, _⟩ | ⟨_, hs⟩
          · cases e
          have HS := Lib.hid hs
          clear hs
          go_wp2_with fail
          go_ret2
          refine ⟨.slice none 0 0, ?_, ?_, hxw⟩
          · rw [HS.out]; rfl
          · rw [HS.out]; exact FB.nil _ _
        rw [if_neg (by omega)] at hr
        by_cases hm : most < out.length + N
        · rw [if_pos hm] at hr
          rcases hr with ⟨e, _⟩ | ⟨_, hs⟩
          · cases e
          have HS := Lib.hid hs
          clear hs
          go_wp2_with ((with_reducible show wpList _ _ _ (Oper.mk _ (Op.call { callee := Callee.builtin Builtin.max, args := _, argTypes := _ }) _ _ _ _ :: _) _ _); refine wpList_run rfl (run_max rfl rfl rfl _) ?_; rw [hmax])
          go_ret2
          refine ⟨.slice none 0 0, ?_, ?_, hxw⟩
          · rw [HS.out]; rfl
          · rw [HS.out]; exact FB.nil _ _
        rw [if_neg hm] at hr
        rcases hr with ⟨_, hr⟩ | ⟨e, _⟩
        case inr => exact absurd rfl e
        rw [show (x :: y :: r).drop 2 = r from rfl] at hr
        have HU := Lib.hid hr
        have HK : Hid (gk = r.length + 3) := hk
        clear hr hk hb
        go_wp2_with ((with_reducible show wpList _ _ _ (Oper.mk _ (Op.call { callee := Callee.builtin Builtin.max, args := _, argTypes := _ }) _ _ _ _ :: _) _ _); refine wpList_run rfl (run_max rfl rfl rfl _) ?_; rw [hmax])
        go_loopg [6, 10] N (fun k s6 s10 wq => ∃ (i : Nat), s10 = .int .i64 i ∧ i ≤ N ∧ k = N - i ∧ FB wq w.heap.size s6 (copyN out D i) ∧ Ext w wq)
        case atStart => exact ⟨0, rfl, by omega, rfl, ho1, hxw⟩
        case round =>
          obtain ⟨i, rfl, hi, hki, hf, hxi⟩ := hrel
          have hLi := copyN_length out D i
          have hstep := copyN_step out D i
          by_cases hiN : i < N
          case neg =>
            obtain rfl : i = N := by omega
            clear hstep
            go_wp2_with ((with_reducible show wpList _ _ _ (Oper.mk _ (Op.slice _ _ _ _ _) _ _ _ _ :: _) _ _); refine st_slice T.bytes 3 (r.length + 3) cq ?_)
            go_roundg r.length
            case measure => have := HK.out; omega
            case rel => exact ⟨_, _, hdr, hf, hxi, HU.out, rfl⟩
          case pos =>
            obtain ⟨j, hj, hjL, hje⟩ : ∃ j : Nat, j = out.length + i - D ∧ j < out.length + i ∧ ((out.length + i : Nat) : Int) - (D : Int) = (j : Int) := ⟨out.length + i - D, rfl, by omega, by omega⟩
            rw [← hj] at hstep
            obtain ⟨L, hL⟩ : ∃ L, out.length + i = L := ⟨_, rfl⟩
            obtain ⟨g2, c2, e2, hl2, hm2, _, _⟩ := hf.head (by intro e; rw [e] at hLi; simp at hLi; omega)
            rw [hLi, hL] at e2 hl2
            subst e2
            have hcj := hf.cell (j := j) (by omega)
            have hxe : (copyN out D i).getD j 0 = (copyN out D i)[j]'(by omega) := by simp [List.getD_eq_getElem?_getD, show j < (copyN out D i).length by omega]
            rw [hxe] at hstep
            generalize (copyN out D i)[j]'(by omega) = z at *
            rw [hL] at hje hjL hLi
            have hLb : L ≤ 20000131 := by omega
            have hwj : IntKind.i64.wrap (j : Int) = (j : Int) := by rw [IntKind.wrap_i64]; omega
            generalize copyN out D i = ci at *
            have HT := Lib.hid hstep
            clear hL hxe hj hstep
            go_wp2_with (first
              | (at_builtin; go_loud (refine st_append T.bytes (hf.keep (Ext.alloc wr (.cells #[bv z] 5))) (FB.lit1 wr (Nat.le_refl _) z).view ?_ (by simp; omega) (hxi.trans (Ext.alloc wr (.cells #[bv z] 5))).size; intro v2 w2 hf2 hg2 hw2; have hx2 := (hxi.trans (Ext.alloc wr (.cells #[bv z] 5))).append (hf.keep (Ext.alloc wr (.cells #[bv z] 5))) hg2)))
            go_roundg (N - (i + 1))
            case measure => omega
            case rel => exact ⟨i + 1, by go_num, hiN, rfl, by rw [HT.out]; exact hf2, hx2⟩
end Go.Proofs.Ytjhobppgpglndaa
