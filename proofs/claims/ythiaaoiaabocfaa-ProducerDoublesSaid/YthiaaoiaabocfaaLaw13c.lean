/- The statement ProducerDoubles of layer 13: the walk of the law. -/
import Derived.Test.YthiaaoiaabocfaaLaw13d
import Derived.Test.YthiaaoiaabocfaaPrD
namespace Go.Proofs.Ythiaaoiaabocfaa
open Go.RowKit

def mkB (ep : Int) (s : Sn) : Bat := ⟨s.base, s.count, 3, ep, s.seq, []⟩
theorem T.batInfo : (Try.prog.info? 27).map (fun i => (i.zero, i.size, i.bytes)) = some (some (.agg #[.int .i64 0, .int .i64 0, .int .i64 0, .int .i64 0, .int .i64 0, .slice none 0 0]), 6, 64) := by kernel_rfl
theorem T.bats : RowT Try.prog 57 27 (.agg #[.int .i64 0, .int .i64 0, .int .i64 0, .int .i64 0, .int .i64 0, .slice none 0 0]) 6 64 := ⟨Try.underlying57, info_parts T.batInfo, rfl, by omega⟩
theorem bat_lit1 (e : TypeId) (S : Nat → Prop) (w : World) (a b c d f : Int) : SRow 6 RBat S (w.alloc (.cells #[.int .i64 a, .int .i64 b, .int .i64 c, .int .i64 d, .int .i64 f, .slice none 0 0] e)) (.slice (some ⟨w.heap.size, 0, none⟩) 1 1) [(⟨a, b, c, d, f, []⟩ : Bat)] := by
  refine SRow.lit1 (cs := batCells ⟨a, b, c, d, f, []⟩ (.slice none 0 0)) rfl (fun u hu => ?_) fun w' _ => ⟨_, rfl, SRow.nil _ _⟩
  unfold batCells at hu
  simp only [List.mem_cons, List.not_mem_nil, or_false] at hu
  rcases hu with rfl | rfl | rfl | rfl | rfl | rfl <;> rfl

/-- A table that is told by the blocks of S. -/
structure TabG (S : Nat → Prop) (W : World) (q : Option Addr) (n d : Nat) (t : List Ent) : Prop where
  row : SRow 3 REnt S W (.slice q n d) t
  own : ∀ k, (Value.slice q n d).ownBlock = some k → S k ∧ k < W.heap.size
  few : FewT 5 t
theorem TabG.ext {S : Nat → Prop} {W W' : World} {q : Option Addr} {n d : Nat} {t : List Ent} (h : TabG S W q n d t) (hx : Ext W W') : TabG S W' q n d t := ⟨h.row.ext hx, fun k e => ⟨(h.own k e).1, Nat.lt_of_lt_of_le (h.own k e).2 hx.size⟩, h.few⟩
theorem TabG.kept {S : Nat → Prop} {g : Option Nat} {W W' : World} {q : Option Addr} {n d : Nat} {t : List Ent} (h : TabG S W q n d t) (hg : W.grownBy W' g) (hS : ∀ k, S k → some k ≠ g) : TabG S W' q n d t :=
  ⟨h.row.kept hg hS (fun k hk => hS k (h.own k hk).1), fun k e => ⟨(h.own k e).1, Nat.lt_of_lt_of_le (h.own k e).2 hg.size⟩, h.few⟩
theorem TabG.mono {S T : Nat → Prop} {W : World} {q : Option Addr} {n d : Nat} {t : List Ent} (h : TabG S W q n d t) (hs : ∀ k, k < W.heap.size → S k → T k) : TabG T W q n d t :=
  ⟨h.row.mono hs, fun k e => ⟨hs k (h.own k e).2 (h.own k e).1, (h.own k e).2⟩, h.few⟩
theorem TabG.nil (S : Nat → Prop) (W : World) : TabG S W none 0 0 [] := ⟨SRow.nil _ _, fun k e => (by cases e), fun e he => (by cases he)⟩
theorem srow_lt {S : Nat → Prop} {W : World} {q : Option Addr} {n d : Nat} {t : List Ent} (h : SRow 3 REnt S W (.slice q n d) t) (ht : t ≠ []) : ∀ k, (Value.slice q n d).ownBlock = some k → k < W.heap.size := by
  obtain ⟨css, p, c, h1, h2, h3, h4, h5, h6⟩ := h
  have e1 : q = p := by injection h2
  subst e1
  have hl : css.flatten.length = css.length * 3 := chunks_length h1
  have hcl : css.length = t.length := h6.1
  have hpos : 0 < t.length := List.length_pos_iff.2 ht
  obtain ⟨u, hu⟩ : ∃ u, css.flatten[0]? = some u := ⟨_, List.getElem?_eq_getElem (by omega)⟩
  obtain ⟨b, o, e, hc⟩ := h5.at hu
  have hb := World.block_lt_of_cell? W _ hc
  subst e
  intro k hk
  unfold Value.ownBlock at hk
  split at hk <;> simp_all
theorem TabG.put {S : Nat → Prop} {W : World} {q : Option Addr} {n d : Nat} {t : List Ent} (h : TabG S W q n d t) (b : Bat) (bp : Option Addr) (bn bc : Nat) (hl : t.length ≤ 1000) (hS : ∀ k, W.heap.size ≤ k → S k) (hne : putT t b ≠ []) :
    Calls Try.prog 13 #[.agg #[.slice q n d], batv b (.slice bp bn bc)] W fun e w' => ∃ v, e = .returned v ∧ (∃ q' n' d', v = .agg #[.slice q' n' d'] ∧ TabG S w' q' n' d' (putT t b)) ∧ Ext W w' := by
  refine (put_any (.slice q n d) t b bp bn bc W h.row hl (h.few.mono (by omega))).mono ?_
  rintro e w' ⟨v1, rfl, hf1, hn1, hx1⟩
  obtain ⟨q', d', e5, _, _⟩ := hf1.slice
  subst e5
  exact ⟨_, rfl, ⟨_, _, _, rfl, hf1.mono fun k _ hk => hk.elim (fun h => h) (fun h => hS k h), fun k e => ⟨hS k (hn1 k e), srow_lt hf1 hne k e⟩, putT_few (Nat.le_refl _) h.few⟩, hx1⟩

set_option maxRecDepth 20000 in
set_option maxHeartbeats 8000000 in
theorem producerDoubles_walk (cv : Value) (cs : List UInt8) (ep f : Nat) (w : World) (h : BV w cv cs) (hep : ep < 256) (hf : f < 65536) :
    Calls Try.prog 4 #[cv, .int .u8 (ep : Int), .int .u16 (f : Int)] w fun e w' => e = .returned (.bool true) ∧ Ext w w' := by
  obtain ⟨p, c, rfl, hn, hc, hs⟩ := id h
  unfold maxLen at hc
  by_cases hl : 20 < cs.length
  case pos =>
    have hl2 : (20 : Int) < (cs.length : Int) := by omega
    clear hl
    go_enter Try.func4, Try.ntmps4
    go_wp2_with (go_at_call 9; refine (awake_any _).mono ?_; rintro e w3 ⟨rfl, hx3⟩)
    go_ret
    exact ⟨rfl, hx3⟩
  have hl2 : ¬ (20 : Int) < (cs.length : Int) := by omega
  by_cases h0 : cs.length = 0
  case pos =>
    have h02 : ((cs.length : Int) == 0) = true := beq_iff_eq.2 (by omega)
    rw [h0] at h02 hl2
    go_enter Try.func4, Try.ntmps4
    rw [h0]
    go_wp2_with (go_at_call 9; refine (awake_any _).mono ?_; rintro e w3 ⟨rfl, hx3⟩)
    go_ret
    exact ⟨rfl, hx3⟩
  have h02 : ((cs.length : Int) == 0) = false := beq_eq_false_iff_ne.2 (by omega)
  have hx0 := Ext.alloc w (.cells #[.slice none 0 0] 33)
  have o1 : ObjAt (w.alloc (.cells #[.slice none 0 0] 33)) w.heap.size 33 [.slice none 0 0] := heap_alloc_new w _
  have hsz : (w.alloc (.cells #[.slice none 0 0] 33)).heap.size = w.heap.size + 1 := by simp
  have HSZ := Lib.hid hsz
  have HL := Lib.hid hl
  have H0 := Lib.hid h0
  have hwe : IntKind.i64.wrap (1 + (ep : Int)) = 1 + (ep : Int) := by rw [IntKind.wrap_i64]; omega
  have hwe1 : IntKind.i64.wrap (ep : Int) = (ep : Int) := by rw [IntKind.wrap_i64]; omega
  have hwf : IntKind.i64.wrap (f : Int) = (f : Int) := by rw [IntKind.wrap_i64]; omega
  clear hsz hl h0
  go_enter Try.func4, Try.ntmps4
  go_wp2_with fail
  go_loopg [8, 9, 10, 11] (cs.length) (fun k s8 s9 s10 s11 wr => ∃ (j : Nat) (x : Value) (L : List Sn) (Q B : Nat) (q' : Option Addr) (n' d' : Nat), s8 = x ∧ s9 = .int .i64 (Q : Int) ∧ s10 = .int .i64 (B : Int) ∧ s11 = .int .i64 j ∧ j ≤ cs.length ∧ k = cs.length - j ∧ Hid (L.length = j) ∧ Hid (DL L (Q : Int)) ∧ Hid (B ≤ 65535 + 60 * j) ∧ Hid (ORow 27 6 RBat (fun _ => False) wr (w.heap.size + 1) x (L.map (mkB (1 + (ep : Int))))) ∧ ObjAt wr w.heap.size 33 [.slice q' n' d'] ∧ Hid (TabG (fun k => w.heap.size + 1 ≤ k ∧ some k ≠ x.ownBlock) wr q' n' d' (tabD (1 + (ep : Int)) L)) ∧ Hid (w.heap.size + 1 ≤ wr.heap.size) ∧ Ext w wr)
  case atStart => exact ⟨0, _, [], 0, f, none, 0, 0, rfl, rfl, rfl, rfl, Nat.zero_le _, rfl, Lib.hid rfl, Lib.hid DL.nil, Lib.hid (by omega), Lib.hid (ORow.nil _ _ _), o1, Lib.hid (TabG.nil _ _), Lib.hid (by rw [HSZ.out]; exact Nat.le_refl _), hx0⟩
  case round =>
    obtain ⟨j, x, L, Q, B, q', n', d', e8, rfl, rfl, rfl, hj, hk, HLL, HD, HBB, HO, oT, HT, HB, hx⟩ := hrel
    replace e8 := e8.symm
    subst e8
    obtain ⟨wo, hwo⟩ : ∃ wo, wo = wr := ⟨_, rfl⟩
    subst hwo
    clear o1 hx0
    have HQ : Hid (Q ≤ 640) := Lib.hid (by have h1 := HD.out.most; have h2 := HLL.out; have h3 := HL.out; omega)
    by_cases hlt : j < cs.length
    case pos =>
      have hi : (j : Int) < (cs.length : Int) := by omega
      obtain ⟨b, o, rfl, hcell⟩ := hs.at (bs_get cs hlt)
      generalize cs[j] = y at *
      have hcell2 := hx.cell hcell
      obtain ⟨cN, hcN⟩ : ∃ cN, y.toNat % 32 = cN := ⟨_, rfl⟩
      have htm : (y.toNat : Int).tmod 32 = (cN : Int) := by rw [Int.tmod_eq_emod_of_nonneg (by omega)]; omega
      have hem : (y.toNat : Int) % 32 = (cN : Int) := by omega
      have hc32 : cN < 32 := by omega
      have hwc : IntKind.i64.wrap (cN : Int) = (cN : Int) := by rw [IntKind.wrap_i64]; omega
      have hwd : IntKind.i64.wrap (1 + (cN : Int)) = 1 + (cN : Int) := by rw [IntKind.wrap_i64]; omega
      have hwu : IntKind.u8.wrap (cN : Int) = (cN : Int) := by rw [IntKind.wrap_u8]; omega
      have hwq : IntKind.i64.wrap ((Q : Int) + (1 + (cN : Int))) = (Q : Int) + (1 + (cN : Int)) := by have := HQ.out; rw [IntKind.wrap_i64]; omega
      have hwj : IntKind.i64.wrap (1 + (cN : Int) + (j : Int)) = 1 + (cN : Int) + (j : Int) := by have := HL.out; rw [IntKind.wrap_i64]; omega
      have hwb : IntKind.i64.wrap ((B : Int) + (1 + (cN : Int) + (j : Int))) = (B : Int) + (1 + (cN : Int) + (j : Int)) := by have := HL.out; have := HBB.out; rw [IntKind.wrap_i64]; omega
      clear hcN hcell
      have hxb := Ext.alloc wo (.cells #[.int .i64 (B : Int), .int .i64 (1 + (cN : Int)), .int .i64 3, .int .i64 (1 + (ep : Int)), .int .i64 (Q : Int), .slice none 0 0] 27)
      have ob : ObjAt (wo.alloc (.cells #[.int .i64 (B : Int), .int .i64 (1 + (cN : Int)), .int .i64 3, .int .i64 (1 + (ep : Int)), .int .i64 (Q : Int), .slice none 0 0] 27)) wo.heap.size 27 [.int .i64 (B : Int), .int .i64 (1 + (cN : Int)), .int .i64 3, .int .i64 (1 + (ep : Int)), .int .i64 (Q : Int), .slice none 0 0] := heap_alloc_new wo _
      have HXB := Lib.hid hxb
      have n0 := ob.cell (j := 0) rfl
      have n1 := ob.cell (j := 1) rfl
      have n2 := ob.cell (j := 2) rfl
      have n3 := ob.cell (j := 3) rfl
      have n4 := ob.cell (j := 4) rfl
      have n5 := ob.cell (j := 5) rfl
      have oTb := oT.ext hxb
      have ct := oTb.cell (j := 0) rfl
      have HNX : Hid (∀ k, some k = x.ownBlock → w.heap.size + 1 ≤ k ∧ k < wo.heap.size) := Lib.hid (fun k e => HO.out.own k e.symm)
      have A1 := ask_any _ (tabD (1 + (ep : Int)) L) ⟨(B : Int), 1 + (cN : Int), 3, 1 + (ep : Int), (Q : Int), []⟩ none 0 0 _ (TabV.any (HT.out.ext hxb).row) (by unfold tabD; split <;> simp) (HT.out.few.mono (by omega))
      rw [ask_next HD.out (by have := HLL.out; have := HL.out; omega)] at A1
      have PA := fun W (hW : Ext wo W) => (HT.out.ext hW).put ⟨(B : Int), 1 + (cN : Int), 3, 1 + (ep : Int), (Q : Int), []⟩ none 0 0 (by unfold tabD; split <;> simp) (fun k hk => ⟨Nat.le_trans HB.out (Nat.le_trans hW.size hk), fun e => by have h1 := (HNX.out k e).2; have h2 := hW.size; omega⟩) (by rw [put_next, tabD_cons (by simp)]; simp)
      clear hxb
      go_wp2_with (first
        | (go_at_call 11; refine A1.mono ?_; rintro e w1 ⟨rfl, hx1⟩
           have c1 := hx1.cell ct
           have n0' := hx1.cell n0
           have n1' := hx1.cell n1
           have n2' := hx1.cell n2
           have n3' := hx1.cell n3
           have n4' := hx1.cell n4
           have n5' := hx1.cell n5)
        | (go_at_call 13; refine (PA _ (HXB.out.trans hx1)).mono ?_; rintro e w2 ⟨v2, rfl, ⟨q2, m2, d2, rfl, hT2⟩, hx2⟩
           have oT2 := oTb.ext (hx1.trans hx2)
           have ob2 := ob.ext (hx1.trans hx2)
           have HT2 := Lib.hid hT2
           have HX2 := Lib.hid ((HXB.out.trans hx1).trans hx2)
           clear hT2 ct c1)
        | ((with_reducible show wpList _ _ _ (Oper.mk _ (Op.store _ _ _) _ _ _ _ :: _) _ _); refine st_store (vs := [.slice q2 m2 d2]) oT2 Go.Proofs.Ythiaaoiaabocfaa.T.tableSize1 (Nat.le_refl _) (slice_one _ _ _) ?_; intro w3 hh3 hg3
           have oT3 : ObjAt w3 w.heap.size 33 [.slice q2 m2 d2] := hh3
           have ob3 := ob2.kept hg3 (fun e => by have e2 := Option.some.inj e; have := HB.out; omega)
           have HT3 := Lib.hid (HT2.out.kept hg3 (fun k hk e => by have e2 := Option.some.inj e; have := hk.1; omega))
           have HO3 := Lib.hid ((HO.out.keep HX2.out).kept hg3 (fun k hk => hk.elim) (.inr (fun e => by have h1 : w.heap.size + 1 ≤ w.heap.size := (HO.out.own _ e).1; omega)))
           have HX3 : Hid (Ext w w3) := Lib.hid ((hx.trans HX2.out).grown hg3 (Nat.le_refl _))
           have HZ3 := Lib.hid (Nat.le_trans HB.out (Nat.le_trans HX2.out.size hg3.size))
           have y0 := ob3.cell (j := 0) rfl
           have y1 := ob3.cell (j := 1) rfl
           have y2 := ob3.cell (j := 2) rfl
           have y3 := ob3.cell (j := 3) rfl
           have y4 := ob3.cell (j := 4) rfl
           have y5 := ob3.cell (j := 5) rfl
           have hx4 := Ext.alloc w3 (.cells #[.int .i64 (B : Int), .int .i64 (1 + (cN : Int)), .int .i64 3, .int .i64 (1 + (ep : Int)), .int .i64 (Q : Int), .slice none 0 0] 27)
           have hl4 : SRow 6 RBat (fun k => False ∧ some k ≠ x.ownBlock) (w3.alloc (.cells #[.int .i64 (B : Int), .int .i64 (1 + (cN : Int)), .int .i64 3, .int .i64 (1 + (ep : Int)), .int .i64 (Q : Int), .slice none 0 0] 27)) (.slice (some ⟨w3.heap.size, 0, none⟩) 1 1) [(⟨(B : Int), 1 + (cN : Int), 3, 1 + (ep : Int), (Q : Int), []⟩ : Bat)] := bat_lit1 _ _ _ _ _ _ _ _
           have HO4 := Lib.hid (HO3.out.keep hx4)
           have ob4 := ob3.ext hx4
           have oT4 := oT3.ext hx4
           have HT4 := Lib.hid (HT3.out.ext hx4)
           have HX4 := Lib.hid (HX3.out.trans hx4)
           have HZ4 := Lib.hid (Nat.le_trans HZ3.out hx4.size)
           clear hh3 hg3 oT2 ob2 hx4)
        | (at_builtin; refine st_items Go.Proofs.Ythiaaoiaabocfaa.T.bats HO4.out hl4 ?_ (by have h1 := HLL.out; have h2 := HL.out; simp [maxLen]; omega) (by have h1 := HLL.out; have h2 := HL.out; simp; omega) HZ4.out; intro v6 w6 ho6 hg6 hw6
           have HO6 := Lib.hid ho6
           have oT6 := oT4.kept hg6 (fun e => by have := (HNX.out _ e).1; omega)
           have ob6 := ob4.kept hg6 (fun e => by have := (HNX.out _ e).2; omega)
           have y61 := ob6.cell (j := 1) rfl
           have HT6 : Hid (TabG (fun k => w.heap.size + 1 ≤ k ∧ some k ≠ v6.ownBlock) w6 q2 m2 d2 _) := Lib.hid (((HT4.out.mono (T := fun k => (w.heap.size + 1 ≤ k ∧ some k ≠ x.ownBlock) ∧ k < (w3.alloc (.cells #[.int .i64 (B : Int), .int .i64 (1 + (cN : Int)), .int .i64 3, .int .i64 (1 + (ep : Int)), .int .i64 (Q : Int), .slice none 0 0] 27)).heap.size) fun k hk hs => ⟨hs, hk⟩).kept hg6 (fun k hk => hk.1.2)).mono fun k _ hk => ⟨hk.1.1, fun e => hw6.elim (fun h => hk.1.2 (e.trans h)) (fun h => by rw [h] at e; have := Option.some.inj e; have := hk.2; omega)⟩)
           have HX6 : Hid (Ext w w6) := Lib.hid (Below.grown HX4.out hg6 HX4.out.size (fun k e => by have := (HNX.out k e.symm).1; omega))
           have HZ6 := Lib.hid (Nat.le_trans HZ4.out hg6.size)
           clear ho6 hg6 hw6 hl4))
      go_roundg (cs.length - (j + 1))
      case measure => omega
      case rel => exact ⟨j + 1, v6, L ++ [⟨(Q : Int), 1 + (cN : Int), (B : Int)⟩], Q + (1 + cN), B + (1 + cN + j), q2, m2, d2, rfl, by push_cast; rfl, by push_cast; rfl, by go_num, hlt, rfl, Lib.hid (by have := HLL.out; simp; omega), Lib.hid (by push_cast; exact DL.snoc HD.out (by omega) (by omega)), Lib.hid (by have := HBB.out; have := HL.out; omega), Lib.hid (by have := HO6.out; rw [List.map_append]; exact this), oT6, Lib.hid (by have := HT6.out; rw [put_next] at this; exact this), HZ6, HX6.out⟩
    case neg =>
      have hje : j = cs.length := by omega
      subst hje
      have hi : ¬ (cs.length : Int) < (cs.length : Int) := by omega
      have hV := HO.out.view
      obtain ⟨px, cx, ex, hnx, hmx⟩ := hV.slice
      rw [List.length_map, HLL.out] at ex
      subst ex
      have HV := Lib.hid hV
      have HNE : Hid (L ≠ []) := Lib.hid (by intro e; have h1 := HLL.out; have h2 := H0.out; rw [e] at h1; exact h2 h1.symm)
      have ca := oT.cell (j := 0) rfl
      clear hV hnx hmx
      go_wp2_with fail
      go_loopg [16] (cs.length) (fun k s16 wr => ∃ i : Nat, s16 = .int .i64 i ∧ i ≤ cs.length ∧ k = cs.length - i ∧ Ext wo wr)
      case atStart => exact ⟨0, rfl, Nat.zero_le _, rfl, Ext.refl _⟩
      case round =>
        obtain ⟨i, rfl, hi1, hk1, hy⟩ := hrel
        have HY := Lib.hid hy
        have ca1 := hy.cell ca
        by_cases hlt2 : i < cs.length
        case pos =>
          have hi2 : (i : Int) < (cs.length : Int) := by omega
          have hiL : i < L.length := by have := HLL.out; omega
          have hxt : cs.length - i ≤ 20 := by have := HL.out; omega
          obtain ⟨b, o, qb, db, rfl, ⟨m0, m1, m2, m3, m4, m5⟩, _⟩ := bat_at HV.out (j := i) (by rw [List.length_map]; exact hiL)
          rw [List.getElem_map] at m0 m1 m2 m3 m4 m5
          simp only [mkB] at m0 m1 m2 m3 m4 m5
          have AL := fun h5 => ask_late (ep := 1 + (ep : Int)) HD.out hiL h5 0 []
          have AE := fun h5 => ask_early (ep := 1 + (ep : Int)) HD.out (by have h1 := HLL.out; have h2 := HL.out; omega) hiL h5 0 []
          generalize L[i] = x at *
          obtain ⟨x0, x1, x2⟩ := x
          simp only at m0 m1 m4 AL AE
          have n0 := hy.cell m0
          have n1 := hy.cell m1
          have n4 := hy.cell m4
          have PA := fun W (hW : Ext wr W) => ask_any _ (tabD (1 + (ep : Int)) L) ⟨0, x1, 3, 1 + (ep : Int), x0, []⟩ none 0 0 W (TabV.any (HT.out.ext (HY.out.trans hW)).row) (by unfold tabD; split <;> simp) (HT.out.few.mono (by omega))
          generalize askT behS (tabD (1 + (ep : Int)) L) ⟨0, x1, 3, 1 + (ep : Int), x0, []⟩ = ak at *
          obtain ⟨k0, k1, k2⟩ := ak
          clear h
          go_wp2_with fail
          apply wp_region_dag_tail 23 (X := Ext) (by kernel_rfl) (by kernel_rfl) (by kernel_rfl) (by decide) (fun _ _ _ => Ext.trans) (Ext.drew1 _)
          simp only [List.take_succ_cons, List.take_zero, List.drop_succ_cons, List.drop_zero]
          apply dag_val Ext.refl rfl (by intro W hW H; have q0 := hW.cell ca1; go_simp <;> rfl)
          simp only [Act.put, List.setIfInBounds_toArray, List.set_cons_zero, List.set_cons_succ]
          apply dag_val Ext.refl rfl (by intro W hW H; go_simp <;> rfl)
          simp only [Act.put, List.setIfInBounds_toArray, List.set_cons_zero, List.set_cons_succ]
          apply dag_val Ext.refl rfl (by intro W hW H; go_simp <;> rfl)
          simp only [Act.put, List.setIfInBounds_toArray, List.set_cons_zero, List.set_cons_succ]
          apply dag_val Ext.refl rfl (by intro W hW H; go_simp <;> rfl)
          simp only [Act.put, List.setIfInBounds_toArray, List.set_cons_zero, List.set_cons_succ]
          apply dag_val Ext.refl rfl (by intro W hW H; go_simp <;> rfl)
          simp only [Act.put, List.setIfInBounds_toArray, List.set_cons_zero, List.set_cons_succ]
          apply dag_val Ext.refl rfl (by intro W hW H; go_simp <;> rfl)
          simp only [Act.put, List.setIfInBounds_toArray, List.set_cons_zero, List.set_cons_succ]
          apply dag_val Ext.refl rfl (by intro W hW H; go_simp <;> rfl)
          simp only [Act.put, List.setIfInBounds_toArray, List.set_cons_zero, List.set_cons_succ]
          apply dag_val Ext.refl rfl (by intro W hW H; go_simp <;> rfl)
          simp only [Act.put, List.setIfInBounds_toArray, List.set_cons_zero, List.set_cons_succ]
          apply dag_val Ext.refl rfl (by intro W hW H; have q0 := hW.cell n4; go_simp <;> rfl)
          simp only [Act.put, List.setIfInBounds_toArray, List.set_cons_zero, List.set_cons_succ]
          apply dag_val Ext.refl rfl (by intro W hW H; go_simp <;> rfl)
          simp only [Act.put, List.setIfInBounds_toArray, List.set_cons_zero, List.set_cons_succ]
          apply dag_val Ext.refl rfl (by intro W hW H; go_simp <;> rfl)
          simp only [Act.put, List.setIfInBounds_toArray, List.set_cons_zero, List.set_cons_succ]
          apply dag_val Ext.refl rfl (by intro W hW H; go_simp <;> rfl)
          simp only [Act.put, List.setIfInBounds_toArray, List.set_cons_zero, List.set_cons_succ]
          apply dag_val Ext.refl rfl (by intro W hW H; go_simp <;> rfl)
          simp only [Act.put, List.setIfInBounds_toArray, List.set_cons_zero, List.set_cons_succ]
          apply dag_val Ext.refl rfl (by intro W hW H; have q0 := hW.cell n1; go_simp <;> rfl)
          simp only [Act.put, List.setIfInBounds_toArray, List.set_cons_zero, List.set_cons_succ]
          apply dag_val Ext.refl rfl (by intro W hW H; go_simp <;> rfl)
          simp only [Act.put, List.setIfInBounds_toArray, List.set_cons_zero, List.set_cons_succ]
          refine' dag_call (c := askv (k0, k1, k2)) (f := 11) (args := #[.agg #[.slice q' n' d'], batv ⟨0, x1, 3, 1 + (ep : Int), x0, []⟩ (.slice none 0 0)]) rfl (by intro W; go_simp <;> rfl) (fun W hW H => PA W hW) _
          rotate_left
          simp only [Act.put, List.setIfInBounds_toArray, List.set_cons_zero, List.set_cons_succ]
          apply dag_val Ext.refl rfl (by intro W hW H; go_simp <;> rfl)
          simp only [Act.put, List.setIfInBounds_toArray, List.set_cons_zero, List.set_cons_succ]
          apply dag_val Ext.refl rfl (by intro W hW H; go_simp <;> rfl)
          simp only [Act.put, List.setIfInBounds_toArray, List.set_cons_zero, List.set_cons_succ]
          apply dag_val Ext.refl rfl (by intro W hW H; go_simp <;> rfl)
          simp only [Act.put, List.setIfInBounds_toArray, List.set_cons_zero, List.set_cons_succ]
          apply dag_val Ext.refl rfl (by intro W hW H; go_simp <;> rfl)
          simp only [Act.put, List.setIfInBounds_toArray, List.set_cons_zero, List.set_cons_succ]
          apply dag_val Ext.refl rfl (by intro W hW H; go_simp <;> rfl)
          simp only [Act.put, List.setIfInBounds_toArray, List.set_cons_zero, List.set_cons_succ]
          apply dag_val Ext.refl rfl (by intro W hW H; go_simp <;> rfl)
          simp only [Act.put, List.setIfInBounds_toArray, List.set_cons_zero, List.set_cons_succ]
          apply dag_val Ext.refl rfl (by intro W hW H; go_simp <;> rfl)
          simp only [Act.put, List.setIfInBounds_toArray, List.set_cons_zero, List.set_cons_succ]
          refine dag_end fun W1 hW1 H => ?_
          clear H PA ca1
          have c0 := hW1.cell n0
          have HLL' := HLL.out
          rw [HLL'] at AL AE
          clear HLL'
          obtain ⟨m, hm⟩ : ∃ m : Nat, cs.length - i = m := ⟨_, rfl⟩
          rw [hm] at AL AE
          have hwm : IntKind.i64.wrap ((cs.length : Int) - (i : Int)) = (m : Int) := by rw [IntKind.wrap_i64]; omega
          have HM := Lib.hid hm
          clear hm
          have HXW := Lib.hid (HY.out.trans hW1)
          by_cases h5 : m ≤ 5
          case pos =>
            have h5i : (m : Int) ≤ 5 := by omega
            have ek := AL h5
            simp only [Prod.mk.injEq] at ek
            obtain ⟨e1, e2, e3⟩ := ek
            subst e1 e2 e3
            clear AL AE
            go_wp2_with fail
            go_roundg (cs.length - (i + 1))
            case measure => omega
            case rel => exact ⟨i + 1, by go_num, hlt2, rfl, HXW.out⟩
          case neg =>
            have h5i : ¬ (m : Int) ≤ 5 := by omega
            have ek := AE h5
            simp only [Prod.mk.injEq] at ek
            obtain ⟨e1, e2, e3⟩ := ek
            subst e1 e2 e3
            clear AL AE
            go_wp2_with fail
            go_roundg (cs.length - (i + 1))
            case measure => omega
            case rel => exact ⟨i + 1, by go_num, hlt2, rfl, HXW.out⟩
        case neg =>
          have hie : i = cs.length := by omega
          subst hie
          have hi2 : ¬ (cs.length : Int) < (cs.length : Int) := by omega
          have hwz : IntKind.i64.wrap ((Q : Int) + 1) = (Q : Int) + 1 := by have := HQ.out; rw [IntKind.wrap_i64]; omega
          have hw2 : IntKind.i64.wrap (2 + (ep : Int)) = 2 + (ep : Int) := by rw [IntKind.wrap_i64]; omega
          have HTA := fun (b : Bat) W (hW : Ext wr W) => ask_any _ (tabD (1 + (ep : Int)) L) b none 0 0 W (TabV.any (HT.out.ext (HY.out.trans hW)).row) (by unfold tabD; split <;> simp) (HT.out.few.mono (by omega))
          have A1 := HTA ⟨0, 1, 3, (ep : Int), (Q : Int), []⟩
          rw [ask_fenced HNE.out (by omega)] at A1
          have A2 := HTA ⟨0, 40, 3, 1 + (ep : Int), (Q : Int) + 1, []⟩
          rw [ask_far HD.out (by have h1 := HLL.out; have h2 := HL.out; omega) HNE.out] at A2
          have A3 := HTA ⟨0, 1, 3, 2 + (ep : Int), 0, []⟩
          rw [ask_above HNE.out (by omega)] at A3
          have F1 := fun W (hW : Ext wr W) => find_any _ (tabD (1 + (ep : Int)) L) 3 W (TabV.any (HT.out.ext (HY.out.trans hW)).row) (by unfold tabD; split <;> simp)
          rw [findD HNE.out] at F1
          obtain ⟨m, hm⟩ : ∃ m : Nat, (L.drop (L.length - 5)).length = m := ⟨_, rfl⟩
          have hmm : min (5 : Int) (cs.length : Int) = (m : Int) := by have h1 := HLL.out; rw [List.length_drop] at hm; omega
          have HMM := Lib.hid hm
          clear HTA h hm
          go_wp2_with (first
            | (go_at_call 14; refine (F1 _ ((hy1.trans hy2).trans hy3)).mono ?_; rintro e w9 ⟨v9, rfl, hs9, hx9⟩
               obtain ⟨p9, c9, e9, _, hm9⟩ := hs9.slice
               rw [HMM.out] at e9
               subst e9
               unfold maxLen at hm9
               have hxb := Ext.alloc w9 (.cells #[.int .i64 3, .int .i64 (1 + (ep : Int)), .slice p9 m c9] 43)
               have o9 : ObjAt (w9.alloc (.cells #[.int .i64 3, .int .i64 (1 + (ep : Int)), .slice p9 m c9] 43)) w9.heap.size 43 [.int .i64 3, .int .i64 (1 + (ep : Int)), .slice p9 m c9] := heap_alloc_new w9 _
               have HX9 := Lib.hid (((hy1.trans hy2).trans hy3).trans (hx9.trans hxb))
               have y9 := o9.cell (j := 2) rfl
               clear hs9 hxb)
            | (go_at_call 9; refine (awake_any _).mono ?_; rintro e wz ⟨rfl, hxz⟩)
            | (go_at_call 11; refine (A3 _ (hy1.trans hy2)).mono ?_; rintro e w3 ⟨rfl, hy3⟩
               have ca4 := hy3.cell ca3)
            | (go_at_call 11; refine (A2 _ hy1).mono ?_; rintro e w2 ⟨rfl, hy2⟩
               have ca3 := hy2.cell ca2)
            | (go_at_call 11; refine (A1 _ (Ext.refl _)).mono ?_; rintro e w1 ⟨rfl, hy1⟩
               have ca2 := hy1.cell ca1))
          all_goals (go_ret; exact ⟨rfl, hx.trans (HY.out.trans (HX9.out.trans hxz))⟩)
end Go.Proofs.Ythiaaoiaabocfaa
