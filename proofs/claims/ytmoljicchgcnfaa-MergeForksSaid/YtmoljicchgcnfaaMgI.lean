/- What Items of layer 34 computes, the program's and the document's. -/
import Derived.Test.YtmoljicchgcnfaaMgL
import Derived.Test.YtmoljicchgcnfaaDagF
namespace Go.Proofs.Ytmoljicchgcnfaa
open Go.RowKit

def itmCells (x : Itm) : List Value := [.int .i64 x.list, .int .i64 x.off, .int .i64 x.time, .int .i64 x.rcd.delta, .int .i64 x.rcd.time, .bool x.rcd.keyed, .string ⟨x.rcd.key.toArray⟩, .bool x.rcd.dead, .string ⟨x.rcd.value.toArray⟩]
/-- Nine cells, that hold an item. -/
def RItm (_ : World) (cs : List Value) (x : Itm) : Prop := cs = itmCells x
theorem T.itemInfo : (Try.prog.info? 36).map (fun i => (i.zero, i.size, i.bytes)) = some (some (.agg #[.int .i64 0, .int .i64 0, .int .i64 0, .int .i64 0, .int .i64 0, .bool false, .string ⟨#[]⟩, .bool false, .string ⟨#[]⟩]), 9, 88) := by kernel_rfl
theorem T.items : RowT Try.prog 31 36 (.agg #[.int .i64 0, .int .i64 0, .int .i64 0, .int .i64 0, .int .i64 0, .bool false, .string ⟨#[]⟩, .bool false, .string ⟨#[]⟩]) 9 88 := ⟨Try.underlying31, info_parts T.itemInfo, rfl, by omega⟩
theorem T.ritemInfo : (Try.prog.info? 26).map (fun i => (i.zero, i.size, i.bytes)) = some (some (.agg #[.int .i64 0, .int .i64 0, .int .i64 0, .int .i64 0, .int .i64 0, .bool false, .string ⟨#[]⟩, .bool false, .string ⟨#[]⟩]), 9, 88) := by kernel_rfl
theorem T.ritems : RowT Try.prog 33 26 (.agg #[.int .i64 0, .int .i64 0, .int .i64 0, .int .i64 0, .int .i64 0, .bool false, .string ⟨#[]⟩, .bool false, .string ⟨#[]⟩]) 9 88 := ⟨Try.underlying33, info_parts T.ritemInfo, rfl, by omega⟩
abbrev ItmV (w : World) (v : Value) (xs : List Itm) : Prop := SRow 9 RItm (fun _ => True) w v xs
abbrev ItmO (w : World) (B : Nat) (v : Value) (xs : List Itm) : Prop := ORow 36 9 RItm (fun _ => False) w B v xs
abbrev RItmO (w : World) (B : Nat) (v : Value) (xs : List Itm) : Prop := ORow 26 9 RItm (fun _ => False) w B v xs
theorem itm_view {e : TypeId} {w : World} {B : Nat} {v : Value} {xs : List Itm} (h : ORow e 9 RItm (fun _ => False) w B v xs) : ItmV w v xs := (ORow.view h).mono fun _ _ _ => trivial
theorem itm_lit1 (e : TypeId) (S : Nat → Prop) (w : World) (x : Itm) : SRow 9 RItm S (w.alloc (.cells (itmCells x).toArray e)) (.slice (some ⟨w.heap.size, 0, none⟩) 1 1) [x] := by
  refine SRow.lit1 (cs := itmCells x) rfl (fun u hu => ?_) fun w' _ => rfl
  unfold itmCells at hu
  simp only [List.mem_cons, List.not_mem_nil, or_false] at hu
  rcases hu with rfl | rfl | rfl | rfl | rfl | rfl | rfl | rfl | rfl <;> rfl
theorem items_split (n : Int) (l : List Bat) (j : Nat) : itemsOf n l = itemsOf n (l.take j) ++ itemsOf n (l.drop j) := by
  unfold itemsOf
  rw [← List.flatten_append, ← List.map_append, List.take_append_drop]
theorem items_len {n : Int} {l : List Bat} {j : Nat} (hj : j < l.length) : (itemsOf n (l.take j)).length + l[j].recs.length ≤ (itemsOf n l).length := by
  rw [items_split n l (j + 1), itemsOf_snoc n l j hj, List.length_append, List.length_append]
  unfold itemsB
  rw [List.length_map]
  omega

set_option maxHeartbeats 4000000 in
theorem items_any (n : Int) (v : Value) (l : List Bat) (w : World) (h : BatV w v l) (hl : (itemsOf n l).length ≤ 100000) :
    Calls Try.prog 8 #[.int .i64 n, v] w fun e w' => ∃ v', e = .returned v' ∧ ItmO w' w.heap.size v' (itemsOf n l) ∧ Ext w w' := by
  obtain ⟨p, c, rfl, _, hcm⟩ := h.slice
  unfold maxLen at hcm
  go_enter Try.func8, Try.ntmps8
  go_wp2_with fail
  go_loopg [5, 12] (l.length) (fun k s5 s12 wr => ∃ (j : Nat) (x : Value), s5 = x ∧ s12 = .int .i64 j ∧ j ≤ l.length ∧ k = l.length - j ∧ ItmO wr w.heap.size x (itemsOf n (l.take j)) ∧ Ext w wr)
  case atStart => exact ⟨0, _, rfl, rfl, Nat.zero_le _, rfl, ORow.nil _ _ _, Ext.refl _⟩
  case round =>
    obtain ⟨j, x, rfl, rfl, hj, hk, ho, hx⟩ := hrel
    obtain ⟨wo, hwo⟩ : ∃ wo, wo = wr := ⟨_, rfl⟩
    subst hwo
    by_cases hlt : j < l.length
    case pos =>
      have hi : (j : Int) < (l.length : Int) := by omega
      obtain ⟨b, o, q, d, rfl, ⟨m0, m1, m2, m3, m4, m5⟩, hrv⟩ := bat_at h hlt
      have hlen := items_len (n := n) hlt
      have hsn := itemsOf_snoc n l j hlt
      generalize l[j] = bt at *
      obtain ⟨b0, b1, b2, b3, b4, rs⟩ := bt
      simp only at *
      replace m0 := hx.cell m0
      replace m1 := hx.cell m1
      replace m2 := hx.cell m2
      replace m3 := hx.cell m3
      replace m4 := hx.cell m4
      replace m5 := hx.cell m5
      have hxb := Ext.alloc wo (.cells #[.int .i64 b0, .int .i64 b1, .int .i64 b2, .int .i64 b3, .int .i64 b4, .slice q rs.length d] 51)
      have obb : ObjAt (wo.alloc (.cells #[.int .i64 b0, .int .i64 b1, .int .i64 b2, .int .i64 b3, .int .i64 b4, .slice q rs.length d] 51)) wo.heap.size 51 [.int .i64 b0, .int .i64 b1, .int .i64 b2, .int .i64 b3, .int .i64 b4, .slice q rs.length d] := heap_alloc_new wo _
      have hob := ho.keep hxb
      have hxw := hx.trans hxb
      have hown : Hid (∀ k, u5.ownBlock = some k → k ≠ wo.heap.size) := Lib.hid (fun k e => by have := (ho.own k e).2; omega)
      have hrd : rs.length ≤ d := hrv.len.2.1
      have hdm : d ≤ 2 ^ 63 - 1 := by have := hrv.len.2.2; unfold maxLen at this; exact this
      unfold itemsB at hsn
      simp only at hsn
      generalize itemsOf n (l.take j) = pre at *
      have HSN := Lib.hid hsn
      have HLEN := Lib.hid hlen
      clear hsn hlen
      go_wp2_with fail
      go_loopg [5, 19] (rs.length) (fun k s5 s19 wi => ∃ (i : Nat) (x : Value), s5 = x ∧ s19 = .int .i64 i ∧ i ≤ rs.length ∧ k = rs.length - i ∧ ItmO wi w.heap.size x (pre ++ (rs.take i).map (itemR n b0)) ∧ ObjAt wi wo.heap.size 51 [.int .i64 b0, .int .i64 b1, .int .i64 b2, .int .i64 b3, .int .i64 b4, .slice q rs.length d] ∧ Hid (∀ k, x.ownBlock = some k → k ≠ wo.heap.size) ∧ Ext w wi)
      case atStart => exact ⟨0, _, rfl, rfl, Nat.zero_le _, rfl, by simpa using hob, obb, hown, hxw⟩
      case round =>
        obtain ⟨i, y, rfl, rfl, hi2, hk2, hoi, obi, hown2, hxi⟩ := hrel
        have cbi := obi.cell (j := 0) rfl
        by_cases hlt2 : i < rs.length
        case pos =>
          have hii : (i : Int) < (rs.length : Int) := by omega
          obtain ⟨b7, o7, rfl, ⟨r0, r1, r2, r3, r4, r5⟩, _, _⟩ := rec_at (hrv.ext hxi) hlt2
          have HSI := Lib.hid (itemsB_snoc n b0 rs i hlt2)
          have hlen1 : (pre ++ (rs.take i).map (itemR n b0)).length + 1 ≤ 100000 := by
            have := HLEN.out
            rw [List.length_append, List.length_map, List.length_take, Nat.min_eq_left hi2]
            omega
          generalize hpi : pre ++ (rs.take i).map (itemR n b0) = pi at *
          generalize rs[i] = r at *
          obtain ⟨rd, rt, rk, ry, rz, rv⟩ := r
          simp only at *
          have hxr := (Ext.alloc wr (.cells #[.int .i64 rd, .int .i64 rt, .bool rk, .string ⟨ry.toArray⟩, .bool rz, .string ⟨rv.toArray⟩] 24)).trans (Ext.alloc _ (.cells #[.int .i64 n, .int .i64 (wrap64 (b0 + rd)), .int .i64 rt, .int .i64 rd, .int .i64 rt, .bool rk, .string ⟨ry.toArray⟩, .bool rz, .string ⟨rv.toArray⟩] 36))
          have cbr := (Ext.alloc wr (.cells #[.int .i64 rd, .int .i64 rt, .bool rk, .string ⟨ry.toArray⟩, .bool rz, .string ⟨rv.toArray⟩] 24)).cell cbi
          have ho1 := hoi.keep hxr
          have obr := obi.ext hxr
          have hl1 : SRow 9 RItm (fun k => False ∧ some k ≠ u5.ownBlock) ((wr.alloc (.cells #[.int .i64 rd, .int .i64 rt, .bool rk, .string ⟨ry.toArray⟩, .bool rz, .string ⟨rv.toArray⟩] 24)).alloc (.cells #[.int .i64 n, .int .i64 (wrap64 (b0 + rd)), .int .i64 rt, .int .i64 rd, .int .i64 rt, .bool rk, .string ⟨ry.toArray⟩, .bool rz, .string ⟨rv.toArray⟩] 36)) (.slice (some ⟨(wr.alloc (.cells #[.int .i64 rd, .int .i64 rt, .bool rk, .string ⟨ry.toArray⟩, .bool rz, .string ⟨rv.toArray⟩] 24)).heap.size, 0, none⟩) 1 1) [itemR n b0 ⟨rd, rt, rk, ry, rz, rv⟩] := itm_lit1 _ _ _ (itemR n b0 ⟨rd, rt, rk, ry, rz, rv⟩)
          have hsz : (wr.alloc (.cells #[.int .i64 rd, .int .i64 rt, .bool rk, .string ⟨ry.toArray⟩, .bool rz, .string ⟨rv.toArray⟩] 24)).heap.size = wr.heap.size + 1 := by simp
          rw [hsz] at hl1
          have HL1 := Lib.hid hlen1
          have hwsz := (hxi.trans hxr).size
          have HWS := Lib.hid hwsz
          have hszr := hxr.size
          have HSZ := Lib.hid hszr
          clear hsz hlen1 hwsz hszr
          go_wp2_with (at_builtin; refine st_items T.items ho1 hl1 ?_ (by have := HL1.out; simp [maxLen]; omega) (by have := HL1.out; simp; omega) HWS.out; intro v2 w2 ho2 hg2 hw2; have hx2 := ho1.grown (hxi.trans hxr) hg2)
          go_roundg (rs.length - (i + 1))
          case measure => omega
          case rel =>
            refine ⟨i + 1, _, rfl, by go_num, hlt2, rfl, ?_, obr.kept hg2 (fun e => hown2.out _ e.symm rfl), Lib.hid (fun k e => ?_), hx2⟩
            · rw [HSI.out, ← List.append_assoc, hpi]
              exact ho2
            · rcases hw2 with e2 | e2
              · rw [e2] at e; exact hown2.out k e
              · rw [e2] at e
                cases e
                have := obr.lt
                have := HSZ.out
                have := obi.lt
                omega
        case neg =>
          have hie : i = rs.length := by omega
          subst hie
          have hii : ¬ (rs.length : Int) < (rs.length : Int) := by omega
          rw [List.take_length, ← HSN.out] at hoi
          clear hlt2
          go_wp2_with fail
          go_roundg (l.length - (j + 1))
          case measure => omega
          case rel => exact ⟨j + 1, _, rfl, by go_num, hlt, rfl, hoi, hxi⟩
    case neg =>
      have hje : j = l.length := by omega
      subst hje
      have hi : ¬ (l.length : Int) < (l.length : Int) := by omega
      rw [List.take_length] at ho
      clear hlt
      go_wp2_with fail
      go_ret
      exact ⟨_, rfl, ho, hx⟩
end Go.Proofs.Ytmoljicchgcnfaa
