/- What the merger of layer 34 tells besides: what is left, the newest time; and All. -/
import Derived.Test.YtmoljicchgcnfaaMgX
namespace Go.Proofs.Ytmoljicchgcnfaa
open Go.RowKit

set_option maxHeartbeats 400000 in
theorem newest_any (B : Nat) (m : Nat) (v : Value) (gs : List Nat) (hs : List Src) (nw : Int) (w : World) (h : Heap B w m v gs hs nw) :
    Calls Try.prog 18 #[.pointer (some ⟨m, 0, none⟩)] w fun e w' => e = .returned (.int .i64 nw) ∧ w' = w := by
  have cn := h.box.cell (j := 1) rfl
  go_enter Try.func18, Try.ntmps18
  go_wp2_with fail
  go_ret
  exact ⟨rfl, rfl⟩
theorem flat_take {hs : List Src} {j : Nat} (h : j < hs.length) : (hs.take (j + 1)).flatten.length = (hs.take j).flatten.length + (at_ hs j).length := by
  rw [List.take_succ_eq_append_getElem h, List.flatten_append, List.length_append]
  unfold at_
  rw [List.getD_eq_getElem?_getD, List.getElem?_eq_getElem h]
  simp
theorem flat_le (hs : List Src) (j : Nat) : (hs.take j).flatten.length ≤ leftH hs := by
  unfold leftH
  conv => rhs; rw [← List.take_append_drop j hs, List.flatten_append, List.length_append]
  omega
set_option maxHeartbeats 1000000 in
theorem mleft_any (B : Nat) (m : Nat) (v : Value) (gs : List Nat) (hs : List Src) (nw : Int) (w : World) (h : Heap B w m v gs hs nw) (hb : leftH hs ≤ 100000) (hn : hs.length ≤ 1000) :
    Calls Try.prog 17 #[.pointer (some ⟨m, 0, none⟩)] w fun e w' => e = .returned (.int .i64 (leftH hs : Int)) ∧ w' = w := by
  obtain ⟨p, c, rfl, _, hcm⟩ := h.shape
  unfold maxLen at hcm
  have cv := h.box.cell (j := 0) rfl
  have ml := method_left
  go_enter Try.func17, Try.ntmps17
  go_wp2_with fail
  go_loopg [3, 13] (hs.length) (fun k s3 s13 wr => ∃ j : Nat, s3 = .int .i64 ((hs.take j).flatten.length : Int) ∧ s13 = .int .i64 j ∧ j ≤ hs.length ∧ k = hs.length - j ∧ wr = w)
  case atStart => exact ⟨0, rfl, rfl, Nat.zero_le _, rfl, rfl⟩
  case round =>
    obtain ⟨j, rfl, rfl, hj, hk, rfl⟩ := hrel
    by_cases hlt : j < hs.length
    case pos =>
      have hi : (j : Int) < (hs.length : Int) := by omega
      obtain ⟨b, c', g, u, e9, hg, cs, ou, hu, _⟩ := h.src hlt
      cases e9
      have L1 := left_any g (at_ hs j) u wr ou hu
      have hft := flat_take hlt
      have hfl := flat_le hs (j + 1)
      generalize (at_ hs j).length = a at *
      generalize (hs.take j).flatten.length = s at *
      have hw : IntKind.i64.wrap ((s : Int) + (a : Int)) = ((s + a : Nat) : Int) := by rw [IntKind.wrap_i64]; omega
      have HFT := Lib.hid hft
      clear hft hfl
      go_wp2_with (go_at_call 48; refine L1.mono ?_; rintro e w' ⟨rfl, rfl⟩)
      go_roundg (hs.length - (j + 1))
      case measure => omega
      case rel => exact ⟨j + 1, by rw [HFT.out]; rfl, by go_num, hlt, rfl, rfl⟩
    case neg =>
      have hje : j = hs.length := by omega
      subst hje
      have hi : ¬ (hs.length : Int) < (hs.length : Int) := by omega
      rw [List.take_length, show hs.flatten.length = leftH hs from rfl]
      clear hlt
      go_wp2_with fail
      go_ret
      exact ⟨rfl, rfl⟩

theorem itmO_chg {e : TypeId} {X : Nat → Prop} {w w' : World} {B : Nat} {v : Value} {xs : List Itm} (h : ORow e 9 RItm (fun _ => False) w B v xs) (k : Chg X w w') (hx : ∀ b, v.ownBlock = some b → ¬ X b) : ORow e 9 RItm (fun _ => False) w' B v xs := by
  obtain ⟨css, h1, h2, h3⟩ := h
  refine ⟨css, h1, owns_chg h2 k hx, h3.1, fun j cs x hc hx' w'' _ => ?_⟩
  exact (h3.2 j cs x hc hx').now
theorem all_step {hs : List Src} (hn : hs ≠ []) (hf : Full hs) : allH (leftH hs) hs = topH hs :: allH (leftH (nextH hs)) (nextH hs) := by
  rw [left_next hn hf]
  conv => lhs; unfold allH
  cases hs with
  | nil => exact absurd rfl hn
  | cons a r => rfl

/-- What All holds between its rounds. -/
structure Told (B T : Nat) (w : World) (m : Nat) (v : Value) (gs : List Nat) (hs : List Src) (nw : Int) (x : Value) (acc all : List Itm) : Prop where
  heap : Heap B w m v gs hs nw
  tops : Tops (fun k => k < T) w gs
  top : T ≤ w.heap.size
  own : ∀ k, Own m v gs k → k < T
  row : ItmO w B x acc
  far : ∀ k, x.ownBlock = some k → T ≤ k
  says : acc ++ allH (leftH hs) hs = all
set_option maxHeartbeats 8000000 in
theorem all_any (v : Value) (ls : List (List Bat)) (w : World) (h : BatsV w v ls) (hn : ls.length ≤ 1000) (hb : ∀ i, i < ls.length → (itemsOf i (ls.getD i [])).length ≤ 100000) (hc : countN ls ls.length ≤ 100000) :
    Calls Try.prog 13 #[v] w fun e w' => ∃ v', e = .returned v' ∧ ItmO w' w.heap.size v' (allL ls) ∧ Ext w w' := by
  have N1 := new_any v ls w h hn hb
  have hln : (newH ls).length ≤ 1000 := by
    unfold newH
    rw [buildH_length]
    have : ∀ n, (srcs ls n).length ≤ n := fun n => by
      induction n with
      | zero => simp [srcs]
      | succ n ih =>
        rw [srcs_succ, List.length_append]
        have : (src1 ls n).length ≤ 1 := by unfold src1; split <;> simp
        omega
    exact Nat.le_trans (this _) hn
  have hall : allH (leftH (newH ls)) (newH ls) = allL ls := by rw [new_left]; rfl
  have hlen : (allL ls).length ≤ 100000 := by rw [allL_length]; exact hc
  have HALL := Lib.hid hall
  have HLEN := Lib.hid hlen
  have HLN := Lib.hid hln
  generalize allL ls = all at *
  generalize newH ls = h0 at *
  obtain ⟨pv, cv, rfl, _, _⟩ := h.slice
  clear hall hlen hln hb hc hn
  go_enter Try.func13, Try.ntmps13
  go_wp2_with (go_at_call 14; refine N1.mono ?_; rintro e w1 ⟨m, hv, gs, rfl, hh1, hx1⟩
               have ht0 : Told w.heap.size w1.heap.size w1 m hv gs h0 (-1) (.slice none 0 0) [] all := ⟨hh1, hh1.tops, Nat.le_refl _, hh1.own_lt, ORow.nil _ _ _, (fun k e => by cases e), (by rw [List.nil_append]; exact HALL.out)⟩
               have HT0 := Lib.hid ht0
               clear ht0)
  go_loopg [4] (leftH h0 + 1) (fun k s4 wr => ∃ (hv' : Value) (gs' : List Nat) (hs' : List Src) (nw' : Int) (x : Value) (acc : List Itm), s4 = x ∧ k = leftH hs' + 1 ∧ hs'.length ≤ 1000 ∧ Hid (Told w.heap.size w1.heap.size wr m hv' gs' hs' nw' x acc all) ∧ Ext w wr)
  case atStart => exact ⟨hv, gs, h0, -1, _, [], rfl, rfl, HLN.out, HT0, hx1⟩
  case round =>
    obtain ⟨hv', gs', hs', nw', x, acc, rfl, hk, hl', HT, hx⟩ := hrel
    by_cases hemp : hs' = []
    · subst hemp
      have X1 := next_none w.heap.size m hv' gs' nw' wr HT.out.heap
      have hsays := HT.out.says
      rw [show allH (leftH []) [] = [] from rfl, List.append_nil] at hsays
      have HS := Lib.hid hsays
      clear hsays
      go_wp2_with (go_at_call 15; refine X1.mono ?_; rintro e w5 ⟨rfl, hx5⟩)
      go_ret
      have hx6 := hx5.trans (Ext.alloc w5 (.cells #[.int .i64 0, .int .i64 0, .int .i64 0, .int .i64 0, .int .i64 0, .bool false, .string ⟨#[]⟩, .bool false, .string ⟨#[]⟩] 36))
      exact ⟨_, rfl, by rw [← HS.out]; exact HT.out.row.keep hx6, hx.trans hx6⟩
    · have X1 := next_some w.heap.size m hv' gs' hs' nw' wr (fun k => k < w1.heap.size) HT.out.heap hemp hl' HT.out.tops (fun k hk => Nat.lt_of_lt_of_le hk HT.out.top)
      have hstep := all_step hemp HT.out.heap.full
      have hleft := left_next hemp HT.out.heap.full
      have hnl : (nextH hs').length ≤ 1000 := by
        unfold nextH
        rw [downI_length]
        unfold dropH
        split <;> simp <;> omega
      have hsays := HT.out.says
      rw [hstep] at hsays
      have hacc : acc.length + 1 ≤ 100000 := by have := HLEN.out; rw [← hsays, List.length_append, List.length_cons] at this; omega
      have HS := Lib.hid hsays
      have HL := Lib.hid hleft
      have HNL := Lib.hid hnl
      have HAC := Lib.hid hacc
      generalize topH hs' = y at *
      generalize nextH hs' = hs2 at *
      clear hstep hleft hnl hsays hacc hemp
      go_wp2_with (first
        | (go_at_call 15; refine X1.mono ?_; rintro e w5 ⟨rfl, hv2, gs2, hh5, hsub5, hx5, ht5⟩
           have hxa := (Ext.alloc w5 (.cells #[.int .i64 y.list, .int .i64 y.off, .int .i64 y.time, .int .i64 y.rcd.delta, .int .i64 y.rcd.time, .bool y.rcd.keyed, .string ⟨y.rcd.key.toArray⟩, .bool y.rcd.dead, .string ⟨y.rcd.value.toArray⟩] 36)).trans (Ext.alloc _ (.cells #[.int .i64 y.list, .int .i64 y.off, .int .i64 y.time, .int .i64 y.rcd.delta, .int .i64 y.rcd.time, .bool y.rcd.keyed, .string ⟨y.rcd.key.toArray⟩, .bool y.rcd.dead, .string ⟨y.rcd.value.toArray⟩] 36))
           have hrow5 := (itmO_chg HT.out.row hx5 (fun k e e2 => by have := HT.out.own k e2; have := HT.out.far k e; omega)).keep hxa
           have hlit : SRow 9 RItm (fun k => False ∧ some k ≠ u4.ownBlock) ((w5.alloc (.cells #[.int .i64 y.list, .int .i64 y.off, .int .i64 y.time, .int .i64 y.rcd.delta, .int .i64 y.rcd.time, .bool y.rcd.keyed, .string ⟨y.rcd.key.toArray⟩, .bool y.rcd.dead, .string ⟨y.rcd.value.toArray⟩] 36)).alloc (.cells #[.int .i64 y.list, .int .i64 y.off, .int .i64 y.time, .int .i64 y.rcd.delta, .int .i64 y.rcd.time, .bool y.rcd.keyed, .string ⟨y.rcd.key.toArray⟩, .bool y.rcd.dead, .string ⟨y.rcd.value.toArray⟩] 36)) (.slice (some ⟨(w5.alloc (.cells #[.int .i64 y.list, .int .i64 y.off, .int .i64 y.time, .int .i64 y.rcd.delta, .int .i64 y.rcd.time, .bool y.rcd.keyed, .string ⟨y.rcd.key.toArray⟩, .bool y.rcd.dead, .string ⟨y.rcd.value.toArray⟩] 36)).heap.size, 0, none⟩) 1 1) [y] := itm_lit1 _ _ _ y
           rw [show (w5.alloc (.cells #[.int .i64 y.list, .int .i64 y.off, .int .i64 y.time, .int .i64 y.rcd.delta, .int .i64 y.rcd.time, .bool y.rcd.keyed, .string ⟨y.rcd.key.toArray⟩, .bool y.rcd.dead, .string ⟨y.rcd.value.toArray⟩] 36)).heap.size = w5.heap.size + 1 from by simp] at hlit
           have hx6 : Ext w _ := ((hx5.ext hx (fun k e => HT.out.heap.own_low k e)).trans hxa)
           have HWS := Lib.hid hx6.size
           have HX6 := Lib.hid hx6
           have HSUB := Lib.hid hsub5
           have HT5 := Lib.hid (ht5.ext hxa (fun g hg => hh5.own_lt g (.inr (.inr hg))))
           have HH5 := Lib.hid (hh5.ext hxa)
           have HTS := Lib.hid (Nat.le_trans HT.out.top (Nat.le_trans hx5.size hxa.size))
           clear hx6 hsub5 ht5 hh5)
        | (at_builtin; refine st_items T.items hrow5 hlit ?_ (by have := HAC.out; simp [maxLen]; omega) (by have := HAC.out; simp; omega) HWS.out; intro v7 w7 ho7 hg7 hw7))
      have c7 : Chg (fun k => u4.ownBlock = some k) _ w7 := ⟨hg7.os, hg7.tape, hg7.output, hg7.size, fun k hk hn => hg7.block k hk fun e => hn e.symm⟩
      have hfar : ∀ k, Own m hv2 gs2 k → ¬ u4.ownBlock = some k := fun k hk e => by have := HT.out.own k (HSUB.out k hk); have := HT.out.far k e; omega
      have hh7 := HH5.out.chg c7 hfar (fun j g z hg hz k hk e => by have := HT5.out g (List.mem_of_getElem? hg) z hz k hk; have := HT.out.far k e; omega)
      have ht7 := HT5.out.chg c7 (fun g hg e => hfar g (.inr (.inr hg)) e) (fun g hg => HH5.out.own_lt g (.inr (.inr hg)))
      have hx7 : Ext w w7 := c7.ext HX6.out (fun k e => (HT.out.row.own k e).1)
      have htold : Told w.heap.size w1.heap.size w7 m hv2 gs2 hs2 (max nw' y.time) v7 (acc ++ [y]) all := by
        refine ⟨hh7, ht7, Nat.le_trans HTS.out c7.size, fun k hk => HT.out.own k (HSUB.out k hk), ho7, fun k e => ?_, by rw [List.append_assoc]; exact HS.out⟩
        rcases hw7 with e2 | e2
        · exact HT.out.far k (e2 ▸ e)
        · rw [e2] at e; cases e; exact HTS.out
      have HTL := Lib.hid htold
      clear htold hh7 ht7 hfar
      go_roundg (leftH hs2 + 1)
      case measure => have := HL.out; omega
      case rel => exact ⟨hv2, gs2, hs2, _, v7, acc ++ [y], rfl, rfl, HNL.out, HTL, hx7⟩
end Go.Proofs.Ytmoljicchgcnfaa
