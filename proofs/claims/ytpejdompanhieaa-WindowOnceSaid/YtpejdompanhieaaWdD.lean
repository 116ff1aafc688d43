/- What the document's functions of layer 35 compute: Close; Feed, where nothing is added. What the document's Feed of layer 35 computes: what is late, full, goes in. -/
import Derived.Test.YtpejdompanhieaaWdC
import Derived.Test.YtpejdompanhieaaInts
namespace Go.Proofs.Ytpejdompanhieaa
open Go.RowKit

theorem T.rsmsSize : (Try.prog.info? 22).map (·.size) = some 1 := by kernel_rfl
set_option maxHeartbeats 1000000 in
theorem rclose_any (s : Wt) (v : Value) (w : World) (h : SmV w v s.opn) :
    Calls Try.prog 13 #[wtv s v] w fun e w' => ∃ v' lv, e = .returned (.tuple #[wtv (closeW s).1 v', lv]) ∧ SmV w' v' (closeW s).1.opn ∧ SmV w' lv (closeW s).2 ∧ Ext w w' := by
  have C1 := fun W hW => rcheck_any s v W (h.ext hW)
  unfold closeW
  obtain ⟨oa, ob, hx0, hsz⟩ := objs2 w 24 24 (wtC s v) (wtC wt0 (.slice none 0 0))
  have a0 := oa.cell (j := 0) rfl
  have a1 := oa.cell (j := 1) rfl
  have a2 := oa.cell (j := 2) rfl
  have a3 := oa.cell (j := 3) rfl
  have a4 := oa.cell (j := 4) rfl
  unfold wt0 at ob hx0 hsz
  have HSZ := Lib.hid hsz
  obtain ⟨q, c, e, _, _⟩ := h.slice
  clear hsz
  by_cases hc : checkW s = 0
  · rw [if_neg (by simp [hc])]
    rw [hc] at C1
    generalize s.opn.length = n at e
    subst e
    have HV := Lib.hid h
    clear hc h
    go_enter Try.func13, Try.ntmps13
    go_wp2_with (first
      | (go_at_call 21; refine (C1 _ hx0).mono ?_; rintro e w1 ⟨rfl, hx1⟩
         have oa1 := oa.ext hx1
         have ob1 := ob.ext hx1
         have b4 := hx1.cell a4)
      | ((with_reducible show wpList _ _ _ (Oper.mk _ (Op.store _ _ _) _ _ _ _ :: _) _ _); have hq := oa3; refine st_put (vs := wtC ⟨s.size, s.late, s.mark, s.drops, []⟩ (.slice none 0 0)) ob3 T.rwtSize rfl (wt_one _ rfl) ?_; intro w4 ob4 hg4)
      | ((with_reducible show wpList _ _ _ (Oper.mk _ (Op.store _ _ _) _ _ _ _ :: _) _ _); refine st_store1 (o := 4) oa1 T.rsmsSize (show 4 < 5 by decide) ?_; intro w3 oa3 hg3
         have ob3 := ob1.kept hg3 (by simp)
         have d0 := oa3.cell (j := 0) rfl
         have d1 := oa3.cell (j := 1) rfl
         have d2 := oa3.cell (j := 2) rfl
         have d3 := oa3.cell (j := 3) rfl
         have d4 := oa3.cell (j := 4) rfl))
    refine bodyPost_ret (rwt_results2 rfl _ _ (w.heap.size + 1) ⟨s.size, s.late, s.mark, s.drops, []⟩ _ rfl ob4) rfl ?_
    have hx := ((hx0.trans hx1).grown hg3 (Nat.le_refl _)).grown hg4 (Nat.le_succ _)
    exact ⟨_, _, rfl, sm_nil _, HV.out.ext hx, hx⟩
  · rw [if_pos hc]
    have hb : (checkW s != 0) = true := by rw [bne_iff_ne]; exact hc
    generalize checkW s = k at *
    generalize s.opn.length = n at e
    subst e
    have HV := Lib.hid h
    clear hc h
    go_enter Try.func13, Try.ntmps13
    go_wp2_with (first
      | (go_at_call 21; refine (C1 _ hx0).mono ?_; rintro e w1 ⟨rfl, hx1⟩
         have ob1 := ob.ext hx1
         have b0 := hx1.cell a0
         have b1 := hx1.cell a1
         have b2 := hx1.cell a2
         have b3 := hx1.cell a3
         have b4 := hx1.cell a4)
      | ((with_reducible show wpList _ _ _ (Oper.mk _ (Op.store _ _ _) _ _ _ _ :: _) _ _); refine st_put (vs := wtC s (.slice q n c)) ob1 T.rwtSize rfl (wt_one _ rfl) ?_; intro w4 ob4 hg4))
    refine bodyPost_ret (rwt_results2 rfl _ _ (w.heap.size + 1) s _ rfl ob4) rfl ?_
    have hx := (hx0.trans hx1).grown hg4 (Nat.le_succ _)
    exact ⟨_, _, rfl, HV.out.ext hx, sm_nil _, hx⟩
/-! ### Feed -/
section
variable {s : Wt} {key : List UInt8} {time n : Int}
theorem feedW_bad (h : checkW s ≠ 0) : feedW s key time n = (s, [], checkW s) := by unfold feedW; rw [if_pos h]
theorem feedW_long (h : checkW s = 0) (h2 : 64 < key.length) : feedW s key time n = (s, [], 5) := by unfold feedW; rw [if_neg (by simp [h]), if_pos h2]
theorem feedW_out (h : checkW s = 0) (h2 : ¬ 64 < key.length) (h3 : inW time 0 1099511627776 = false ∨ numW n = false) : feedW s key time n = (s, [], 11) := by unfold feedW; rw [if_neg (by simp [h]), if_neg h2, if_pos h3]
theorem feedW_late (h : checkW s = 0) (h2 : ¬ 64 < key.length) (h3 : inW time 0 1099511627776 = true) (h4 : numW n = true) (h5 : lateW s (time - time % s.size) (max s.mark time) = true) :
    feedW s key time n = (⟨s.size, s.late, s.mark, min (s.drops + 1) 1099511627776, s.opn⟩, [], 0) := by unfold feedW; rw [if_neg (by simp [h]), if_neg h2, if_neg (by simp [h3, h4])]; simp only; rw [if_pos h5]
theorem feedW_full (h : checkW s = 0) (h2 : ¬ 64 < key.length) (h3 : inW time 0 1099511627776 = true) (h4 : numW n = true) (h5 : lateW s (time - time % s.size) (max s.mark time) = false) (h6 : (addS s.opn (atS (time - time % s.size) key) n).2 ≠ 0) :
    feedW s key time n = (s, [], (addS s.opn (atS (time - time % s.size) key) n).2) := by unfold feedW; rw [if_neg (by simp [h]), if_neg h2, if_neg (by simp [h3, h4])]; simp only; rw [if_neg (by simp [h5]), if_pos h6]
theorem feedW_ok (h : checkW s = 0) (h2 : ¬ 64 < key.length) (h3 : inW time 0 1099511627776 = true) (h4 : numW n = true) (h5 : lateW s (time - time % s.size) (max s.mark time) = false) (h6 : (addS s.opn (atS (time - time % s.size) key) n).2 = 0) :
    feedW s key time n = (⟨s.size, s.late, max s.mark time, s.drops, (addS s.opn (atS (time - time % s.size) key) n).1.filter fun x => !(lateW s x.start (max s.mark time))⟩, (addS s.opn (atS (time - time % s.size) key) n).1.filter (fun x => lateW s x.start (max s.mark time)), 0) := by
  unfold feedW; rw [if_neg (by simp [h]), if_neg h2, if_neg (by simp [h3, h4])]; simp only; rw [if_neg (by simp [h5]), if_neg (by simp [h6])]
end
set_option maxHeartbeats 2000000 in
theorem rfeed_early (s : Wt) (v : Value) (key : List UInt8) (time n : Int) (w : World) (h : SmV w v s.opn) (hbad : checkW s ≠ 0 ∨ 64 < key.length ∨ inW time 0 1099511627776 = false ∨ numW n = false) :
    Calls Try.prog 11 #[wtv s v, .string ⟨key.toArray⟩, .int .i64 time, .int .i64 n] w (FeedR w (feedW s key time n)) := by
  have C1 := fun W hW => rcheck_any s v W (h.ext hW)
  obtain ⟨oa, ob, hx0, hsz⟩ := objs2 w 24 24 (wtC s v) (wtC wt0 (.slice none 0 0))
  have a0 := oa.cell (j := 0) rfl
  have a1 := oa.cell (j := 1) rfl
  have a2 := oa.cell (j := 2) rfl
  have a3 := oa.cell (j := 3) rfl
  have a4 := oa.cell (j := 4) rfl
  have hk : (ByteArray.mk key.toArray).size = key.length := text_size _
  unfold wt0 at ob hx0
  clear hsz
  obtain ⟨q, c, e, _, _⟩ := h.slice
  have HV := Lib.hid h
  generalize s.opn.length = nn at e
  subst e
  clear h
  by_cases hc : checkW s = 0
  case neg =>
    rw [feedW_bad hc]
    have hb : (checkW s != 0) = true := by rw [bne_iff_ne]; exact hc
    generalize checkW s = k at *
    clear hc hbad
    go_enter Try.func11, Try.ntmps11
    go_wp2_with (first
      | (go_at_call 21; refine (C1 _ hx0).mono ?_; rintro e w1 ⟨rfl, hx1⟩
         have ob1 := ob.ext hx1
         have b0 := hx1.cell a0
         have b1 := hx1.cell a1
         have b2 := hx1.cell a2
         have b3 := hx1.cell a3
         have b4 := hx1.cell a4)
      | ((with_reducible show wpList _ _ _ (Oper.mk _ (Op.store _ _ _) _ _ _ _ :: _) _ _); refine st_put (vs := wtC s (.slice q nn c)) ob1 T.rwtSize rfl (wt_one _ rfl) ?_; intro w4 ob4 hg4))
    refine bodyPost_ret (rwt_results3 rfl _ _ (w.heap.size + 1) s _ rfl ob4) rfl ?_
    have hx := (hx0.trans hx1).grown hg4 (Nat.le_succ _)
    exact ⟨_, _, rfl, HV.out.ext hx, sm_nil _, hx⟩
  rw [hc] at C1
  by_cases h2 : 64 < key.length
  case pos =>
    rw [feedW_long hc h2]
    have hi2 : decide ((64 : Int) < (key.length : Int)) = true := by rw [decide_eq_true_eq]; omega
    clear hbad hc h2
    go_enter Try.func11, Try.ntmps11
    go_wp2_with (first
      | (go_at_call 21; refine (C1 _ hx0).mono ?_; rintro e w1 ⟨rfl, hx1⟩
         have ob1 := ob.ext hx1
         have b0 := hx1.cell a0
         have b1 := hx1.cell a1
         have b2 := hx1.cell a2
         have b3 := hx1.cell a3
         have b4 := hx1.cell a4)
      | ((with_reducible show wpList _ _ _ (Oper.mk _ (Op.store _ _ _) _ _ _ _ :: _) _ _); refine st_put (vs := wtC s (.slice q nn c)) ob1 T.rwtSize rfl (wt_one _ rfl) ?_; intro w4 ob4 hg4))
    refine bodyPost_ret (rwt_results3 rfl _ _ (w.heap.size + 1) s _ rfl ob4) rfl ?_
    have hx := (hx0.trans hx1).grown hg4 (Nat.le_succ _)
    exact ⟨_, _, rfl, HV.out.ext hx, sm_nil _, hx⟩
  have h3 : inW time 0 1099511627776 = false ∨ numW n = false := hbad.elim (fun e => absurd hc e) fun e => e.elim (fun e => absurd e h2) id
  rw [feedW_out hc h2 h3]
  have hi2 : decide ((64 : Int) < (key.length : Int)) = false := by rw [decide_eq_false_iff_not]; omega
  clear hbad hc h2
  cases h4 : inW time 0 1099511627776 with
  | false =>
    clear h3
    go_enter Try.func11, Try.ntmps11
    go_wp2_with (first
      | (go_at_call 21; refine (C1 _ hx0).mono ?_; rintro e w1 ⟨rfl, hx1⟩
         have ob1 := ob.ext hx1
         have b0 := hx1.cell a0
         have b1 := hx1.cell a1
         have b2 := hx1.cell a2
         have b3 := hx1.cell a3
         have b4 := hx1.cell a4)
      | (go_at_call 36; refine (rin_any _ _ _ _).mono ?_; rintro e w' ⟨rfl, rfl⟩)
      | ((with_reducible show wpList _ _ _ (Oper.mk _ (Op.store _ _ _) _ _ _ _ :: _) _ _); refine st_put (vs := wtC s (.slice q nn c)) ob1 T.rwtSize rfl (wt_one _ rfl) ?_; intro w4 ob4 hg4))
    refine bodyPost_ret (rwt_results3 rfl _ _ (w.heap.size + 1) s _ rfl ob4) rfl ?_
    have hx := (hx0.trans hx1).grown hg4 (Nat.le_succ _)
    exact ⟨_, _, rfl, HV.out.ext hx, sm_nil _, hx⟩
  | true =>
    have h5 : numW n = false := h3.resolve_left (by simp [h4])
    clear h3
    go_enter Try.func11, Try.ntmps11
    go_wp2_with (first
      | (go_at_call 21; refine (C1 _ hx0).mono ?_; rintro e w1 ⟨rfl, hx1⟩
         have ob1 := ob.ext hx1
         have b0 := hx1.cell a0
         have b1 := hx1.cell a1
         have b2 := hx1.cell a2
         have b3 := hx1.cell a3
         have b4 := hx1.cell a4)
      | (go_at_call 36; refine (rin_any _ _ _ _).mono ?_; rintro e w' ⟨rfl, rfl⟩)
      | (go_at_call 37; refine (rnumber_any _ _).mono ?_; rintro e w' ⟨rfl, rfl⟩)
      | ((with_reducible show wpList _ _ _ (Oper.mk _ (Op.store _ _ _) _ _ _ _ :: _) _ _); refine st_put (vs := wtC s (.slice q nn c)) ob1 T.rwtSize rfl (wt_one _ rfl) ?_; intro w4 ob4 hg4))
    refine bodyPost_ret (rwt_results3 rfl _ _ (w.heap.size + 1) s _ rfl ob4) rfl ?_
    have hx := (hx0.trans hx1).grown hg4 (Nat.le_succ _)
    exact ⟨_, _, rfl, HV.out.ext hx, sm_nil _, hx⟩
/-- A literal row of one of the document's sums. -/
def LitR (W0 W : World) (x : Sm) (v : Value) : Prop := ∃ b, v = .slice (some ⟨b, 0, none⟩) 1 1 ∧ W.heap[b]? = some (.cells (smCells x).toArray 69 (0, 0)) ∧ W0.heap.size ≤ b
theorem LitR.ext {W0 W W' : World} {x : Sm} {v : Value} (h : LitR W0 W x v) (hx : Ext W W') : LitR W0 W' x v := by
  obtain ⟨b, rfl, h1, h2⟩ := h
  exact ⟨b, rfl, (hx.block b (Array.getElem?_eq_some_iff.1 h1).1).trans h1, h2⟩
theorem LitR.grown {W0 W W' : World} {x : Sm} {v : Value} {g : Option Nat} (h : LitR W0 W x v) (hx : W.grownBy W' g) (hg : ∀ k, g = some k → k < W0.heap.size) : LitR W0 W' x v := by
  obtain ⟨b, rfl, h1, h2⟩ := h
  refine ⟨b, rfl, (hx.block b (Array.getElem?_eq_some_iff.1 h1).1 fun e => ?_).trans h1, h2⟩
  have := hg b e.symm
  omega
theorem litr_row {S : Nat → Prop} {W0 W : World} {x : Sm} {v : Value} (h : LitR W0 W x v) : SRow 6 RSm S W v [x] := by
  obtain ⟨b, rfl, h1, _⟩ := h
  refine ⟨[smCells x], some ⟨b, 0, none⟩, 1, fun c hc => ?_, rfl, Nat.le_refl _, by simp [maxLen], fun _ => ⟨_, _, rfl, fun j u hu => ?_⟩, Items.one (fun _ _ => rfl)⟩
  · rw [List.mem_singleton] at hc; subst hc; exact ⟨rfl, sm_one x⟩
  · rw [Nat.zero_add]
    have e : ([smCells x].flatten)[j]? = (smCells x).toArray[j]? := by simp
    rw [e] at hu
    unfold World.cell?
    rw [h1]
    exact hu
/-- What an append onto a row of the document's sums has made. -/
structure GrewS (w0 W : World) (B : Nat) (vx v : Value) (l : List Sm) : Prop where
  row : SmO 69 W B v l
  grown : w0.grownBy W vx.ownBlock
  own : v.ownBlock = vx.ownBlock ∨ ∃ k, v.ownBlock = some k ∧ w0.heap.size ≤ k
theorem GrewS.keep {w0 W W' : World} {B : Nat} {vx v : Value} {l : List Sm} (h : GrewS w0 W B vx v l) (hx : Ext W W') : GrewS w0 W' B vx v l := ⟨ORow.keep h.row hx, h.grown.trans (hx.grownBy _), h.own⟩
theorem rsms_grows {o : Oper} {a : Act} {x y : Operand} (ho : o.op = .call { callee := .builtin .append, args := #[x, y], argTypes := #[22, 22] }) {w0 W : World} {B : Nat} {vx vy : Value} {L : List Sm} {q : Sm} (ex : a.eval x = vx) (ey : a.eval y = vy)
    (h0 : SmO 69 w0 B vx L) (hx : Ext w0 W) (hy : LitR w0 W q vy) (hl : L.length ≤ 1000) (hB : B ≤ w0.heap.size) : ∃ v W', (execOp a.eval o).run Try.prog W = .ok (.value v) W' ∧ W.grownBy W' vx.ownBlock ∧ GrewS w0 W' B vx v (L ++ [q]) := by
  obtain ⟨v, W', hr, h1, h2, h3⟩ := run_append_items T.rsms o.type (ORow.keep h0 hx) (litr_row hy) (by simp [maxLen]; omega) (by simp; omega) (Nat.le_trans hB hx.size)
  exact ⟨v, W', run_op_append ho ex ey hr, h2, h1, (hx.grownBy _).trans h2, h3.imp id fun e => ⟨_, e, hx.size⟩⟩
/-- What Feed's loop has laid: out, and the open ones in the box at C. -/
def FeedI (w4 wr : World) (C : Nat) (cs : Value → List Value) (xo : Value) (lo ln : List Sm) : Prop :=
  ∃ p n c, SmO 69 wr (C + 1) xo lo ∧ SmO 69 wr (C + 1) (.slice p n c) ln ∧ ObjAt wr C 24 (cs (.slice p n c)) ∧ (xo.ownBlock = none ∨ xo.ownBlock ≠ (Value.slice p n c).ownBlock) ∧ Ext w4 wr ∧ w4.heap.size ≤ C
theorem own_lt {w : World} {B : Nat} {v : Value} {l : List Sm} (h : SmO 69 w B v l) : ∀ k, v.ownBlock = some k → k < w.heap.size := fun k e => (ORow.own h k e).2
/-- One that is out. -/
theorem FeedI.out {w4 wr W1 W2 : World} {C : Nat} {cs : Value → List Value} {xo x2 : Value} {lo ln : List Sm} {x : Sm} (h : FeedI w4 wr C cs xo lo ln) (hx : Ext wr W1) (h2 : SmO 69 W2 (C + 1) x2 (lo ++ [x])) (hg : W1.grownBy W2 xo.ownBlock) (ho : x2.ownBlock = xo.ownBlock ∨ x2.ownBlock = some W1.heap.size) : FeedI w4 W2 C cs x2 (lo ++ [x]) ln := by
  obtain ⟨p, n, c, k1, k2, k3, k4, k5, k6⟩ := h
  have hne : (Value.slice p n c).ownBlock = none ∨ (Value.slice p n c).ownBlock ≠ xo.ownBlock := by
    rcases k4 with e | e
    · cases hv : (Value.slice p n c).ownBlock with
      | none => exact .inl rfl
      | some j => exact .inr (by rw [e]; simp)
    · exact .inr e.symm
  refine ⟨p, n, c, h2, SmO.kept (ORow.keep k2 hx) hg hne, (k3.ext hx).kept hg (fun e => ?_), ?_, ORow.grown (ORow.base (ORow.keep k1 hx) (by omega : w4.heap.size ≤ C + 1)) (k5.trans hx) hg, k6⟩
  · have := (ORow.own k1 C e.symm).1
    omega
  · refine apart_grow (n := W1.heap.size) (a := (Value.slice p n c).ownBlock) (b := xo.ownBlock) hne ho ?_
    intro k hk
    exact Nat.lt_of_lt_of_le (own_lt k2 k hk) hx.size
/-- One that stays open. -/
theorem FeedI.stay {w4 wr W : World} {C : Nat} {s : Wt} {xo : Value} {lo ln : List Sm} {x : Sm} {p : Option Addr} {n c : Nat} {v2 : Value} (k1 : SmO 69 wr (C + 1) xo lo) (k2 : SmO 69 wr (C + 1) (.slice p n c) ln) (k3 : ObjAt wr C 24 (wtC s (.slice p n c))) (k4 : xo.ownBlock = none ∨ xo.ownBlock ≠ (Value.slice p n c).ownBlock) (k5 : Ext w4 wr) (k6 : w4.heap.size ≤ C)
    (hg : GrewS wr W (C + 1) (.slice p n c) v2 (ln ++ [x])) : ObjAt W C 24 (wtC s (.slice p n c)) ∧ FeedI w4 (W.setCell ⟨C, 4, none⟩ v2) C (wtC s) xo lo (ln ++ [x]) := by
  have hob := k3.kept hg.grown (fun e => by have := (ORow.own k2 C e.symm).1; omega)
  obtain ⟨p2, c2, e2, _, _⟩ := hg.row.view.slice
  have hne2 : v2.ownBlock ≠ some C := fun e => by have := (ORow.own hg.row C e).1; omega
  have hxo : xo.ownBlock ≠ some C := fun e => by have := (ORow.own k1 C e).1; omega
  refine ⟨hob, ?_⟩
  have hap : xo.ownBlock = none ∨ xo.ownBlock ≠ v2.ownBlock := by
    rcases hg.own with e | ⟨k, e, hk⟩
    · rw [e]; exact k4
    · refine .inr fun e3 => ?_
      have := own_lt k1 k (e3.trans e)
      omega
  refine ⟨p2, _, c2, SmO.kept (SmO.kept k1 hg.grown k4) (grown_set W ⟨C, 4, none⟩ v2) (.inr hxo), e2 ▸ SmO.kept hg.row (grown_set W ⟨C, 4, none⟩ v2) (.inr hne2), e2 ▸ hob.store 4 v2, e2 ▸ hap, ?_, k6⟩
  exact (ORow.grown (ORow.base k2 (by omega : w4.heap.size ≤ C + 1)) k5 hg.grown).store (p := ⟨C, 4, none⟩) k6 v2
set_option maxRecDepth 20000 in
set_option maxHeartbeats 4000000 in
theorem rfeed_late (s : Wt) (v : Value) (key : List UInt8) (time n : Int) (w : World) (h : SmV w v s.opn) (hc : checkW s = 0) (h2 : ¬ 64 < key.length) (h3 : inW time 0 1099511627776 = true) (h4 : numW n = true) (h5 : lateW s (time - time % s.size) (max s.mark time) = true) :
    Calls Try.prog 11 #[wtv s v, .string ⟨key.toArray⟩, .int .i64 time, .int .i64 n] w (FeedR w (feedW s key time n)) := by
  rw [feedW_late hc h2 h3 h4 h5]
  have hbd := checkW_ok hc
  obtain ⟨b1, b2, b3, b4, b5, b6, b7, b8, b9, b10, b11⟩ := hbd
  have ht := h3
  unfold inW at ht
  simp only [Bool.and_eq_true, decide_eq_true_eq] at ht
  have hk : (ByteArray.mk key.toArray).size = key.length := text_size _
  have hi2 : decide ((64 : Int) < (key.length : Int)) = false := by rw [decide_eq_false_iff_not]; omega
  have hm0 : time.tmod s.size = time % s.size := Int.tmod_eq_emod_of_nonneg ht.1
  have hm1 : 0 ≤ time % s.size := Int.emod_nonneg _ (by omega)
  have hm2 : time % s.size ≤ time := by
    have e1 := Int.emod_add_mul_ediv time s.size
    have e2 : 0 ≤ time / s.size := Int.ediv_nonneg ht.1 (by omega)
    have e3 : 0 ≤ s.size * (time / s.size) := Int.mul_nonneg (by omega) e2
    omega
  have hz : ¬ s.size = 0 := by omega
  have C1 := fun W hW => rcheck_any s v W (h.ext hW)
  rw [hc] at C1
  have P1 := fun start W hW => rput_sum v s.opn start key n W (h.ext hW) b9 (fun x hx => by have h1 := mayS_in (b10 x hx); have h2 := mayS_total (b10 x hx); omega) h4
  generalize hst : time - time % s.size = start at *
  generalize hmk : max s.mark time = mark at *
  have hst1 : 0 ≤ start ∧ start ≤ 1099511627776 := by omega
  have L1 := fun W => rlate_any s v start mark ⟨by omega, by omega, by omega, by omega, by omega, by omega⟩ W
  have hws : wrap64 start = start := by unfold wrap64; omega
  have HMK := Lib.hid hmk
  obtain ⟨oa, ob, hx0, hsz⟩ := objs2 w 24 24 (wtC s v) (wtC wt0 (.slice none 0 0))
  have a0 := oa.cell (j := 0) rfl
  have a1 := oa.cell (j := 1) rfl
  have a2 := oa.cell (j := 2) rfl
  have a3 := oa.cell (j := 3) rfl
  have a4 := oa.cell (j := 4) rfl
  unfold wt0 at ob hx0 hsz
  have HSZ := Lib.hid hsz
  have HV := Lib.hid h
  rw [h5] at L1
  have hdr : wrap64 (s.drops + 1) = s.drops + 1 := by unfold wrap64; omega
  obtain ⟨q, cc, e, _, _⟩ := h.slice
  generalize s.opn.length = nn at e
  subst e
  clear hmk hsz b1 b2 b3 b4 b5 b6 b7 b8 b9 b10 b11 h5 hst1 hm1 hm2 h P1
  go_enter Try.func11, Try.ntmps11
  go_wp2_with (first
    | (go_at_call 21; refine (C1 _ hx0).mono ?_; rintro e w1 ⟨rfl, hx1⟩
       have oa1 := oa.ext hx1
       have ob1 := ob.ext hx1
       have b0 := hx1.cell a0
       have b1 := hx1.cell a1
       have b2 := hx1.cell a2
       have b3 := hx1.cell a3
       have b4 := hx1.cell a4)
    | (go_at_call 36; refine (rin_any _ _ _ _).mono ?_; rintro e w' ⟨rfl, rfl⟩)
    | (go_at_call 37; refine (rnumber_any _ _).mono ?_; rintro e w' ⟨rfl, rfl⟩)
    | ((with_reducible show wpList _ _ _ (Oper.mk _ (Op.call { callee := Callee.builtin Builtin.max, args := _, argTypes := _ }) _ _ _ _ :: _) _ _); refine wpList_run rfl (run_max rfl rfl rfl _) ?_; rw [HMK.out])
    | (go_at_call 38; refine (L1 _).mono ?_; rintro e w3 ⟨rfl, hx3⟩
       have HX3 := Lib.hid ((hx0.trans hx1).trans hx3)
       have oa3 := oa1.ext hx3
       have ob3 := ob1.ext hx3
       have d0 := oa3.cell (j := 0) rfl
       have d1 := oa3.cell (j := 1) rfl
       have d2 := oa3.cell (j := 2) rfl
       have d3 := oa3.cell (j := 3) rfl
       have d4 := oa3.cell (j := 4) rfl
       have f3 := oa3.free 3
       have oa4 := oa3.store 3 (.int .i64 (min (s.drops + 1) 1099511627776))
       have m0 := oa4.cell (j := 0) rfl
       have m1 := oa4.cell (j := 1) rfl
       have m2 := oa4.cell (j := 2) rfl
       have m4 := oa4.cell (j := 4) rfl
       have m5 := oa4.cell (j := 3) rfl
       have ob4 := ob3.far (p := ⟨w.heap.size, 3, none⟩) (by show w.heap.size + 1 ≠ w.heap.size; omega) (.int .i64 (min (s.drops + 1) 1099511627776))
       have HX4 := Lib.hid (HX3.out.store (p := ⟨w.heap.size, 3, none⟩) (Nat.le_refl _) (.int .i64 (min (s.drops + 1) 1099511627776))))
    | ((with_reducible show wpList _ _ _ (Oper.mk _ (Op.call { callee := Callee.builtin Builtin.min, args := _, argTypes := _ }) _ _ _ _ :: _) _ _); refine wpList_run rfl (run_min rfl rfl rfl _) ?_)
    | ((with_reducible show wpList _ _ _ (Oper.mk _ (Op.store _ _ _) _ _ _ _ :: _) _ _); have hq := m5; refine st_put (vs := wtC ⟨s.size, s.late, s.mark, min (s.drops + 1) 1099511627776, s.opn⟩ (.slice q nn cc)) ob4 T.rwtSize rfl (wt_one _ rfl) ?_; intro w6 ob6 hg6))
  refine bodyPost_ret (rwt_results3 rfl _ _ (w.heap.size + 1) ⟨s.size, s.late, s.mark, min (s.drops + 1) 1099511627776, s.opn⟩ _ rfl ob6) rfl ?_
  have hx := HX4.out.grown hg6 (Nat.le_succ _)
  exact ⟨_, _, rfl, HV.out.ext hx, sm_nil _, hx⟩
set_option maxRecDepth 20000 in
set_option maxHeartbeats 4000000 in
theorem rfeed_full (s : Wt) (v : Value) (key : List UInt8) (time n : Int) (w : World) (h : SmV w v s.opn) (hc : checkW s = 0) (h2 : ¬ 64 < key.length) (h3 : inW time 0 1099511627776 = true) (h4 : numW n = true) (h5 : lateW s (time - time % s.size) (max s.mark time) = false) (L : List Sm) (er : Int) (hr : addS s.opn (atS (time - time % s.size) key) n = (L, er)) (h6 : er ≠ 0) :
    Calls Try.prog 11 #[wtv s v, .string ⟨key.toArray⟩, .int .i64 time, .int .i64 n] w (FeedR w (feedW s key time n)) := by
  rw [feedW_full hc h2 h3 h4 h5 (by rw [hr]; exact h6), hr]
  have hbd := checkW_ok hc
  obtain ⟨b1, b2, b3, b4, b5, b6, b7, b8, b9, b10, b11⟩ := hbd
  have ht := h3
  unfold inW at ht
  simp only [Bool.and_eq_true, decide_eq_true_eq] at ht
  have hk : (ByteArray.mk key.toArray).size = key.length := text_size _
  have hi2 : decide ((64 : Int) < (key.length : Int)) = false := by rw [decide_eq_false_iff_not]; omega
  have hm0 : time.tmod s.size = time % s.size := Int.tmod_eq_emod_of_nonneg ht.1
  have hm1 : 0 ≤ time % s.size := Int.emod_nonneg _ (by omega)
  have hm2 : time % s.size ≤ time := by
    have e1 := Int.emod_add_mul_ediv time s.size
    have e2 : 0 ≤ time / s.size := Int.ediv_nonneg ht.1 (by omega)
    have e3 : 0 ≤ s.size * (time / s.size) := Int.mul_nonneg (by omega) e2
    omega
  have hz : ¬ s.size = 0 := by omega
  have C1 := fun W hW => rcheck_any s v W (h.ext hW)
  rw [hc] at C1
  have P1 := fun start W hW => rput_sum v s.opn start key n W (h.ext hW) b9 (fun x hx => by have h1 := mayS_in (b10 x hx); have h2 := mayS_total (b10 x hx); omega) h4
  generalize hst : time - time % s.size = start at *
  generalize hmk : max s.mark time = mark at *
  have hst1 : 0 ≤ start ∧ start ≤ 1099511627776 := by omega
  have L1 := fun W => rlate_any s v start mark ⟨by omega, by omega, by omega, by omega, by omega, by omega⟩ W
  have hws : wrap64 start = start := by unfold wrap64; omega
  have HMK := Lib.hid hmk
  obtain ⟨oa, ob, hx0, hsz⟩ := objs2 w 24 24 (wtC s v) (wtC wt0 (.slice none 0 0))
  have a0 := oa.cell (j := 0) rfl
  have a1 := oa.cell (j := 1) rfl
  have a2 := oa.cell (j := 2) rfl
  have a3 := oa.cell (j := 3) rfl
  have a4 := oa.cell (j := 4) rfl
  unfold wt0 at ob hx0 hsz
  have HSZ := Lib.hid hsz
  have HV := Lib.hid h
  rw [h5] at L1
  have Q1 := P1 start
  rw [hr] at Q1
  have hb : (er != 0) = true := by rw [bne_iff_ne]; exact h6
  obtain ⟨q, cc, e, _, _⟩ := h.slice
  generalize s.opn.length = nn at e
  subst e
  clear hmk hsz b1 b2 b3 b4 b5 b6 b7 b8 b9 b10 b11 h5 hst1 hm1 hm2 h P1 h6 hr
  go_enter Try.func11, Try.ntmps11
  go_wp2_with (first
    | (go_at_call 21; refine (C1 _ hx0).mono ?_; rintro e w1 ⟨rfl, hx1⟩
       have oa1 := oa.ext hx1
       have ob1 := ob.ext hx1
       have b0 := hx1.cell a0
       have b1 := hx1.cell a1
       have b2 := hx1.cell a2
       have b3 := hx1.cell a3
       have b4 := hx1.cell a4)
    | (go_at_call 36; refine (rin_any _ _ _ _).mono ?_; rintro e w' ⟨rfl, rfl⟩)
    | (go_at_call 37; refine (rnumber_any _ _).mono ?_; rintro e w' ⟨rfl, rfl⟩)
    | ((with_reducible show wpList _ _ _ (Oper.mk _ (Op.call { callee := Callee.builtin Builtin.max, args := _, argTypes := _ }) _ _ _ _ :: _) _ _); refine wpList_run rfl (run_max rfl rfl rfl _) ?_; rw [HMK.out])
    | (go_at_call 38; refine (L1 _).mono ?_; rintro e w3 ⟨rfl, hx3⟩
       have HX3 := Lib.hid ((hx0.trans hx1).trans hx3)
       have oa3 := oa1.ext hx3
       have ob3 := ob1.ext hx3
       have d0 := oa3.cell (j := 0) rfl
       have d1 := oa3.cell (j := 1) rfl
       have d2 := oa3.cell (j := 2) rfl
       have d3 := oa3.cell (j := 3) rfl
       have d4 := oa3.cell (j := 4) rfl
       skip)
    | (go_at_call 39; refine (Q1 _ HX3.out).mono ?_; rintro e w4 ⟨v4, rfl, hv4, hx4⟩
       have HX4 := Lib.hid (HX3.out.trans hx4)
       have oa4 := oa3.ext hx4
       have ob4 := ob3.ext hx4
       have e0 := oa4.cell (j := 0) rfl
       have e1 := oa4.cell (j := 1) rfl
       have e2 := oa4.cell (j := 2) rfl
       have e3' := oa4.cell (j := 3) rfl
       have e4 := oa4.cell (j := 4) rfl
       clear hv4)
    | ((with_reducible show wpList _ _ _ (Oper.mk _ (Op.store _ _ _) _ _ _ _ :: _) _ _); refine st_put (vs := wtC s (.slice q nn cc)) ob4 T.rwtSize rfl (wt_one _ rfl) ?_; intro w6 ob6 hg6))
  refine bodyPost_ret (rwt_results3 rfl _ _ (w.heap.size + 1) s _ rfl ob6) rfl ?_
  have hx := HX4.out.grown hg6 (Nat.le_succ _)
  exact ⟨_, _, rfl, HV.out.ext hx, sm_nil _, hx⟩
set_option maxRecDepth 20000 in
set_option maxHeartbeats 4000000 in
theorem rfeed_ok (s : Wt) (v : Value) (key : List UInt8) (time n : Int) (w : World) (h : SmV w v s.opn) (hc : checkW s = 0) (h2 : ¬ 64 < key.length) (h3 : inW time 0 1099511627776 = true) (h4 : numW n = true) (h5 : lateW s (time - time % s.size) (max s.mark time) = false) (L : List Sm) (hr : addS s.opn (atS (time - time % s.size) key) n = (L, 0)) :
    Calls Try.prog 11 #[wtv s v, .string ⟨key.toArray⟩, .int .i64 time, .int .i64 n] w (FeedR w (feedW s key time n)) := by
  rw [feedW_ok hc h2 h3 h4 h5 (by rw [hr]), hr]
  simp only
  have hbd := checkW_ok hc
  obtain ⟨b1, b2, b3, b4, b5, b6, b7, b8, b9, b10, b11⟩ := hbd
  have ht := h3
  unfold inW at ht
  simp only [Bool.and_eq_true, decide_eq_true_eq] at ht
  have hk : (ByteArray.mk key.toArray).size = key.length := text_size _
  have hi2 : decide ((64 : Int) < (key.length : Int)) = false := by rw [decide_eq_false_iff_not]; omega
  have hm0 : time.tmod s.size = time % s.size := Int.tmod_eq_emod_of_nonneg ht.1
  have hm1 : 0 ≤ time % s.size := Int.emod_nonneg _ (by omega)
  have hm2 : time % s.size ≤ time := by
    have e1 := Int.emod_add_mul_ediv time s.size
    have e2 : 0 ≤ time / s.size := Int.ediv_nonneg ht.1 (by omega)
    have e3 : 0 ≤ s.size * (time / s.size) := Int.mul_nonneg (by omega) e2
    omega
  have hz : ¬ s.size = 0 := by omega
  have C1 := fun W hW => rcheck_any s v W (h.ext hW)
  rw [hc] at C1
  have P1 := fun start W hW => rput_sum v s.opn start key n W (h.ext hW) b9 (fun x hx => by have h1 := mayS_in (b10 x hx); have h2 := mayS_total (b10 x hx); omega) h4
  generalize hst : time - time % s.size = start at *
  generalize hmk : max s.mark time = mark at *
  have hst1 : 0 ≤ start ∧ start ≤ 1099511627776 := by omega
  have L1 := fun W => rlate_any s v start mark ⟨by omega, by omega, by omega, by omega, by omega, by omega⟩ W
  have hws : wrap64 start = start := by unfold wrap64; omega
  have HMK := Lib.hid hmk
  obtain ⟨oa, ob, hx0, hsz⟩ := objs2 w 24 24 (wtC s v) (wtC wt0 (.slice none 0 0))
  have a0 := oa.cell (j := 0) rfl
  have a1 := oa.cell (j := 1) rfl
  have a2 := oa.cell (j := 2) rfl
  have a3 := oa.cell (j := 3) rfl
  have a4 := oa.cell (j := 4) rfl
  unfold wt0 at ob hx0 hsz
  have HSZ := Lib.hid hsz
  have HV := Lib.hid h
  rw [h5] at L1
  have Q1 := P1 start
  rw [hr] at Q1
  have HLM : Hid (∀ x ∈ L, 0 ≤ s.size ∧ s.size ≤ 1048576 ∧ 0 ≤ s.late ∧ s.late ≤ 1048576 ∧ 0 ≤ x.start ∧ x.start ≤ 1099511627776) := Lib.hid fun x hx => by
    have h7 := addS_mem (l := s.opn) (p := atS start key) (n := n) (x := x) (by rw [hr]; exact hx)
    rcases h7 with h7 | ⟨y, hy, h7⟩
    · have e7 : x.start = start := h7
      omega
    · have := mayS_in (b10 y hy)
      omega
  have HLL : Hid (L.length ≤ 256) := Lib.hid (by have := addS_len (p := atS start key) (n := n) b9; rw [hr] at this; exact this)
  obtain ⟨ON, hON⟩ : ∃ l, (L.filter fun x => !(lateW s x.start mark)) = l := ⟨_, rfl⟩
  obtain ⟨LN, hLN⟩ : ∃ l, (L.filter fun x => lateW s x.start mark) = l := ⟨_, rfl⟩
  rw [hON, hLN]
  have HON := Lib.hid hON
  have HLN := Lib.hid hLN
  obtain ⟨q, cc, e, _, _⟩ := h.slice
  generalize s.opn.length = nn at e
  subst e
  clear hmk hsz b1 b2 b3 b4 b5 b6 b7 b8 b9 b10 b11 h5 hst1 hm1 hm2 h P1 hr hON hLN
  go_enter Try.func11, Try.ntmps11
  go_wp2_with (first
    | (go_at_call 21; refine (C1 _ hx0).mono ?_; rintro e w1 ⟨rfl, hx1⟩
       have oa1 := oa.ext hx1
       have ob1 := ob.ext hx1
       have b0 := hx1.cell a0
       have b1 := hx1.cell a1
       have b2 := hx1.cell a2
       have b3 := hx1.cell a3
       have b4 := hx1.cell a4)
    | (go_at_call 36; refine (rin_any _ _ _ _).mono ?_; rintro e w' ⟨rfl, rfl⟩)
    | (go_at_call 37; refine (rnumber_any _ _).mono ?_; rintro e w' ⟨rfl, rfl⟩)
    | ((with_reducible show wpList _ _ _ (Oper.mk _ (Op.call { callee := Callee.builtin Builtin.max, args := _, argTypes := _ }) _ _ _ _ :: _) _ _); refine wpList_run rfl (run_max rfl rfl rfl _) ?_; rw [HMK.out])
    | (go_at_call 38; refine (L1 _).mono ?_; rintro e w3 ⟨rfl, hx3⟩
       have HX3 := Lib.hid ((hx0.trans hx1).trans hx3)
       have oa3 := oa1.ext hx3
       have ob3 := ob1.ext hx3
       have d0 := oa3.cell (j := 0) rfl
       have d1 := oa3.cell (j := 1) rfl
       have d2 := oa3.cell (j := 2) rfl
       have d3 := oa3.cell (j := 3) rfl
       have d4 := oa3.cell (j := 4) rfl
       skip)
    | (go_at_call 39; refine (Q1 _ HX3.out).mono ?_; rintro e w4 ⟨v4, rfl, hv4, hx4⟩
       have HX4 := Lib.hid (HX3.out.trans hx4)
       have oa4 := oa3.ext hx4
       have ob4 := ob3.ext hx4
       have e0 := oa4.cell (j := 0) rfl
       have e1 := oa4.cell (j := 1) rfl
       have e2 := oa4.cell (j := 2) rfl
       have e3' := oa4.cell (j := 3) rfl
       have e4 := oa4.cell (j := 4) rfl
       have HV4 := Lib.hid hv4
       obtain ⟨p4, dc4, e9, _, _⟩ := hv4.slice
       subst e9
       clear hv4))
  have hxa := Ext.alloc w4 (.cells #[.int .i64 s.size, .int .i64 s.late, .int .i64 mark, .int .i64 s.drops, .slice none 0 0] 24)
  have oC : ObjAt (w4.alloc (.cells #[.int .i64 s.size, .int .i64 s.late, .int .i64 mark, .int .i64 s.drops, .slice none 0 0] 24)) w4.heap.size 24 (wtC ⟨s.size, s.late, mark, s.drops, []⟩ (.slice none 0 0)) := heap_alloc_new w4 _
  have HI0 : Hid (FeedI w4 (w4.alloc (.cells #[.int .i64 s.size, .int .i64 s.late, .int .i64 mark, .int .i64 s.drops, .slice none 0 0] 24)) w4.heap.size (wtC ⟨s.size, s.late, mark, s.drops, []⟩) (.slice none 0 0) [] []) := Lib.hid ⟨none, 0, 0, ORow.nil _ _ _, ORow.nil _ _ _, oC, .inl rfl, hxa, Nat.le_refl _⟩
  have hC : w4.heap.size = w4.heap.size := rfl
  have HB4 := Lib.hid ob4
  have HAL : Hid (w.heap.size + 1 < w4.heap.size) := Lib.hid ob4.lt
  clear hxa oC hx4 ob4 oa4 hx3 oa3 ob3 hx1 oa1 ob1 oa ob hx0 a0 a1 a2 a3 a4 b0 b1 b2 b3 b4 C1 L1 Q1 d0 d1 d2 d3 d4
  have L2 := fun start h W => rlate_any s (.slice q nn cc) start mark h W
  generalize hCC : w4.heap.size = C at *
  clear hC
  go_loopg [16, 17] (L.length) (fun k s16 s17 wr => ∃ (j : Nat) (xo : Value), s16 = xo ∧ s17 = .int .i64 j ∧ j ≤ L.length ∧ k = L.length - j ∧ Hid (FeedI w4 wr C (wtC ⟨s.size, s.late, mark, s.drops, []⟩) xo ((L.take j).filter fun x => lateW s x.start mark) ((L.take j).filter fun x => !(lateW s x.start mark))))
  case atStart => exact ⟨0, _, rfl, rfl, Nat.zero_le _, rfl, Lib.hid (by rw [List.take_zero]; exact HI0.out)⟩
  case round =>
    obtain ⟨j, xo, e3, rfl, hj, hk, HI⟩ := hrel
    replace e3 := e3.symm
    subst e3
    by_cases hlt : j < L.length
    case pos =>
      have hi : (j : Int) < (L.length : Int) := by omega
      have HX : Hid (Ext w4 wr) := Lib.hid (by obtain ⟨_, _, _, _, _, _, _, h, _⟩ := HI.out; exact h)
      obtain ⟨b, o, rfl, ⟨m0, m1, m2, m3, m4, m5⟩⟩ := sm_at (HV4.out.ext HX.out) hlt
      have f0 := HX.out.cell e0
      have f1 := HX.out.cell e1
      have f2 := HX.out.cell e2
      have f3 := HX.out.cell e3'
      have f4 := HX.out.cell e4
      have O1 := fun W => L2 L[j].start (HLM.out _ (List.getElem_mem hlt)) W
      have hsn1 : (L.take (j + 1)).filter (fun x => lateW s x.start mark) = (L.take j).filter (fun x => lateW s x.start mark) ++ [L[j]].filter (fun x => lateW s x.start mark) := by rw [List.take_succ_eq_append_getElem hlt, List.filter_append]
      have hsn2 : (L.take (j + 1)).filter (fun x => !(lateW s x.start mark)) = (L.take j).filter (fun x => !(lateW s x.start mark)) ++ [L[j]].filter (fun x => !(lateW s x.start mark)) := by rw [List.take_succ_eq_append_getElem hlt, List.filter_append]
      have hl1 : ((L.take j).filter fun x => lateW s x.start mark).length ≤ 1000 := Nat.le_trans (List.length_filter_le _ _) (by rw [List.length_take]; have := HLL.out; omega)
      have hl2 : ((L.take j).filter fun x => !(lateW s x.start mark)).length ≤ 1000 := Nat.le_trans (List.length_filter_le _ _) (by rw [List.length_take]; have := HLL.out; omega)
      generalize L[j] = x at *
      have HQ : Hid (wrap64 ((j : Int) + 1) = ((j + 1 : Nat) : Int)) := Lib.hid (by have := HLL.out; unfold wrap64; omega)
      generalize hlo : (L.take j).filter (fun x => lateW s x.start mark) = lo at *
      generalize hln : (L.take j).filter (fun x => !(lateW s x.start mark)) = ln at *
      have HL1 := Lib.hid (And.intro hl1 hl2)
      clear hl1 hl2 hlo hln
      cases hb : lateW s x.start mark with
      | true =>
        rw [hb] at O1
        have e5 : [x].filter (fun x => lateW s x.start mark) = [x] := by rw [List.filter_cons, hb]; rfl
        have e6 : [x].filter (fun x => !(lateW s x.start mark)) = [] := by rw [List.filter_cons, hb]; rfl
        rw [e5] at hsn1
        rw [e6, List.append_nil] at hsn2
        have HSN := Lib.hid (And.intro hsn1 hsn2)
        clear hsn1 hsn2 e5 e6 hb
        go_wp2_with fail
        apply wp_region_dag (X := Ext) (by kernel_rfl) (by kernel_rfl) (fun _ _ _ => Ext.trans) (Ext.drew1 _)
        apply dag_val Ext.refl rfl (by intro W hW H; have q0 := hW.cell f0; have q1 := hW.cell f1; have q2 := hW.cell f2; have q3 := hW.cell f3; have q4 := hW.cell f4; go_simp <;> rfl)
        simp only [Act.put, List.setIfInBounds_toArray, List.set_cons_zero, List.set_cons_succ]
        apply dag_val Ext.refl rfl (by intro W hW H; go_simp <;> rfl)
        simp only [Act.put, List.setIfInBounds_toArray, List.set_cons_zero, List.set_cons_succ]
        apply dag_val Ext.refl rfl (by intro W hW H; go_simp <;> rfl)
        simp only [Act.put, List.setIfInBounds_toArray, List.set_cons_zero, List.set_cons_succ]
        apply dag_val Ext.refl rfl (by intro W hW H; go_simp <;> rfl)
        simp only [Act.put, List.setIfInBounds_toArray, List.set_cons_zero, List.set_cons_succ]
        apply dag_val Ext.refl rfl (by intro W hW H; go_simp <;> rfl)
        simp only [Act.put, List.setIfInBounds_toArray, List.set_cons_zero, List.set_cons_succ]
        apply dag_val Ext.refl rfl (by intro W hW H; have q0 := hW.cell m0; go_simp <;> rfl)
        simp only [Act.put, List.setIfInBounds_toArray, List.set_cons_zero, List.set_cons_succ]
        apply dag_val Ext.refl rfl (by intro W hW H; go_simp <;> rfl)
        simp only [Act.put, List.setIfInBounds_toArray, List.set_cons_zero, List.set_cons_succ]
        refine' dag_call (c := .bool true) (f := 38) (args := #[wtv s (.slice q nn cc), .int .i64 x.start, .int .i64 mark]) rfl (by intro W; go_simp <;> rfl) (fun W hW H => O1 W) _
        rotate_left
        simp only [Act.put, List.setIfInBounds_toArray, List.set_cons_zero, List.set_cons_succ]
        refine dag_end fun W hW H => ?_
        clear H
        have n0 := hW.cell m0
        have n1 := hW.cell m1
        have n2 := hW.cell m2
        have n3 := hW.cell m3
        have n4 := hW.cell m4
        have n5 := hW.cell m5
        have hxa := Ext.alloc W (.cells #[.int .i64 x.start, .string ⟨x.key.toArray⟩, .int .i64 x.count, .int .i64 x.total, .int .i64 x.least, .int .i64 x.most] 69)
        have hlit : SRow 6 RSm (fun k => (fun _ => True) k ∧ some k ≠ xo.ownBlock) (W.alloc (.cells #[.int .i64 x.start, .string ⟨x.key.toArray⟩, .int .i64 x.count, .int .i64 x.total, .int .i64 x.least, .int .i64 x.most] 69)) (.slice (some ⟨W.heap.size, 0, none⟩) 1 1) [x] := SRow.lit1 (cs := smCells x) rfl (sm_one x) (fun _ _ => rfl)
        have HXA := Lib.hid (hW.trans hxa)
        have hoa : SmO 69 (W.alloc (.cells #[.int .i64 x.start, .string ⟨x.key.toArray⟩, .int .i64 x.count, .int .i64 x.total, .int .i64 x.least, .int .i64 x.most] 69)) (C + 1) xo lo := by obtain ⟨_, _, _, h, _⟩ := HI.out; exact ORow.keep h HXA.out
        have HBB : Hid (C + 1 ≤ (W.alloc (.cells #[.int .i64 x.start, .string ⟨x.key.toArray⟩, .int .i64 x.count, .int .i64 x.total, .int .i64 x.least, .int .i64 x.most] 69)).heap.size) := Lib.hid (by obtain ⟨_, _, _, _, _, h, _⟩ := HI.out; exact (h.ext HXA.out).lt)
        clear hW hxa m0 m1 m2 m3 m4 m5
        go_wp2_with (at_builtin; refine st_items T.rsms hoa hlit ?_ (by have := HL1.out; simp [maxLen]; omega) (by have := HL1.out; simp; omega) HBB.out; intro v2 w7 ho7 hg7 hw7)
        go_roundg (L.length - (j + 1))
        case measure => omega
        case rel =>
          refine ⟨j + 1, _, rfl, congrArg (Value.int .i64) HQ.out, hlt, rfl, Lib.hid ?_⟩
          rw [HSN.out.1, HSN.out.2]
          exact FeedI.out HI.out HXA.out ho7 hg7 hw7
      | false =>
        rw [hb] at O1
        have e5 : [x].filter (fun x => lateW s x.start mark) = [] := by rw [List.filter_cons, hb]; rfl
        have e6 : [x].filter (fun x => !(lateW s x.start mark)) = [x] := by rw [List.filter_cons, hb]; rfl
        rw [e5, List.append_nil] at hsn1
        rw [e6] at hsn2
        have HSN := Lib.hid (And.intro hsn1 hsn2)
        clear hsn1 hsn2 e5 e6 hb
        go_wp2_with fail
        apply wp_region_dag (X := Ext) (by kernel_rfl) (by kernel_rfl) (fun _ _ _ => Ext.trans) (Ext.drew1 _)
        apply dag_val Ext.refl rfl (by intro W hW H; have q0 := hW.cell f0; have q1 := hW.cell f1; have q2 := hW.cell f2; have q3 := hW.cell f3; have q4 := hW.cell f4; go_simp <;> rfl)
        simp only [Act.put, List.setIfInBounds_toArray, List.set_cons_zero, List.set_cons_succ]
        apply dag_val Ext.refl rfl (by intro W hW H; go_simp <;> rfl)
        simp only [Act.put, List.setIfInBounds_toArray, List.set_cons_zero, List.set_cons_succ]
        apply dag_val Ext.refl rfl (by intro W hW H; go_simp <;> rfl)
        simp only [Act.put, List.setIfInBounds_toArray, List.set_cons_zero, List.set_cons_succ]
        apply dag_val Ext.refl rfl (by intro W hW H; go_simp <;> rfl)
        simp only [Act.put, List.setIfInBounds_toArray, List.set_cons_zero, List.set_cons_succ]
        apply dag_val Ext.refl rfl (by intro W hW H; go_simp <;> rfl)
        simp only [Act.put, List.setIfInBounds_toArray, List.set_cons_zero, List.set_cons_succ]
        apply dag_val Ext.refl rfl (by intro W hW H; have q0 := hW.cell m0; go_simp <;> rfl)
        simp only [Act.put, List.setIfInBounds_toArray, List.set_cons_zero, List.set_cons_succ]
        apply dag_val Ext.refl rfl (by intro W hW H; go_simp <;> rfl)
        simp only [Act.put, List.setIfInBounds_toArray, List.set_cons_zero, List.set_cons_succ]
        refine' dag_call (c := .bool false) (f := 38) (args := #[wtv s (.slice q nn cc), .int .i64 x.start, .int .i64 mark]) rfl (by intro W; go_simp <;> rfl) (fun W hW H => O1 W) _
        rotate_left
        simp only [Act.put, List.setIfInBounds_toArray, List.set_cons_zero, List.set_cons_succ]
        refine dag_end fun wx hW H => ?_
        clear H
        have n0 := hW.cell m0
        have n1 := hW.cell m1
        have n2 := hW.cell m2
        have n3 := hW.cell m3
        have n4 := hW.cell m4
        have n5 := hW.cell m5
        obtain ⟨po, no, co, k1, k2, k3, k4, k5, k6⟩ := HI.out
        have K1 := Lib.hid (ORow.keep k1 hW)
        have K2 := Lib.hid (ORow.keep k2 hW)
        have K3 := Lib.hid (k3.ext hW)
        have K4 := Lib.hid k4
        have K5 := Lib.hid (k5.trans hW)
        have K6 := Lib.hid k6
        have c4 := (k3.ext hW).cell (j := 4) (u := .slice po no co) rfl
        have HOW : Hid (∀ k, (Value.slice po no co).ownBlock = some k → k < wx.heap.size) := Lib.hid (own_lt K2.out)
        have HBB : Hid (C + 1 ≤ wx.heap.size) := Lib.hid (k3.ext hW).lt
        clear k1 k2 k3 k4 k5 k6 hW m0 m1 m2 m3 m4 m5 HI
        go_wp2_with fail
        apply wp_region_dagK 7 8 (fun a b => a.grownBy b (Value.slice po no co).ownBlock) (X := Ext) (by kernel_rfl) (by kernel_rfl) (by kernel_rfl) (by decide) (by decide) (fun _ _ _ => Ext.trans) (Ext.drew1 _)
        simp only [List.take_succ_cons, List.take_zero, List.drop_succ_cons, List.drop_zero]
        apply dagk_val Ext.refl rfl (by intro W hW H; go_simp <;> rfl)
        simp only [Act.put, List.setIfInBounds_toArray, List.set_cons_zero, List.set_cons_succ]
        apply dagk_val Ext.refl rfl (by intro W hW H; have hW := hW (by kernel_rfl); have q := hW.cell c4; go_simp <;> rfl)
        simp only [Act.put, List.setIfInBounds_toArray, List.set_cons_zero, List.set_cons_succ]
        apply dagk_val Ext.refl rfl (by intro W hW H; go_simp <;> rfl)
        simp only [Act.put, List.setIfInBounds_toArray, List.set_cons_zero, List.set_cons_succ]
        apply dagk_val Ext.refl rfl (by intro W hW H; go_simp <;> rfl)
        simp only [Act.put, List.setIfInBounds_toArray, List.set_cons_zero, List.set_cons_succ]
        apply dagk_val Ext.refl rfl (by intro W hW H; go_simp <;> rfl)
        simp only [Act.put, List.setIfInBounds_toArray, List.set_cons_zero, List.set_cons_succ]
        apply dagk_val Ext.refl rfl (by intro W hW H; have hW := hW (by kernel_rfl); have q0 := hW.cell n0; have q1 := hW.cell n1; have q2 := hW.cell n2; have q3 := hW.cell n3; have q4 := hW.cell n4; have q5 := hW.cell n5; go_simp <;> rfl)
        simp only [Act.put, List.setIfInBounds_toArray, List.set_cons_zero, List.set_cons_succ]
        refine' dagk_run (fun v W => LitR wx W x v) (fun v W1 W2 hs h => hs.elim (fun hx => h.ext hx) fun hz => h.grown hz.2 HOW.out) rfl (fun W hW H => ⟨.slice (some ⟨W.heap.size, 0, none⟩) 1 1, W.alloc (.cells (smCells x).toArray 69), (by unfold smCells; go_simp <;> rfl), stepk_x (Ext.alloc _ _) (by decide), ⟨_, rfl, heap_alloc_new _ _, (hW (by kernel_rfl)).size⟩⟩) (fun v5 => _)
        rotate_left
        simp only [Act.put, List.setIfInBounds_toArray, List.set_cons_zero, List.set_cons_succ]
        refine' dagk_run (fun v W => GrewS wx W (C + 1) (.slice po no co) v (ln ++ [x])) (fun v W1 W2 hs h => hs.elim (fun hx => h.keep hx) fun hz => absurd rfl hz.1) rfl (fun W hW H => (rsms_grows (vx := .slice po no co) (vy := v5) rfl rfl rfl K2.out (hW (by kernel_rfl)) (show LitR wx W x v5 from H 6 (by kernel_rfl)) HL1.out.2 HBB.out).imp fun v hv => hv.imp fun W' hw => ⟨hw.1, stepk_z hw.2.1, hw.2.2⟩) (fun v6 => _)
        rotate_left
        simp only [Act.put, List.setIfInBounds_toArray, List.set_cons_zero, List.set_cons_succ]
        refine dagk_end fun W1 H => ?_
        have hg1 : GrewS wx W1 (C + 1) (.slice po no co) v6 (ln ++ [x]) := H 7
        obtain ⟨hob, hfi⟩ := FeedI.stay K1.out K2.out K3.out K4.out K5.out K6.out hg1
        obtain ⟨p6, d6, e6, _, _⟩ := hg1.row.view.slice
        generalize (ln ++ [x]).length = n6 at e6
        subst e6
        have g4 := hob.cell (j := 4) (u := .slice po no co) rfl
        have gf := hob.free 4
        have HFI := Lib.hid hfi
        clear H hg1 hob hfi c4
        go_wp2_with fail
        go_roundg (L.length - (j + 1))
        case measure => omega
        case rel =>
          refine ⟨j + 1, _, rfl, congrArg (Value.int .i64) HQ.out, hlt, rfl, Lib.hid ?_⟩
          rw [HSN.out.1, HSN.out.2]
          exact HFI.out
    case neg =>
      have hje : j = L.length := by omega
      subst hje
      have hi : ¬ (L.length : Int) < (L.length : Int) := by omega
      obtain ⟨po, no, co, k1, k2, k3, k4, k5, k6⟩ := HI.out
      rw [List.take_length, HLN.out] at k1
      rw [List.take_length, HON.out] at k2
      have c0 := k3.cell (j := 0) (u := .int .i64 s.size) rfl
      have c1 := k3.cell (j := 1) (u := .int .i64 s.late) rfl
      have c2 := k3.cell (j := 2) (u := .int .i64 mark) rfl
      have c3 := k3.cell (j := 3) (u := .int .i64 s.drops) rfl
      have c4 := k3.cell (j := 4) (u := .slice po no co) rfl
      have ob9 := HB4.out.ext k5
      obtain ⟨px, cx, ex, _, _⟩ := k1.view.slice
      generalize LN.length = nx at ex
      subst ex
      have K1 := Lib.hid k1
      have K2 := Lib.hid k2
      have K5 := Lib.hid (HX4.out.trans k5)
      have K6 : Hid (w.heap.size + 1 < C) := Lib.hid (by have := HAL.out; omega)
      clear k1 k2 k3 k4 k5 k6 hlt HI
      go_wp2_with ((with_reducible show wpList _ _ _ (Oper.mk _ (Op.store _ _ _) _ _ _ _ :: _) _ _); refine st_put (vs := wtC ⟨s.size, s.late, mark, s.drops, ON⟩ (.slice po no co)) ob9 T.rwtSize rfl (wt_one _ rfl) ?_; intro w6 ob6 hg6)
      refine bodyPost_ret (rwt_results3 rfl _ _ (w.heap.size + 1) ⟨s.size, s.late, mark, s.drops, ON⟩ _ rfl ob6) rfl ?_
      refine ⟨_, _, rfl, SmO.view (SmO.kept K2.out hg6 (.inr fun e => ?_)), SmO.view (SmO.kept K1.out hg6 (.inr fun e => ?_)), K5.out.grown hg6 (Nat.le_succ _)⟩
      · have h1 := (ORow.own K2.out _ e).1
        have h2 := K6.out
        omega
      · have h1 := (ORow.own K1.out _ e).1
        have h2 := K6.out
        omega
theorem rfeed_any (s : Wt) (v : Value) (key : List UInt8) (time n : Int) (w : World) (h : SmV w v s.opn) :
    Calls Try.prog 11 #[wtv s v, .string ⟨key.toArray⟩, .int .i64 time, .int .i64 n] w (FeedR w (feedW s key time n)) := by
  by_cases hbad : checkW s ≠ 0 ∨ 64 < key.length ∨ inW time 0 1099511627776 = false ∨ numW n = false
  · exact rfeed_early s v key time n w h hbad
  · have hc : checkW s = 0 := by by_cases e : checkW s = 0; exact e; exact absurd (.inl e) hbad
    have h2 : ¬ 64 < key.length := fun e => hbad (.inr (.inl e))
    have h3 : inW time 0 1099511627776 = true := by cases e : inW time 0 1099511627776 with | true => rfl | false => exact absurd (.inr (.inr (.inl e))) hbad
    have h4 : numW n = true := by cases e : numW n with | true => rfl | false => exact absurd (.inr (.inr (.inr e))) hbad
    clear hbad
    cases h5 : lateW s (time - time % s.size) (max s.mark time) with
    | true => exact rfeed_late s v key time n w h hc h2 h3 h4 h5
    | false =>
      obtain ⟨L, er, hr⟩ : ∃ L er, addS s.opn (atS (time - time % s.size) key) n = (L, er) := ⟨_, _, rfl⟩
      by_cases h6 : er = 0
      · subst h6
        exact rfeed_ok s v key time n w h hc h2 h3 h4 h5 L hr
      · exact rfeed_full s v key time n w h hc h2 h3 h4 h5 L er hr h6
end Go.Proofs.Ytpejdompanhieaa
