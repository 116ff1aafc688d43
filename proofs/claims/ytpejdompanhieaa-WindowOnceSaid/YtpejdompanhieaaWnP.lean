/- What the program's Feed of layer 35 computes. What the program's add of layer 35 leaves of the boxes beside it. What the program's Feed of layer 35 computes: what is late, what is added, what closes. What the program's Feed of layer 35 computes: what is added, what closes. -/
import Derived.Test.YtpejdompanhieaaWnG
import Derived.Test.YtpejdompanhieaaWnB
namespace Go.Proofs.Ytpejdompanhieaa
open Go.RowKit

def feedP (s : Wt) (key : List UInt8) (time n : Int) : Wt × List Sm × Int := if (feedW s key time n).2.2 ≠ 0 then (wt0, [], (feedW s key time n).2.2) else feedW s key time n
/-- What Feed tells. -/
def FeedO (w : World) (r : Wt × List Sm × Int) (e : Ending) (w' : World) : Prop := ∃ v' lv, e = .returned (.tuple #[wtv r.1 v', lv, .int .i64 r.2.2]) ∧ SmO 64 w' w.heap.size v' r.1.opn ∧ SmO 64 w' w.heap.size lv r.2.1 ∧ Ext w w'
def FeedR (w : World) (r : Wt × List Sm × Int) (e : Ending) (w' : World) : Prop := ∃ v' lv, e = .returned (.tuple #[wtv r.1 v', lv, .int .i64 r.2.2]) ∧ SmV w' v' r.1.opn ∧ SmV w' lv r.2.1 ∧ Ext w w'
section
variable {s : Wt} {key : List UInt8} {time n : Int}
theorem feedP_bad (h : checkW s ≠ 0) : feedP s key time n = (wt0, [], checkW s) := by
  have e : feedW s key time n = (s, [], checkW s) := by unfold feedW; rw [if_pos h]
  unfold feedP; rw [e]; simp only; rw [if_pos h]
theorem feedP_long (h : checkW s = 0) (h2 : 64 < key.length) : feedP s key time n = (wt0, [], 5) := by
  have e : feedW s key time n = (s, [], 5) := by unfold feedW; rw [if_neg (by simp [h]), if_pos h2]
  unfold feedP; rw [e]; rfl
theorem feedP_out (h : checkW s = 0) (h2 : ¬ 64 < key.length) (h3 : inW time 0 1099511627776 = false ∨ numW n = false) : feedP s key time n = (wt0, [], 11) := by
  have e : feedW s key time n = (s, [], 11) := by unfold feedW; rw [if_neg (by simp [h]), if_neg h2, if_pos h3]
  unfold feedP; rw [e]; rfl
theorem feedP_late (h : checkW s = 0) (h2 : ¬ 64 < key.length) (h3 : inW time 0 1099511627776 = true) (h4 : numW n = true) (h5 : lateW s (time - time % s.size) (max s.mark time) = true) :
    feedP s key time n = (⟨s.size, s.late, s.mark, min (s.drops + 1) 1099511627776, s.opn⟩, [], 0) := by
  have e : feedW s key time n = (⟨s.size, s.late, s.mark, min (s.drops + 1) 1099511627776, s.opn⟩, [], 0) := by unfold feedW; rw [if_neg (by simp [h]), if_neg h2, if_neg (by simp [h3, h4])]; simp only; rw [if_pos h5]
  unfold feedP; rw [e]; rfl
theorem feedP_full (h : checkW s = 0) (h2 : ¬ 64 < key.length) (h3 : inW time 0 1099511627776 = true) (h4 : numW n = true) (h5 : lateW s (time - time % s.size) (max s.mark time) = false) (h6 : (addS s.opn (atS (time - time % s.size) key) n).2 ≠ 0) :
    feedP s key time n = (wt0, [], (addS s.opn (atS (time - time % s.size) key) n).2) := by
  have e : feedW s key time n = (s, [], (addS s.opn (atS (time - time % s.size) key) n).2) := by unfold feedW; rw [if_neg (by simp [h]), if_neg h2, if_neg (by simp [h3, h4])]; simp only; rw [if_neg (by simp [h5]), if_pos h6]
  unfold feedP; rw [e]; simp only; rw [if_pos h6]
theorem feedP_ok (h : checkW s = 0) (h2 : ¬ 64 < key.length) (h3 : inW time 0 1099511627776 = true) (h4 : numW n = true) (h5 : lateW s (time - time % s.size) (max s.mark time) = false) (h6 : (addS s.opn (atS (time - time % s.size) key) n).2 = 0) :
    feedP s key time n = (⟨s.size, s.late, max s.mark time, s.drops, (addS s.opn (atS (time - time % s.size) key) n).1.filter fun x => !(lateW s x.start (max s.mark time))⟩, (addS s.opn (atS (time - time % s.size) key) n).1.filter (fun x => lateW s x.start (max s.mark time)), 0) := by
  have e : feedW s key time n = (⟨s.size, s.late, max s.mark time, s.drops, (addS s.opn (atS (time - time % s.size) key) n).1.filter fun x => !(lateW s x.start (max s.mark time))⟩, (addS s.opn (atS (time - time % s.size) key) n).1.filter (fun x => lateW s x.start (max s.mark time)), 0) := by
    unfold feedW; rw [if_neg (by simp [h]), if_neg h2, if_neg (by simp [h3, h4])]; simp only; rw [if_neg (by simp [h5]), if_neg (by simp [h6])]
  unfold feedP; rw [e]; rfl
end
set_option maxHeartbeats 1000000 in
theorem feed_early (s : Wt) (v : Value) (key : List UInt8) (time n : Int) (w : World) (h : SmV w v s.opn) (_ : s.opn.length ≤ 100000) (hbad : checkW s ≠ 0 ∨ 64 < key.length ∨ inW time 0 1099511627776 = false ∨ numW n = false) :
    Calls Try.prog 10 #[wtv s v, .string ⟨key.toArray⟩, .int .i64 time, .int .i64 n] w (FeedO w (feedP s key time n)) := by
  have C1 := fun W hW => check_any s v W (h.ext hW)
  obtain ⟨oa, ob, hx0, hsz⟩ := objs2 w 31 31 (wtC s v) (wtC wt0 (.slice none 0 0))
  have a0 := oa.cell (j := 0) rfl
  have a1 := oa.cell (j := 1) rfl
  have a2 := oa.cell (j := 2) rfl
  have a3 := oa.cell (j := 3) rfl
  have a4 := oa.cell (j := 4) rfl
  have hk : (ByteArray.mk key.toArray).size = key.length := text_size _
  unfold wt0 at ob hx0
  clear hsz
  by_cases hc : checkW s = 0
  case neg =>
    rw [feedP_bad hc]
    have hb : (checkW s != 0) = true := by rw [bne_iff_ne]; exact hc
    generalize checkW s = k at *
    clear hc
    go_enter Try.func10, Try.ntmps10
    go_wp2_with (first
      | (go_at_call 20; refine (C1 _ hx0).mono ?_; rintro e w1 ⟨rfl, hx1⟩
         have ob1 := ob.ext hx1)
      | ((with_reducible show wpList _ _ _ (Oper.mk _ (Op.store _ _ _) _ _ _ _ :: _) _ _); refine st_put (vs := wtC wt0 (.slice none 0 0)) ob1 T.wtSize rfl (wt_one _ rfl) ?_; intro w4 ob4 hg4))
    refine bodyPost_ret (wt_results3 rfl _ _ (w.heap.size + 1) wt0 _ rfl ob4) rfl ?_
    exact ⟨_, _, rfl, ORow.nil _ _ _, ORow.nil _ _ _, (hx0.trans hx1).grown hg4 (Nat.le_succ _)⟩
  rw [hc] at C1
  by_cases h2 : 64 < key.length
  case pos =>
    rw [feedP_long hc h2]
    have hi2 : (64 : Int) < (key.length : Int) := by omega
    clear hbad hc h2
    go_enter Try.func10, Try.ntmps10
    go_wp2_with (first
      | (go_at_call 20; refine (C1 _ hx0).mono ?_; rintro e w1 ⟨rfl, hx1⟩
         have ob1 := ob.ext hx1)
      | ((with_reducible show wpList _ _ _ (Oper.mk _ (Op.store _ _ _) _ _ _ _ :: _) _ _); refine st_put (vs := wtC wt0 (.slice none 0 0)) ob1 T.wtSize rfl (wt_one _ rfl) ?_; intro w4 ob4 hg4))
    refine bodyPost_ret (wt_results3 rfl _ _ (w.heap.size + 1) wt0 _ rfl ob4) rfl ?_
    exact ⟨_, _, rfl, ORow.nil _ _ _, ORow.nil _ _ _, (hx0.trans hx1).grown hg4 (Nat.le_succ _)⟩
  have h3 : inW time 0 1099511627776 = false ∨ numW n = false := hbad.elim (fun e => absurd hc e) fun e => e.elim (fun e => absurd e h2) id
  rw [feedP_out hc h2 h3]
  have hi2 : ¬ (64 : Int) < (key.length : Int) := by omega
  clear hbad hc h2
  cases h4 : inW time 0 1099511627776 with
  | false =>
    clear h3
    go_enter Try.func10, Try.ntmps10
    go_wp2_with (first
      | (go_at_call 20; refine (C1 _ hx0).mono ?_; rintro e w1 ⟨rfl, hx1⟩
         have ob1 := ob.ext hx1)
      | (go_at_call 28; refine (within_any _ _ _ _).mono ?_; rintro e w' ⟨rfl, rfl⟩)
      | ((with_reducible show wpList _ _ _ (Oper.mk _ (Op.store _ _ _) _ _ _ _ :: _) _ _); refine st_put (vs := wtC wt0 (.slice none 0 0)) ob1 T.wtSize rfl (wt_one _ rfl) ?_; intro w4 ob4 hg4))
    refine bodyPost_ret (wt_results3 rfl _ _ (w.heap.size + 1) wt0 _ rfl ob4) rfl ?_
    exact ⟨_, _, rfl, ORow.nil _ _ _, ORow.nil _ _ _, (hx0.trans hx1).grown hg4 (Nat.le_succ _)⟩
  | true =>
    have h5 : numW n = false := h3.resolve_left (by simp [h4])
    clear h3
    go_enter Try.func10, Try.ntmps10
    go_wp2_with (first
      | (go_at_call 20; refine (C1 _ hx0).mono ?_; rintro e w1 ⟨rfl, hx1⟩
         have ob1 := ob.ext hx1)
      | (go_at_call 28; refine (within_any _ _ _ _).mono ?_; rintro e w' ⟨rfl, rfl⟩)
      | (go_at_call 29; refine (number_any _ _).mono ?_; rintro e w' ⟨rfl, rfl⟩)
      | ((with_reducible show wpList _ _ _ (Oper.mk _ (Op.store _ _ _) _ _ _ _ :: _) _ _); refine st_put (vs := wtC wt0 (.slice none 0 0)) ob1 T.wtSize rfl (wt_one _ rfl) ?_; intro w4 ob4 hg4))
    refine bodyPost_ret (wt_results3 rfl _ _ (w.heap.size + 1) wt0 _ rfl ob4) rfl ?_
    exact ⟨_, _, rfl, ORow.nil _ _ _, ORow.nil _ _ _, (hx0.trans hx1).grown hg4 (Nat.le_succ _)⟩
theorem addS_mem {l : List Sm} {p : Sm} {n : Int} {x : Sm} (h : x ∈ (addS l p n).1) : x.start = p.start ∨ ∃ y ∈ l, x.start = y.start := by
  rw [addS_def] at h
  by_cases hc : posS l p < l.length ∧ ordS (l.getD (posS l p) sm0) p = 0
  · rw [if_pos hc] at h
    have h1 : x ∈ l ∨ x = withS (l.getD (posS l p) sm0) n := by
      split at h
      · exact .inl h
      · exact (List.mem_or_eq_of_mem_set h)
    rcases h1 with h1 | rfl
    · exact .inr ⟨x, h1, rfl⟩
    · refine .inr ⟨l.getD (posS l p) sm0, ?_, rfl⟩
      rw [getD_sm hc.1]
      exact List.getElem_mem hc.1
  · rw [if_neg hc] at h
    split at h
    · exact .inr ⟨x, h, rfl⟩
    · rcases List.mem_append.1 h with h | h
      · exact .inr ⟨x, List.mem_of_mem_take h, rfl⟩
      · rcases List.mem_cons.1 h with rfl | h
        · exact .inl rfl
        · exact .inr ⟨x, List.mem_of_mem_drop h, rfl⟩
theorem addS_len {l : List Sm} {p : Sm} {n : Int} (hl : l.length ≤ 256) : (addS l p n).1.length ≤ 256 := by
  rw [addS_def]
  have := posS_le l p
  by_cases hc : posS l p < l.length ∧ ordS (l.getD (posS l p) sm0) p = 0
  · rw [if_pos hc]
    split
    · exact hl
    · simp only [List.length_set]; exact hl
  · rw [if_neg hc]
    split
    · exact hl
    · rename_i h; simp only [List.length_append, List.length_take, List.length_cons, List.length_drop]; omega
/-- What add has done, for one who keeps boxes beside it. -/
def AddF (w w' : World) (g B : Nat) (s : Wt) (l : List Sm) : Prop := ∃ p4 d4, ObjAt w' g 31 (wtC s (.slice p4 l.length d4)) ∧ SmO 64 w' B (.slice p4 l.length d4) l ∧ (Value.slice p4 l.length d4).ownBlock ≠ some g ∧ l.length ≤ d4 ∧ Below B w w' ∧ ∀ k, g < k → k < w.heap.size → w'.heap[k]? = w.heap[k]?
theorem add_feed (g B : Nat) (s : Wt) (v : Value) (st : Int) (key : List UInt8) (n : Int) (w : World) (ho : ObjAt w g 31 (wtC s v)) (hv : SmO 64 w B v s.opn) (hB : B ≤ g) (hlt : ∀ k, v.ownBlock = some k → k < g) (hc : checkW s = 0) (hn : numW n = true) :
    Calls Try.prog 32 #[.pointer (some ⟨g, 0, none⟩), .agg #[.int .i64 st, .string ⟨key.toArray⟩], .int .i64 n] w fun e w' => e = .returned (.int .i64 (addS s.opn (atS st key) n).2) ∧ ((addS s.opn (atS st key) n).2 ≠ 0 → Ext w w') ∧ ((addS s.opn (atS st key) n).2 = 0 → AddF w w' g B s (addS s.opn (atS st key) n).1) := by
  obtain ⟨b1, b2, b3, b4, b5, b6, b7, b8, b9, b10, b11⟩ := checkW_ok hc
  have hg := ho.lt
  refine (add_any g B s v st key n w ho hv (by omega) (fun e => Nat.lt_irrefl _ (hlt g e)) b11 b9 (fun x hx => ?_) hn).mono ?_
  · have h1 := mayS_in (b10 x hx)
    have h2 := mayS_total (b10 x hx)
    omega
  · rintro e w' ⟨rfl, h1, h2⟩
    refine ⟨rfl, h1, fun hz => ?_⟩
    obtain ⟨v', k1, k2, k3, wa, k4, k5⟩ := h2 hz
    obtain ⟨p4, d4, rfl, k6, _⟩ := k2.view.slice
    have k7 := ORow.own k2
    have k8 := ORow.own hv
    refine ⟨p4, d4, k1, k2, k3, k6, ?_, fun k hk hkw => ?_⟩
    · exact Below.trans (Below.grown (Below.refl B w) k4 (by omega) fun k e => (k8 k e).1) (Below.grown (Below.refl B wa) k5 (by have := k4.size; omega) fun k e => by cases e; omega)
    · refine (k5.block k (by have := k4.size; omega) (fun e => ?_)).trans (k4.block k hkw (fun e => ?_))
      · cases e; omega
      · have := hlt k e.symm; omega
set_option maxRecDepth 20000 in
set_option maxHeartbeats 2000000 in
theorem feed_late (s : Wt) (v : Value) (key : List UInt8) (time n : Int) (w : World) (h : SmV w v s.opn) (hc : checkW s = 0) (h2 : ¬ 64 < key.length) (h3 : inW time 0 1099511627776 = true) (h4 : numW n = true) (h5 : lateW s (time - time % s.size) (max s.mark time) = true) :
    Calls Try.prog 10 #[wtv s v, .string ⟨key.toArray⟩, .int .i64 time, .int .i64 n] w (FeedO w (feedP s key time n)) := by
  rw [feedP_late hc h2 h3 h4 h5]
  have hbd := checkW_ok hc
  obtain ⟨b1, b2, b3, b4, b5, b6, b7, b8, b9, b10, b11⟩ := hbd
  have ht := h3
  unfold inW at ht
  simp only [Bool.and_eq_true, decide_eq_true_eq] at ht
  have hk : (ByteArray.mk key.toArray).size = key.length := text_size _
  have hi2 : decide ((64 : Int) < (key.length : Int)) = false := by rw [decide_eq_false_iff_not]; omega
  have hm0 : time.tmod s.size = time % s.size := Int.tmod_eq_emod_of_nonneg ht.1
  have hm1 : 0 ≤ time % s.size := Int.emod_nonneg _ (by omega)
  have hm2 : time % s.size ≤ time := by
    have e1 := Int.emod_add_mul_ediv time s.size
    have e2 : 0 ≤ time / s.size := Int.ediv_nonneg ht.1 (by omega)
    have e3 : 0 ≤ s.size * (time / s.size) := Int.mul_nonneg (by omega) e2
    omega
  have hz : ¬ s.size = 0 := by omega
  have C1 := fun W hW => check_any s v W (h.ext hW)
  rw [hc] at C1
  have O1 := fun W hW => own_any s v W (h.ext hW) (by omega)
  generalize hst : time - time % s.size = start at *
  generalize hmk : max s.mark time = mark at *
  have hst1 : 0 ≤ start ∧ start ≤ 1099511627776 := by omega
  have L1 := fun W => late_any s v start mark ⟨by omega, by omega, by omega, by omega, by omega, by omega⟩ W
  have hws : wrap64 start = start := by unfold wrap64; omega
  have HMK := Lib.hid hmk
  obtain ⟨oa, ob, hx0, hsz⟩ := objs2 w 31 31 (wtC s v) (wtC wt0 (.slice none 0 0))
  have a0 := oa.cell (j := 0) rfl
  have a1 := oa.cell (j := 1) rfl
  have a2 := oa.cell (j := 2) rfl
  have a3 := oa.cell (j := 3) rfl
  have a4 := oa.cell (j := 4) rfl
  unfold wt0 at ob hx0 hsz
  have HSZ := Lib.hid hsz
  rw [h5] at L1
  have hdr : wrap64 (s.drops + 1) = s.drops + 1 := by unfold wrap64; omega
  clear hmk hsz b1 b2 b3 b4 b5 b6 b7 b8 b9 b10 b11 h5 hst1 hm1 hm2
  go_enter Try.func10, Try.ntmps10
  go_wp2_with (first
    | (go_at_call 20; refine (C1 _ hx0).mono ?_; rintro e w1 ⟨rfl, hx1⟩
       have oa1 := oa.ext hx1
       have ob1 := ob.ext hx1
       have b0 := hx1.cell a0
       have b1 := hx1.cell a1
       have b2 := hx1.cell a2
       have b3 := hx1.cell a3
       have b4 := hx1.cell a4)
    | (go_at_call 28; refine (within_any _ _ _ _).mono ?_; rintro e w' ⟨rfl, rfl⟩)
    | (go_at_call 29; refine (number_any _ _).mono ?_; rintro e w' ⟨rfl, rfl⟩)
    | (go_at_call 30; refine (O1 _ (hx0.trans hx1)).mono ?_; rintro e w2 ⟨v2, rfl, ho2, hx2⟩
       obtain ⟨p2, d2, e2, _, _⟩ := ho2.view.slice
       have oa2 := oa1.ext hx2
       have ob2 := ob1.ext hx2
       have c0 := oa2.cell (j := 0) rfl
       have c1 := oa2.cell (j := 1) rfl
       have c2 := oa2.cell (j := 2) rfl
       have c3 := oa2.cell (j := 3) rfl
       have c4 := oa2.cell (j := 4) rfl
       have HO2 := Lib.hid ho2
       have HX2 := Lib.hid ((hx0.trans hx1).trans hx2)
       have HSB : Hid (w.heap.size + 2 ≤ w1.heap.size ∧ w1.heap.size ≤ w2.heap.size) := Lib.hid ⟨HSZ.out ▸ hx1.size, hx2.size⟩
       clear ho2
       generalize s.opn.length = n2 at e2
       subst e2
       obtain ⟨o12, o13, o14, hx5, hsz5⟩ := objs3 w2 31 74 3 (wtC s (.slice p2 n2 d2)) [.int .i64 start, .string ⟨key.toArray⟩] [.int .i64 mark]
       have HSZ5 := Lib.hid hsz5
       have j0 := (oa2.ext (Ext.alloc w2 (.cells #[.int .i64 s.size, .int .i64 s.late, .int .i64 s.mark, .int .i64 s.drops, .slice p2 n2 d2] 31))).cell (j := 0) rfl
       have j2 := ((oa2.ext (Ext.alloc w2 (.cells #[.int .i64 s.size, .int .i64 s.late, .int .i64 s.mark, .int .i64 s.drops, .slice p2 n2 d2] 31))).ext (Ext.alloc _ (.cells #[.int .i64 start, .string ⟨key.toArray⟩] 74))).cell (j := 2) rfl
       have q0 := o12.cell (j := 0) rfl
       have q1 := o12.cell (j := 1) rfl
       have q2 := o12.cell (j := 2) rfl
       have q3 := o12.cell (j := 3) rfl
       have q4 := o12.cell (j := 4) rfl
       have r0 := o13.cell (j := 0) rfl
       have r1 := o13.cell (j := 1) rfl
       have t0 := o14.cell (j := 0) rfl
       have oa5 := oa2.ext hx5
       have k0 := oa5.cell (j := 0) rfl
       have k1 := oa5.cell (j := 1) rfl
       have k2 := oa5.cell (j := 2) rfl
       have k3 := oa5.cell (j := 3) rfl
       have k4 := oa5.cell (j := 4) rfl
       clear hsz5)
    | ((with_reducible show wpList _ _ _ (Oper.mk _ (Op.call { callee := Callee.builtin Builtin.max, args := _, argTypes := _ }) _ _ _ _ :: _) _ _); refine wpList_run rfl (run_max rfl rfl rfl _) ?_; rw [HMK.out])
    | (go_at_call 31; refine (L1 _).mono ?_; rintro e w3 ⟨rfl, hx3⟩
       have HX3 := Lib.hid (HX2.out.trans (hx5.trans hx3))
       have HS3 : Hid (w2.heap.size + 3 ≤ w3.heap.size) := Lib.hid (HSZ5.out ▸ hx3.size)
       have o12a := o12.ext hx3
       have m3 := o12a.cell (j := 3) rfl
       have f3 := o12a.free 3
       have o12b := o12a.store 3 (.int .i64 (min (s.drops + 1) 1099511627776))
       have m0 := o12b.cell (j := 0) rfl
       have m1 := o12b.cell (j := 1) rfl
       have m2 := o12b.cell (j := 2) rfl
       have m4 := o12b.cell (j := 4) rfl
       have m5 := o12b.cell (j := 3) rfl
       have ob3 : ObjAt (w3.setCell ⟨w2.heap.size, 3, none⟩ (.int .i64 (min (s.drops + 1) 1099511627776))) (w.heap.size + 1) 31 [.int .i64 0, .int .i64 0, .int .i64 0, .int .i64 0, .slice none 0 0] := ((ob2.ext hx5).ext hx3).far (p := ⟨w2.heap.size, 3, none⟩) (by have := HSB.out; show w.heap.size + 1 ≠ w2.heap.size; omega) _)
    | ((with_reducible show wpList _ _ _ (Oper.mk _ (Op.call { callee := Callee.builtin Builtin.min, args := _, argTypes := _ }) _ _ _ _ :: _) _ _); refine wpList_run rfl (run_min rfl rfl rfl _) ?_)
    | ((with_reducible show wpList _ _ _ (Oper.mk _ (Op.store _ _ _) _ _ _ _ :: _) _ _); have hq := m5; refine st_put (vs := wtC ⟨s.size, s.late, s.mark, min (s.drops + 1) 1099511627776, s.opn⟩ (.slice p2 n2 d2)) ob3 T.wtSize rfl (wt_one _ rfl) ?_; intro w6 ob6 hg6))
  refine bodyPost_ret (wt_results3 rfl _ _ (w.heap.size + 1) ⟨s.size, s.late, s.mark, min (s.drops + 1) 1099511627776, s.opn⟩ _ rfl ob6) rfl ?_
  have hown := ORow.own HO2.out
  have hsb := HSB.out
  refine ⟨_, _, rfl, ORow.base (SmO.kept (SmO.kept (ORow.keep HO2.out (hx5.trans hx3)) (grown_set w3 ⟨w2.heap.size, 3, none⟩ _) ?_) hg6 ?_) (by omega), ORow.nil _ _ _, (HX3.out.grown (grown_set w3 ⟨w2.heap.size, 3, none⟩ _) (by show w.heap.size ≤ w2.heap.size; omega)).grown hg6 (Nat.le_succ _)⟩
  · refine .inr fun e => ?_
    have : w2.heap.size < w2.heap.size := (hown _ e).2
    omega
  · refine .inr fun e => ?_
    have := (hown _ e).1
    omega
set_option maxRecDepth 20000 in
set_option maxHeartbeats 4000000 in
theorem feed_full (s : Wt) (v : Value) (key : List UInt8) (time n : Int) (w : World) (h : SmV w v s.opn) (hc : checkW s = 0) (h2 : ¬ 64 < key.length) (h3 : inW time 0 1099511627776 = true) (h4 : numW n = true) (h5 : lateW s (time - time % s.size) (max s.mark time) = false) (L : List Sm) (er : Int) (hr : addS s.opn (atS (time - time % s.size) key) n = (L, er)) (h6 : er ≠ 0) :
    Calls Try.prog 10 #[wtv s v, .string ⟨key.toArray⟩, .int .i64 time, .int .i64 n] w (FeedO w (feedP s key time n)) := by
  rw [feedP_full hc h2 h3 h4 h5 (by rw [hr]; exact h6), hr]
  have hbd := checkW_ok hc
  obtain ⟨b1, b2, b3, b4, b5, b6, b7, b8, b9, b10, b11⟩ := hbd
  have ht := h3
  unfold inW at ht
  simp only [Bool.and_eq_true, decide_eq_true_eq] at ht
  have hk : (ByteArray.mk key.toArray).size = key.length := text_size _
  have hi2 : decide ((64 : Int) < (key.length : Int)) = false := by rw [decide_eq_false_iff_not]; omega
  have hm0 : time.tmod s.size = time % s.size := Int.tmod_eq_emod_of_nonneg ht.1
  have hm1 : 0 ≤ time % s.size := Int.emod_nonneg _ (by omega)
  have hm2 : time % s.size ≤ time := by
    have e1 := Int.emod_add_mul_ediv time s.size
    have e2 : 0 ≤ time / s.size := Int.ediv_nonneg ht.1 (by omega)
    have e3 : 0 ≤ s.size * (time / s.size) := Int.mul_nonneg (by omega) e2
    omega
  have hz : ¬ s.size = 0 := by omega
  have C1 := fun W hW => check_any s v W (h.ext hW)
  rw [hc] at C1
  have O1 := fun W hW => own_any s v W (h.ext hW) (by omega)
  generalize hst : time - time % s.size = start at *
  generalize hmk : max s.mark time = mark at *
  have hst1 : 0 ≤ start ∧ start ≤ 1099511627776 := by omega
  have L1 := fun W => late_any s v start mark ⟨by omega, by omega, by omega, by omega, by omega, by omega⟩ W
  have hws : wrap64 start = start := by unfold wrap64; omega
  have HMK := Lib.hid hmk
  obtain ⟨oa, ob, hx0, hsz⟩ := objs2 w 31 31 (wtC s v) (wtC wt0 (.slice none 0 0))
  have a0 := oa.cell (j := 0) rfl
  have a1 := oa.cell (j := 1) rfl
  have a2 := oa.cell (j := 2) rfl
  have a3 := oa.cell (j := 3) rfl
  have a4 := oa.cell (j := 4) rfl
  unfold wt0 at ob hx0 hsz
  have HSZ := Lib.hid hsz
  rw [h5] at L1
  have A1 := fun g B v w ho hv hB hlt => add_feed g B s v start key n w ho hv hB hlt hc h4
  rw [hr] at A1
  simp only at A1
  have HNZ := Lib.hid h6
  have hb : (er != 0) = true := by rw [bne_iff_ne]; exact h6
  clear h6
  clear hmk hsz b1 b2 b3 b4 b5 b6 b7 b8 b9 b10 b11 h5 hst1 hm1 hm2 hr
  go_enter Try.func10, Try.ntmps10
  go_wp2_with (first
    | (go_at_call 20; refine (C1 _ hx0).mono ?_; rintro e w1 ⟨rfl, hx1⟩
       have oa1 := oa.ext hx1
       have ob1 := ob.ext hx1
       have b0 := hx1.cell a0
       have b1 := hx1.cell a1
       have b2 := hx1.cell a2
       have b3 := hx1.cell a3
       have b4 := hx1.cell a4)
    | (go_at_call 28; refine (within_any _ _ _ _).mono ?_; rintro e w' ⟨rfl, rfl⟩)
    | (go_at_call 29; refine (number_any _ _).mono ?_; rintro e w' ⟨rfl, rfl⟩)
    | (go_at_call 30; refine (O1 _ (hx0.trans hx1)).mono ?_; rintro e w2 ⟨v2, rfl, ho2, hx2⟩
       obtain ⟨p2, d2, e2, _, _⟩ := ho2.view.slice
       have oa2 := oa1.ext hx2
       have ob2 := ob1.ext hx2
       have c0 := oa2.cell (j := 0) rfl
       have c1 := oa2.cell (j := 1) rfl
       have c2 := oa2.cell (j := 2) rfl
       have c3 := oa2.cell (j := 3) rfl
       have c4 := oa2.cell (j := 4) rfl
       have HO2 := Lib.hid ho2
       have HX2 := Lib.hid ((hx0.trans hx1).trans hx2)
       have HSB : Hid (w.heap.size + 2 ≤ w1.heap.size ∧ w1.heap.size ≤ w2.heap.size) := Lib.hid ⟨HSZ.out ▸ hx1.size, hx2.size⟩
       clear ho2
       generalize s.opn.length = n2 at e2
       subst e2
       obtain ⟨o12, o13, o14, hx5, hsz5⟩ := objs3 w2 31 74 3 (wtC s (.slice p2 n2 d2)) [.int .i64 start, .string ⟨key.toArray⟩] [.int .i64 mark]
       have HSZ5 := Lib.hid hsz5
       have j0 := (oa2.ext (Ext.alloc w2 (.cells #[.int .i64 s.size, .int .i64 s.late, .int .i64 s.mark, .int .i64 s.drops, .slice p2 n2 d2] 31))).cell (j := 0) rfl
       have j2 := ((oa2.ext (Ext.alloc w2 (.cells #[.int .i64 s.size, .int .i64 s.late, .int .i64 s.mark, .int .i64 s.drops, .slice p2 n2 d2] 31))).ext (Ext.alloc _ (.cells #[.int .i64 start, .string ⟨key.toArray⟩] 74))).cell (j := 2) rfl
       have q0 := o12.cell (j := 0) rfl
       have q1 := o12.cell (j := 1) rfl
       have q2 := o12.cell (j := 2) rfl
       have q3 := o12.cell (j := 3) rfl
       have q4 := o12.cell (j := 4) rfl
       have r0 := o13.cell (j := 0) rfl
       have r1 := o13.cell (j := 1) rfl
       have t0 := o14.cell (j := 0) rfl
       have oa5 := oa2.ext hx5
       have k0 := oa5.cell (j := 0) rfl
       have k1 := oa5.cell (j := 1) rfl
       have k2 := oa5.cell (j := 2) rfl
       have k3 := oa5.cell (j := 3) rfl
       have k4 := oa5.cell (j := 4) rfl
       clear hsz5)
    | ((with_reducible show wpList _ _ _ (Oper.mk _ (Op.call { callee := Callee.builtin Builtin.max, args := _, argTypes := _ }) _ _ _ _ :: _) _ _); refine wpList_run rfl (run_max rfl rfl rfl _) ?_; rw [HMK.out])
    | (go_at_call 31; refine (L1 _).mono ?_; rintro e w3 ⟨rfl, hx3⟩
       have HX3 := Lib.hid (HX2.out.trans (hx5.trans hx3))
       have HS3 : Hid (w2.heap.size + 3 ≤ w3.heap.size) := Lib.hid (HSZ5.out ▸ hx3.size)
       have oa3 := oa5.ext hx3
       have ob3 := (ob2.ext hx5).ext hx3
       have o12a := o12.ext hx3
       have o13a := o13.ext hx3
       have o14a := o14.ext hx3
       have r3 := o13a.cell (j := 0) rfl
       have r4 := o13a.cell (j := 1) rfl
       have HO3 := Lib.hid (ORow.keep HO2.out (hx5.trans hx3))
       have HOWN := Lib.hid (ORow.own HO2.out))
    | (go_at_call 32; refine (A1 w2.heap.size w1.heap.size (.slice p2 n2 d2) w3 o12a HO3.out HSB.out.2 fun k hk => (HOWN.out k hk).2).mono ?_; rintro e w4 ⟨rfl, hw4⟩
       have hx4 := hw4.1 HNZ.out
       have ob4 := ob3.ext hx4
       have HX4 := Lib.hid (HX3.out.trans hx4)
       clear hw4)
    | ((with_reducible show wpList _ _ _ (Oper.mk _ (Op.store _ _ _) _ _ _ _ :: _) _ _); refine st_put (vs := wtC wt0 (.slice none 0 0)) ob4 T.wtSize rfl (wt_one _ rfl) ?_; intro w6 ob6 hg6))
  refine bodyPost_ret (wt_results3 rfl _ _ (w.heap.size + 1) wt0 _ rfl ob6) rfl ?_
  exact ⟨_, _, rfl, ORow.nil _ _ _, ORow.nil _ _ _, HX4.out.grown hg6 (Nat.le_succ _)⟩
set_option maxRecDepth 20000 in
set_option maxHeartbeats 4000000 in
theorem feed_none (s : Wt) (v : Value) (key : List UInt8) (time n : Int) (w : World) (h : SmV w v s.opn) (hc : checkW s = 0) (h2 : ¬ 64 < key.length) (h3 : inW time 0 1099511627776 = true) (h4 : numW n = true) (h5 : lateW s (time - time % s.size) (max s.mark time) = false) (L : List Sm) (hr : addS s.opn (atS (time - time % s.size) key) n = (L, 0)) (hpl : placeF (fun x => !(lateW s x.start (max s.mark time))) L = -1) (hf : L.filter (fun x => lateW s x.start (max s.mark time)) = L.take L.length) (hg : L.filter (fun x => !(lateW s x.start (max s.mark time))) = L.drop L.length) :
    Calls Try.prog 10 #[wtv s v, .string ⟨key.toArray⟩, .int .i64 time, .int .i64 n] w (FeedO w (feedP s key time n)) := by
  rw [feedP_ok hc h2 h3 h4 h5 (by rw [hr]), hr]
  simp only
  rw [hf, hg, List.take_length, List.drop_length]
  have hbd := checkW_ok hc
  obtain ⟨b1, b2, b3, b4, b5, b6, b7, b8, b9, b10, b11⟩ := hbd
  have ht := h3
  unfold inW at ht
  simp only [Bool.and_eq_true, decide_eq_true_eq] at ht
  have hk : (ByteArray.mk key.toArray).size = key.length := text_size _
  have hi2 : decide ((64 : Int) < (key.length : Int)) = false := by rw [decide_eq_false_iff_not]; omega
  have hm0 : time.tmod s.size = time % s.size := Int.tmod_eq_emod_of_nonneg ht.1
  have hm1 : 0 ≤ time % s.size := Int.emod_nonneg _ (by omega)
  have hm2 : time % s.size ≤ time := by
    have e1 := Int.emod_add_mul_ediv time s.size
    have e2 : 0 ≤ time / s.size := Int.ediv_nonneg ht.1 (by omega)
    have e3 : 0 ≤ s.size * (time / s.size) := Int.mul_nonneg (by omega) e2
    omega
  have hz : ¬ s.size = 0 := by omega
  have C1 := fun W hW => check_any s v W (h.ext hW)
  rw [hc] at C1
  have O1 := fun W hW => own_any s v W (h.ext hW) (by omega)
  generalize hst : time - time % s.size = start at *
  generalize hmk : max s.mark time = mark at *
  have hst1 : 0 ≤ start ∧ start ≤ 1099511627776 := by omega
  have L1 := fun W => late_any s v start mark ⟨by omega, by omega, by omega, by omega, by omega, by omega⟩ W
  have hws : wrap64 start = start := by unfold wrap64; omega
  have HMK := Lib.hid hmk
  obtain ⟨oa, ob, hx0, hsz⟩ := objs2 w 31 31 (wtC s v) (wtC wt0 (.slice none 0 0))
  have a0 := oa.cell (j := 0) rfl
  have a1 := oa.cell (j := 1) rfl
  have a2 := oa.cell (j := 2) rfl
  have a3 := oa.cell (j := 3) rfl
  have a4 := oa.cell (j := 4) rfl
  unfold wt0 at ob hx0 hsz
  have HSZ := Lib.hid hsz
  rw [h5] at L1
  have A1 := fun g B v w ho hv hB hlt => add_feed g B s v start key n w ho hv hB hlt hc h4
  rw [hr] at A1
  simp only at A1
  have HLM : Hid (∀ x ∈ L, 0 ≤ s.size ∧ s.size ≤ 1048576 ∧ 0 ≤ s.late ∧ s.late ≤ 1048576 ∧ 0 ≤ x.start ∧ x.start ≤ 1099511627776) := Lib.hid fun x hx => by
    have h7 := addS_mem (l := s.opn) (p := atS start key) (n := n) (x := x) (by rw [hr]; exact hx)
    rcases h7 with h7 | ⟨y, hy, h7⟩
    · have e7 : x.start = start := h7
      omega
    · have := mayS_in (b10 y hy)
      omega
  have HLL : Hid (L.length ≤ 256) := Lib.hid (by have := addS_len (p := atS start key) (n := n) b9; rw [hr] at this; exact this)
  have HKL : Hid (L.length ≤ L.length) := Lib.hid (Nat.le_refl _)
  have HPL := Lib.hid hpl
  clear hpl hf hg
  clear hmk hsz b1 b2 b3 b4 b5 b6 b7 b8 b9 b10 b11 h5 hst1 hm1 hm2 hr
  go_enter Try.func10, Try.ntmps10
  go_wp2_with (first
    | (go_at_call 20; refine (C1 _ hx0).mono ?_; rintro e w1 ⟨rfl, hx1⟩
       have oa1 := oa.ext hx1
       have ob1 := ob.ext hx1
       have b0 := hx1.cell a0
       have b1 := hx1.cell a1
       have b2 := hx1.cell a2
       have b3 := hx1.cell a3
       have b4 := hx1.cell a4)
    | (go_at_call 28; refine (within_any _ _ _ _).mono ?_; rintro e w' ⟨rfl, rfl⟩)
    | (go_at_call 29; refine (number_any _ _).mono ?_; rintro e w' ⟨rfl, rfl⟩)
    | (go_at_call 30; refine (O1 _ (hx0.trans hx1)).mono ?_; rintro e w2 ⟨v2, rfl, ho2, hx2⟩
       obtain ⟨p2, d2, e2, _, _⟩ := ho2.view.slice
       have oa2 := oa1.ext hx2
       have ob2 := ob1.ext hx2
       have c0 := oa2.cell (j := 0) rfl
       have c1 := oa2.cell (j := 1) rfl
       have c2 := oa2.cell (j := 2) rfl
       have c3 := oa2.cell (j := 3) rfl
       have c4 := oa2.cell (j := 4) rfl
       have HO2 := Lib.hid ho2
       have HX2 := Lib.hid ((hx0.trans hx1).trans hx2)
       have HSB : Hid (w.heap.size + 2 ≤ w1.heap.size ∧ w1.heap.size ≤ w2.heap.size) := Lib.hid ⟨HSZ.out ▸ hx1.size, hx2.size⟩
       clear ho2
       generalize s.opn.length = n2 at e2
       subst e2
       obtain ⟨o12, o13, o14, hx5, hsz5⟩ := objs3 w2 31 74 3 (wtC s (.slice p2 n2 d2)) [.int .i64 start, .string ⟨key.toArray⟩] [.int .i64 mark]
       have HSZ5 := Lib.hid hsz5
       have j0 := (oa2.ext (Ext.alloc w2 (.cells #[.int .i64 s.size, .int .i64 s.late, .int .i64 s.mark, .int .i64 s.drops, .slice p2 n2 d2] 31))).cell (j := 0) rfl
       have j2 := ((oa2.ext (Ext.alloc w2 (.cells #[.int .i64 s.size, .int .i64 s.late, .int .i64 s.mark, .int .i64 s.drops, .slice p2 n2 d2] 31))).ext (Ext.alloc _ (.cells #[.int .i64 start, .string ⟨key.toArray⟩] 74))).cell (j := 2) rfl
       have q0 := o12.cell (j := 0) rfl
       have q1 := o12.cell (j := 1) rfl
       have q2 := o12.cell (j := 2) rfl
       have q3 := o12.cell (j := 3) rfl
       have q4 := o12.cell (j := 4) rfl
       have r0 := o13.cell (j := 0) rfl
       have r1 := o13.cell (j := 1) rfl
       have t0 := o14.cell (j := 0) rfl
       have oa5 := oa2.ext hx5
       have k0 := oa5.cell (j := 0) rfl
       have k1 := oa5.cell (j := 1) rfl
       have k2 := oa5.cell (j := 2) rfl
       have k3 := oa5.cell (j := 3) rfl
       have k4 := oa5.cell (j := 4) rfl
       clear hsz5)
    | ((with_reducible show wpList _ _ _ (Oper.mk _ (Op.call { callee := Callee.builtin Builtin.max, args := _, argTypes := _ }) _ _ _ _ :: _) _ _); refine wpList_run rfl (run_max rfl rfl rfl _) ?_; rw [HMK.out])
    | (go_at_call 31; refine (L1 _).mono ?_; rintro e w3 ⟨rfl, hx3⟩
       have HX3 := Lib.hid (HX2.out.trans (hx5.trans hx3))
       have HS3 : Hid (w2.heap.size + 3 ≤ w3.heap.size) := Lib.hid (HSZ5.out ▸ hx3.size)
       have oa3 := oa5.ext hx3
       have ob3 := (ob2.ext hx5).ext hx3
       have o12a := o12.ext hx3
       have o13a := o13.ext hx3
       have o14a := o14.ext hx3
       have r3 := o13a.cell (j := 0) rfl
       have r4 := o13a.cell (j := 1) rfl
       have HO3 := Lib.hid (ORow.keep HO2.out (hx5.trans hx3))
       have HOWN := Lib.hid (ORow.own HO2.out))
    | (go_at_call 32; refine (A1 w2.heap.size w1.heap.size (.slice p2 n2 d2) w3 o12a HO3.out HSB.out.2 fun k hk => (HOWN.out k hk).2).mono ?_; rintro e w4 ⟨rfl, hw4⟩
       obtain ⟨p4, d4, oc4, ho4, hne4, hd4, hbl, hbt⟩ := hw4.2 trivial
       have HX4 := Lib.hid (HX3.out.thenBelow (hbl.mono (by have := HSB.out; omega)))
       have oa4 : ObjAt w4 w.heap.size 31 (wtC s v) := (hbl.block _ (by have := HSB.out; omega)).trans oa3
       have ob4 : ObjAt w4 (w.heap.size + 1) 31 (wtC wt0 (.slice none 0 0)) := (hbl.block _ (by have := HSB.out; omega)).trans ob3
       have od4 : ObjAt w4 (w2.heap.size + 2) 3 [.int .i64 mark] := (hbt _ (by omega) (by have := HS3.out; omega)).trans o14a
       have HB4 := Lib.hid hbl.size
       clear hw4 hbl hbt
       have e0 := od4.cell (j := 0) rfl
       have f2 := oc4.free 2
       have c2' := oc4.cell (j := 2) rfl
       have oa6 := oa4.far (p := ⟨w2.heap.size, 2, none⟩) (by have := HSB.out; show w.heap.size ≠ w2.heap.size; omega) (.int .i64 mark)
       have ob6 := ob4.far (p := ⟨w2.heap.size, 2, none⟩) (by have := HSB.out; show w.heap.size + 1 ≠ w2.heap.size; omega) (.int .i64 mark)
       have oc6 := oc4.store 2 (.int .i64 mark)
       have od6 := od4.far (p := ⟨w2.heap.size, 2, none⟩) (by show w2.heap.size + 2 ≠ w2.heap.size; omega) (.int .i64 mark)
       have c6 := oc6.cell (j := 4) rfl
       have HO6 := Lib.hid (SmO.kept ho4 (grown_set w4 ⟨w2.heap.size, 2, none⟩ (.int .i64 mark)) (.inr hne4))
       have HX6 := Lib.hid (HX4.out.grown (grown_set w4 ⟨w2.heap.size, 2, none⟩ (.int .i64 mark)) (by have := HSB.out; show w.heap.size ≤ w2.heap.size; omega))
       clear ho4 hne4)
    | (go_at_call 33; refine (idxLate_any w.heap.size (w2.heap.size + 2) (fun x => !(lateW s x.start mark)) (.slice p4 L.length d4) L _ (SmO.view HO6.out) fun x W hx hW => lateC_any w.heap.size (w2.heap.size + 2) s v mark x W (HLM.out x hx) (oa6.ext hW) (od6.ext hW)).mono ?_; rw [HPL.out]; rintro e w7 ⟨rfl, hx7⟩
       have ob7 := ob6.ext hx7
       have oc7 := oc6.ext hx7
       have c7 := oc7.cell (j := 4) rfl
       have HO7 := Lib.hid (SmO.view (ORow.keep HO6.out hx7))
       have HX7 := Lib.hid (HX6.out.trans hx7))
    | ((with_reducible show wpList _ _ _ (Oper.mk _ (Op.slice _ _ _ _ _) _ _ _ _ :: _) _ _); first | refine st_sliceTo T.sms L.length d4 ?_ | refine st_slice T.sms L.length L.length d4 ?_)
    | (go_at_call 35; have hq := hx8; refine (cloneW_any _ ([] : List Sm) _ (by have h7 := SRow.drop (HO7.out.ext hx8) HKL.out; rw [Nat.sub_self, List.drop_length] at h7; exact h7) (by have := HLL.out; simp; try omega)).mono ?_; rintro e w9 ⟨v6, rfl, ho9, hx9⟩
       have ob9 := ob8.ext hx9
       have oc9 := oc8.ext hx9
       obtain ⟨p6, d6, e6, _, _⟩ := ho9.view.slice
       have HO9 := Lib.hid ho9
       have HX9 := Lib.hid (HX8.out.trans hx9)
       have HS9 : Hid (w2.heap.size < w8.heap.size ∧ w8.heap.size ≤ w9.heap.size) := Lib.hid ⟨oc8.lt, hx9.size⟩
       clear ho9
       generalize ([] : List Sm).length = n6 at e6
       subst e6)
    | (go_at_call 35; refine (cloneW_any (.slice p4 L.length d4) L _ (List.take_length (l := L) ▸ SRow.take HO7.out HKL.out (by have := HKL.out; omega) (Nat.le_refl _)) (by have := HLL.out; simp; omega)).mono ?_; rintro e w8 ⟨v5, rfl, ho8, hx8⟩
       have ob8 := ob7.ext hx8
       have oc8 := oc7.ext hx8
       have c8 := oc8.cell (j := 4) rfl
       have HO8 := Lib.hid ho8
       have HX8 := Lib.hid (HX7.out.trans hx8)
       have HS8 := Lib.hid (And.intro oc7.lt hx8.size)
       clear ho8)
    | ((with_reducible show wpList _ _ _ (Oper.mk _ (Op.store _ _ _) _ _ _ _ :: _) _ _); have hq := oc10; refine st_put (vs := wtC ⟨s.size, s.late, mark, s.drops, s.opn⟩ (.slice p6 n6 d6)) ob10 T.wtSize rfl (wt_one _ rfl) ?_; intro w11 ob11 hg11)
    | ((with_reducible show wpList _ _ _ (Oper.mk _ (Op.store _ _ _) _ _ _ _ :: _) _ _); have hq := oc9; refine st_store1 (o := 4) oc9 T.smsSize (show 4 < 5 by decide) ?_; intro w10 oc10 hg10
       have ob10 := ob9.kept hg10 (by have := HSB.out; intro e; have := Option.some.inj e; omega)
       have i0 := oc10.cell (j := 0) rfl
       have i1 := oc10.cell (j := 1) rfl
       have i2 := oc10.cell (j := 2) rfl
       have i3 := oc10.cell (j := 3) rfl
       have i4 := oc10.cell (j := 4) rfl))
  refine bodyPost_ret (wt_results3 rfl _ _ (w.heap.size + 1) ⟨s.size, s.late, mark, s.drops, ([] : List Sm)⟩ _ rfl ob11) rfl ?_
  have hown8 := ORow.own HO8.out
  have hown9 := ORow.own HO9.out
  have hsb := HSB.out
  have hs8 := HS8.out
  have hs9 := HS9.out
  refine ⟨_, _, rfl, ORow.base (SmO.kept (SmO.kept HO9.out hg10 ?_) hg11 ?_) (by omega), ORow.base (SmO.kept (SmO.kept (ORow.keep HO8.out hx9) hg10 ?_) hg11 ?_) (by omega), (HX9.out.grown hg10 (by omega)).grown hg11 (Nat.le_succ _)⟩
  · exact .inr fun e => by have := (hown9 _ e).1; omega
  · exact .inr fun e => by have := (hown9 _ e).1; omega
  · exact .inr fun e => by have := (hown8 _ e).1; omega
  · exact .inr fun e => by have := (hown8 _ e).1; omega
set_option maxRecDepth 20000 in
set_option maxHeartbeats 4000000 in
theorem feed_some (s : Wt) (v : Value) (key : List UInt8) (time n : Int) (w : World) (h : SmV w v s.opn) (hc : checkW s = 0) (h2 : ¬ 64 < key.length) (h3 : inW time 0 1099511627776 = true) (h4 : numW n = true) (h5 : lateW s (time - time % s.size) (max s.mark time) = false) (L : List Sm) (k : Nat) (hr : addS s.opn (atS (time - time % s.size) key) n = (L, 0)) (hpl : placeF (fun x => !(lateW s x.start (max s.mark time))) L = (k : Int)) (hkl : k ≤ L.length) (hf : L.filter (fun x => lateW s x.start (max s.mark time)) = L.take k) (hg : L.filter (fun x => !(lateW s x.start (max s.mark time))) = L.drop k) :
    Calls Try.prog 10 #[wtv s v, .string ⟨key.toArray⟩, .int .i64 time, .int .i64 n] w (FeedO w (feedP s key time n)) := by
  rw [feedP_ok hc h2 h3 h4 h5 (by rw [hr]), hr]
  simp only
  rw [hf, hg]
  have hbd := checkW_ok hc
  obtain ⟨b1, b2, b3, b4, b5, b6, b7, b8, b9, b10, b11⟩ := hbd
  have ht := h3
  unfold inW at ht
  simp only [Bool.and_eq_true, decide_eq_true_eq] at ht
  have hk : (ByteArray.mk key.toArray).size = key.length := text_size _
  have hi2 : decide ((64 : Int) < (key.length : Int)) = false := by rw [decide_eq_false_iff_not]; omega
  have hm0 : time.tmod s.size = time % s.size := Int.tmod_eq_emod_of_nonneg ht.1
  have hm1 : 0 ≤ time % s.size := Int.emod_nonneg _ (by omega)
  have hm2 : time % s.size ≤ time := by
    have e1 := Int.emod_add_mul_ediv time s.size
    have e2 : 0 ≤ time / s.size := Int.ediv_nonneg ht.1 (by omega)
    have e3 : 0 ≤ s.size * (time / s.size) := Int.mul_nonneg (by omega) e2
    omega
  have hz : ¬ s.size = 0 := by omega
  have C1 := fun W hW => check_any s v W (h.ext hW)
  rw [hc] at C1
  have O1 := fun W hW => own_any s v W (h.ext hW) (by omega)
  generalize hst : time - time % s.size = start at *
  generalize hmk : max s.mark time = mark at *
  have hst1 : 0 ≤ start ∧ start ≤ 1099511627776 := by omega
  have L1 := fun W => late_any s v start mark ⟨by omega, by omega, by omega, by omega, by omega, by omega⟩ W
  have hws : wrap64 start = start := by unfold wrap64; omega
  have HMK := Lib.hid hmk
  obtain ⟨oa, ob, hx0, hsz⟩ := objs2 w 31 31 (wtC s v) (wtC wt0 (.slice none 0 0))
  have a0 := oa.cell (j := 0) rfl
  have a1 := oa.cell (j := 1) rfl
  have a2 := oa.cell (j := 2) rfl
  have a3 := oa.cell (j := 3) rfl
  have a4 := oa.cell (j := 4) rfl
  unfold wt0 at ob hx0 hsz
  have HSZ := Lib.hid hsz
  rw [h5] at L1
  have A1 := fun g B v w ho hv hB hlt => add_feed g B s v start key n w ho hv hB hlt hc h4
  rw [hr] at A1
  simp only at A1
  have HLM : Hid (∀ x ∈ L, 0 ≤ s.size ∧ s.size ≤ 1048576 ∧ 0 ≤ s.late ∧ s.late ≤ 1048576 ∧ 0 ≤ x.start ∧ x.start ≤ 1099511627776) := Lib.hid fun x hx => by
    have h7 := addS_mem (l := s.opn) (p := atS start key) (n := n) (x := x) (by rw [hr]; exact hx)
    rcases h7 with h7 | ⟨y, hy, h7⟩
    · have e7 : x.start = start := h7
      omega
    · have := mayS_in (b10 y hy)
      omega
  have HLL : Hid (L.length ≤ 256) := Lib.hid (by have := addS_len (p := atS start key) (n := n) b9; rw [hr] at this; exact this)
  have HKL : Hid (k ≤ L.length) := Lib.hid hkl
  have HPL := Lib.hid hpl
  have hk0 : ¬ (k : Int) < 0 := by omega
  clear hpl hf hg
  clear hmk hsz b1 b2 b3 b4 b5 b6 b7 b8 b9 b10 b11 h5 hst1 hm1 hm2 hr
  go_enter Try.func10, Try.ntmps10
  go_wp2_with (first
    | (go_at_call 20; refine (C1 _ hx0).mono ?_; rintro e w1 ⟨rfl, hx1⟩
       have oa1 := oa.ext hx1
       have ob1 := ob.ext hx1
       have b0 := hx1.cell a0
       have b1 := hx1.cell a1
       have b2 := hx1.cell a2
       have b3 := hx1.cell a3
       have b4 := hx1.cell a4)
    | (go_at_call 28; refine (within_any _ _ _ _).mono ?_; rintro e w' ⟨rfl, rfl⟩)
    | (go_at_call 29; refine (number_any _ _).mono ?_; rintro e w' ⟨rfl, rfl⟩)
    | (go_at_call 30; refine (O1 _ (hx0.trans hx1)).mono ?_; rintro e w2 ⟨v2, rfl, ho2, hx2⟩
       obtain ⟨p2, d2, e2, _, _⟩ := ho2.view.slice
       have oa2 := oa1.ext hx2
       have ob2 := ob1.ext hx2
       have c0 := oa2.cell (j := 0) rfl
       have c1 := oa2.cell (j := 1) rfl
       have c2 := oa2.cell (j := 2) rfl
       have c3 := oa2.cell (j := 3) rfl
       have c4 := oa2.cell (j := 4) rfl
       have HO2 := Lib.hid ho2
       have HX2 := Lib.hid ((hx0.trans hx1).trans hx2)
       have HSB : Hid (w.heap.size + 2 ≤ w1.heap.size ∧ w1.heap.size ≤ w2.heap.size) := Lib.hid ⟨HSZ.out ▸ hx1.size, hx2.size⟩
       clear ho2
       generalize s.opn.length = n2 at e2
       subst e2
       obtain ⟨o12, o13, o14, hx5, hsz5⟩ := objs3 w2 31 74 3 (wtC s (.slice p2 n2 d2)) [.int .i64 start, .string ⟨key.toArray⟩] [.int .i64 mark]
       have HSZ5 := Lib.hid hsz5
       have j0 := (oa2.ext (Ext.alloc w2 (.cells #[.int .i64 s.size, .int .i64 s.late, .int .i64 s.mark, .int .i64 s.drops, .slice p2 n2 d2] 31))).cell (j := 0) rfl
       have j2 := ((oa2.ext (Ext.alloc w2 (.cells #[.int .i64 s.size, .int .i64 s.late, .int .i64 s.mark, .int .i64 s.drops, .slice p2 n2 d2] 31))).ext (Ext.alloc _ (.cells #[.int .i64 start, .string ⟨key.toArray⟩] 74))).cell (j := 2) rfl
       have q0 := o12.cell (j := 0) rfl
       have q1 := o12.cell (j := 1) rfl
       have q2 := o12.cell (j := 2) rfl
       have q3 := o12.cell (j := 3) rfl
       have q4 := o12.cell (j := 4) rfl
       have r0 := o13.cell (j := 0) rfl
       have r1 := o13.cell (j := 1) rfl
       have t0 := o14.cell (j := 0) rfl
       have oa5 := oa2.ext hx5
       have k0 := oa5.cell (j := 0) rfl
       have k1 := oa5.cell (j := 1) rfl
       have k2 := oa5.cell (j := 2) rfl
       have k3 := oa5.cell (j := 3) rfl
       have k4 := oa5.cell (j := 4) rfl
       clear hsz5)
    | ((with_reducible show wpList _ _ _ (Oper.mk _ (Op.call { callee := Callee.builtin Builtin.max, args := _, argTypes := _ }) _ _ _ _ :: _) _ _); refine wpList_run rfl (run_max rfl rfl rfl _) ?_; rw [HMK.out])
    | (go_at_call 31; refine (L1 _).mono ?_; rintro e w3 ⟨rfl, hx3⟩
       have HX3 := Lib.hid (HX2.out.trans (hx5.trans hx3))
       have HS3 : Hid (w2.heap.size + 3 ≤ w3.heap.size) := Lib.hid (HSZ5.out ▸ hx3.size)
       have oa3 := oa5.ext hx3
       have ob3 := (ob2.ext hx5).ext hx3
       have o12a := o12.ext hx3
       have o13a := o13.ext hx3
       have o14a := o14.ext hx3
       have r3 := o13a.cell (j := 0) rfl
       have r4 := o13a.cell (j := 1) rfl
       have HO3 := Lib.hid (ORow.keep HO2.out (hx5.trans hx3))
       have HOWN := Lib.hid (ORow.own HO2.out))
    | (go_at_call 32; refine (A1 w2.heap.size w1.heap.size (.slice p2 n2 d2) w3 o12a HO3.out HSB.out.2 fun k hk => (HOWN.out k hk).2).mono ?_; rintro e w4 ⟨rfl, hw4⟩
       obtain ⟨p4, d4, oc4, ho4, hne4, hd4, hbl, hbt⟩ := hw4.2 trivial
       have HX4 := Lib.hid (HX3.out.thenBelow (hbl.mono (by have := HSB.out; omega)))
       have oa4 : ObjAt w4 w.heap.size 31 (wtC s v) := (hbl.block _ (by have := HSB.out; omega)).trans oa3
       have ob4 : ObjAt w4 (w.heap.size + 1) 31 (wtC wt0 (.slice none 0 0)) := (hbl.block _ (by have := HSB.out; omega)).trans ob3
       have od4 : ObjAt w4 (w2.heap.size + 2) 3 [.int .i64 mark] := (hbt _ (by omega) (by have := HS3.out; omega)).trans o14a
       have HB4 := Lib.hid hbl.size
       clear hw4 hbl hbt
       have e0 := od4.cell (j := 0) rfl
       have f2 := oc4.free 2
       have c2' := oc4.cell (j := 2) rfl
       have oa6 := oa4.far (p := ⟨w2.heap.size, 2, none⟩) (by have := HSB.out; show w.heap.size ≠ w2.heap.size; omega) (.int .i64 mark)
       have ob6 := ob4.far (p := ⟨w2.heap.size, 2, none⟩) (by have := HSB.out; show w.heap.size + 1 ≠ w2.heap.size; omega) (.int .i64 mark)
       have oc6 := oc4.store 2 (.int .i64 mark)
       have od6 := od4.far (p := ⟨w2.heap.size, 2, none⟩) (by show w2.heap.size + 2 ≠ w2.heap.size; omega) (.int .i64 mark)
       have c6 := oc6.cell (j := 4) rfl
       have HO6 := Lib.hid (SmO.kept ho4 (grown_set w4 ⟨w2.heap.size, 2, none⟩ (.int .i64 mark)) (.inr hne4))
       have HX6 := Lib.hid (HX4.out.grown (grown_set w4 ⟨w2.heap.size, 2, none⟩ (.int .i64 mark)) (by have := HSB.out; show w.heap.size ≤ w2.heap.size; omega))
       clear ho4 hne4)
    | (go_at_call 33; refine (idxLate_any w.heap.size (w2.heap.size + 2) (fun x => !(lateW s x.start mark)) (.slice p4 L.length d4) L _ (SmO.view HO6.out) fun x W hx hW => lateC_any w.heap.size (w2.heap.size + 2) s v mark x W (HLM.out x hx) (oa6.ext hW) (od6.ext hW)).mono ?_; rw [HPL.out]; rintro e w7 ⟨rfl, hx7⟩
       have ob7 := ob6.ext hx7
       have oc7 := oc6.ext hx7
       have c7 := oc7.cell (j := 4) rfl
       have HO7 := Lib.hid (SmO.view (ORow.keep HO6.out hx7))
       have HX7 := Lib.hid (HX6.out.trans hx7))
    | ((with_reducible show wpList _ _ _ (Oper.mk _ (Op.slice _ _ _ _ _) _ _ _ _ :: _) _ _); first | refine st_sliceTo T.sms k d4 ?_ | refine st_slice T.sms k L.length d4 ?_)
    | (go_at_call 35; have hq := hx8; refine (cloneW_any _ (L.drop k) _ (by have h7 := SRow.drop (HO7.out.ext hx8) HKL.out; exact h7) (by have := HLL.out; simp; omega)).mono ?_; rintro e w9 ⟨v6, rfl, ho9, hx9⟩
       have ob9 := ob8.ext hx9
       have oc9 := oc8.ext hx9
       obtain ⟨p6, d6, e6, _, _⟩ := ho9.view.slice
       have HO9 := Lib.hid ho9
       have HX9 := Lib.hid (HX8.out.trans hx9)
       have HS9 : Hid (w2.heap.size < w8.heap.size ∧ w8.heap.size ≤ w9.heap.size) := Lib.hid ⟨oc8.lt, hx9.size⟩
       clear ho9
       generalize (L.drop k).length = n6 at e6
       subst e6)
    | (go_at_call 35; refine (cloneW_any (.slice p4 k d4) (L.take k) _ (SRow.take HO7.out HKL.out (by have := HKL.out; omega) (Nat.le_refl _)) (by have := HLL.out; simp; omega)).mono ?_; rintro e w8 ⟨v5, rfl, ho8, hx8⟩
       have ob8 := ob7.ext hx8
       have oc8 := oc7.ext hx8
       have c8 := oc8.cell (j := 4) rfl
       have HO8 := Lib.hid ho8
       have HX8 := Lib.hid (HX7.out.trans hx8)
       have HS8 := Lib.hid (And.intro oc7.lt hx8.size)
       clear ho8)
    | ((with_reducible show wpList _ _ _ (Oper.mk _ (Op.store _ _ _) _ _ _ _ :: _) _ _); have hq := oc10; refine st_put (vs := wtC ⟨s.size, s.late, mark, s.drops, s.opn⟩ (.slice p6 n6 d6)) ob10 T.wtSize rfl (wt_one _ rfl) ?_; intro w11 ob11 hg11)
    | ((with_reducible show wpList _ _ _ (Oper.mk _ (Op.store _ _ _) _ _ _ _ :: _) _ _); have hq := oc9; refine st_store1 (o := 4) oc9 T.smsSize (show 4 < 5 by decide) ?_; intro w10 oc10 hg10
       have ob10 := ob9.kept hg10 (by have := HSB.out; intro e; have := Option.some.inj e; omega)
       have i0 := oc10.cell (j := 0) rfl
       have i1 := oc10.cell (j := 1) rfl
       have i2 := oc10.cell (j := 2) rfl
       have i3 := oc10.cell (j := 3) rfl
       have i4 := oc10.cell (j := 4) rfl))
  refine bodyPost_ret (wt_results3 rfl _ _ (w.heap.size + 1) ⟨s.size, s.late, mark, s.drops, (L.drop k)⟩ _ rfl ob11) rfl ?_
  have hown8 := ORow.own HO8.out
  have hown9 := ORow.own HO9.out
  have hsb := HSB.out
  have hs8 := HS8.out
  have hs9 := HS9.out
  refine ⟨_, _, rfl, ORow.base (SmO.kept (SmO.kept HO9.out hg10 ?_) hg11 ?_) (by omega), ORow.base (SmO.kept (SmO.kept (ORow.keep HO8.out hx9) hg10 ?_) hg11 ?_) (by omega), (HX9.out.grown hg10 (by omega)).grown hg11 (Nat.le_succ _)⟩
  · exact .inr fun e => by have := (hown9 _ e).1; omega
  · exact .inr fun e => by have := (hown9 _ e).1; omega
  · exact .inr fun e => by have := (hown8 _ e).1; omega
  · exact .inr fun e => by have := (hown8 _ e).1; omega
theorem feedo_any (s : Wt) (v : Value) (key : List UInt8) (time n : Int) (w : World) (h : SmV w v s.opn) (hl : s.opn.length ≤ 100000) :
    Calls Try.prog 10 #[wtv s v, .string ⟨key.toArray⟩, .int .i64 time, .int .i64 n] w (FeedO w (feedP s key time n)) := by
  by_cases hbad : checkW s ≠ 0 ∨ 64 < key.length ∨ inW time 0 1099511627776 = false ∨ numW n = false
  · exact feed_early s v key time n w h hl hbad
  · have hc : checkW s = 0 := by by_cases e : checkW s = 0; exact e; exact absurd (.inl e) hbad
    have h2 : ¬ 64 < key.length := fun e => hbad (.inr (.inl e))
    have h3 : inW time 0 1099511627776 = true := by cases e : inW time 0 1099511627776 with | true => rfl | false => exact absurd (.inr (.inr (.inl e))) hbad
    have h4 : numW n = true := by cases e : numW n with | true => rfl | false => exact absurd (.inr (.inr (.inr e))) hbad
    clear hbad
    cases h5 : lateW s (time - time % s.size) (max s.mark time) with
    | true => exact feed_late s v key time n w h hc h2 h3 h4 h5
    | false =>
      obtain ⟨L, er, hr⟩ : ∃ L er, addS s.opn (atS (time - time % s.size) key) n = (L, er) := ⟨_, _, rfl⟩
      by_cases h6 : er = 0
      · subst h6
        obtain ⟨b1, b2, b3, b4, b5, b6, b7, b8, b9, b10, b11⟩ := checkW_ok hc
        have hri : Rises L := by
          have := addS_rises (p := atS (time - time % s.size) key) (n := n) b11 (by rw [hr])
          rw [hr] at this
          exact this
        obtain ⟨k, k1, k2, k3, k4⟩ := late_parts (s := s) (mark := max s.mark time) (rises_start hri)
        cases hfi : L.findIdx? (fun x => !(lateW s x.start (max s.mark time))) with
        | none =>
          rw [hfi] at k2
          have e : k = L.length := k2.symm
          subst e
          exact feed_none s v key time n w h hc h2 h3 h4 h5 L hr (by unfold placeF; rw [hfi]) k3 k4
        | some i =>
          rw [hfi] at k2
          have e : k = i := k2.symm
          subst e
          exact feed_some s v key time n w h hc h2 h3 h4 h5 L k hr (by unfold placeF; rw [hfi]) k1 k3 k4
      · exact feed_full s v key time n w h hc h2 h3 h4 h5 L er hr h6
theorem feed_any (s : Wt) (v : Value) (key : List UInt8) (time n : Int) (w : World) (h : SmV w v s.opn) (hl : s.opn.length ≤ 100000) :
    Calls Try.prog 10 #[wtv s v, .string ⟨key.toArray⟩, .int .i64 time, .int .i64 n] w (FeedR w (feedP s key time n)) := by
  refine (feedo_any s v key time n w h hl).mono ?_
  rintro e w' ⟨v', lv, e1, h1, h2, h3⟩
  exact ⟨v', lv, e1, SmO.view h1, SmO.view h2, h3⟩
end Go.Proofs.Ytpejdompanhieaa
