/- What producer.Cut and producer.Build compute. -/
import Derived.Test.YthiaaoiaabocfaaDelS
import Derived.Test.YthiaaoiaabocfaaPrP
namespace Go.Proofs.Ythiaaoiaabocfaa
open Go.RowKit

theorem filter_nn (next : Int) (l : List Sn) : (l.filter fun s => !(!(keepS next s))) = l.filter (keepS next) := by simp only [Bool.not_not]
theorem cutT_snoc (t : List Ent) (next : Int) (j : Nat) (hj : j < t.length) : cutT (t.take (j + 1)) next = cutT (t.take j) next ++ if 0 < (t[j].last.filter (keepS next)).length then [cutE next t[j]] else [] := by
  unfold cutT
  rw [List.take_succ_eq_append_getElem hj, List.map_append, List.filter_append, List.map_cons, List.map_nil, List.filter_cons]
  congr 1
  unfold cutE
  simp only [List.filter_nil, decide_eq_true_iff]
theorem cutT_length (t : List Ent) (next : Int) : (cutT t next).length ≤ t.length := by
  unfold cutT
  exact Nat.le_trans (List.length_filter_le ..) (by rw [List.length_map]; exact Nat.le_refl _)
set_option maxRecDepth 20000 in
set_option maxHeartbeats 8000000 in
theorem cut_any (v : Value) (t : List Ent) (next : Int) (w : World) (h : TabV w v t) (hl : t.length ≤ 1000) (hf : FewT 1000 t) :
    Calls Try.prog 21 #[.agg #[v], .int .i64 next] w fun e w' => ∃ v', e = .returned (.agg #[v']) ∧ TabV w' v' (cutT t next) ∧ Ext w w' := by
  obtain ⟨p, c, rfl, _, hcm⟩ := h.slice
  unfold maxLen at hcm
  obtain ⟨o1, o2, o3, hx0, hsz⟩ := objs3 w 33 3 33 [.slice p t.length c] [.int .i64 next] [.slice none 0 0]
  have c1 := o1.cell (j := 0) rfl
  have HSZ := Lib.hid hsz
  have HF := Lib.hid hf
  have HL := Lib.hid hl
  clear hsz hf hl
  go_enter Try.func21, Try.ntmps21
  go_wp2_with fail
  go_loopg [5, 11] (t.length) (fun k s5 s11 wr => ∃ (j : Nat) (x : Value), s5 = x ∧ s11 = .int .i64 j ∧ j ≤ t.length ∧ k = t.length - j ∧ Hid (ORow 43 3 REnt (fun k => k ≠ w.heap.size + 2) wr (w.heap.size + 3) x (cutT (t.take j) next)) ∧ ObjAt wr (w.heap.size + 1) 3 [.int .i64 next] ∧ ObjAt wr (w.heap.size + 2) 33 [.slice none 0 0] ∧ Hid (w.heap.size + 3 ≤ wr.heap.size) ∧ Ext w wr)
  case atStart => exact ⟨0, _, rfl, rfl, Nat.zero_le _, rfl, Lib.hid (ORow.nil _ _ _), o2, o3, Lib.hid (by rw [HSZ.out]; exact Nat.le_refl _), hx0⟩
  case round =>
    obtain ⟨j, x, e3, rfl, hj, hk, HO, oN, oR, HB, hx⟩ := hrel
    replace e3 := e3.symm
    subst e3
    obtain ⟨wo, hwo⟩ : ∃ wo, wo = wr := ⟨_, rfl⟩
    subst hwo
    clear o1 o2 o3 hx0 c1
    by_cases hlt : j < t.length
    case pos =>
      have hi : (j : Int) < (t.length : Int) := by omega
      obtain ⟨b, o, q, d, rfl, ⟨m0, m1, m2⟩, hsn, _, hdm⟩ := ent_at (h.ext hx) hlt
      have hsnoc := cutT_snoc t next j hlt
      have hfl := HF.out t[j] (List.getElem_mem hlt)
      generalize t[j] = en at *
      obtain ⟨e0, e1, l⟩ := en
      simp only at *
      have HFL := Lib.hid hfl
      have HPL : Hid ((cutT (t.take j) next).length ≤ 1000) := Lib.hid (by have := cutT_length (t.take j) next; rw [List.length_take] at this; have := HL.out; omega)
      have HO1 : Hid (ORow 43 3 REnt (fun k => k ≠ w.heap.size + 2 ∧ k < wo.heap.size) wo (w.heap.size + 3) x (cutT (t.take j) next)) := Lib.hid (HO.out.mono fun k hk hs => ⟨hs, hk⟩)
      have hxb := Ext.alloc wo (.cells #[.int .i64 e0, .int .i64 e1, .slice q l.length d] 43)
      have oE : ObjAt (wo.alloc (.cells #[.int .i64 e0, .int .i64 e1, .slice q l.length d] 43)) wo.heap.size 43 [.int .i64 e0, .int .i64 e1, .slice q l.length d] := heap_alloc_new wo _
      have y2 := oE.cell (j := 2) rfl
      have K1 := cloneS_any (R := RSn) (S := fun _ => False) _ l _ (sn_any (hsn.ext hxb)) (by omega)
      have HSB : Hid ((wo.alloc (.cells #[.int .i64 e0, .int .i64 e1, .slice q l.length d] 43)).heap.size = wo.heap.size + 1) := Lib.hid (by simp)
      have HXB := Lib.hid hxb
      unfold maxLen at hdm
      clear hfl hsn hxb
      obtain ⟨F, hF⟩ : ∃ F, l.filter (keepS next) = F := ⟨_, rfl⟩
      have HFF := Lib.hid hF
      rw [hF] at hsnoc
      have HSN := Lib.hid hsnoc
      clear hF hsnoc
      have HUN : Hid (∀ k, wo.heap.size + 1 ≤ k → (k ≠ w.heap.size + 2) ∧ some k ≠ x.ownBlock) := Lib.hid (fun k hk => ⟨by have := HB.out; omega, fun e => by have := (HO1.out.own k e.symm).2; omega⟩)
      have HNX : Hid (∀ k, k < w.heap.size + 3 → some k ≠ x.ownBlock) := Lib.hid (fun k hk e => by have := (HO1.out.own k e.symm).1; omega)
      have HXN : Hid (∀ g : Option Nat, (∀ k, k < wo.heap.size → some k ≠ g) → x.ownBlock = none ∨ x.ownBlock ≠ g) := Lib.hid (fun g hg => by
        cases hq : x.ownBlock with
        | none => exact .inl rfl
        | some k => exact .inr (hg k (HO1.out.own k hq).2))
      obtain ⟨px, cx, ex, _, _⟩ := HO1.out.view.slice
      cases hFl : F.length with
      | zero =>
        have HFN := Lib.hid hFl
        subst ex
        go_wp2_with (first
          | (go_at_call 36; refine K1.mono ?_; rintro e w2 ⟨lv, rfl, ho2, hx2⟩
             rw [HSB.out] at ho2
             have oE2 := oE.ext hx2
             have HNL : Hid (∀ k, k ≤ wo.heap.size → some k ≠ lv.ownBlock) := Lib.hid (fun k hk e => by have := (ho2.own k e.symm).1; omega)
             have HXC := Lib.hid (HXB.out.trans hx2)
             have oN2 := oN.ext HXC.out
             have D1 := delS_any (w.heap.size + 1) (fun s => !(keepS next s)) lv l w2 (wo.heap.size + 1) ho2 (by have h1 := HSB.out; have h2 := hx2.size; omega) (fun s W hW => cut1_any (w.heap.size + 1) next s W ((oN2.kept hW (HNL.out _ (by have := HB.out; omega))).cell (j := 0) rfl))
             rw [filter_nn, HFF.out] at D1
             have HO2 := Lib.hid (HO1.out.keep HXC.out)
             have HLO : Hid (∀ k, lv.ownBlock = some k → wo.heap.size + 1 ≤ k) := Lib.hid (fun k e => (ho2.own k e).1)
             clear ho2 hx2 K1)
          | (go_at_call 38; refine D1.mono ?_; rintro e w3 ⟨v3, rfl, ho3, hg3, hb3⟩
             obtain ⟨p3, c3, e5, _, _⟩ := ho3.view.slice
             rw [HFN.out] at e5
             subst e5
             have oE3 := oE2.kept hg3 (HNL.out _ (Nat.le_refl _))
             have oN3 := oN2.kept hg3 (HNL.out _ (by have := HB.out; omega))
             have oR3 := (oR.ext HXC.out).kept hg3 (HNL.out _ (by have := HB.out; omega))
             have HO3 := Lib.hid (HO2.out.kept hg3 (fun k hk => HNL.out k (Nat.le_of_lt hk.2)) (HXN.out _ (fun k hk => HNL.out k (Nat.le_of_lt hk))))
             have HS3 := Lib.hid ho3
             have HX3 : Hid (Ext w w3) := Lib.hid (Below.grown (hx.trans HXC.out) hg3 (hx.trans HXC.out).size (fun k e => by have h1 := HLO.out k e; have h2 := HB.out; omega))
             have HZ3 := Lib.hid (Nat.le_trans HXC.out.size hg3.size)
             clear ho3 hg3 hb3)
          | ((with_reducible show wpList _ _ _ (Oper.mk _ (Op.store _ _ _) _ _ _ _ :: _) _ _); refine st_store1 (o := 2) oE3 T.seensSize (by simp) ?_; intro w4 oE4 hg4
             have k0 := oE4.cell (j := 0) rfl
             have k1 := oE4.cell (j := 1) rfl
             have k2 := oE4.cell (j := 2) rfl
             have HNE2 : Hid (∀ k, k < wo.heap.size → some k ≠ some wo.heap.size) := Lib.hid (fun k hk e => by have h1 := Option.some.inj e; omega)
             have oN4 := oN3.kept hg4 (HNE2.out _ (by have := HB.out; omega))
             have oR4 := oR3.kept hg4 (HNE2.out _ (by have := HB.out; omega))
             have HO4 := Lib.hid (HO3.out.kept hg4 (fun k hk => HNE2.out k hk.2) (HXN.out _ HNE2.out))
             have HS4 := Lib.hid (HS3.out.kept hg4 (fun k hk => hk.elim) (.inr (fun e => Nat.not_succ_le_self _ (HS3.out.own _ e).1)))
             have HX4 := Lib.hid (HX3.out.grown hg4 hx.size)
             have HZ4 := Lib.hid (Nat.le_trans HZ3.out hg4.size)
             clear hg4))
        go_roundg (t.length - (j + 1))
        case measure => omega
        case rel =>
          refine ⟨j + 1, _, rfl, by go_num, hlt, rfl, Lib.hid ?_, oN4, oR4, Lib.hid (Nat.le_trans HB.out HZ4.out), HX4.out⟩
          rw [HSN.out, if_neg (by rw [HFN.out]; omega), List.append_nil]
          exact HO4.out.mono fun k _ hk => hk.1
      | succ n =>
        have HFN := Lib.hid hFl
        subst ex
        go_wp2_with (first
          | (go_at_call 36; refine K1.mono ?_; rintro e w2 ⟨lv, rfl, ho2, hx2⟩
             rw [HSB.out] at ho2
             have oE2 := oE.ext hx2
             have HNL : Hid (∀ k, k ≤ wo.heap.size → some k ≠ lv.ownBlock) := Lib.hid (fun k hk e => by have := (ho2.own k e.symm).1; omega)
             have HXC := Lib.hid (HXB.out.trans hx2)
             have oN2 := oN.ext HXC.out
             have D1 := delS_any (w.heap.size + 1) (fun s => !(keepS next s)) lv l w2 (wo.heap.size + 1) ho2 (by have h1 := HSB.out; have h2 := hx2.size; omega) (fun s W hW => cut1_any (w.heap.size + 1) next s W ((oN2.kept hW (HNL.out _ (by have := HB.out; omega))).cell (j := 0) rfl))
             rw [filter_nn, HFF.out] at D1
             have HO2 := Lib.hid (HO1.out.keep HXC.out)
             have HLO : Hid (∀ k, lv.ownBlock = some k → wo.heap.size + 1 ≤ k) := Lib.hid (fun k e => (ho2.own k e).1)
             clear ho2 hx2 K1)
          | (go_at_call 38; refine D1.mono ?_; rintro e w3 ⟨v3, rfl, ho3, hg3, hb3⟩
             obtain ⟨p3, c3, e5, _, _⟩ := ho3.view.slice
             rw [HFN.out] at e5
             subst e5
             have oE3 := oE2.kept hg3 (HNL.out _ (Nat.le_refl _))
             have oN3 := oN2.kept hg3 (HNL.out _ (by have := HB.out; omega))
             have oR3 := (oR.ext HXC.out).kept hg3 (HNL.out _ (by have := HB.out; omega))
             have HO3 := Lib.hid (HO2.out.kept hg3 (fun k hk => HNL.out k (Nat.le_of_lt hk.2)) (HXN.out _ (fun k hk => HNL.out k (Nat.le_of_lt hk))))
             have HS3 := Lib.hid ho3
             have HX3 : Hid (Ext w w3) := Lib.hid (Below.grown (hx.trans HXC.out) hg3 (hx.trans HXC.out).size (fun k e => by have h1 := HLO.out k e; have h2 := HB.out; omega))
             have HZ3 := Lib.hid (Nat.le_trans HXC.out.size hg3.size)
             clear ho3 hg3 hb3)
          | ((with_reducible show wpList _ _ _ (Oper.mk _ (Op.store _ _ _) _ _ _ _ :: _) _ _); refine st_store1 (o := 2) oE3 T.seensSize (by simp) ?_; intro w4 oE4 hg4
             have k0 := oE4.cell (j := 0) rfl
             have k1 := oE4.cell (j := 1) rfl
             have k2 := oE4.cell (j := 2) rfl
             have HNE2 : Hid (∀ k, k < wo.heap.size → some k ≠ some wo.heap.size) := Lib.hid (fun k hk e => by have h1 := Option.some.inj e; omega)
             have oN4 := oN3.kept hg4 (HNE2.out _ (by have := HB.out; omega))
             have oR4 := oR3.kept hg4 (HNE2.out _ (by have := HB.out; omega))
             have HO4 := Lib.hid (HO3.out.kept hg4 (fun k hk => HNE2.out k hk.2) (HXN.out _ HNE2.out))
             have HS4 := Lib.hid (HS3.out.kept hg4 (fun k hk => hk.elim) (.inr (fun e => Nat.not_succ_le_self _ (HS3.out.own _ e).1)))
             have HX4 := Lib.hid (HX3.out.grown hg4 hx.size)
             have HZ4 := Lib.hid (Nat.le_trans HZ3.out hg4.size)
             have hx5 := Ext.alloc w4 (.cells #[.int .i64 e0, .int .i64 e1, .slice p3 (n + 1) c3] 43)
             have hl5 : SRow 3 REnt (fun k => (k ≠ w.heap.size + 2) ∧ some k ≠ (Value.slice px (cutT (t.take j) next).length cx).ownBlock) (w4.alloc (.cells #[.int .i64 e0, .int .i64 e1, .slice p3 (n + 1) c3] 43)) (.slice (some ⟨w4.heap.size, 0, none⟩) 1 1) [(⟨e0, e1, F⟩ : Ent)] := ent_lit1 _ ⟨e0, e1, F⟩ ((SnO.under HS4.out).mono fun k _ hk => HUN.out k (HS4.out.own k hk).1)
             have HO5 := Lib.hid ((HO4.out.mono (T := fun k => k ≠ w.heap.size + 2) fun k _ hk => hk.1).keep hx5)
             have oN5 := oN4.ext hx5
             have oR5 := oR4.ext hx5
             have HX5 := Lib.hid (HX4.out.trans hx5)
             have HZ5 := Lib.hid (Nat.le_trans HB.out (Nat.le_trans HZ4.out hx5.size))
             clear hg4 hx5)
          | (at_builtin; refine st_items T.ents HO5.out hl5 ?_ (by have := HPL.out; simp [maxLen]; omega) (by have := HPL.out; simp; omega) HZ5.out; intro v6 w6 ho6 hg6 hw6
             have HO6 := Lib.hid ho6
             have oN6 := oN5.kept hg6 (HNX.out _ (by omega))
             have oR6 := oR5.kept hg6 (HNX.out _ (by omega))
             have HX6 : Hid (Ext w w6) := Lib.hid (Below.grown HX5.out hg6 HX5.out.size (fun k e => by have h1 := (HO1.out.own k e).1; omega))
             have HZ6 := Lib.hid (Nat.le_trans HZ5.out hg6.size)
             clear hg6 hw6 hl5 ho6))
        go_roundg (t.length - (j + 1))
        case measure => omega
        case rel =>
          refine ⟨j + 1, _, rfl, by go_num, hlt, rfl, Lib.hid ?_, oN6, oR6, HZ6, HX6.out⟩
          have e5 : cutE next ⟨e0, e1, l⟩ = ⟨e0, e1, F⟩ := by unfold cutE; rw [HFF.out]
          rw [HSN.out, if_pos (by rw [HFN.out]; omega), e5]
          exact HO6.out
    case neg =>
      have hje : j = t.length := by omega
      subst hje
      have hi : ¬ (t.length : Int) < (t.length : Int) := by omega
      have ho := HO.out
      rw [List.take_length] at ho
      have hfo := oR.free 0
      have hco := oR.cell (j := 0) rfl
      have ho6 := oR.store 0 x
      obtain ⟨q2, d2, e5, _, _⟩ := ho.view.slice
      subst e5
      clear hlt
      go_wp2_with fail
      refine bodyPost_ret (tab_results rfl _ _ (w.heap.size + 2) _ _ rfl ho6) rfl ?_
      refine ⟨_, rfl, ?_, hx.store (p := ⟨w.heap.size + 2, 0, none⟩) (by show _ ≤ w.heap.size + 2; omega) _⟩
      have hk := ho.kept (g := some (w.heap.size + 2)) (grown_set wo ⟨w.heap.size + 2, 0, none⟩ (.slice q2 (cutT t next).length d2)) (fun k hk e => hk (Option.some.inj e)) (.inr (fun e => by
        have : w.heap.size + 3 ≤ w.heap.size + 2 := (ho.own _ e).1
        omega))
      exact (ORow.view hk).mono (T := fun _ => True) fun k _ _ => trivial

theorem buildT_snoc (l : List Bat) (j : Nat) (hj : j < l.length) : buildT (l.take (j + 1)) = putT (buildT (l.take j)) l[j] := by
  unfold buildT
  rw [List.take_succ_eq_append_getElem hj, List.foldl_append]
  rfl
theorem buildT_length (l : List Bat) : (buildT l).length ≤ l.length := by
  have : ∀ (l : List Bat) (t : List Ent), (l.foldl putT t).length ≤ t.length + l.length := by
    intro l
    induction l with
    | nil => intro t; simp
    | cons b r ih =>
      intro t
      rw [List.foldl_cons, List.length_cons]
      have h1 := ih (putT t b)
      have h2 := putT_length t b
      omega
  have h := this l []
  simpa [buildT] using h
theorem buildT_few (l : List Bat) : FewT 5 (buildT l) := by
  have : ∀ (l : List Bat) (t : List Ent), FewT 5 t → FewT 5 (l.foldl putT t) := by
    intro l
    induction l with
    | nil => intro t h; exact h
    | cons b r ih => intro t h; exact ih _ (putT_few (Nat.le_refl _) h)
  exact this l [] (fun e he => by cases he)
theorem FewT.mono {m n : Nat} {t : List Ent} (h : FewT m t) (hmn : m ≤ n) : FewT n t := fun e he => Nat.le_trans (h e he) hmn
set_option maxRecDepth 20000 in
set_option maxHeartbeats 4000000 in
theorem build_any (v : Value) (l : List Bat) (w : World) (h : BatV w v l) (hl : l.length ≤ 900) :
    Calls Try.prog 20 #[v] w fun e w' => ∃ v', e = .returned (.agg #[v']) ∧ TabV w' v' (buildT l) ∧ Ext w w' := by
  obtain ⟨p, c, rfl, _, hcm⟩ := h.slice
  unfold maxLen at hcm
  obtain ⟨o1, o2, hx0, hsz⟩ := objs2 w 33 33 [.slice none 0 0] [.slice none 0 0]
  have HSZ := Lib.hid hsz
  have HL := Lib.hid hl
  clear hsz hl
  go_enter Try.func20, Try.ntmps20
  go_wp2_with fail
  go_loopg [8] (l.length) (fun k s8 wr => ∃ (j : Nat) (q : Option Addr) (n d : Nat), s8 = .int .i64 j ∧ j ≤ l.length ∧ k = l.length - j ∧ Hid (SRow 3 REnt (fun k => w.heap.size + 2 ≤ k) wr (.slice q n d) (buildT (l.take j))) ∧ Hid (∀ k, (Value.slice q n d).ownBlock = some k → w.heap.size + 2 ≤ k) ∧ ObjAt wr w.heap.size 33 [.slice none 0 0] ∧ ObjAt wr (w.heap.size + 1) 33 [.slice q n d] ∧ Hid (w.heap.size + 2 ≤ wr.heap.size) ∧ Ext w wr)
  case atStart => exact ⟨0, none, 0, 0, rfl, Nat.zero_le _, rfl, Lib.hid (SRow.nil _ _), Lib.hid (fun k e => by cases e), o1, o2, Lib.hid (by rw [HSZ.out]; exact Nat.le_refl _), hx0⟩
  case round =>
    obtain ⟨j, q, n, d, rfl, hj, hk, HS, HN, oR, oT, HB, hx⟩ := hrel
    obtain ⟨wo, hwo⟩ : ∃ wo, wo = wr := ⟨_, rfl⟩
    subst hwo
    clear o1 o2 hx0
    by_cases hlt : j < l.length
    case pos =>
      have hi : (j : Int) < (l.length : Int) := by omega
      obtain ⟨b, o, qb, db, rfl, ⟨m0, m1, m2, m3, m4, m5⟩, _⟩ := bat_at (h.ext hx) hlt
      have hsn := buildT_snoc l j hlt
      have hlen := buildT_length (l.take j)
      have hfew := buildT_few (l.take j)
      rw [List.length_take] at hlen
      generalize l[j] = bb at *
      obtain ⟨b0, b1, b2, b3, b4, rs⟩ := bb
      simp only at *
      have HSN := Lib.hid hsn
      have hxb := Ext.alloc wo (.cells #[.int .i64 b0, .int .i64 b1, .int .i64 b2, .int .i64 b3, .int .i64 b4, .slice qb rs.length db] 27)
      have P1 := put_any _ _ ⟨b0, b1, b2, b3, b4, rs⟩ qb rs.length db _ (HS.out.ext hxb) (by have := HL.out; omega) (hfew.mono (by omega))
      have oTb := oT.ext hxb
      have t0 := oTb.cell (j := 0) rfl
      have HXB := Lib.hid hxb
      have HSB := Lib.hid (Nat.le_trans HB.out hxb.size)
      generalize hW : wo.alloc (.cells #[.int .i64 b0, .int .i64 b1, .int .i64 b2, .int .i64 b3, .int .i64 b4, .slice qb rs.length db] 27) = W at *
      have ob : ObjAt W wo.heap.size 27 [.int .i64 b0, .int .i64 b1, .int .i64 b2, .int .i64 b3, .int .i64 b4, .slice qb rs.length db] := by rw [← hW]; exact heap_alloc_new wo _
      have n0 := ob.cell (j := 0) rfl
      have n1 := ob.cell (j := 1) rfl
      have n2 := ob.cell (j := 2) rfl
      have n3 := ob.cell (j := 3) rfl
      have n4 := ob.cell (j := 4) rfl
      have n5 := ob.cell (j := 5) rfl
      clear hsn hlen hfew hxb ob
      subst hW
      go_wp2_with (go_at_call 13; refine P1.mono ?_; rintro e w2 ⟨v2, rfl, hs2, hn2, hx2⟩
                   obtain ⟨q2, d2, e5, _, _⟩ := hs2.slice
                   subst e5
                   have oT2 := oTb.ext hx2
                   have hf2 := oT2.free 0
                   have hc2 := oT2.cell (j := 0) rfl
                   have oT3 := oT2.store 0 (.slice q2 (putT (buildT (l.take j)) ⟨b0, b1, b2, b3, b4, rs⟩).length d2)
                   have HS2 := Lib.hid hs2
                   have HN2 := Lib.hid hn2
                   have HX2 := Lib.hid ((hx.trans HXB.out).trans hx2)
                   have HZ2 := Lib.hid (Nat.le_trans HSB.out hx2.size)
                   have oR2 := (oR.ext HXB.out).ext hx2
                   clear hs2 hn2 P1)
      go_roundg (l.length - (j + 1))
      case measure => omega
      case rel =>
        refine ⟨j + 1, q2, _, d2, by go_num, hlt, rfl, Lib.hid ?_, Lib.hid (fun k e => Nat.le_trans HSB.out (HN2.out k e)), oR2.far (p := ⟨w.heap.size + 1, 0, none⟩) (by show w.heap.size ≠ w.heap.size + 1; omega) _, oT3, Lib.hid (by simpa using HZ2.out), HX2.out.store (p := ⟨w.heap.size + 1, 0, none⟩) (by show w.heap.size ≤ w.heap.size + 1; omega) _⟩
        rw [HSN.out]
        refine ((HS2.out.mono (T := fun k => w.heap.size + 2 ≤ k) fun k _ hk => ?_)).kept (grown_set _ ⟨w.heap.size + 1, 0, none⟩ _) (fun k hk e => by have h1 : k = w.heap.size + 1 := Option.some.inj e; omega) (fun k hk e => by have h1 : k = w.heap.size + 1 := Option.some.inj e; have h2 := HN2.out k hk; have h3 := HSB.out; omega)
        rcases hk with hk | hk
        · exact hk
        · exact Nat.le_trans HSB.out hk
    case neg =>
      have hje : j = l.length := by omega
      subst hje
      have hi : ¬ (l.length : Int) < (l.length : Int) := by omega
      have hs := HS.out
      rw [List.take_length] at hs
      have hfo := oR.free 0
      have hco := oR.cell (j := 0) rfl
      have hct := oT.cell (j := 0) rfl
      have ho6 := oR.store 0 (.slice q n d)
      clear hlt
      go_wp2_with fail
      refine bodyPost_ret (tab_results rfl _ _ w.heap.size _ _ rfl ho6) rfl ?_
      refine ⟨_, rfl, ?_, hx.store (p := ⟨w.heap.size, 0, none⟩) (Nat.le_refl _) _⟩
      exact TabV.any (hs.kept (grown_set _ ⟨w.heap.size, 0, none⟩ _) (fun k hk e => by have h1 : k = w.heap.size := Option.some.inj e; omega) (fun k hk e => by have h1 : k = w.heap.size := Option.some.inj e; have h2 := HN.out k hk; omega))
end Go.Proofs.Ythiaaoiaabocfaa
