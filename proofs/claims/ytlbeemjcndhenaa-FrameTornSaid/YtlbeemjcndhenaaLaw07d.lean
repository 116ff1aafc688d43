/- The statements of layer 7: FrameTorn: the walk of the law. -/
import Derived.Test.YtlbeemjcndhenaaLaw07c
namespace Go.Proofs.Ytlbeemjcndhenaa
open Go.RowKit

theorem open_torn' (z : List UInt8) (hz : z.length = 64) (k : Nat) (hk : k < 64) : (openB (z.take k ++ List.replicate (64 - k) 0)).err ≠ 0 := by
  rw [open_last _ ?_]
  · decide
  · have e : (z.take k ++ List.replicate (64 - k) (0 : UInt8))[63]? = some 0 := by
      rw [List.getElem?_append_right (by rw [List.length_take]; omega), List.length_take, List.getElem?_replicate, if_pos (by omega)]
    rw [List.getD_eq_getElem?_getD, e]
    decide
theorem layF_each' : ∀ (n : Nat) (kind : UInt8) (b : List UInt8), b.length ≤ n → ∀ z ∈ layF n kind b, z.length = 64
  | 0, kind, b, h, z, hz => by
    rw [layF_short 0 kind b (by omega), List.mem_singleton] at hz
    subst hz; exact blockL_length _ _ (by omega)
  | n + 1, kind, b, h, z, hz => by
    simp only [layF] at hz
    split at hz
    · rw [List.mem_singleton] at hz
      subst hz; exact blockL_length _ _ (by assumption)
    · rcases List.mem_cons.1 hz with rfl | hz
      · exact blockL_length _ _ (by simp; omega)
      · exact layF_each' n 2 (b.drop 61) (by simp; omega) z hz
theorem laidB_each : ∀ (bs : List (List UInt8)), ∀ z ∈ laidB bs, z.length = 64
  | [], z, hz => by simp [laidB] at hz
  | b :: r, z, hz => by
    simp only [laidB] at hz
    rcases List.mem_append.1 hz with h | h
    · exact layF_each' (frameL b).length 1 (frameL b) (Nat.le_refl _) z h
    · exact laidB_each r z h
theorem want_is (k : Nat) : ∀ (bs : List (List UInt8)) (c j : Nat), j ≤ bs.length → (∀ t, t < j → c + (laidB (bs.take (t + 1))).length ≤ k) → (j = bs.length ∨ k < c + (laidB (bs.take (j + 1))).length) →
    (wantB c k bs).1 = j ∧ (j ≠ 0 → (wantB c k bs).2 = c + (laidB (bs.take j)).length)
  | [], c, j, h, _, _ => by
    have : j = 0 := by simpa using h
    subst this
    exact ⟨rfl, fun e => absurd rfl e⟩
  | b :: r, c, 0, _, _, h => by
    have hlt : k < c + (layB (frameL b)).length := by
      rcases h with h | h
      · simp at h
      · simpa [laidB] using h
    rw [wantB_stop r (by omega)]
    exact ⟨rfl, fun e => absurd rfl e⟩
  | b :: r, c, j + 1, h, ht, hs => by
    have h0 : c + (layB (frameL b)).length ≤ k := by
      have := ht 0 (by omega)
      simpa [laidB] using this
    obtain ⟨i1, i2⟩ := want_is k r (c + (layB (frameL b)).length) j (by simpa using h)
      (fun t htj => by have := ht (t + 1) (by omega); simp only [List.take_succ_cons, laidB, List.length_append] at this; omega)
      (by rcases hs with h | h
          · left; simpa using h
          · right; simp only [List.take_succ_cons, laidB, List.length_append] at h; omega)
    rw [wantB_go r h0]
    refine ⟨by rw [i1], fun _ => ?_⟩
    simp only [List.take_succ_cons, laidB, List.length_append]
    by_cases hj : j = 0
    · subst hj
      rw [i1, if_pos rfl]; simp [laidB]
    · rw [i1, if_neg hj, i2 hj]; omega
/-- What is scanned, told by how many bodies end ahead of the cut. -/
theorem scan_cut (bs : List (List UInt8)) (hb : ∀ b ∈ bs, b.length ≤ 8192) (k j : Nat) (tail : List (List UInt8)) (hk : k < (laidB bs).length) (h1 : joinGo 1 tail = ⟨[], 0⟩) (h2 : joinGo 2 tail = ⟨[], 0⟩)
    (hj : j ≤ bs.length) (ht : ∀ t, t < j → (laidB (bs.take (t + 1))).length ≤ k) (hs : j = bs.length ∨ k < (laidB (bs.take (j + 1))).length) :
    scanB ((laidB bs).take k ++ tail) = (placeB 0 (bs.take j), (laidB (bs.take j)).length) := by
  obtain ⟨w1, w2⟩ := want_is k bs 0 j hj (fun t h => by have := ht t h; omega) (by omega)
  have := scan_part k tail h1 h2 bs 0 hb (Nat.zero_le _) (by omega) _ rfl
  rw [Nat.sub_zero, w1] at this
  have e : (if j = 0 then 0 else (wantB 0 k bs).2) = (laidB (bs.take j)).length := by
    by_cases h0 : j = 0
    · subst h0; simp [laidB]
    · rw [if_neg h0, w2 h0]; omega
  rw [e] at this
  exact this

set_option maxHeartbeats 4000000 in
set_option maxRecDepth 20000 in
theorem frameTorn_walk (v : Value) (bs : List (List UInt8)) (m1 m2 : Nat) (w : World) (h : LV w v bs) (hm1 : m1 < 65536) (hm2 : m2 < 256) :
    Calls Try.prog 6 #[v, .int .u16 m1, .int .u8 m2] w fun e w' => e = .returned (.bool true) ∧ Ext w w' := by
  obtain ⟨p, cp, rfl, hn, hcp⟩ := h.slice
  by_cases h10 : 10 < bs.length
  · go_enter Try.func6, Try.ntmps6
    go_wp2_with (go_at_call 7; refine (awake_any _).mono ?_; rintro e w1 ⟨rfl, hx1⟩)
    go_ret
    exact ⟨rfl, hx1⟩
  have L1 := laid_any (.slice p bs.length cp) bs w h (by omega)
  by_cases hall : ∀ b ∈ bs, b.length ≤ 300
  case neg =>
    have L1 := L1.mono (R' := fun e w' => Ext w w' ∧ e = .returned (.tuple #[.slice none 0 0, .slice none 0 0, .bool false])) fun e w' hh => ⟨hh.1, hh.2.elim (fun hh => absurd hh.1 hall) fun hh => hh.2⟩
    go_enter Try.func6, Try.ntmps6
    go_wp2_with (first
      | (go_at_call 21; refine L1.mono ?_; rintro e w1 ⟨hx1, rfl⟩)
      | (go_at_call 7; refine (awake_any _).mono ?_; rintro e w2 ⟨rfl, hx2⟩))
    go_ret
    exact ⟨rfl, hx1.trans hx2⟩
  have L1 := L1.mono (R' := fun e w' => Ext w w' ∧ ∃ v1 v2, e = .returned (.tuple #[v1, v2, .bool true]) ∧ LB (fun k => w.heap.size ≤ k ∧ some k ≠ v2.ownBlock) w' w.heap.size v1 (laidB bs) ∧ ORow 3 1 RN (fun _ => False) w' w.heap.size v2 (esB bs bs.length)) fun e w' hh => ⟨hh.1, hh.2.elim (fun hh => hh.2) fun hh => absurd hall hh.1⟩
  have hfew := laidB_few bs hall
  have hel := esB_length bs bs.length
  have hget := fun j hj => esB_get bs bs.length j hj
  have hcut := fun k j tail => scan_cut bs (fun b hb => by have := hall b hb; omega) k j tail
  have heach := laidB_each bs
  have htl : ∀ j, (laidB (bs.take j)).length ≤ 60 := fun j => by
    have := laidB_few (bs.take j) fun b hb => hall b (List.mem_of_mem_take hb)
    rw [List.length_take] at this
    omega
  generalize esB bs bs.length = es at *
  generalize laidB bs = ll at *
  have hesb : es.length ≤ 10 := by omega
  have HE := Lib.hid hel; clear hel
  have HG := Lib.hid hget; clear hget
  by_cases h0 : ll.length = 0
  · have hz : ((ll.length : Int) == 0) = true := by rw [h0]; rfl
    clear hcut heach h0
    go_enter Try.func6, Try.ntmps6
    go_wp2_with (first
      | (go_at_call 21; refine L1.mono ?_; rintro e w1 ⟨hx1, v1, v2, rfl, ho1, he1⟩; obtain ⟨p1, c1, rfl, _, _⟩ := ho1.view.slice)
      | (go_at_call 7; refine (awake_any _).mono ?_; rintro e w2 ⟨rfl, hx2⟩))
    go_ret
    exact ⟨rfl, hx1.trans hx2⟩
  have hz : ((ll.length : Int) == 0) = false := by rw [beq_eq_false_iff_ne]; omega
  obtain ⟨k, hk, hk2, hkl⟩ : ∃ k : Nat, (m1 : Int).tmod (ll.length : Int) = (k : Int) ∧ (m1 : Int) % (ll.length : Int) = (k : Int) ∧ k < ll.length :=
    ⟨m1 % ll.length, by rw [Int.tmod_eq_emod_of_nonneg (by omega)]; exact (Int.natCast_emod m1 ll.length).symm, (Int.natCast_emod m1 ll.length).symm, Nat.mod_lt _ (by omega)⟩
  obtain ⟨t, ht, ht3, ht2⟩ : ∃ t : Nat, (m2 : Int).tmod 64 = (t : Int) ∧ (m2 : Int) % 64 = (t : Int) ∧ t < 64 := ⟨m2 % 64, by rw [Int.tmod_eq_emod_of_nonneg (by omega)]; exact (Int.natCast_emod m2 64).symm, (Int.natCast_emod m2 64).symm, Nat.mod_lt _ (by omega)⟩
  have e0 : IntKind.i64.wrap (k : Int) = k := by rw [IntKind.wrap_i64]; omega
  have e1 : IntKind.i64.wrap (m1 : Int) = m1 := by rw [IntKind.wrap_i64]; omega
  have e3 : IntKind.u8.wrap (t : Int) = t := by rw [IntKind.wrap_u8]; omega
  have e4 : IntKind.i64.wrap (t : Int) = t := by rw [IntKind.wrap_i64]; omega
  have e5 : IntKind.i64.wrap ((64 : Int) - t) = (64 : Int) - t := by rw [IntKind.wrap_i64]; omega
  have e6 : (64 : Int) - (t : Int) = ((64 - t : Nat) : Int) := by omega
  have E6 := Lib.hid e6; clear e6
  have hj0 : joinGo 1 ([] : List (List UInt8)) = ⟨[], 0⟩ ∧ joinGo 2 ([] : List (List UInt8)) = ⟨[], 0⟩ := ⟨rfl, rfl⟩
  have htail : 0 < t ∨ t = 0 := by omega
  rcases htail with htp | htz
  · have hgt0 : (0 : Int) < (t : Int) := by omega
    go_enter Try.func6, Try.ntmps6
    go_wp2_with (first
      | (go_at_call 21; refine L1.mono ?_; rintro e w1 ⟨hx1, v1, v2, rfl, ho1, he1⟩; obtain ⟨p1, c1, rfl, hd1, _⟩ := ho1.view.slice; obtain ⟨p2, c2, rfl, _, _⟩ := he1.view.slice
         have s1 := ho1.view.mono (T := fun _ => True) fun _ _ _ => trivial
         have s5 : SRow 1 RB (fun k => True ∧ some k ≠ (Value.slice (some ⟨w1.heap.size, 0, none⟩) 0 0).ownBlock) (w1.alloc (.cells #[] 22)) (.slice p1 k c1) (ll.take k) := ((s1.mono fun k hk _ => ⟨trivial, fun e => by cases e; exact Nat.lt_irrefl _ hk⟩).ext (Ext.alloc _ _)).take (by omega) (by omega) (Nat.le_refl _))
      | ((with_reducible show wpList _ _ _ (Oper.mk _ (Op.slice _ _ _ _ _) _ _ _ _ :: _) _ _); refine st_sliceTo T.lists k c1 ?_)
      | (at_builtin; refine st_items T.lists (ORow.lit0 (fun _ => True) w1 (Nat.le_refl _)) s5 ?_ (by simp [maxLen]; omega) (by simp; omega) (by simp); intro v3 w2 ho3 hg3 hw3; rw [List.nil_append] at ho3; have hx2 := (ORow.lit0 (α := List UInt8) (sz := 1) (R := RB) (fun _ => True) w1 (Nat.le_refl _)).grown (Ext.alloc _ _) hg3
         obtain ⟨b3, o3, u3, rfl, hc3, hu3⟩ := (s1.ext hx2).row hkl
         have hz64 := heach _ (List.getElem_mem hkl)
         generalize ll[k] = z at *
         have hz3 := hu3.now
         obtain ⟨p3, d3, rfl, hd3, hd3', _⟩ := id hz3
         rw [hz64] at hz3 hc3 hd3
         have hcc := (Ext.alloc w2 (.cells #[] 5)).cell hc3
         have hbt := hz3.take (k := t) (c' := d3) (by omega) (by omega) (Nat.le_refl _)
         have hto := open_torn' z hz64 t ht2)
      | ((with_reducible show wpList _ _ _ (Oper.mk _ (Op.slice _ _ _ _ _) _ _ _ _ :: _) _ _); refine st_sliceTo T.bytes t d3 ?_)
      | (at_builtin; refine st_append T.bytes (FB.lit0 w2 (Nat.le_refl _)) (hbt.ext (Ext.alloc _ _)) ?_ (by simp; omega) (by simp); intro v4 w3 hf4 hg4 _; have hx3 := (Ext.alloc w2 _).append (FB.lit0 w2 (Nat.le_refl _)) hg4; rw [List.nil_append] at hf4)
      | (at_builtin; refine st_zeros T.bytes T.int (64 - t) hf4 ?_ (by simp; omega) hx3.size (by exact congrArg (Value.int .i64) E6.out); intro v6 w4 hf6 hg6 _; have hx4 := hx3.append hf4 hg6
         generalize z.take t ++ List.replicate (64 - t) 0 = torn at *
         obtain ⟨p4, d4, rfl, hd4, hd4', _⟩ := hf6.slice
         have ho3a := (ho3.keep hx4).keep (Ext.alloc w4 (.cells #[.slice p4 torn.length d4] 22))
         have hx4a := (hx2.trans hx4).trans (Ext.alloc w4 (.cells #[.slice p4 torn.length d4] 22))
         have s6 : SRow 1 RB (fun k => True ∧ some k ≠ v3.ownBlock) (w4.alloc (.cells #[.slice p4 torn.length d4] 22)) (.slice (some ⟨w4.heap.size, 0, none⟩) 1 1) [torn] := LV.lit1 (hf6.far_under fun k hk _ => ⟨trivial, fun e => by have := (ho3.own k e.symm).2; omega⟩))
      | (at_builtin; refine st_items T.lists ho3a s6 ?_ (by simp [maxLen]; omega) (by simp; omega) hx4a.size; intro v5 w5 hot hg5 hw5; have hxt := ho3a.grown hx4a hg5
         have hjt : joinGo 1 [torn] = ⟨[], 0⟩ ∧ joinGo 2 [torn] = ⟨[], 0⟩ := ⟨joinGo_stop _ _ _ fun e => hto e.1, joinGo_stop _ _ _ fun e => hto e.1⟩))
    obtain ⟨pt, ct, et, _, _⟩ := hot.view.slice
    have hst := hot.view.mono (T := fun _ => True) fun _ _ _ => trivial
    have hcut2 := fun j => hcut k j [torn] hkl hjt.1 hjt.2
    have HC := Lib.hid hcut2
    have hlent : (ll.take k ++ [torn]).length ≤ 61 := by simp; omega
    have SC := fun w h => fscan_any v5 (ll.take k ++ [torn]) w h (by omega)
    generalize ll.take k ++ [torn] = tl at *
    subst et
    clear hcut hcut2 hjt hot hlent
    have e1t := (he1.view.mono (T := fun _ => True) fun _ _ _ => trivial).ext hxt
    have h1t := h.ext (hx1.trans hxt)
    have hx0t := hx1.trans hxt
    go_loopg [12, 13] es.length (fun k' s12 s13 wr => ∃ j end_ : Nat, s12 = .int .i64 j ∧ s13 = .int .i64 end_ ∧ Hid (end_ = (laidB (bs.take j)).length) ∧ j ≤ es.length ∧ k' = es.length - j ∧ Hid (∀ t, t < j → (laidB (bs.take (t + 1))).length ≤ k) ∧ Ext w5 wr)
    case atStart => exact ⟨0, 0, rfl, rfl, by simp [laidB, Hid], by omega, rfl, fun t h => by omega, Ext.refl _⟩
    case round =>
      obtain ⟨j, end_, rfl, rfl, hend, hj, hk', hup, hx⟩ := hrel
      have hgo : j < es.length ∧ (laidB (bs.take (j + 1))).length ≤ k ∨ (j = es.length ∨ j < es.length ∧ k < (laidB (bs.take (j + 1))).length) := by omega
      rcases hgo with ⟨hlt, hle⟩ | hstop
      · obtain ⟨b5, o5, rfl, q4⟩ := int_at e1t hlt
        rw [HG.out j hlt] at q4
        obtain ⟨nx, hnx⟩ : ∃ nx, (laidB (bs.take (j + 1))).length = nx := ⟨_, rfl⟩
        rw [hnx] at q4 hle
        have HN := Lib.hid hnx
        have HU : Hid (∀ t, t < j + 1 → (laidB (bs.take (t + 1))).length ≤ k) := fun t ht => by
          by_cases e : t = j
          · subst e; omega
          · exact hup.out t (by omega)
        clear hnx
        have q5 := hx.cell q4
        go_wp2_with fail
        go_roundg (es.length - (j + 1))
        case measure => omega
        case rel => exact ⟨j + 1, nx, by go_num, rfl, HN.out.symm, hlt, rfl, HU, hx⟩
      · have hsc := HC.out j (by have := HE.out; omega) hup.out (by have := HE.out; omega)
        obtain ⟨pl, hpl⟩ : ∃ pl, placeB 0 (bs.take j) = pl := ⟨_, rfl⟩
        rw [hsc, ← hend.out, hpl] at SC
        have hplen := placeB_length 0 (bs.take j)
        rw [hpl] at hplen
        rw [List.length_take, Nat.min_eq_left (by have := HE.out; omega)] at hplen
        have hjb : j ≤ bs.length := by have := HE.out; omega
        have hpg : ∀ i, i < j → (pl[i]?).map Prod.snd = bs[i]? := fun i hi => by
          rw [← hpl, placeB_get 0 (bs.take j) i (by rw [List.length_take]; omega), List.getElem?_eq_getElem (show i < bs.length by omega)]
          simp
        clear hpl
        have HPG := Lib.hid hpg
        have HPL := Lib.hid hplen
        dsimp only at SC
        have hz9 : ((pl.length : Int) != (j : Int)) = false := by rw [hplen]; simp
        have hnn : (end_ : Int) ≤ 60 := by have := htl j; have := hend.out; omega
        clear hpg hplen hsc
        have hst2 := hst.ext hx
        have h1t2 := h1t.ext hx
        have hsplit : j = es.length ∨ (j < es.length ∧ k < (laidB (bs.take (j + 1))).length) := hstop
        clear hstop
        rcases hsplit with hjl | ⟨hlt, hgt⟩
        · have hge : ¬ (j : Int) < (es.length : Int) := by omega
          have HJ := Lib.hid hjl
          clear hjl hj
          go_wp2_with (first
            | (go_at_call 16; refine (SC _ hst2).mono ?_; rintro e w7 ⟨v7, rfl, ho7, hx7⟩; obtain ⟨p7, c7, rfl, _, _⟩ := ho7.view.slice))
          have s7 := ho7.view.mono (T := fun _ => True) fun _ _ _ => trivial
          have h7 := h1t2.ext hx7
          have hx07 := (hx0t.trans hx).trans hx7
          clear ho7 SC
          go_loopg [16] j (fun k' s16 wr => ∃ i : Nat, s16 = .int .i64 i ∧ i ≤ j ∧ k' = j - i ∧ Ext w7 wr)
          case atStart => exact ⟨0, rfl, by omega, rfl, Ext.refl _⟩
          case round =>
            obtain ⟨i, rfl, hi, hki, hxi⟩ := hrel
            by_cases hij : i < j
            case neg =>
              go_wp2_with (go_at_call 7; refine (awake_any _).mono ?_; rintro e w8 ⟨rfl, hx8⟩)
              go_ret
              exact ⟨rfl, (hx07.trans hxi).trans hx8⟩
            case pos =>
              have hip : i < pl.length := by have := HPL.out; omega
              have hib : i < bs.length := by omega
              obtain ⟨b8, o8, u8', rfl, _, q2, hu8⟩ := found_at s7 hip
              obtain ⟨b9, o9, u9', rfl, q3, hu9⟩ := h7.row hib
              have he8 : (pl[i]).2 = bs[i] := by
                have := HPG.out i hij
                rw [List.getElem?_eq_getElem hip, List.getElem?_eq_getElem hib] at this
                exact Option.some.inj this
              have r8 := hu8.now
              have r9 := hu9.now
              rw [he8] at r8
              generalize bs[i] = z' at *
              clear hu8 hu9 he8
              go_wp2_with fail
              apply wp_region_dag (X := Ext) (by kernel_rfl) (by kernel_rfl) (fun _ _ _ => Ext.trans) (Ext.drew1 _)
              apply dag_val Ext.refl rfl (by intro W hW H; go_simp <;> rfl)
              simp only [Act.put, List.setIfInBounds_toArray, List.set_cons_zero, List.set_cons_succ]
              apply dag_val Ext.refl rfl (by intro W hW H; go_simp <;> rfl)
              simp only [Act.put, List.setIfInBounds_toArray, List.set_cons_zero, List.set_cons_succ]
              apply dag_val Ext.refl rfl (by intro W hW H; have hi : (i : Int) < (pl.length : Int) := (by omega); go_simp <;> rfl)
              simp only [Act.put, List.setIfInBounds_toArray, List.set_cons_zero, List.set_cons_succ]
              apply dag_val Ext.refl rfl (by intro W hW H; go_simp <;> rfl)
              simp only [Act.put, List.setIfInBounds_toArray, List.set_cons_zero, List.set_cons_succ]
              apply dag_val Ext.refl rfl (by intro W hW H; have hq := (hxi.trans hW).cell q2; go_simp <;> rfl)
              simp only [Act.put, List.setIfInBounds_toArray, List.set_cons_zero, List.set_cons_succ]
              refine' dag_val Ext.refl rfl (fun W hW H => run_op_bytes_string T.bytes T.u8 T.str rfl rfl (v := u8') (l := z') (by exact (r8.ext hxi).ext hW)) _
              rotate_left
              simp only [Act.put, List.setIfInBounds_toArray, List.set_cons_zero, List.set_cons_succ]
              apply dag_val Ext.refl rfl (by intro W hW H; go_simp <;> rfl)
              simp only [Act.put, List.setIfInBounds_toArray, List.set_cons_zero, List.set_cons_succ]
              apply dag_val Ext.refl rfl (by intro W hW H; go_simp <;> rfl)
              simp only [Act.put, List.setIfInBounds_toArray, List.set_cons_zero, List.set_cons_succ]
              apply dag_val Ext.refl rfl (by intro W hW H; have hi : (i : Int) < (bs.length : Int) := (by omega); go_simp <;> rfl)
              simp only [Act.put, List.setIfInBounds_toArray, List.set_cons_zero, List.set_cons_succ]
              apply dag_val Ext.refl rfl (by intro W hW H; have hq := (hxi.trans hW).cell q3; go_simp <;> rfl)
              simp only [Act.put, List.setIfInBounds_toArray, List.set_cons_zero, List.set_cons_succ]
              refine' dag_val Ext.refl rfl (fun W hW H => run_op_bytes_string T.bytes T.u8 T.str rfl rfl (v := u9') (l := z') (by exact (r9.ext hxi).ext hW)) _
              rotate_left
              simp only [Act.put, List.setIfInBounds_toArray, List.set_cons_zero, List.set_cons_succ]
              apply dag_val Ext.refl rfl (by intro W hW H; go_simp <;> rfl)
              simp only [Act.put, List.setIfInBounds_toArray, List.set_cons_zero, List.set_cons_succ]
              refine dag_end fun W hW H => ?_
              go_wp2_with fail
              go_roundg (j - (i + 1))
              case measure => omega
              case rel => exact ⟨i + 1, by go_num, hij, rfl, hxi.trans hW⟩
        · obtain ⟨b5, o5, rfl, q4⟩ := int_at e1t hlt
          rw [HG.out j hlt] at q4
          generalize (laidB (bs.take (j + 1))).length = nx at q4 hgt
          have q5 := hx.cell q4
          go_wp2_with (first
            | (go_at_call 16; refine (SC _ hst2).mono ?_; rintro e w7 ⟨v7, rfl, ho7, hx7⟩; obtain ⟨p7, c7, rfl, _, _⟩ := ho7.view.slice))
          have s7 := ho7.view.mono (T := fun _ => True) fun _ _ _ => trivial
          have h7 := h1t2.ext hx7
          have hx07 := (hx0t.trans hx).trans hx7
          clear ho7 SC
          go_loopg [16] j (fun k' s16 wr => ∃ i : Nat, s16 = .int .i64 i ∧ i ≤ j ∧ k' = j - i ∧ Ext w7 wr)
          case atStart => exact ⟨0, rfl, by omega, rfl, Ext.refl _⟩
          case round =>
            obtain ⟨i, rfl, hi, hki, hxi⟩ := hrel
            by_cases hij : i < j
            case neg =>
              go_wp2_with (go_at_call 7; refine (awake_any _).mono ?_; rintro e w8 ⟨rfl, hx8⟩)
              go_ret
              exact ⟨rfl, (hx07.trans hxi).trans hx8⟩
            case pos =>
              have hip : i < pl.length := by have := HPL.out; omega
              have hib : i < bs.length := by omega
              obtain ⟨b8, o8, u8', rfl, _, q2, hu8⟩ := found_at s7 hip
              obtain ⟨b9, o9, u9', rfl, q3, hu9⟩ := h7.row hib
              have he8 : (pl[i]).2 = bs[i] := by
                have := HPG.out i hij
                rw [List.getElem?_eq_getElem hip, List.getElem?_eq_getElem hib] at this
                exact Option.some.inj this
              have r8 := hu8.now
              have r9 := hu9.now
              rw [he8] at r8
              generalize bs[i] = z' at *
              clear hu8 hu9 he8
              go_wp2_with fail
              apply wp_region_dag (X := Ext) (by kernel_rfl) (by kernel_rfl) (fun _ _ _ => Ext.trans) (Ext.drew1 _)
              apply dag_val Ext.refl rfl (by intro W hW H; go_simp <;> rfl)
              simp only [Act.put, List.setIfInBounds_toArray, List.set_cons_zero, List.set_cons_succ]
              apply dag_val Ext.refl rfl (by intro W hW H; go_simp <;> rfl)
              simp only [Act.put, List.setIfInBounds_toArray, List.set_cons_zero, List.set_cons_succ]
              apply dag_val Ext.refl rfl (by intro W hW H; have hi : (i : Int) < (pl.length : Int) := (by omega); go_simp <;> rfl)
              simp only [Act.put, List.setIfInBounds_toArray, List.set_cons_zero, List.set_cons_succ]
              apply dag_val Ext.refl rfl (by intro W hW H; go_simp <;> rfl)
              simp only [Act.put, List.setIfInBounds_toArray, List.set_cons_zero, List.set_cons_succ]
              apply dag_val Ext.refl rfl (by intro W hW H; have hq := (hxi.trans hW).cell q2; go_simp <;> rfl)
              simp only [Act.put, List.setIfInBounds_toArray, List.set_cons_zero, List.set_cons_succ]
              refine' dag_val Ext.refl rfl (fun W hW H => run_op_bytes_string T.bytes T.u8 T.str rfl rfl (v := u8') (l := z') (by exact (r8.ext hxi).ext hW)) _
              rotate_left
              simp only [Act.put, List.setIfInBounds_toArray, List.set_cons_zero, List.set_cons_succ]
              apply dag_val Ext.refl rfl (by intro W hW H; go_simp <;> rfl)
              simp only [Act.put, List.setIfInBounds_toArray, List.set_cons_zero, List.set_cons_succ]
              apply dag_val Ext.refl rfl (by intro W hW H; go_simp <;> rfl)
              simp only [Act.put, List.setIfInBounds_toArray, List.set_cons_zero, List.set_cons_succ]
              apply dag_val Ext.refl rfl (by intro W hW H; have hi : (i : Int) < (bs.length : Int) := (by omega); go_simp <;> rfl)
              simp only [Act.put, List.setIfInBounds_toArray, List.set_cons_zero, List.set_cons_succ]
              apply dag_val Ext.refl rfl (by intro W hW H; have hq := (hxi.trans hW).cell q3; go_simp <;> rfl)
              simp only [Act.put, List.setIfInBounds_toArray, List.set_cons_zero, List.set_cons_succ]
              refine' dag_val Ext.refl rfl (fun W hW H => run_op_bytes_string T.bytes T.u8 T.str rfl rfl (v := u9') (l := z') (by exact (r9.ext hxi).ext hW)) _
              rotate_left
              simp only [Act.put, List.setIfInBounds_toArray, List.set_cons_zero, List.set_cons_succ]
              apply dag_val Ext.refl rfl (by intro W hW H; go_simp <;> rfl)
              simp only [Act.put, List.setIfInBounds_toArray, List.set_cons_zero, List.set_cons_succ]
              refine dag_end fun W hW H => ?_
              go_wp2_with fail
              go_roundg (j - (i + 1))
              case measure => omega
              case rel => exact ⟨i + 1, by go_num, hij, rfl, hxi.trans hW⟩
  · have hgt0 : ¬ (0 : Int) < (t : Int) := by omega
    go_enter Try.func6, Try.ntmps6
    go_wp2_with (first
      | (go_at_call 21; refine L1.mono ?_; rintro e w1 ⟨hx1, v1, v2, rfl, ho1, he1⟩; obtain ⟨p1, c1, rfl, hd1, _⟩ := ho1.view.slice; obtain ⟨p2, c2, rfl, _, _⟩ := he1.view.slice
         have s1 := ho1.view.mono (T := fun _ => True) fun _ _ _ => trivial
         have s5 : SRow 1 RB (fun k => True ∧ some k ≠ (Value.slice (some ⟨w1.heap.size, 0, none⟩) 0 0).ownBlock) (w1.alloc (.cells #[] 22)) (.slice p1 k c1) (ll.take k) := ((s1.mono fun k hk _ => ⟨trivial, fun e => by cases e; exact Nat.lt_irrefl _ hk⟩).ext (Ext.alloc _ _)).take (by omega) (by omega) (Nat.le_refl _))
      | ((with_reducible show wpList _ _ _ (Oper.mk _ (Op.slice _ _ _ _ _) _ _ _ _ :: _) _ _); refine st_sliceTo T.lists k c1 ?_)
      | (at_builtin; refine st_items T.lists (ORow.lit0 (fun _ => True) w1 (Nat.le_refl _)) s5 ?_ (by simp [maxLen]; omega) (by simp; omega) (by simp); intro v3 w2 ho3 hg3 hw3; rw [List.nil_append] at ho3; have hx2 := (ORow.lit0 (α := List UInt8) (sz := 1) (R := RB) (fun _ => True) w1 (Nat.le_refl _)).grown (Ext.alloc _ _) hg3
         have hot : ORow 22 1 RB (fun _ => True) w2 w1.heap.size v3 (ll.take k ++ []) := by rw [List.append_nil]; exact ho3
         have hxt := hx2
         have hjt := hj0))
    obtain ⟨pt, ct, et, _, _⟩ := hot.view.slice
    have hst := hot.view.mono (T := fun _ => True) fun _ _ _ => trivial
    have hcut2 := fun j => hcut k j [] hkl hjt.1 hjt.2
    have HC := Lib.hid hcut2
    have hlent : (ll.take k ++ []).length ≤ 61 := by simp; omega
    have SC := fun w h => fscan_any v3 (ll.take k ++ []) w h (by omega)
    generalize ll.take k ++ [] = tl at *
    subst et
    clear hcut hcut2 hjt hot hlent
    have e1t := (he1.view.mono (T := fun _ => True) fun _ _ _ => trivial).ext hxt
    have h1t := h.ext (hx1.trans hxt)
    have hx0t := hx1.trans hxt
    go_loopg [12, 13] es.length (fun k' s12 s13 wr => ∃ j end_ : Nat, s12 = .int .i64 j ∧ s13 = .int .i64 end_ ∧ Hid (end_ = (laidB (bs.take j)).length) ∧ j ≤ es.length ∧ k' = es.length - j ∧ Hid (∀ t, t < j → (laidB (bs.take (t + 1))).length ≤ k) ∧ Ext w2 wr)
    case atStart => exact ⟨0, 0, rfl, rfl, by simp [laidB, Hid], by omega, rfl, fun t h => by omega, Ext.refl _⟩
    case round =>
      obtain ⟨j, end_, rfl, rfl, hend, hj, hk', hup, hx⟩ := hrel
      have hgo : j < es.length ∧ (laidB (bs.take (j + 1))).length ≤ k ∨ (j = es.length ∨ j < es.length ∧ k < (laidB (bs.take (j + 1))).length) := by omega
      rcases hgo with ⟨hlt, hle⟩ | hstop
      · obtain ⟨b5, o5, rfl, q4⟩ := int_at e1t hlt
        rw [HG.out j hlt] at q4
        obtain ⟨nx, hnx⟩ : ∃ nx, (laidB (bs.take (j + 1))).length = nx := ⟨_, rfl⟩
        rw [hnx] at q4 hle
        have HN := Lib.hid hnx
        have HU : Hid (∀ t, t < j + 1 → (laidB (bs.take (t + 1))).length ≤ k) := fun t ht => by
          by_cases e : t = j
          · subst e; omega
          · exact hup.out t (by omega)
        clear hnx
        have q5 := hx.cell q4
        go_wp2_with fail
        go_roundg (es.length - (j + 1))
        case measure => omega
        case rel => exact ⟨j + 1, nx, by go_num, rfl, HN.out.symm, hlt, rfl, HU, hx⟩
      · have hsc := HC.out j (by have := HE.out; omega) hup.out (by have := HE.out; omega)
        obtain ⟨pl, hpl⟩ : ∃ pl, placeB 0 (bs.take j) = pl := ⟨_, rfl⟩
        rw [hsc, ← hend.out, hpl] at SC
        have hplen := placeB_length 0 (bs.take j)
        rw [hpl] at hplen
        rw [List.length_take, Nat.min_eq_left (by have := HE.out; omega)] at hplen
        have hjb : j ≤ bs.length := by have := HE.out; omega
        have hpg : ∀ i, i < j → (pl[i]?).map Prod.snd = bs[i]? := fun i hi => by
          rw [← hpl, placeB_get 0 (bs.take j) i (by rw [List.length_take]; omega), List.getElem?_eq_getElem (show i < bs.length by omega)]
          simp
        clear hpl
        have HPG := Lib.hid hpg
        have HPL := Lib.hid hplen
        dsimp only at SC
        have hz9 : ((pl.length : Int) != (j : Int)) = false := by rw [hplen]; simp
        have hnn : (end_ : Int) ≤ 60 := by have := htl j; have := hend.out; omega
        clear hpg hplen hsc
        have hst2 := hst.ext hx
        have h1t2 := h1t.ext hx
        have hsplit : j = es.length ∨ (j < es.length ∧ k < (laidB (bs.take (j + 1))).length) := hstop
        clear hstop
        rcases hsplit with hjl | ⟨hlt, hgt⟩
        · have hge : ¬ (j : Int) < (es.length : Int) := by omega
          have HJ := Lib.hid hjl
          clear hjl hj
          go_wp2_with (first
            | (go_at_call 16; refine (SC _ hst2).mono ?_; rintro e w7 ⟨v7, rfl, ho7, hx7⟩; obtain ⟨p7, c7, rfl, _, _⟩ := ho7.view.slice))
          have s7 := ho7.view.mono (T := fun _ => True) fun _ _ _ => trivial
          have h7 := h1t2.ext hx7
          have hx07 := (hx0t.trans hx).trans hx7
          clear ho7 SC
          go_loopg [16] j (fun k' s16 wr => ∃ i : Nat, s16 = .int .i64 i ∧ i ≤ j ∧ k' = j - i ∧ Ext w7 wr)
          case atStart => exact ⟨0, rfl, by omega, rfl, Ext.refl _⟩
          case round =>
            obtain ⟨i, rfl, hi, hki, hxi⟩ := hrel
            by_cases hij : i < j
            case neg =>
              go_wp2_with (go_at_call 7; refine (awake_any _).mono ?_; rintro e w8 ⟨rfl, hx8⟩)
              go_ret
              exact ⟨rfl, (hx07.trans hxi).trans hx8⟩
            case pos =>
              have hip : i < pl.length := by have := HPL.out; omega
              have hib : i < bs.length := by omega
              obtain ⟨b8, o8, u8', rfl, _, q2, hu8⟩ := found_at s7 hip
              obtain ⟨b9, o9, u9', rfl, q3, hu9⟩ := h7.row hib
              have he8 : (pl[i]).2 = bs[i] := by
                have := HPG.out i hij
                rw [List.getElem?_eq_getElem hip, List.getElem?_eq_getElem hib] at this
                exact Option.some.inj this
              have r8 := hu8.now
              have r9 := hu9.now
              rw [he8] at r8
              generalize bs[i] = z' at *
              clear hu8 hu9 he8
              go_wp2_with fail
              apply wp_region_dag (X := Ext) (by kernel_rfl) (by kernel_rfl) (fun _ _ _ => Ext.trans) (Ext.drew1 _)
              apply dag_val Ext.refl rfl (by intro W hW H; go_simp <;> rfl)
              simp only [Act.put, List.setIfInBounds_toArray, List.set_cons_zero, List.set_cons_succ]
              apply dag_val Ext.refl rfl (by intro W hW H; go_simp <;> rfl)
              simp only [Act.put, List.setIfInBounds_toArray, List.set_cons_zero, List.set_cons_succ]
              apply dag_val Ext.refl rfl (by intro W hW H; have hi : (i : Int) < (pl.length : Int) := (by omega); go_simp <;> rfl)
              simp only [Act.put, List.setIfInBounds_toArray, List.set_cons_zero, List.set_cons_succ]
              apply dag_val Ext.refl rfl (by intro W hW H; go_simp <;> rfl)
              simp only [Act.put, List.setIfInBounds_toArray, List.set_cons_zero, List.set_cons_succ]
              apply dag_val Ext.refl rfl (by intro W hW H; have hq := (hxi.trans hW).cell q2; go_simp <;> rfl)
              simp only [Act.put, List.setIfInBounds_toArray, List.set_cons_zero, List.set_cons_succ]
              refine' dag_val Ext.refl rfl (fun W hW H => run_op_bytes_string T.bytes T.u8 T.str rfl rfl (v := u8') (l := z') (by exact (r8.ext hxi).ext hW)) _
              rotate_left
              simp only [Act.put, List.setIfInBounds_toArray, List.set_cons_zero, List.set_cons_succ]
              apply dag_val Ext.refl rfl (by intro W hW H; go_simp <;> rfl)
              simp only [Act.put, List.setIfInBounds_toArray, List.set_cons_zero, List.set_cons_succ]
              apply dag_val Ext.refl rfl (by intro W hW H; go_simp <;> rfl)
              simp only [Act.put, List.setIfInBounds_toArray, List.set_cons_zero, List.set_cons_succ]
              apply dag_val Ext.refl rfl (by intro W hW H; have hi : (i : Int) < (bs.length : Int) := (by omega); go_simp <;> rfl)
              simp only [Act.put, List.setIfInBounds_toArray, List.set_cons_zero, List.set_cons_succ]
              apply dag_val Ext.refl rfl (by intro W hW H; have hq := (hxi.trans hW).cell q3; go_simp <;> rfl)
              simp only [Act.put, List.setIfInBounds_toArray, List.set_cons_zero, List.set_cons_succ]
              refine' dag_val Ext.refl rfl (fun W hW H => run_op_bytes_string T.bytes T.u8 T.str rfl rfl (v := u9') (l := z') (by exact (r9.ext hxi).ext hW)) _
              rotate_left
              simp only [Act.put, List.setIfInBounds_toArray, List.set_cons_zero, List.set_cons_succ]
              apply dag_val Ext.refl rfl (by intro W hW H; go_simp <;> rfl)
              simp only [Act.put, List.setIfInBounds_toArray, List.set_cons_zero, List.set_cons_succ]
              refine dag_end fun W hW H => ?_
              go_wp2_with fail
              go_roundg (j - (i + 1))
              case measure => omega
              case rel => exact ⟨i + 1, by go_num, hij, rfl, hxi.trans hW⟩
        · obtain ⟨b5, o5, rfl, q4⟩ := int_at e1t hlt
          rw [HG.out j hlt] at q4
          generalize (laidB (bs.take (j + 1))).length = nx at q4 hgt
          have q5 := hx.cell q4
          go_wp2_with (first
            | (go_at_call 16; refine (SC _ hst2).mono ?_; rintro e w7 ⟨v7, rfl, ho7, hx7⟩; obtain ⟨p7, c7, rfl, _, _⟩ := ho7.view.slice))
          have s7 := ho7.view.mono (T := fun _ => True) fun _ _ _ => trivial
          have h7 := h1t2.ext hx7
          have hx07 := (hx0t.trans hx).trans hx7
          clear ho7 SC
          go_loopg [16] j (fun k' s16 wr => ∃ i : Nat, s16 = .int .i64 i ∧ i ≤ j ∧ k' = j - i ∧ Ext w7 wr)
          case atStart => exact ⟨0, rfl, by omega, rfl, Ext.refl _⟩
          case round =>
            obtain ⟨i, rfl, hi, hki, hxi⟩ := hrel
            by_cases hij : i < j
            case neg =>
              go_wp2_with (go_at_call 7; refine (awake_any _).mono ?_; rintro e w8 ⟨rfl, hx8⟩)
              go_ret
              exact ⟨rfl, (hx07.trans hxi).trans hx8⟩
            case pos =>
              have hip : i < pl.length := by have := HPL.out; omega
              have hib : i < bs.length := by omega
              obtain ⟨b8, o8, u8', rfl, _, q2, hu8⟩ := found_at s7 hip
              obtain ⟨b9, o9, u9', rfl, q3, hu9⟩ := h7.row hib
              have he8 : (pl[i]).2 = bs[i] := by
                have := HPG.out i hij
                rw [List.getElem?_eq_getElem hip, List.getElem?_eq_getElem hib] at this
                exact Option.some.inj this
              have r8 := hu8.now
              have r9 := hu9.now
              rw [he8] at r8
              generalize bs[i] = z' at *
              clear hu8 hu9 he8
              go_wp2_with fail
              apply wp_region_dag (X := Ext) (by kernel_rfl) (by kernel_rfl) (fun _ _ _ => Ext.trans) (Ext.drew1 _)
              apply dag_val Ext.refl rfl (by intro W hW H; go_simp <;> rfl)
              simp only [Act.put, List.setIfInBounds_toArray, List.set_cons_zero, List.set_cons_succ]
              apply dag_val Ext.refl rfl (by intro W hW H; go_simp <;> rfl)
              simp only [Act.put, List.setIfInBounds_toArray, List.set_cons_zero, List.set_cons_succ]
              apply dag_val Ext.refl rfl (by intro W hW H; have hi : (i : Int) < (pl.length : Int) := (by omega); go_simp <;> rfl)
              simp only [Act.put, List.setIfInBounds_toArray, List.set_cons_zero, List.set_cons_succ]
              apply dag_val Ext.refl rfl (by intro W hW H; go_simp <;> rfl)
              simp only [Act.put, List.setIfInBounds_toArray, List.set_cons_zero, List.set_cons_succ]
              apply dag_val Ext.refl rfl (by intro W hW H; have hq := (hxi.trans hW).cell q2; go_simp <;> rfl)
              simp only [Act.put, List.setIfInBounds_toArray, List.set_cons_zero, List.set_cons_succ]
              refine' dag_val Ext.refl rfl (fun W hW H => run_op_bytes_string T.bytes T.u8 T.str rfl rfl (v := u8') (l := z') (by exact (r8.ext hxi).ext hW)) _
              rotate_left
              simp only [Act.put, List.setIfInBounds_toArray, List.set_cons_zero, List.set_cons_succ]
              apply dag_val Ext.refl rfl (by intro W hW H; go_simp <;> rfl)
              simp only [Act.put, List.setIfInBounds_toArray, List.set_cons_zero, List.set_cons_succ]
              apply dag_val Ext.refl rfl (by intro W hW H; go_simp <;> rfl)
              simp only [Act.put, List.setIfInBounds_toArray, List.set_cons_zero, List.set_cons_succ]
              apply dag_val Ext.refl rfl (by intro W hW H; have hi : (i : Int) < (bs.length : Int) := (by omega); go_simp <;> rfl)
              simp only [Act.put, List.setIfInBounds_toArray, List.set_cons_zero, List.set_cons_succ]
              apply dag_val Ext.refl rfl (by intro W hW H; have hq := (hxi.trans hW).cell q3; go_simp <;> rfl)
              simp only [Act.put, List.setIfInBounds_toArray, List.set_cons_zero, List.set_cons_succ]
              refine' dag_val Ext.refl rfl (fun W hW H => run_op_bytes_string T.bytes T.u8 T.str rfl rfl (v := u9') (l := z') (by exact (r9.ext hxi).ext hW)) _
              rotate_left
              simp only [Act.put, List.setIfInBounds_toArray, List.set_cons_zero, List.set_cons_succ]
              apply dag_val Ext.refl rfl (by intro W hW H; go_simp <;> rfl)
              simp only [Act.put, List.setIfInBounds_toArray, List.set_cons_zero, List.set_cons_succ]
              refine dag_end fun W hW H => ?_
              go_wp2_with fail
              go_roundg (j - (i + 1))
              case measure => omega
              case rel => exact ⟨i + 1, by go_num, hij, rfl, hxi.trans hW⟩
end Go.Proofs.Ytlbeemjcndhenaa
