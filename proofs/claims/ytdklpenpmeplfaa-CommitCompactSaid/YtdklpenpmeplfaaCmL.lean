/- What the program's functions of layer 21 compute: places, Delete, Find, Same. slices.Delete of one commit. -/
import Derived.Test.YtdklpenpmeplfaaCmO
import Derived.Test.YtdklpenpmeplfaaCmE
import Derived.Test.YtdklpenpmeplfaaInsC
import Derived.Test.YtdklpenpmeplfaaClC
namespace Go.Proofs.Ytdklpenpmeplfaa
open Go.RowKit

/-! ### Closures -/
theorem place1_any (g : Nat) (c x : Cm) (w : World) (ho : ObjAt w g 33 (cmCells c)) :
    Calls Try.prog 69 #[cmv x, .pointer (some ⟨g, 0, none⟩)] w fun e w' => e = .returned (.bool (isC c x)) ∧ Ext w w' := by
  unfold isC
  have O1 := fun W => order_any x c W
  have hx0 := Ext.alloc w (.cells #[.string ⟨x.group.toArray⟩, .string ⟨x.topic.toArray⟩, .int .i64 x.index, .int .i64 x.offset] 33)
  have o2 := ho.ext hx0
  have c0 := o2.cell (j := 0) rfl
  have c1 := o2.cell (j := 1) rfl
  have c2 := o2.cell (j := 2) rfl
  have c3 := o2.cell (j := 3) rfl
  generalize ordC x c = k at *
  go_enter Try.func69, Try.ntmps69
  go_wp2_with (go_at_call 46; refine (O1 _).mono ?_; rintro e w' ⟨rfl, hx1⟩)
  go_ret
  exact ⟨rfl, hx0.trans hx1⟩
theorem play1_any (g : Nat) (c x : Cm) (w : World) (ho : ObjAt w g 33 (cmCells c)) :
    Calls Try.prog 45 #[cmv x, .pointer (some ⟨g, 0, none⟩)] w fun e w' => e = .returned (.bool (geC c x)) ∧ Ext w w' := by
  unfold geC
  have O1 := fun W => order_any x c W
  have hx0 := Ext.alloc w (.cells #[.string ⟨x.group.toArray⟩, .string ⟨x.topic.toArray⟩, .int .i64 x.index, .int .i64 x.offset] 33)
  have o2 := ho.ext hx0
  have c0 := o2.cell (j := 0) rfl
  have c1 := o2.cell (j := 1) rfl
  have c2 := o2.cell (j := 2) rfl
  have c3 := o2.cell (j := 3) rfl
  generalize ordC x c = k at *
  go_enter Try.func45, Try.ntmps45
  go_wp2_with (go_at_call 46; refine (O1 _).mono ?_; rintro e w' ⟨rfl, hx1⟩)
  go_ret
  exact ⟨rfl, hx0.trans hx1⟩
set_option maxHeartbeats 1000000 in
theorem idxPlace_any (g : Nat) (p : Cm → Bool) (v : Value) (t : List Cm) (w : World) (h : CmV w v t)
    (hcl : ∀ (s : Cm) (W : World), Ext w W → Calls Try.prog 69 #[cmv s, .pointer (some ⟨g, 0, none⟩)] W fun e w' => e = .returned (.bool (p s)) ∧ Ext W w') :
    Calls Try.prog 44 #[v, .func (.func 69) #[] #[.pointer (some ⟨g, 0, none⟩)]] w fun e w' => e = .returned (.int .i64 (placeF p t)) ∧ Ext w w' := by
  obtain ⟨q, c, rfl, hn, hc⟩ := h.slice
  unfold maxLen at hc
  go_enter Try.func44, Try.ntmps44
  go_wp2_with fail
  go_loopg [8] (t.length) (fun k s8 wr => ∃ j : Nat, s8 = .int .i64 j ∧ j ≤ t.length ∧ k = t.length - j ∧ Hid (∀ i x, i < j → t[i]? = some x → p x = false) ∧ Ext w wr)
  case atStart => exact ⟨0, rfl, Nat.zero_le _, rfl, fun i x hi => by omega, Ext.refl _⟩
  case round =>
    obtain ⟨j, rfl, hj, hk, HA, hx⟩ := hrel
    by_cases hlt : j < t.length
    case pos =>
      have hi : (j : Int) < (t.length : Int) := by omega
      obtain ⟨b, o, rfl, ⟨m0, m1, m2, m3⟩⟩ := cm_at (h.ext hx) hlt
      have C1 := hcl t[j] wr hx
      have hget : t[j]? = some t[j] := List.getElem?_eq_getElem hlt
      have HGET := Lib.hid hget
      generalize t[j] = en at *
      obtain ⟨e0, e1, e2, e3⟩ := en
      simp only at *
      clear hget
      cases hb : p ⟨e0, e1, e2, e3⟩ with
      | true =>
        rw [hb] at C1
        have HB := Lib.hid hb
        clear hb
        go_wp2_with (go_at_call 69; refine C1.mono ?_; rintro e w' ⟨rfl, hx2⟩)
        go_ret
        refine ⟨?_, hx.trans hx2⟩
        have hje : t[j] = ⟨e0, e1, e2, e3⟩ := by have := HGET.out; rw [List.getElem?_eq_getElem hlt] at this; exact Option.some.inj this
        unfold placeF
        rw [find_found hlt (by rw [hje]; exact HB.out) fun i x hi hx => HA.out i x hi hx]
        rfl
      | false =>
        rw [hb] at C1
        have HB := Lib.hid hb
        clear hb
        go_wp2_with (go_at_call 69; refine C1.mono ?_; rintro e w' ⟨rfl, hx2⟩)
        go_roundg (t.length - (j + 1))
        case measure => omega
        case rel =>
          refine ⟨j + 1, by go_num, hlt, rfl, fun i x hi hxx => ?_, hx.trans hx2⟩
          by_cases hij : i = j
          · subst hij
            have := HGET.out
            rw [hxx] at this
            cases this
            exact HB.out
          · exact HA.out i x (by omega) hxx
    case neg =>
      have hje : j = t.length := by omega
      subst hje
      have hi : ¬ (t.length : Int) < (t.length : Int) := by omega
      clear hlt
      go_wp2_with fail
      go_ret
      refine ⟨?_, hx⟩
      unfold placeF
      rw [find_none fun i x hxx => HA.out i x (List.getElem?_eq_some_iff.1 hxx).1 hxx]
      rfl
set_option maxHeartbeats 1000000 in
theorem idxPlay_any (g : Nat) (p : Cm → Bool) (v : Value) (t : List Cm) (w : World) (h : CmV w v t)
    (hcl : ∀ (s : Cm) (W : World), Ext w W → Calls Try.prog 45 #[cmv s, .pointer (some ⟨g, 0, none⟩)] W fun e w' => e = .returned (.bool (p s)) ∧ Ext W w') :
    Calls Try.prog 44 #[v, .func (.func 45) #[] #[.pointer (some ⟨g, 0, none⟩)]] w fun e w' => e = .returned (.int .i64 (placeF p t)) ∧ Ext w w' := by
  obtain ⟨q, c, rfl, hn, hc⟩ := h.slice
  unfold maxLen at hc
  go_enter Try.func44, Try.ntmps44
  go_wp2_with fail
  go_loopg [8] (t.length) (fun k s8 wr => ∃ j : Nat, s8 = .int .i64 j ∧ j ≤ t.length ∧ k = t.length - j ∧ Hid (∀ i x, i < j → t[i]? = some x → p x = false) ∧ Ext w wr)
  case atStart => exact ⟨0, rfl, Nat.zero_le _, rfl, fun i x hi => by omega, Ext.refl _⟩
  case round =>
    obtain ⟨j, rfl, hj, hk, HA, hx⟩ := hrel
    by_cases hlt : j < t.length
    case pos =>
      have hi : (j : Int) < (t.length : Int) := by omega
      obtain ⟨b, o, rfl, ⟨m0, m1, m2, m3⟩⟩ := cm_at (h.ext hx) hlt
      have C1 := hcl t[j] wr hx
      have hget : t[j]? = some t[j] := List.getElem?_eq_getElem hlt
      have HGET := Lib.hid hget
      generalize t[j] = en at *
      obtain ⟨e0, e1, e2, e3⟩ := en
      simp only at *
      clear hget
      cases hb : p ⟨e0, e1, e2, e3⟩ with
      | true =>
        rw [hb] at C1
        have HB := Lib.hid hb
        clear hb
        go_wp2_with (go_at_call 45; refine C1.mono ?_; rintro e w' ⟨rfl, hx2⟩)
        go_ret
        refine ⟨?_, hx.trans hx2⟩
        have hje : t[j] = ⟨e0, e1, e2, e3⟩ := by have := HGET.out; rw [List.getElem?_eq_getElem hlt] at this; exact Option.some.inj this
        unfold placeF
        rw [find_found hlt (by rw [hje]; exact HB.out) fun i x hi hx => HA.out i x hi hx]
        rfl
      | false =>
        rw [hb] at C1
        have HB := Lib.hid hb
        clear hb
        go_wp2_with (go_at_call 45; refine C1.mono ?_; rintro e w' ⟨rfl, hx2⟩)
        go_roundg (t.length - (j + 1))
        case measure => omega
        case rel =>
          refine ⟨j + 1, by go_num, hlt, rfl, fun i x hi hxx => ?_, hx.trans hx2⟩
          by_cases hij : i = j
          · subst hij
            have := HGET.out
            rw [hxx] at this
            cases this
            exact HB.out
          · exact HA.out i x (by omega) hxx
    case neg =>
      have hje : j = t.length := by omega
      subst hje
      have hi : ¬ (t.length : Int) < (t.length : Int) := by omega
      clear hlt
      go_wp2_with fail
      go_ret
      refine ⟨?_, hx⟩
      unfold placeF
      rw [find_none fun i x hxx => HA.out i x (List.getElem?_eq_some_iff.1 hxx).1 hxx]
      rfl
set_option maxHeartbeats 1000000 in
theorem place_any (v : Value) (t : List Cm) (c : Cm) (w : World) (h : CmV w v t) :
    Calls Try.prog 42 #[v, cmv c] w fun e w' => e = .returned (.int .i64 (placeF (isC c) t)) ∧ Ext w w' := by
  have hx0 := Ext.alloc w (.cells #[.string ⟨c.group.toArray⟩, .string ⟨c.topic.toArray⟩, .int .i64 c.index, .int .i64 c.offset] 33)
  have ho : ObjAt (w.alloc (.cells #[.string ⟨c.group.toArray⟩, .string ⟨c.topic.toArray⟩, .int .i64 c.index, .int .i64 c.offset] 33)) w.heap.size 33 (cmCells c) := heap_alloc_new w _
  have I1 := idxPlace_any w.heap.size (isC c) v t _ (h.ext hx0) (fun s W hW => place1_any w.heap.size c s W (ho.ext hW))
  obtain ⟨q, d, rfl, hn, hc⟩ := h.slice
  clear ho
  go_enter Try.func42, Try.ntmps42
  go_wp2_with (go_at_call 44; refine I1.mono ?_; rintro e w' ⟨rfl, hx2⟩)
  go_ret
  exact ⟨rfl, hx0.trans hx2⟩
theorem findC_some {t : List Cm} {c : Cm} {j : Nat} (h : t.findIdx? (isC c) = some j) : ∃ hj : j < t.length, findC t c = (t[j].offset, true) ∧ placeF (isC c) t = (j : Int) := by
  obtain ⟨hj, _⟩ := find_some h
  refine ⟨hj, ?_, ?_⟩
  · unfold findC; rw [h]; simp [List.getD_eq_getElem?_getD, hj]
  · unfold placeF; rw [h]
theorem findC_none {t : List Cm} {c : Cm} (h : t.findIdx? (isC c) = none) : findC t c = (0, false) ∧ placeF (isC c) t = -1 := by
  refine ⟨?_, ?_⟩
  · unfold findC; rw [h]
  · unfold placeF; rw [h]
set_option maxHeartbeats 1000000 in
theorem cfind_any (v : Value) (t : List Cm) (c : Cm) (w : World) (h : CmV w v t) (ho : c.offset = 0) :
    Calls Try.prog 22 #[v, .string ⟨c.group.toArray⟩, .string ⟨c.topic.toArray⟩, .int .i64 c.index] w fun e w' => e = .returned (.tuple #[.int .i64 (findC t c).1, .bool (findC t c).2]) ∧ Ext w w' := by
  have P1 := fun W h => place_any v t c W h
  obtain ⟨q, d, rfl, hn, hc⟩ := h.slice
  unfold maxLen at hc
  obtain ⟨g, s, i, o⟩ := c
  simp only at ho
  subst ho
  simp only at *
  cases hf : t.findIdx? (isC ⟨g, s, i, 0⟩) with
  | none =>
    obtain ⟨e1, e2⟩ := findC_none hf
    rw [e1]
    rw [e2] at P1
    clear hf e1 e2
    go_enter Try.func22, Try.ntmps22
    go_wp2_with (go_at_call 42; refine (P1 _ h).mono ?_; rintro e w1 ⟨rfl, hx1⟩)
    go_ret2
    exact ⟨rfl, hx1⟩
  | some j =>
    obtain ⟨hj, e1, e2⟩ := findC_some hf
    rw [e1]
    rw [e2] at P1
    have hji : (j : Int) < (t.length : Int) := by omega
    clear hf e1 e2
    obtain ⟨b, o, rfl, ⟨m0, m1, m2, m3⟩⟩ := cm_at h hj
    generalize t[j] = en at *
    go_enter Try.func22, Try.ntmps22
    go_wp2_with (go_at_call 42; refine (P1 _ h).mono ?_; rintro e w1 ⟨rfl, hx1⟩
                 have n3 := hx1.cell m3)
    go_ret2
    exact ⟨rfl, hx1⟩
section
variable {α : Type} {P : Program} {t e sz bytes : Nat} {z : Value} {R : World → List Value → α → Prop}
/-- One element is taken out of a row of the call's own: what stands behind it is moved ahead, the last place is cleared. -/
theorem ORow.deleted {S : Nat → Prop} {w : World} {B g n m c i : Nat} {xs : List α} (hT : RowT P t e z sz bytes) (h : ORow e sz R S w B (.slice (some ⟨g, 0, none⟩) n c) xs) (hn : xs.length = n) (hm : n = m + 1) (hi : i < n) (h1 : z.cells.all (·.oneCell') = true) (ty ty' : TypeId) :
    ∃ w1, (Builtin.append_ #[t, t] ty #[.slice (some ⟨g, 0, none⟩) i c, .slice (cutA sz (some ⟨g, 0, none⟩) c (i + 1)) (n - (i + 1)) (c - (i + 1))]).run P w = .ok (.slice (some ⟨g, 0, none⟩) m c) w1 ∧
      ∃ w2, (Builtin.clear_ #[t] ty' #[.slice (some ⟨g, m * sz, none⟩) (n - m) (c - m)]).run P w1 = .ok (.tuple #[]) w2 ∧ ORow e sz R S w2 B (.slice (some ⟨g, 0, none⟩) m c) (xs.take i ++ xs.drop (i + 1)) ∧ w.grownBy w2 (some g) := by
  subst hn
  have hv := h.view
  obtain ⟨css, hch, hown, hit⟩ := h
  obtain ⟨inf, hinf, hz, hs, hby⟩ := hT.info
  have hfl : css.flatten.length = xs.length * sz := hown.1
  rcases hown.2 with ⟨h0, _⟩ | ⟨g', cap, cur, h0, hb, hg, hnc, hcm, hcs, htk⟩
  · cases h0
  cases h0
  have hown2 : w.ownsRow B e sz (.slice (some ⟨g, 0, none⟩) i c) i (css.flatten.take (i * sz)) := by
    refine ⟨by rw [List.length_take, hfl, Nat.min_eq_left (Nat.mul_le_mul_right _ (by omega))], .inr ⟨g, c, cur, rfl, hb, hg, by omega, hcm, hcs, ?_⟩⟩
    rw [← htk, List.take_take, Nat.min_eq_left (Nat.mul_le_mul_right _ (by omega))]
  have hd := hv.drop (k := i + 1) (by omega)
  obtain ⟨css2, p2, c2, hch2, he2, hn2, hc2, hs2, hit2⟩ := hd
  have hp2 := congrArg (fun v => match v with | Value.slice p _ _ => p | _ => none) he2
  simp only at hp2
  have hl2 : css2.flatten.length = (xs.length - (i + 1)) * sz := by rw [chunks_length hch2, hit2.1, List.length_drop]
  obtain ⟨a, ha, hsrc⟩ : ∃ a, cutA sz (some ⟨g, 0, none⟩) c (i + 1) = some a ∧ ∀ j u, (css.drop (i + 1)).flatten[j]? = some u → w.cell? (a.add j) = some u := by
    have hs3 : Sees w (cutA sz (some ⟨g, 0, none⟩) c (i + 1)) (css.drop (i + 1)).flatten := by
      rw [chunks_drop hch]
      refine Sees.cut (n := xs.length) (c := c) (fun _ => ⟨g, 0, rfl, fun j u hu => ?_⟩) hfl (by omega) hnc
      have := World.ownsRow.cells hown (g := g) rfl j u hu
      rwa [add_lit] at this
    have hsome : ∃ a, cutA sz (some ⟨g, 0, none⟩) c (i + 1) = some a := by
      unfold cutA
      split
      · exact ⟨_, rfl⟩
      · exact ⟨_, rfl⟩
    obtain ⟨a, ha⟩ := hsome
    refine ⟨a, ha, fun j u hu => ?_⟩
    obtain ⟨b, o, e9, hc⟩ := hs3 (by intro e; rw [e] at hu; simp at hu)
    rw [ha] at e9
    cases e9
    rw [add_lit]
    exact hc j u hu
  have hone := chunks_one hch
  have hld : (css.drop (i + 1)).flatten.length = (xs.length - (i + 1)) * sz := by
    rw [chunks_drop hch, List.length_drop, hfl, Nat.mul_sub_right_distrib]
  obtain ⟨w1, hr1, hown3, hg1⟩ := run_append_fits (P := P) w B t ty e inf sz hT.und hinf hs g i c _ hown2 a (xs.length - (i + 1)) (c - (i + 1)) (css.drop (i + 1)).flatten hld hsrc (fun u hu => by rw [chunks_drop hch] at hu; exact hone u (List.mem_of_mem_drop hu)) (by omega)
  have em : i + (xs.length - (i + 1)) = m := by omega
  rw [em] at hr1 hown3
  rw [ha]
  refine ⟨w1, hr1, ?_⟩
  rcases hown3.2 with ⟨h0, _⟩ | ⟨g2, cap2, cur2, h0, hb2, hg2, hnc2, hcm2, hcs2, htk2⟩
  · cases h0
  cases h0
  have hmn : m * sz + sz = xs.length * sz := by rw [hm, Nat.add_mul, Nat.one_mul]
  have hcap : xs.length * sz ≤ c * sz := Nat.mul_le_mul_right _ hnc
  have hcl : cur2.toList.length = c * sz := hcs2
  have hnm : xs.length - m = 1 := by omega
  obtain ⟨w2, zs, hr2, hzl, hh2, hgr2⟩ := run_clear_put hT ty' (w := w1) (g := g) (o := m * sz) (n := xs.length - m) (c := c - m) (cur := cur2.toList) (te := e) (by rw [Array.toArray_toList]; exact hg2) (by omega) (by rw [hcl, hnm, Nat.one_mul]; omega) h1
  rw [hnm, Nat.one_mul] at hzl
  refine ⟨w2, hr2, ⟨css.take i ++ css.drop (i + 1), ?_, ?_, ?_⟩, hg1.trans hgr2⟩
  · intro cs hcs
    rcases List.mem_append.1 hcs with h | h
    · exact hch cs (List.mem_of_mem_take h)
    · exact hch cs (List.mem_of_mem_drop h)
  · have hlen : (xs.take i ++ xs.drop (i + 1)).length = m := by rw [List.length_append, List.length_take, List.length_drop]; omega
    rw [hlen, List.flatten_append, chunks_take hch]
    refine ⟨hown3.1, .inr ⟨g, c, _, rfl, hb2, hh2, hnc2, hcm2, ?_, ?_⟩⟩
    · rw [List.size_toArray, putIn_length (by rw [hcl, hzl]; omega), hcl]
    · rw [List.toList_toArray]
      have e1 : (putIn cur2.toList (m * sz) zs).take (m * sz) = cur2.toList.take (m * sz) := by
        unfold putIn
        rw [List.append_assoc, List.take_append_of_le_length (by rw [List.length_take]; omega), List.take_take, Nat.min_self]
      rw [e1]
      exact htk2
  · exact Items.later (S := fun k => S k ∧ some k ≠ (Value.slice (some ⟨g, 0, none⟩) xs.length c).ownBlock) (w := w) ((hit.take i).append (hit.drop (i + 1))) ((keeps_grown (hg1.trans hgr2)).mono fun k _ hk => hk.2) fun _ _ h => h
end
set_option maxRecDepth 20000 in
set_option maxHeartbeats 1000000 in
theorem delete_any (v : Value) (xs : List Cm) (i : Nat) (w : World) (B : Nat) (ho : CmO 33 w B v xs) (hi : i < xs.length) (hl : xs.length ≤ 100000) :
    Calls Try.prog 43 #[v, .int .i64 (i : Int), .int .i64 ((i : Int) + 1)] w fun e w' => ∃ v', e = .returned v' ∧ CmO 33 w' B v' (xs.take i ++ xs.drop (i + 1)) ∧ w.grownBy w' v.ownBlock ∧ v'.ownBlock = v.ownBlock := by
  obtain ⟨g, c, C0, rfl, -, -, -⟩ := ho.setAt hi
  obtain ⟨n, hn⟩ : ∃ n, xs.length = n := ⟨_, rfl⟩
  have hnc : xs.length ≤ c := by obtain ⟨p, c', e, h1, _⟩ := ho.view.slice; injection e with _ _ e3; omega
  have hcm : c ≤ 9223372036854775807 := by obtain ⟨p, c', e, _, h1⟩ := ho.view.slice; injection e with _ _ e3; unfold maxLen at h1; omega
  rw [hn] at ho hi hl hnc ⊢
  obtain ⟨m, hm⟩ : ∃ m, n = m + 1 := ⟨n - 1, by omega⟩
  have D := fun W (hW : Ext w W) => ORow.deleted T.cms (ho.keep hW) hn hm hi (by decide +kernel) 48 0
  have hne : ((i : Int) == (i : Int) + 1) = false := by rw [beq_eq_false_iff_ne]; omega
  have ht : cutA 4 (some ⟨g, 0, none⟩) c m = some ⟨g, m * 4, none⟩ := (cut_in (by omega)).trans (by rw [Nat.zero_add])
  have HM := Lib.hid hm
  clear hm hn ho
  go_enter Try.func43, Try.ntmps43
  go_wp2_with ((with_reducible show wpList _ _ _ (Oper.mk _ (Op.slice _ _ _ _ _) _ _ _ _ :: _) _ _); refine st_slice T.cms i (i + 1) n ?_)
  apply wp_region_dag_tail 6 (X := Ext) (by kernel_rfl) (by kernel_rfl) (by kernel_rfl) (by decide) (fun _ _ _ => Ext.trans) (Ext.drew1 _)
  simp only [List.take_succ_cons, List.take_zero, List.drop_succ_cons, List.drop_zero]
  apply dag_val Ext.refl rfl (by intro W hW H; go_simp <;> rfl)
  simp only [Act.put, List.setIfInBounds_toArray, List.set_cons_zero, List.set_cons_succ]
  apply dag_val Ext.refl rfl (by intro W hW H; go_simp <;> rfl)
  simp only [Act.put, List.setIfInBounds_toArray, List.set_cons_zero, List.set_cons_succ]
  refine' dag_val Ext.refl rfl (fun W hW H => run_sliceTo T.cms rfl rfl W i c) _
  rotate_left
  simp only [Act.put, List.setIfInBounds_toArray, List.set_cons_zero, List.set_cons_succ]
  apply dag_val Ext.refl rfl (by intro W hW H; go_simp <;> rfl)
  simp only [Act.put, List.setIfInBounds_toArray, List.set_cons_zero, List.set_cons_succ]
  apply dag_val Ext.refl rfl (by intro W hW H; go_simp <;> rfl)
  simp only [Act.put, List.setIfInBounds_toArray, List.set_cons_zero, List.set_cons_succ]
  refine' dag_val Ext.refl rfl (fun W hW H => run_slice T.cms rfl rfl W (i + 1) n c) _
  rotate_left
  simp only [Act.put, List.setIfInBounds_toArray, List.set_cons_zero, List.set_cons_succ]
  refine dag_end fun W hW H => ?_
  clear H
  obtain ⟨w1, hr1, w2, hr2, ho2, hg2⟩ := D W hW
  have HO := Lib.hid ho2
  have HG := Lib.hid hg2
  clear ho2 hg2 D
  go_wp2_with (first
    | (at_builtin; refine wpList_run rfl (run_op_append rfl rfl rfl hr1) ?_)
    | ((with_reducible show wpList _ _ _ (Oper.mk _ (Op.slice _ _ _ _ _) _ _ _ _ :: _) _ _); refine st_slice T.cms m n c ?_ (hlh := by have := HM.out; omega); rw [ht])
    | ((with_reducible show wpList _ _ _ (Oper.mk _ (Op.call { callee := Callee.builtin Builtin.clear, args := _, argTypes := _ }) _ _ _ _ :: _) _ _); refine wpList_run rfl (run_op_clear rfl rfl hr2) ?_))
  go_ret
  exact ⟨_, rfl, HO.out, (hW.grownBy _).trans HG.out, rfl⟩
end Go.Proofs.Ytdklpenpmeplfaa
