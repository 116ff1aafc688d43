/- What the program's functions of layer 33 compute: Has. -/
import Derived.Test.YthlhhnkalknidaaBmP
namespace Go.Proofs.Ythlhhnkalknidaa
open Go.RowKit

theorem bit_zero : ∀ c : Fin 256, ∀ r : Fin 8, (bits BinOp.and IntKind.u8 ((c.val : Int) / 2 ^ r.val) 1 == 0) = !(c.val.testBit r.val) := by decide +kernel
set_option maxHeartbeats 1000000 in
theorem hasbit_any (g : Nat) (v : Value) (l : List UInt8) (each n : Int) (p : Nat) (w : World) (ho : ObjAt w g 27 [v, .int .i64 each, .int .i64 n]) (h : BV w v l) (hp : p < 8 * l.length) (hl : l.length ≤ 4096) :
    Calls Try.prog 35 #[.int .i64 (p : Int), .pointer (some ⟨g, 0, none⟩)] w fun e w' => e = .returned (.bool (!bitAt l p)) ∧ w = w' := by
  obtain ⟨q, c, rfl, hn, hc, hs⟩ := id h
  have hc0 := ho.cell (j := 0) (u := .slice q l.length c) rfl
  obtain ⟨B, HB⟩ : ∃ B, Hid (bitAt l p = B) := ⟨_, rfl⟩
  rw [HB.out]
  obtain ⟨a, ha⟩ : ∃ a, p / 8 = a := ⟨_, rfl⟩
  obtain ⟨r, hr⟩ : ∃ r, p % 8 = r := ⟨_, rfl⟩
  have hal : a < l.length := by omega
  obtain ⟨b, o, rfl, hcell⟩ := hs.at (bs_get l hal)
  have hd : (p : Int) / 8 = (a : Int) := by omega
  have hm : (p : Int) % 8 = (r : Int) := by omega
  have hi : (a : Int) < (l.length : Int) := by omega
  have hr8 : (r : Int) < 8 := by omega
  have HBA : Hid (bitAt l p = l[a].toNat.testBit r) := by
    show bitAt l p = _
    unfold bitAt
    rw [ha, hr]
    simp [List.getD_eq_getElem?_getD, hal]
  have hp0 : 0 ≤ (p : Int) := by omega
  clear ha hr hp
  go_enter Try.func35, Try.ntmps35
  go_wp2_with fail
  go_ret
  have hz := bit_zero ⟨l[a].toNat, l[a].toNat_lt⟩ ⟨r, by omega⟩
  simp only at hz
  rw [← HBA.out, HB.out] at hz
  rw [← hz]
  exact ⟨rfl, rfl⟩
abbrev hasF (g : Nat) : Value := .func (.func 35) #[] #[.pointer (some ⟨g, 0, none⟩)]
set_option maxHeartbeats 1000000 in
theorem indexf_any (g : Nat) (v : Value) (l : List UInt8) (each n : Int) (vr : Value) (ps : List Nat) (w : World) (ho : ObjAt w g 27 [v, .int .i64 each, .int .i64 n]) (h : BV w v l) (hps : ∀ p ∈ ps, p < 8 * l.length) (hl : l.length ≤ 4096)
    (hr : IV w vr (ni ps)) (hb : ps.length ≤ 100000) :
    Calls Try.prog 49 #[vr, hasF g] w fun e w' => (∃ k : Int, e = .returned (.int .i64 k) ∧ decide (0 ≤ k) = !(ps.all (bitAt l))) ∧ w = w' := by
  obtain ⟨q, c, rfl, hn, hc⟩ := hr.slice
  rw [ni_length] at hn
  have hnl : (ni ps).length = ps.length := ni_length ps
  have HNL := Lib.hid hnl
  rw [hnl] at hr ⊢
  clear hnl
  unfold maxLen at hc
  go_enter Try.func49, Try.ntmps49
  go_wp2_with fail
  go_loopg [8] (ps.length) (fun k s8 wr => ∃ j : Nat, s8 = .int .i64 j ∧ j ≤ ps.length ∧ k = ps.length - j ∧ Hid (∀ t, t < j → ∀ p, ps[t]? = some p → bitAt l p = true) ∧ wr = w)
  case atStart => exact ⟨0, rfl, Nat.zero_le _, rfl, fun t ht => by omega, rfl⟩
  case round =>
    obtain ⟨j, rfl, hj, hk, HA, rfl⟩ := hrel
    by_cases hlt : j < ps.length
    case pos =>
      have hi : (j : Int) < (ps.length : Int) := by omega
      obtain ⟨b, o, e9, hcell⟩ := int_at hr (j := j) (by rw [HNL.out]; exact hlt)
      subst e9
      rw [ni_get] at hcell
      have hpl := hps ps[j] (List.getElem_mem hlt)
      have B1 := hasbit_any g v l each n ps[j] wr ho h hpl hl
      have hget : ps[j]? = some ps[j] := List.getElem?_eq_getElem hlt
      have HGET := Lib.hid hget
      generalize ps[j] = p at *
      clear hget hpl
      cases hbit : bitAt l p with
      | true =>
        rw [hbit] at B1
        have HB := Lib.hid hbit
        clear hbit
        go_wp2_with (go_at_call 35; refine B1.mono ?_; rintro e w' ⟨rfl, rfl⟩)
        go_roundg (ps.length - (j + 1))
        case measure => omega
        case rel =>
          refine ⟨j + 1, by go_num, hlt, rfl, fun t ht p' hp' => ?_, rfl⟩
          by_cases htj : t = j
          · subst htj
            have := HGET.out
            rw [hp'] at this
            cases this
            exact HB.out
          · exact HA.out t (by omega) p' hp'
      | false =>
        rw [hbit] at B1
        have HB := Lib.hid hbit
        clear hbit
        go_wp2_with (go_at_call 35; refine B1.mono ?_; rintro e w' ⟨rfl, rfl⟩)
        go_ret
        refine ⟨⟨(j : Int), rfl, ?_⟩, rfl⟩
        have hall : ps.all (bitAt l) = false := by
          rw [List.all_eq_false]
          exact ⟨p, List.mem_of_getElem? HGET.out, by rw [HB.out]; simp⟩
        rw [hall]
        simp
    case neg =>
      obtain rfl : j = ps.length := by omega
      go_wp2_with fail
      go_ret
      refine ⟨⟨-1, rfl, ?_⟩, rfl⟩
      have hall : ps.all (bitAt l) = true := by
        rw [List.all_eq_true]
        intro p hp
        obtain ⟨t, ht, e⟩ := List.getElem_of_mem hp
        exact HA.out t ht p (by rw [List.getElem?_eq_getElem ht, e])
      rw [hall]
      simp
set_option maxHeartbeats 1000000 in
theorem containsf_any (g : Nat) (v : Value) (l : List UInt8) (each n : Int) (vr : Value) (ps : List Nat) (w : World) (ho : ObjAt w g 27 [v, .int .i64 each, .int .i64 n]) (h : BV w v l) (hps : ∀ p ∈ ps, p < 8 * l.length) (hl : l.length ≤ 4096)
    (hr : IV w vr (ni ps)) (hb : ps.length ≤ 100000) :
    Calls Try.prog 34 #[vr, hasF g] w fun e w' => e = .returned (.bool (!(ps.all (bitAt l)))) ∧ w = w' := by
  have I1 := indexf_any g v l each n vr ps w ho h hps hl hr hb
  generalize (!(ps.all (bitAt l))) = B at *
  clear h hr ho hps
  go_enter Try.func34, Try.ntmps34
  go_wp2_with (go_at_call 49; refine I1.mono ?_; rintro e w' ⟨⟨k, rfl, rfl⟩, rfl⟩)
  go_ret
  exact ⟨rfl, rfl⟩
theorem places_few (s : SetB) (key : List UInt8) : (placesB s key).length ≤ 16 := by
  unfold placesB
  split
  · rename_i h
    unfold placesL
    rw [placesN_length]
    unfold goodB at h
    omega
  · simp
set_option maxHeartbeats 1000000 in
theorem has_any (v : Value) (l : List UInt8) (each n : Int) (key : List UInt8) (w : World) (h : BV w v l) (hk : key.length ≤ maxLen) :
    Calls Try.prog 15 #[stv v each n, .string ⟨key.toArray⟩] w fun e w' => e = .returned (.bool (hasB ⟨l, each, n⟩ key)) ∧ Ext w w' := by
  obtain ⟨p, c, rfl, hn, hc, hs⟩ := id h
  have hx0 := Ext.alloc w (.cells #[Value.slice p l.length c, .int .i64 each, .int .i64 n] 27)
  have ho0 : ObjAt (w.alloc (.cells #[Value.slice p l.length c, .int .i64 each, .int .i64 n] 27)) w.heap.size 27 [.slice p l.length c, .int .i64 each, .int .i64 n] := heap_alloc_new w _
  have P1 := places_any _ l each n key _ (h.ext hx0) hk
  have hlt := placesB_lt ⟨l, each, n⟩ key
  have hfew := places_few ⟨l, each, n⟩ key
  by_cases he : placesB ⟨l, each, n⟩ key = []
  · have hH : hasB ⟨l, each, n⟩ key = false := by unfold hasB; rw [he]; rfl
    rw [hH]
    rw [he] at P1
    clear hH hlt hfew
    go_enter Try.func15, Try.ntmps15
    go_wp2_with (go_at_call 10; refine P1.mono ?_; rintro e w1 ⟨v1, rfl, hr1, hx1⟩
                 obtain ⟨p1, c1, e5, _, _⟩ := (IO.view hr1).slice
                 subst e5)
    go_ret
    exact ⟨rfl, hx0.trans hx1⟩
  have hgood : goodB ⟨l, each, n⟩ := by
    by_cases hg : goodB ⟨l, each, n⟩
    · exact hg
    · exact absurd (by unfold placesB; rw [if_neg hg]) he
  have hl : l.length ≤ 4096 := hgood.2.1
  have hpos : 0 < (placesB ⟨l, each, n⟩ key).length := List.length_pos_iff.2 he
  have hH : hasB ⟨l, each, n⟩ key = (placesB ⟨l, each, n⟩ key).all (bitAt l) := by unfold hasB; simp only; rw [decide_eq_true hpos]; rfl
  rw [hH]
  simp only at hlt
  generalize hPS : placesB ⟨l, each, n⟩ key = ps at *
  have hnl : (ni ps).length = ps.length := ni_length ps
  have hpos2 : (0 : Int) < (ps.length : Int) := by omega
  have HNL := Lib.hid hnl
  clear hH hgood he hPS hnl
  cases hB : ps.all (bitAt l)
  all_goals
    have C1 := fun (wq : World) (vr : Value) ho h hr => containsf_any w.heap.size (.slice p l.length c) l each n vr ps wq ho h hlt hl hr (by omega)
    rw [hB] at C1
    go_enter Try.func15, Try.ntmps15
    go_wp2_with (first
      | (go_at_call 10; refine P1.mono ?_; rintro e w1 ⟨v1, rfl, hr1, hx1⟩
         obtain ⟨p1, c1, e5, _, _⟩ := (IO.view hr1).slice
         rw [HNL.out] at e5
         subst e5)
      | (go_at_call 34; refine (C1 _ _ (ho0.ext hx1) ((h.ext hx0).ext hx1) (IO.view hr1)).mono ?_; rintro e w2 ⟨rfl, rfl⟩))
    go_ret
    exact ⟨rfl, hx0.trans hx1⟩
end Go.Proofs.Ythlhhnkalknidaa
