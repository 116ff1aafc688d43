/- What the document's functions of layer 13 compute: place, Find, behind. -/
import Derived.Test.YthiaaoiaabocfaaPrA
namespace Go.Proofs.Ythiaaoiaabocfaa
open Go.RowKit

set_option maxHeartbeats 1000000 in
theorem rplace_any (v : Value) (t : List Ent) (id : Int) (w : World) (h : TabV w v t) :
    Calls Try.prog 37 #[.agg #[v], .int .i64 id] w fun e w' => e = .returned (.int .i64 (placeF (isId id) t)) ∧ Ext w w' := by
  obtain ⟨q, c, rfl, hn, hc⟩ := h.slice
  unfold maxLen at hc
  have hx0 := Ext.alloc w (.cells #[.slice q t.length c] 24)
  have o1 : ObjAt (w.alloc (.cells #[.slice q t.length c] 24)) w.heap.size 24 [.slice q t.length c] := heap_alloc_new w _
  have c1 := o1.cell (j := 0) rfl
  go_enter Try.func37, Try.ntmps37
  go_wp2_with fail
  go_loopg [5] (t.length) (fun k s8 wr => ∃ j : Nat, s8 = .int .i64 j ∧ j ≤ t.length ∧ k = t.length - j ∧ Hid (∀ i x, i < j → t[i]? = some x → isId id x = false) ∧ wr = w.alloc (.cells #[.slice q t.length c] 24))
  case atStart => exact ⟨0, rfl, Nat.zero_le _, rfl, fun i x hi => by omega, rfl⟩
  case round =>
    obtain ⟨j, rfl, hj, hk, HA, rfl⟩ := hrel
    by_cases hlt : j < t.length
    case pos =>
      have hi : (j : Int) < (t.length : Int) := by omega
      obtain ⟨b, o, q2, d, rfl, ⟨m0, m1, m2⟩, hsn, _, hdm⟩ := ent_at (h.ext hx0) hlt
      have hget : t[j]? = some t[j] := List.getElem?_eq_getElem hlt
      have HGET := Lib.hid hget
      generalize t[j] = en at *
      obtain ⟨e0, e1, l⟩ := en
      simp only at *
      clear hget
      cases hb : (e0 == id) with
      | true =>
        go_wp2_with fail
        go_ret
        refine ⟨?_, hx0⟩
        have hje : t[j] = ⟨e0, e1, l⟩ := by have := HGET.out; rw [List.getElem?_eq_getElem hlt] at this; exact Option.some.inj this
        unfold placeF
        rw [find_found hlt (by rw [hje]; exact hb) fun i x hi hx => HA.out i x hi hx]
        rfl
      | false =>
        have HB := Lib.hid hb
        go_wp2_with fail
        go_roundg (t.length - (j + 1))
        case measure => omega
        case rel =>
          refine ⟨j + 1, by go_num, hlt, rfl, fun i x hi hxx => ?_, rfl⟩
          by_cases hij : i = j
          · subst hij
            have := HGET.out
            rw [hxx] at this
            cases this
            exact HB.out
          · exact HA.out i x (by omega) hxx
    case neg =>
      have hje : j = t.length := by omega
      subst hje
      have hi : ¬ (t.length : Int) < (t.length : Int) := by omega
      clear hlt
      go_wp2_with fail
      go_ret
      refine ⟨?_, hx0⟩
      unfold placeF
      rw [find_none fun i x hxx => HA.out i x (List.getElem?_eq_some_iff.1 hxx).1 hxx]
      rfl
theorem T.rentSize : (Try.prog.info? 48).map (·.size) = some 3 := by kernel_rfl
theorem rent_results2 {fn : Func} {p u : Tmp} (h : fn.results = #[.cell p 48, .tmp u]) (tmps : Array Value) (w : World) (g : Nat) (x y z : Value)
    (hp : tmps.getD p undef = .pointer (some ⟨g, 0, none⟩)) (hg : ObjAt w g 48 [x, y, z]) :
    (results fn tmps).run Try.prog w = .ok (.tuple #[.agg #[x, y, z], tmps.getD u undef]) w :=
  results_row_tmp h tmps w g _ #[x, y, z] _ hp hg Try.underlying48 rfl T.rentSize
set_option maxHeartbeats 1000000 in
theorem rfind_any (v : Value) (t : List Ent) (id : Int) (w : World) (h : TabV w v t) :
    Calls Try.prog 15 #[.agg #[v], .int .i64 id] w fun e w' => ∃ v', e = .returned (.tuple #[entv (findE t id).1 v', .bool (findE t id).2]) ∧ SnV w' v' (findE t id).1.last ∧ Ext w w' := by
  obtain ⟨q, c, rfl, hn, hc⟩ := h.slice
  obtain ⟨o1, o2, hx0, hsz⟩ := objs2 w 24 48 [.slice q t.length c] [.int .i64 0, .int .i64 0, .slice none 0 0]
  have A1 := rplace_any _ t id _ (h.ext hx0)
  have c1 := o1.cell (j := 0) rfl
  have HSZ := Lib.hid hsz
  unfold maxLen at hc
  clear hsz
  cases hf : t.findIdx? (isId id) with
  | none =>
    obtain ⟨e1, e2⟩ := findE_none hf
    rw [e1]
    rw [e2] at A1
    clear hf e1 e2
    go_enter Try.func15, Try.ntmps15
    go_wp2_with (go_at_call 37; refine A1.mono ?_; rintro e w1 ⟨rfl, hx1⟩
                 have hx01 := hx0.trans hx1
                 obtain ⟨⟨he0, hf0, he1, hf1, he2, hf2⟩, ho6⟩ := (o2.ext hx1).stored3 (.int .i64 0) (.int .i64 0) (.slice none 0 0))
    refine bodyPost_ret (rent_results2 rfl _ _ (w.heap.size + 1) _ _ _ rfl ho6) rfl ?_
    exact ⟨_, rfl, SRow.nil _ _, hx01.set3 (by omega) _ _ _⟩
  | some j =>
    obtain ⟨hj, e1, e2⟩ := findE_some hf
    rw [e1]
    rw [e2] at A1
    clear hf e1 e2
    have hji : (j : Int) < (t.length : Int) := by omega
    obtain ⟨b, o, q2, d, rfl, ⟨m0, m1, m2⟩, hsn, _, hdm⟩ := ent_at h hj
    go_enter Try.func15, Try.ntmps15
    go_wp2_with (go_at_call 37; refine A1.mono ?_; rintro e w1 ⟨rfl, hx1⟩
                 have hx01 := hx0.trans hx1
                 have c1' := hx1.cell c1
                 have m0 := hx01.cell m0
                 have m1 := hx01.cell m1
                 have m2 := hx01.cell m2
                 obtain ⟨⟨he0, hf0, he1, hf1, he2, hf2⟩, ho6⟩ := (o2.ext hx1).stored3 (.int .i64 t[j].id) (.int .i64 t[j].epoch) (.slice q2 t[j].last.length d))
    refine bodyPost_ret (rent_results2 rfl _ _ (w.heap.size + 1) _ _ _ rfl ho6) rfl ?_
    exact ⟨_, rfl, hsn.ext (hx01.set3 (by omega) _ _ _), hx01.set3 (by omega) _ _ _⟩
set_option maxHeartbeats 1000000 in
theorem rbehind_any (s : Sn) (w : World) : Calls Try.prog 30 #[snv s] w fun e w' => e = .returned (.int .i64 (behS s)) ∧ Ext w w' := by
  obtain ⟨a, b, c⟩ := s
  have hx0 := Ext.alloc w (.cells #[.int .i64 a, .int .i64 b, .int .i64 c] 68)
  obtain ⟨r, hr⟩ : ∃ r, (a.tmod 2147483648 + b.tmod 2147483648).tmod 2147483648 = r := ⟨_, rfl⟩
  have hres : behS ⟨a, b, c⟩ = if r < 0 then r + 2147483648 else r := by
    unfold behS
    rw [← hr]
    simp only
    have e : ∀ x : Int, x.tmod 2147483648 = if 0 ≤ x then x % 2147483648 else -((-x) % 2147483648) := fun x => by
      split
      · rw [Int.tmod_eq_emod_of_nonneg (by omega)]
      · rw [← Int.neg_neg (Int.tmod x 2147483648), ← Int.neg_tmod, Int.tmod_eq_emod_of_nonneg (by omega)]
    simp only [e]
    split <;> split <;> split <;> split <;> omega
  have hb1 : -2147483648 < a.tmod 2147483648 ∧ a.tmod 2147483648 < 2147483648 := ⟨Int.lt_tmod_of_pos a (by omega), Int.tmod_lt_of_pos a (by omega)⟩
  have hb2 : -2147483648 < b.tmod 2147483648 ∧ b.tmod 2147483648 < 2147483648 := ⟨Int.lt_tmod_of_pos b (by omega), Int.tmod_lt_of_pos b (by omega)⟩
  have hb3 : -2147483648 < r ∧ r < 2147483648 := by rw [← hr]; exact ⟨Int.lt_tmod_of_pos _ (by omega), Int.tmod_lt_of_pos _ (by omega)⟩
  have HR := Lib.hid hres
  obtain ⟨x, hx⟩ : ∃ x, a.tmod 2147483648 = x := ⟨_, rfl⟩
  obtain ⟨y, hy⟩ : ∃ y, b.tmod 2147483648 = y := ⟨_, rfl⟩
  rw [hx] at hb1 hr
  rw [hy] at hb2 hr
  have hw : wrap64 (x + y) = x + y := by unfold wrap64; omega
  have hw' : IntKind.i64.wrap (x + y) = x + y := by rw [IntKind.wrap_i64]; omega
  clear hres
  by_cases hn : r < 0
  · have e : behS ⟨a, b, c⟩ = r + 2147483648 := by rw [HR.out, if_pos hn]
    rw [e]
    have hw2 : wrap64 (r + 2147483648) = r + 2147483648 := by unfold wrap64; omega
    have hw3 : IntKind.i64.wrap (r + 2147483648) = r + 2147483648 := by rw [IntKind.wrap_i64]; omega
    clear hb1 hb2 hb3
    go_enter Try.func30, Try.ntmps30
    go_wp2_with fail
    go_ret
    exact ⟨rfl, hx0⟩
  · have e : behS ⟨a, b, c⟩ = r := by rw [HR.out, if_neg hn]
    rw [e]
    clear hb1 hb2 hb3
    go_enter Try.func30, Try.ntmps30
    go_wp2_with fail
    go_ret
    exact ⟨rfl, hx0⟩
end Go.Proofs.Ythiaaoiaabocfaa
