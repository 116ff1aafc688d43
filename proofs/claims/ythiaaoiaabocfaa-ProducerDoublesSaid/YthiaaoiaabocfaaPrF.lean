/- What the program's functions of layer 13 compute: places, at, Find. -/
import Derived.Test.YthiaaoiaabocfaaPrC
namespace Go.Proofs.Ythiaaoiaabocfaa
open Go.RowKit

set_option maxHeartbeats 400000 in
theorem at1_any (g : Nat) (id : Int) (en : Ent) (ev : Value) (w : World) (hc : w.cell? ⟨g, 0, none⟩ = some (.int .i64 id)) (h1 : ev.oneCell' = true) :
    Calls Try.prog 44 #[entv en ev, .pointer (some ⟨g, 0, none⟩)] w fun e w' => e = .returned (.bool (isId id en)) ∧ Ext w w' := by
  obtain ⟨a, b, l⟩ := en
  have hx0 := Ext.alloc w (.cells #[.int .i64 a, .int .i64 b, ev] 43)
  have hc0 := hx0.cell hc
  unfold isId
  simp only
  go_enter Try.func44, Try.ntmps44
  go_wp2_with fail
  go_ret
  exact ⟨rfl, hx0⟩
set_option maxHeartbeats 400000 in
theorem put1_any (g : Nat) (id : Int) (en : Ent) (ev : Value) (w : World) (hc : w.cell? ⟨g, 2, none⟩ = some (.int .i64 id)) (h1 : ev.oneCell' = true) :
    Calls Try.prog 34 #[entv en ev, .pointer (some ⟨g, 0, none⟩)] w fun e w' => e = .returned (.bool (isHigh id en)) ∧ Ext w w' := by
  obtain ⟨a, b, l⟩ := en
  have hx0 := Ext.alloc w (.cells #[.int .i64 a, .int .i64 b, ev] 43)
  have hc0 := hx0.cell hc
  unfold isHigh
  simp only
  go_enter Try.func34, Try.ntmps34
  go_wp2_with fail
  go_ret
  exact ⟨rfl, hx0⟩
set_option maxHeartbeats 400000 in
theorem ask1_any (g : Nat) (q c : Int) (s : Sn) (w : World) (hc : w.cell? ⟨g, 1, none⟩ = some (.int .i64 c)) (hq : w.cell? ⟨g, 4, none⟩ = some (.int .i64 q)) :
    Calls Try.prog 28 #[snv s, .pointer (some ⟨g, 0, none⟩)] w fun e w' => e = .returned (.bool (isSn q c s)) ∧ Ext w w' := by
  obtain ⟨a, b, l⟩ := s
  have hx0 := Ext.alloc w (.cells #[.int .i64 a, .int .i64 b, .int .i64 l] 73)
  have hc0 := hx0.cell hc
  have hq0 := hx0.cell hq
  unfold isSn
  simp only
  cases h : (a == q)
  all_goals
    go_enter Try.func28, Try.ntmps28
    go_wp2_with fail
    go_ret
    exact ⟨rfl, hx0⟩

set_option maxHeartbeats 1000000 in
theorem idxAt_any (g : Nat) (p : Ent → Bool) (v : Value) (t : List Ent) (w : World) (h : TabV w v t) (hl : t.length ≤ 1000)
    (hcl : ∀ (en : Ent) (ev : Value) (W : World), Ext w W → ev.oneCell' = true → Calls Try.prog 44 #[entv en ev, .pointer (some ⟨g, 0, none⟩)] W fun e w' => e = .returned (.bool (p en)) ∧ Ext W w') :
    Calls Try.prog 45 #[v, .func (.func 44) #[] #[.pointer (some ⟨g, 0, none⟩)]] w fun e w' => e = .returned (.int .i64 (placeF p t)) ∧ Ext w w' := by
  obtain ⟨q, c, rfl, hn, hc⟩ := h.slice
  unfold maxLen at hc
  go_enter Try.func45, Try.ntmps45
  go_wp2_with fail
  go_loopg [8] (t.length) (fun k s8 wr => ∃ j : Nat, s8 = .int .i64 j ∧ j ≤ t.length ∧ k = t.length - j ∧ Hid (∀ i x, i < j → t[i]? = some x → p x = false) ∧ Ext w wr)
  case atStart => exact ⟨0, rfl, Nat.zero_le _, rfl, fun i x hi => by omega, Ext.refl _⟩
  case round =>
    obtain ⟨j, rfl, hj, hk, HA, hx⟩ := hrel
    by_cases hlt : j < t.length
    case pos =>
      have hi : (j : Int) < (t.length : Int) := by omega
      obtain ⟨b, o, q2, d, rfl, ⟨m0, m1, m2⟩, hsn, _, hdm⟩ := ent_at (h.ext hx) hlt
      have C1 := hcl t[j] (.slice q2 t[j].last.length d) wr hx rfl
      have hget : t[j]? = some t[j] := List.getElem?_eq_getElem hlt
      have HGET := Lib.hid hget
      generalize t[j] = en at *
      obtain ⟨e0, e1, l⟩ := en
      simp only at *
      clear hget
      cases hb : p ⟨e0, e1, l⟩ with
      | true =>
        rw [hb] at C1
        have HB := Lib.hid hb
        clear hb
        go_wp2_with (go_at_call 44; refine C1.mono ?_; rintro e w' ⟨rfl, hx2⟩)
        go_ret
        refine ⟨?_, hx.trans hx2⟩
        have hje : t[j] = ⟨e0, e1, l⟩ := by have := HGET.out; rw [List.getElem?_eq_getElem hlt] at this; exact Option.some.inj this
        unfold placeF
        rw [find_found hlt (by rw [hje]; exact HB.out) fun i x hi hx => HA.out i x hi hx]
        rfl
      | false =>
        rw [hb] at C1
        have HB := Lib.hid hb
        clear hb
        go_wp2_with (go_at_call 44; refine C1.mono ?_; rintro e w' ⟨rfl, hx2⟩)
        go_roundg (t.length - (j + 1))
        case measure => omega
        case rel =>
          refine ⟨j + 1, by go_num, hlt, rfl, fun i x hi hxx => ?_, hx.trans hx2⟩
          by_cases hij : i = j
          · subst hij
            have := HGET.out
            rw [hxx] at this
            cases this
            exact HB.out
          · exact HA.out i x (by omega) hxx
    case neg =>
      have hje : j = t.length := by omega
      subst hje
      have hi : ¬ (t.length : Int) < (t.length : Int) := by omega
      clear hlt
      go_wp2_with fail
      go_ret
      refine ⟨?_, hx⟩
      unfold placeF
      rw [find_none fun i x hxx => HA.out i x (List.getElem?_eq_some_iff.1 hxx).1 hxx]
      rfl
set_option maxHeartbeats 400000 in
theorem idxAtP_any (g : Nat) (p : Ent → Bool) (v : Value) (t : List Ent) (w : World) (h : TabV w v t) (hl : t.length ≤ 1000)
    (hcl : ∀ (en : Ent) (ev : Value) (W : World), Ext w W → ev.oneCell' = true → Calls Try.prog 44 #[entv en ev, .pointer (some ⟨g, 0, none⟩)] W fun e w' => e = .returned (.bool (p en)) ∧ Ext W w') :
    Calls Try.prog 33 #[v, .func (.func 44) #[] #[.pointer (some ⟨g, 0, none⟩)]] w fun e w' => e = .returned (.int .i64 (placeF p t)) ∧ Ext w w' := by
  have I1 := idxAt_any g p v t w h hl hcl
  clear hcl h
  go_enter Try.func33, Try.ntmps33
  go_wp2_with (go_at_call 45; refine I1.mono ?_; rintro e w' ⟨rfl, hx2⟩)
  go_ret
  exact ⟨rfl, hx2⟩
set_option maxHeartbeats 1000000 in
theorem idxPut_any (g : Nat) (p : Ent → Bool) (v : Value) (t : List Ent) (w : World) (h : TabV w v t) (hl : t.length ≤ 1000)
    (hcl : ∀ (en : Ent) (ev : Value) (W : World), Ext w W → ev.oneCell' = true → Calls Try.prog 34 #[entv en ev, .pointer (some ⟨g, 0, none⟩)] W fun e w' => e = .returned (.bool (p en)) ∧ Ext W w') :
    Calls Try.prog 45 #[v, .func (.func 34) #[] #[.pointer (some ⟨g, 0, none⟩)]] w fun e w' => e = .returned (.int .i64 (placeF p t)) ∧ Ext w w' := by
  obtain ⟨q, c, rfl, hn, hc⟩ := h.slice
  unfold maxLen at hc
  go_enter Try.func45, Try.ntmps45
  go_wp2_with fail
  go_loopg [8] (t.length) (fun k s8 wr => ∃ j : Nat, s8 = .int .i64 j ∧ j ≤ t.length ∧ k = t.length - j ∧ Hid (∀ i x, i < j → t[i]? = some x → p x = false) ∧ Ext w wr)
  case atStart => exact ⟨0, rfl, Nat.zero_le _, rfl, fun i x hi => by omega, Ext.refl _⟩
  case round =>
    obtain ⟨j, rfl, hj, hk, HA, hx⟩ := hrel
    by_cases hlt : j < t.length
    case pos =>
      have hi : (j : Int) < (t.length : Int) := by omega
      obtain ⟨b, o, q2, d, rfl, ⟨m0, m1, m2⟩, hsn, _, hdm⟩ := ent_at (h.ext hx) hlt
      have C1 := hcl t[j] (.slice q2 t[j].last.length d) wr hx rfl
      have hget : t[j]? = some t[j] := List.getElem?_eq_getElem hlt
      have HGET := Lib.hid hget
      generalize t[j] = en at *
      obtain ⟨e0, e1, l⟩ := en
      simp only at *
      clear hget
      cases hb : p ⟨e0, e1, l⟩ with
      | true =>
        rw [hb] at C1
        have HB := Lib.hid hb
        clear hb
        go_wp2_with (go_at_call 34; refine C1.mono ?_; rintro e w' ⟨rfl, hx2⟩)
        go_ret
        refine ⟨?_, hx.trans hx2⟩
        have hje : t[j] = ⟨e0, e1, l⟩ := by have := HGET.out; rw [List.getElem?_eq_getElem hlt] at this; exact Option.some.inj this
        unfold placeF
        rw [find_found hlt (by rw [hje]; exact HB.out) fun i x hi hx => HA.out i x hi hx]
        rfl
      | false =>
        rw [hb] at C1
        have HB := Lib.hid hb
        clear hb
        go_wp2_with (go_at_call 34; refine C1.mono ?_; rintro e w' ⟨rfl, hx2⟩)
        go_roundg (t.length - (j + 1))
        case measure => omega
        case rel =>
          refine ⟨j + 1, by go_num, hlt, rfl, fun i x hi hxx => ?_, hx.trans hx2⟩
          by_cases hij : i = j
          · subst hij
            have := HGET.out
            rw [hxx] at this
            cases this
            exact HB.out
          · exact HA.out i x (by omega) hxx
    case neg =>
      have hje : j = t.length := by omega
      subst hje
      have hi : ¬ (t.length : Int) < (t.length : Int) := by omega
      clear hlt
      go_wp2_with fail
      go_ret
      refine ⟨?_, hx⟩
      unfold placeF
      rw [find_none fun i x hxx => HA.out i x (List.getElem?_eq_some_iff.1 hxx).1 hxx]
      rfl
set_option maxHeartbeats 400000 in
theorem idxPutP_any (g : Nat) (p : Ent → Bool) (v : Value) (t : List Ent) (w : World) (h : TabV w v t) (hl : t.length ≤ 1000)
    (hcl : ∀ (en : Ent) (ev : Value) (W : World), Ext w W → ev.oneCell' = true → Calls Try.prog 34 #[entv en ev, .pointer (some ⟨g, 0, none⟩)] W fun e w' => e = .returned (.bool (p en)) ∧ Ext W w') :
    Calls Try.prog 33 #[v, .func (.func 34) #[] #[.pointer (some ⟨g, 0, none⟩)]] w fun e w' => e = .returned (.int .i64 (placeF p t)) ∧ Ext w w' := by
  have I1 := idxPut_any g p v t w h hl hcl
  clear hcl h
  go_enter Try.func33, Try.ntmps33
  go_wp2_with (go_at_call 45; refine I1.mono ?_; rintro e w' ⟨rfl, hx2⟩)
  go_ret
  exact ⟨rfl, hx2⟩
set_option maxHeartbeats 1000000 in
theorem idxAsk_any (g : Nat) (p : Sn → Bool) (v : Value) (t : List Sn) (w : World) (h : SnV w v t) (hl : t.length ≤ 1000)
    (hcl : ∀ (s : Sn) (W : World), Ext w W → Calls Try.prog 28 #[snv s, .pointer (some ⟨g, 0, none⟩)] W fun e w' => e = .returned (.bool (p s)) ∧ Ext W w') :
    Calls Try.prog 43 #[v, .func (.func 28) #[] #[.pointer (some ⟨g, 0, none⟩)]] w fun e w' => e = .returned (.int .i64 (placeF p t)) ∧ Ext w w' := by
  obtain ⟨q, c, rfl, hn, hc⟩ := h.slice
  unfold maxLen at hc
  go_enter Try.func43, Try.ntmps43
  go_wp2_with fail
  go_loopg [8] (t.length) (fun k s8 wr => ∃ j : Nat, s8 = .int .i64 j ∧ j ≤ t.length ∧ k = t.length - j ∧ Hid (∀ i x, i < j → t[i]? = some x → p x = false) ∧ Ext w wr)
  case atStart => exact ⟨0, rfl, Nat.zero_le _, rfl, fun i x hi => by omega, Ext.refl _⟩
  case round =>
    obtain ⟨j, rfl, hj, hk, HA, hx⟩ := hrel
    by_cases hlt : j < t.length
    case pos =>
      have hi : (j : Int) < (t.length : Int) := by omega
      obtain ⟨b, o, rfl, ⟨m0, m1, m2⟩⟩ := sn_at (h.ext hx) hlt
      have C1 := hcl t[j] wr hx
      have hget : t[j]? = some t[j] := List.getElem?_eq_getElem hlt
      have HGET := Lib.hid hget
      generalize t[j] = en at *
      obtain ⟨e0, e1, l⟩ := en
      simp only at *
      clear hget
      cases hb : p ⟨e0, e1, l⟩ with
      | true =>
        rw [hb] at C1
        have HB := Lib.hid hb
        clear hb
        go_wp2_with (go_at_call 28; refine C1.mono ?_; rintro e w' ⟨rfl, hx2⟩)
        go_ret
        refine ⟨?_, hx.trans hx2⟩
        have hje : t[j] = ⟨e0, e1, l⟩ := by have := HGET.out; rw [List.getElem?_eq_getElem hlt] at this; exact Option.some.inj this
        unfold placeF
        rw [find_found hlt (by rw [hje]; exact HB.out) fun i x hi hx => HA.out i x hi hx]
        rfl
      | false =>
        rw [hb] at C1
        have HB := Lib.hid hb
        clear hb
        go_wp2_with (go_at_call 28; refine C1.mono ?_; rintro e w' ⟨rfl, hx2⟩)
        go_roundg (t.length - (j + 1))
        case measure => omega
        case rel =>
          refine ⟨j + 1, by go_num, hlt, rfl, fun i x hi hxx => ?_, hx.trans hx2⟩
          by_cases hij : i = j
          · subst hij
            have := HGET.out
            rw [hxx] at this
            cases this
            exact HB.out
          · exact HA.out i x (by omega) hxx
    case neg =>
      have hje : j = t.length := by omega
      subst hje
      have hi : ¬ (t.length : Int) < (t.length : Int) := by omega
      clear hlt
      go_wp2_with fail
      go_ret
      refine ⟨?_, hx⟩
      unfold placeF
      rw [find_none fun i x hxx => HA.out i x (List.getElem?_eq_some_iff.1 hxx).1 hxx]
      rfl
set_option maxHeartbeats 400000 in
theorem idxAskP_any (g : Nat) (p : Sn → Bool) (v : Value) (t : List Sn) (w : World) (h : SnV w v t) (hl : t.length ≤ 1000)
    (hcl : ∀ (s : Sn) (W : World), Ext w W → Calls Try.prog 28 #[snv s, .pointer (some ⟨g, 0, none⟩)] W fun e w' => e = .returned (.bool (p s)) ∧ Ext W w') :
    Calls Try.prog 27 #[v, .func (.func 28) #[] #[.pointer (some ⟨g, 0, none⟩)]] w fun e w' => e = .returned (.int .i64 (placeF p t)) ∧ Ext w w' := by
  have I1 := idxAsk_any g p v t w h hl hcl
  clear hcl h
  go_enter Try.func27, Try.ntmps27
  go_wp2_with (go_at_call 43; refine I1.mono ?_; rintro e w' ⟨rfl, hx2⟩)
  go_ret
  exact ⟨rfl, hx2⟩

set_option maxHeartbeats 400000 in
theorem at_any (v : Value) (t : List Ent) (id : Int) (w : World) (h : TabV w v t) (hl : t.length ≤ 1000) :
    Calls Try.prog 32 #[.agg #[v], .int .i64 id] w fun e w' => e = .returned (.int .i64 (placeF (isId id) t)) ∧ Ext w w' := by
  obtain ⟨q, c, rfl, hn, hc⟩ := h.slice
  obtain ⟨o1, o2, hx0, hsz⟩ := objs2 w 33 3 [.slice q t.length c] [.int .i64 id]
  have I1 := idxAtP_any (w.heap.size + 1) (isId id) _ t _ (h.ext hx0) hl (fun en ev W hW h1 => at1_any (w.heap.size + 1) id en ev W (hW.cell (o2.cell (j := 0) rfl)) h1)
  have c1 := o1.cell (j := 0) rfl
  have HSZ := Lib.hid hsz
  clear h o1 o2 hsz
  go_enter Try.func32, Try.ntmps32
  go_wp2_with (go_at_call 33; refine I1.mono ?_; rintro e w' ⟨rfl, hx2⟩)
  go_ret
  exact ⟨rfl, hx0.trans hx2⟩
end Go.Proofs.Ythiaaoiaabocfaa
