/- 'awake' of layer 34's statements answers true. -/
import Derived.Test.YtmoljicchgcnfaaMgA
namespace Go.Proofs.Ytmoljicchgcnfaa
open Go.RowKit

/-- A literal row. -/
theorem SRow.lits {α : Type} {sz : Nat} {R : World → List Value → α → Prop} (e : TypeId) {w : World} {css : List (List Value)} {xs : List α} (h1 : Chunks sz css) (h : Items R (fun _ => True) w css xs) (hm : xs.length ≤ maxLen) :
    SRow sz R (fun _ => True) (w.alloc (.cells css.flatten.toArray e)) (.slice (some ⟨w.heap.size, 0, none⟩) xs.length xs.length) xs := by
  have hx := Ext.alloc w (.cells css.flatten.toArray e)
  refine ⟨css, some ⟨w.heap.size, 0, none⟩, xs.length, h1, rfl, Nat.le_refl _, hm, fun _ => ⟨_, _, rfl, fun j u hu => ?_⟩, h.later (hx.keeps _) fun _ _ h => h⟩
  rw [Nat.zero_add]
  unfold World.cell?
  rw [heap_alloc_new]
  simpa using hu
def rec2 (d t : Int) : Rec := ⟨d, t, false, [], false, []⟩
def bat2 (a b : Int) : Bat := ⟨0, 2, 0, 0, 0, [rec2 0 a, rec2 1 b]⟩
theorem rec_chunk (x : Rec) : (recCells x).length = 6 ∧ ∀ u ∈ recCells x, u.oneCell' = true := by
  refine ⟨rfl, fun u hu => ?_⟩
  unfold recCells at hu
  simp only [List.mem_cons, List.not_mem_nil, or_false] at hu
  rcases hu with rfl | rfl | rfl | rfl | rfl | rfl <;> rfl
theorem recs_lit (w : World) (a b : Int) : RecV (w.alloc (.cells #[.int .i64 0, .int .i64 a, .bool false, .string ⟨#[]⟩, .bool false, .string ⟨#[]⟩, .int .i64 1, .int .i64 b, .bool false, .string ⟨#[]⟩, .bool false, .string ⟨#[]⟩] 24)) (.slice (some ⟨w.heap.size, 0, none⟩) 2 2) [rec2 0 a, rec2 1 b] := by
  refine SRow.lits (css := [recCells (rec2 0 a), recCells (rec2 1 b)]) (xs := [rec2 0 a, rec2 1 b]) _ ?_ ⟨rfl, ?_⟩ (by simp [maxLen])
  · intro cs hcs
    simp only [List.mem_cons, List.not_mem_nil, or_false] at hcs
    rcases hcs with rfl | rfl <;> exact rec_chunk _
  · intro j cs x hc hx w' _
    match j, hc, hx with
    | 0, hc, hx => cases hc; cases hx; exact ⟨rfl, by simp [rec2], by simp [rec2]⟩
    | 1, hc, hx => cases hc; cases hx; exact ⟨rfl, by simp [rec2], by simp [rec2]⟩
    | j + 2, hc, hx => simp at hc
set_option maxHeartbeats 1000000 in
theorem of_any (a b : Int) (w : World) :
    Calls Try.prog 20 #[.int .i64 a, .int .i64 b] w fun e w' => ∃ p c, e = .returned (.slice p 1 c) ∧ BatV w' (.slice p 1 c) [bat2 a b] ∧ Ext w w' := by
  have h1 := recs_lit w a b
  have hsz : (w.alloc (.cells #[.int .i64 0, .int .i64 a, .bool false, .string ⟨#[]⟩, .bool false, .string ⟨#[]⟩, .int .i64 1, .int .i64 b, .bool false, .string ⟨#[]⟩, .bool false, .string ⟨#[]⟩] 24)).heap.size = w.heap.size + 1 := by simp
  have hl : BatV ((w.alloc (.cells #[.int .i64 0, .int .i64 a, .bool false, .string ⟨#[]⟩, .bool false, .string ⟨#[]⟩, .int .i64 1, .int .i64 b, .bool false, .string ⟨#[]⟩, .bool false, .string ⟨#[]⟩] 24)).alloc (.cells #[.int .i64 0, .int .i64 2, .int .i64 0, .int .i64 0, .int .i64 0, .slice (some ⟨w.heap.size, 0, none⟩) 2 2] 51)) (.slice (some ⟨(w.alloc (.cells #[.int .i64 0, .int .i64 a, .bool false, .string ⟨#[]⟩, .bool false, .string ⟨#[]⟩, .int .i64 1, .int .i64 b, .bool false, .string ⟨#[]⟩, .bool false, .string ⟨#[]⟩] 24)).heap.size, 0, none⟩) 1 1) [bat2 a b] := by
    refine SRow.lits (css := [batCells (bat2 a b) (.slice (some ⟨w.heap.size, 0, none⟩) 2 2)]) (xs := [bat2 a b]) _ ?_ ⟨rfl, ?_⟩ (by simp [maxLen])
    · intro cs hcs
      rw [List.mem_singleton] at hcs
      subst hcs
      refine ⟨rfl, fun u hu => ?_⟩
      unfold batCells at hu
      simp only [List.mem_cons, List.not_mem_nil, or_false] at hu
      rcases hu with rfl | rfl | rfl | rfl | rfl | rfl <;> rfl
    · intro j cs x hc hx w' k
      match j, hc, hx with
      | 0, hc, hx => cases hc; cases hx; exact ⟨_, rfl, h1.under _ k⟩
      | j + 1, hc, hx => simp at hc
  rw [hsz] at hl
  have hx := (Ext.alloc w (.cells #[.int .i64 0, .int .i64 a, .bool false, .string ⟨#[]⟩, .bool false, .string ⟨#[]⟩, .int .i64 1, .int .i64 b, .bool false, .string ⟨#[]⟩, .bool false, .string ⟨#[]⟩] 24)).trans (Ext.alloc _ (.cells #[.int .i64 0, .int .i64 2, .int .i64 0, .int .i64 0, .int .i64 0, .slice (some ⟨w.heap.size, 0, none⟩) 2 2] 51))
  have HL := Lib.hid hl
  clear h1 hl hsz
  go_enter Try.func20, Try.ntmps20
  go_wp2_with fail
  go_ret
  exact ⟨_, _, rfl, HL.out, hx⟩
theorem bats_lit1 (w : World) (p : Option Addr) (n c : Nat) (l : List Bat) (h : BatV w (.slice p n c) l) : BatsV (w.alloc (.cells #[.slice p n c] 22)) (.slice (some ⟨w.heap.size, 0, none⟩) 1 1) [l] := by
  refine SRow.lits (css := [[.slice p n c]]) (xs := [l]) _ ?_ ⟨rfl, ?_⟩ (by simp [maxLen])
  · intro cs hcs
    rw [List.mem_singleton] at hcs
    subst hcs
    exact ⟨rfl, fun u hu => by rw [List.mem_singleton] at hu; subst hu; rfl⟩
  · intro j cs x hc hx w' k
    match j, hc, hx with
    | 0, hc, hx => cases hc; cases hx; exact ⟨_, rfl, h.under _ k⟩
    | j + 1, hc, hx => simp at hc
theorem bats_lit2 (w : World) (p q : Option Addr) (n c n' c' : Nat) (l l' : List Bat) (h : BatV w (.slice p n c) l) (h' : BatV w (.slice q n' c') l') : BatsV (w.alloc (.cells #[.slice p n c, .slice q n' c'] 22)) (.slice (some ⟨w.heap.size, 0, none⟩) 2 2) [l, l'] := by
  refine SRow.lits (css := [[.slice p n c], [.slice q n' c']]) (xs := [l, l']) _ ?_ ⟨rfl, ?_⟩ (by simp [maxLen])
  · intro cs hcs
    simp only [List.mem_cons, List.not_mem_nil, or_false] at hcs
    rcases hcs with rfl | rfl <;> exact ⟨rfl, fun u hu => by rw [List.mem_singleton] at hu; subst hu; rfl⟩
  · intro j cs x hc hx w' k
    match j, hc, hx with
    | 0, hc, hx => cases hc; cases hx; exact ⟨_, rfl, h.under _ k⟩
    | 1, hc, hx => cases hc; cases hx; exact ⟨_, rfl, h'.under _ k⟩
    | j + 2, hc, hx => simp at hc

def ls2 : List (List Bat) := [[bat2 1 5], [bat2 2 3]]
def ls1 : List (List Bat) := [[bat2 1 5]]
theorem all_two : allL ls2 = [⟨0, 0, 1, rec2 0 1⟩, ⟨1, 0, 2, rec2 0 2⟩, ⟨1, 1, 3, rec2 1 3⟩, ⟨0, 1, 5, rec2 1 5⟩] := by kernel_rfl
theorem new_one : newH ls1 = [[⟨0, 0, 1, rec2 0 1⟩, ⟨0, 1, 5, rec2 1 5⟩]] := by kernel_rfl
theorem next_one : nextH [[⟨0, 0, 1, rec2 0 1⟩, ⟨0, 1, 5, rec2 1 5⟩]] = [[⟨0, 1, 5, rec2 1 5⟩]] := by kernel_rfl

theorem own_head {e : TypeId} {w : World} {B : Nat} {v : Value} {x : Itm} {xs : List Itm} (h : ORow e 9 RItm (fun _ => False) w B v (x :: xs)) : ∃ b c, v = .slice (some ⟨b, 0, none⟩) (xs.length + 1) c ∧ ∀ (j : Nat) (y : Itm), (x :: xs)[j]? = some y → ItmAt w b (j * 9) y := by
  have hv := itm_view h
  obtain ⟨css, h1, h2, h3⟩ := h
  rcases h2.2 with ⟨_, hn⟩ | ⟨g, cap, cur, e2, _⟩
  · simp at hn
  · refine ⟨g, cap, e2, fun j y hy => ?_⟩
    subst e2
    obtain ⟨hj, hy2⟩ := List.getElem?_eq_some_iff.1 hy
    obtain ⟨b, o, e3, hat⟩ := itm_at hv hj
    cases e3
    rw [Nat.zero_add, hy2] at hat
    exact hat
theorem all2_any (v : Value) (w : World) (h : BatsV w v ls2) :
    Calls Try.prog 13 #[v] w fun e w' => ∃ b c, e = .returned (.slice (some ⟨b, 0, none⟩) 4 c) ∧ ItmAt w' b 0 ⟨0, 0, 1, rec2 0 1⟩ ∧ ItmAt w' b 9 ⟨1, 0, 2, rec2 0 2⟩ ∧ ItmAt w' b 18 ⟨1, 1, 3, rec2 1 3⟩ ∧ ItmAt w' b 27 ⟨0, 1, 5, rec2 1 5⟩ ∧ Ext w w' := by
  refine (all_any v ls2 w h (by simp [ls2]) ?_ ?_).mono ?_
  · intro i hi
    have : i = 0 ∨ i = 1 := by simp [ls2] at hi; omega
    rcases this with rfl | rfl <;> decide
  · decide
  · rw [all_two]
    rintro e w' ⟨v', rfl, ho, hx⟩
    obtain ⟨b, c, rfl, hat⟩ := own_head ho
    exact ⟨b, c, rfl, hat 0 _ rfl, hat 1 _ rfl, hat 2 _ rfl, hat 3 _ rfl, hx⟩
theorem new1_any (v : Value) (w : World) (h : BatsV w v ls1) :
    Calls Try.prog 14 #[v] w fun e w' => ∃ m hv gs, e = .returned (.pointer (some ⟨m, 0, none⟩)) ∧ Heap w.heap.size w' m hv gs [[⟨0, 0, 1, rec2 0 1⟩, ⟨0, 1, 5, rec2 1 5⟩]] (-1) ∧ Ext w w' := by
  have := new_any v ls1 w h (by simp [ls1]) (fun i hi => by
    have : i = 0 := by simp [ls1] at hi; omega
    subst this; decide)
  rw [new_one] at this
  exact this
theorem next1_any (B m : Nat) (v : Value) (gs : List Nat) (w : World) (h : Heap B w m v gs [[⟨0, 0, 1, rec2 0 1⟩, ⟨0, 1, 5, rec2 1 5⟩]] (-1)) :
    Calls Try.prog 15 #[.pointer (some ⟨m, 0, none⟩)] w fun e w' => e = .returned (.tuple #[.agg #[.int .i64 0, .int .i64 0, .int .i64 1, .int .i64 0, .int .i64 1, .bool false, .string ⟨#[]⟩, .bool false, .string ⟨#[]⟩], .bool true]) ∧ ∃ v' gs', Heap B w' m v' gs' [[⟨0, 1, 5, rec2 1 5⟩]] 1 ∧ Chg (Own m v gs) w w' := by
  refine (next_some B m v gs _ (-1) w (fun k => k < w.heap.size) h (by simp) (by simp) h.tops (fun _ hk => hk)).mono ?_
  rintro e w' ⟨rfl, v', gs', hh, _, hx, _⟩
  rw [next_one] at hh
  exact ⟨rfl, v', gs', hh, hx⟩
theorem left1_any (B m : Nat) (v : Value) (gs : List Nat) (w : World) (h : Heap B w m v gs [[⟨0, 1, 5, rec2 1 5⟩]] 1) :
    Calls Try.prog 17 #[.pointer (some ⟨m, 0, none⟩)] w fun e w' => e = .returned (.int .i64 1) ∧ w' = w := mleft_any B m v gs _ 1 w h (by decide) (by simp)
theorem less1_any (w : World) :
    Calls Try.prog 11 #[.agg #[.int .i64 0, .int .i64 0, .int .i64 1, .int .i64 0, .int .i64 1, .bool false, .string ⟨#[]⟩, .bool false, .string ⟨#[]⟩], .agg #[.int .i64 1, .int .i64 0, .int .i64 2, .int .i64 0, .int .i64 2, .bool false, .string ⟨#[]⟩, .bool false, .string ⟨#[]⟩]] w fun e w' => e = .returned (.bool true) ∧ Ext w w' := less_any ⟨0, 0, 1, rec2 0 1⟩ ⟨1, 0, 2, rec2 0 2⟩ w

set_option maxRecDepth 20000 in
set_option maxHeartbeats 4000000 in
theorem awake_any (w : World) :
    Calls Try.prog 7 #[] w fun e w' => e = .returned (.bool true) ∧ Ext w w' := by
  go_enter Try.func7, Try.ntmps7
  repeat' (first
    | ((with_reducible show wpList _ _ _ (List.append _ _) _ _); show wpList _ _ _ (_ :: _) _ _)
    | (go_big_may; first
        | (go_at_call 20; have hq := hx4; refine (of_any 1 5 _).mono ?_; rintro e w5 ⟨p5, c5, rfl, hb5, hx5⟩
           have hl1 := bats_lit1 w5 p5 1 c5 _ hb5
           have hx5a := hx5.trans (Ext.alloc w5 (.cells #[.slice p5 1 c5] 22)))
        | (go_at_call 20; have hq := hx1; refine (of_any 2 3 _).mono ?_; rintro e w2 ⟨p2, c2, rfl, hb2, hx2⟩
           have hl2 := bats_lit2 w2 p1 p2 1 c1 1 c2 _ _ (hb1.ext hx2) hb2
           have hx2a := hx2.trans (Ext.alloc w2 (.cells #[.slice p1 1 c1, .slice p2 1 c2] 22)))
        | (go_at_call 20; refine (of_any 1 5 _).mono ?_; rintro e w1 ⟨p1, c1, rfl, hb1, hx1⟩)
        | (go_at_call 13; refine (all2_any _ _ hl2).mono ?_; rintro e w4 ⟨b4, c4, rfl, i0, i1, i2, i3, hx4'⟩
           have hx4 := (hx1.trans hx2a).trans hx4'
           clear hl2)
        | (go_at_call 14; refine (new1_any _ _ hl1).mono ?_; rintro e w6 ⟨m, hv, gs, rfl, hh6, hx6⟩)
        | (go_at_call 15; refine (next1_any _ m hv gs _ hh6).mono ?_; rintro e w7 ⟨rfl, v7, gs7, hh7, hc7⟩
           have hx7 := hc7.ext hx6 hh6.own_low
           have hx7a := (hx5a.trans hx7).trans (Ext.alloc w7 (.cells #[.int .i64 0, .int .i64 0, .int .i64 1, .int .i64 0, .int .i64 1, .bool false, .string ⟨#[]⟩, .bool false, .string ⟨#[]⟩] 36))
           have hh8 := hh7.ext (Ext.alloc w7 (.cells #[.int .i64 0, .int .i64 0, .int .i64 1, .int .i64 0, .int .i64 1, .bool false, .string ⟨#[]⟩, .bool false, .string ⟨#[]⟩] 36))
           obtain ⟨a0, a1, a2, a3, a4, a5, a6, a7, a8⟩ := i0.ext hx7a
           obtain ⟨d0, d1, d2, d3, d4, d5, d6, d7, d8⟩ := i1.ext hx7a
           have t2c := (show ObjAt (w7.alloc (.cells #[.int .i64 0, .int .i64 0, .int .i64 1, .int .i64 0, .int .i64 1, .bool false, .string ⟨#[]⟩, .bool false, .string ⟨#[]⟩] 36)) w7.heap.size 36 [.int .i64 0, .int .i64 0, .int .i64 1, .int .i64 0, .int .i64 1, .bool false, .string ⟨#[]⟩, .bool false, .string ⟨#[]⟩] from heap_alloc_new w7 _).cell (j := 2) rfl
           have e2 := (i2.ext hx7a).c2
           have f2 := (i3.ext hx7a).c2
           have f0 := (i3.ext hx7a).c0
           have f1 := (i3.ext hx7a).c1
           simp only [rec2, Nat.reduceAdd] at a0 a1 a2 a3 a4 a5 a6 a7 a8 d0 d1 d2 d3 d4 d5 d6 d7 d8 e2 f2 f0 f1))
    | go_values | go_skip | go_guarded | go_step | go_upon | go_back | (simp only [Int.not_lt, Int.not_le] at *; go_simp) | (go_values <;> (try go_simp)) | (go_ite <;> go_prune <;> (try go_simp)) | (split <;> (first | (rename_i hx; exact (hx _ rfl).elim) | go_prune)))
  simp only [List.append]
  apply wp_region_dag (X := Ext) (by kernel_rfl) (by kernel_rfl) (fun _ _ _ => Ext.trans) (Ext.drew1 _)
  apply dag_val Ext.refl rfl (by intro W hW H; go_simp <;> rfl)
  simp only [Act.put, List.setIfInBounds_toArray, List.set_cons_zero, List.set_cons_succ]
  apply dag_val Ext.refl rfl (by intro W hW H; go_simp <;> rfl)
  simp only [Act.put, List.setIfInBounds_toArray, List.set_cons_zero, List.set_cons_succ]
  apply dag_val Ext.refl rfl (by intro W hW H; go_simp <;> rfl)
  simp only [Act.put, List.setIfInBounds_toArray, List.set_cons_zero, List.set_cons_succ]
  apply dag_val Ext.refl rfl (by intro W hW H; go_simp <;> rfl)
  simp only [Act.put, List.setIfInBounds_toArray, List.set_cons_zero, List.set_cons_succ]
  apply dag_val Ext.refl rfl (by intro W hW H; go_simp <;> rfl)
  simp only [Act.put, List.setIfInBounds_toArray, List.set_cons_zero, List.set_cons_succ]
  apply dag_val Ext.refl rfl (by intro W hW H; go_simp <;> rfl)
  simp only [Act.put, List.setIfInBounds_toArray, List.set_cons_zero, List.set_cons_succ]
  apply dag_val Ext.refl rfl (by intro W hW H; go_simp <;> rfl)
  simp only [Act.put, List.setIfInBounds_toArray, List.set_cons_zero, List.set_cons_succ]
  apply dag_val Ext.refl rfl (by intro W hW H; have q0 := hW.cell a2; go_simp <;> rfl)
  simp only [Act.put, List.setIfInBounds_toArray, List.set_cons_zero, List.set_cons_succ]
  apply dag_val Ext.refl rfl (by intro W hW H; go_simp <;> rfl)
  simp only [Act.put, List.setIfInBounds_toArray, List.set_cons_zero, List.set_cons_succ]
  apply dag_val Ext.refl rfl (by intro W hW H; go_simp <;> rfl)
  simp only [Act.put, List.setIfInBounds_toArray, List.set_cons_zero, List.set_cons_succ]
  apply dag_val Ext.refl rfl (by intro W hW H; go_simp <;> rfl)
  simp only [Act.put, List.setIfInBounds_toArray, List.set_cons_zero, List.set_cons_succ]
  apply dag_val Ext.refl rfl (by intro W hW H; go_simp <;> rfl)
  simp only [Act.put, List.setIfInBounds_toArray, List.set_cons_zero, List.set_cons_succ]
  apply dag_val Ext.refl rfl (by intro W hW H; go_simp <;> rfl)
  simp only [Act.put, List.setIfInBounds_toArray, List.set_cons_zero, List.set_cons_succ]
  apply dag_val Ext.refl rfl (by intro W hW H; go_simp <;> rfl)
  simp only [Act.put, List.setIfInBounds_toArray, List.set_cons_zero, List.set_cons_succ]
  apply dag_val Ext.refl rfl (by intro W hW H; have q0 := hW.cell d2; go_simp <;> rfl)
  simp only [Act.put, List.setIfInBounds_toArray, List.set_cons_zero, List.set_cons_succ]
  apply dag_val Ext.refl rfl (by intro W hW H; go_simp <;> rfl)
  simp only [Act.put, List.setIfInBounds_toArray, List.set_cons_zero, List.set_cons_succ]
  apply dag_val Ext.refl rfl (by intro W hW H; go_simp <;> rfl)
  simp only [Act.put, List.setIfInBounds_toArray, List.set_cons_zero, List.set_cons_succ]
  apply dag_val Ext.refl rfl (by intro W hW H; go_simp <;> rfl)
  simp only [Act.put, List.setIfInBounds_toArray, List.set_cons_zero, List.set_cons_succ]
  apply dag_val Ext.refl rfl (by intro W hW H; go_simp <;> rfl)
  simp only [Act.put, List.setIfInBounds_toArray, List.set_cons_zero, List.set_cons_succ]
  apply dag_val Ext.refl rfl (by intro W hW H; go_simp <;> rfl)
  simp only [Act.put, List.setIfInBounds_toArray, List.set_cons_zero, List.set_cons_succ]
  apply dag_val Ext.refl rfl (by intro W hW H; go_simp <;> rfl)
  simp only [Act.put, List.setIfInBounds_toArray, List.set_cons_zero, List.set_cons_succ]
  apply dag_val Ext.refl rfl (by intro W hW H; have q0 := hW.cell e2; go_simp <;> rfl)
  simp only [Act.put, List.setIfInBounds_toArray, List.set_cons_zero, List.set_cons_succ]
  apply dag_val Ext.refl rfl (by intro W hW H; go_simp <;> rfl)
  simp only [Act.put, List.setIfInBounds_toArray, List.set_cons_zero, List.set_cons_succ]
  apply dag_val Ext.refl rfl (by intro W hW H; go_simp <;> rfl)
  simp only [Act.put, List.setIfInBounds_toArray, List.set_cons_zero, List.set_cons_succ]
  apply dag_val Ext.refl rfl (by intro W hW H; go_simp <;> rfl)
  simp only [Act.put, List.setIfInBounds_toArray, List.set_cons_zero, List.set_cons_succ]
  apply dag_val Ext.refl rfl (by intro W hW H; go_simp <;> rfl)
  simp only [Act.put, List.setIfInBounds_toArray, List.set_cons_zero, List.set_cons_succ]
  apply dag_val Ext.refl rfl (by intro W hW H; go_simp <;> rfl)
  simp only [Act.put, List.setIfInBounds_toArray, List.set_cons_zero, List.set_cons_succ]
  apply dag_val Ext.refl rfl (by intro W hW H; go_simp <;> rfl)
  simp only [Act.put, List.setIfInBounds_toArray, List.set_cons_zero, List.set_cons_succ]
  apply dag_val Ext.refl rfl (by intro W hW H; have q0 := hW.cell f2; go_simp <;> rfl)
  simp only [Act.put, List.setIfInBounds_toArray, List.set_cons_zero, List.set_cons_succ]
  apply dag_val Ext.refl rfl (by intro W hW H; go_simp <;> rfl)
  simp only [Act.put, List.setIfInBounds_toArray, List.set_cons_zero, List.set_cons_succ]
  apply dag_val Ext.refl rfl (by intro W hW H; go_simp <;> rfl)
  simp only [Act.put, List.setIfInBounds_toArray, List.set_cons_zero, List.set_cons_succ]
  apply dag_val Ext.refl rfl (by intro W hW H; go_simp <;> rfl)
  simp only [Act.put, List.setIfInBounds_toArray, List.set_cons_zero, List.set_cons_succ]
  apply dag_val Ext.refl rfl (by intro W hW H; go_simp <;> rfl)
  simp only [Act.put, List.setIfInBounds_toArray, List.set_cons_zero, List.set_cons_succ]
  apply dag_val Ext.refl rfl (by intro W hW H; go_simp <;> rfl)
  simp only [Act.put, List.setIfInBounds_toArray, List.set_cons_zero, List.set_cons_succ]
  apply dag_val Ext.refl rfl (by intro W hW H; go_simp <;> rfl)
  simp only [Act.put, List.setIfInBounds_toArray, List.set_cons_zero, List.set_cons_succ]
  apply dag_val Ext.refl rfl (by intro W hW H; have q0 := hW.cell f0; go_simp <;> rfl)
  simp only [Act.put, List.setIfInBounds_toArray, List.set_cons_zero, List.set_cons_succ]
  apply dag_val Ext.refl rfl (by intro W hW H; go_simp <;> rfl)
  simp only [Act.put, List.setIfInBounds_toArray, List.set_cons_zero, List.set_cons_succ]
  apply dag_val Ext.refl rfl (by intro W hW H; go_simp <;> rfl)
  simp only [Act.put, List.setIfInBounds_toArray, List.set_cons_zero, List.set_cons_succ]
  apply dag_val Ext.refl rfl (by intro W hW H; go_simp <;> rfl)
  simp only [Act.put, List.setIfInBounds_toArray, List.set_cons_zero, List.set_cons_succ]
  apply dag_val Ext.refl rfl (by intro W hW H; go_simp <;> rfl)
  simp only [Act.put, List.setIfInBounds_toArray, List.set_cons_zero, List.set_cons_succ]
  apply dag_val Ext.refl rfl (by intro W hW H; go_simp <;> rfl)
  simp only [Act.put, List.setIfInBounds_toArray, List.set_cons_zero, List.set_cons_succ]
  apply dag_val Ext.refl rfl (by intro W hW H; go_simp <;> rfl)
  simp only [Act.put, List.setIfInBounds_toArray, List.set_cons_zero, List.set_cons_succ]
  apply dag_val Ext.refl rfl (by intro W hW H; have q0 := hW.cell f1; go_simp <;> rfl)
  simp only [Act.put, List.setIfInBounds_toArray, List.set_cons_zero, List.set_cons_succ]
  apply dag_val Ext.refl rfl (by intro W hW H; go_simp <;> rfl)
  simp only [Act.put, List.setIfInBounds_toArray, List.set_cons_zero, List.set_cons_succ]
  apply dag_val Ext.refl rfl (by intro W hW H; go_simp <;> rfl)
  simp only [Act.put, List.setIfInBounds_toArray, List.set_cons_zero, List.set_cons_succ]
  apply dag_val Ext.refl rfl (by intro W hW H; go_simp <;> rfl)
  simp only [Act.put, List.setIfInBounds_toArray, List.set_cons_zero, List.set_cons_succ]
  apply dag_val Ext.refl rfl (by intro W hW H; go_simp <;> rfl)
  simp only [Act.put, List.setIfInBounds_toArray, List.set_cons_zero, List.set_cons_succ]
  apply dag_val Ext.refl rfl (by intro W hW H; go_simp <;> rfl)
  simp only [Act.put, List.setIfInBounds_toArray, List.set_cons_zero, List.set_cons_succ]
  apply dag_val Ext.refl rfl (by intro W hW H; go_simp <;> rfl)
  simp only [Act.put, List.setIfInBounds_toArray, List.set_cons_zero, List.set_cons_succ]
  apply dag_val Ext.refl rfl (by intro W hW H; go_simp <;> rfl)
  simp only [Act.put, List.setIfInBounds_toArray, List.set_cons_zero, List.set_cons_succ]
  apply dag_val Ext.refl rfl (by intro W hW H; have q0 := hW.cell t2c; go_simp <;> rfl)
  simp only [Act.put, List.setIfInBounds_toArray, List.set_cons_zero, List.set_cons_succ]
  apply dag_val Ext.refl rfl (by intro W hW H; go_simp <;> rfl)
  simp only [Act.put, List.setIfInBounds_toArray, List.set_cons_zero, List.set_cons_succ]
  apply dag_val Ext.refl rfl (by intro W hW H; go_simp <;> rfl)
  simp only [Act.put, List.setIfInBounds_toArray, List.set_cons_zero, List.set_cons_succ]
  apply dag_val Ext.refl rfl (by intro W hW H; go_simp <;> rfl)
  simp only [Act.put, List.setIfInBounds_toArray, List.set_cons_zero, List.set_cons_succ]
  apply dag_val Ext.refl rfl (by intro W hW H; go_simp <;> rfl)
  simp only [Act.put, List.setIfInBounds_toArray, List.set_cons_zero, List.set_cons_succ]
  refine' dag_call (c := .int .i64 1) (f := 17) (args := #[.pointer (some ⟨m, 0, none⟩)]) rfl (by intro W; go_simp <;> rfl) (fun W hW H => (left1_any _ m v7 gs7 W (hh8.ext hW)).mono (R' := fun e w' => e = .returned (.int .i64 1) ∧ Ext W w') (by rintro e w' ⟨rfl, rfl⟩; exact ⟨rfl, Ext.refl _⟩)) _
  rotate_left
  simp only [Act.put, List.setIfInBounds_toArray, List.set_cons_zero, List.set_cons_succ]
  apply dag_val Ext.refl rfl (by intro W hW H; go_simp <;> rfl)
  simp only [Act.put, List.setIfInBounds_toArray, List.set_cons_zero, List.set_cons_succ]
  apply dag_val Ext.refl rfl (by intro W hW H; go_simp <;> rfl)
  simp only [Act.put, List.setIfInBounds_toArray, List.set_cons_zero, List.set_cons_succ]
  apply dag_val Ext.refl rfl (by intro W hW H; go_simp <;> rfl)
  simp only [Act.put, List.setIfInBounds_toArray, List.set_cons_zero, List.set_cons_succ]
  apply dag_val Ext.refl rfl (by intro W hW H; go_simp <;> rfl)
  simp only [Act.put, List.setIfInBounds_toArray, List.set_cons_zero, List.set_cons_succ]
  refine' dag_call (c := .int .i64 1) (f := 18) (args := #[.pointer (some ⟨m, 0, none⟩)]) rfl (by intro W; go_simp <;> rfl) (fun W hW H => (newest_any _ m v7 gs7 _ 1 W (hh8.ext hW)).mono (R' := fun e w' => e = .returned (.int .i64 1) ∧ Ext W w') (by rintro e w' ⟨rfl, rfl⟩; exact ⟨rfl, Ext.refl _⟩)) _
  rotate_left
  simp only [Act.put, List.setIfInBounds_toArray, List.set_cons_zero, List.set_cons_succ]
  apply dag_val Ext.refl rfl (by intro W hW H; go_simp <;> rfl)
  simp only [Act.put, List.setIfInBounds_toArray, List.set_cons_zero, List.set_cons_succ]
  apply dag_val Ext.refl rfl (by intro W hW H; go_simp <;> rfl)
  simp only [Act.put, List.setIfInBounds_toArray, List.set_cons_zero, List.set_cons_succ]
  apply dag_val Ext.refl rfl (by intro W hW H; go_simp <;> rfl)
  simp only [Act.put, List.setIfInBounds_toArray, List.set_cons_zero, List.set_cons_succ]
  apply dag_val Ext.refl rfl (by intro W hW H; go_simp <;> rfl)
  simp only [Act.put, List.setIfInBounds_toArray, List.set_cons_zero, List.set_cons_succ]
  apply dag_val Ext.refl rfl (by intro W hW H; go_simp <;> rfl)
  simp only [Act.put, List.setIfInBounds_toArray, List.set_cons_zero, List.set_cons_succ]
  apply dag_val Ext.refl rfl (by intro W hW H; have q0 := hW.cell a0; have q1 := hW.cell a1; have q2 := hW.cell a2; have q3 := hW.cell a3; have q4 := hW.cell a4; have q5 := hW.cell a5; have q6 := hW.cell a6; have q7 := hW.cell a7; have q8 := hW.cell a8; go_simp <;> rfl)
  simp only [Act.put, List.setIfInBounds_toArray, List.set_cons_zero, List.set_cons_succ]
  apply dag_val Ext.refl rfl (by intro W hW H; go_simp <;> rfl)
  simp only [Act.put, List.setIfInBounds_toArray, List.set_cons_zero, List.set_cons_succ]
  apply dag_val Ext.refl rfl (by intro W hW H; go_simp <;> rfl)
  simp only [Act.put, List.setIfInBounds_toArray, List.set_cons_zero, List.set_cons_succ]
  apply dag_val Ext.refl rfl (by intro W hW H; have q0 := hW.cell d0; have q1 := hW.cell d1; have q2 := hW.cell d2; have q3 := hW.cell d3; have q4 := hW.cell d4; have q5 := hW.cell d5; have q6 := hW.cell d6; have q7 := hW.cell d7; have q8 := hW.cell d8; go_simp <;> rfl)
  simp only [Act.put, List.setIfInBounds_toArray, List.set_cons_zero, List.set_cons_succ]
  refine' dag_call (c := .bool true) (f := 11) (args := #[.agg #[.int .i64 0, .int .i64 0, .int .i64 1, .int .i64 0, .int .i64 1, .bool false, .string ⟨#[]⟩, .bool false, .string ⟨#[]⟩], .agg #[.int .i64 1, .int .i64 0, .int .i64 2, .int .i64 0, .int .i64 2, .bool false, .string ⟨#[]⟩, .bool false, .string ⟨#[]⟩]]) rfl (by intro W; go_simp <;> rfl) (fun W hW H => less1_any W) _
  rotate_left
  simp only [Act.put, List.setIfInBounds_toArray, List.set_cons_zero, List.set_cons_succ]
  apply dag_val Ext.refl rfl (by intro W hW H; go_simp <;> rfl)
  simp only [Act.put, List.setIfInBounds_toArray, List.set_cons_zero, List.set_cons_succ]
  apply dag_val Ext.refl rfl (by intro W hW H; go_simp <;> rfl)
  simp only [Act.put, List.setIfInBounds_toArray, List.set_cons_zero, List.set_cons_succ]
  refine dag_end fun W hW H => ?_
  go_wp2_with fail
  go_ret
  exact ⟨rfl, (hx4.trans hx7a).trans hW⟩
end Go.Proofs.Ytmoljicchgcnfaa
