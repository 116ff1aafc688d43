/- The statements of layer 5: BlockCuts: the walk of the law. -/
import Derived.Test.YtppeeameoilmoaaLaw05d
namespace Go.Proofs.Ytppeeameoilmoaa
open Go.RowKit

theorem layF_each : ∀ (n : Nat) (kind : UInt8) (b : List UInt8), b.length ≤ n → ∀ z ∈ layF n kind b, z.length = 64
  | 0, kind, b, h, z, hz => by
    rw [layF_short 0 kind b (by omega), List.mem_singleton] at hz
    subst hz; exact blockL_length _ _ (by omega)
  | n + 1, kind, b, h, z, hz => by
    simp only [layF] at hz
    split at hz
    · rw [List.mem_singleton] at hz
      subst hz; exact blockL_length _ _ (by assumption)
    · rcases List.mem_cons.1 hz with rfl | hz
      · exact blockL_length _ _ (by simp; omega)
      · exact layF_each n 2 (b.drop 61) (by simp; omega) z hz
theorem joinGo_torn (kind : UInt8) (torn : List UInt8) (r : List (List UInt8)) (ht : (openB torn).err ≠ 0) : joinGo kind (torn :: r) = ⟨[], 0⟩ := joinGo_stop _ _ _ fun h => ht h.1
theorem layF_cut : ∀ (n : Nat) (kind : UInt8) (b : List UInt8) (k : Nat) (torn : List UInt8) (r : List (List UInt8)), goodKind kind → b.length ≤ n → k < (layF n kind b).length → (openB torn).err ≠ 0 →
    joinGo kind ((layF n kind b).take k ++ torn :: r) = ⟨b.take (61 * k), k⟩ := by
  intro n
  induction n with
  | zero =>
    intro kind b k torn r _ hb hk ht
    rw [layF_short 0 kind b (by omega), List.length_singleton] at hk
    obtain rfl : k = 0 := by omega
    simpa using joinGo_torn kind torn r ht
  | succ n ih =>
    intro kind b k torn r hg hb hk ht
    cases k with
    | zero => simpa using joinGo_torn kind torn r ht
    | succ k =>
      simp only [layF] at hk ⊢
      split at hk
      · simp at hk
      · rename_i h
        rw [List.length_cons] at hk
        rw [if_neg h, List.take_succ_cons, List.cons_append]
        have ho := open_block kind (b.take 61) hg (by simp; omega)
        rw [joinGo_go _ _ _ (by rw [ho]; exact ⟨rfl, rfl⟩), ho, ih 2 (b.drop 61) k torn r (.inr rfl) (by simp; omega) (by omega) ht]
        have e : b.take (61 * (k + 1)) = b.take 61 ++ (b.drop 61).take (61 * k) := by rw [← List.take_add]; congr 1; omega
        rw [e]
theorem layB_cut (b : List UInt8) (k : Nat) (torn : List UInt8) (hk : k < (layB b).length) (ht : (openB torn).err ≠ 0) :
    joinB (((layB b).take k ++ [torn]) ++ (layB b).drop (k + 1)) = if k = 0 then ⟨[], 0, 8⟩ else ⟨b.take (min b.length (k * 61)), k, 0⟩ := by
  have e := layF_cut b.length 1 b k torn ((layB b).drop (k + 1)) (.inl rfl) (Nat.le_refl _) hk ht
  have e2 : ((layB b).take k ++ [torn]) ++ (layB b).drop (k + 1) = (layF b.length 1 b).take k ++ torn :: (layB b).drop (k + 1) := by rw [List.append_assoc]; rfl
  unfold joinB
  rw [e2, e]
  have e3 : b.take (min b.length (k * 61)) = b.take (61 * k) := by
    rw [Nat.mul_comm]
    rcases Nat.le_total b.length (61 * k) with h | h
    · rw [Nat.min_eq_left h, List.take_of_length_le (Nat.le_refl _), List.take_of_length_le h]
    · rw [Nat.min_eq_right h]
  rw [e3]

set_option maxHeartbeats 2000000 in
theorem blockCuts_walk (v : Value) (l : List UInt8) (m1 m2 : Nat) (w : World) (h : BV w v l) (hm1 : m1 < 256) (hm2 : m2 < 256) :
    Calls Try.prog 8 #[v, .int .u8 m1, .int .u8 m2] w fun e w' => e = .returned (.bool true) ∧ Ext w w' := by
  obtain ⟨p1, c1, rfl, hlc, hc1, _⟩ := id h
  unfold maxLen at hc1
  by_cases hl1 : 1000 < l.length
  · go_enter Try.func8, Try.ntmps8
    go_wp2_with (go_at_call 9; refine (awake_any _).mono ?_; rintro e w1 ⟨rfl, hx1⟩)
    go_ret
    exact ⟨rfl, hx1⟩
  have A1 := fun w h => blay_any (.slice p1 l.length c1) l w h (by omega)
  have f1 := layB_few l
  have f2 : ∀ z ∈ layB l, z.length = 64 := layF_each l.length 1 l (Nat.le_refl _)
  have f3 := layB_cut l
  generalize layB l = ls at *
  obtain ⟨n1, hn1⟩ : ∃ n1, n1 = ls.length + 1 := ⟨_, rfl⟩
  have hn1d : n1 ≤ 1002 := by omega
  obtain ⟨k, hk, hkn⟩ : ∃ k : Nat, (m1 : Int).tmod (n1 : Int) = (k : Int) ∧ k < n1 := ⟨m1 % n1, by rw [Int.tmod_eq_emod_of_nonneg (by omega)]; exact (Int.natCast_emod m1 n1).symm, Nat.mod_lt _ (by omega)⟩
  obtain ⟨t, ht, ht2⟩ : ∃ t : Nat, (m2 : Int).tmod 64 = (t : Int) ∧ t < 64 := ⟨m2 % 64, by rw [Int.tmod_eq_emod_of_nonneg (by omega)]; exact (Int.natCast_emod m2 64).symm, Nat.mod_lt _ (by omega)⟩
  have e0 : IntKind.i64.wrap (k : Int) = k := by rw [IntKind.wrap_i64]; omega
  have e1 : IntKind.i64.wrap (m1 : Int) = m1 := by rw [IntKind.wrap_i64]; omega
  have e2 : ((n1 : Int) == 0) = false := by rw [beq_eq_false_iff_ne]; omega
  have e2' : ¬ ((n1 : Int) = 0) := by omega
  have e3 : IntKind.u8.wrap (t : Int) = t := by rw [IntKind.wrap_u8]; omega
  have e4 : IntKind.i64.wrap (t : Int) = t := by rw [IntKind.wrap_i64]; omega
  have e5 : IntKind.i64.wrap ((64 : Int) - t) = (64 : Int) - t := by rw [IntKind.wrap_i64]; omega
  have e6 : (64 : Int) - (t : Int) = ((64 - t : Nat) : Int) := by omega
  have E6 := Lib.hid e6; clear e6
  have hk2 : (m1 : Int) % (n1 : Int) = (k : Int) := by rw [← hk, Int.tmod_eq_emod_of_nonneg (by omega)]
  have ht3 : (m2 : Int) % 64 = (t : Int) := by rw [← ht, Int.tmod_eq_emod_of_nonneg (by omega)]
  have hkl : k < ls.length ∨ k = ls.length := by omega
  have HN := Lib.hid hn1; clear hn1
  rcases hkl with hkl | hkl
  case inr =>
    have hkl2 : ¬ ((k : Int) < (ls.length : Int)) := by omega
    go_enter Try.func8, Try.ntmps8
    go_wp2_with (first
      | (go_at_call 14; refine (A1 _ h).mono ?_; rintro e w1 ⟨v1, rfl, ho1, hx1⟩; obtain ⟨q1, d1, rfl, hd, hd1⟩ := ho1.view.slice
         have hxa := hx1.trans (Ext.alloc w1 (.cells #[.slice none 0 0] 22))
         have hoa := ho1.keep (Ext.alloc w1 (.cells #[.slice none 0 0] 22))
         have hs1 : SRow 1 RB (fun k => w.heap.size ≤ k ∧ some k ≠ (Value.slice q1 ls.length d1).ownBlock) (w1.alloc (.cells #[.slice none 0 0] 22)) (.slice (some ⟨w1.heap.size, 0, none⟩) 1 1) [[]] := LV.lit1 fun w' _ => BV.nil w')
      | (at_builtin; refine st_items_old T.lists hoa hs1 ?_ (by simp [maxLen]; omega) (by simp; omega) hxa.size (by simp); intro v2 w2 ho2 hg2 hw2 s2
         have hx2 := hoa.grown hxa hg2
         have hsl : ∃ p2 d2, v2 = .slice p2 n1 d2 := by { obtain ⟨p2, d2, e, _, _⟩ := ho2.view.slice; exact ⟨p2, d2, by rw [e, HN.out]; simp⟩ }
         obtain ⟨p2, d2, rfl⟩ := hsl
         clear ho2 hw2 hg2)
      | (go_at_call 9; refine (awake_any _).mono ?_; rintro e w9 ⟨rfl, hx9⟩))
    go_ret
    exact ⟨rfl, hx2.trans hx9⟩
  go_enter Try.func8, Try.ntmps8
  go_wp2_with (first
    | (go_at_call 14; refine (A1 _ h).mono ?_; rintro e w1 ⟨v1, rfl, ho1, hx1⟩; obtain ⟨q1, d1, rfl, hd, hd1⟩ := ho1.view.slice
       have hxa := hx1.trans (Ext.alloc w1 (.cells #[.slice none 0 0] 22))
       have hoa := ho1.keep (Ext.alloc w1 (.cells #[.slice none 0 0] 22))
       have hs1 : SRow 1 RB (fun k => w.heap.size ≤ k ∧ some k ≠ (Value.slice q1 ls.length d1).ownBlock) (w1.alloc (.cells #[.slice none 0 0] 22)) (.slice (some ⟨w1.heap.size, 0, none⟩) 1 1) [[]] := LV.lit1 fun w' _ => BV.nil w')
    | (at_builtin; refine st_items_old T.lists hoa hs1 ?_ (by simp [maxLen]; omega) (by simp; omega) hxa.size (by simp); intro v2 w2 ho2 hg2 hw2 s2
       have hx2 := hoa.grown hxa hg2
       have hsl : ∃ p2 d2, v2 = .slice p2 n1 d2 := by { obtain ⟨p2, d2, e, _, _⟩ := ho2.view.slice; exact ⟨p2, d2, by rw [e, HN.out]; simp⟩ }
       obtain ⟨p2, d2, rfl⟩ := hsl
       clear ho2 hw2 hg2
       obtain ⟨b3, o3, u3, rfl, hc3, hu3⟩ := s2.row hkl
       have hz := f2 _ (List.getElem_mem hkl)
       generalize ls[k] = z at *
       have hz3 := hu3.now
       obtain ⟨p3, d3, rfl, hd3, hd3', _⟩ := id hz3
       rw [hz] at hz3 hc3 hd3
       have hcc := (Ext.alloc w2 (.cells #[] 5)).cell hc3
       have hbt := hz3.take (k := t) (c' := d3) (by omega) (by omega) (Nat.le_refl _)
       have hot := open_torn z hz t ht2
       have s4 : SRow 1 RB (fun _ => True) w2 (.slice (some ⟨b3, o3, none⟩) ls.length d1) ls := s2.mono fun _ _ _ => trivial)
    | ((with_reducible show wpList _ _ _ (Oper.mk _ (Op.slice _ _ _ _ _) _ _ _ _ :: _) _ _); refine st_sliceTo T.bytes t d3 ?_)
    | (at_builtin; refine st_append T.bytes (FB.lit0 w2 (Nat.le_refl _)) (hbt.ext (Ext.alloc _ _)) ?_ (by simp; omega) (by simp); intro v3 w3 hf3 hg3 _; have hx3 := (Ext.alloc w2 _).append (FB.lit0 w2 (Nat.le_refl _)) hg3; rw [List.nil_append] at hf3)
    | (at_builtin; refine st_zeros T.bytes T.int (64 - t) hf3 ?_ (by simp; omega) hx3.size (by exact congrArg (Value.int .i64) E6.out); intro v4 w4 hf4 hg4 _; have hx4 := hx3.append hf3 hg4
       generalize z.take t ++ List.replicate (64 - t) 0 = torn at *
       obtain ⟨p4, d4, rfl, hd4, hd4', _⟩ := hf4.slice
       have hj := f3 k torn hkl (by rw [hot]; decide)
       have s5 : SRow 1 RB (fun k => True ∧ some k ≠ (Value.slice (some ⟨w4.heap.size, 0, none⟩) 0 0).ownBlock) (w4.alloc (.cells #[] 22)) (.slice (some ⟨b3, o3, none⟩) k d1) (ls.take k) := (((s4.ext hx4).mono fun k hk _ => ⟨trivial, fun e => by cases e; exact Nat.lt_irrefl _ hk⟩).ext (Ext.alloc _ _)).take (by omega) (by omega) (Nat.le_refl _)
       have s9 : SRow 1 RB (fun k => k < w4.heap.size) w4 (.slice (cutA 1 (some ⟨b3, o3, none⟩) d1 (k + 1)) (ls.length - (k + 1)) (d1 - (k + 1))) (ls.drop (k + 1)) := ((s4.ext hx4).mono fun k hk _ => hk).drop (by omega)
       have h9 : Under (fun k => k < w4.heap.size) (fun w' => BV w' (.slice p4 torn.length d4) torn) w4 := hf4.far_under fun k _ hk => hk)
    | ((with_reducible show wpList _ _ _ (Oper.mk _ (Op.slice _ _ _ _ _) _ _ _ _ :: _) _ _); refine st_sliceTo T.lists k d1 ?_)
    | (at_builtin; refine st_items T.lists (ORow.lit0 (fun _ => True) w4 (Nat.le_refl _)) s5 ?_ (by simp [maxLen]; omega) (by simp; omega) (by simp); intro v5 w5 ho5 hg5 hw5; rw [List.nil_append] at ho5; have hx5 := (ORow.lit0 (α := List UInt8) (sz := 1) (R := RB) (fun _ => True) w4 (Nat.le_refl _)).grown (Ext.alloc _ _) hg5
       have ho5a := ho5.keep (Ext.alloc w5 (.cells #[.slice p4 torn.length d4] 22))
       have hx5a := hx5.trans (Ext.alloc w5 (.cells #[.slice p4 torn.length d4] 22))
       have s6 : SRow 1 RB (fun k => True ∧ some k ≠ v5.ownBlock) (w5.alloc (.cells #[.slice p4 torn.length d4] 22)) (.slice (some ⟨w5.heap.size, 0, none⟩) 1 1) [torn] := LV.lit1 ((h9.step (hx5.keeps _)).mono fun k _ hk => ⟨trivial, fun e => by have := (ho5.own k e.symm).1; omega⟩))
    | (at_builtin; refine st_items T.lists ho5a s6 ?_ (by simp [maxLen]; omega) (by simp; omega) hx5a.size; intro v6 w6 ho6 hg6 hw6; have hx6 := ho5a.grown hx5a hg6
       have s10 : SRow 1 RB (fun k => True ∧ some k ≠ v6.ownBlock) w6 (.slice (cutA 1 (some ⟨b3, o3, none⟩) d1 (k + 1)) (ls.length - (k + 1)) (d1 - (k + 1))) (ls.drop (k + 1)) := (s9.ext hx6).mono fun k _ hk => ⟨trivial, fun e => by have := (ho6.own k e.symm).1; omega⟩)
    | ((with_reducible show wpList _ _ _ (Oper.mk _ (Op.slice _ _ _ _ _) _ _ _ _ :: _) _ _); refine st_slice T.lists (k + 1) ls.length d1 ?_)
    | (at_builtin; refine st_items T.lists ho6 s10 ?_ (by simp [maxLen]; omega) (by simp; omega) hx6.size; intro v7 w7 ho7 hg7 hw7; have hx7 := ho6.grown hx6 hg7
       have J1 := bjoin_any v7 _ w7 (ho7.view.mono fun _ _ _ => trivial) (by simp; omega)
       rw [hj] at J1))
  have hx27 := hx4.trans hx7
  by_cases hk0 : k = 0
  · rw [if_pos hk0] at J1
    have hb0 : ((k : Int) == 0) = true := by simp [hk0]
    refine J1.mono ?_
    rintro e w8 ⟨v8, rfl, hf8, hx8⟩
    clear hot hj f3 s2 s4 s5 s6 s9 s10 h9 hu3 hs1 J1 hk hk2
    go_wp2_with (go_at_call 9; refine (awake_any _).mono ?_; rintro e w9 ⟨rfl, hx9⟩)
    go_ret
    exact ⟨rfl, ((hx2.trans hx27).trans hx8).trans hx9⟩
  · rw [if_neg hk0] at J1
    dsimp only at J1
    have hb0 : ((k : Int) == 0) = false := by rw [beq_eq_false_iff_ne]; omega
    have hmul : IntKind.i64.wrap ((k : Int) * 61) = (k : Int) * 61 := by rw [IntKind.wrap_i64]; omega
    obtain ⟨m, hH⟩ : ∃ m, m = min l.length (k * 61) := ⟨_, rfl⟩
    have hmin : min (l.length : Int) ((k : Int) * 61) = (m : Int) := by omega
    have hHl : m ≤ l.length := by omega
    rw [← hH] at J1
    have hlt := h.take (k := m) (c' := c1) hHl (by omega) (Nat.le_refl _)
    refine J1.mono ?_
    rintro e w8 ⟨v8, rfl, hf8, hx8⟩
    clear hot hj f3 s2 s4 s5 s6 s9 s10 h9 hu3 hs1 J1 hk hk2
    have hxx := (hx2.trans hx27).trans hx8
    have b8 := hf8.view
    have bl := hlt.ext hxx
    go_wp2_with fail
    apply wp_region_dag (X := Ext) (by kernel_rfl) (by kernel_rfl) (fun _ _ _ => Ext.trans) (Ext.drew1 _)
    apply dag_val Ext.refl rfl (by intro W hW H; go_simp <;> rfl)
    simp only [Act.put, List.setIfInBounds_toArray, List.set_cons_zero, List.set_cons_succ]
    apply dag_val Ext.refl rfl (by intro W hW H; go_simp <;> rfl)
    simp only [Act.put, List.setIfInBounds_toArray, List.set_cons_zero, List.set_cons_succ]
    apply dag_val Ext.refl rfl (by intro W hW H; go_simp <;> rfl)
    simp only [Act.put, List.setIfInBounds_toArray, List.set_cons_zero, List.set_cons_succ]
    apply dag_val Ext.refl rfl (by intro W hW H; go_simp <;> rfl)
    simp only [Act.put, List.setIfInBounds_toArray, List.set_cons_zero, List.set_cons_succ]
    apply dag_val Ext.refl rfl (by intro W hW H; go_simp <;> rfl)
    simp only [Act.put, List.setIfInBounds_toArray, List.set_cons_zero, List.set_cons_succ]
    apply dag_val Ext.refl rfl (by intro W hW H; go_simp <;> rfl)
    simp only [Act.put, List.setIfInBounds_toArray, List.set_cons_zero, List.set_cons_succ]
    apply dag_val Ext.refl rfl (by intro W hW H; go_simp <;> rfl)
    simp only [Act.put, List.setIfInBounds_toArray, List.set_cons_zero, List.set_cons_succ]
    apply dag_val Ext.refl rfl (by intro W hW H; go_simp <;> rfl)
    simp only [Act.put, List.setIfInBounds_toArray, List.set_cons_zero, List.set_cons_succ]
    apply dag_val Ext.refl rfl (by intro W hW H; go_simp <;> rfl)
    simp only [Act.put, List.setIfInBounds_toArray, List.set_cons_zero, List.set_cons_succ]
    refine' dag_val Ext.refl rfl (fun W hW H => run_op_bytes_string T.bytes T.u8 T.str rfl rfl (v := v8) (l := l.take m) (by exact b8.ext hW)) _
    rotate_left
    simp only [Act.put, List.setIfInBounds_toArray, List.set_cons_zero, List.set_cons_succ]
    apply dag_val Ext.refl rfl (by intro W hW H; go_simp <;> rfl)
    simp only [Act.put, List.setIfInBounds_toArray, List.set_cons_zero, List.set_cons_succ]
    apply dag_val Ext.refl rfl (by intro W hW H; go_simp <;> rfl)
    simp only [Act.put, List.setIfInBounds_toArray, List.set_cons_zero, List.set_cons_succ]
    apply dag_val Ext.refl rfl (by intro W hW H; go_simp <;> rfl)
    simp only [Act.put, List.setIfInBounds_toArray, List.set_cons_zero, List.set_cons_succ]
    apply dag_val Ext.refl rfl (by intro W hW H; go_simp <;> rfl)
    simp only [Act.put, List.setIfInBounds_toArray, List.set_cons_zero, List.set_cons_succ]
    apply dag_val Ext.refl rfl (by intro W hW H; go_simp <;> rfl)
    simp only [Act.put, List.setIfInBounds_toArray, List.set_cons_zero, List.set_cons_succ]
    refine' dag_val Ext.refl rfl (fun W hW H => (run_min (i := (l.length : Int)) (j := (k : Int) * 61) (k := .i64) rfl rfl rfl W).trans (congrArg (fun x => Result.ok (Next.value (Value.int .i64 x)) W) hmin)) _
    rotate_left
    simp only [Act.put, List.setIfInBounds_toArray, List.set_cons_zero, List.set_cons_succ]
    refine' dag_val Ext.refl rfl (fun W hW H => run_sliceTo T.bytes rfl rfl W m c1) _
    rotate_left
    simp only [Act.put, List.setIfInBounds_toArray, List.set_cons_zero, List.set_cons_succ]
    refine' dag_val Ext.refl rfl (fun W hW H => run_op_bytes_string T.bytes T.u8 T.str rfl rfl (v := .slice p1 m c1) (l := l.take m) (by exact bl.ext hW)) _
    rotate_left
    simp only [Act.put, List.setIfInBounds_toArray, List.set_cons_zero, List.set_cons_succ]
    apply dag_val Ext.refl rfl (by intro W hW H; go_simp <;> rfl)
    simp only [Act.put, List.setIfInBounds_toArray, List.set_cons_zero, List.set_cons_succ]
    apply dag_val Ext.refl rfl (by intro W hW H; go_simp <;> rfl)
    simp only [Act.put, List.setIfInBounds_toArray, List.set_cons_zero, List.set_cons_succ]
    apply dag_val Ext.refl rfl (by intro W hW H; go_simp <;> rfl)
    simp only [Act.put, List.setIfInBounds_toArray, List.set_cons_zero, List.set_cons_succ]
    refine' dag_call rfl (by intro W; go_simp <;> rfl) (fun W hW H => awake_any W) _
    rotate_left
    simp only [Act.put, List.setIfInBounds_toArray, List.set_cons_zero, List.set_cons_succ]
    apply dag_val Ext.refl rfl (by intro W hW H; go_simp <;> rfl)
    simp only [Act.put, List.setIfInBounds_toArray, List.set_cons_zero, List.set_cons_succ]
    apply dag_val Ext.refl rfl (by intro W hW H; go_simp <;> rfl)
    simp only [Act.put, List.setIfInBounds_toArray, List.set_cons_zero, List.set_cons_succ]
    refine dag_end fun W hW H => ?_
    go_wp2_with fail
    go_ret
    exact ⟨rfl, hxx.trans hW⟩
end Go.Proofs.Ytppeeameoilmoaa
