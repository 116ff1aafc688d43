/- What the program's and the document's functions of layer 32 compute: sealing and opening. -/
import Derived.Test.YtjhobppgpglndaaPkR
import Derived.Test.YtjhobppgpglndaaUnpR
namespace Go.Proofs.Ytjhobppgpglndaa
open Go.RowKit

theorem packGo_length (b : List UInt8) : ∀ (f c : Nat) (run : List UInt8), c + f = b.length → (packGo b f c run).length ≤ 2 * (run.length + f)
  | 0, c, run, h => by have := flushB_two run; simp only [packGo]; omega
  | f + 1, c, run, h => by
    have ih := packGo_length b f (c + 1)
    have h1 := flushB_two run
    have h2 := flushB_two (run ++ [b.getD c 0])
    have h3 : (run ++ [b.getD c 0]).length = run.length + 1 := by simp
    simp only [packGo]
    rw [if_pos (by omega)]
    split
    · split
      · have := ih [] (by omega)
        simp only [List.length_append, List.length_nil] at *
        omega
      · have := ih (run ++ [b.getD c 0]) (by omega)
        omega
    · rename_i hm
      rcases matchB_is b c with h0 | ⟨_, m1, m2, m3, m4, m5, m6, m7⟩
      · rw [h0] at hm; exact absurd rfl hm
      have e : packGo b f (c + (matchB b c).1) [] = packGo b (b.length - (c + (matchB b c).1)) (c + (matchB b c).1) [] := packGo_fuel b _ _ _ _ (by omega) (by omega)
      have := packGo_length b (b.length - (c + (matchB b c).1)) (c + (matchB b c).1) [] (by omega)
      rw [e]
      simp only [List.length_append, List.length_cons, List.length_nil] at *
      omega
termination_by f => f
decreasing_by all_goals omega
theorem packB_length (b : List UInt8) : (packB b).length ≤ 2 * b.length := by
  have := packGo_length b b.length 0 [] (by omega)
  simpa [packB] using this

set_option maxHeartbeats 1000000 in
theorem pseal_any (v : Value) (l : List UInt8) (w : World) (h : BV w v l) (hl : l.length ≤ 100000) :
    Calls Try.prog 12 #[v] w fun e w' => ∃ v', e = .returned v' ∧ FB w' w.heap.size v' (sealP l) ∧ Ext w w' := by
  obtain ⟨p, cp, rfl, hn, hcp, _⟩ := id h
  have P1 := pack_any (.slice p l.length cp) l w h hl
  have hpl := packB_length l
  obtain ⟨pl, hpe⟩ : ∃ pl, packB l = pl := ⟨_, rfl⟩
  unfold sealP
  rw [hpe] at P1 hpl ⊢
  clear hpe
  by_cases hlt : pl.length < l.length
  · rw [if_pos hlt]
    go_enter Try.func12, Try.ntmps12
    go_wp2_with (first
      | (at_builtin; refine st_append T.bytes (FB.lit1 w1 hx1.size 1) (hf1.view.ext (Ext.alloc _ _)) ?_ (by simp; omega) (by have := hx1.size; simp; omega); intro v2 w2 hf2 hg2 hw2; have hx2 := (hx1.trans (Ext.alloc _ _)).append (FB.lit1 w1 hx1.size 1) hg2)
      | (go_at_call 10; refine P1.mono ?_; rintro e w1 ⟨v1, rfl, hf1, hx1⟩; obtain ⟨p1, c1, rfl, _, _, _⟩ := hf1.slice))
    go_ret
    exact ⟨_, rfl, hf2, hx2⟩
  · rw [if_neg hlt]
    go_enter Try.func12, Try.ntmps12
    go_wp2_with (first
      | (at_builtin; refine st_append T.bytes (FB.lit1 w1 hx1.size 0) ((h.ext hx1).ext (Ext.alloc _ _)) ?_ (by simp; omega) (by have := hx1.size; simp; omega); intro v2 w2 hf2 hg2 hw2; have hx2 := (hx1.trans (Ext.alloc _ _)).append (FB.lit1 w1 hx1.size 0) hg2)
      | (go_at_call 10; refine P1.mono ?_; rintro e w1 ⟨v1, rfl, hf1, hx1⟩; obtain ⟨p1, c1, rfl, _, _, _⟩ := hf1.slice))
    go_ret
    exact ⟨_, rfl, hf2, hx2⟩
set_option maxHeartbeats 1000000 in
theorem rpseal_any (v : Value) (l : List UInt8) (w : World) (h : BV w v l) (hl : l.length ≤ 100000) :
    Calls Try.prog 13 #[v] w fun e w' => ∃ v', e = .returned v' ∧ FB w' w.heap.size v' (sealP l) ∧ Ext w w' := by
  obtain ⟨p, cp, rfl, hn, hcp, _⟩ := id h
  have P1 := rpack_any (.slice p l.length cp) l w h hl
  have hpl := packB_length l
  obtain ⟨pl, hpe⟩ : ∃ pl, packB l = pl := ⟨_, rfl⟩
  unfold sealP
  rw [hpe] at P1 hpl ⊢
  clear hpe
  by_cases hlt : pl.length < l.length
  · rw [if_pos hlt]
    go_enter Try.func13, Try.ntmps13
    go_wp2_with (first
      | (at_builtin; refine st_append T.bytes (FB.lit1 w1 hx1.size 1) (hf1.view.ext (Ext.alloc _ _)) ?_ (by simp; omega) (by have := hx1.size; simp; omega); intro v2 w2 hf2 hg2 hw2; have hx2 := (hx1.trans (Ext.alloc _ _)).append (FB.lit1 w1 hx1.size 1) hg2)
      | (go_at_call 11; refine P1.mono ?_; rintro e w1 ⟨v1, rfl, hf1, hx1⟩; obtain ⟨p1, c1, rfl, _, _, _⟩ := hf1.slice))
    go_ret
    exact ⟨_, rfl, hf2, hx2⟩
  · rw [if_neg hlt]
    go_enter Try.func13, Try.ntmps13
    go_wp2_with (first
      | (at_builtin; refine st_append T.bytes (FB.lit1 w1 hx1.size 0) ((h.ext hx1).ext (Ext.alloc _ _)) ?_ (by simp; omega) (by have := hx1.size; simp; omega); intro v2 w2 hf2 hg2 hw2; have hx2 := (hx1.trans (Ext.alloc _ _)).append (FB.lit1 w1 hx1.size 0) hg2)
      | (go_at_call 11; refine P1.mono ?_; rintro e w1 ⟨v1, rfl, hf1, hx1⟩; obtain ⟨p1, c1, rfl, _, _, _⟩ := hf1.slice))
    go_ret
    exact ⟨_, rfl, hf2, hx2⟩

theorem openP_cons (c : UInt8) (r : List UInt8) : openP (c :: r) = if 2 ≤ c.toNat then ⟨[], 4⟩ else if c.toNat = 0 then ⟨r, 0⟩ else unpB r 65536 := rfl
set_option maxHeartbeats 1000000 in
theorem popen_any (v : Value) (l : List UInt8) (w : World) (h : BV w v l) (hl : l.length ≤ 100000) :
    Calls Try.prog 16 #[v] w fun e w' => ∃ v', e = .returned (.tuple #[v', .int .i64 (openP l).err]) ∧ FB w' w.heap.size v' (openP l).out ∧ Ext w w' := by
  obtain ⟨p, cp, rfl, hn, hcp, hs⟩ := id h
  cases l with
  | nil =>
    go_enter Try.func16, Try.ntmps16
    go_wp2_with fail
    go_ret2
    exact ⟨.slice none 0 0, rfl, FB.nil _ _, Ext.refl _⟩
  | cons c r =>
  obtain ⟨b, o, rfl, hcell⟩ := hs.at (k := 0) (u := bv c) rfl
  rw [Nat.add_zero] at hcell
  have hc256 : c.toNat < 256 := c.toNat_lt
  have htl := h.drop (k := 1) (by simp)
  rw [List.drop_succ_cons, List.drop_zero] at htl
  have hlen : (c :: r).length = r.length + 1 := rfl
  rw [hlen] at hl hn h htl
  clear hs
  rw [openP_cons, hlen]
  by_cases h2 : 2 ≤ c.toNat
  · rw [if_pos h2]
    go_enter Try.func16, Try.ntmps16
    go_wp2_with fail
    go_ret2
    exact ⟨.slice none 0 0, rfl, FB.nil _ _, Ext.refl _⟩
  rw [if_neg h2]
  by_cases h0 : c.toNat = 0
  · rw [if_pos h0]
    have hz : ((c.toNat : Int) == 0) = true := by rw [beq_iff_eq]; omega
    have h3 : ¬ (2 : Int) ≤ (c.toNat : Int) := by omega
    clear h0 h2
    go_enter Try.func16, Try.ntmps16
    go_wp2_with (first
      | ((with_reducible show wpList _ _ _ (Oper.mk _ (Op.slice _ _ _ _ _) _ _ _ _ :: _) _ _); refine st_slice T.bytes 1 (r.length + 1) cp ?_)
      | (go_at_call 25; refine (clone_any _ _ _ htl (by omega)).mono ?_; rintro e w1 ⟨v1, rfl, hf1, hx1⟩))
    go_ret2
    exact ⟨_, rfl, hf1, hx1⟩
  · rw [if_neg h0]
    have hz : ((c.toNat : Int) == 0) = false := by rw [beq_eq_false_iff_ne]; omega
    have h3 : ¬ (2 : Int) ≤ (c.toNat : Int) := by omega
    have U1 := fun v w h => unpack_any v r 65536 w h (by omega) (by omega)
    rw [show (65536 : Int).toNat = 65536 from rfl] at U1
    clear h0 h2
    go_enter Try.func16, Try.ntmps16
    go_wp2_with (first
      | ((with_reducible show wpList _ _ _ (Oper.mk _ (Op.slice _ _ _ _ _) _ _ _ _ :: _) _ _); refine st_slice T.bytes 1 (r.length + 1) cp ?_)
      | (go_at_call 14; refine (U1 _ _ htl).mono ?_; rintro e w1 ⟨v1, rfl, hf1, hx1⟩))
    go_ret2
    exact ⟨v1, rfl, hf1, hx1⟩

set_option maxHeartbeats 1000000 in
theorem rpopen_any (v : Value) (l : List UInt8) (w : World) (h : BV w v l) (hl : l.length ≤ 100000) :
    Calls Try.prog 17 #[v] w fun e w' => ∃ v', e = .returned (.tuple #[v', .int .i64 (openP l).err]) ∧ FB w' w.heap.size v' (openP l).out ∧ Ext w w' := by
  obtain ⟨p, cp, rfl, hn, hcp, hs⟩ := id h
  cases l with
  | nil =>
    go_enter Try.func17, Try.ntmps17
    go_wp2_with fail
    go_ret2
    exact ⟨.slice none 0 0, rfl, FB.nil _ _, Ext.refl _⟩
  | cons c r =>
  obtain ⟨b, o, rfl, hcell⟩ := hs.at (k := 0) (u := bv c) rfl
  rw [Nat.add_zero] at hcell
  have hc256 : c.toNat < 256 := c.toNat_lt
  have htl := h.drop (k := 1) (by simp)
  rw [List.drop_succ_cons, List.drop_zero] at htl
  have hlen : (c :: r).length = r.length + 1 := rfl
  rw [hlen] at hl hn h htl
  clear hs
  rw [openP_cons, hlen]
  by_cases h2 : 2 ≤ c.toNat
  · rw [if_pos h2]
    go_enter Try.func17, Try.ntmps17
    go_wp2_with fail
    go_ret2
    exact ⟨.slice none 0 0, rfl, FB.nil _ _, Ext.refl _⟩
  rw [if_neg h2]
  by_cases h0 : c.toNat = 0
  · rw [if_pos h0]
    have hz : ((c.toNat : Int) == 0) = true := by rw [beq_iff_eq]; omega
    have h3 : ¬ (2 : Int) ≤ (c.toNat : Int) := by omega
    clear h0 h2
    go_enter Try.func17, Try.ntmps17
    go_wp2_with (first
      | ((with_reducible show wpList _ _ _ (Oper.mk _ (Op.slice _ _ _ _ _) _ _ _ _ :: _) _ _); refine st_slice T.bytes 1 (r.length + 1) cp ?_)
      | (at_builtin; refine st_append T.bytes (FB.lit0 w (Nat.le_refl _)) (htl.ext (Ext.alloc _ _)) ?_ (by simp; omega) (by simp); intro v1 w1 hf1 hg1 hw1; have hx1 := (Ext.alloc w (.cells #[] 5)).append (FB.lit0 w (Nat.le_refl _)) hg1; rw [List.nil_append] at hf1))
    go_ret2
    exact ⟨_, rfl, hf1, hx1⟩
  · rw [if_neg h0]
    have hz : ((c.toNat : Int) == 0) = false := by rw [beq_eq_false_iff_ne]; omega
    have h3 : ¬ (2 : Int) ≤ (c.toNat : Int) := by omega
    have U1 := fun v w h => runpack_any v r 65536 w h (by omega) (by omega)
    rw [show (65536 : Int).toNat = 65536 from rfl] at U1
    clear h0 h2
    go_enter Try.func17, Try.ntmps17
    go_wp2_with (first
      | ((with_reducible show wpList _ _ _ (Oper.mk _ (Op.slice _ _ _ _ _) _ _ _ _ :: _) _ _); refine st_slice T.bytes 1 (r.length + 1) cp ?_)
      | (go_at_call 15; refine (U1 _ _ htl).mono ?_; rintro e w1 ⟨v1, rfl, hf1, hx1⟩))
    go_ret2
    exact ⟨v1, rfl, hf1, hx1⟩
end Go.Proofs.Ytjhobppgpglndaa
