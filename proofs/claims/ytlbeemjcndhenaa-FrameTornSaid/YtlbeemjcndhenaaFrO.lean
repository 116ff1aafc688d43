/- What the program's and the document's functions of layer 7 compute: the body that blocks begin with. -/
import Derived.Test.YtlbeemjcndhenaaFrW
namespace Go.Proofs.Ytlbeemjcndhenaa
open Go.RowKit

theorem mul256_left (n : Nat) : IntKind.u64.wrap (256 * un (BitVec.ofNat 64 n)) = un (BitVec.ofNat 64 (n * 256)) := by
  unfold un
  rw [IntKind.wrap_u64, BitVec.toNat_ofNat, BitVec.toNat_ofNat]
  omega
theorem add_byte (n : Nat) (x : UInt8) : IntKind.u64.wrap (un (BitVec.ofNat 64 (n * 256)) + (x.toNat : Int)) = un (BitVec.ofNat 64 (n * 256 + x.toNat)) := by
  unfold un
  rw [IntKind.wrap_u64, BitVec.toNat_ofNat, BitVec.toNat_ofNat]
  omega
set_option maxHeartbeats 1000000 in
theorem runfixed_any (v : Value) (l : List UInt8) (w : World) (h : BV w v l) (hl : l.length ≤ 8) :
    Calls Try.prog 34 #[v] w fun e w' => e = .returned (uv (unfixed l)) ∧ w = w' := by
  obtain ⟨p, c, rfl, hn, hc, hs⟩ := h
  have hmax : max (0 : Int) ((l.length : Int) - 8) = 0 := by omega
  have hw : IntKind.i64.wrap ((l.length : Int) - 8) = (l.length : Int) - 8 := by rw [IntKind.wrap_i64]; omega
  go_enter Try.func34, Try.ntmps34
  go_wp2_with ((with_reducible show wpList _ _ _ (Oper.mk _ (Op.call { callee := Callee.builtin Builtin.max, args := _, argTypes := _ }) _ _ _ _ :: _) _ _); refine wpList_run rfl (run_max rfl rfl rfl _) ?_; rw [hmax])
  go_loopg [3, 4] l.length (fun k s3 s4 wr => ∃ i : Nat, s4 = .int .i64 i ∧ i ≤ l.length ∧ k = l.length - i ∧ s3 = uv (BitVec.ofNat 64 (valL (l.take i))) ∧ wr = w)
  case atStart => exact ⟨0, rfl, by omega, rfl, rfl, rfl⟩
  case round =>
    obtain ⟨i, rfl, hi, hk, rfl, rfl⟩ := hrel
    by_cases hlt : i < l.length
    · obtain ⟨b, o, rfl, hcell⟩ := hs.at (bs_get l hlt)
      have HS := Lib.hid (valL_take l hlt)
      generalize l[i] = x at *
      obtain ⟨v1, hv1⟩ : ∃ v1, valL (l.take (i + 1)) = v1 := ⟨_, rfl⟩
      rw [hv1] at HS
      have HV := Lib.hid hv1; clear hv1
      have hx256 : x.toNat < 256 := x.toNat_lt
      have h1 := mul256_left (valL (l.take i))
      have h2 := add_byte (valL (l.take i)) x
      rw [← HS.out] at h2
      clear HS
      go_wp2_with fail
      go_roundg (l.length - (i + 1))
      case measure => omega
      case rel => exact ⟨i + 1, by go_num, hlt, rfl, by rw [HV.out], rfl⟩
    · obtain rfl : i = l.length := by omega
      go_wp2_with fail
      go_ret
      rw [List.take_of_length_le (Nat.le_refl _)]
      exact ⟨rfl, rfl⟩

set_option maxHeartbeats 1000000 in
theorem fone_any (v : Value) (ls : List (List UInt8)) (w : World) (h : LV w v ls) (hl : ls.length ≤ 1000) :
    Calls Try.prog 14 #[v] w fun e w' => ∃ v', e = .returned (.tuple #[v', .int .i64 (oneB ls).n, .int .i64 (oneB ls).err]) ∧ FB w' w.heap.size v' (oneB ls).body ∧ Ext w w' := by
  have J1 := bjoin_any v ls w h (by omega)
  have hbl := (joinB_body ls).1
  have hnl := (joinB_body ls).2.1
  unfold oneB
  generalize joinB ls = j at *
  obtain ⟨jb, jn, je⟩ := j
  dsimp only at *
  by_cases he : je ≠ 0
  · rw [if_pos he]
    have hz : (je != 0) = true := by simp [he]
    go_enter Try.func14, Try.ntmps14
    go_wp2_with (go_at_call 30; refine J1.mono ?_; rintro e w1 ⟨v1, rfl, hf1, hx1⟩)
    go_ret3
    exact ⟨.slice none 0 0, rfl, FB.nil _ _, hx1⟩
  rw [if_neg he]
  have he0 : je = 0 := Classical.byContradiction fun e => he e
  subst he0
  by_cases h12 : jb.length < 12
  · rw [if_pos (.inl h12)]
    go_enter Try.func14, Try.ntmps14
    go_wp2_with (go_at_call 30; refine J1.mono ?_; rintro e w1 ⟨v1, rfl, hf1, hx1⟩; obtain ⟨p1, c1, rfl, _, _, _⟩ := hf1.slice)
    go_ret3
    exact ⟨.slice none 0 0, rfl, FB.nil _ _, hx1⟩
  have hw1 : IntKind.i64.wrap ((jb.length : Int) - 12) = (jb.length : Int) - 12 := by rw [IntKind.wrap_i64]; omega
  have hw2 : IntKind.u64.wrap ((jb.length : Int) - 12) = (jb.length : Int) - 12 := by rw [IntKind.wrap_u64]; omega
  obtain ⟨nb, hnb⟩ : ∃ nb, unfixed (jb.take 4) = nb := ⟨_, rfl⟩
  rw [hnb]
  by_cases hne : (jb.length : Int) - 12 ≠ un nb
  · rw [if_pos (.inr hne)]
    have hz : ((jb.length : Int) - 12 != un nb) = true := by simp [hne]
    have HN := Lib.hid hnb; clear hnb hne
    go_enter Try.func14, Try.ntmps14
    go_wp2_with (first
      | (go_at_call 30; refine J1.mono ?_; rintro e w1 ⟨v1, rfl, hf1, hx1⟩; obtain ⟨p1, c1, rfl, hc1, _, _⟩ := hf1.slice; have hb4 := hf1.view.take (k := 4) (c' := c1) (by omega) (by omega) (Nat.le_refl _))
      | ((with_reducible show wpList _ _ _ (Oper.mk _ (Op.slice _ _ _ _ _) _ _ _ _ :: _) _ _); refine st_sliceTo T.bytes 4 c1 ?_)
      | (go_at_call 31; refine (unfixed_any _ (jb.take 4) _ hb4).mono ?_; rw [HN.out]; rintro e w' ⟨rfl, rfl⟩))
    go_ret3
    exact ⟨.slice none 0 0, rfl, FB.nil _ _, hx1⟩
  rw [if_neg (by omega)]
  have hz : ((jb.length : Int) - 12 != un nb) = false := by
    cases hq : ((jb.length : Int) - 12 != un nb) with
    | false => rfl
    | true => exact absurd (bne_iff_ne.1 hq) hne
  have HN := Lib.hid hnb; clear hnb hne
  have O1 := fun v w h => open_any v (jb.drop 4) w h (by rw [List.length_drop]; omega)
  generalize openL (jb.drop 4) = o at *
  obtain ⟨ob, oe⟩ := o
  dsimp only at *
  by_cases hoe : oe ≠ 0
  · rw [if_pos hoe]
    have hz2 : (oe != 0) = true := by simp [hoe]
    clear hoe
    go_enter Try.func14, Try.ntmps14
    go_wp2_with (first
      | (go_at_call 30; refine J1.mono ?_; rintro e w1 ⟨v1, rfl, hf1, hx1⟩; obtain ⟨p1, c1, rfl, hc1, _, _⟩ := hf1.slice; have hb4 := hf1.view.take (k := 4) (c' := c1) (by omega) (by omega) (Nat.le_refl _); have hd4 := hf1.view.drop (k := 4) (by omega))
      | ((with_reducible show wpList _ _ _ (Oper.mk _ (Op.slice _ _ _ _ _) _ _ _ _ :: _) _ _); refine st_sliceTo T.bytes 4 c1 ?_)
      | ((with_reducible show wpList _ _ _ (Oper.mk _ (Op.slice _ _ _ _ _) _ _ _ _ :: _) _ _); refine st_slice T.bytes 4 jb.length c1 ?_)
      | (go_at_call 31; refine (unfixed_any _ (jb.take 4) _ hb4).mono ?_; rw [HN.out]; rintro e w' ⟨rfl, rfl⟩)
      | (go_at_call 32; refine (O1 _ _ hd4).mono ?_; rintro e w2 ⟨v2, rfl, hf2, hx2⟩))
    go_ret3
    exact ⟨.slice none 0 0, rfl, FB.nil _ _, hx1.trans hx2⟩
  · rw [if_neg hoe]
    have hoe0 : oe = 0 := Classical.byContradiction fun e => hoe e
    subst hoe0
    clear hoe
    go_enter Try.func14, Try.ntmps14
    go_wp2_with (first
      | (go_at_call 30; refine J1.mono ?_; rintro e w1 ⟨v1, rfl, hf1, hx1⟩; obtain ⟨p1, c1, rfl, hc1, _, _⟩ := hf1.slice; have hb4 := hf1.view.take (k := 4) (c' := c1) (by omega) (by omega) (Nat.le_refl _); have hd4 := hf1.view.drop (k := 4) (by omega))
      | ((with_reducible show wpList _ _ _ (Oper.mk _ (Op.slice _ _ _ _ _) _ _ _ _ :: _) _ _); refine st_sliceTo T.bytes 4 c1 ?_)
      | ((with_reducible show wpList _ _ _ (Oper.mk _ (Op.slice _ _ _ _ _) _ _ _ _ :: _) _ _); refine st_slice T.bytes 4 jb.length c1 ?_)
      | (go_at_call 31; refine (unfixed_any _ (jb.take 4) _ hb4).mono ?_; rw [HN.out]; rintro e w' ⟨rfl, rfl⟩)
      | (go_at_call 32; refine (O1 _ _ hd4).mono ?_; rintro e w2 ⟨v2, rfl, hf2, hx2⟩))
    go_ret3
    exact ⟨v2, rfl, hf2.base hx1.size, hx1.trans hx2⟩

set_option maxHeartbeats 1000000 in
theorem rfone_any (v : Value) (ls : List (List UInt8)) (w : World) (h : LV w v ls) (hl : ls.length ≤ 1000) :
    Calls Try.prog 15 #[v] w fun e w' => ∃ v', e = .returned (.tuple #[v', .int .i64 (oneB ls).n, .int .i64 (oneB ls).err]) ∧ FB w' w.heap.size v' (oneB ls).body ∧ Ext w w' := by
  have J1 := rbjoin_any v ls w h (by omega)
  have hbl := (joinB_body ls).1
  have hnl := (joinB_body ls).2.1
  unfold oneB
  generalize joinB ls = j at *
  obtain ⟨jb, jn, je⟩ := j
  dsimp only at *
  by_cases he : je ≠ 0
  · rw [if_pos he]
    have hz : (je != 0) = true := by simp [he]
    go_enter Try.func15, Try.ntmps15
    go_wp2_with (go_at_call 33; refine J1.mono ?_; rintro e w1 ⟨v1, rfl, hf1, hx1⟩)
    go_ret3
    exact ⟨.slice none 0 0, rfl, FB.nil _ _, hx1⟩
  rw [if_neg he]
  have he0 : je = 0 := Classical.byContradiction fun e => he e
  subst he0
  by_cases h12 : jb.length < 12
  · rw [if_pos (.inl h12)]
    go_enter Try.func15, Try.ntmps15
    go_wp2_with (go_at_call 33; refine J1.mono ?_; rintro e w1 ⟨v1, rfl, hf1, hx1⟩; obtain ⟨p1, c1, rfl, _, _, _⟩ := hf1.slice)
    go_ret3
    exact ⟨.slice none 0 0, rfl, FB.nil _ _, hx1⟩
  have hw1 : IntKind.i64.wrap ((jb.length : Int) - 12) = (jb.length : Int) - 12 := by rw [IntKind.wrap_i64]; omega
  have hw2 : IntKind.u64.wrap ((jb.length : Int) - 12) = (jb.length : Int) - 12 := by rw [IntKind.wrap_u64]; omega
  obtain ⟨nb, hnb⟩ : ∃ nb, unfixed (jb.take 4) = nb := ⟨_, rfl⟩
  rw [hnb]
  by_cases hne : (jb.length : Int) - 12 ≠ un nb
  · rw [if_pos (.inr hne)]
    have hz : ((jb.length : Int) - 12 != un nb) = true := by simp [hne]
    have HN := Lib.hid hnb; clear hnb hne
    go_enter Try.func15, Try.ntmps15
    go_wp2_with (first
      | (go_at_call 33; refine J1.mono ?_; rintro e w1 ⟨v1, rfl, hf1, hx1⟩; obtain ⟨p1, c1, rfl, hc1, _, _⟩ := hf1.slice; have hb4 := hf1.view.take (k := 4) (c' := c1) (by omega) (by omega) (Nat.le_refl _))
      | ((with_reducible show wpList _ _ _ (Oper.mk _ (Op.slice _ _ _ _ _) _ _ _ _ :: _) _ _); refine st_sliceTo T.bytes 4 c1 ?_)
      | (go_at_call 34; refine (runfixed_any _ (jb.take 4) _ hb4 (by rw [List.length_take]; omega)).mono ?_; rw [HN.out]; rintro e w' ⟨rfl, rfl⟩))
    go_ret3
    exact ⟨.slice none 0 0, rfl, FB.nil _ _, hx1⟩
  rw [if_neg (by omega)]
  have hz : ((jb.length : Int) - 12 != un nb) = false := by
    cases hq : ((jb.length : Int) - 12 != un nb) with
    | false => rfl
    | true => exact absurd (bne_iff_ne.1 hq) hne
  have HN := Lib.hid hnb; clear hnb hne
  have O1 := fun v w h => ropen_any v (jb.drop 4) w h (by rw [List.length_drop]; omega)
  generalize openL (jb.drop 4) = o at *
  obtain ⟨ob, oe⟩ := o
  dsimp only at *
  by_cases hoe : oe ≠ 0
  · rw [if_pos hoe]
    have hz2 : (oe != 0) = true := by simp [hoe]
    clear hoe
    go_enter Try.func15, Try.ntmps15
    go_wp2_with (first
      | (go_at_call 33; refine J1.mono ?_; rintro e w1 ⟨v1, rfl, hf1, hx1⟩; obtain ⟨p1, c1, rfl, hc1, _, _⟩ := hf1.slice; have hb4 := hf1.view.take (k := 4) (c' := c1) (by omega) (by omega) (Nat.le_refl _); have hd4 := hf1.view.drop (k := 4) (by omega))
      | ((with_reducible show wpList _ _ _ (Oper.mk _ (Op.slice _ _ _ _ _) _ _ _ _ :: _) _ _); refine st_sliceTo T.bytes 4 c1 ?_)
      | ((with_reducible show wpList _ _ _ (Oper.mk _ (Op.slice _ _ _ _ _) _ _ _ _ :: _) _ _); refine st_slice T.bytes 4 jb.length c1 ?_)
      | (go_at_call 34; refine (runfixed_any _ (jb.take 4) _ hb4 (by rw [List.length_take]; omega)).mono ?_; rw [HN.out]; rintro e w' ⟨rfl, rfl⟩)
      | (go_at_call 35; refine (O1 _ _ hd4).mono ?_; rintro e w2 ⟨v2, rfl, hf2, hx2⟩))
    go_ret3
    exact ⟨.slice none 0 0, rfl, FB.nil _ _, hx1.trans hx2⟩
  · rw [if_neg hoe]
    have hoe0 : oe = 0 := Classical.byContradiction fun e => hoe e
    subst hoe0
    clear hoe
    go_enter Try.func15, Try.ntmps15
    go_wp2_with (first
      | (go_at_call 33; refine J1.mono ?_; rintro e w1 ⟨v1, rfl, hf1, hx1⟩; obtain ⟨p1, c1, rfl, hc1, _, _⟩ := hf1.slice; have hb4 := hf1.view.take (k := 4) (c' := c1) (by omega) (by omega) (Nat.le_refl _); have hd4 := hf1.view.drop (k := 4) (by omega))
      | ((with_reducible show wpList _ _ _ (Oper.mk _ (Op.slice _ _ _ _ _) _ _ _ _ :: _) _ _); refine st_sliceTo T.bytes 4 c1 ?_)
      | ((with_reducible show wpList _ _ _ (Oper.mk _ (Op.slice _ _ _ _ _) _ _ _ _ :: _) _ _); refine st_slice T.bytes 4 jb.length c1 ?_)
      | (go_at_call 34; refine (runfixed_any _ (jb.take 4) _ hb4 (by rw [List.length_take]; omega)).mono ?_; rw [HN.out]; rintro e w' ⟨rfl, rfl⟩)
      | (go_at_call 35; refine (O1 _ _ hd4).mono ?_; rintro e w2 ⟨v2, rfl, hf2, hx2⟩))
    go_ret3
    exact ⟨v2, rfl, hf2.base hx1.size, hx1.trans hx2⟩
end Go.Proofs.Ytlbeemjcndhenaa
