/- What the document's function of layer 32 computes: packing. -/
import Derived.Test.YtjhobppgpglndaaPkQ
namespace Go.Proofs.Ytjhobppgpglndaa
open Go.RowKit

/-- Two rows of the call's own, side by side. -/
structure Two (w : World) (B : Nat) (vo vr : Value) (out run : List UInt8) : Prop where
  o : FB w B vo out
  r : FB w B vr run
  or : vo.ownBlock = none ∨ vo.ownBlock ≠ vr.ownBlock
theorem Two.ext {w w' : World} {B : Nat} {vo vr : Value} {out run : List UInt8} (h : Two w B vo vr out run) (hx : Ext w w') : Two w' B vo vr out run := ⟨h.o.keep hx, h.r.keep hx, h.or⟩
theorem Two.growO {w W : World} {B : Nat} {vo vr v : Value} {out run out' : List UInt8} (h : Two w B vo vr out run) (k : Grew w W B vo v out') : Two W B v vr out' run := by
  refine ⟨k.row, h.r.kept k.grown ?_, ?_⟩
  · rcases h.or with e | e
    · cases hr : vr.ownBlock with
      | none => exact .inl rfl
      | some j => exact .inr (by rw [e]; simp)
    · exact .inr e.symm
  · rcases k.own with e | ⟨j, e, hj⟩
    · rw [e]; exact h.or
    · refine .inr fun e2 => ?_
      rw [e] at e2
      have := (h.r.lt j e2.symm).2
      omega
theorem Two.growR {w W : World} {B : Nat} {vo vr v : Value} {out run run' : List UInt8} (h : Two w B vo vr out run) (k : Grew w W B vr v run') : Two W B vo v out run' := by
  refine ⟨h.o.kept k.grown h.or, k.row, ?_⟩
  rcases k.own with e | ⟨j, e, hj⟩
  · rw [e]; exact h.or
  · refine .inr fun e2 => ?_
    rw [e] at e2
    have := (h.o.lt j e2).2
    omega
theorem Two.nilR {w : World} {B : Nat} {vo vr : Value} {out run : List UInt8} (h : Two w B vo vr out run) : Two w B vo (.slice none 0 0) out [] := by
  refine ⟨h.o, FB.nil _ _, ?_⟩
  cases hv : vo.ownBlock with
  | none => exact .inl rfl
  | some j => exact .inr (by simp [Value.ownBlock])
theorem grew_of {w w2 : World} {o : Obj} {B : Nat} {vx v2 : Value} {l : List UInt8} (hf : FB w2 B v2 l) (hg : (w.alloc o).grownBy w2 vx.ownBlock) (hw : v2.ownBlock = vx.ownBlock ∨ v2.ownBlock = some (w.alloc o).heap.size) : Grew w w2 B vx v2 l :=
  ⟨hf, ((Ext.alloc w o).grownBy _).trans hg, hw.elim .inl fun e => .inr ⟨_, e, by simp⟩⟩
theorem grew_at {w w2 : World} {B : Nat} {vx v2 : Value} {l : List UInt8} (hf : FB w2 B v2 l) (hg : w.grownBy w2 vx.ownBlock) (hw : v2.ownBlock = vx.ownBlock ∨ v2.ownBlock = some w.heap.size) : Grew w w2 B vx v2 l :=
  ⟨hf, hg, hw.elim .inl fun e => .inr ⟨_, e, Nat.le_refl _⟩⟩
theorem Grew.below {w0 W : World} {B B0 : Nat} {vx v : Value} {l l0 : List UInt8} (h : Grew w0 W B vx v l) (h0 : FB w0 B0 vx l0) (hB : B0 ≤ w0.heap.size) : Below B0 w0 W := grown_below h.grown hB fun j e => (h0.lt j e).1
theorem FB.lit3 (w : World) {B : Nat} (hB : B ≤ w.heap.size) (x y z : UInt8) : FB (w.alloc (.cells #[bv x, bv y, bv z] 5)) B (.slice (some ⟨w.heap.size, 0, none⟩) 3 3) [x, y, z] :=
  World.ownsRow_lit w #[bv x, bv y, bv z] 3 hB (by simp [maxLen]) rfl

theorem Packing.last {l out run : List UInt8} {c : Nat} (h : Packing l out run c) (hc : c < l.length) (hm : (matchB l c).1 = 0) (he : c + 1 = l.length) : Packing l (out ++ flushB (run ++ [l[c]])) [] (c + 1) := by
  have h1 := h.one hc hm
  have hf := flushB_two (run ++ [l[c]])
  have hl : (run ++ [l[c]]).length = run.length + 1 := by simp
  have h2 := h.room
  refine ⟨hc, by simp, ?_, ?_⟩
  · rw [List.length_append]; simp only [List.length_nil]; omega
  · have ha := h.all
    rw [packAt_end l (c + 1) [] (by omega)]
    rw [packAt_one l c run hc hm, packAt_end l (c + 1) [] (by omega), packAt_end l (c + 1) _ (by omega)] at ha
    have e : flushB [] = [] := rfl
    rw [e, List.append_nil] at ha ⊢
    split at ha
    · exact ha
    · exact ha

set_option maxHeartbeats 1000000 in
theorem rpack_any (v : Value) (l : List UInt8) (w : World) (h : BV w v l) (hl : l.length ≤ 100000) :
    Calls Try.prog 11 #[v] w fun e w' => ∃ v', e = .returned v' ∧ FB w' w.heap.size v' (packB l) ∧ Ext w w' := by
  obtain ⟨p, cp, rfl, hn, hcp, hs⟩ := id h
  go_enter Try.func11, Try.ntmps11
  go_wp2_with fail
  go_loopg [3, 4, 5] l.length (fun k s3 s4 s5 wr => ∃ (c : Nat) (out run : List UInt8), s5 = .int .i64 c ∧ Packing l out run c ∧ (c = l.length → run = []) ∧ k = l.length - c ∧ Two wr w.heap.size s3 s4 out run ∧ Ext w wr)
  case atStart => exact ⟨0, [], [], rfl, Packing.start l, fun _ => rfl, rfl, ⟨FB.nil _ _, FB.nil _ _, .inl rfl⟩, Ext.refl _⟩
  case round =>
    obtain ⟨c, out, run, rfl, hp, hend, hk, k, hx⟩ := hrel
    have hp1 := hp.at_
    have hp2 := hp.few
    have hp3 := hp.room
    obtain ⟨po, co, rfl, _, _, _⟩ := k.o.slice
    obtain ⟨pr, cr, rfl, hcr, _, _⟩ := k.r.slice
    have hsz := hx.size
    by_cases hc : c < l.length
    case neg =>
      have hr0 : run = [] := hend (by omega)
      subst hr0
      have HS := Lib.hid (hp.stop hc)
      clear hp hend
      go_wp2_with fail
      go_ret
      refine ⟨_, rfl, ?_, hx⟩
      have e : packB l = out := by rw [← HS.out]; simp [flushB]
      rw [e]
      exact k.o
    case pos =>
      have M1 := fun w h => rmatch_any (.slice p l.length cp) l c w h hc
      have hsz1 := fun (w1 : World) (hx1 : Ext wr w1) => (hx.trans hx1).size
      by_cases hm : (matchB l c).1 = 0
      · obtain ⟨b, o, rfl, hcell⟩ := hs.at (bs_get l hc)
        have hpo := hp.one hc hm
        have hpl := hp.last hc hm
        have hcc := hx.cell hcell
        rw [hm] at M1
        generalize l[c] = x at *
        obtain ⟨r1, hr1⟩ : ∃ r1, run ++ [x] = r1 := ⟨_, rfl⟩
        have hn1 : r1.length = run.length + 1 := by rw [← hr1]; simp
        unfold oneO oneR at hpo
        rw [hr1] at hpo hpl
        have hr1b : r1.length ≤ 128 := by omega
        have hr1c : 0 < r1.length := by omega
        obtain ⟨y, hy, HY⟩ : ∃ y : UInt8, IntKind.u8.wrap ((r1.length : Int) - 1) = (y.toNat : Int) ∧ Hid (y = UInt8.ofNat (r1.length - 1)) :=
          ⟨UInt8.ofNat (r1.length - 1), by rw [toNat_ofNat8, IntKind.wrap_u8]; omega, rfl⟩
        have hw1 : IntKind.i64.wrap ((r1.length : Int) - 1) = (r1.length : Int) - 1 := by rw [IntKind.wrap_i64]; omega
        have HF : Hid (flushB r1 = [y] ++ r1) := by
          have : flushB r1 = [y] ++ r1 := by rw [HY.out]; unfold flushB; rw [if_neg (by intro e; rw [e] at hr1c; simp at hr1c)]; rfl
          exact this
        have HR := Lib.hid hr1; clear hr1
        clear hp hend hcell hs
        have hcase : (r1.length = 128 ∨ r1.length ≠ 128 ∧ c + 1 = l.length) ∨ r1.length ≠ 128 ∧ c + 1 ≠ l.length := by omega
        rcases hcase with hcase | ⟨hq1, hq2⟩
        · have hpn : Packing l (out ++ flushB r1) [] (c + 1) := by
            rcases hcase with hq | ⟨_, hq⟩
            · rw [if_pos hq, if_pos hq] at hpo; exact hpo
            · exact hpl hq
          have HP := Lib.hid hpn
          have hcase2 : ((r1.length : Int) == 128) = true ∨ ((r1.length : Int) == 128) = false ∧ ((c : Int) + 1 == (l.length : Int)) = true := by
            rcases hcase with hq | ⟨hq, hq2⟩
            · left; rw [beq_iff_eq]; omega
            · right; exact ⟨by rw [beq_eq_false_iff_ne]; omega, by rw [beq_iff_eq]; omega⟩
          clear hpo hpl hpn hcase hn1
          rcases hcase2 with hz1 | ⟨hz1, hz2⟩
          all_goals
            go_wp2_with (first
              | (at_builtin; refine st_append T.bytes k3.o k3.r.view ?_ (by simp; omega) (by have := hG3.grown.size; omega); intro v4 w4 hf4 hg4 hw4
                 have hG4 := grew_at hf4 hg4 hw4
                 have k4 := (k3.growO hG4).nilR
                 have hb4 := hG4.below k3.o (by have := hG3.grown.size; omega))
              | (at_builtin; refine st_append T.bytes (k2.o.keep (Ext.alloc _ _)) (FB.lit1 w2 (Nat.le_refl _) y).view ?_ (by simp; omega) (by simp; omega); intro v3 w3 hf3 hg3 hw3
                 have hG3 := grew_of hf3 hg3 hw3
                 have k3 := k2.growO hG3
                 have hb3 := hG3.below k2.o (by omega))
              | (at_builtin; refine st_append T.bytes ((k.ext hx1).r.keep (Ext.alloc _ _)) (FB.lit1 w1 (Nat.le_refl _) x).view ?_ (by simp; omega) (by simp; omega); intro v2 w2 hf2 hg2 hw2
                 rw [HR.out] at hf2
                 have hG2 := grew_of hf2 hg2 hw2
                 have k2 := (k.ext hx1).growR hG2
                 have hb2 := hG2.below (k.ext hx1).r (by omega)
                 have hs2 := hG2.grown.size
                 obtain ⟨p2, c2, rfl, _, _, _⟩ := k2.r.slice)
              | (go_at_call 9; refine (M1 _ (h.ext hx)).mono ?_; rintro e w1 ⟨rfl, hx1⟩; have hc1 := hx1.cell hcc; have hs1 := hsz1 w1 hx1))
            go_roundg (l.length - (c + 1))
            case measure => omega
            case rel => exact ⟨c + 1, _, _, by go_num, by rw [HF.out, ← List.append_assoc] at HP; exact HP.out, fun _ => rfl, rfl, k4, (((hx.trans hx1).thenBelow hb2).thenBelow hb3).thenBelow hb4⟩
        · rw [if_neg hq1, if_neg hq1] at hpo
          have HP := Lib.hid hpo
          have hz1 : ((r1.length : Int) == 128) = false := by rw [beq_eq_false_iff_ne]; omega
          have hz2 : ((c : Int) + 1 == (l.length : Int)) = false := by rw [beq_eq_false_iff_ne]; omega
          clear hpo hpl hn1
          go_wp2_with (first
            | (at_builtin; refine st_append T.bytes ((k.ext hx1).r.keep (Ext.alloc _ _)) (FB.lit1 w1 (Nat.le_refl _) x).view ?_ (by simp; omega) (by simp; omega); intro v2 w2 hf2 hg2 hw2
               rw [HR.out] at hf2
               have hG2 := grew_of hf2 hg2 hw2
               have k2 := (k.ext hx1).growR hG2
               have hb2 := hG2.below (k.ext hx1).r (by omega)
               obtain ⟨p2, c2, rfl, _, _, _⟩ := k2.r.slice)
            | (go_at_call 9; refine (M1 _ (h.ext hx)).mono ?_; rintro e w1 ⟨rfl, hx1⟩; have hc1 := hx1.cell hcc; have hs1 := hsz1 w1 hx1))
          go_roundg (l.length - (c + 1))
          case measure => omega
          case rel => exact ⟨c + 1, _, _, by go_num, HP.out, fun e => absurd e hq2, rfl, k2, (hx.trans hx1).thenBelow hb2⟩
      · have hpm := hp.match hc hm
        unfold matchO at hpm
        rcases matchB_is l c with h0 | ⟨_, m1, m2, m3, m4, m5, m6, _⟩
        · rw [h0] at hm; exact absurd rfl hm
        generalize matchB l c = mm at *
        obtain ⟨n, d⟩ := mm
        dsimp only at hm m1 m2 m3 m4 m5 m6
        have hz : ((n : Int) == 0) = false := by rw [beq_eq_false_iff_ne]; omega
        obtain ⟨x, hxx, HX⟩ : ∃ x : UInt8, IntKind.u8.wrap ((128 : Int) + n - 4) = (x.toNat : Int) ∧ Hid (x = UInt8.ofNat (128 + (n - 4))) :=
          ⟨UInt8.ofNat (128 + (n - 4)), by rw [toNat_ofNat8, IntKind.wrap_u8]; omega, rfl⟩
        obtain ⟨y, hyy, HY⟩ : ∃ x : UInt8, IntKind.u8.wrap ((d : Int) / 256) = (x.toNat : Int) ∧ Hid (x = UInt8.ofNat (d / 256)) :=
          ⟨UInt8.ofNat (d / 256), by rw [toNat_ofNat8, IntKind.wrap_u8]; omega, rfl⟩
        obtain ⟨z, hzz, HZ⟩ : ∃ x : UInt8, IntKind.u8.wrap ((d : Int) % 256) = (x.toNat : Int) ∧ Hid (x = UInt8.ofNat d) :=
          ⟨UInt8.ofNat d, by rw [toNat_ofNat8, IntKind.wrap_u8]; omega, rfl⟩
        have hnb : ¬ (n : Int) ≤ 0 := by omega
        rw [← HX.out, ← HY.out, ← HZ.out] at hpm
        by_cases hr0 : run = []
        · subst hr0
          have HP := Lib.hid hpm
          clear hp hs hend hpm
          go_wp2_with (first
            | (at_builtin; refine st_append T.bytes ((k.ext hx1).o.keep (Ext.alloc _ _)) (FB.lit3 w1 (Nat.le_refl _) x y z).view ?_ (by simp; omega) (by simp; omega); intro v2 w2 hf2 hg2 hw2
               have hG2 := grew_of hf2 hg2 hw2
               have k2 := (k.ext hx1).growO hG2
               have hb2 := hG2.below (k.ext hx1).o (by omega))
            | (go_at_call 9; refine (M1 _ (h.ext hx)).mono ?_; rintro e w1 ⟨rfl, hx1⟩; have hs1 := hsz1 w1 hx1))
          go_roundg (l.length - (c + n))
          case measure => omega
          case rel => exact ⟨c + n, _, _, by go_num, by have := HP.out; simpa [flushB] using this, fun _ => rfl, rfl, k2, (hx.trans hx1).thenBelow hb2⟩
        · have hpos : 0 < run.length := List.length_pos_iff.2 hr0
          obtain ⟨q, hq, HQ⟩ : ∃ x : UInt8, IntKind.u8.wrap ((run.length : Int) - 1) = (x.toNat : Int) ∧ Hid (x = UInt8.ofNat (run.length - 1)) :=
            ⟨UInt8.ofNat (run.length - 1), by rw [toNat_ofNat8, IntKind.wrap_u8]; omega, rfl⟩
          have hw1 : IntKind.i64.wrap ((run.length : Int) - 1) = (run.length : Int) - 1 := by rw [IntKind.wrap_i64]; omega
          have e : flushB run = [q] ++ run := by rw [HQ.out]; unfold flushB; rw [if_neg hr0]; rfl
          rw [e, ← List.append_assoc] at hpm
          have HP := Lib.hid hpm
          clear hp hs hend hpm e hr0
          go_wp2_with (first
            | (at_builtin; refine st_append T.bytes (k4.o.keep (Ext.alloc _ _)) (FB.lit3 w4 (Nat.le_refl _) x y z).view ?_ (by simp; omega) (by simp; omega); intro v5 w5 hf5 hg5 hw5
               have hG5 := grew_of hf5 hg5 hw5
               have k5 := k4.growO hG5
               have hb5 := hG5.below k4.o (by omega))
            | (at_builtin; refine st_append T.bytes k3.o k3.r.view ?_ (by simp; omega) (by omega); intro v4 w4 hf4 hg4 hw4
               have hG4 := grew_at hf4 hg4 hw4
               have k4 := (k3.growO hG4).nilR
               have hb4 := hG4.below k3.o (by omega)
               have hs4 := hG4.grown.size)
            | (at_builtin; refine st_append T.bytes ((k.ext hx1).o.keep (Ext.alloc _ _)) (FB.lit1 w1 (Nat.le_refl _) q).view ?_ (by simp; omega) (by simp; omega); intro v3 w3 hf3 hg3 hw3
               have hG3 := grew_of hf3 hg3 hw3
               have k3 := (k.ext hx1).growO hG3
               have hb3 := hG3.below (k.ext hx1).o (by omega)
               have hs3 := hG3.grown.size)
            | (go_at_call 9; refine (M1 _ (h.ext hx)).mono ?_; rintro e w1 ⟨rfl, hx1⟩; have hs1 := hsz1 w1 hx1))
          go_roundg (l.length - (c + n))
          case measure => omega
          case rel => exact ⟨c + n, _, _, by go_num, by have := HP.out; simpa using this, fun _ => rfl, rfl, k5, (((hx.trans hx1).thenBelow hb3).thenBelow hb4).thenBelow hb5⟩
end Go.Proofs.Ytjhobppgpglndaa
