/- What the program's and the document's functions of layer 32 compute: unpacking. -/
import Derived.Test.YtjhobppgpglndaaUnpM
namespace Go.Proofs.Ytjhobppgpglndaa
open Go.RowKit

/-- Where unpacking stands. -/
structure Unping (l rest out : List UInt8) (most : Nat) : Prop where
  all : unpAt most rest out = unpB l most
  room : out.length + 200 * rest.length ≤ 200 * l.length
theorem Unping.start (l : List UInt8) (most : Nat) : Unping l l [] most := ⟨rfl, by simp⟩
theorem Unping.stop {l out : List UInt8} {most : Nat} (h : Unping l [] out most) : unpB l most = ⟨out, 0⟩ := by rw [← h.all]; rfl
theorem Unping.run {l r out : List UInt8} {most : Nat} {c : UInt8} (h : Unping l (c :: r) out most) (hc : c.toNat < 128) :
    (runE most c r out = 0 ∧ Unping l (r.drop (c.toNat + 1)) (out ++ r.take (c.toNat + 1)) most) ∨ (runE most c r out ≠ 0 ∧ unpB l most = ⟨[], runE most c r out⟩) := by
  have ha := h.all
  rw [unpAt_cons, if_pos hc] at ha
  unfold runE
  have h1 := h.room
  rw [List.length_cons] at h1
  by_cases h2 : r.length < c.toNat + 1
  · rw [if_pos h2] at ha ⊢; exact .inr ⟨by decide, ha.symm⟩
  · rw [if_neg h2] at ha ⊢
    by_cases h3 : most < out.length + (c.toNat + 1)
    · rw [if_pos h3] at ha ⊢; exact .inr ⟨by decide, ha.symm⟩
    · rw [if_neg h3] at ha ⊢
      refine .inl ⟨rfl, ha, ?_⟩
      rw [List.length_append, List.length_take, List.length_drop]; omega
theorem Unping.match {l r out : List UInt8} {most : Nat} {c : UInt8} (h : Unping l (c :: r) out most) (hc : ¬ c.toNat < 128) :
    (matchE most c r out = 0 ∧ Unping l (r.drop 2) (copyN out (farM r) (manyM c)) most) ∨ (matchE most c r out ≠ 0 ∧ unpB l most = ⟨[], matchE most c r out⟩) := by
  have ha := h.all
  rw [unpAt_cons, if_neg hc] at ha
  unfold matchE
  have h1 := h.room
  rw [List.length_cons] at h1
  have h4 : c.toNat < 256 := c.toNat_lt
  by_cases h2 : r.length < 2
  · rw [if_pos h2] at ha ⊢; exact .inr ⟨by decide, ha.symm⟩
  · rw [if_neg h2] at ha ⊢
    by_cases h3 : farM r = 0 ∨ out.length < farM r
    · rw [if_pos h3]; unfold farM at h3; rw [if_pos h3] at ha; exact .inr ⟨by decide, ha.symm⟩
    · rw [if_neg h3]; unfold farM at h3; rw [if_neg h3] at ha
      by_cases h5 : most < out.length + manyM c
      · rw [if_pos h5]; unfold manyM at h5; rw [if_pos h5] at ha; exact .inr ⟨by decide, ha.symm⟩
      · rw [if_neg h5]; unfold manyM at h5; rw [if_neg h5] at ha
        refine .inl ⟨rfl, ha, ?_⟩
        rw [copyN_length, List.length_drop]; unfold manyM; omega

set_option maxHeartbeats 1000000 in
theorem unpack_any (v : Value) (l : List UInt8) (m : Int) (w : World) (h : BV w v l) (hl : l.length ≤ 100000) (hm : -9223372036854775808 ≤ m ∧ m ≤ 9223372036854775807) :
    Calls Try.prog 14 #[v, .int .i64 m] w fun e w' => ∃ v', e = .returned (.tuple #[v', .int .i64 (unpB l m.toNat).err]) ∧ FB w' w.heap.size v' (unpB l m.toNat).out ∧ Ext w w' := by
  obtain ⟨p, cp, rfl, hn, hcp, _⟩ := id h
  obtain ⟨most, hmo⟩ : ∃ most : Nat, m.toNat = most := ⟨_, rfl⟩
  have hmax : max (0 : Int) m = (most : Int) := by omega
  rw [hmo]
  go_enter Try.func14, Try.ntmps14
  go_wp2_with ((with_reducible show wpList _ _ _ (Oper.mk _ (Op.call { callee := Callee.builtin Builtin.max, args := _, argTypes := _ }) _ _ _ _ :: _) _ _); refine wpList_run rfl (run_max rfl rfl rfl _) ?_; rw [hmax])
  have K0 : UK w (w.alloc (.cells #[.slice p l.length cp, .slice none 0 0, .int .i64 most] 46)) w.heap.size (.slice p l.length cp) (.slice none 0 0) most l [] :=
    ⟨ObjAt.new w _ [.slice p l.length cp, .slice none 0 0, .int .i64 most], Nat.le_refl _, h, FB.nil _ _, by simp [Value.ownBlock], Ext.alloc _ _⟩
  go_loopg [] l.length (fun k wr => ∃ (rest out : List UInt8) (vp vo : Value), UK w wr w.heap.size vp vo most rest out ∧ Unping l rest out most ∧ k = rest.length)
  case atStart => exact ⟨l, [], _, _, K0, Unping.start l most, rfl⟩
  case round =>
    obtain ⟨rest, out, vp, vo, k, hu, hk⟩ := hrel
    obtain ⟨q, cq, rfl, hq1, hq2, hqs⟩ := id k.p
    have hc0 := k.obj.cell (j := 0) (u := .slice q rest.length cq) rfl
    have hc1 := k.obj.cell (j := 1) (u := vo) rfl
    clear K0
    cases rest with
    | nil =>
      have HS := Lib.hid hu.stop
      clear hu
      go_wp2_with fail
      go_ret2
      refine ⟨vo, ?_, ?_, k.ext⟩
      · rw [HS.out]; rfl
      · rw [HS.out]; exact k.o
    | cons c r =>
      obtain ⟨b, o, rfl, hcell⟩ := hqs.at (k := 0) (u := bv c) rfl
      rw [Nat.add_zero] at hcell
      have hcc := k.ext.cell hcell
      have hc256 : c.toNat < 256 := c.toNat_lt
      have hband := bits_and128 ⟨c.toNat, hc256⟩
      dsimp only at hband
      have hroom := hu.room
      by_cases hc : c.toNat < 128
      · rw [decide_eq_true hc] at hband
        have hr := hu.run hc
        have RA := run_any w w.heap.size most (.slice (some ⟨b, o, none⟩) (c :: r).length cq) vo c r out wr k (by omega)
        clear hcell hqs hu
        rcases hr with ⟨he, hu'⟩ | ⟨he, hu'⟩
        · rw [he] at RA
          have HU := Lib.hid hu'
          clear hu' he
          go_wp2_with (go_at_call 23; refine RA.mono ?_; rintro e w1 ⟨rfl, hx1, hk1⟩)
          obtain ⟨vp', vo', k'⟩ := hk1 (by trivial)
          go_roundg (r.drop (c.toNat + 1)).length
          case measure => rw [hk]; simp; omega
          case rel => exact ⟨_, _, vp', vo', k', HU.out, rfl⟩
        · have HS := Lib.hid hu'
          clear hu'
          generalize runE most c r out = E at *
          have hne : (E != 0) = true := by simp [he]
          go_wp2_with (go_at_call 23; refine RA.mono ?_; rintro e w1 ⟨rfl, hx1, hk1⟩)
          go_ret2
          refine ⟨.slice none 0 0, ?_, ?_, hx1⟩
          · rw [HS.out]; rfl
          · rw [HS.out]; exact FB.nil _ _
      · rw [decide_eq_false hc] at hband
        have hr := hu.match hc
        have RA := umatch_any w w.heap.size most (.slice (some ⟨b, o, none⟩) (c :: r).length cq) vo c r out wr k (by omega) (by omega)
        clear hcell hqs hu
        rcases hr with ⟨he, hu'⟩ | ⟨he, hu'⟩
        · rw [he] at RA
          have HU := Lib.hid hu'
          clear hu' he
          go_wp2_with (go_at_call 24; refine RA.mono ?_; rintro e w1 ⟨rfl, hx1, hk1⟩)
          obtain ⟨vp', vo', k'⟩ := hk1 (by trivial)
          go_roundg (r.drop 2).length
          case measure => rw [hk]; simp; omega
          case rel => exact ⟨_, _, vp', vo', k', HU.out, rfl⟩
        · have HS := Lib.hid hu'
          clear hu'
          generalize matchE most c r out = E at *
          have hne : (E != 0) = true := by simp [he]
          go_wp2_with (go_at_call 24; refine RA.mono ?_; rintro e w1 ⟨rfl, hx1, hk1⟩)
          go_ret2
          refine ⟨.slice none 0 0, ?_, ?_, hx1⟩
          · rw [HS.out]; rfl
          · rw [HS.out]; exact FB.nil _ _
end Go.Proofs.Ytjhobppgpglndaa
