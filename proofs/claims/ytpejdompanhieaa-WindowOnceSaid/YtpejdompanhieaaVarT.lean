/- Readers of numbers and texts as plain functions, and what the program's readers compute. -/
import Derived.Test.YtpejdompanhieaaClone
import Derived.Test.YtpejdompanhieaaVarG
import Derived.Test.YtpejdompanhieaaObj
import Derived.Test.YtpejdompanhieaaRow
namespace Go.Proofs.Ytpejdompanhieaa
open Go.RowKit

/-! ### Readers, plainly -/
structure RdV where
  b : List UInt8
  e : Int
def numN (r : RdV) : Int := if r.e = 0 then (getV r.b).n else 0
def numR (r : RdV) : RdV := if r.e = 0 then ⟨r.b.drop (getV r.b).k, (getV r.b).e⟩ else r
def takeL (r : RdV) (n : Nat) : List UInt8 := if r.b.length < n then [] else r.b.take n
def takeR (r : RdV) (n : Nat) : RdV := if r.b.length < n then ⟨r.b, 3⟩ else ⟨r.b.drop n, r.e⟩
def textL (most : Int) (r : RdV) : List UInt8 :=
  if (numR r).e ≠ 0 then [] else if numN r < 0 ∨ max 0 most < numN r then [] else takeL (numR r) (numN r).toNat
def textR (most : Int) (r : RdV) : RdV :=
  if (numR r).e ≠ 0 then numR r else if numN r < 0 ∨ max 0 most < numN r then ⟨(numR r).b, 5⟩ else takeR (numR r) (numN r).toNat
theorem numN_bounds (r : RdV) : -9223372036854775808 ≤ numN r ∧ numN r ≤ 9223372036854775807 := by
  unfold numN
  have := getV_bounds r.b
  split <;> omega
theorem numR_length (r : RdV) : (numR r).b.length ≤ r.b.length := by
  unfold numR
  split
  · simp
  · exact Nat.le_refl _

theorem textL_length (most : Int) (r : RdV) : ((textL most r).length : Int) ≤ max 0 most := by
  unfold textL takeL
  split
  · simp; omega
  · split
    · simp; omega
    · split
      · simp; omega
      · rw [List.length_take]; omega

/-! ### The program's readers -/
def RdAt (w : World) (g : Nat) (r : RdV) : Prop := ∃ v, ObjAt w g 119 [v, .int .i64 r.e] ∧ Under (fun k => k ≠ g) (fun w' => BV w' v r.b) w
theorem grown_keeps {w w' : World} {g : Nat} (h : w.grownBy w' (some g)) : Keeps (fun k => k ≠ g) w w' := (keeps_grown h).mono fun _ _ hk e => hk (Option.some.inj e)
theorem RdAt.ext {w w' : World} {g : Nat} {r : RdV} (h : RdAt w g r) (hx : Ext w w') : RdAt w' g r := by
  obtain ⟨v, ho, hu⟩ := h
  exact ⟨v, ho.ext hx, hu.step (hx.keeps _)⟩

set_option maxHeartbeats 400000 in
theorem new_any (v : Value) (l : List UInt8) (w : World) (h : BV w v l) (hl : l.length ≤ 140737488355328) :
    Calls Try.prog 52 #[v] w fun e w' => ∃ g, e = .returned (.pointer (some ⟨g, 0, none⟩)) ∧ w.heap.size ≤ g ∧ RdAt w' g ⟨l, 0⟩ ∧ Ext w w' := by
  have HL := Lib.hid hl
  clear hl
  go_enter Try.func52, Try.ntmps52
  go_wp2_with (go_at_call 69; refine (clone_any v l _ h HL.out).mono ?_; rintro e w1 ⟨v1, rfl, hf1, hx1⟩; obtain ⟨p, c, rfl, _, _, _⟩ := hf1.slice)
  go_ret
  refine ⟨_, rfl, hx1.size, ⟨_, ObjAt.new w1 _ [.slice p l.length c, .int .i64 0], ?_⟩, hx1.trans (Ext.alloc _ _)⟩
  exact (hf1.far_under fun k _ hk => by omega).step ((Ext.alloc _ _).keeps _)
set_option maxHeartbeats 400000 in
theorem err_any (g : Nat) (r : RdV) (w : World) (h : RdAt w g r) :
    Calls Try.prog 70 #[.pointer (some ⟨g, 0, none⟩)] w fun e w' => e = .returned (.int .i64 r.e) ∧ w = w' := by
  obtain ⟨v, ho, hu⟩ := h
  have hc1 := ho.cell (j := 1) (u := .int .i64 r.e) rfl
  go_enter Try.func70, Try.ntmps70
  go_wp2_with fail
  go_ret
  exact ⟨rfl, rfl⟩
set_option maxHeartbeats 1000000 in
theorem num_any (g : Nat) (r : RdV) (w : World) (h : RdAt w g r) :
    Calls Try.prog 53 #[.pointer (some ⟨g, 0, none⟩)] w fun e w' => e = .returned (.int .i64 (numN r)) ∧ RdAt w' g (numR r) ∧ w.grownBy w' (some g) := by
  have h0 := h
  obtain ⟨v, ho, hu⟩ := h
  by_cases he : r.e = 0
  case neg =>
    have hz : (r.e != 0) = true := by rw [bne_iff_ne]; exact he
    have e1 : numN r = 0 := by unfold numN; rw [if_neg he]
    have e2 : numR r = r := by unfold numR; rw [if_neg he]
    rw [e1, e2]
    clear he e1 e2
    go_enter Try.func53, Try.ntmps53
    go_wp2_with (go_at_call 70; refine (err_any g r _ h0).mono ?_; rintro e w' ⟨rfl, rfl⟩)
    go_ret
    exact ⟨rfl, h0, World.grownBy.refl _ _⟩
  have hb := hu.now
  obtain ⟨p, c, rfl, hn, hc, hs⟩ := id hb
  have hk := getV_bounds r.b
  have e1 : numN r = (getV r.b).n := by unfold numN; rw [if_pos he]
  have e2 : numR r = ⟨r.b.drop (getV r.b).k, (getV r.b).e⟩ := by unfold numR; rw [if_pos he]
  have G1 := get_any (.slice p r.b.length c) r.b w hb
  rw [e1, e2]
  obtain ⟨rb, re⟩ := r
  simp only at *
  subst he
  have HK := Lib.hid hk
  have hk1 := hk.1
  clear e1 e2 hk
  generalize getV rb = G at *
  obtain ⟨n, k, er⟩ := G
  simp only at *
  have hc0 := ho.cell (j := 0) (u := .slice p rb.length c) rfl
  go_enter Try.func53, Try.ntmps53
  go_wp2_with (first
    | (go_at_call 70; refine (err_any g _ _ h0).mono ?_; rintro e w' ⟨rfl, rfl⟩)
    | (go_at_call 71; refine G1.mono ?_; rintro e w1 ⟨rfl, hx1⟩
       have ho1 := ho.ext hx1
       have hd0 := ho1.cell (j := 0) (u := .slice p rb.length c) rfl
       have hf0 := ho1.free 0
       have ho2 := ho1.store 0 (.slice (cutA 1 p c k) (rb.length - k) (c - k))
       have hd1 := ho2.cell (j := 1) (u := .int .i64 0) rfl
       have hf1 := ho2.free 1)
    | ((with_reducible show wpList _ _ _ (Oper.mk _ (Op.slice _ _ _ _ _) _ _ _ _ :: _) _ _); refine st_slice T.bytes k rb.length c ?_))
  go_ret
  have hgr : w.grownBy ((w1.setCell ⟨g, 0, none⟩ (.slice (cutA 1 p c k) (rb.length - k) (c - k))).setCell ⟨g, 1, none⟩ (.int .i64 er)) (some g) := (hx1.grownBy (some g)).trans ((grown_set _ ⟨g, 0, none⟩ _).trans (grown_set _ ⟨g, 1, none⟩ _))
  exact ⟨rfl, ⟨_, ho2.store 1 (.int .i64 er), (hu.step (grown_keeps hgr)).imp fun w' hw => hw.drop hk1⟩, hgr⟩

set_option maxHeartbeats 1000000 in
theorem take_any (g : Nat) (r : RdV) (n : Nat) (w : World) (h : RdAt w g r) :
    Calls Try.prog 72 #[.pointer (some ⟨g, 0, none⟩), .int .i64 (n : Int)] w fun e w' => ∃ v', e = .returned v' ∧ BV w' v' (takeL r n) ∧ RdAt w' g (takeR r n) ∧ w.grownBy w' (some g) := by
  obtain ⟨v, ho, hu⟩ := h
  have hb := hu.now
  obtain ⟨p, c, rfl, hn, hc, hs⟩ := id hb
  have hc0 := ho.cell (j := 0) (u := .slice p r.b.length c) rfl
  unfold maxLen at hc
  by_cases hlt : r.b.length < n
  · have e1 : takeL r n = [] := by unfold takeL; rw [if_pos hlt]
    have e2 : takeR r n = ⟨r.b, 3⟩ := by unfold takeR; rw [if_pos hlt]
    rw [e1, e2]
    have hlt2 : (r.b.length : Int) < (n : Int) := by omega
    have hd1 := ho.cell (j := 1) (u := .int .i64 r.e) rfl
    have hf1 := ho.free 1
    have hgr : w.grownBy (w.setCell ⟨g, 1, none⟩ (.int .i64 3)) (some g) := grown_set _ _ _
    clear e1 e2
    go_enter Try.func72, Try.ntmps72
    go_wp2_with fail
    go_ret
    exact ⟨_, rfl, BV.nil _, ⟨_, ho.store 1 (.int .i64 3), hu.step (grown_keeps hgr)⟩, hgr⟩
  · have e1 : takeL r n = r.b.take n := by unfold takeL; rw [if_neg hlt]
    have e2 : takeR r n = ⟨r.b.drop n, r.e⟩ := by unfold takeR; rw [if_neg hlt]
    rw [e1, e2]
    have hlt2 : ¬ (r.b.length : Int) < (n : Int) := by omega
    have hf0 := ho.free 0
    have hgr : w.grownBy (w.setCell ⟨g, 0, none⟩ (.slice (cutA 1 p c n) (r.b.length - n) (c - n))) (some g) := grown_set _ _ _
    clear e1 e2
    go_enter Try.func72, Try.ntmps72
    go_wp2_with (first
      | ((with_reducible show wpList _ _ _ (Oper.mk _ (Op.slice _ _ _ _ _) _ _ _ _ :: _) _ _); refine st_sliceTo T.bytes n c ?_)
      | ((with_reducible show wpList _ _ _ (Oper.mk _ (Op.slice _ _ _ _ _) _ _ _ _ :: _) _ _); refine st_slice T.bytes n r.b.length c ?_))
    go_ret
    have h3 := (hu.step (grown_keeps hgr))
    exact ⟨_, rfl, h3.now.take (by omega) (by omega) (Nat.le_refl _), ⟨_, ho.store 0 _, h3.imp fun w' hw => hw.drop (by omega)⟩, hgr⟩
set_option maxHeartbeats 1000000 in
theorem rtext_any (g : Nat) (r : RdV) (most : Int) (w : World) (h : RdAt w g r) :
    Calls Try.prog 54 #[.pointer (some ⟨g, 0, none⟩), .int .i64 most] w fun e w' => e = .returned (.string ⟨(textL most r).toArray⟩) ∧ RdAt w' g (textR most r) ∧ w.grownBy w' (some g) := by
  have hnb := numN_bounds r
  obtain ⟨E, HE⟩ : ∃ E, Hid (textL most r = E) := ⟨_, rfl⟩
  obtain ⟨F, HF⟩ : ∃ F, Hid (textR most r = F) := ⟨_, rfl⟩
  have N1 := num_any g r w h
  rw [HE.out, HF.out]
  have HE1 := HE.out
  have HF1 := HF.out
  unfold textL at HE1
  unfold textR at HF1
  clear HE HF
  generalize numN r = n at *
  by_cases he : (numR r).e = 0
  case neg =>
    rw [if_pos he] at HE1 HF1
    subst HE1; subst HF1
    have hz : ((numR r).e != 0) = true := by rw [bne_iff_ne]; exact he
    clear he
    go_enter Try.func54, Try.ntmps54
    go_wp2_with (first
      | (go_at_call 53; refine N1.mono ?_; rintro e w1 ⟨rfl, hr1, hg1⟩)
      | (go_at_call 70; refine (err_any g _ _ hr1).mono ?_; rintro e w' ⟨rfl, rfl⟩))
    go_ret
    exact ⟨rfl, hr1, hg1⟩
  have hz : ((numR r).e != 0) = false := by rw [he]; rfl
  rw [if_neg (by simp [he])] at HE1 HF1
  generalize numR r = q at *
  clear he
  by_cases hbad : n < 0 ∨ max 0 most < n
  · rw [if_pos hbad] at HE1 HF1
    subst HE1; subst HF1
    by_cases h0 : n < 0
    · clear hbad
      go_enter Try.func54, Try.ntmps54
      go_wp2_with (first
        | (go_at_call 53; refine N1.mono ?_; rintro e w1 ⟨rfl, hr1, hg1⟩)
        | (go_at_call 70; refine (err_any g _ _ hr1).mono ?_; rintro e w' ⟨rfl, rfl⟩
           obtain ⟨v, ho, hu⟩ := hr1
           have hd1 := ho.cell (j := 1) (u := .int .i64 q.e) rfl
           have hf1 := ho.free 1))
      go_ret
      have hgr : w1.grownBy (w1.setCell ⟨g, 1, none⟩ (.int .i64 5)) (some g) := grown_set _ _ _
      exact ⟨rfl, ⟨_, ho.store 1 (.int .i64 5), hu.step (grown_keeps hgr)⟩, hg1.trans hgr⟩
    · have hmx : max 0 most < n := hbad.resolve_left h0
      have hm1 : 0 < n := by omega
      have hm2 : most < n := by omega
      clear hbad hmx h0
      go_enter Try.func54, Try.ntmps54
      go_wp2_with (first
        | (go_at_call 53; refine N1.mono ?_; rintro e w1 ⟨rfl, hr1, hg1⟩)
        | (go_at_call 70; refine (err_any g _ _ hr1).mono ?_; rintro e w' ⟨rfl, rfl⟩
           obtain ⟨v, ho, hu⟩ := hr1
           have hd1 := ho.cell (j := 1) (u := .int .i64 q.e) rfl
           have hf1 := ho.free 1))
      all_goals
        go_ret
        have hgr : w1.grownBy (w1.setCell ⟨g, 1, none⟩ (.int .i64 5)) (some g) := grown_set _ _ _
        exact ⟨rfl, ⟨_, ho.store 1 (.int .i64 5), hu.step (grown_keeps hgr)⟩, hg1.trans hgr⟩
  · rw [if_neg hbad] at HE1 HF1
    subst HE1; subst HF1
    have h0 : ¬ n < 0 := fun e => hbad (.inl e)
    have hmx : most ≤ 0 ∧ n ≤ 0 ∨ 0 < most ∧ n ≤ most := by omega
    obtain ⟨k, rfl⟩ : ∃ k : Nat, n = (k : Int) := ⟨n.toNat, by omega⟩
    rw [Int.toNat_natCast]
    clear hbad h0
    rcases hmx with ⟨hm1, hm2⟩ | ⟨hm1, hm2⟩
    all_goals
    go_enter Try.func54, Try.ntmps54
    go_wp2_with (first
      | (go_at_call 53; refine N1.mono ?_; rintro e w1 ⟨rfl, hr1, hg1⟩)
      | (go_at_call 70; refine (err_any g _ _ hr1).mono ?_; rintro e w' ⟨rfl, rfl⟩)
      | (go_at_call 72; refine (take_any g q k _ hr1).mono ?_; rintro e w2 ⟨v2, rfl, hb2, hr2, hg2⟩)
      | ((with_reducible show wpList _ _ _ (Oper.mk _ (Op.convert _ _ _) _ _ _ _ :: _) _ _); refine st_string T.bytes T.u8 T.str hb2 ?_))
    go_ret
    exact ⟨rfl, hr2, hg1.trans hg2⟩
end Go.Proofs.Ytpejdompanhieaa
