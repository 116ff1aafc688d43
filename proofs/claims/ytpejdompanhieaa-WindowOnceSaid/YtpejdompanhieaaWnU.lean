/- The program's readers, the bytes in blocks ahead of the reader's. As DagY, with a chain: operations that stand in a row and take one thing (a reader) from state to state; the state is known to each of them. What the program's Get of layer 35 reads. -/
import Derived.Test.YtpejdompanhieaaVarT
import Derived.Test.YtpejdompanhieaaDag
import Derived.Test.YtpejdompanhieaaWnT
import Derived.Test.YtpejdompanhieaaEq
namespace Go.Proofs.Ytpejdompanhieaa
open Go.RowKit

/-! ### The program's readers -/
def RdL (w : World) (g : Nat) (r : RdV) : Prop := ∃ v, ObjAt w g 119 [v, .int .i64 r.e] ∧ Under (fun k => k < g) (fun w' => BV w' v r.b) w
theorem grown_keepsL {w w' : World} {g : Nat} (h : w.grownBy w' (some g)) : Keeps (fun k => k < g) w w' := (keeps_grown h).mono fun _ _ hk e => absurd (Option.some.inj e) (Nat.ne_of_lt hk)
theorem RdL.ext {w w' : World} {g : Nat} {r : RdV} (h : RdL w g r) (hx : Ext w w') : RdL w' g r := by
  obtain ⟨v, ho, hu⟩ := h
  exact ⟨v, ho.ext hx, hu.step (hx.keeps _)⟩

theorem RdL.kept {w w' : World} {g : Nat} {r : RdV} {k : Option Nat} (h : RdL w g r) (hg : w.grownBy w' k) (hk : ∀ j, k = some j → g < j) : RdL w' g r := by
  obtain ⟨v, ho, hu⟩ := h
  refine ⟨v, ho.kept hg (fun e => Nat.lt_irrefl _ (hk g e.symm)), hu.step ((keeps_grown hg).mono fun j _ hj e => ?_)⟩
  have h1 : j < g := hj
  have := hk j e.symm
  omega
set_option maxHeartbeats 400000 in
theorem lnew_any (v : Value) (l : List UInt8) (w : World) (h : BV w v l) (hl : l.length ≤ 140737488355328) :
    Calls Try.prog 52 #[v] w fun e w' => ∃ g, e = .returned (.pointer (some ⟨g, 0, none⟩)) ∧ w.heap.size ≤ g ∧ RdL w' g ⟨l, 0⟩ ∧ Ext w w' := by
  have HL := Lib.hid hl
  clear hl
  go_enter Try.func52, Try.ntmps52
  go_wp2_with (go_at_call 69; refine (clone_any v l _ h HL.out).mono ?_; rintro e w1 ⟨v1, rfl, hf1, hx1⟩; obtain ⟨p, c, rfl, _, _, _⟩ := hf1.slice)
  go_ret
  refine ⟨_, rfl, hx1.size, ⟨_, ObjAt.new w1 _ [.slice p l.length c, .int .i64 0], ?_⟩, hx1.trans (Ext.alloc _ _)⟩
  exact (hf1.far_under fun k _ hk => by omega).step ((Ext.alloc _ _).keeps _)
set_option maxHeartbeats 400000 in
theorem lerr_any (g : Nat) (r : RdV) (w : World) (h : RdL w g r) :
    Calls Try.prog 70 #[.pointer (some ⟨g, 0, none⟩)] w fun e w' => e = .returned (.int .i64 r.e) ∧ w = w' := by
  obtain ⟨v, ho, hu⟩ := h
  have hc1 := ho.cell (j := 1) (u := .int .i64 r.e) rfl
  go_enter Try.func70, Try.ntmps70
  go_wp2_with fail
  go_ret
  exact ⟨rfl, rfl⟩
set_option maxHeartbeats 1000000 in
theorem lnum_any (g : Nat) (r : RdV) (w : World) (h : RdL w g r) :
    Calls Try.prog 53 #[.pointer (some ⟨g, 0, none⟩)] w fun e w' => e = .returned (.int .i64 (numN r)) ∧ RdL w' g (numR r) ∧ w.grownBy w' (some g) := by
  have h0 := h
  obtain ⟨v, ho, hu⟩ := h
  by_cases he : r.e = 0
  case neg =>
    have hz : (r.e != 0) = true := by rw [bne_iff_ne]; exact he
    have e1 : numN r = 0 := by unfold numN; rw [if_neg he]
    have e2 : numR r = r := by unfold numR; rw [if_neg he]
    rw [e1, e2]
    clear he e1 e2
    go_enter Try.func53, Try.ntmps53
    go_wp2_with (go_at_call 70; refine (lerr_any g r _ h0).mono ?_; rintro e w' ⟨rfl, rfl⟩)
    go_ret
    exact ⟨rfl, h0, World.grownBy.refl _ _⟩
  have hb := hu.now
  obtain ⟨p, c, rfl, hn, hc, hs⟩ := id hb
  have hk := getV_bounds r.b
  have e1 : numN r = (getV r.b).n := by unfold numN; rw [if_pos he]
  have e2 : numR r = ⟨r.b.drop (getV r.b).k, (getV r.b).e⟩ := by unfold numR; rw [if_pos he]
  have G1 := get_any (.slice p r.b.length c) r.b w hb
  rw [e1, e2]
  obtain ⟨rb, re⟩ := r
  simp only at *
  subst he
  have HK := Lib.hid hk
  have hk1 := hk.1
  clear e1 e2 hk
  generalize getV rb = G at *
  obtain ⟨n, k, er⟩ := G
  simp only at *
  have hc0 := ho.cell (j := 0) (u := .slice p rb.length c) rfl
  go_enter Try.func53, Try.ntmps53
  go_wp2_with (first
    | (go_at_call 70; refine (lerr_any g _ _ h0).mono ?_; rintro e w' ⟨rfl, rfl⟩)
    | (go_at_call 71; refine G1.mono ?_; rintro e w1 ⟨rfl, hx1⟩
       have ho1 := ho.ext hx1
       have hd0 := ho1.cell (j := 0) (u := .slice p rb.length c) rfl
       have hf0 := ho1.free 0
       have ho2 := ho1.store 0 (.slice (cutA 1 p c k) (rb.length - k) (c - k))
       have hd1 := ho2.cell (j := 1) (u := .int .i64 0) rfl
       have hf1 := ho2.free 1)
    | ((with_reducible show wpList _ _ _ (Oper.mk _ (Op.slice _ _ _ _ _) _ _ _ _ :: _) _ _); refine st_slice T.bytes k rb.length c ?_))
  go_ret
  have hgr : w.grownBy ((w1.setCell ⟨g, 0, none⟩ (.slice (cutA 1 p c k) (rb.length - k) (c - k))).setCell ⟨g, 1, none⟩ (.int .i64 er)) (some g) := (hx1.grownBy (some g)).trans ((grown_set _ ⟨g, 0, none⟩ _).trans (grown_set _ ⟨g, 1, none⟩ _))
  exact ⟨rfl, ⟨_, ho2.store 1 (.int .i64 er), (hu.step (grown_keepsL hgr)).imp fun w' hw => hw.drop hk1⟩, hgr⟩

set_option maxHeartbeats 1000000 in
theorem ltake_any (g : Nat) (r : RdV) (n : Nat) (w : World) (h : RdL w g r) :
    Calls Try.prog 72 #[.pointer (some ⟨g, 0, none⟩), .int .i64 (n : Int)] w fun e w' => ∃ v', e = .returned v' ∧ BV w' v' (takeL r n) ∧ RdL w' g (takeR r n) ∧ w.grownBy w' (some g) := by
  obtain ⟨v, ho, hu⟩ := h
  have hb := hu.now
  obtain ⟨p, c, rfl, hn, hc, hs⟩ := id hb
  have hc0 := ho.cell (j := 0) (u := .slice p r.b.length c) rfl
  unfold maxLen at hc
  by_cases hlt : r.b.length < n
  · have e1 : takeL r n = [] := by unfold takeL; rw [if_pos hlt]
    have e2 : takeR r n = ⟨r.b, 3⟩ := by unfold takeR; rw [if_pos hlt]
    rw [e1, e2]
    have hlt2 : (r.b.length : Int) < (n : Int) := by omega
    have hd1 := ho.cell (j := 1) (u := .int .i64 r.e) rfl
    have hf1 := ho.free 1
    have hgr : w.grownBy (w.setCell ⟨g, 1, none⟩ (.int .i64 3)) (some g) := grown_set _ _ _
    clear e1 e2
    go_enter Try.func72, Try.ntmps72
    go_wp2_with fail
    go_ret
    exact ⟨_, rfl, BV.nil _, ⟨_, ho.store 1 (.int .i64 3), hu.step (grown_keepsL hgr)⟩, hgr⟩
  · have e1 : takeL r n = r.b.take n := by unfold takeL; rw [if_neg hlt]
    have e2 : takeR r n = ⟨r.b.drop n, r.e⟩ := by unfold takeR; rw [if_neg hlt]
    rw [e1, e2]
    have hlt2 : ¬ (r.b.length : Int) < (n : Int) := by omega
    have hf0 := ho.free 0
    have hgr : w.grownBy (w.setCell ⟨g, 0, none⟩ (.slice (cutA 1 p c n) (r.b.length - n) (c - n))) (some g) := grown_set _ _ _
    clear e1 e2
    go_enter Try.func72, Try.ntmps72
    go_wp2_with (first
      | ((with_reducible show wpList _ _ _ (Oper.mk _ (Op.slice _ _ _ _ _) _ _ _ _ :: _) _ _); refine st_sliceTo T.bytes n c ?_)
      | ((with_reducible show wpList _ _ _ (Oper.mk _ (Op.slice _ _ _ _ _) _ _ _ _ :: _) _ _); refine st_slice T.bytes n r.b.length c ?_))
    go_ret
    have h3 := (hu.step (grown_keepsL hgr))
    exact ⟨_, rfl, h3.now.take (by omega) (by omega) (Nat.le_refl _), ⟨_, ho.store 0 _, h3.imp fun w' hw => hw.drop (by omega)⟩, hgr⟩
set_option maxHeartbeats 1000000 in
theorem lrtext_any (g : Nat) (r : RdV) (most : Int) (w : World) (h : RdL w g r) :
    Calls Try.prog 54 #[.pointer (some ⟨g, 0, none⟩), .int .i64 most] w fun e w' => e = .returned (.string ⟨(textL most r).toArray⟩) ∧ RdL w' g (textR most r) ∧ w.grownBy w' (some g) := by
  have hnb := numN_bounds r
  obtain ⟨E, HE⟩ : ∃ E, Hid (textL most r = E) := ⟨_, rfl⟩
  obtain ⟨F, HF⟩ : ∃ F, Hid (textR most r = F) := ⟨_, rfl⟩
  have N1 := lnum_any g r w h
  rw [HE.out, HF.out]
  have HE1 := HE.out
  have HF1 := HF.out
  unfold textL at HE1
  unfold textR at HF1
  clear HE HF
  generalize numN r = n at *
  by_cases he : (numR r).e = 0
  case neg =>
    rw [if_pos he] at HE1 HF1
    subst HE1; subst HF1
    have hz : ((numR r).e != 0) = true := by rw [bne_iff_ne]; exact he
    clear he
    go_enter Try.func54, Try.ntmps54
    go_wp2_with (first
      | (go_at_call 53; refine N1.mono ?_; rintro e w1 ⟨rfl, hr1, hg1⟩)
      | (go_at_call 70; refine (lerr_any g _ _ hr1).mono ?_; rintro e w' ⟨rfl, rfl⟩))
    go_ret
    exact ⟨rfl, hr1, hg1⟩
  have hz : ((numR r).e != 0) = false := by rw [he]; rfl
  rw [if_neg (by simp [he])] at HE1 HF1
  generalize numR r = q at *
  clear he
  by_cases hbad : n < 0 ∨ max 0 most < n
  · rw [if_pos hbad] at HE1 HF1
    subst HE1; subst HF1
    by_cases h0 : n < 0
    · clear hbad
      go_enter Try.func54, Try.ntmps54
      go_wp2_with (first
        | (go_at_call 53; refine N1.mono ?_; rintro e w1 ⟨rfl, hr1, hg1⟩)
        | (go_at_call 70; refine (lerr_any g _ _ hr1).mono ?_; rintro e w' ⟨rfl, rfl⟩
           obtain ⟨v, ho, hu⟩ := hr1
           have hd1 := ho.cell (j := 1) (u := .int .i64 q.e) rfl
           have hf1 := ho.free 1))
      go_ret
      have hgr : w1.grownBy (w1.setCell ⟨g, 1, none⟩ (.int .i64 5)) (some g) := grown_set _ _ _
      exact ⟨rfl, ⟨_, ho.store 1 (.int .i64 5), hu.step (grown_keepsL hgr)⟩, hg1.trans hgr⟩
    · have hmx : max 0 most < n := hbad.resolve_left h0
      have hm1 : 0 < n := by omega
      have hm2 : most < n := by omega
      clear hbad hmx h0
      go_enter Try.func54, Try.ntmps54
      go_wp2_with (first
        | (go_at_call 53; refine N1.mono ?_; rintro e w1 ⟨rfl, hr1, hg1⟩)
        | (go_at_call 70; refine (lerr_any g _ _ hr1).mono ?_; rintro e w' ⟨rfl, rfl⟩
           obtain ⟨v, ho, hu⟩ := hr1
           have hd1 := ho.cell (j := 1) (u := .int .i64 q.e) rfl
           have hf1 := ho.free 1))
      all_goals
        go_ret
        have hgr : w1.grownBy (w1.setCell ⟨g, 1, none⟩ (.int .i64 5)) (some g) := grown_set _ _ _
        exact ⟨rfl, ⟨_, ho.store 1 (.int .i64 5), hu.step (grown_keepsL hgr)⟩, hg1.trans hgr⟩
  · rw [if_neg hbad] at HE1 HF1
    subst HE1; subst HF1
    have h0 : ¬ n < 0 := fun e => hbad (.inl e)
    have hmx : most ≤ 0 ∧ n ≤ 0 ∨ 0 < most ∧ n ≤ most := by omega
    obtain ⟨k, rfl⟩ : ∃ k : Nat, n = (k : Int) := ⟨n.toNat, by omega⟩
    rw [Int.toNat_natCast]
    clear hbad h0
    rcases hmx with ⟨hm1, hm2⟩ | ⟨hm1, hm2⟩
    all_goals
    go_enter Try.func54, Try.ntmps54
    go_wp2_with (first
      | (go_at_call 53; refine N1.mono ?_; rintro e w1 ⟨rfl, hr1, hg1⟩)
      | (go_at_call 70; refine (lerr_any g _ _ hr1).mono ?_; rintro e w' ⟨rfl, rfl⟩)
      | (go_at_call 72; refine (ltake_any g q k _ hr1).mono ?_; rintro e w2 ⟨v2, rfl, hb2, hr2, hg2⟩)
      | ((with_reducible show wpList _ _ _ (Oper.mk _ (Op.convert _ _ _) _ _ _ _ :: _) _ _); refine st_string T.bytes T.u8 T.str hb2 ?_))
    go_ret
    exact ⟨rfl, hr2, hg1.trans hg2⟩
/-- What is known of the world ahead of operation i. -/
def PreC (X Y : World → World → Prop) (S : Nat → World → Prop) (ch : List Nat) (w0 : World) (A : List Nat) (k i : Nat) (W : World) : Prop := (Y w0 W ∧ (((A.getD k 0).testBit i || i == k) = true → X w0 W)) ∧ ∀ p, ch[p]? = some i → S p W
/-- What operation i may do. -/
def StepC (X Z : World → World → Prop) (k i : Nat) (W W' : World) : Prop := if i = k then Z W W' else X W W'
/-- What operation i does to the state. -/
def PhC (S : Nat → World → Prop) (ch : List Nat) (i : Nat) (W W' : World) : Prop := (∀ p, ch[p]? = some i → S (p + 1) W') ∧ (i ∉ ch → ∀ p, S p W → S p W')

def dagOblC (P : Program) (X Y Z : World → World → Prop) (S : Nat → World → Prop) (ch : List Nat) (k : Nat) (w0 : World) (ops : Array Oper) (A : List Nat) (Q : Act → World → Prop) : List Oper → List Want → Nat → List (Nat × (World → Prop)) → Act → Prop
  | o :: os, .inl c :: ws, i, facts, a =>
    (∀ W, PreC X Y S ch w0 A k i W → Held facts (A.getD i 0) W → opGives P ops o a W (fun v W' => (X W W' ∧ PhC S ch i W W') ∧ v = c)) ∧ dagOblC P X Y Z S ch k w0 ops A Q os ws (i + 1) facts (a.put o.dst c)
  | o :: os, .inr R :: ws, i, facts, a =>
    (∀ v W W', (X W W' ∨ i ≠ k ∧ Z W W') → R v W → R v W') ∧
    (∀ W, PreC X Y S ch w0 A k i W → Held facts (A.getD i 0) W → opGives P ops o a W (fun v W' => (StepC X Z k i W W' ∧ PhC S ch i W W') ∧ R v W')) ∧ ∀ v, dagOblC P X Y Z S ch k w0 ops A Q os ws (i + 1) ((i, R v) :: facts) (a.put o.dst v)
  | [], [], _, facts, a => ∀ W, (∀ j, factOf facts j W) → S ch.length W → Q a W
  | _, _, _, _, _ => False

section
variable {P : Program} {X Y Z : World → World → Prop} {S : Nat → World → Prop} {ch : List Nat} {k0 : Nat} {w0 : World} {ops : Array Oper} {A : List Nat} {Q : Act → World → Prop}

structure DagGetC (P : Program) (X Y Z : World → World → Prop) (S : Nat → World → Prop) (ch : List Nat) (k0 : Nat) (w0 : World) (ops : Array Oper) (A : List Nat) (Q : Act → World → Prop) (ws : List Want) (a0 : Act) (V : Nat → Value) (m i : Nat) : Prop where
  step : ∀ k, i ≤ k → k < m → ∀ o, ops[k]? = some o → ∃ x, ws[k]? = some x ∧ ∀ W, PreC X Y S ch w0 A k0 k W → Held (factsAt ws V k) (A.getD k 0) W → opGives P ops o (frameAt ops a0 V k) W (fun v W' => ((X W W' ∨ k = k0 ∧ Z W W') ∧ PhC S ch k W W') ∧ x.fact v W')
  keep : ∀ k, i ≤ k → k < m → ∀ x, ws[k]? = some x → ∀ v W W', (X W W' ∨ k ≠ k0 ∧ Z W W') → x.fact v W → x.fact v W'
  last : ∀ W, (∀ j, factOf (factsAt ws V m) j W) → S ch.length W → Q (frameAt ops a0 V m) W

theorem opGives_monoC {o : Oper} {a : Act} {W : World} {Post Post' : Value → World → Prop} (h : opGives P ops o a W Post) (hp : ∀ v W', Post v W' → Post' v W') : opGives P ops o a W Post' := by
  unfold opGives at h ⊢
  by_cases hw : Region.wanted o (yielded ops a.tmps) = true
  · rw [if_pos hw] at h ⊢
    generalize (execOp a.eval o).run P W = r at *
    cases r with
    | halt h' w => exact h
    | ok n w =>
      cases n <;> simp only [givesUpon] at h ⊢
      case value v => exact hp _ _ h
      case skip => exact hp _ _ h
      case enter f args => exact h.mono fun e w' ⟨v, he, h1⟩ => ⟨v, he, hp _ _ h1⟩
  · rw [if_neg hw] at h ⊢
    exact hp _ _ h

theorem dag_getC {ws : List Want} {a0 : Act} {V : Nat → Value} (hV : ∀ j c, ws[j]? = some (.inl c) → V j = c) {m : Nat} (hm : m ≤ ops.size) :
    ∀ n i, n + i = m → dagOblC P X Y Z S ch k0 w0 ops A Q ((ops.toList.take m).drop i) (ws.drop i) i (factsAt ws V i) (frameAt ops a0 V i) → DagGetC P X Y Z S ch k0 w0 ops A Q ws a0 V m i
  | 0, i, hn, h => by
    have hi : i = m := by omega
    subst hi
    have e1 : (ops.toList.take i).drop i = [] := by simp
    rw [e1] at h
    cases hw : ws.drop i with
    | cons x r => rw [hw] at h; simp [dagOblC] at h
    | nil =>
      rw [hw] at h
      simp only [dagOblC] at h
      exact ⟨fun k hk hk2 => by omega, fun k hk hk2 => by omega, h⟩
  | n + 1, i, hn, h => by
    have hi : i < ops.size := by omega
    have e1 : (ops.toList.take m).drop i = ops[i] :: (ops.toList.take m).drop (i + 1) := by
      have hl : i < (ops.toList.take m).length := by simp; omega
      rw [List.drop_eq_getElem_cons hl]
      simp
    rw [e1] at h
    have hoi : ops[i]? = some ops[i] := Array.getElem?_eq_getElem hi
    cases hw : ws.drop i with
    | nil => rw [hw] at h; simp [dagOblC] at h
    | cons x r =>
      have hx : ws[i]? = some x := by
        have : (ws.drop i)[0]? = some x := by rw [hw]; rfl
        simpa using this
      have hr : ws.drop (i + 1) = r := by
        have h1 : (ws.drop i).drop 1 = r := by rw [hw]; rfl
        rw [List.drop_drop] at h1
        exact h1
      have hf : frameAt ops a0 V (i + 1) = (frameAt ops a0 V i).put ops[i].dst (V i) := by simp [frameAt, hoi]
      rw [hw] at h
      have split_k : ∀ k, i ≤ k → k = i ∨ i + 1 ≤ k := fun k hk => by omega
      cases x with
      | inl c =>
        simp only [dagOblC] at h
        obtain ⟨h1, h2⟩ := h
        have hfa : factsAt ws V (i + 1) = factsAt ws V i := by simp [factsAt, hx]
        have ih := dag_getC hV hm n (i + 1) (by omega) (by rw [hr, hfa, hf, hV i c hx]; exact h2)
        refine ⟨fun k hk hk2 o ho => ?_, fun k hk hk2 x hxk => ?_, ih.last⟩
        · rcases split_k k hk with rfl | hk
          · rw [hoi] at ho; cases ho
            exact ⟨_, hx, fun W hp hh => opGives_monoC (h1 W hp hh) fun v W' hv => ⟨⟨.inl hv.1.1, hv.1.2⟩, hv.2⟩⟩
          · exact ih.step k hk hk2 o ho
        · rcases split_k k hk with rfl | hk
          · rw [hx] at hxk; cases hxk
            exact fun v W W' _ e => e
          · exact ih.keep k hk hk2 x hxk
      | inr R =>
        simp only [dagOblC] at h
        obtain ⟨h0, h1, h2⟩ := h
        have hfa : factsAt ws V (i + 1) = (i, R (V i)) :: factsAt ws V i := by simp [factsAt, hx]
        have ih := dag_getC hV hm n (i + 1) (by omega) (by rw [hr, hfa, hf]; exact h2 (V i))
        refine ⟨fun k hk hk2 o ho => ?_, fun k hk hk2 x hxk => ?_, ih.last⟩
        · rcases split_k k hk with rfl | hk
          · rw [hoi] at ho; cases ho
            refine ⟨_, hx, fun W hp hh => opGives_monoC (h1 W hp hh) fun v W' hv => ⟨⟨?_, hv.1.2⟩, hv.2⟩⟩
            have hs := hv.1.1
            unfold StepC at hs
            split at hs
            · rename_i e; exact .inr ⟨e, hs⟩
            · exact .inl hs
          · exact ih.step k hk hk2 o ho
        · rcases split_k k hk with rfl | hk
          · rw [hx] at hxk; cases hxk
            exact h0
          · exact ih.keep k hk hk2 x hxk

theorem dag_anyC {Q' : Exit → Act → World → Prop} {m : Nat} (hm : m ≤ ops.size) (hk0 : k0 < m) (forced : ∀ k, m ≤ k → k < ops.size → ∀ j, j < k → (A.getD k 0).testBit j = true)
    (hQ : ∀ a w, Q a w → wpList P ops Q' (ops.toList.drop m) a w) (hok : DagOk ops A) (hX : ∀ a b c, X a b → X b c → X a c) (hY : ∀ a b c, Y a b → Y b c → Y a c) (hXY : ∀ a b, X a b → Y a b) (hZY : ∀ a b, Z a b → Y a b) (hch : ∀ q i, ch[q]? = some i → i < m ∧ ∀ (p j : Nat), p < q → ch[p]? = some j → (A.getD i 0).testBit j = true ∧ i ≠ j)
    {ws : List Want} {a0 : Act} (get : ∀ V : Nat → Value, (∀ j c, ws[j]? = some (.inl c) → V j = c) → DagGetC P X Y Z S ch k0 w0 ops A Q ws a0 V m 0) :
    ∀ (fuel : Nat) (listed : Array Bool) (a : Act) (W : World) (V : Nat → Value), undone listed.toList = fuel → listed.size = ops.size → Y w0 W → (¬ DoneIn listed k0 → X w0 W) → (∃ p, p ≤ ch.length ∧ (∀ q i, ch[q]? = some i → (DoneIn listed i ↔ q < p)) ∧ S p W) →
      (∀ j c, ws[j]? = some (.inl c) → V j = c) → Agree ops a0 V (DoneIn listed) a →
      (∀ i j, DoneIn listed i → i < ops.size → j < ops.size → (A.getD i 0).testBit j = true → DoneIn listed j) → (∀ j, DoneIn listed j → j < m) →
      (∀ j x, DoneIn listed j → ws[j]? = some x → x.fact (V j) W) → wpAny P .any ops Q' fuel listed a W := by
  have finish : ∀ (fuel : Nat) (listed : Array Bool) (a : Act) (W : World) (V : Nat → Value), undone listed.toList = fuel → listed.size = ops.size → (∀ j c, ws[j]? = some (.inl c) → V j = c) →
      Agree ops a0 V (DoneIn listed) a → (∀ j, DoneIn listed j → j < m) → (∀ j x, DoneIn listed j → ws[j]? = some x → x.fact (V j) W) → (∀ i, i < m → DoneIn listed i) → (∃ p, p ≤ ch.length ∧ (∀ q i, ch[q]? = some i → (DoneIn listed i ↔ q < p)) ∧ S p W) → wpAny P .any ops Q' fuel listed a W := by
    intro fuel listed a W V hu hs hV hag hdm hf hall hph
    have hlast : S ch.length W := by
      obtain ⟨p, h1, h2, h3⟩ := hph
      rcases Nat.lt_or_ge p ch.length with h | h
      · have hg : ch[p]? = some ch[p] := List.getElem?_eq_getElem h
        exact absurd ((h2 p _ hg).1 (hall _ (hch p _ hg).1)) (Nat.lt_irrefl _)
      · have e : p = ch.length := by omega
        exact e ▸ h3
    have G := get V hV
    have hag' : Agree ops a0 V (DoneIn listed) (frameAt ops a0 V m) := by
      have h := agree_frameAt hok.apart a0 V m hm
      exact ⟨h.defers, h.size, fun j o d hj ho hd hlt => h.done j o d (hdm j hj) ho hd hlt, fun t ht => h.rest t fun j o hj ho => ht j o (hall j hj) ho⟩
    rw [Agree.eq hag hag']
    exact suffix_any hok forced fuel m listed _ W hu hs (Nat.le_refl _) hm (fun j hj => ⟨hdm j, hall j⟩) (hQ _ _ (G.last W (fun j => factOf_factsAt _ fun hj x hx => hf j x (hall j hj) hx) hlast))
  intro fuel
  induction fuel with
  | zero =>
    intro listed a W V hu hs _ hx hph hV hag _ hdm hf
    refine finish 0 listed a W V hu hs hV hag hdm hf (fun i hi => ?_) hph
    rcases done_or (ops := ops) listed i hs (by omega) with h | h
    · exact h
    · have h1 : false ∈ listed.toList := Array.mem_toList_iff.2 (Array.mem_of_getElem? h)
      have := undone_zero _ hu _ h1
      cases this
  | succ fuel ih =>
    intro listed a W V hu hs hy hx hph hV hag hcl hdm hf
    by_cases hall : ∀ i, i < m → DoneIn listed i
    · exact finish _ listed a W V hu hs hV hag hdm hf hall hph
    have hsome : ∃ i, i < m ∧ ¬ DoneIn listed i := Classical.byContradiction fun hc => hall fun i hi => Classical.byContradiction fun hn => hc ⟨i, hi, hn⟩
    have hne : Region.ready .any ops listed ≠ [] := by
      obtain ⟨i, hi, hni⟩ := hsome
      intro hr
      have key : ∀ i, i < ops.size → DoneIn listed i := by
        intro i
        induction i using Nat.strongRecOn with
        | _ i ihs =>
          intro hi
          rcases done_or listed i hs hi with h | h
          · exact h
          · exfalso
            have ho : ops[i]? = some ops[i] := Array.getElem?_eq_getElem hi
            have : i ∈ Region.ready .any ops listed := (ready_in listed i).2 ⟨hi, by simp [h], _, ho, fun e he hb => by
              have hlt := hok.back i _ ho e he hb
              exact ihs e.on hlt (by omega)⟩
            rw [hr] at this
            cases this
      exact hni (key i (by omega))
    refine ⟨fun hr => absurd hr hne, fun i hi => ?_⟩
    obtain ⟨hlt, hn, o, ho, hedges⟩ := (ready_in listed i).1 hi
    have hl : i < listed.size := by omega
    have hfalse : listed[i]? = some false := by
      simp only [Array.getD_eq_getD_getElem?, Array.getElem?_eq_getElem hl, Option.getD_some] at hn
      rw [Array.getElem?_eq_getElem hl, hn]
    have hnd : ¬ DoneIn listed i := by
      unfold DoneIn
      simp [hfalse]
    have hanc : ∀ j, j < ops.size → (A.getD i 0).testBit j = true → DoneIn listed j := by
      intro j hj ht
      obtain ⟨_, e, he, hb, h3⟩ := hok.clos i o ho j hj ht
      have hde := hedges e he hb
      rcases h3 with rfl | h3
      · exact hde
      · have hlt' := hok.back i o ho e he hb
        exact hcl e.on j hde (by omega) hj h3
    have him : i < m := by
      rcases Nat.lt_or_ge i m with h1 | h1
      · exact h1
      · obtain ⟨j, hj, hnj⟩ := hsome
        exact absurd (hanc j (by omega) (forced i h1 hlt j (by omega))) hnj
    have G := get V hV
    obtain ⟨x, hxi, hstep⟩ := G.step i (Nat.zero_le _) him o ho
    have hheld : Held (factsAt ws V i) (A.getD i 0) W := fun j hj => factOf_factsAt _ fun hji y hy => hf j y (hanc j (by omega) hj) hy
    obtain ⟨p0, hp1, hp2, hp3⟩ := hph
    have hpos : ∀ p, ch[p]? = some i → p = p0 := fun p hp => by
      have hn1 : ¬ p < p0 := fun h => hnd ((hp2 p i hp).2 h)
      rcases Nat.lt_or_ge p0 p with h | h
      · have hpl : p < ch.length := (List.getElem?_eq_some_iff.1 hp).1
        have hg : ch[p0]? = some ch[p0] := List.getElem?_eq_getElem (by omega)
        have h5 := ((hch p i hp).2 p0 _ h hg).1
        have h6 := (hch p0 _ hg).1
        exact absurd ((hp2 p0 _ hg).1 (hanc _ (by omega) h5)) (Nat.lt_irrefl _)
      · omega
    have hpre : PreC X Y S ch w0 A k0 i W := ⟨⟨hy, fun hb => hx fun hd => by
      rcases Bool.or_eq_true _ _ ▸ hb with hb | hb
      · exact hnd (hcl k0 i hd (by omega) hlt hb)
      · exact hnd (by have e : i = k0 := by simpa using hb
                      rw [e]; exact hd)⟩, fun p hp => hpos p hp ▸ hp3⟩
    have hg := hstep W hpre hheld
    have hfr := agree_frameAt hok.apart a0 V i (by omega)
    have hlook : ∀ t ∈ o.looksAt ops, (frameAt ops a0 V i).tmps[t]? = a.tmps[t]? := by
      intro t ht
      by_cases hex : ∃ (j : Nat) (oj : Oper), ops[j]? = some oj ∧ oj.dst = some t
      · obtain ⟨j, oj, hoj, hdj⟩ := hex
        have hjs := (Array.getElem?_eq_some_iff.1 hoj).1
        have hlk := hok.looks i j o oj t ho hoj hdj ht
        by_cases hji : j < i
        · rw [if_pos hji] at hlk
          have hdone := hanc j hjs hlk
          by_cases hts : t < a0.tmps.size
          · exact (hfr.done j oj t hji hoj hdj hts).trans (hag.done j oj t hdone hoj hdj hts).symm
          · rw [Array.getElem?_eq_none (Nat.le_of_not_lt (by rw [hfr.size]; exact hts)), Array.getElem?_eq_none (Nat.le_of_not_lt (by rw [hag.size]; exact hts))]
        · rw [if_neg hji] at hlk
          have hndj : ¬ DoneIn listed j := by
            rcases hlk with rfl | hlk
            · exact hnd
            · exact fun hd => hnd (hcl j i hd hjs hlt hlk)
          have r1 := hfr.rest t fun j' o' hj' ho' hd' => by
            have := hok.apart j' j o' oj t ho' hoj hd' hdj
            omega
          have r2 := hag.rest t fun j' o' hj' ho' hd' => by
            have := hok.apart j' j o' oj t ho' hoj hd' hdj
            subst this
            exact hndj hj'
          exact r1.trans r2.symm
      · have hex' : ∀ (j : Nat) (oj : Oper), ops[j]? = some oj → oj.dst ≠ some t := fun j oj h1 h2 => hex ⟨j, oj, h1, h2⟩
        exact (hfr.rest t fun j oj _ h => hex' j oj h).trans (hag.rest t fun j oj _ h => hex' j oj h).symm
    obtain ⟨hex, hwa⟩ := same_looks (hok.sel i o ho) hlook
    have next : ∀ v W', ((X W W' ∨ i = k0 ∧ Z W W') ∧ PhC S ch i W W') → x.fact v W' → wpAny P .any ops Q' fuel (listed.setIfInBounds i true) (a.put o.dst v) W' := by
      intro v W' hxw0 hv
      obtain ⟨hxw, hphs⟩ := hxw0
      have hdone : ∀ j, DoneIn (listed.setIfInBounds i true) j ↔ DoneIn listed j ∨ j = i := done_set hl
      have hV' : ∀ j c, ws[j]? = some (.inl c) → (fun j => if j = i then v else V j) j = c := by
        intro j c hc
        by_cases hji : j = i
        · subst hji
          simp only [if_true]
          rw [hxi] at hc
          cases hc
          exact hv
        · simp only [if_neg hji]
          exact hV j c hc
      have hag' := Agree.put (V' := fun j => if j = i then v else V j) hag ho hdone (fun j hj => if_neg fun e : j = i => hnd (e ▸ hj))
        (fun j oj d hj hoj hdj hc => hnd (by have := hok.apart j i oj o d hoj ho hdj hc; exact this ▸ hj))
      simp only [if_true] at hag'
      refine ih _ _ W' (fun j => if j = i then v else V j) ?_ (by simpa using hs) (hY _ _ _ hy (by rcases hxw with h | ⟨_, h⟩; exact hXY _ _ h; exact hZY _ _ h)) ?_ ?_ hV' hag' ?_ (fun j hj => by rcases (hdone j).1 hj with h | rfl; exact hdm j h; exact him) ?_
      · have := undone_set listed.toList i (by simpa using hfalse)
        rw [Array.toList_setIfInBounds]
        omega
      · intro hn
        have hn1 : ¬ DoneIn listed k0 := fun hd => hn ((hdone k0).2 (.inl hd))
        have hn2 : i ≠ k0 := fun e => hn ((hdone k0).2 (.inr e.symm))
        rcases hxw with hxw | ⟨e, _⟩
        · exact hX _ _ _ (hx hn1) hxw
        · exact absurd e hn2
      · by_cases hin : i ∈ ch
        · obtain ⟨q0, hq0⟩ := List.getElem?_of_mem hin
          have e0 := hpos q0 hq0
          subst e0
          have hql : q0 < ch.length := (List.getElem?_eq_some_iff.1 hq0).1
          refine ⟨q0 + 1, by omega, fun q j hq => ?_, hphs.1 q0 hq0⟩
          rw [hdone j, hp2 q j hq]
          constructor
          · rintro (h | rfl)
            · omega
            · have := hpos q hq
              omega
          · intro h
            rcases Nat.lt_or_ge q q0 with h1 | h1
            · exact .inl h1
            · have e : q = q0 := by omega
              subst e
              rw [hq0] at hq
              exact .inr (Option.some.inj hq).symm
        · refine ⟨p0, hp1, fun q j hq => ?_, hphs.2 hin p0 hp3⟩
          rw [hdone j, hp2 q j hq]
          constructor
          · rintro (h | rfl)
            · exact h
            · exact absurd (List.mem_of_getElem? hq) hin
          · exact .inl
      · intro k j hk hks hjs ht
        rcases (hdone k).1 hk with hk | rfl
        · exact (hdone j).2 (.inl (hcl k j hk hks hjs ht))
        · exact (hdone j).2 (.inl (hanc j hjs ht))
      · intro j y hj hy
        rcases (hdone j).1 hj with hj | rfl
        · have hji : j ≠ i := fun e => hnd (e ▸ hj)
          simp only [if_neg hji]
          refine G.keep j (Nat.zero_le _) (hdm j hj) y hy _ _ _ ?_ (hf j y hj hy)
          rcases hxw with hxw | ⟨e, hz⟩
          · exact .inl hxw
          · exact .inr ⟨fun e2 => hji (e2.trans e.symm), hz⟩
        · simp only [if_true]
          rw [hxi] at hy
          cases hy
          exact hv
    unfold opGives at hg
    unfold wpOp
    rw [ho]
    simp only []
    rw [hwa, hex] at hg
    by_cases hw : Region.wanted o (yielded ops a.tmps) = true
    · rw [if_pos hw] at hg ⊢
      refine .inl ?_
      unfold Oper.wp
      generalize (execOp a.eval o).run P W = r at *
      cases r with
      | halt h w => exact hg.elim
      | ok n w =>
        cases n <;> simp only [givesUpon] at hg <;> simp only [Oper.upon]
        case value v => exact next _ _ hg.1 hg.2
        case skip => exact next _ _ hg.1 hg.2
        case enter f args =>
          exact hg.mono fun e w' ⟨v, he, h1, h2⟩ => by
            subst he
            exact next _ _ h1 h2
    · rw [if_neg hw] at hg ⊢
      exact next _ _ hg.1 hg.2

/-- Each of the chain stands behind all that are ahead of it. -/
def chainOk (A : List Nat) (m : Nat) (ch : List Nat) : Bool := ch.all (fun i => decide (i < m)) && (List.range ch.length).all fun q => (List.range q).all fun p => (A.getD (ch.getD q 0) 0).testBit (ch.getD p 0) && !(ch.getD q 0 == ch.getD p 0)
theorem chain_spec {A : List Nat} {m : Nat} {ch : List Nat} (h : chainOk A m ch = true) : ∀ q i, ch[q]? = some i → i < m ∧ ∀ (p j : Nat), p < q → ch[p]? = some j → (A.getD i 0).testBit j = true ∧ i ≠ j := by
  unfold chainOk at h
  rw [Bool.and_eq_true, List.all_eq_true, List.all_eq_true] at h
  intro q i hq
  refine ⟨by simpa using h.1 i (List.mem_of_getElem? hq), fun p j hpq hp => ?_⟩
  have h1 := h.2 q (List.mem_range.2 (List.getElem?_eq_some_iff.1 hq).1)
  rw [List.all_eq_true] at h1
  have h2 := h1 p (List.mem_range.2 hpq)
  simp only [List.getD_eq_getElem?_getD, hq, hp, Option.getD_some, Bool.and_eq_true, Bool.not_eq_true', beq_eq_false_iff_ne] at h2
  exact h2
/-- ████ A region that draws its order, with one writer, number k0; the operations from m on stand behind all others and are walked as ever. -/
theorem wp_region_dagC (k0 m : Nat) (ch : List Nat) (S : Nat → World → Prop) (Z Y : World → World → Prop) {Q' : Exit → Act → World → Prop} {id : Nat} {a0 : Act} {ws : List Want} (hm : P.follows .mixedOrders = true) (hok : dagOk ops (ancs ops) = true) (hfo : forcedOk ops (ancs ops) m = true) (hle : m ≤ ops.size) (hk : k0 < m)
    (hX : ∀ a b c, X a b → X b c → X a c) (hY : ∀ a b c, Y a b → Y b c → Y a c) (hXY : ∀ a b, X a b → Y a b) (hZY : ∀ a b, Z a b → Y a b) (h0 : X w0 { w0 with drawn := w0.drawn + 1 }) (hch : chainOk (ancs ops) m ch = true) (hS : S 0 { w0 with drawn := w0.drawn + 1 })
    (h : dagOblC P X Y Z S ch k0 w0 ops (ancs ops) (fun a w => wpList P ops Q' (ops.toList.drop m) a w) (ops.toList.take m) ws 0 [] a0) : (Code.region id ops true).wp P Q' a0 w0 := by
  have hd := dagOk_spec hok
  refine wp_region_any hm (dag_anyC hle hk (forced_spec hfo) (fun _ _ h => h) hd hX hY hXY hZY (chain_spec hch) (ws := ws) (fun V hV => dag_getC hV hle m 0 (by omega) (by simpa [factsAt, frameAt] using h)) ops.size (Array.replicate ops.size false) a0 _
    (fun j => match ws[j]? with | some (.inl c) => c | _ => undef) ?_ (by simp) (hXY _ _ h0) (fun _ => h0) ⟨0, Nat.zero_le _, fun q i _ => ⟨fun h => absurd h (by simp [DoneIn, Array.getElem?_replicate]; split <;> simp), fun h => absurd h (Nat.not_lt_zero _)⟩, hS⟩ ?_ (Agree.start fun j => ?_) ?_ ?_ ?_)
  · simp [undone]
  · intro j c hc
    simp only [hc]
  · simp [DoneIn, Array.getElem?_replicate]
    split <;> simp
  · intro i j hi _ _ _
    have : ¬ DoneIn (Array.replicate ops.size false) i := by simp [DoneIn, Array.getElem?_replicate]; split <;> simp
    exact absurd hi this
  · intro j hj
    have : ¬ DoneIn (Array.replicate ops.size false) j := by simp [DoneIn, Array.getElem?_replicate]; split <;> simp
    exact absurd hj this
  · intro j x hj
    have : ¬ DoneIn (Array.replicate ops.size false) j := by simp [DoneIn, Array.getElem?_replicate]; split <;> simp
    exact absurd hj this

/-! ### Steps through the obligations -/
theorem PhC.same {i : Nat} (hi : ch.contains i = false) (W : World) : PhC S ch i W W := ⟨fun p hp => by
  have := List.mem_of_getElem? hp
  simp at hi
  exact absurd this hi, fun _ _ h => h⟩
theorem PhC.off {i : Nat} (hi : ch.contains i = false) {W W' : World} (h : ∀ p, S p W → S p W') : PhC S ch i W W' := ⟨fun p hp => by
  have := List.mem_of_getElem? hp
  simp at hi
  exact absurd this hi, fun _ p => h p⟩
/-- Operation i is the p-th of the chain. -/
theorem PhC.on {i p : Nat} (hi : ch.findIdx? (· == i) = some p) (hn : (List.range ch.length).all (fun q => !(ch.getD q 0 == i) || q == p) = true) {W W' : World} (h : S (p + 1) W') : PhC S ch i W W' := by
  rw [List.all_eq_true] at hn
  refine ⟨fun q hq => ?_, fun hni => ?_⟩
  · have h1 := hn q (List.mem_range.2 (List.getElem?_eq_some_iff.1 hq).1)
    simp only [List.getD_eq_getElem?_getD, hq, Option.getD_some, beq_self_eq_true, Bool.not_true, Bool.false_or, beq_iff_eq] at h1
    exact h1 ▸ h
  · obtain ⟨hp, h1, _⟩ := List.findIdx?_eq_some_iff_getElem.1 hi
    have : ch[p] = i := by simpa using h1
    exact absurd (this ▸ List.getElem_mem hp) hni
theorem dagc_end {i : Nat} {facts : List (Nat × (World → Prop))} {a : Act} (h : ∀ W, (∀ j, factOf facts j W) → S ch.length W → Q a W) : dagOblC P X Y Z S ch k0 w0 ops A Q [] [] i facts a := h
/-- The operation yields a value and leaves the world alone. -/
theorem dagc_val (hX : ∀ a, X a a) {o : Oper} {os : List Oper} {c : Value} {ws : List Want} {i : Nat} {facts : List (Nat × (World → Prop))} {a : Act} (hi : ch.contains i = false)
    (hw : Region.wanted o (yielded ops a.tmps) = true) (h1 : ∀ W, PreC X Y S ch w0 A k0 i W → Held facts (A.getD i 0) W → (execOp a.eval o).run P W = .ok (.value c) W) (h2 : dagOblC P X Y Z S ch k0 w0 ops A Q os ws (i + 1) facts (a.put o.dst c)) :
    dagOblC P X Y Z S ch k0 w0 ops A Q (o :: os) (.inl c :: ws) i facts a := ⟨fun W hx hh => by
      unfold opGives
      rw [if_pos hw, h1 W hx hh]
      exact ⟨⟨hX W, PhC.same hi W⟩, rfl⟩, h2⟩
/-- The operation runs to a value of which a relation is known (something is made; the writer). -/
theorem dagc_run {o : Oper} {os : List Oper} {ws : List Want} {i : Nat} {facts : List (Nat × (World → Prop))} {a : Act} (R : Value → World → Prop) (hst : ∀ v W W', (X W W' ∨ i ≠ k0 ∧ Z W W') → R v W → R v W') (hi : ch.contains i = false)
    (hw : Region.wanted o (yielded ops a.tmps) = true) (h1 : ∀ W, PreC X Y S ch w0 A k0 i W → Held facts (A.getD i 0) W → ∃ v W', (execOp a.eval o).run P W = .ok (.value v) W' ∧ (StepC X Z k0 i W W' ∧ ∀ p, S p W → S p W') ∧ R v W')
    (h2 : ∀ v, dagOblC P X Y Z S ch k0 w0 ops A Q os ws (i + 1) ((i, R v) :: facts) (a.put o.dst v)) :
    dagOblC P X Y Z S ch k0 w0 ops A Q (o :: os) (.inr R :: ws) i facts a := ⟨hst, fun W hx hh => by
      obtain ⟨v, W', hr, hs, hR⟩ := h1 W hx hh
      unfold opGives
      rw [if_pos hw, hr]
      exact ⟨⟨hs.1, PhC.off hi hs.2⟩, hR⟩, h2⟩
/-- A call of the chain whose value is known. -/
theorem dagc_call {o : Oper} {os : List Oper} {c : Value} {ws : List Want} {i : Nat} (p : Nat) {facts : List (Nat × (World → Prop))} {a : Act} {f : FuncId} {args : Array Value} (hi : ch.findIdx? (· == i) = some p) (hn : (List.range ch.length).all (fun q => !(ch.getD q 0 == i) || q == p) = true) (hg : ch[p]? = some i)
    (hw : Region.wanted o (yielded ops a.tmps) = true) (hr : ∀ W, (execOp a.eval o).run P W = .ok (.enter f args) W)
    (h1 : ∀ W, S p W → Calls P f args W (fun e W' => e = .returned c ∧ X W W' ∧ S (p + 1) W')) (h2 : dagOblC P X Y Z S ch k0 w0 ops A Q os ws (i + 1) facts (a.put o.dst c)) :
    dagOblC P X Y Z S ch k0 w0 ops A Q (o :: os) (.inl c :: ws) i facts a := ⟨fun W hx hh => by
      unfold opGives
      rw [if_pos hw, hr W]
      exact (h1 W (hx.2 p hg)).mono fun e W' ⟨he, hx', hs⟩ => ⟨c, he, ⟨hx', PhC.on hi hn hs⟩, rfl⟩, h2⟩
end
def rdI : Nat → RdV → RdV
  | 0, r => r
  | j + 1, r => rdI j (rdSum r).2
theorem rdI_succ : ∀ (j : Nat) (r : RdV), rdI (j + 1) r = (rdSum (rdI j r)).2
  | 0, _ => rfl
  | j + 1, r => rdI_succ j (rdSum r).2
theorem rdP_snoc : ∀ (j : Nat) (r : RdV), rdP (j + 1) r = rdP j r ++ [(rdSum (rdI j r)).1]
  | 0, _ => rfl
  | j + 1, r => by
    have := rdP_snoc j (rdSum r).2
    show (rdSum r).1 :: rdP (j + 1) (rdSum r).2 = (rdSum r).1 :: (rdP j (rdSum r).2 ++ _)
    rw [this]
    rfl
theorem rdP_len : ∀ (j : Nat) (r : RdV), (rdP j r).length = j
  | 0, _ => rfl
  | j + 1, r => by rw [rdP, List.length_cons, rdP_len j]
theorem lit_row {S : Nat → Prop} {W0 W : World} {x : Sm} {v : Value} (h : LitW W0 W x v) : SRow 6 RSm S W v [x] := by
  obtain ⟨b, rfl, h1, _⟩ := h
  refine ⟨[smCells x], some ⟨b, 0, none⟩, 1, fun c hc => ?_, rfl, Nat.le_refl _, by simp [maxLen], fun _ => ⟨_, _, rfl, fun j u hu => ?_⟩, Items.one (fun _ _ => rfl)⟩
  · rw [List.mem_singleton] at hc; subst hc; exact ⟨rfl, sm_one x⟩
  · rw [Nat.zero_add]
    have e : ([smCells x].flatten)[j]? = (smCells x).toArray[j]? := by simp
    rw [e] at hu
    unfold World.cell?
    rw [h1]
    exact hu
theorem sms_app_run {o : Oper} {a : Act} {x y : Operand} (ho : o.op = .call { callee := .builtin .append, args := #[x, y], argTypes := #[29, 29] }) {W0 W : World} {B : Nat} {vx vy : Value} {L : List Sm} {q : Sm} (ex : a.eval x = vx) (ey : a.eval y = vy)
    (hx : SmO 64 W B vx L) (hy : LitW W0 W q vy) (hl : L.length ≤ 1000) (hB : B ≤ W.heap.size) : ∃ v W', (execOp a.eval o).run Try.prog W = .ok (.value v) W' ∧ W.grownBy W' vx.ownBlock ∧ SmO 64 W' B v (L ++ [q]) := by
  obtain ⟨v, W', hr, h1, h2, _⟩ := run_append_items T.sms o.type hx (lit_row hy) (by simp [maxLen]; omega) (by simp; omega) hB
  exact ⟨v, W', run_op_append ho ex ey hr, h2, h1⟩
def pick7 (a b c d e f h : RdV) : Nat → RdV
  | 0 => a
  | 1 => b
  | 2 => c
  | 3 => d
  | 4 => e
  | 5 => f
  | _ => h
/-- What one sum read adds. -/
def AddedW (w0 W : World) (C : Nat) (cs : List Value) (v : Value) (L : List Sm) : Prop := SmO 64 W (C + 1) v L ∧ ObjAt W C 31 cs ∧ ObjAt W w0.heap.size 31 (wtC wt0 (.slice none 0 0)) ∧ Ext w0 W
theorem AddedW.kept {w0 W W' : World} {g C : Nat} {cs : List Value} {v : Value} {L : List Sm} (h : AddedW w0 W C cs v L) (hg : W.grownBy W' (some g)) (hgC : g < C) (hwg : w0.heap.size < g) : AddedW w0 W' C cs v L := by
  obtain ⟨h1, h2, h4, h3⟩ := h
  refine ⟨SmO.kept h1 hg (.inr fun e => ?_), h2.kept hg (fun e => ?_), h4.kept hg (fun e => ?_), h3.grown hg (by omega)⟩
  · have := (ORow.own h1 _ e).1; omega
  · have := Option.some.inj e; omega
  · have := Option.some.inj e; omega
theorem AddedW.store {w0 W : World} {g C : Nat} {s : Wt} {vo v : Value} {L : List Sm} (h : AddedW w0 W C (wtC s vo) v L) (hgC : g < C) (hwg : w0.heap.size < g) : AddedW w0 (W.setCell ⟨C, 4, none⟩ v) C (wtC s v) v L := by
  obtain ⟨h1, h2, h4, h3⟩ := h
  refine ⟨SmO.kept h1 (grown_set W ⟨C, 4, none⟩ v) (.inr fun e => ?_), h2.store 4 v, h4.far (p := ⟨C, 4, none⟩) (by show w0.heap.size ≠ C; omega) v, h3.store (p := ⟨C, 4, none⟩) (by show w0.heap.size ≤ C; omega) v⟩
  have : C + 1 ≤ C := (ORow.own h1 _ e).1
  omega
theorem stepc_x {X Z : World → World → Prop} {k i : Nat} {W W' : World} (h : X W W') (hi : i ≠ k) : StepC X Z k i W W' := by unfold StepC; rw [if_neg hi]; exact h
theorem stepc_z {X Z : World → World → Prop} {k : Nat} {W W' : World} (h : Z W W') : StepC X Z k k W W' := by unfold StepC; rw [if_pos rfl]; exact h
theorem added_run {o : Oper} {a : Act} {x y : Operand} (ho : o.op = .call { callee := .builtin .append, args := #[x, y], argTypes := #[29, 29] }) {w wr W : World} {g C : Nat} {cs : List Value} {vo vy : Value} {L : List Sm} {q : Sm} (ex : a.eval x = vo) (ey : a.eval y = vy)
    (hA : AddedW w wr C cs vo L) (hX : wr.grownBy W (some g)) (hgC : g < C) (hwg : w.heap.size < g) (hy : LitW wr W q vy) (hl : L.length ≤ 1000) :
    ∃ v W', (execOp a.eval o).run Try.prog W = .ok (.value v) W' ∧ (W.grownBy W' vo.ownBlock ∧ ∀ r, RdL W g r → RdL W' g r) ∧ AddedW w W' C cs v (L ++ [q]) := by
  obtain ⟨h1, h2, h4, h3⟩ := hA.kept hX hgC hwg
  have hlt := h2.lt
  obtain ⟨v, W', hr, hg, hv⟩ := sms_app_run ho ex ey h1 hy hl (by omega)
  have hown : ∀ j, vo.ownBlock = some j → g < j := fun j e => by have := (ORow.own h1 _ e).1; omega
  refine ⟨v, W', hr, ⟨hg, fun r hr => hr.kept hg hown⟩, hv, h2.kept hg (fun e => ?_), h4.kept hg (fun e => ?_), Below.grown h3 hg h3.size fun j e => by have := hown j e; omega⟩
  · have := (ORow.own h1 _ e.symm).1
    omega
  · have := hown _ e.symm
    omega
set_option maxRecDepth 20000 in
set_option maxHeartbeats 4000000 in
theorem wget_any (v : Value) (b : List UInt8) (w : World) (h : BV w v b) (hb : b.length ≤ 100000) :
    Calls Try.prog 24 #[v] w fun e w' => ∃ v', e = .returned (.tuple #[wtv (getW b).1 v', .int .i64 (getW b).2]) ∧ SmV w' v' (getW b).1.opn ∧ Ext w w' := by
  obtain ⟨p, c, rfl, hn, hcm, hs⟩ := id h
  have hx0 := Ext.alloc w (.cells #[.int .i64 0, .int .i64 0, .int .i64 0, .int .i64 0, .slice none 0 0] 31)
  have oA : ObjAt (w.alloc (.cells #[.int .i64 0, .int .i64 0, .int .i64 0, .int .i64 0, .slice none 0 0] 31)) w.heap.size 31 (wtC wt0 (.slice none 0 0)) := heap_alloc_new w _
  have hsz : (w.alloc (.cells #[.int .i64 0, .int .i64 0, .int .i64 0, .int .i64 0, .slice none 0 0] 31)).heap.size = w.heap.size + 1 := by simp
  have M0 := lnew_any _ b _ (h.ext hx0) (by omega)
  rw [hsz] at M0
  unfold getW headW
  simp only
  have N0 := fun g w h => lnum_any g ⟨b, 0⟩ w h
  have N1 := fun g w h => lnum_any g (numR ⟨b, 0⟩) w h
  have N2 := fun g w h => lnum_any g (numR (numR ⟨b, 0⟩)) w h
  have N3 := fun g w h => lnum_any g (numR (numR (numR ⟨b, 0⟩))) w h
  have N4 := fun g w h => lnum_any g (numR (numR (numR (numR ⟨b, 0⟩)))) w h
  generalize numR (numR (numR (numR (numR ⟨b, 0⟩)))) = r5 at *
  generalize numN (numR (numR (numR (numR ⟨b, 0⟩)))) = n4 at *
  generalize numR (numR (numR (numR ⟨b, 0⟩))) = r4 at *
  generalize numN (numR (numR (numR ⟨b, 0⟩))) = n3 at *
  generalize numR (numR (numR ⟨b, 0⟩)) = r3 at *
  generalize numN (numR (numR ⟨b, 0⟩)) = n2 at *
  generalize numR (numR ⟨b, 0⟩) = r2 at *
  generalize numN (numR ⟨b, 0⟩) = n1 at *
  generalize numR ⟨b, 0⟩ = r1 at *
  generalize numN ⟨b, 0⟩ = n0 at *
  obtain ⟨J, hJ⟩ : ∃ J, (if okW b ⟨n0, n1, n2, n3, rdP (manyW n4) r5⟩ = true then ((⟨n0, n1, n2, n3, rdP (manyW n4) r5⟩ : Wt), (0 : Int)) else (wt0, 4)) = J := ⟨_, rfl⟩
  rw [hJ]
  have HJ := Lib.hid hJ
  clear hJ
  have HB := Lib.hid hb
  have HBV := Lib.hid h
  have HMW : Hid (max 0 (min n4 257) = ((manyW n4 : Nat) : Int)) := Lib.hid (by unfold manyW; omega)
  have HML : Hid (manyW n4 ≤ 257) := Lib.hid (by unfold manyW; omega)
  have HSZ := Lib.hid hsz
  clear hsz hb hn hcm hs
  go_enter Try.func24, Try.ntmps24
  go_wp2_with (first
    | (go_at_call 53; have hq := hr5; refine (N4 _ _ hr5b).mono ?_; rintro e w6 ⟨rfl, hr6, hg6⟩
       have hxf := hxe.grown hg6 hgb
       have oC6 := oC5.kept hg6 (fun e => by have := Option.some.inj e; omega)
       have oA6 := oA5.kept hg6 hga)
    | (go_at_call 53; have hq := hr4; refine (N3 _ _ hr4).mono ?_; rintro e w5 ⟨rfl, hr5, hg5⟩
       have hlt5 : g < w5.heap.size := by obtain ⟨_, ho, _⟩ := hr5; exact ho.lt
       have hxd := (((hxa.grown hg2 hgb).grown hg3 hgb).grown hg4 hgb).grown hg5 hgb
       have hxe := hxd.trans (Ext.alloc w5 (.cells #[.int .i64 n0, .int .i64 n1, .int .i64 n2, .int .i64 n3, .slice none 0 0] 31))
       have hr5b := hr5.ext (Ext.alloc w5 (.cells #[.int .i64 n0, .int .i64 n1, .int .i64 n2, .int .i64 n3, .slice none 0 0] 31))
       have oC5 : ObjAt (w5.alloc (.cells #[.int .i64 n0, .int .i64 n1, .int .i64 n2, .int .i64 n3, .slice none 0 0] 31)) w5.heap.size 31 (wtC ⟨n0, n1, n2, n3, []⟩ (.slice none 0 0)) := heap_alloc_new w5 _
       have oA5 := (((((oA.ext hx1).kept hg2 hga).kept hg3 hga).kept hg4 hga).kept hg5 hga).ext (Ext.alloc w5 (.cells #[.int .i64 n0, .int .i64 n1, .int .i64 n2, .int .i64 n3, .slice none 0 0] 31)))
    | (go_at_call 53; have hq := hr3; refine (N2 _ _ hr3).mono ?_; rintro e w4 ⟨rfl, hr4, hg4⟩)
    | (go_at_call 53; have hq := hr2; refine (N1 _ _ hr2).mono ?_; rintro e w3 ⟨rfl, hr3, hg3⟩)
    | (go_at_call 53; refine (N0 _ _ hr1).mono ?_; rintro e w2 ⟨rfl, hr2, hg2⟩)
    | (go_at_call 52; refine M0.mono ?_; rintro e w1 ⟨g, rfl, hg, hr1, hx1⟩
       have hxa := hx0.trans hx1
       have hgb : w.heap.size ≤ g := by omega
       have hga : some w.heap.size ≠ some g := fun e => by have := Option.some.inj e; omega)
    | ((with_reducible show wpList _ _ _ (Oper.mk _ (Op.call { callee := Callee.builtin Builtin.min, args := _, argTypes := _ }) _ _ _ _ :: _) _ _); refine wpList_run rfl (run_min rfl rfl rfl _) ?_)
    | ((with_reducible show wpList _ _ _ (Oper.mk _ (Op.call { callee := Callee.builtin Builtin.max, args := _, argTypes := _ }) _ _ _ _ :: _) _ _); refine wpList_run rfl (run_max rfl rfl rfl _) ?_; rw [HMW.out]))
  have hlt6 : g < w5.heap.size := hlt5
  have hw6 : w5.heap.size < w6.heap.size := oC6.lt
  generalize hC : w5.heap.size = C at *
  have HGC := Lib.hid hlt6
  have HGB : Hid (w.heap.size < g) := Lib.hid (by have := HSZ.out; omega)
  have HA0 : Hid (∃ vo, AddedW w w6 C (wtC ⟨n0, n1, n2, n3, []⟩ vo) vo []) := Lib.hid ⟨_, ORow.nil _ _ _, oC6, oA6, hxf⟩
  have HR0 := Lib.hid hr6
  have HCG : Hid (some C ≠ some g) := Lib.hid fun e => by have := Option.some.inj e; omega
  have HAC : Hid (w.heap.size < C) := Lib.hid (by omega)
  clear hr1 hr2 hr3 hr4 hr5 hr5b hr6 hg2 hg3 hg4 hg5 hg6 hga hgb hxa hxd hxe hxf oC5 oC6 oA5 oA6 hlt5 hlt6 hw6 hC hx0 oA hx1 hg M0 N0 N1 N2 N3 N4
  clear HMW
  generalize manyW n4 = M at *
  go_loopg [23] (M) (fun k s23 wr => ∃ j : Nat, s23 = .int .i64 j ∧ j ≤ M ∧ k = M - j ∧ Hid (∃ vo, AddedW w wr C (wtC ⟨n0, n1, n2, n3, []⟩ vo) vo (rdP j r5)) ∧ Hid (RdL wr g (rdI j r5)))
  case atStart => exact ⟨0, rfl, Nat.zero_le _, rfl, HA0, HR0⟩
  case round =>
    obtain ⟨j, rfl, hj, hk, HAj, HRj⟩ := hrel
    by_cases hlt : j < M
    case pos =>
      have hi : (j : Int) < (M : Int) := by omega
      obtain ⟨vo, hA⟩ := HAj.out
      have hsn := rdP_snoc j r5
      have hsi := rdI_succ j r5
      have hlen := rdP_len j r5
      generalize hL1 : rdP (j + 1) r5 = L1 at *
      generalize hQ6 : rdI (j + 1) r5 = q6 at *
      have HL1 := Lib.hid hL1
      have HQ6 := Lib.hid hQ6
      clear hL1 hQ6
      generalize rdP j r5 = L at *
      have HR := HRj.out
      generalize rdI j r5 = r at *
      unfold rdSum at hsn hsi
      simp only at hsn hsi
      have T0 := fun W h => lrtext_any g r 64 W h
      have T1 := fun W h => lnum_any g (textR 64 r) W h
      have T2 := fun W h => lnum_any g (numR (textR 64 r)) W h
      have T3 := fun W h => lnum_any g (numR (numR (textR 64 r))) W h
      have T4 := fun W h => lnum_any g (numR (numR (numR (textR 64 r)))) W h
      have T5 := fun W h => lnum_any g (numR (numR (numR (numR (textR 64 r))))) W h
      rw [← hsi] at T5
      clear hsi
      generalize numN (numR (numR (numR (numR (textR 64 r))))) = k5 at *
      generalize numR (numR (numR (numR (textR 64 r)))) = q5 at *
      generalize numN (numR (numR (numR (textR 64 r)))) = k4 at *
      generalize numR (numR (numR (textR 64 r))) = q4 at *
      generalize numN (numR (numR (textR 64 r))) = k3 at *
      generalize numR (numR (textR 64 r)) = q3 at *
      generalize numN (numR (textR 64 r)) = k2 at *
      generalize numR (textR 64 r) = q2 at *
      generalize numN (textR 64 r) = k1 at *
      generalize textR 64 r = q1 at *
      generalize textL 64 r = key at *
      obtain ⟨po, co, e, _, _⟩ := hA.1.view.slice
      subst e
      have HC : Hid (ObjAt wr C 31 (wtC ⟨n0, n1, n2, n3, []⟩ (.slice po L.length co))) := Lib.hid hA.2.1
      have HLEN := Lib.hid hlen
      have HSN := Lib.hid hsn
      have HA := Lib.hid hA
      have HR' := Lib.hid HR
      have HGW : Hid (g < wr.heap.size) := Lib.hid (by obtain ⟨_, ho, _⟩ := HR; exact ho.lt)
      have HOW : Hid (∀ k, (Value.slice po L.length co).ownBlock = some k → k < wr.heap.size) := Lib.hid fun k e => (ORow.own hA.1 k e).2
      have HL1000 : Hid (L.length ≤ 1000) := Lib.hid (by have := HML.out; omega)
      clear hA hlen hsn HR
      go_wp2_with fail
      apply wp_region_dagC 16 18 [3, 5, 7, 9, 11, 13] (fun p W => RdL W g (pick7 r q1 q2 q3 q4 q5 q6 p)) (fun a b => a.grownBy b (Value.slice po L.length co).ownBlock) (fun _ _ => True) (X := fun a b => a.grownBy b (some g)) (by kernel_rfl) (by kernel_rfl) (by kernel_rfl) (by decide) (by decide) (fun _ _ _ => World.grownBy.trans) (fun _ _ _ _ _ => trivial) (fun _ _ _ => trivial) (fun _ _ _ => trivial) ((Ext.drew1 _).grownBy _) (by kernel_rfl) (HR'.out.ext (Ext.drew1 _))
      simp only [List.take_succ_cons, List.take_zero, List.drop_succ_cons, List.drop_zero]
      apply dagc_val (fun _ => World.grownBy.refl _ _) rfl rfl (by intro W hW H; go_simp <;> rfl)
      simp only [Act.put, List.setIfInBounds_toArray, List.set_cons_zero, List.set_cons_succ]
      apply dagc_val (fun _ => World.grownBy.refl _ _) rfl rfl (by intro W hW H; have q := (HC.out.kept (hW.1.2 (by kernel_rfl)) HCG.out).cell (j := 4) (u := .slice po L.length co) rfl; go_simp <;> rfl)
      simp only [Act.put, List.setIfInBounds_toArray, List.set_cons_zero, List.set_cons_succ]
      apply dagc_val (fun _ => World.grownBy.refl _ _) rfl rfl (by intro W hW H; go_simp <;> rfl)
      simp only [Act.put, List.setIfInBounds_toArray, List.set_cons_zero, List.set_cons_succ]
      refine' dagc_call 0 (c := .string ⟨key.toArray⟩) (f := 54) (args := #[.pointer (some ⟨g, 0, none⟩), .int .i64 64]) rfl rfl rfl rfl (by intro W; go_simp <;> rfl) (fun W hW => (T0 W hW).mono (by rintro e w' ⟨rfl, h1, h2⟩; exact ⟨rfl, h2, h1⟩)) _
      rotate_left
      simp only [Act.put, List.setIfInBounds_toArray, List.set_cons_zero, List.set_cons_succ]
      apply dagc_val (fun _ => World.grownBy.refl _ _) rfl rfl (by intro W hW H; go_simp <;> rfl)
      simp only [Act.put, List.setIfInBounds_toArray, List.set_cons_zero, List.set_cons_succ]
      refine' dagc_call 1 (c := .int .i64 k1) (f := 53) (args := #[.pointer (some ⟨g, 0, none⟩)]) rfl rfl rfl rfl (by intro W; go_simp <;> rfl) (fun W hW => (T1 W hW).mono (by rintro e w' ⟨rfl, h1, h2⟩; exact ⟨rfl, h2, h1⟩)) _
      rotate_left
      simp only [Act.put, List.setIfInBounds_toArray, List.set_cons_zero, List.set_cons_succ]
      apply dagc_val (fun _ => World.grownBy.refl _ _) rfl rfl (by intro W hW H; go_simp <;> rfl)
      simp only [Act.put, List.setIfInBounds_toArray, List.set_cons_zero, List.set_cons_succ]
      refine' dagc_call 2 (c := .int .i64 k2) (f := 53) (args := #[.pointer (some ⟨g, 0, none⟩)]) rfl rfl rfl rfl (by intro W; go_simp <;> rfl) (fun W hW => (T2 W hW).mono (by rintro e w' ⟨rfl, h1, h2⟩; exact ⟨rfl, h2, h1⟩)) _
      rotate_left
      simp only [Act.put, List.setIfInBounds_toArray, List.set_cons_zero, List.set_cons_succ]
      apply dagc_val (fun _ => World.grownBy.refl _ _) rfl rfl (by intro W hW H; go_simp <;> rfl)
      simp only [Act.put, List.setIfInBounds_toArray, List.set_cons_zero, List.set_cons_succ]
      refine' dagc_call 3 (c := .int .i64 k3) (f := 53) (args := #[.pointer (some ⟨g, 0, none⟩)]) rfl rfl rfl rfl (by intro W; go_simp <;> rfl) (fun W hW => (T3 W hW).mono (by rintro e w' ⟨rfl, h1, h2⟩; exact ⟨rfl, h2, h1⟩)) _
      rotate_left
      simp only [Act.put, List.setIfInBounds_toArray, List.set_cons_zero, List.set_cons_succ]
      apply dagc_val (fun _ => World.grownBy.refl _ _) rfl rfl (by intro W hW H; go_simp <;> rfl)
      simp only [Act.put, List.setIfInBounds_toArray, List.set_cons_zero, List.set_cons_succ]
      refine' dagc_call 4 (c := .int .i64 k4) (f := 53) (args := #[.pointer (some ⟨g, 0, none⟩)]) rfl rfl rfl rfl (by intro W; go_simp <;> rfl) (fun W hW => (T4 W hW).mono (by rintro e w' ⟨rfl, h1, h2⟩; exact ⟨rfl, h2, h1⟩)) _
      rotate_left
      simp only [Act.put, List.setIfInBounds_toArray, List.set_cons_zero, List.set_cons_succ]
      apply dagc_val (fun _ => World.grownBy.refl _ _) rfl rfl (by intro W hW H; go_simp <;> rfl)
      simp only [Act.put, List.setIfInBounds_toArray, List.set_cons_zero, List.set_cons_succ]
      refine' dagc_call 5 (c := .int .i64 k5) (f := 53) (args := #[.pointer (some ⟨g, 0, none⟩)]) rfl rfl rfl rfl (by intro W; go_simp <;> rfl) (fun W hW => (T5 W hW).mono (by rintro e w' ⟨rfl, h1, h2⟩; exact ⟨rfl, h2, h1⟩)) _
      rotate_left
      simp only [Act.put, List.setIfInBounds_toArray, List.set_cons_zero, List.set_cons_succ]
      apply dagc_val (fun _ => World.grownBy.refl _ _) rfl rfl (by intro W hW H; go_simp <;> rfl)
      simp only [Act.put, List.setIfInBounds_toArray, List.set_cons_zero, List.set_cons_succ]
      refine' dagc_run (fun v W => LitW wr W ⟨k1, key, k2, k3, k4, k5⟩ v) ?stv5 ?hiv5 ?hwv5 ?runv5 (fun v5 => ?nxv5)
      case stv5 => exact fun v W1 W2 hs h => hs.elim (fun hx => h.grown hx fun j e => by cases e; exact HGW.out) fun hz => h.grown hz.2 HOW.out
      case hiv5 => exact rfl
      case hwv5 => exact rfl
      case runv5 => exact (fun W hW H => ⟨.slice (some ⟨W.heap.size, 0, none⟩) 1 1, W.alloc (.cells (smCells ⟨k1, key, k2, k3, k4, k5⟩).toArray 64), (by unfold smCells; go_simp <;> rfl), ⟨stepc_x ((Ext.alloc _ _).grownBy _) (by decide), fun p hp => hp.ext (Ext.alloc _ _)⟩, ⟨_, rfl, heap_alloc_new _ _, (hW.1.2 (by kernel_rfl)).size⟩⟩)
      case' nxv5 => simp only [Act.put, List.setIfInBounds_toArray, List.set_cons_zero, List.set_cons_succ]
      refine' dagc_run (fun v W => AddedW w W C (wtC ⟨n0, n1, n2, n3, []⟩ (.slice po L.length co)) v (L ++ [⟨k1, key, k2, k3, k4, k5⟩])) ?stv6 ?hiv6 ?hwv6 ?runv6 (fun v6 => ?nxv6)
      case stv6 => exact fun v W1 W2 hs h => hs.elim (fun hx => h.kept hx HGC.out HGB.out) fun hz => absurd rfl hz.1
      case hiv6 => exact rfl
      case hwv6 => exact rfl
      case runv6 => exact (fun W hW H => (added_run (vo := .slice po L.length co) (vy := v5) rfl rfl rfl HA.out (hW.1.2 (by kernel_rfl)) HGC.out HGB.out (show LitW wr W ⟨k1, key, k2, k3, k4, k5⟩ v5 from H 15 (by kernel_rfl)) HL1000.out).imp fun v hv => hv.imp fun W' hw => ⟨hw.1, ⟨stepc_z hw.2.1.1, fun p => hw.2.1.2 _⟩, hw.2.2⟩)
      case' nxv6 => simp only [Act.put, List.setIfInBounds_toArray, List.set_cons_zero, List.set_cons_succ]
      apply dagc_val (fun _ => World.grownBy.refl _ _) rfl rfl (by intro W hW H; go_simp <;> rfl)
      simp only [Act.put, List.setIfInBounds_toArray, List.set_cons_zero, List.set_cons_succ]
      refine dagc_end fun W H hS => ?_
      have h6 : AddedW w W C (wtC ⟨n0, n1, n2, n3, []⟩ (.slice po L.length co)) v6 (L ++ [⟨k1, key, k2, k3, k4, k5⟩]) := H 16
      have hS6 : RdL W g q6 := hS
      clear H hS
      obtain ⟨p6, d6, e6, _, _⟩ := h6.1.view.slice
      have hst := h6.store HGC.out HGB.out
      have c4 := h6.2.1.cell (j := 4) (u := .slice po L.length co) rfl
      have f4 := h6.2.1.free 4
      have hr6 := hS6.kept (grown_set W ⟨C, 4, none⟩ v6) (fun j e => by cases e; exact HGC.out)
      rw [← HSN.out] at e6 hst
      subst e6
      have HST := Lib.hid hst
      have HR6 := Lib.hid hr6
      have hq3 : wrap64 ((j : Int) + 1) = ((j + 1 : Nat) : Int) := by have := HML.out; unfold wrap64; omega
      have HQ3 := Lib.hid hq3
      clear hst hr6 hq3 h6 hS6
      go_wp2_with fail
      go_roundg (M - (j + 1))
      case measure => omega
      case rel =>
        have hF : ∃ vo, AddedW w (W.setCell ⟨C, 4, none⟩ (.slice p6 L1.length d6)) C (wtC ⟨n0, n1, n2, n3, []⟩ vo) vo (rdP (j + 1) r5) := ⟨.slice p6 L1.length d6, by rw [HL1.out]; exact HST.out⟩
        exact ⟨j + 1, congrArg (Value.int .i64) HQ3.out, hlt, rfl, Lib.hid hF, HQ6.out ▸ HR6⟩
    case neg =>
      have hje : j = M := by omega
      subst hje
      have hi : ¬ (j : Int) < (j : Int) := by omega
      clear hlt
      obtain ⟨vo, h1, h2, h4, h3⟩ := HAj.out
      have hl := rdP_len j r5
      generalize rdP j r5 = LL at *
      obtain ⟨po, co, e, _, _⟩ := h1.view.slice
      have P1 := wput_any ⟨n0, n1, n2, n3, LL⟩ vo wr (SmO.view h1) (by have := HML.out; show LL.length ≤ 100000; omega)
      generalize LL.length = n at e
      subst e
      have oCj := h2
      have oAj := h4
      have c0 := oCj.cell (j := 0) (u := .int .i64 n0) rfl
      have c1 := oCj.cell (j := 1) (u := .int .i64 n1) rfl
      have c2 := oCj.cell (j := 2) (u := .int .i64 n2) rfl
      have c3 := oCj.cell (j := 3) (u := .int .i64 n3) rfl
      have c4 := oCj.cell (j := 4) (u := .slice po n co) rfl
      have HXJ := Lib.hid h3
      have HSO := Lib.hid h1
      have hJ := HJ.out
      clear HAj h1 h2 h3 h4 hl HJ
      unfold okW at hJ
      by_cases hc : checkW ⟨n0, n1, n2, n3, LL⟩ = 0
      case neg =>
        have e2 : putE ⟨n0, n1, n2, n3, LL⟩ = ([], checkW ⟨n0, n1, n2, n3, LL⟩) := by unfold putE; rw [if_pos hc]
        rw [e2] at P1
        have hce : (checkW ⟨n0, n1, n2, n3, LL⟩ == 0) = false := by rw [beq_eq_false_iff_ne]; exact hc
        rw [hce, Bool.false_and, if_neg (by simp)] at hJ
        subst hJ
        have hz : (checkW ⟨n0, n1, n2, n3, LL⟩ != 0) = true := by rw [bne_iff_ne]; exact hc
        clear hc hce e2
        simp only at P1
        generalize checkW ⟨n0, n1, n2, n3, LL⟩ = er at *
        go_wp2_with (first
          | (go_at_call 22; refine P1.mono ?_; rintro e wp ⟨bv, rfl, hbv, hxp⟩
             have oAp := oAj.ext hxp
             have oCp := oCj.ext hxp
             have d0 := oCp.cell (j := 0) (u := .int .i64 n0) rfl
             have d1 := oCp.cell (j := 1) (u := .int .i64 n1) rfl
             have d2 := oCp.cell (j := 2) (u := .int .i64 n2) rfl
             have d3 := oCp.cell (j := 3) (u := .int .i64 n3) rfl
             have d4 := oCp.cell (j := 4) (u := .slice po n co) rfl
             have HBW := Lib.hid hbv
             have HXP := Lib.hid (HXJ.out.trans hxp)
             have HSP := Lib.hid ((SmO.view HSO.out).ext hxp)
             clear hbv)
          | (go_at_call 55; refine (bequal_any _ b _ ([] : List UInt8) _ (HBV.out.ext HXP.out) HBW.out).mono ?_; rintro e w' ⟨rfl, rfl⟩)
          | ((with_reducible show wpList _ _ _ (Oper.mk _ (Op.store _ _ _) _ _ _ _ :: _) _ _); refine st_put (vs := wtC wt0 (.slice none 0 0)) oAp T.wtSize rfl (wt_one wt0 rfl) ?_; intro w4 ob4 hg4))
        refine bodyPost_ret (wt_results2 rfl _ _ w.heap.size wt0 _ rfl ob4) rfl ?_
        exact ⟨_, rfl, sm_nil _, HXP.out.grown hg4 (Nat.le_refl _)⟩
      have e2 : putE ⟨n0, n1, n2, n3, LL⟩ = (putW ⟨n0, n1, n2, n3, LL⟩, 0) := by unfold putE; rw [if_neg (by simp [hc])]
      rw [e2] at P1
      simp only at P1
      have hce : (checkW ⟨n0, n1, n2, n3, LL⟩ == 0) = true := by rw [hc]; rfl
      rw [hce, Bool.true_and] at hJ
      clear hce hc e2
      generalize putW ⟨n0, n1, n2, n3, LL⟩ = pw at *
      by_cases heq : pw = b
      case neg =>
        have hz : (b == pw) = false := by rw [beq_eq_false_iff_ne]; exact fun e => heq e.symm
        rw [if_neg (by simp [heq])] at hJ
        subst hJ
        clear heq
        go_wp2_with (first
          | (go_at_call 22; refine P1.mono ?_; rintro e wp ⟨bv, rfl, hbv, hxp⟩
             have oAp := oAj.ext hxp
             have oCp := oCj.ext hxp
             have d0 := oCp.cell (j := 0) (u := .int .i64 n0) rfl
             have d1 := oCp.cell (j := 1) (u := .int .i64 n1) rfl
             have d2 := oCp.cell (j := 2) (u := .int .i64 n2) rfl
             have d3 := oCp.cell (j := 3) (u := .int .i64 n3) rfl
             have d4 := oCp.cell (j := 4) (u := .slice po n co) rfl
             have HBW := Lib.hid hbv
             have HXP := Lib.hid (HXJ.out.trans hxp)
             have HSP := Lib.hid ((SmO.view HSO.out).ext hxp)
             clear hbv)
          | (go_at_call 55; refine (bequal_any _ b _ pw _ (HBV.out.ext HXP.out) HBW.out).mono ?_; rintro e w' ⟨rfl, rfl⟩)
          | ((with_reducible show wpList _ _ _ (Oper.mk _ (Op.store _ _ _) _ _ _ _ :: _) _ _); refine st_put (vs := wtC wt0 (.slice none 0 0)) oAp T.wtSize rfl (wt_one wt0 rfl) ?_; intro w4 ob4 hg4))
        refine bodyPost_ret (wt_results2 rfl _ _ w.heap.size wt0 _ rfl ob4) rfl ?_
        exact ⟨_, rfl, sm_nil _, HXP.out.grown hg4 (Nat.le_refl _)⟩
      case pos =>
        have hz : (b == pw) = true := by simp [heq]
        rw [if_pos (by simp [heq])] at hJ
        subst hJ
        clear heq
        go_wp2_with (first
          | (go_at_call 22; refine P1.mono ?_; rintro e wp ⟨bv, rfl, hbv, hxp⟩
             have oAp := oAj.ext hxp
             have oCp := oCj.ext hxp
             have d0 := oCp.cell (j := 0) (u := .int .i64 n0) rfl
             have d1 := oCp.cell (j := 1) (u := .int .i64 n1) rfl
             have d2 := oCp.cell (j := 2) (u := .int .i64 n2) rfl
             have d3 := oCp.cell (j := 3) (u := .int .i64 n3) rfl
             have d4 := oCp.cell (j := 4) (u := .slice po n co) rfl
             have HBW := Lib.hid hbv
             have HXP := Lib.hid (HXJ.out.trans hxp)
             have HSP := Lib.hid ((SmO.view HSO.out).ext hxp)
             clear hbv)
          | (go_at_call 55; refine (bequal_any _ b _ pw _ (HBV.out.ext HXP.out) HBW.out).mono ?_; rintro e w' ⟨rfl, rfl⟩)
          | ((with_reducible show wpList _ _ _ (Oper.mk _ (Op.store _ _ _) _ _ _ _ :: _) _ _); refine st_put (vs := wtC ⟨n0, n1, n2, n3, LL⟩ (.slice po n co)) oAp T.wtSize rfl (wt_one ⟨n0, n1, n2, n3, LL⟩ rfl) ?_; intro w4 ob4 hg4))
        refine bodyPost_ret (wt_results2 rfl _ _ w.heap.size ⟨n0, n1, n2, n3, LL⟩ _ rfl ob4) rfl ?_
        refine ⟨_, rfl, SmO.view (SmO.kept (ORow.keep HSO.out hxp) hg4 (.inr fun e => ?_)), HXP.out.grown hg4 (Nat.le_refl _)⟩
        have h1 := (ORow.own HSO.out _ e).1
        have h2 := HAC.out
        omega
end Go.Proofs.Ytpejdompanhieaa
