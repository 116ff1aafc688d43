/- WindowBack of layer 35: the law answers true. -/
import Derived.Test.YtpejdompanhieaaReads35
import Derived.Test.YtpejdompanhieaaWnV
import Derived.Test.YtpejdompanhieaaDagL
namespace Go.Proofs.Ytpejdompanhieaa
open Go.RowKit

theorem fd_at {S : Nat → Prop} {w : World} {p : Option Addr} {n c : Nat} {xs : List Fd} (h : SRow 3 RFd S w (.slice p n c) xs) {j : Nat} (hj : j < xs.length) : ∃ b o, p = some ⟨b, o, none⟩ ∧ w.cell? ⟨b, o + j * 3, none⟩ = some (.string ⟨xs[j].key.toArray⟩) ∧ w.cell? ⟨b, o + j * 3 + 1, none⟩ = some (.int .i64 xs[j].time) ∧ w.cell? ⟨b, o + j * 3 + 2, none⟩ = some (.int .i64 xs[j].n) := by
  obtain ⟨b, o, cs, e, _, hc, hu⟩ := h.cells (by decide) hj
  have e2 : cs = fdCells xs[j] := hu.now
  subst e2
  exact ⟨b, o, e, hc 0 _ rfl, hc 1 _ rfl, hc 2 _ rfl⟩
theorem feedP_ok0 {s T : Wt} {key : List UInt8} {time n : Int} {O : List Sm} (h : feedP s key time n = (T, O, 0)) : feedW s key time n = (T, O, 0) := by
  unfold feedP at h
  by_cases he : (feedW s key time n).2.2 ≠ 0
  · rw [if_pos he] at h
    injection h with _ h2
    injection h2 with _ h3
    exact absurd h3 he
  · rw [if_neg he] at h
    exact h
theorem putW_len {s : Wt} (h : checkW s = 0) : (putW s).length ≤ 100000 := by
  obtain ⟨b1, b2, b3, b4, b5, b6, b7, b8, b9, b10, b11⟩ := checkW_ok h
  rw [putW_eq, List.length_append]
  have h1 := putsV_len (headL s)
  have h2 := sumsV_len b10
  have e : (headL s).length = 5 := rfl
  omega
/-- What a call of Feed tells, as one value. -/
def FedV (W : World) (T : Wt) (O : List Sm) (er : Int) (v : Value) : Prop := ∃ p c q d, v = .tuple #[wtv T (.slice p T.opn.length c), .slice q O.length d, .int .i64 er] ∧ SmV W (.slice p T.opn.length c) T.opn ∧ SmV W (.slice q O.length d) O
theorem FedV.ext {W W' : World} {T : Wt} {O : List Sm} {er : Int} {v : Value} (h : FedV W T O er v) (hx : Ext W W') : FedV W' T O er v := by
  obtain ⟨p, c, q, d, e, h1, h2⟩ := h
  exact ⟨p, c, q, d, e, h1.ext hx, h2.ext hx⟩
theorem fed_call {W : World} {s T : Wt} {v : Value} {key : List UInt8} {time n : Int} {O : List Sm} {er : Int} (h : SmV W v s.opn) (hl : s.opn.length ≤ 100000) (e : feedP s key time n = (T, O, er)) : Calls Try.prog 10 #[wtv s v, .string ⟨key.toArray⟩, .int .i64 time, .int .i64 n] W fun e w' => ∃ r, e = .returned r ∧ FedV w' T O er r ∧ Ext W w' := by
  refine (feed_any s v key time n W h hl).mono ?_
  rw [e]
  rintro e w' ⟨v', lv, rfl, h1, h2, h3⟩
  obtain ⟨p, c, rfl, _, _⟩ := h1.slice
  obtain ⟨q, d, rfl, _, _⟩ := h2.slice
  exact ⟨_, rfl, ⟨p, c, q, d, rfl, h1, h2⟩, h3⟩
/-- A box of the region's own is written over. -/
def ZBox (n : Nat) (W W' : World) : Prop := ∃ g cs cs', ObjAt W g 31 cs ∧ (∀ u ∈ cs, ∀ b, u ≠ .string b) ∧ ObjAt W' g 31 cs' ∧ (∀ u ∈ cs', ∀ b, u ≠ .string b) ∧ cs'.length = 5 ∧ W.grownBy W' (some g) ∧ n ≤ g
def YBox (n : Nat) (W W' : World) : Prop := n ≤ W.heap.size → Below n W W' ∧ n ≤ W'.heap.size
theorem YBox.trans {n : Nat} {a b c : World} (h : YBox n a b) (k : YBox n b c) : YBox n a c := fun ha => ⟨(h ha).1.trans (k (h ha).2).1, (k (h ha).2).2⟩
theorem YBox.x {n : Nat} {a b : World} (h : Ext a b) : YBox n a b := fun ha => ⟨h.below ha, Nat.le_trans ha h.size⟩
theorem YBox.z {n : Nat} {a b : World} (h : ZBox n a b) : YBox n a b := fun ha => by
  obtain ⟨g, cs, cs', h1, h2, h3, h4, h5, h6, h7⟩ := h
  exact ⟨Below.grown (Below.refl n a) h6 ha fun k e => by cases e; exact h7, Nat.le_trans ha h6.size⟩
theorem YBox.ext {W0 W : World} (h : YBox W0.heap.size W0 W) : Ext W0 W := (h (Nat.le_refl _)).1
/-- A box of the region's own. -/
def BoxV (n : Nat) (W : World) (v : Value) : Prop := ∃ g cs, v = .pointer (some ⟨g, 0, none⟩) ∧ ObjAt W g 31 cs ∧ (∀ u ∈ cs, ∀ b, u ≠ .string b) ∧ cs.length = 5 ∧ n ≤ g
theorem BoxV.step {n : Nat} {W W' : World} {v : Value} {i k : Nat} (hs : Ext W W' ∨ i ≠ k ∧ ZBox n W W') (h : BoxV n W v) : BoxV n W' v := by
  obtain ⟨g, cs, e, h1, h2, h3, h4⟩ := h
  rcases hs with hx | ⟨_, g', cs0, cs', z1, z2, z3, z4, z5, z6, z7⟩
  · exact ⟨g, cs, e, h1.ext hx, h2, h3, h4⟩
  · by_cases hg : g = g'
    · subst hg
      exact ⟨g, cs', e, z3, z4, z5, h4⟩
    · exact ⟨g, cs, e, h1.kept z6 (fun e => hg (Option.some.inj e)), h2, h3, h4⟩
theorem SmV.zbox {n : Nat} {W W' : World} {v : Value} {l : List Sm} (h : SmV W v l) (hz : ZBox n W W') : SmV W' v l := by
  obtain ⟨g, cs, cs', h1, h2, h3, h4, h5, h6, h7⟩ := hz
  exact SmV.apart h h1 h2 h6
theorem SmV.step {n : Nat} {W W' : World} {v : Value} {l : List Sm} {i k : Nat} (hs : Ext W W' ∨ i ≠ k ∧ ZBox n W W') (h : SmV W v l) : SmV W' v l := hs.elim (fun hx => h.ext hx) fun hz => SmV.zbox h hz.2
theorem FedV.step {n : Nat} {W W' : World} {T : Wt} {O : List Sm} {er : Int} {v : Value} {i k : Nat} (hs : Ext W W' ∨ i ≠ k ∧ ZBox n W W') (h : FedV W T O er v) : FedV W' T O er v := by
  obtain ⟨p, c, q, d, e, h1, h2⟩ := h
  exact ⟨p, c, q, d, e, SmV.step hs h1, SmV.step hs h2⟩
theorem stepy_x {Z : World → World → Prop} {k i : Nat} {W W' : World} (h : Ext W W') (hi : i ≠ k) : StepY Ext Z k i W W' := by unfold StepY; rw [if_neg hi]; exact h
theorem stepy_z {X Z : World → World → Prop} {k : Nat} {W W' : World} (h : Z W W') : StepY X Z k k W W' := by unfold StepY; rw [if_pos rfl]; exact h
theorem box_store {o : Oper} {a : Act} {x y : Operand} {n : Nat} {W : World} {T : Wt} {vb vr : Value} (ho : o.op = .store 31 x y) (ex : a.eval x = vb) (ey : a.eval y = vr) (hB : BoxV n W vb) (hR : ∃ p n c, vr = wtv T (.slice p n c)) :
    ∃ W', (execOp a.eval o).run Try.prog W = .ok .skip W' ∧ ZBox n W W' ∧ ∃ g p n' c, vb = .pointer (some ⟨g, 0, none⟩) ∧ vr = wtv T (.slice p n' c) ∧ ObjAt W' g 31 (wtC T (.slice p n' c)) ∧ n ≤ g := by
  obtain ⟨g, cs, rfl, h1, h2, h3, h4⟩ := hB
  obtain ⟨p, n', c, rfl⟩ := hR
  obtain ⟨W', r1, r2, g', e, r3, r4⟩ := fupd_store (P := Try.prog) (vs := wtC T (.slice p n' c)) (cs := cs) ho ex ey Go.Proofs.Ytpejdompanhieaa.T.wtSize (by rw [h3]; rfl) (wt_one T rfl) ⟨g, rfl, h4, h1⟩
  injection e with e
  injection e with e
  injection e with e _ _
  subst e
  exact ⟨W', r1, ⟨g, cs, _, h1, h2, r4, wt_nos T _ _ _, rfl, r2, h4⟩, g, p, n', c, rfl, rfl, r4, h4⟩
theorem wtv_inj {T : Wt} {p q : Option Addr} {n c n' c' : Nat} (h : wtv T (.slice p n c) = wtv T (.slice q n' c')) : p = q ∧ n = n' ∧ c = c' := by
  injection h with h
  simp at h
  exact h
theorem box_storeL {o : Oper} {a : Act} {x y : Operand} {W0 W : World} {T : Wt} {vb vr : Value} (ho : o.op = .store 31 x y) (ex : a.eval x = vb) (ey : a.eval y = vr) (hB : BoxV W0.heap.size W vb) (hR : ∃ p c, vr = wtv T (.slice p T.opn.length c) ∧ SmV W (.slice p T.opn.length c) T.opn) (hY : YBox W0.heap.size W0 W) :
    ∃ W', (execOp a.eval o).run Try.prog W = .ok .skip W' ∧ ZBox W0.heap.size W W' ∧ ∃ g p c, vb = .pointer (some ⟨g, 0, none⟩) ∧ ObjAt W' g 31 (wtC T (.slice p T.opn.length c)) ∧ SmV W' (.slice p T.opn.length c) T.opn ∧ W0.heap.size ≤ g ∧ Ext W0 W' := by
  obtain ⟨p, c, e, hR⟩ := hR
  obtain ⟨W', b1, b2, g, p2, n2, c2, b3, b4, b5, b6⟩ := box_store ho ex ey hB ⟨p, _, c, e⟩
  rw [e] at b4
  obtain ⟨rfl, rfl, rfl⟩ := wtv_inj b4
  exact ⟨W', b1, b2, g, p, c, b3, b5, SmV.zbox hR b2, b6, (YBox.trans hY (YBox.z b2)).ext⟩
theorem store_at {o : Oper} {a : Act} {x y : Operand} {W0 W : World} {A k i : Nat} {T : Wt} {vr : Value} {p : Option Addr} {n c : Nat} {cs : List Value} (hik : i = k) (ho : o.op = .store 31 x y) (ex : a.eval x = .pointer (some ⟨A, 0, none⟩)) (ey : a.eval y = vr) (e : vr = wtv T (.slice p n c)) (hO : ObjAt W0 A 31 cs) (hl : cs.length = 5) (hX : Ext W0 W) :
    ∃ W', (execOp a.eval o).run Try.prog W = .ok .skip W' ∧ StepY Ext (fun a b => a.grownBy b (some A)) k i W W' ∧ ObjAt W' A 31 (wtC T (.slice p n c)) ∧ W0.grownBy W' (some A) := by
  subst e
  obtain ⟨W', r1, r2, g', e, r3, r4⟩ := fupd_store (P := Try.prog) (vs := wtC T (.slice p n c)) (cs := cs) (n := 0) ho ex ey Go.Proofs.Ytpejdompanhieaa.T.wtSize (by rw [hl]; rfl) (wt_one T rfl) ⟨A, rfl, Nat.zero_le _, hO.ext hX⟩
  injection e with e
  injection e with e
  injection e with e _ _
  subst e
  exact ⟨W', r1, by subst hik; exact stepy_z r2, r4, (hX.grownBy _).trans r2⟩
/-- Two states that are one, in their boxes. -/
def BackI (w wr : World) (A B : Nat) (s : Wt) (p : Option Addr) (c : Nat) (p' : Option Addr) (c' : Nat) : Prop :=
  ObjAt wr A 31 (wtC s (.slice p s.opn.length c)) ∧ ObjAt wr B 31 (wtC s (.slice p' s.opn.length c')) ∧ SmV wr (.slice p s.opn.length c) s.opn ∧ SmV wr (.slice p' s.opn.length c') s.opn ∧ checkW s = 0 ∧ Ext w wr
theorem BackI.ext {w wr W : World} {A B : Nat} {s : Wt} {p : Option Addr} {c : Nat} {p' : Option Addr} {c' : Nat} (h : BackI w wr A B s p c p' c') (hx : Ext wr W) : BackI w W A B s p c p' c' :=
  ⟨h.1.ext hx, h.2.1.ext hx, h.2.2.1.ext hx, h.2.2.2.1.ext hx, h.2.2.2.2.1, h.2.2.2.2.2.trans hx⟩
set_option maxRecDepth 20000 in
set_option maxHeartbeats 8000000 in
theorem windowBack_walk (size : Nat) (v : Value) (l : List Fd) (cut : Nat) (w : World) (hs : size < 256) (h : FdV w v l) (hcut : cut < 256) :
    Calls Try.prog 6 #[.int .u8 (size : Int), v, .int .u8 (cut : Int)] w fun e w' => e = .returned (.bool true) ∧ Below w.heap.size w w' := by
  obtain ⟨q, c, rfl, _, _⟩ := h.slice
  by_cases hln : l.length ≤ 40
  case neg =>
    have hi2 : decide ((40 : Int) < (l.length : Int)) = true := by rw [decide_eq_true_eq]; omega
    clear hln
    go_enter Try.func6, Try.ntmps6
    go_wp2_with (go_at_call 8; refine (awake_any _).mono ?_; rintro e w3 ⟨rfl, hx3⟩)
    go_ret
    exact ⟨rfl, hx3⟩
  have hi2 : decide ((40 : Int) < (l.length : Int)) = false := by rw [decide_eq_false_iff_not]; omega
  obtain ⟨hnw, hO⟩ := OnceI.start (1 + (size : Int)) 7 (by omega) (by omega)
  have N1 := fun W => wnew_any (1 + (size : Int)) 7 W
  rw [hnw] at N1
  have hw1 : wrap64 (size : Int) = (size : Int) := by unfold wrap64; omega
  have hw2 : wrap64 (1 + (size : Int)) = 1 + (size : Int) := by unfold wrap64; omega
  have hw3 : wrap64 (cut : Int) = (cut : Int) := by unfold wrap64; omega
  have HCK0 := Lib.hid hO.chk
  have HV := Lib.hid h
  have HLN := Lib.hid hln
  clear hnw hO hln h
  go_enter Try.func6, Try.ntmps6
  go_wp2_with (first
    | (go_at_call 14; refine (N1 _).mono ?_; rintro e w1 ⟨rfl, hx1⟩
       obtain ⟨oA, oB, hx2, hsz⟩ := objs2 w1 31 31 (wtC ⟨1 + (size : Int), 7, -1, 0, []⟩ (.slice none 0 0)) (wtC ⟨1 + (size : Int), 7, -1, 0, []⟩ (.slice none 0 0))
       have a : ObjAt (w1.alloc (.cells #[.int .i64 (1 + (size : Int)), .int .i64 7, .int .i64 (-1), .int .i64 0, .slice none 0 0] 31)) w1.heap.size 31 (wtC ⟨1 + (size : Int), 7, -1, 0, []⟩ (.slice none 0 0)) := heap_alloc_new w1 _
       have a0 := a.cell (j := 0) rfl
       have a1 := a.cell (j := 1) rfl
       have a2 := a.cell (j := 2) rfl
       have a3 := a.cell (j := 3) rfl
       have a4 := a.cell (j := 4) rfl
       have HBI := Lib.hid (show BackI w _ w1.heap.size (w1.heap.size + 1) ⟨1 + (size : Int), 7, -1, 0, []⟩ none 0 none 0 from ⟨oA, oB, sm_nil _, sm_nil _, HCK0.out, hx1.trans hx2⟩)
       have HLA0 := Lib.hid hx1.size
       clear a oA oB hx2 hsz hx1))
  have HAB : Hid (w1.heap.size ≠ w1.heap.size + 1) := Lib.hid (by omega)
  have HLA : Hid (w.heap.size ≤ w1.heap.size) := HLA0
  have HLBB : Hid (w.heap.size ≤ w1.heap.size + 1) := Lib.hid (by have := HLA0.out; omega)
  clear a0 a1 a2 a3 a4 N1 HLA0
  obtain ⟨B, hBB⟩ : ∃ B, B = w1.heap.size + 1 := ⟨_, rfl⟩
  rw [← hBB] at HAB HLBB HBI ⊢
  clear hBB
  generalize w1.heap.size = A at *
  go_loopg [10] (l.length) (fun k s10 wr => ∃ j : Nat, s10 = .int .i64 j ∧ j ≤ l.length ∧ k = l.length - j ∧ Hid (∃ s p c p' c', BackI w wr A B s p c p' c'))
  case atStart => exact ⟨0, rfl, Nat.zero_le _, rfl, Lib.hid ⟨_, _, _, _, _, HBI.out⟩⟩
  case round =>
    obtain ⟨j, rfl, hj, hk, HI⟩ := hrel
    obtain ⟨s, p, cc, p', cc', hI⟩ := HI.out
    by_cases hlt : j < l.length
    case neg =>
      have hje : ¬ (j : Int) < (l.length : Int) := by omega
      have a0 := hI.1.cell (j := 0) rfl
      have a1 := hI.1.cell (j := 1) rfl
      have a2 := hI.1.cell (j := 2) rfl
      have a3 := hI.1.cell (j := 3) rfl
      have a4 := hI.1.cell (j := 4) rfl
      have b0 := hI.2.1.cell (j := 0) rfl
      have b1 := hI.2.1.cell (j := 1) rfl
      have b2 := hI.2.1.cell (j := 2) rfl
      have b3 := hI.2.1.cell (j := 3) rfl
      have b4 := hI.2.1.cell (j := 4) rfl
      have S1 := equalSW_any (.slice p s.opn.length cc) (.slice p' s.opn.length cc') s s wr hI.2.2.1 hI.2.2.2.1
      rw [sameW_refl] at S1
      have HXI := Lib.hid hI.2.2.2.2.2
      clear hI hlt
      go_wp2_with (first
        | (go_at_call 26; refine S1.mono ?_; rintro e ws ⟨rfl, hxs⟩)
        | (go_at_call 8; refine (awake_any _).mono ?_; rintro e w3 ⟨rfl, hx3⟩))
      go_ret
      exact ⟨rfl, (HXI.out.trans hxs).trans hx3⟩
    have hi : (j : Int) < (l.length : Int) := by omega
    obtain ⟨b, o, rfl, M0, M1, M2⟩ := fd_at HV.out hlt
    generalize l[j] = x at *
    have m0 := hI.2.2.2.2.2.cell M0
    have m1 := hI.2.2.2.2.2.cell M1
    have m2 := hI.2.2.2.2.2.cell M2
    have HM := Lib.hid (And.intro M0 (And.intro M1 M2))
    clear M0 M1 M2
    have hkk : (ByteArray.mk x.key.toArray).size = x.key.length := text_size _
    have HQ : Hid (wrap64 ((j : Int) + 1) = ((j + 1 : Nat) : Int)) := Lib.hid (by have := HLN.out; unfold wrap64; omega)
    have HBI := Lib.hid hI
    by_cases hkl : x.key.length ≤ 100
    case neg =>
      have hi3 : decide ((100 : Int) < (x.key.length : Int)) = true := by rw [decide_eq_true_eq]; omega
      clear hI hkl
      go_wp2_with (go_at_call 8; refine (awake_any _).mono ?_; rintro e w3 ⟨rfl, hx3⟩)
      go_ret
      exact ⟨rfl, HBI.out.2.2.2.2.2.trans hx3⟩
    have hi3 : decide ((100 : Int) < (x.key.length : Int)) = false := by rw [decide_eq_false_iff_not]; omega
    clear hkl HI
    by_cases hct : j = cut
    case neg =>
      have hbc : ((j : Int) == (cut : Int)) = false := by rw [beq_eq_false_iff_ne]; omega
      clear hI hct
      go_wp2_with fail
      obtain ⟨hA, hB, rA, rB, hck, hx⟩ := HBI.out
      have HSL : Hid (s.opn.length ≤ 100000) := Lib.hid (by have := (checkW_ok hck).2.2.2.2.2.2.2.2.1; omega)
      obtain ⟨T, O, er, hfp⟩ : ∃ T O er, feedP s x.key x.time x.n = (T, O, er) := ⟨_, _, _, rfl⟩
      have HFP := Lib.hid hfp
      have HCK := Lib.hid hck
      have HXW := Lib.hid hx
      have RA := Lib.hid rA
      have RB := Lib.hid rB
      have HAb := Lib.hid hA
      have HBb := Lib.hid hB
      clear hfp hck hx rA rB HBI hA hB
      apply wp_region_dagL 21 22 25 (ZBox wr.heap.size) (YBox wr.heap.size) (fun u W => ∃ g p c, u = .pointer (some ⟨g, 0, none⟩) ∧ ObjAt W g 31 (wtC T (.slice p T.opn.length c)) ∧ SmV W (.slice p T.opn.length c) T.opn ∧ wr.heap.size ≤ g ∧ Ext wr W) (X := Ext) (by kernel_rfl) (by kernel_rfl) (by kernel_rfl) (by decide) (by decide) (by decide) (by kernel_rfl) (fun u a b hx h => h.imp fun g h => h.imp fun p h => h.imp fun c h => ⟨h.1, h.2.1.ext hx, h.2.2.1.ext hx, h.2.2.2.1, h.2.2.2.2.trans hx⟩) (fun _ _ _ => Ext.trans) (fun _ _ _ => YBox.trans) (fun _ _ => YBox.x) (fun _ _ => YBox.z) (Ext.drew1 _)
      simp only [List.take_succ_cons, List.take_zero, List.drop_succ_cons, List.drop_zero]
      apply dagl_val Ext.refl (by decide) (by decide) rfl (by intro W hW H; have q0 := hW.1.ext.cell (HAb.out.cell (j := 0) rfl); have q1 := hW.1.ext.cell (HAb.out.cell (j := 1) rfl); have q2 := hW.1.ext.cell (HAb.out.cell (j := 2) rfl); have q3 := hW.1.ext.cell (HAb.out.cell (j := 3) rfl); have q4 := hW.1.ext.cell (HAb.out.cell (j := 4) rfl); go_simp <;> rfl)
      simp only [Act.put, List.setIfInBounds_toArray, List.set_cons_zero, List.set_cons_succ]
      apply dagl_val Ext.refl (by decide) (by decide) rfl (by intro W hW H; go_simp <;> rfl)
      simp only [Act.put, List.setIfInBounds_toArray, List.set_cons_zero, List.set_cons_succ]
      apply dagl_val Ext.refl (by decide) (by decide) rfl (by intro W hW H; go_simp <;> rfl)
      simp only [Act.put, List.setIfInBounds_toArray, List.set_cons_zero, List.set_cons_succ]
      apply dagl_val Ext.refl (by decide) (by decide) rfl (by intro W hW H; go_simp <;> rfl)
      simp only [Act.put, List.setIfInBounds_toArray, List.set_cons_zero, List.set_cons_succ]
      apply dagl_val Ext.refl (by decide) (by decide) rfl (by intro W hW H; go_simp <;> rfl)
      simp only [Act.put, List.setIfInBounds_toArray, List.set_cons_zero, List.set_cons_succ]
      apply dagl_val Ext.refl (by decide) (by decide) rfl (by intro W hW H; have q := hW.1.ext.cell m0; go_simp <;> rfl)
      simp only [Act.put, List.setIfInBounds_toArray, List.set_cons_zero, List.set_cons_succ]
      apply dagl_val Ext.refl (by decide) (by decide) rfl (by intro W hW H; go_simp <;> rfl)
      simp only [Act.put, List.setIfInBounds_toArray, List.set_cons_zero, List.set_cons_succ]
      apply dagl_val Ext.refl (by decide) (by decide) rfl (by intro W hW H; go_simp <;> rfl)
      simp only [Act.put, List.setIfInBounds_toArray, List.set_cons_zero, List.set_cons_succ]
      apply dagl_val Ext.refl (by decide) (by decide) rfl (by intro W hW H; go_simp <;> rfl)
      simp only [Act.put, List.setIfInBounds_toArray, List.set_cons_zero, List.set_cons_succ]
      apply dagl_val Ext.refl (by decide) (by decide) rfl (by intro W hW H; go_simp <;> rfl)
      simp only [Act.put, List.setIfInBounds_toArray, List.set_cons_zero, List.set_cons_succ]
      apply dagl_val Ext.refl (by decide) (by decide) rfl (by intro W hW H; have q := hW.1.ext.cell m1; go_simp <;> rfl)
      simp only [Act.put, List.setIfInBounds_toArray, List.set_cons_zero, List.set_cons_succ]
      apply dagl_val Ext.refl (by decide) (by decide) rfl (by intro W hW H; go_simp <;> rfl)
      simp only [Act.put, List.setIfInBounds_toArray, List.set_cons_zero, List.set_cons_succ]
      apply dagl_val Ext.refl (by decide) (by decide) rfl (by intro W hW H; go_simp <;> rfl)
      simp only [Act.put, List.setIfInBounds_toArray, List.set_cons_zero, List.set_cons_succ]
      apply dagl_val Ext.refl (by decide) (by decide) rfl (by intro W hW H; go_simp <;> rfl)
      simp only [Act.put, List.setIfInBounds_toArray, List.set_cons_zero, List.set_cons_succ]
      apply dagl_val Ext.refl (by decide) (by decide) rfl (by intro W hW H; go_simp <;> rfl)
      simp only [Act.put, List.setIfInBounds_toArray, List.set_cons_zero, List.set_cons_succ]
      apply dagl_val Ext.refl (by decide) (by decide) rfl (by intro W hW H; have q := hW.1.ext.cell m2; go_simp <;> rfl)
      simp only [Act.put, List.setIfInBounds_toArray, List.set_cons_zero, List.set_cons_succ]
      refine' dagl_calls (fun v W => FedV W T O er v) (by decide) (by decide) (fun v W W' hs h => FedV.step hs h) rfl (by intro W; go_simp <;> rfl) (fun W hW H => (fed_call (RA.out.ext hW.1.ext) HSL.out HFP.out).mono (by rintro e w' ⟨r, rfl, h1, h2⟩; exact ⟨r, rfl, h1, h2⟩)) (fun r3a => _)
      rotate_left
      simp only [Act.put, List.setIfInBounds_toArray, List.set_cons_zero, List.set_cons_succ]
      refine' dagl_run (fun v W => FedV W T O er v) (by decide) (by decide) (fun v W W' hs h => FedV.step hs h) rfl (fun W hW H => ⟨r3a, W, rfl, Ext.refl W, H 16 (by kernel_rfl)⟩) (fun r3b => _)
      rotate_left
      simp only [Act.put, List.setIfInBounds_toArray, List.set_cons_zero, List.set_cons_succ]
      refine' dagl_run (fun v W => ∃ p c, v = wtv T (.slice p T.opn.length c) ∧ SmV W (.slice p T.opn.length c) T.opn) (by decide) (by decide) (fun v W W' hs h => h.imp fun p h => h.imp fun c h => ⟨h.1, SmV.step hs h.2⟩) rfl (fun W hW H => by obtain ⟨p, c, q, d, e, h1, h2⟩ := (show FedV W T O er r3b from H 17 (by kernel_rfl)); subst e; exact ⟨_, W, rfl, Ext.refl W, p, c, rfl, h1⟩) (fun r3 => _)
      rotate_left
      simp only [Act.put, List.setIfInBounds_toArray, List.set_cons_zero, List.set_cons_succ]
      refine' dagl_run (fun v W => ∃ q d, v = .slice q O.length d ∧ SmV W (.slice q O.length d) O) (by decide) (by decide) (fun v W W' hs h => h.imp fun p h => h.imp fun c h => ⟨h.1, SmV.step hs h.2⟩) rfl (fun W hW H => by obtain ⟨p, c, q, d, e, h1, h2⟩ := (show FedV W T O er r3b from H 17 (by kernel_rfl)); subst e; exact ⟨_, W, rfl, Ext.refl W, q, d, rfl, h2⟩) (fun l3 => _)
      rotate_left
      simp only [Act.put, List.setIfInBounds_toArray, List.set_cons_zero, List.set_cons_succ]
      refine' dagl_run (fun v W => v = .int .i64 er) (by decide) (by decide) (fun v W W' hs h => h) rfl (fun W hW H => by obtain ⟨p, c, q, d, e, h1, h2⟩ := (show FedV W T O er r3b from H 17 (by kernel_rfl)); subst e; exact ⟨_, W, rfl, Ext.refl W, rfl⟩) (fun i3 => _)
      rotate_left
      simp only [Act.put, List.setIfInBounds_toArray, List.set_cons_zero, List.set_cons_succ]
      refine' dagl_link (fun v W => BoxV wr.heap.size W v) (by decide) (by decide) (fun v W W' hs h => BoxV.step hs h) rfl (fun W hW H => ⟨.pointer (some ⟨W.heap.size, 0, none⟩), W.alloc (.cells #[.int .i64 0, .int .i64 0, .int .i64 0, .int .i64 0, .slice none 0 0] 31), (by go_simp <;> rfl), Ext.alloc _ _, W.heap.size, wtC wt0 (.slice none 0 0), rfl, heap_alloc_new _ _, wt_nos wt0 none 0 0, rfl, hW.1.ext.size⟩) (fun b3 => _)
      rotate_left
      simp only [Act.put, List.setIfInBounds_toArray, List.set_cons_zero, List.set_cons_succ]
      refine' dagl_store (by decide) (by decide) ?hwuq1 ?runuq1 (fun u0 => ?nxuq1)
      case hwuq1 => exact rfl
      case runuq1 => exact (fun W hW H => box_storeL (T := T) (by rfl) (by rfl) (by rfl) (show BoxV wr.heap.size W b3 from H 21 (by kernel_rfl)) (show ∃ p c, r3 = wtv T (.slice p T.opn.length c) ∧ SmV W (.slice p T.opn.length c) T.opn from H 18 (by kernel_rfl)) hW.1)
      case' nxuq1 => simp only [Act.put]
      refine' dagl_run (fun v W => ∃ q d, v = .slice q O.length d ∧ SmV W (.slice q O.length d) O) (by decide) (by decide) (fun v W W' hs h => h.imp fun p h => h.imp fun c h => ⟨h.1, SmV.step hs h.2⟩) rfl (fun W hW H => ⟨l3, W, rfl, Ext.refl W, H 19 (by kernel_rfl)⟩) (fun l3x => _)
      rotate_left
      simp only [Act.put, List.setIfInBounds_toArray, List.set_cons_zero, List.set_cons_succ]
      refine' dagl_run (fun v W => v = .int .i64 er) (by decide) (by decide) (fun v W W' hs h => h) rfl (fun W hW H => ⟨i3, W, rfl, Ext.refl W, H 20 (by kernel_rfl)⟩) (fun i3x => _)
      rotate_left
      simp only [Act.put, List.setIfInBounds_toArray, List.set_cons_zero, List.set_cons_succ]
      refine dagl_end fun W3 H HL => ?_
      obtain ⟨p3, c3, e3, g3⟩ : ∃ p c, r3 = wtv T (.slice p T.opn.length c) ∧ SmV W3 (.slice p T.opn.length c) T.opn := H 18
      obtain ⟨u3, d3, z3, f3⟩ : ∃ q d, l3 = .slice q O.length d ∧ SmV W3 (.slice q O.length d) O := H 19
      obtain ⟨u3x, d3x, z3x, f3x⟩ : ∃ q d, l3x = .slice q O.length d ∧ SmV W3 (.slice q O.length d) O := H 23
      have hi3 : i3 = .int .i64 er := H 20
      have hi3x : i3x = .int .i64 er := H 24
      subst z3x
      subst hi3x
      subst e3
      clear g3
      obtain ⟨k3, p3, c3, y3, o3, g3, j3, hX3⟩ := HL
      subst z3
      subst y3
      subst hi3
      clear H
      have HE3 := Lib.hid hX3
      have G3 := Lib.hid g3
      have HB3 := Lib.hid (HBb.out.ext HE3.out)
      have HA3 := Lib.hid (HAb.out.ext HE3.out)
      have RB3 := Lib.hid (RB.out.ext HE3.out)
      have RA3 := Lib.hid (RA.out.ext HE3.out)
      have OX := Lib.hid o3
      have n0 := HE3.out.cell m0
      have n1 := HE3.out.cell m1
      have n2 := HE3.out.cell m2
      clear m0 m1 m2 o3 g3 f3 f3x hX3
      go_wp2_with fail
      have m0 := n0
      have m1 := n1
      have m2 := n2
      apply wp_region_dagL 21 22 25 (ZBox W3.heap.size) (YBox W3.heap.size) (fun u W => ∃ g p c, u = .pointer (some ⟨g, 0, none⟩) ∧ ObjAt W g 31 (wtC T (.slice p T.opn.length c)) ∧ SmV W (.slice p T.opn.length c) T.opn ∧ W3.heap.size ≤ g ∧ Ext W3 W) (X := Ext) (by kernel_rfl) (by kernel_rfl) (by kernel_rfl) (by decide) (by decide) (by decide) (by kernel_rfl) (fun u a b hx h => h.imp fun g h => h.imp fun p h => h.imp fun c h => ⟨h.1, h.2.1.ext hx, h.2.2.1.ext hx, h.2.2.2.1, h.2.2.2.2.trans hx⟩) (fun _ _ _ => Ext.trans) (fun _ _ _ => YBox.trans) (fun _ _ => YBox.x) (fun _ _ => YBox.z) (Ext.drew1 _)
      simp only [List.take_succ_cons, List.take_zero, List.drop_succ_cons, List.drop_zero]
      apply dagl_val Ext.refl (by decide) (by decide) rfl (by intro W hW H; have q0 := hW.1.ext.cell (HB3.out.cell (j := 0) rfl); have q1 := hW.1.ext.cell (HB3.out.cell (j := 1) rfl); have q2 := hW.1.ext.cell (HB3.out.cell (j := 2) rfl); have q3 := hW.1.ext.cell (HB3.out.cell (j := 3) rfl); have q4 := hW.1.ext.cell (HB3.out.cell (j := 4) rfl); go_simp <;> rfl)
      simp only [Act.put, List.setIfInBounds_toArray, List.set_cons_zero, List.set_cons_succ]
      apply dagl_val Ext.refl (by decide) (by decide) rfl (by intro W hW H; go_simp <;> rfl)
      simp only [Act.put, List.setIfInBounds_toArray, List.set_cons_zero, List.set_cons_succ]
      apply dagl_val Ext.refl (by decide) (by decide) rfl (by intro W hW H; go_simp <;> rfl)
      simp only [Act.put, List.setIfInBounds_toArray, List.set_cons_zero, List.set_cons_succ]
      apply dagl_val Ext.refl (by decide) (by decide) rfl (by intro W hW H; go_simp <;> rfl)
      simp only [Act.put, List.setIfInBounds_toArray, List.set_cons_zero, List.set_cons_succ]
      apply dagl_val Ext.refl (by decide) (by decide) rfl (by intro W hW H; go_simp <;> rfl)
      simp only [Act.put, List.setIfInBounds_toArray, List.set_cons_zero, List.set_cons_succ]
      apply dagl_val Ext.refl (by decide) (by decide) rfl (by intro W hW H; have q := hW.1.ext.cell m0; go_simp <;> rfl)
      simp only [Act.put, List.setIfInBounds_toArray, List.set_cons_zero, List.set_cons_succ]
      apply dagl_val Ext.refl (by decide) (by decide) rfl (by intro W hW H; go_simp <;> rfl)
      simp only [Act.put, List.setIfInBounds_toArray, List.set_cons_zero, List.set_cons_succ]
      apply dagl_val Ext.refl (by decide) (by decide) rfl (by intro W hW H; go_simp <;> rfl)
      simp only [Act.put, List.setIfInBounds_toArray, List.set_cons_zero, List.set_cons_succ]
      apply dagl_val Ext.refl (by decide) (by decide) rfl (by intro W hW H; go_simp <;> rfl)
      simp only [Act.put, List.setIfInBounds_toArray, List.set_cons_zero, List.set_cons_succ]
      apply dagl_val Ext.refl (by decide) (by decide) rfl (by intro W hW H; go_simp <;> rfl)
      simp only [Act.put, List.setIfInBounds_toArray, List.set_cons_zero, List.set_cons_succ]
      apply dagl_val Ext.refl (by decide) (by decide) rfl (by intro W hW H; have q := hW.1.ext.cell m1; go_simp <;> rfl)
      simp only [Act.put, List.setIfInBounds_toArray, List.set_cons_zero, List.set_cons_succ]
      apply dagl_val Ext.refl (by decide) (by decide) rfl (by intro W hW H; go_simp <;> rfl)
      simp only [Act.put, List.setIfInBounds_toArray, List.set_cons_zero, List.set_cons_succ]
      apply dagl_val Ext.refl (by decide) (by decide) rfl (by intro W hW H; go_simp <;> rfl)
      simp only [Act.put, List.setIfInBounds_toArray, List.set_cons_zero, List.set_cons_succ]
      apply dagl_val Ext.refl (by decide) (by decide) rfl (by intro W hW H; go_simp <;> rfl)
      simp only [Act.put, List.setIfInBounds_toArray, List.set_cons_zero, List.set_cons_succ]
      apply dagl_val Ext.refl (by decide) (by decide) rfl (by intro W hW H; go_simp <;> rfl)
      simp only [Act.put, List.setIfInBounds_toArray, List.set_cons_zero, List.set_cons_succ]
      apply dagl_val Ext.refl (by decide) (by decide) rfl (by intro W hW H; have q := hW.1.ext.cell m2; go_simp <;> rfl)
      simp only [Act.put, List.setIfInBounds_toArray, List.set_cons_zero, List.set_cons_succ]
      refine' dagl_calls (fun v W => FedV W T O er v) (by decide) (by decide) (fun v W W' hs h => FedV.step hs h) rfl (by intro W; go_simp <;> rfl) (fun W hW H => (fed_call (RB3.out.ext hW.1.ext) HSL.out HFP.out).mono (by rintro e w' ⟨r, rfl, h1, h2⟩; exact ⟨r, rfl, h1, h2⟩)) (fun r4a => _)
      rotate_left
      simp only [Act.put, List.setIfInBounds_toArray, List.set_cons_zero, List.set_cons_succ]
      refine' dagl_run (fun v W => FedV W T O er v) (by decide) (by decide) (fun v W W' hs h => FedV.step hs h) rfl (fun W hW H => ⟨r4a, W, rfl, Ext.refl W, H 16 (by kernel_rfl)⟩) (fun r4b => _)
      rotate_left
      simp only [Act.put, List.setIfInBounds_toArray, List.set_cons_zero, List.set_cons_succ]
      refine' dagl_run (fun v W => ∃ p c, v = wtv T (.slice p T.opn.length c) ∧ SmV W (.slice p T.opn.length c) T.opn) (by decide) (by decide) (fun v W W' hs h => h.imp fun p h => h.imp fun c h => ⟨h.1, SmV.step hs h.2⟩) rfl (fun W hW H => by obtain ⟨p, c, q, d, e, h1, h2⟩ := (show FedV W T O er r4b from H 17 (by kernel_rfl)); subst e; exact ⟨_, W, rfl, Ext.refl W, p, c, rfl, h1⟩) (fun r4 => _)
      rotate_left
      simp only [Act.put, List.setIfInBounds_toArray, List.set_cons_zero, List.set_cons_succ]
      refine' dagl_run (fun v W => ∃ q d, v = .slice q O.length d ∧ SmV W (.slice q O.length d) O) (by decide) (by decide) (fun v W W' hs h => h.imp fun p h => h.imp fun c h => ⟨h.1, SmV.step hs h.2⟩) rfl (fun W hW H => by obtain ⟨p, c, q, d, e, h1, h2⟩ := (show FedV W T O er r4b from H 17 (by kernel_rfl)); subst e; exact ⟨_, W, rfl, Ext.refl W, q, d, rfl, h2⟩) (fun l4 => _)
      rotate_left
      simp only [Act.put, List.setIfInBounds_toArray, List.set_cons_zero, List.set_cons_succ]
      refine' dagl_run (fun v W => v = .int .i64 er) (by decide) (by decide) (fun v W W' hs h => h) rfl (fun W hW H => by obtain ⟨p, c, q, d, e, h1, h2⟩ := (show FedV W T O er r4b from H 17 (by kernel_rfl)); subst e; exact ⟨_, W, rfl, Ext.refl W, rfl⟩) (fun i4 => _)
      rotate_left
      simp only [Act.put, List.setIfInBounds_toArray, List.set_cons_zero, List.set_cons_succ]
      refine' dagl_link (fun v W => BoxV W3.heap.size W v) (by decide) (by decide) (fun v W W' hs h => BoxV.step hs h) rfl (fun W hW H => ⟨.pointer (some ⟨W.heap.size, 0, none⟩), W.alloc (.cells #[.int .i64 0, .int .i64 0, .int .i64 0, .int .i64 0, .slice none 0 0] 31), (by go_simp <;> rfl), Ext.alloc _ _, W.heap.size, wtC wt0 (.slice none 0 0), rfl, heap_alloc_new _ _, wt_nos wt0 none 0 0, rfl, hW.1.ext.size⟩) (fun b4 => _)
      rotate_left
      simp only [Act.put, List.setIfInBounds_toArray, List.set_cons_zero, List.set_cons_succ]
      refine' dagl_store (by decide) (by decide) ?hwuq2 ?runuq2 (fun u0 => ?nxuq2)
      case hwuq2 => exact rfl
      case runuq2 => exact (fun W hW H => box_storeL (T := T) (by rfl) (by rfl) (by rfl) (show BoxV W3.heap.size W b4 from H 21 (by kernel_rfl)) (show ∃ p c, r4 = wtv T (.slice p T.opn.length c) ∧ SmV W (.slice p T.opn.length c) T.opn from H 18 (by kernel_rfl)) hW.1)
      case' nxuq2 => simp only [Act.put]
      refine' dagl_run (fun v W => ∃ q d, v = .slice q O.length d ∧ SmV W (.slice q O.length d) O) (by decide) (by decide) (fun v W W' hs h => h.imp fun p h => h.imp fun c h => ⟨h.1, SmV.step hs h.2⟩) rfl (fun W hW H => ⟨l4, W, rfl, Ext.refl W, H 19 (by kernel_rfl)⟩) (fun l4x => _)
      rotate_left
      simp only [Act.put, List.setIfInBounds_toArray, List.set_cons_zero, List.set_cons_succ]
      refine' dagl_run (fun v W => v = .int .i64 er) (by decide) (by decide) (fun v W W' hs h => h) rfl (fun W hW H => ⟨i4, W, rfl, Ext.refl W, H 20 (by kernel_rfl)⟩) (fun i4x => _)
      rotate_left
      simp only [Act.put, List.setIfInBounds_toArray, List.set_cons_zero, List.set_cons_succ]
      refine dagl_end fun W4 H HL => ?_
      obtain ⟨p4, c4, e4, g4⟩ : ∃ p c, r4 = wtv T (.slice p T.opn.length c) ∧ SmV W4 (.slice p T.opn.length c) T.opn := H 18
      obtain ⟨u4, d4, z4, f4⟩ : ∃ q d, l4 = .slice q O.length d ∧ SmV W4 (.slice q O.length d) O := H 19
      obtain ⟨u4x, d4x, z4x, f4x⟩ : ∃ q d, l4x = .slice q O.length d ∧ SmV W4 (.slice q O.length d) O := H 23
      have hi4 : i4 = .int .i64 er := H 20
      have hi4x : i4x = .int .i64 er := H 24
      subst z4x
      subst hi4x
      subst e4
      clear g4
      obtain ⟨k4, p4, c4, y4, o4, g4, j4, hX4⟩ := HL
      subst z4
      subst y4
      subst hi4
      clear H
      have HE4 := Lib.hid hX4
      clear hX4 f4 f4x m0 m1 m2 n0 n1 n2
      by_cases he : er = 0
      case neg =>
        have hbe : (er == 0) = false := by rw [beq_eq_false_iff_ne]; exact he
        clear he
        go_wp2_with fail
        go_roundg (l.length - (j + 1))
        case measure => omega
        case rel => exact ⟨j + 1, (by first | exact congrArg (Value.int .i64) HQ.out | exact congrArg (Value.int .i64) (by omega)), hlt, rfl, Lib.hid ⟨s, _, _, _, _, HA3.out.ext HE4.out, HB3.out.ext HE4.out, RA3.out.ext HE4.out, RB3.out.ext HE4.out, HCK.out, HXW.out.trans (HE3.out.trans HE4.out)⟩⟩
      subst he
      have hfc := feed_check HCK.out (feedP_ok0 HFP.out)
      have HFC := Lib.hid hfc.1
      clear hfc
      have OX4 := Lib.hid (OX.out.ext HE4.out)
      have O4 := Lib.hid o4
      have N3 : Hid (some k3 ≠ some A) := Lib.hid (fun e => by have := Option.some.inj e; have h1 := HAb.out.lt; have h2 := j3; omega)
      have N4 : Hid (some k4 ≠ some A) := Lib.hid (fun e => by have := Option.some.inj e; have h1 := HA3.out.lt; have h2 := j4; omega)
      have OA4 := Lib.hid (HA3.out.ext HE4.out)
      have OB4 := Lib.hid (HB3.out.ext HE4.out)
      have G34 := Lib.hid (G3.out.ext HE4.out)
      have G4 := Lib.hid g4
      have HX4 := Lib.hid (HXW.out.trans (HE3.out.trans HE4.out))
      clear o4 g4 j3 j4
      go_wp2_with fail
      apply wp_region_dagY 2 3 (fun a b => a.grownBy b (some A)) (fun a b => a.grownBy b (some A)) (X := Ext) (by kernel_rfl) (by kernel_rfl) (by kernel_rfl) (by decide) (by decide) (fun _ _ _ => Ext.trans) (fun _ _ _ => World.grownBy.trans) (fun _ _ h => h.grownBy _) (fun _ _ h => h) (Ext.drew1 _)
      simp only [List.take_succ_cons, List.take_zero, List.drop_succ_cons, List.drop_zero]
      apply dagy_val Ext.refl rfl (by intro W hW H; have e := OX4.out.kept hW.1 N3.out; have q0 := e.cell (j := 0) rfl; have q1 := e.cell (j := 1) rfl; have q2 := e.cell (j := 2) rfl; have q3 := e.cell (j := 3) rfl; have q4 := e.cell (j := 4) rfl; clear e; go_simp <;> rfl)
      simp only [Act.put, List.setIfInBounds_toArray, List.set_cons_zero, List.set_cons_succ]
      apply dagy_val Ext.refl rfl (by intro W hW H; have e := O4.out.kept hW.1 N4.out; have q0 := e.cell (j := 0) rfl; have q1 := e.cell (j := 1) rfl; have q2 := e.cell (j := 2) rfl; have q3 := e.cell (j := 3) rfl; have q4 := e.cell (j := 4) rfl; clear e; go_simp <;> rfl)
      simp only [Act.put, List.setIfInBounds_toArray, List.set_cons_zero, List.set_cons_succ]
      refine' dagy_store (fun W => ObjAt W A 31 (wtC T (.slice p3 T.opn.length c3)) ∧ W4.grownBy W (some A)) ?stuq3 ?hwuq3 ?runuq3 (fun u0 => ?nxuq3)
      case stuq3 => exact fun W W' hs h => hs.elim (fun hx => ⟨h.1.ext hx, h.2.trans (hx.grownBy _)⟩) fun hz => absurd rfl hz.1
      case hwuq3 => exact rfl
      case runuq3 => exact (fun W hW H => store_at (T := T) (p := p3) (n := T.opn.length) (c := c3) (by rfl) (by rfl) (by rfl) (by rfl) (by rfl) OA4.out (by rfl) (hW.2 (by kernel_rfl)))
      case' nxuq3 => simp only [Act.put]
      refine dagy_end fun W5 H => ?_
      obtain ⟨oA6, hg6⟩ := H 2
      clear H
      have oB6 := OB4.out.kept hg6 (fun e => HAB.out (Option.some.inj e).symm)
      go_wp2_with ((with_reducible show wpList _ _ _ (Oper.mk _ (Op.store _ _ _) _ _ _ _ :: _) _ _); have hq := oB6; refine st_put (vs := wtC T (.slice p4 T.opn.length c4)) oB6 Go.Proofs.Ytpejdompanhieaa.T.wtSize rfl (wt_one T rfl) ?_; intro w7 oB7 hg7)
      have hA7 := oA6.kept hg7 (fun e => HAB.out (Option.some.inj e))
      have G36 := SmV.apart (SmV.apart G34.out OA4.out (wt_nos s _ _ _) hg6) oB6 (wt_nos s _ _ _) hg7
      have G46 := SmV.apart (SmV.apart G4.out OA4.out (wt_nos s _ _ _) hg6) oB6 (wt_nos s _ _ _) hg7
      have HX7 := (HX4.out.grown hg6 HLA.out).grown hg7 HLBB.out
      go_roundg (l.length - (j + 1))
      case measure => omega
      case rel => exact ⟨j + 1, (by first | exact congrArg (Value.int .i64) HQ.out | exact congrArg (Value.int .i64) (by omega)), hlt, rfl, Lib.hid ⟨T, _, _, _, _, hA7, oB7, G36, G46, HFC.out, HX7⟩⟩
    case pos =>
      have hbc : ((j : Int) == (cut : Int)) = true := by rw [beq_iff_eq]; omega
      have b0 := hI.2.1.cell (j := 0) rfl
      have b1 := hI.2.1.cell (j := 1) rfl
      have b2 := hI.2.1.cell (j := 2) rfl
      have b3 := hI.2.1.cell (j := 3) rfl
      have b4 := hI.2.1.cell (j := 4) rfl
      have hck := hI.2.2.2.2.1
      have hpe : putE s = (putW s, 0) := by unfold putE; rw [if_neg (by simp [hck])]
      have P1 := wput_any s (.slice p' s.opn.length cc') wr hI.2.2.2.1 (by have := (checkW_ok hck).2.2.2.2.2.2.2.2.1; omega)
      rw [hpe] at P1
      have HG := Lib.hid fun bv W h => wget_any bv (putW s) W h (putW_len hck)
      rw [getW_put hck] at HG
      clear hI hct hck hpe
      go_wp2_with (first
        | (go_at_call 22; refine P1.mono ?_; rintro e wp ⟨bv, rfl, hbv, hxp⟩
           obtain ⟨pv, cv, rfl, _⟩ := id hbv
           have HBP := Lib.hid (HBI.out.ext hxp)
           have HX1 := Lib.hid hxp)
        | (go_at_call 24; refine (HG.out _ _ hbv).mono ?_; rintro e wg ⟨vg, rfl, hvg, hxg⟩
           obtain ⟨pg, cg, rfl, _, _⟩ := hvg.slice
           have hxa := Ext.alloc wg (.cells #[.int .i64 s.size, .int .i64 s.late, .int .i64 s.mark, .int .i64 s.drops, .slice pg s.opn.length cg] 31)
           have oG : ObjAt (wg.alloc (.cells #[.int .i64 s.size, .int .i64 s.late, .int .i64 s.mark, .int .i64 s.drops, .slice pg s.opn.length cg] 31)) wg.heap.size 31 (wtC s (.slice pg s.opn.length cg)) := heap_alloc_new wg _
           have HBG := Lib.hid (HBP.out.ext (hxg.trans hxa))
           have HX2 := Lib.hid (HX1.out.trans (hxg.trans hxa))
           have hvG := hvg.ext hxa
           have g0 := oG.cell (j := 0) rfl
           have g1 := oG.cell (j := 1) rfl
           have g2 := oG.cell (j := 2) rfl
           have g3 := oG.cell (j := 3) rfl
           have g4 := oG.cell (j := 4) rfl
           have f0 := HBG.out.2.1.cell (j := 0) rfl
           have f1 := HBG.out.2.1.cell (j := 1) rfl
           have f2 := HBG.out.2.1.cell (j := 2) rfl
           have f3 := HBG.out.2.1.cell (j := 3) rfl
           have f4 := HBG.out.2.1.cell (j := 4) rfl
           have S1 := equalSW_any (.slice p' s.opn.length cc') (.slice pg s.opn.length cg) s s _ HBG.out.2.2.2.1 hvG
           rw [sameW_refl] at S1
           have HVG := Lib.hid hvG
           clear hxa)
        | (go_at_call 26; refine S1.mono ?_; rintro e ws ⟨rfl, hxs⟩
           have HBS := Lib.hid (HBG.out.ext hxs)
           have oGs := oG.ext hxs
           have HVS := Lib.hid (HVG.out.ext hxs)
           have HX3 := Lib.hid (HX2.out.trans hxs)
           have k0 := oGs.cell (j := 0) rfl
           have k1 := oGs.cell (j := 1) rfl
           have k2 := oGs.cell (j := 2) rfl
           have k3 := oGs.cell (j := 3) rfl
           have k4 := oGs.cell (j := 4) rfl)
        | ((with_reducible show wpList _ _ _ (Oper.mk _ (Op.store _ _ _) _ _ _ _ :: _) _ _); refine st_put (vs := wtC s (.slice pg s.opn.length cg)) HBS.out.2.1 Go.Proofs.Ytpejdompanhieaa.T.wtSize rfl (wt_one s rfl) ?_; intro wt oBt hgt
           have HBT := Lib.hid (show BackI w wt A B s p cc pg cg from ⟨HBS.out.1.kept hgt (fun e => HAB.out (Option.some.inj e)), oBt, SmV.apart HBS.out.2.2.1 HBS.out.2.1 (wt_nos s _ _ _) hgt, SmV.apart HVS.out HBS.out.2.1 (wt_nos s _ _ _) hgt, HBS.out.2.2.2.2.1, HBS.out.2.2.2.2.2.grown hgt HLBB.out⟩)))
      have HBI := HBT
      have m0 := HBT.out.2.2.2.2.2.cell HM.out.1
      have m1 := HBT.out.2.2.2.2.2.cell HM.out.2.1
      have m2 := HBT.out.2.2.2.2.2.cell HM.out.2.2
      obtain ⟨hA, hB, rA, rB, hck, hx⟩ := HBI.out
      have HSL : Hid (s.opn.length ≤ 100000) := Lib.hid (by have := (checkW_ok hck).2.2.2.2.2.2.2.2.1; omega)
      obtain ⟨T, O, er, hfp⟩ : ∃ T O er, feedP s x.key x.time x.n = (T, O, er) := ⟨_, _, _, rfl⟩
      have HFP := Lib.hid hfp
      have HCK := Lib.hid hck
      have HXW := Lib.hid hx
      have RA := Lib.hid rA
      have RB := Lib.hid rB
      have HAb := Lib.hid hA
      have HBb := Lib.hid hB
      clear hfp hck hx rA rB HBI hA hB
      apply wp_region_dagL 21 22 25 (ZBox wt.heap.size) (YBox wt.heap.size) (fun u W => ∃ g p c, u = .pointer (some ⟨g, 0, none⟩) ∧ ObjAt W g 31 (wtC T (.slice p T.opn.length c)) ∧ SmV W (.slice p T.opn.length c) T.opn ∧ wt.heap.size ≤ g ∧ Ext wt W) (X := Ext) (by kernel_rfl) (by kernel_rfl) (by kernel_rfl) (by decide) (by decide) (by decide) (by kernel_rfl) (fun u a b hx h => h.imp fun g h => h.imp fun p h => h.imp fun c h => ⟨h.1, h.2.1.ext hx, h.2.2.1.ext hx, h.2.2.2.1, h.2.2.2.2.trans hx⟩) (fun _ _ _ => Ext.trans) (fun _ _ _ => YBox.trans) (fun _ _ => YBox.x) (fun _ _ => YBox.z) (Ext.drew1 _)
      simp only [List.take_succ_cons, List.take_zero, List.drop_succ_cons, List.drop_zero]
      apply dagl_val Ext.refl (by decide) (by decide) rfl (by intro W hW H; have q0 := hW.1.ext.cell (HAb.out.cell (j := 0) rfl); have q1 := hW.1.ext.cell (HAb.out.cell (j := 1) rfl); have q2 := hW.1.ext.cell (HAb.out.cell (j := 2) rfl); have q3 := hW.1.ext.cell (HAb.out.cell (j := 3) rfl); have q4 := hW.1.ext.cell (HAb.out.cell (j := 4) rfl); go_simp <;> rfl)
      simp only [Act.put, List.setIfInBounds_toArray, List.set_cons_zero, List.set_cons_succ]
      apply dagl_val Ext.refl (by decide) (by decide) rfl (by intro W hW H; go_simp <;> rfl)
      simp only [Act.put, List.setIfInBounds_toArray, List.set_cons_zero, List.set_cons_succ]
      apply dagl_val Ext.refl (by decide) (by decide) rfl (by intro W hW H; go_simp <;> rfl)
      simp only [Act.put, List.setIfInBounds_toArray, List.set_cons_zero, List.set_cons_succ]
      apply dagl_val Ext.refl (by decide) (by decide) rfl (by intro W hW H; go_simp <;> rfl)
      simp only [Act.put, List.setIfInBounds_toArray, List.set_cons_zero, List.set_cons_succ]
      apply dagl_val Ext.refl (by decide) (by decide) rfl (by intro W hW H; go_simp <;> rfl)
      simp only [Act.put, List.setIfInBounds_toArray, List.set_cons_zero, List.set_cons_succ]
      apply dagl_val Ext.refl (by decide) (by decide) rfl (by intro W hW H; have q := hW.1.ext.cell m0; go_simp <;> rfl)
      simp only [Act.put, List.setIfInBounds_toArray, List.set_cons_zero, List.set_cons_succ]
      apply dagl_val Ext.refl (by decide) (by decide) rfl (by intro W hW H; go_simp <;> rfl)
      simp only [Act.put, List.setIfInBounds_toArray, List.set_cons_zero, List.set_cons_succ]
      apply dagl_val Ext.refl (by decide) (by decide) rfl (by intro W hW H; go_simp <;> rfl)
      simp only [Act.put, List.setIfInBounds_toArray, List.set_cons_zero, List.set_cons_succ]
      apply dagl_val Ext.refl (by decide) (by decide) rfl (by intro W hW H; go_simp <;> rfl)
      simp only [Act.put, List.setIfInBounds_toArray, List.set_cons_zero, List.set_cons_succ]
      apply dagl_val Ext.refl (by decide) (by decide) rfl (by intro W hW H; go_simp <;> rfl)
      simp only [Act.put, List.setIfInBounds_toArray, List.set_cons_zero, List.set_cons_succ]
      apply dagl_val Ext.refl (by decide) (by decide) rfl (by intro W hW H; have q := hW.1.ext.cell m1; go_simp <;> rfl)
      simp only [Act.put, List.setIfInBounds_toArray, List.set_cons_zero, List.set_cons_succ]
      apply dagl_val Ext.refl (by decide) (by decide) rfl (by intro W hW H; go_simp <;> rfl)
      simp only [Act.put, List.setIfInBounds_toArray, List.set_cons_zero, List.set_cons_succ]
      apply dagl_val Ext.refl (by decide) (by decide) rfl (by intro W hW H; go_simp <;> rfl)
      simp only [Act.put, List.setIfInBounds_toArray, List.set_cons_zero, List.set_cons_succ]
      apply dagl_val Ext.refl (by decide) (by decide) rfl (by intro W hW H; go_simp <;> rfl)
      simp only [Act.put, List.setIfInBounds_toArray, List.set_cons_zero, List.set_cons_succ]
      apply dagl_val Ext.refl (by decide) (by decide) rfl (by intro W hW H; go_simp <;> rfl)
      simp only [Act.put, List.setIfInBounds_toArray, List.set_cons_zero, List.set_cons_succ]
      apply dagl_val Ext.refl (by decide) (by decide) rfl (by intro W hW H; have q := hW.1.ext.cell m2; go_simp <;> rfl)
      simp only [Act.put, List.setIfInBounds_toArray, List.set_cons_zero, List.set_cons_succ]
      refine' dagl_calls (fun v W => FedV W T O er v) (by decide) (by decide) (fun v W W' hs h => FedV.step hs h) rfl (by intro W; go_simp <;> rfl) (fun W hW H => (fed_call (RA.out.ext hW.1.ext) HSL.out HFP.out).mono (by rintro e w' ⟨r, rfl, h1, h2⟩; exact ⟨r, rfl, h1, h2⟩)) (fun r3a => _)
      rotate_left
      simp only [Act.put, List.setIfInBounds_toArray, List.set_cons_zero, List.set_cons_succ]
      refine' dagl_run (fun v W => FedV W T O er v) (by decide) (by decide) (fun v W W' hs h => FedV.step hs h) rfl (fun W hW H => ⟨r3a, W, rfl, Ext.refl W, H 16 (by kernel_rfl)⟩) (fun r3b => _)
      rotate_left
      simp only [Act.put, List.setIfInBounds_toArray, List.set_cons_zero, List.set_cons_succ]
      refine' dagl_run (fun v W => ∃ p c, v = wtv T (.slice p T.opn.length c) ∧ SmV W (.slice p T.opn.length c) T.opn) (by decide) (by decide) (fun v W W' hs h => h.imp fun p h => h.imp fun c h => ⟨h.1, SmV.step hs h.2⟩) rfl (fun W hW H => by obtain ⟨p, c, q, d, e, h1, h2⟩ := (show FedV W T O er r3b from H 17 (by kernel_rfl)); subst e; exact ⟨_, W, rfl, Ext.refl W, p, c, rfl, h1⟩) (fun r3 => _)
      rotate_left
      simp only [Act.put, List.setIfInBounds_toArray, List.set_cons_zero, List.set_cons_succ]
      refine' dagl_run (fun v W => ∃ q d, v = .slice q O.length d ∧ SmV W (.slice q O.length d) O) (by decide) (by decide) (fun v W W' hs h => h.imp fun p h => h.imp fun c h => ⟨h.1, SmV.step hs h.2⟩) rfl (fun W hW H => by obtain ⟨p, c, q, d, e, h1, h2⟩ := (show FedV W T O er r3b from H 17 (by kernel_rfl)); subst e; exact ⟨_, W, rfl, Ext.refl W, q, d, rfl, h2⟩) (fun l3 => _)
      rotate_left
      simp only [Act.put, List.setIfInBounds_toArray, List.set_cons_zero, List.set_cons_succ]
      refine' dagl_run (fun v W => v = .int .i64 er) (by decide) (by decide) (fun v W W' hs h => h) rfl (fun W hW H => by obtain ⟨p, c, q, d, e, h1, h2⟩ := (show FedV W T O er r3b from H 17 (by kernel_rfl)); subst e; exact ⟨_, W, rfl, Ext.refl W, rfl⟩) (fun i3 => _)
      rotate_left
      simp only [Act.put, List.setIfInBounds_toArray, List.set_cons_zero, List.set_cons_succ]
      refine' dagl_link (fun v W => BoxV wt.heap.size W v) (by decide) (by decide) (fun v W W' hs h => BoxV.step hs h) rfl (fun W hW H => ⟨.pointer (some ⟨W.heap.size, 0, none⟩), W.alloc (.cells #[.int .i64 0, .int .i64 0, .int .i64 0, .int .i64 0, .slice none 0 0] 31), (by go_simp <;> rfl), Ext.alloc _ _, W.heap.size, wtC wt0 (.slice none 0 0), rfl, heap_alloc_new _ _, wt_nos wt0 none 0 0, rfl, hW.1.ext.size⟩) (fun b3 => _)
      rotate_left
      simp only [Act.put, List.setIfInBounds_toArray, List.set_cons_zero, List.set_cons_succ]
      refine' dagl_store (by decide) (by decide) ?hwuq4 ?runuq4 (fun u0 => ?nxuq4)
      case hwuq4 => exact rfl
      case runuq4 => exact (fun W hW H => box_storeL (T := T) (by rfl) (by rfl) (by rfl) (show BoxV wt.heap.size W b3 from H 21 (by kernel_rfl)) (show ∃ p c, r3 = wtv T (.slice p T.opn.length c) ∧ SmV W (.slice p T.opn.length c) T.opn from H 18 (by kernel_rfl)) hW.1)
      case' nxuq4 => simp only [Act.put]
      refine' dagl_run (fun v W => ∃ q d, v = .slice q O.length d ∧ SmV W (.slice q O.length d) O) (by decide) (by decide) (fun v W W' hs h => h.imp fun p h => h.imp fun c h => ⟨h.1, SmV.step hs h.2⟩) rfl (fun W hW H => ⟨l3, W, rfl, Ext.refl W, H 19 (by kernel_rfl)⟩) (fun l3x => _)
      rotate_left
      simp only [Act.put, List.setIfInBounds_toArray, List.set_cons_zero, List.set_cons_succ]
      refine' dagl_run (fun v W => v = .int .i64 er) (by decide) (by decide) (fun v W W' hs h => h) rfl (fun W hW H => ⟨i3, W, rfl, Ext.refl W, H 20 (by kernel_rfl)⟩) (fun i3x => _)
      rotate_left
      simp only [Act.put, List.setIfInBounds_toArray, List.set_cons_zero, List.set_cons_succ]
      refine dagl_end fun W3 H HL => ?_
      obtain ⟨p3, c3, e3, g3⟩ : ∃ p c, r3 = wtv T (.slice p T.opn.length c) ∧ SmV W3 (.slice p T.opn.length c) T.opn := H 18
      obtain ⟨u3, d3, z3, f3⟩ : ∃ q d, l3 = .slice q O.length d ∧ SmV W3 (.slice q O.length d) O := H 19
      obtain ⟨u3x, d3x, z3x, f3x⟩ : ∃ q d, l3x = .slice q O.length d ∧ SmV W3 (.slice q O.length d) O := H 23
      have hi3 : i3 = .int .i64 er := H 20
      have hi3x : i3x = .int .i64 er := H 24
      subst z3x
      subst hi3x
      subst e3
      clear g3
      obtain ⟨k3, p3, c3, y3, o3, g3, j3, hX3⟩ := HL
      subst z3
      subst y3
      subst hi3
      clear H
      have HE3 := Lib.hid hX3
      have G3 := Lib.hid g3
      have HB3 := Lib.hid (HBb.out.ext HE3.out)
      have HA3 := Lib.hid (HAb.out.ext HE3.out)
      have RB3 := Lib.hid (RB.out.ext HE3.out)
      have RA3 := Lib.hid (RA.out.ext HE3.out)
      have OX := Lib.hid o3
      have n0 := HE3.out.cell m0
      have n1 := HE3.out.cell m1
      have n2 := HE3.out.cell m2
      clear m0 m1 m2 o3 g3 f3 f3x hX3
      go_wp2_with fail
      have m0 := n0
      have m1 := n1
      have m2 := n2
      apply wp_region_dagL 21 22 25 (ZBox W3.heap.size) (YBox W3.heap.size) (fun u W => ∃ g p c, u = .pointer (some ⟨g, 0, none⟩) ∧ ObjAt W g 31 (wtC T (.slice p T.opn.length c)) ∧ SmV W (.slice p T.opn.length c) T.opn ∧ W3.heap.size ≤ g ∧ Ext W3 W) (X := Ext) (by kernel_rfl) (by kernel_rfl) (by kernel_rfl) (by decide) (by decide) (by decide) (by kernel_rfl) (fun u a b hx h => h.imp fun g h => h.imp fun p h => h.imp fun c h => ⟨h.1, h.2.1.ext hx, h.2.2.1.ext hx, h.2.2.2.1, h.2.2.2.2.trans hx⟩) (fun _ _ _ => Ext.trans) (fun _ _ _ => YBox.trans) (fun _ _ => YBox.x) (fun _ _ => YBox.z) (Ext.drew1 _)
      simp only [List.take_succ_cons, List.take_zero, List.drop_succ_cons, List.drop_zero]
      apply dagl_val Ext.refl (by decide) (by decide) rfl (by intro W hW H; have q0 := hW.1.ext.cell (HB3.out.cell (j := 0) rfl); have q1 := hW.1.ext.cell (HB3.out.cell (j := 1) rfl); have q2 := hW.1.ext.cell (HB3.out.cell (j := 2) rfl); have q3 := hW.1.ext.cell (HB3.out.cell (j := 3) rfl); have q4 := hW.1.ext.cell (HB3.out.cell (j := 4) rfl); go_simp <;> rfl)
      simp only [Act.put, List.setIfInBounds_toArray, List.set_cons_zero, List.set_cons_succ]
      apply dagl_val Ext.refl (by decide) (by decide) rfl (by intro W hW H; go_simp <;> rfl)
      simp only [Act.put, List.setIfInBounds_toArray, List.set_cons_zero, List.set_cons_succ]
      apply dagl_val Ext.refl (by decide) (by decide) rfl (by intro W hW H; go_simp <;> rfl)
      simp only [Act.put, List.setIfInBounds_toArray, List.set_cons_zero, List.set_cons_succ]
      apply dagl_val Ext.refl (by decide) (by decide) rfl (by intro W hW H; go_simp <;> rfl)
      simp only [Act.put, List.setIfInBounds_toArray, List.set_cons_zero, List.set_cons_succ]
      apply dagl_val Ext.refl (by decide) (by decide) rfl (by intro W hW H; go_simp <;> rfl)
      simp only [Act.put, List.setIfInBounds_toArray, List.set_cons_zero, List.set_cons_succ]
      apply dagl_val Ext.refl (by decide) (by decide) rfl (by intro W hW H; have q := hW.1.ext.cell m0; go_simp <;> rfl)
      simp only [Act.put, List.setIfInBounds_toArray, List.set_cons_zero, List.set_cons_succ]
      apply dagl_val Ext.refl (by decide) (by decide) rfl (by intro W hW H; go_simp <;> rfl)
      simp only [Act.put, List.setIfInBounds_toArray, List.set_cons_zero, List.set_cons_succ]
      apply dagl_val Ext.refl (by decide) (by decide) rfl (by intro W hW H; go_simp <;> rfl)
      simp only [Act.put, List.setIfInBounds_toArray, List.set_cons_zero, List.set_cons_succ]
      apply dagl_val Ext.refl (by decide) (by decide) rfl (by intro W hW H; go_simp <;> rfl)
      simp only [Act.put, List.setIfInBounds_toArray, List.set_cons_zero, List.set_cons_succ]
      apply dagl_val Ext.refl (by decide) (by decide) rfl (by intro W hW H; go_simp <;> rfl)
      simp only [Act.put, List.setIfInBounds_toArray, List.set_cons_zero, List.set_cons_succ]
      apply dagl_val Ext.refl (by decide) (by decide) rfl (by intro W hW H; have q := hW.1.ext.cell m1; go_simp <;> rfl)
      simp only [Act.put, List.setIfInBounds_toArray, List.set_cons_zero, List.set_cons_succ]
      apply dagl_val Ext.refl (by decide) (by decide) rfl (by intro W hW H; go_simp <;> rfl)
      simp only [Act.put, List.setIfInBounds_toArray, List.set_cons_zero, List.set_cons_succ]
      apply dagl_val Ext.refl (by decide) (by decide) rfl (by intro W hW H; go_simp <;> rfl)
      simp only [Act.put, List.setIfInBounds_toArray, List.set_cons_zero, List.set_cons_succ]
      apply dagl_val Ext.refl (by decide) (by decide) rfl (by intro W hW H; go_simp <;> rfl)
      simp only [Act.put, List.setIfInBounds_toArray, List.set_cons_zero, List.set_cons_succ]
      apply dagl_val Ext.refl (by decide) (by decide) rfl (by intro W hW H; go_simp <;> rfl)
      simp only [Act.put, List.setIfInBounds_toArray, List.set_cons_zero, List.set_cons_succ]
      apply dagl_val Ext.refl (by decide) (by decide) rfl (by intro W hW H; have q := hW.1.ext.cell m2; go_simp <;> rfl)
      simp only [Act.put, List.setIfInBounds_toArray, List.set_cons_zero, List.set_cons_succ]
      refine' dagl_calls (fun v W => FedV W T O er v) (by decide) (by decide) (fun v W W' hs h => FedV.step hs h) rfl (by intro W; go_simp <;> rfl) (fun W hW H => (fed_call (RB3.out.ext hW.1.ext) HSL.out HFP.out).mono (by rintro e w' ⟨r, rfl, h1, h2⟩; exact ⟨r, rfl, h1, h2⟩)) (fun r4a => _)
      rotate_left
      simp only [Act.put, List.setIfInBounds_toArray, List.set_cons_zero, List.set_cons_succ]
      refine' dagl_run (fun v W => FedV W T O er v) (by decide) (by decide) (fun v W W' hs h => FedV.step hs h) rfl (fun W hW H => ⟨r4a, W, rfl, Ext.refl W, H 16 (by kernel_rfl)⟩) (fun r4b => _)
      rotate_left
      simp only [Act.put, List.setIfInBounds_toArray, List.set_cons_zero, List.set_cons_succ]
      refine' dagl_run (fun v W => ∃ p c, v = wtv T (.slice p T.opn.length c) ∧ SmV W (.slice p T.opn.length c) T.opn) (by decide) (by decide) (fun v W W' hs h => h.imp fun p h => h.imp fun c h => ⟨h.1, SmV.step hs h.2⟩) rfl (fun W hW H => by obtain ⟨p, c, q, d, e, h1, h2⟩ := (show FedV W T O er r4b from H 17 (by kernel_rfl)); subst e; exact ⟨_, W, rfl, Ext.refl W, p, c, rfl, h1⟩) (fun r4 => _)
      rotate_left
      simp only [Act.put, List.setIfInBounds_toArray, List.set_cons_zero, List.set_cons_succ]
      refine' dagl_run (fun v W => ∃ q d, v = .slice q O.length d ∧ SmV W (.slice q O.length d) O) (by decide) (by decide) (fun v W W' hs h => h.imp fun p h => h.imp fun c h => ⟨h.1, SmV.step hs h.2⟩) rfl (fun W hW H => by obtain ⟨p, c, q, d, e, h1, h2⟩ := (show FedV W T O er r4b from H 17 (by kernel_rfl)); subst e; exact ⟨_, W, rfl, Ext.refl W, q, d, rfl, h2⟩) (fun l4 => _)
      rotate_left
      simp only [Act.put, List.setIfInBounds_toArray, List.set_cons_zero, List.set_cons_succ]
      refine' dagl_run (fun v W => v = .int .i64 er) (by decide) (by decide) (fun v W W' hs h => h) rfl (fun W hW H => by obtain ⟨p, c, q, d, e, h1, h2⟩ := (show FedV W T O er r4b from H 17 (by kernel_rfl)); subst e; exact ⟨_, W, rfl, Ext.refl W, rfl⟩) (fun i4 => _)
      rotate_left
      simp only [Act.put, List.setIfInBounds_toArray, List.set_cons_zero, List.set_cons_succ]
      refine' dagl_link (fun v W => BoxV W3.heap.size W v) (by decide) (by decide) (fun v W W' hs h => BoxV.step hs h) rfl (fun W hW H => ⟨.pointer (some ⟨W.heap.size, 0, none⟩), W.alloc (.cells #[.int .i64 0, .int .i64 0, .int .i64 0, .int .i64 0, .slice none 0 0] 31), (by go_simp <;> rfl), Ext.alloc _ _, W.heap.size, wtC wt0 (.slice none 0 0), rfl, heap_alloc_new _ _, wt_nos wt0 none 0 0, rfl, hW.1.ext.size⟩) (fun b4 => _)
      rotate_left
      simp only [Act.put, List.setIfInBounds_toArray, List.set_cons_zero, List.set_cons_succ]
      refine' dagl_store (by decide) (by decide) ?hwuq5 ?runuq5 (fun u0 => ?nxuq5)
      case hwuq5 => exact rfl
      case runuq5 => exact (fun W hW H => box_storeL (T := T) (by rfl) (by rfl) (by rfl) (show BoxV W3.heap.size W b4 from H 21 (by kernel_rfl)) (show ∃ p c, r4 = wtv T (.slice p T.opn.length c) ∧ SmV W (.slice p T.opn.length c) T.opn from H 18 (by kernel_rfl)) hW.1)
      case' nxuq5 => simp only [Act.put]
      refine' dagl_run (fun v W => ∃ q d, v = .slice q O.length d ∧ SmV W (.slice q O.length d) O) (by decide) (by decide) (fun v W W' hs h => h.imp fun p h => h.imp fun c h => ⟨h.1, SmV.step hs h.2⟩) rfl (fun W hW H => ⟨l4, W, rfl, Ext.refl W, H 19 (by kernel_rfl)⟩) (fun l4x => _)
      rotate_left
      simp only [Act.put, List.setIfInBounds_toArray, List.set_cons_zero, List.set_cons_succ]
      refine' dagl_run (fun v W => v = .int .i64 er) (by decide) (by decide) (fun v W W' hs h => h) rfl (fun W hW H => ⟨i4, W, rfl, Ext.refl W, H 20 (by kernel_rfl)⟩) (fun i4x => _)
      rotate_left
      simp only [Act.put, List.setIfInBounds_toArray, List.set_cons_zero, List.set_cons_succ]
      refine dagl_end fun W4 H HL => ?_
      obtain ⟨p4, c4, e4, g4⟩ : ∃ p c, r4 = wtv T (.slice p T.opn.length c) ∧ SmV W4 (.slice p T.opn.length c) T.opn := H 18
      obtain ⟨u4, d4, z4, f4⟩ : ∃ q d, l4 = .slice q O.length d ∧ SmV W4 (.slice q O.length d) O := H 19
      obtain ⟨u4x, d4x, z4x, f4x⟩ : ∃ q d, l4x = .slice q O.length d ∧ SmV W4 (.slice q O.length d) O := H 23
      have hi4 : i4 = .int .i64 er := H 20
      have hi4x : i4x = .int .i64 er := H 24
      subst z4x
      subst hi4x
      subst e4
      clear g4
      obtain ⟨k4, p4, c4, y4, o4, g4, j4, hX4⟩ := HL
      subst z4
      subst y4
      subst hi4
      clear H
      have HE4 := Lib.hid hX4
      clear hX4 f4 f4x m0 m1 m2 n0 n1 n2
      by_cases he : er = 0
      case neg =>
        have hbe : (er == 0) = false := by rw [beq_eq_false_iff_ne]; exact he
        clear he
        go_wp2_with fail
        go_roundg (l.length - (j + 1))
        case measure => omega
        case rel => exact ⟨j + 1, (by first | exact congrArg (Value.int .i64) HQ.out | exact congrArg (Value.int .i64) (by omega)), hlt, rfl, Lib.hid ⟨s, _, _, _, _, HA3.out.ext HE4.out, HB3.out.ext HE4.out, RA3.out.ext HE4.out, RB3.out.ext HE4.out, HCK.out, HXW.out.trans (HE3.out.trans HE4.out)⟩⟩
      subst he
      have hfc := feed_check HCK.out (feedP_ok0 HFP.out)
      have HFC := Lib.hid hfc.1
      clear hfc
      have OX4 := Lib.hid (OX.out.ext HE4.out)
      have O4 := Lib.hid o4
      have N3 : Hid (some k3 ≠ some A) := Lib.hid (fun e => by have := Option.some.inj e; have h1 := HAb.out.lt; have h2 := j3; omega)
      have N4 : Hid (some k4 ≠ some A) := Lib.hid (fun e => by have := Option.some.inj e; have h1 := HA3.out.lt; have h2 := j4; omega)
      have OA4 := Lib.hid (HA3.out.ext HE4.out)
      have OB4 := Lib.hid (HB3.out.ext HE4.out)
      have G34 := Lib.hid (G3.out.ext HE4.out)
      have G4 := Lib.hid g4
      have HX4 := Lib.hid (HXW.out.trans (HE3.out.trans HE4.out))
      clear o4 g4 j3 j4
      go_wp2_with fail
      apply wp_region_dagY 2 3 (fun a b => a.grownBy b (some A)) (fun a b => a.grownBy b (some A)) (X := Ext) (by kernel_rfl) (by kernel_rfl) (by kernel_rfl) (by decide) (by decide) (fun _ _ _ => Ext.trans) (fun _ _ _ => World.grownBy.trans) (fun _ _ h => h.grownBy _) (fun _ _ h => h) (Ext.drew1 _)
      simp only [List.take_succ_cons, List.take_zero, List.drop_succ_cons, List.drop_zero]
      apply dagy_val Ext.refl rfl (by intro W hW H; have e := OX4.out.kept hW.1 N3.out; have q0 := e.cell (j := 0) rfl; have q1 := e.cell (j := 1) rfl; have q2 := e.cell (j := 2) rfl; have q3 := e.cell (j := 3) rfl; have q4 := e.cell (j := 4) rfl; clear e; go_simp <;> rfl)
      simp only [Act.put, List.setIfInBounds_toArray, List.set_cons_zero, List.set_cons_succ]
      apply dagy_val Ext.refl rfl (by intro W hW H; have e := O4.out.kept hW.1 N4.out; have q0 := e.cell (j := 0) rfl; have q1 := e.cell (j := 1) rfl; have q2 := e.cell (j := 2) rfl; have q3 := e.cell (j := 3) rfl; have q4 := e.cell (j := 4) rfl; clear e; go_simp <;> rfl)
      simp only [Act.put, List.setIfInBounds_toArray, List.set_cons_zero, List.set_cons_succ]
      refine' dagy_store (fun W => ObjAt W A 31 (wtC T (.slice p3 T.opn.length c3)) ∧ W4.grownBy W (some A)) ?stuq6 ?hwuq6 ?runuq6 (fun u0 => ?nxuq6)
      case stuq6 => exact fun W W' hs h => hs.elim (fun hx => ⟨h.1.ext hx, h.2.trans (hx.grownBy _)⟩) fun hz => absurd rfl hz.1
      case hwuq6 => exact rfl
      case runuq6 => exact (fun W hW H => store_at (T := T) (p := p3) (n := T.opn.length) (c := c3) (by rfl) (by rfl) (by rfl) (by rfl) (by rfl) OA4.out (by rfl) (hW.2 (by kernel_rfl)))
      case' nxuq6 => simp only [Act.put]
      refine dagy_end fun W5 H => ?_
      obtain ⟨oA6, hg6⟩ := H 2
      clear H
      have oB6 := OB4.out.kept hg6 (fun e => HAB.out (Option.some.inj e).symm)
      go_wp2_with ((with_reducible show wpList _ _ _ (Oper.mk _ (Op.store _ _ _) _ _ _ _ :: _) _ _); have hq := oB6; refine st_put (vs := wtC T (.slice p4 T.opn.length c4)) oB6 Go.Proofs.Ytpejdompanhieaa.T.wtSize rfl (wt_one T rfl) ?_; intro w7 oB7 hg7)
      have hA7 := oA6.kept hg7 (fun e => HAB.out (Option.some.inj e))
      have G36 := SmV.apart (SmV.apart G34.out OA4.out (wt_nos s _ _ _) hg6) oB6 (wt_nos s _ _ _) hg7
      have G46 := SmV.apart (SmV.apart G4.out OA4.out (wt_nos s _ _ _) hg6) oB6 (wt_nos s _ _ _) hg7
      have HX7 := (HX4.out.grown hg6 HLA.out).grown hg7 HLBB.out
      go_roundg (l.length - (j + 1))
      case measure => omega
      case rel => exact ⟨j + 1, (by first | exact congrArg (Value.int .i64) HQ.out | exact congrArg (Value.int .i64) (by omega)), hlt, rfl, Lib.hid ⟨T, _, _, _, _, hA7, oB7, G36, G46, HFC.out, HX7⟩⟩
end Go.Proofs.Ytpejdompanhieaa
