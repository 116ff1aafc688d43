/- WindowOnce of layer 35: the law answers true. -/
import Derived.Test.YtpejdompanhieaaLaw35d
namespace Go.Proofs.Ytpejdompanhieaa
open Go.RowKit

/-- What a call of Feed tells, as one value; the rows are the call's own. -/
def FedO (n : Nat) (W : World) (T : Wt) (O : List Sm) (er : Int) (v : Value) : Prop := ∃ p c q d, v = .tuple #[wtv T (.slice p T.opn.length c), .slice q O.length d, .int .i64 er] ∧ SmO 64 W n (.slice p T.opn.length c) T.opn ∧ SmO 64 W n (.slice q O.length d) O
theorem FedO.ext {n : Nat} {W W' : World} {T : Wt} {O : List Sm} {er : Int} {v : Value} (h : FedO n W T O er v) (hx : Ext W W') : FedO n W' T O er v := by
  obtain ⟨p, c, q, d, e, h1, h2⟩ := h
  exact ⟨p, c, q, d, e, ORow.keep h1 hx, ORow.keep h2 hx⟩
theorem SmO.zbox {n B : Nat} {W W' : World} {v : Value} {l : List Sm} (h : SmO 64 W B v l) (hz : ZBox n W W') : SmO 64 W' B v l := by
  obtain ⟨g, cs, cs', h1, h2, h3, h4, h5, h6, h7⟩ := hz
  refine SmO.kept h h6 ?_
  obtain ⟨css, a1, a2, a3⟩ := h
  rcases a2.2 with ⟨rfl, hn⟩ | ⟨k, cap, cur, rfl, hb, hg, r⟩
  · exact .inl rfl
  · refine .inr fun e => ?_
    have e : k = g := Option.some.inj e
    subst e
    have h1 : W.heap[k]? = some (.cells cs.toArray 31) := h1
    rw [hg] at h1
    injection h1 with h1
    injection h1 with _ h1
    exact absurd h1 (by decide)
theorem SmO.step {n B : Nat} {W W' : World} {v : Value} {l : List Sm} {i k : Nat} (hs : Ext W W' ∨ i ≠ k ∧ ZBox n W W') (h : SmO 64 W B v l) : SmO 64 W' B v l := hs.elim (fun hx => ORow.keep h hx) fun hz => SmO.zbox h hz.2
theorem FedO.step {n m : Nat} {W W' : World} {T : Wt} {O : List Sm} {er : Int} {v : Value} {i k : Nat} (hs : Ext W W' ∨ i ≠ k ∧ ZBox n W W') (h : FedO m W T O er v) : FedO m W' T O er v := by
  obtain ⟨p, c, q, d, e, h1, h2⟩ := h
  exact ⟨p, c, q, d, e, SmO.step hs h1, SmO.step hs h2⟩
theorem box_storeO {o : Oper} {a : Act} {x y : Operand} {W0 W : World} {T : Wt} {vb vr : Value} (ho : o.op = .store 31 x y) (ex : a.eval x = vb) (ey : a.eval y = vr) (hB : BoxV W0.heap.size W vb) (hR : ∃ p c, vr = wtv T (.slice p T.opn.length c) ∧ SmO 64 W W0.heap.size (.slice p T.opn.length c) T.opn) (hY : YBox W0.heap.size W0 W) :
    ∃ W', (execOp a.eval o).run Try.prog W = .ok .skip W' ∧ ZBox W0.heap.size W W' ∧ ∃ g p c, vb = .pointer (some ⟨g, 0, none⟩) ∧ ObjAt W' g 31 (wtC T (.slice p T.opn.length c)) ∧ SmO 64 W' W0.heap.size (.slice p T.opn.length c) T.opn ∧ W0.heap.size ≤ g ∧ Ext W0 W' := by
  obtain ⟨p, c, e, hR⟩ := hR
  obtain ⟨W', b1, b2, g, p2, n2, c2, b3, b4, b5, b6⟩ := box_store ho ex ey hB ⟨p, _, c, e⟩
  rw [e] at b4
  obtain ⟨rfl, rfl, rfl⟩ := wtv_inj b4
  exact ⟨W', b1, b2, g, p, c, b3, b5, SmO.zbox hR b2, b6, (YBox.trans hY (YBox.z b2)).ext⟩
theorem fedo_call {n0 : Nat} {W : World} {s T : Wt} {v : Value} {key : List UInt8} {time n : Int} {O : List Sm} {er : Int} (hn : n0 ≤ W.heap.size) (h : SmV W v s.opn) (hl : s.opn.length ≤ 100000) (e : feedP s key time n = (T, O, er)) : Calls Try.prog 10 #[wtv s v, .string ⟨key.toArray⟩, .int .i64 time, .int .i64 n] W fun e w' => ∃ r, e = .returned r ∧ FedO n0 w' T O er r ∧ Ext W w' := by
  refine (feedo_any s v key time n W h hl).mono ?_
  rw [e]
  rintro e w' ⟨v', lv, rfl, h1, h2, h3⟩
  obtain ⟨p, c, rfl, _, _⟩ := h1.view.slice
  obtain ⟨q, d, rfl, _, _⟩ := h2.view.slice
  exact ⟨_, rfl, ⟨p, c, q, d, rfl, ORow.base h1 hn, ORow.base h2 hn⟩, h3⟩
/-- The state in its box, and what was told. -/
def OnceW (w wr : World) (A : Nat) (s : Wt) (p : Option Addr) (c : Nat) (tv : Value) (told : List Sm) : Prop :=
  ObjAt wr A 31 (wtC s (.slice p s.opn.length c)) ∧ SmV wr (.slice p s.opn.length c) s.opn ∧ SmO 64 wr (A + 1) tv told ∧ Ext w wr ∧ ∀ k, (Value.slice p s.opn.length c).ownBlock = some k → tv.ownBlock ≠ some k
theorem OnceW.ext {w wr W : World} {A : Nat} {s : Wt} {p : Option Addr} {c : Nat} {tv : Value} {told : List Sm} (h : OnceW w wr A s p c tv told) (hx : Ext wr W) : OnceW w W A s p c tv told :=
  ⟨h.1.ext hx, h.2.1.ext hx, ORow.keep h.2.2.1 hx, h.2.2.2.1.trans hx, h.2.2.2.2⟩
theorem apart_at {l : List Sm} (h : l.Pairwise Apart2) {k i : Nat} (hk : k < i) (hi : i < l.length) : Apart2 (l[k]'(Nat.lt_trans hk hi)) l[i] := (List.pairwise_iff_getElem.1 h) k i _ hi hk
set_option maxRecDepth 20000 in
set_option maxHeartbeats 8000000 in
theorem windowOnce_walk (size late : Nat) (v : Value) (l : List Fd) (w : World) (hs : size < 256) (hlt0 : late < 256) (h : FdV w v l) :
    Calls Try.prog 5 #[.int .u8 (size : Int), .int .u8 (late : Int), v] w fun e w' => e = .returned (.bool true) ∧ Below w.heap.size w w' := by
  obtain ⟨q, c, rfl, _, _⟩ := h.slice
  by_cases hln : l.length ≤ 60
  case neg =>
    have hi2 : decide ((60 : Int) < (l.length : Int)) = true := by rw [decide_eq_true_eq]; omega
    clear hln
    go_enter Try.func5, Try.ntmps5
    go_wp2_with (go_at_call 8; refine (awake_any _).mono ?_; rintro e w3 ⟨rfl, hx3⟩)
    go_ret
    exact ⟨rfl, hx3⟩
  have hi2 : decide ((60 : Int) < (l.length : Int)) = false := by rw [decide_eq_false_iff_not]; omega
  obtain ⟨hnw, hO⟩ := OnceI.start (1 + (size : Int)) (late : Int) (by omega) (by omega)
  have N1 := fun W => wnew_any (1 + (size : Int)) (late : Int) W
  rw [hnw] at N1
  have hw1 : wrap64 (size : Int) = (size : Int) := by unfold wrap64; omega
  have hw2 : wrap64 (1 + (size : Int)) = 1 + (size : Int) := by unfold wrap64; omega
  have hw3 : wrap64 (late : Int) = (late : Int) := by unfold wrap64; omega
  have HO0 := Lib.hid hO
  have HV := Lib.hid h
  have HLN := Lib.hid hln
  clear hnw hO hln h
  go_enter Try.func5, Try.ntmps5
  go_wp2_with (first
    | (go_at_call 14; refine (N1 _).mono ?_; rintro e w1 ⟨rfl, hx1⟩
       have hxa := Ext.alloc w1 (.cells #[.int .i64 (1 + (size : Int)), .int .i64 (late : Int), .int .i64 (-1), .int .i64 0, .slice none 0 0] 31)
       have oA : ObjAt (w1.alloc (.cells #[.int .i64 (1 + (size : Int)), .int .i64 (late : Int), .int .i64 (-1), .int .i64 0, .slice none 0 0] 31)) w1.heap.size 31 (wtC ⟨1 + (size : Int), (late : Int), -1, 0, []⟩ (.slice none 0 0)) := heap_alloc_new w1 _
       have HOW := Lib.hid (show OnceW w _ w1.heap.size ⟨1 + (size : Int), (late : Int), -1, 0, []⟩ none 0 (.slice none 0 0) [] from ⟨oA, sm_nil _, ORow.nil _ _ _, hx1.trans hxa, fun k e => by cases e⟩)
       have HWA0 := Lib.hid hx1.size
       clear hxa oA hx1))
  clear N1
  generalize w1.heap.size = A at *
  have HWA : Hid (w.heap.size ≤ A + 1) := Lib.hid (by have := HWA0.out; omega)
  go_loopg [9, 10, 11, 12] (l.length) (fun k s9 s10 s11 s12 wr => ∃ (j : Nat) (tv : Value) (cnt tot : Int), s9 = tv ∧ s10 = .int .i64 cnt ∧ s11 = .int .i64 tot ∧ s12 = .int .i64 j ∧ j ≤ l.length ∧ k = l.length - j ∧ Hid (∃ s p c told, OnceW w wr A s p c tv told ∧ OnceI s told cnt tot (1 + (size : Int)) (late : Int) j))
  case atStart => exact ⟨0, _, 0, 0, rfl, rfl, rfl, rfl, Nat.zero_le _, rfl, Lib.hid ⟨_, _, _, _, HOW.out, HO0.out⟩⟩
  case round =>
    obtain ⟨j, tv, cnt, tot, e9, rfl, rfl, rfl, hj, hk, HI⟩ := hrel
    replace e9 := e9.symm
    subst e9
    obtain ⟨s, p, cc, told, hI, hON⟩ := HI.out
    have HON := Lib.hid hON
    have HOW := Lib.hid hI
    clear HI hON
    by_cases hlt : j < l.length
    case neg =>
      have hje : ¬ (j : Int) < (l.length : Int) := by omega
      obtain ⟨hcl, hcn, htn, hap, hfa, hlen, hc60⟩ := HON.out.all (by have := HLN.out; omega)
      have a0 := hI.1.cell (j := 0) rfl
      have a1 := hI.1.cell (j := 1) rfl
      have a2 := hI.1.cell (j := 2) rfl
      have a3 := hI.1.cell (j := 3) rfl
      have a4 := hI.1.cell (j := 4) rfl
      have C1 := close_any s (.slice p s.opn.length cc) wr hI.2.1 (by have := (checkW_ok HON.out.chk).2.2.2.2.2.2.2.2.1; omega)
      rw [hcl] at C1
      have HL1 : Hid (told.length + s.opn.length ≤ maxLen ∧ (told.length + s.opn.length) * 56 ≤ 140737488355328) := Lib.hid (by rw [List.length_append] at hlen; exact ⟨by simp [maxLen]; omega, by omega⟩)
      obtain ⟨L, hLL⟩ : ∃ L, L = told ++ s.opn := ⟨_, rfl⟩
      rw [← hLL] at hcn htn hap hfa hlen
      have TA0 := fun tv2 W (hW : SmV W tv2 L) => total_any tv2 L W hW hfa (by omega)
      simp only [hcn, htn] at TA0
      have TA := Lib.hid TA0
      clear TA0 hcn htn
      have HAP := Lib.hid hap
      have HLE := Lib.hid hlen
      have HLL := Lib.hid hLL
      clear hI hlt hcl hap hfa hlen hLL
      go_wp2_with (first
        | (go_at_call 12; refine C1.mono ?_; rintro e wc ⟨v', lv, rfl, hv', hlv, hxc⟩
           obtain ⟨qv, dv, rfl, _, _⟩ := hlv.slice
           obtain ⟨qe, de, eqe, _, _⟩ := hv'.slice
           have eqe : v' = .slice qe 0 de := eqe
           subst eqe
           have hxa := Ext.alloc wc (.cells #[.int .i64 s.size, .int .i64 s.late, .int .i64 s.mark, .int .i64 s.drops, .slice qe 0 de] 31)
           have rTc := ORow.keep HOW.out.2.2.1 (hxc.trans hxa)
           have hAc := (HOW.out.1.ext hxc).ext hxa
           have HBA : A + 1 ≤ (wc.alloc (.cells #[.int .i64 s.size, .int .i64 s.late, .int .i64 s.mark, .int .i64 s.drops, .slice qe 0 de] 31)).heap.size := hAc.lt
           have HXC := Lib.hid ((HOW.out.2.2.2.1.trans hxc).trans hxa)
           have HTB : Hid (∀ g, tv.ownBlock = some g → w.heap.size ≤ g) := Lib.hid fun g e => Nat.le_trans HWA.out (ORow.own rTc g e).1
           have fOc : SRow 6 RSm (fun k => True ∧ some k ≠ tv.ownBlock) (wc.alloc (.cells #[.int .i64 s.size, .int .i64 s.late, .int .i64 s.mark, .int .i64 s.drops, .slice qe 0 de] 31)) (.slice qv s.opn.length dv) s.opn := sm_to (SRow.ext hlv hxa)
           clear hxa)
        | (at_builtin; refine st_items Go.Proofs.Ytpejdompanhieaa.T.sms rTc fOc ?_ HL1.out.1 HL1.out.2 HBA; intro tv2 wq hoq hgq hwq
           have HXQ : Hid (Ext w wq) := Lib.hid (Below.grown HXC.out hgq HXC.out.size HTB.out)
           have hoq := hoq
           rw [← HLL.out] at hoq
           have hvq := SmO.view hoq
           obtain ⟨qt, ct, rfl, _, _⟩ := hvq.slice)
        | (go_at_call 27; refine (TA.out _ _ hvq).mono ?_; rintro e wt ⟨rfl, hxt⟩))
      have HVT := Lib.hid (SRow.ext hvq hxt)
      have HXT := Lib.hid (HXQ.out.trans hxt)
      clear hvq hxt hoq hgq hwq rTc fOc hAc hlv hv' C1 TA a0 a1 a2 a3 a4 hxc
      go_loopg [21] (L.length) (fun k s21 wi => ∃ i : Nat, s21 = .int .i64 i ∧ i ≤ L.length ∧ k = L.length - i ∧ Hid (Ext wt wi))
      case atStart => exact ⟨0, rfl, Nat.zero_le _, rfl, Lib.hid (Ext.refl _)⟩
      case round =>
        obtain ⟨i, rfl, hio, hki, HXi⟩ := hrel
        by_cases hli : i < L.length
        case neg =>
          have hii : ¬ (i : Int) < (L.length : Int) := by omega
          go_wp2_with (go_at_call 8; refine (awake_any _).mono ?_; rintro e w3 ⟨rfl, hx3⟩)
          go_ret
          exact ⟨rfl, (HXT.out.trans HXi.out).trans hx3⟩
        have hii : (i : Int) < (L.length : Int) := by omega
        have HQi : Hid (wrap64 ((i : Int) + 1) = ((i + 1 : Nat) : Int)) := Lib.hid (by have := HLE.out; unfold wrap64; omega)
        go_wp2_with fail
        go_loopg [22] (i) (fun k s22 wk => ∃ m : Nat, s22 = .int .i64 m ∧ m ≤ i ∧ k = i - m ∧ Hid (Ext wt wk))
        case atStart => exact ⟨0, rfl, Nat.zero_le _, rfl, HXi⟩
        case round =>
          obtain ⟨m, rfl, hmi, hkm, HXm⟩ := hrel
          by_cases hlm : m < i
          case neg =>
            have hmm : ¬ (m : Int) < (i : Int) := by omega
            go_wp2_with fail
            go_roundg (L.length - (i + 1))
            case measure => omega
            case rel => exact ⟨i + 1, (by first | exact congrArg (Value.int .i64) HQi.out | exact congrArg (Value.int .i64) (by omega)), hli, rfl, HXm⟩
          have hmm : (m : Int) < (i : Int) := by omega
          have hml : m < L.length := Nat.lt_trans hlm hli
          have hii2 : (m : Int) < (L.length : Int) := by omega
          have hap := apart_at HAP.out hlm hli
          obtain ⟨b9, o9, e9, ⟨n0, n1, -, -, -, -⟩⟩ := sm_at (SRow.ext HVT.out HXm.out) hli
          subst e9
          obtain ⟨b8, o8, e8, ⟨r0, r1, -, -, -, -⟩⟩ := sm_at (SRow.ext HVT.out HXm.out) hml
          cases e8
          generalize L[i] = yi at *
          generalize L[m] = ym at *
          have HQm : Hid (wrap64 ((m : Int) + 1) = ((m + 1 : Nat) : Int)) := Lib.hid (by have := HLE.out; unfold wrap64; omega)
          by_cases hst : ym.start = yi.start
          case neg =>
            have hbs : (ym.start == yi.start) = false := by rw [beq_eq_false_iff_ne]; exact hst
            clear hst hap
            go_wp2_with fail
            apply wp_region_dag (X := Ext) (by kernel_rfl) (by kernel_rfl) (fun _ _ _ => Ext.trans) (Ext.drew1 _)
            apply dag_val Ext.refl rfl (by intro W hW H; go_simp <;> rfl)
            simp only [Act.put, List.setIfInBounds_toArray, List.set_cons_zero, List.set_cons_succ]
            apply dag_val Ext.refl rfl (by intro W hW H; go_simp <;> rfl)
            simp only [Act.put, List.setIfInBounds_toArray, List.set_cons_zero, List.set_cons_succ]
            apply dag_val Ext.refl rfl (by intro W hW H; go_simp <;> rfl)
            simp only [Act.put, List.setIfInBounds_toArray, List.set_cons_zero, List.set_cons_succ]
            apply dag_val Ext.refl rfl (by intro W hW H; go_simp <;> rfl)
            simp only [Act.put, List.setIfInBounds_toArray, List.set_cons_zero, List.set_cons_succ]
            apply dag_val Ext.refl rfl (by intro W hW H; have q := hW.cell r0; go_simp <;> rfl)
            simp only [Act.put, List.setIfInBounds_toArray, List.set_cons_zero, List.set_cons_succ]
            apply dag_val Ext.refl rfl (by intro W hW H; go_simp <;> rfl)
            simp only [Act.put, List.setIfInBounds_toArray, List.set_cons_zero, List.set_cons_succ]
            apply dag_val Ext.refl rfl (by intro W hW H; go_simp <;> rfl)
            simp only [Act.put, List.setIfInBounds_toArray, List.set_cons_zero, List.set_cons_succ]
            apply dag_val Ext.refl rfl (by intro W hW H; go_simp <;> rfl)
            simp only [Act.put, List.setIfInBounds_toArray, List.set_cons_zero, List.set_cons_succ]
            apply dag_val Ext.refl rfl (by intro W hW H; go_simp <;> rfl)
            simp only [Act.put, List.setIfInBounds_toArray, List.set_cons_zero, List.set_cons_succ]
            apply dag_val Ext.refl rfl (by intro W hW H; have q := hW.cell n0; go_simp <;> rfl)
            simp only [Act.put, List.setIfInBounds_toArray, List.set_cons_zero, List.set_cons_succ]
            apply dag_val Ext.refl rfl (by intro W hW H; go_simp <;> rfl)
            simp only [Act.put, List.setIfInBounds_toArray, List.set_cons_zero, List.set_cons_succ]
            apply dag_val Ext.refl rfl (by intro W hW H; go_simp <;> rfl)
            simp only [Act.put, List.setIfInBounds_toArray, List.set_cons_zero, List.set_cons_succ]
            apply dag_not Ext.refl rfl
            simp only [Act.put, List.setIfInBounds_toArray, List.set_cons_zero, List.set_cons_succ]
            apply dag_not Ext.refl rfl
            simp only [Act.put, List.setIfInBounds_toArray, List.set_cons_zero, List.set_cons_succ]
            apply dag_not Ext.refl rfl
            simp only [Act.put, List.setIfInBounds_toArray, List.set_cons_zero, List.set_cons_succ]
            apply dag_not Ext.refl rfl
            simp only [Act.put, List.setIfInBounds_toArray, List.set_cons_zero, List.set_cons_succ]
            apply dag_not Ext.refl rfl
            simp only [Act.put, List.setIfInBounds_toArray, List.set_cons_zero, List.set_cons_succ]
            apply dag_not Ext.refl rfl
            simp only [Act.put, List.setIfInBounds_toArray, List.set_cons_zero, List.set_cons_succ]
            apply dag_not Ext.refl rfl
            simp only [Act.put, List.setIfInBounds_toArray, List.set_cons_zero, List.set_cons_succ]
            apply dag_not Ext.refl rfl
            simp only [Act.put, List.setIfInBounds_toArray, List.set_cons_zero, List.set_cons_succ]
            apply dag_not Ext.refl rfl
            simp only [Act.put, List.setIfInBounds_toArray, List.set_cons_zero, List.set_cons_succ]
            apply dag_not Ext.refl rfl
            simp only [Act.put, List.setIfInBounds_toArray, List.set_cons_zero, List.set_cons_succ]
            apply dag_not Ext.refl rfl
            simp only [Act.put, List.setIfInBounds_toArray, List.set_cons_zero, List.set_cons_succ]
            apply dag_val Ext.refl rfl (by intro W hW H; go_simp <;> rfl)
            simp only [Act.put, List.setIfInBounds_toArray, List.set_cons_zero, List.set_cons_succ]
            refine dag_end fun W hW H => ?_
            clear H
            have HXn := Lib.hid (HXm.out.trans hW)
            clear hW
            go_wp2_with fail
            go_roundg (i - (m + 1))
            case measure => omega
            case rel => exact ⟨m + 1, (by first | exact congrArg (Value.int .i64) HQm.out | exact congrArg (Value.int .i64) (by omega)), hlm, rfl, HXn⟩
          have hbs : (ym.start == yi.start) = true := by rw [beq_iff_eq]; exact hst
          have hke : ym.key ≠ yi.key := fun e => hap ⟨hst, e⟩
          have hk1 : (ym.key == yi.key) = false := by rw [beq_eq_false_iff_ne]; exact hke
          clear hst hap
          go_wp2_with fail
          apply wp_region_dag (X := Ext) (by kernel_rfl) (by kernel_rfl) (fun _ _ _ => Ext.trans) (Ext.drew1 _)
          apply dag_val Ext.refl rfl (by intro W hW H; go_simp <;> rfl)
          simp only [Act.put, List.setIfInBounds_toArray, List.set_cons_zero, List.set_cons_succ]
          apply dag_val Ext.refl rfl (by intro W hW H; go_simp <;> rfl)
          simp only [Act.put, List.setIfInBounds_toArray, List.set_cons_zero, List.set_cons_succ]
          apply dag_val Ext.refl rfl (by intro W hW H; go_simp <;> rfl)
          simp only [Act.put, List.setIfInBounds_toArray, List.set_cons_zero, List.set_cons_succ]
          apply dag_val Ext.refl rfl (by intro W hW H; go_simp <;> rfl)
          simp only [Act.put, List.setIfInBounds_toArray, List.set_cons_zero, List.set_cons_succ]
          apply dag_val Ext.refl rfl (by intro W hW H; have q := hW.cell r0; go_simp <;> rfl)
          simp only [Act.put, List.setIfInBounds_toArray, List.set_cons_zero, List.set_cons_succ]
          apply dag_val Ext.refl rfl (by intro W hW H; go_simp <;> rfl)
          simp only [Act.put, List.setIfInBounds_toArray, List.set_cons_zero, List.set_cons_succ]
          apply dag_val Ext.refl rfl (by intro W hW H; go_simp <;> rfl)
          simp only [Act.put, List.setIfInBounds_toArray, List.set_cons_zero, List.set_cons_succ]
          apply dag_val Ext.refl rfl (by intro W hW H; go_simp <;> rfl)
          simp only [Act.put, List.setIfInBounds_toArray, List.set_cons_zero, List.set_cons_succ]
          apply dag_val Ext.refl rfl (by intro W hW H; go_simp <;> rfl)
          simp only [Act.put, List.setIfInBounds_toArray, List.set_cons_zero, List.set_cons_succ]
          apply dag_val Ext.refl rfl (by intro W hW H; have q := hW.cell n0; go_simp <;> rfl)
          simp only [Act.put, List.setIfInBounds_toArray, List.set_cons_zero, List.set_cons_succ]
          apply dag_val Ext.refl rfl (by intro W hW H; go_simp <;> rfl)
          simp only [Act.put, List.setIfInBounds_toArray, List.set_cons_zero, List.set_cons_succ]
          apply dag_val Ext.refl rfl (by intro W hW H; go_simp <;> rfl)
          simp only [Act.put, List.setIfInBounds_toArray, List.set_cons_zero, List.set_cons_succ]
          apply dag_val Ext.refl rfl (by intro W hW H; go_simp <;> rfl)
          simp only [Act.put, List.setIfInBounds_toArray, List.set_cons_zero, List.set_cons_succ]
          apply dag_val Ext.refl rfl (by intro W hW H; go_simp <;> rfl)
          simp only [Act.put, List.setIfInBounds_toArray, List.set_cons_zero, List.set_cons_succ]
          apply dag_val Ext.refl rfl (by intro W hW H; go_simp <;> rfl)
          simp only [Act.put, List.setIfInBounds_toArray, List.set_cons_zero, List.set_cons_succ]
          apply dag_val Ext.refl rfl (by intro W hW H; go_simp <;> rfl)
          simp only [Act.put, List.setIfInBounds_toArray, List.set_cons_zero, List.set_cons_succ]
          apply dag_val Ext.refl rfl (by intro W hW H; have q := hW.cell r1; go_simp <;> rfl)
          simp only [Act.put, List.setIfInBounds_toArray, List.set_cons_zero, List.set_cons_succ]
          apply dag_val Ext.refl rfl (by intro W hW H; go_simp <;> rfl)
          simp only [Act.put, List.setIfInBounds_toArray, List.set_cons_zero, List.set_cons_succ]
          apply dag_val Ext.refl rfl (by intro W hW H; go_simp <;> rfl)
          simp only [Act.put, List.setIfInBounds_toArray, List.set_cons_zero, List.set_cons_succ]
          apply dag_val Ext.refl rfl (by intro W hW H; go_simp <;> rfl)
          simp only [Act.put, List.setIfInBounds_toArray, List.set_cons_zero, List.set_cons_succ]
          apply dag_val Ext.refl rfl (by intro W hW H; go_simp <;> rfl)
          simp only [Act.put, List.setIfInBounds_toArray, List.set_cons_zero, List.set_cons_succ]
          apply dag_val Ext.refl rfl (by intro W hW H; have q := hW.cell n1; go_simp <;> rfl)
          simp only [Act.put, List.setIfInBounds_toArray, List.set_cons_zero, List.set_cons_succ]
          apply dag_val Ext.refl rfl (by intro W hW H; go_simp <;> rfl)
          simp only [Act.put, List.setIfInBounds_toArray, List.set_cons_zero, List.set_cons_succ]
          apply dag_val Ext.refl rfl (by intro W hW H; go_simp <;> rfl)
          simp only [Act.put, List.setIfInBounds_toArray, List.set_cons_zero, List.set_cons_succ]
          refine dag_end fun W hW H => ?_
          clear H
          have HXn := Lib.hid (HXm.out.trans hW)
          clear hW
          go_wp2_with fail
          go_roundg (i - (m + 1))
          case measure => omega
          case rel => exact ⟨m + 1, (by first | exact congrArg (Value.int .i64) HQm.out | exact congrArg (Value.int .i64) (by omega)), hlm, rfl, HXn⟩
    have hi : (j : Int) < (l.length : Int) := by omega
    obtain ⟨b, o, rfl, M0, M1, M2⟩ := fd_at HV.out hlt
    generalize l[j] = x at *
    have m0 := hI.2.2.2.1.cell M0
    have m1 := hI.2.2.2.1.cell M1
    have m2 := hI.2.2.2.1.cell M2
    have hkk : (ByteArray.mk x.key.toArray).size = x.key.length := text_size _
    have HQ : Hid (wrap64 ((j : Int) + 1) = ((j + 1 : Nat) : Int)) := Lib.hid (by have := HLN.out; unfold wrap64; omega)
    clear M0 M1 M2
    by_cases hkl : x.key.length ≤ 100
    case neg =>
      have hi3 : decide ((100 : Int) < (x.key.length : Int)) = true := by rw [decide_eq_true_eq]; omega
      clear hI hkl
      go_wp2_with (go_at_call 8; refine (awake_any _).mono ?_; rintro e w3 ⟨rfl, hx3⟩)
      go_ret
      exact ⟨rfl, HOW.out.2.2.2.1.trans hx3⟩
    have hi3 : decide ((100 : Int) < (x.key.length : Int)) = false := by rw [decide_eq_false_iff_not]; omega
    clear hkl hI
    go_wp2_with fail
    obtain ⟨hA, rA, rT, hx, hne⟩ := HOW.out
    have hck := HON.out.chk
    have HSL : Hid (s.opn.length ≤ 100000) := Lib.hid (by have := (checkW_ok hck).2.2.2.2.2.2.2.2.1; omega)
    obtain ⟨T, O, er, hfp⟩ : ∃ T O er, feedP s x.key x.time x.n = (T, O, er) := ⟨_, _, _, rfl⟩
    have HFP := Lib.hid hfp
    have HXW := Lib.hid hx
    have RA := Lib.hid rA
    have RT := Lib.hid rT
    have HAb := Lib.hid hA
    have HNE := Lib.hid hne
    clear hfp hck hx rA rT hne HOW
    apply wp_region_dagL 21 22 25 (ZBox wr.heap.size) (YBox wr.heap.size) (fun u W => ∃ g p c, u = .pointer (some ⟨g, 0, none⟩) ∧ ObjAt W g 31 (wtC T (.slice p T.opn.length c)) ∧ SmO 64 W wr.heap.size (.slice p T.opn.length c) T.opn ∧ wr.heap.size ≤ g ∧ Ext wr W) (X := Ext) (by kernel_rfl) (by kernel_rfl) (by kernel_rfl) (by decide) (by decide) (by decide) (by kernel_rfl) (fun u a b hx h => h.imp fun g h => h.imp fun p h => h.imp fun c h => ⟨h.1, h.2.1.ext hx, ORow.keep h.2.2.1 hx, h.2.2.2.1, h.2.2.2.2.trans hx⟩) (fun _ _ _ => Ext.trans) (fun _ _ _ => YBox.trans) (fun _ _ => YBox.x) (fun _ _ => YBox.z) (Ext.drew1 _)
    simp only [List.take_succ_cons, List.take_zero, List.drop_succ_cons, List.drop_zero]
    apply dagl_val Ext.refl (by decide) (by decide) rfl (by intro W hW H; have q0 := hW.1.ext.cell (HAb.out.cell (j := 0) rfl); have q1 := hW.1.ext.cell (HAb.out.cell (j := 1) rfl); have q2 := hW.1.ext.cell (HAb.out.cell (j := 2) rfl); have q3 := hW.1.ext.cell (HAb.out.cell (j := 3) rfl); have q4 := hW.1.ext.cell (HAb.out.cell (j := 4) rfl); go_simp <;> rfl)
    simp only [Act.put, List.setIfInBounds_toArray, List.set_cons_zero, List.set_cons_succ]
    apply dagl_val Ext.refl (by decide) (by decide) rfl (by intro W hW H; go_simp <;> rfl)
    simp only [Act.put, List.setIfInBounds_toArray, List.set_cons_zero, List.set_cons_succ]
    apply dagl_val Ext.refl (by decide) (by decide) rfl (by intro W hW H; go_simp <;> rfl)
    simp only [Act.put, List.setIfInBounds_toArray, List.set_cons_zero, List.set_cons_succ]
    apply dagl_val Ext.refl (by decide) (by decide) rfl (by intro W hW H; go_simp <;> rfl)
    simp only [Act.put, List.setIfInBounds_toArray, List.set_cons_zero, List.set_cons_succ]
    apply dagl_val Ext.refl (by decide) (by decide) rfl (by intro W hW H; go_simp <;> rfl)
    simp only [Act.put, List.setIfInBounds_toArray, List.set_cons_zero, List.set_cons_succ]
    apply dagl_val Ext.refl (by decide) (by decide) rfl (by intro W hW H; have q := hW.1.ext.cell m0; go_simp <;> rfl)
    simp only [Act.put, List.setIfInBounds_toArray, List.set_cons_zero, List.set_cons_succ]
    apply dagl_val Ext.refl (by decide) (by decide) rfl (by intro W hW H; go_simp <;> rfl)
    simp only [Act.put, List.setIfInBounds_toArray, List.set_cons_zero, List.set_cons_succ]
    apply dagl_val Ext.refl (by decide) (by decide) rfl (by intro W hW H; go_simp <;> rfl)
    simp only [Act.put, List.setIfInBounds_toArray, List.set_cons_zero, List.set_cons_succ]
    apply dagl_val Ext.refl (by decide) (by decide) rfl (by intro W hW H; go_simp <;> rfl)
    simp only [Act.put, List.setIfInBounds_toArray, List.set_cons_zero, List.set_cons_succ]
    apply dagl_val Ext.refl (by decide) (by decide) rfl (by intro W hW H; go_simp <;> rfl)
    simp only [Act.put, List.setIfInBounds_toArray, List.set_cons_zero, List.set_cons_succ]
    apply dagl_val Ext.refl (by decide) (by decide) rfl (by intro W hW H; have q := hW.1.ext.cell m1; go_simp <;> rfl)
    simp only [Act.put, List.setIfInBounds_toArray, List.set_cons_zero, List.set_cons_succ]
    apply dagl_val Ext.refl (by decide) (by decide) rfl (by intro W hW H; go_simp <;> rfl)
    simp only [Act.put, List.setIfInBounds_toArray, List.set_cons_zero, List.set_cons_succ]
    apply dagl_val Ext.refl (by decide) (by decide) rfl (by intro W hW H; go_simp <;> rfl)
    simp only [Act.put, List.setIfInBounds_toArray, List.set_cons_zero, List.set_cons_succ]
    apply dagl_val Ext.refl (by decide) (by decide) rfl (by intro W hW H; go_simp <;> rfl)
    simp only [Act.put, List.setIfInBounds_toArray, List.set_cons_zero, List.set_cons_succ]
    apply dagl_val Ext.refl (by decide) (by decide) rfl (by intro W hW H; go_simp <;> rfl)
    simp only [Act.put, List.setIfInBounds_toArray, List.set_cons_zero, List.set_cons_succ]
    apply dagl_val Ext.refl (by decide) (by decide) rfl (by intro W hW H; have q := hW.1.ext.cell m2; go_simp <;> rfl)
    simp only [Act.put, List.setIfInBounds_toArray, List.set_cons_zero, List.set_cons_succ]
    refine' dagl_calls (fun v W => FedO wr.heap.size W T O er v) (by decide) (by decide) (fun v W W' hs h => FedO.step hs h) rfl (by intro W; go_simp <;> rfl) (fun W hW H => (fedo_call hW.1.ext.size (RA.out.ext hW.1.ext) HSL.out HFP.out).mono (by rintro e w' ⟨r, rfl, h1, h2⟩; exact ⟨r, rfl, h1, h2⟩)) (fun r3a => _)
    rotate_left
    simp only [Act.put, List.setIfInBounds_toArray, List.set_cons_zero, List.set_cons_succ]
    refine' dagl_run (fun v W => FedO wr.heap.size W T O er v) (by decide) (by decide) (fun v W W' hs h => FedO.step hs h) rfl (fun W hW H => ⟨r3a, W, rfl, Ext.refl W, H 16 (by kernel_rfl)⟩) (fun r3b => _)
    rotate_left
    simp only [Act.put, List.setIfInBounds_toArray, List.set_cons_zero, List.set_cons_succ]
    refine' dagl_run (fun v W => ∃ p c, v = wtv T (.slice p T.opn.length c) ∧ SmO 64 W wr.heap.size (.slice p T.opn.length c) T.opn) (by decide) (by decide) (fun v W W' hs h => h.imp fun p h => h.imp fun c h => ⟨h.1, SmO.step hs h.2⟩) rfl (fun W hW H => by obtain ⟨p, c, q, d, e, h1, h2⟩ := (show FedO wr.heap.size W T O er r3b from H 17 (by kernel_rfl)); subst e; exact ⟨_, W, rfl, Ext.refl W, p, c, rfl, h1⟩) (fun r3 => _)
    rotate_left
    simp only [Act.put, List.setIfInBounds_toArray, List.set_cons_zero, List.set_cons_succ]
    refine' dagl_run (fun v W => ∃ q d, v = .slice q O.length d ∧ SmO 64 W wr.heap.size (.slice q O.length d) O) (by decide) (by decide) (fun v W W' hs h => h.imp fun p h => h.imp fun c h => ⟨h.1, SmO.step hs h.2⟩) rfl (fun W hW H => by obtain ⟨p, c, q, d, e, h1, h2⟩ := (show FedO wr.heap.size W T O er r3b from H 17 (by kernel_rfl)); subst e; exact ⟨_, W, rfl, Ext.refl W, q, d, rfl, h2⟩) (fun l3 => _)
    rotate_left
    simp only [Act.put, List.setIfInBounds_toArray, List.set_cons_zero, List.set_cons_succ]
    refine' dagl_run (fun v W => v = .int .i64 er) (by decide) (by decide) (fun v W W' hs h => h) rfl (fun W hW H => by obtain ⟨p, c, q, d, e, h1, h2⟩ := (show FedO wr.heap.size W T O er r3b from H 17 (by kernel_rfl)); subst e; exact ⟨_, W, rfl, Ext.refl W, rfl⟩) (fun i3 => _)
    rotate_left
    simp only [Act.put, List.setIfInBounds_toArray, List.set_cons_zero, List.set_cons_succ]
    refine' dagl_link (fun v W => BoxV wr.heap.size W v) (by decide) (by decide) (fun v W W' hs h => BoxV.step hs h) rfl (fun W hW H => ⟨.pointer (some ⟨W.heap.size, 0, none⟩), W.alloc (.cells #[.int .i64 0, .int .i64 0, .int .i64 0, .int .i64 0, .slice none 0 0] 31), (by go_simp <;> rfl), Ext.alloc _ _, W.heap.size, wtC wt0 (.slice none 0 0), rfl, heap_alloc_new _ _, wt_nos wt0 none 0 0, rfl, hW.1.ext.size⟩) (fun b3 => _)
    rotate_left
    simp only [Act.put, List.setIfInBounds_toArray, List.set_cons_zero, List.set_cons_succ]
    refine' dagl_store (by decide) (by decide) ?hwuq7 ?runuq7 (fun u0 => ?nxuq7)
    case hwuq7 => exact rfl
    case runuq7 => exact (fun W hW H => box_storeO (T := T) (by rfl) (by rfl) (by rfl) (show BoxV wr.heap.size W b3 from H 21 (by kernel_rfl)) (show ∃ p c, r3 = wtv T (.slice p T.opn.length c) ∧ SmO 64 W wr.heap.size (.slice p T.opn.length c) T.opn from H 18 (by kernel_rfl)) hW.1)
    case' nxuq7 => simp only [Act.put]
    refine' dagl_run (fun v W => ∃ q d, v = .slice q O.length d ∧ SmO 64 W wr.heap.size (.slice q O.length d) O) (by decide) (by decide) (fun v W W' hs h => h.imp fun p h => h.imp fun c h => ⟨h.1, SmO.step hs h.2⟩) rfl (fun W hW H => ⟨l3, W, rfl, Ext.refl W, H 19 (by kernel_rfl)⟩) (fun l3x => _)
    rotate_left
    simp only [Act.put, List.setIfInBounds_toArray, List.set_cons_zero, List.set_cons_succ]
    refine' dagl_run (fun v W => v = .int .i64 er) (by decide) (by decide) (fun v W W' hs h => h) rfl (fun W hW H => ⟨i3, W, rfl, Ext.refl W, H 20 (by kernel_rfl)⟩) (fun i3x => _)
    rotate_left
    simp only [Act.put, List.setIfInBounds_toArray, List.set_cons_zero, List.set_cons_succ]
    refine dagl_end fun W3 H HL => ?_
    obtain ⟨p3, c3, e3, g3⟩ : ∃ p c, r3 = wtv T (.slice p T.opn.length c) ∧ SmO 64 W3 wr.heap.size (.slice p T.opn.length c) T.opn := H 18
    obtain ⟨u3, d3, z3, f3⟩ : ∃ q d, l3 = .slice q O.length d ∧ SmO 64 W3 wr.heap.size (.slice q O.length d) O := H 19
    obtain ⟨u3x, d3x, z3x, f3x⟩ : ∃ q d, l3x = .slice q O.length d ∧ SmO 64 W3 wr.heap.size (.slice q O.length d) O := H 23
    have hi3_ : i3 = .int .i64 er := H 20
    have hi3x : i3x = .int .i64 er := H 24
    subst z3x
    subst hi3x
    subst e3
    clear g3
    obtain ⟨k3, p3, c3, y3, o3, g3, j3, hX3⟩ := HL
    subst z3
    subst y3
    subst hi3_
    clear H f3
    generalize hnT : T.opn.length = nT at *
    generalize hnO : O.length = nO at *
    have hx3 := hX3
    have oX := o3
    have G3 := Lib.hid g3
    have F3 := Lib.hid f3x
    have HA3 := Lib.hid (HAb.out.ext hx3)
    have RA3 := Lib.hid (RA.out.ext hx3)
    have RT3 := Lib.hid (ORow.keep RT.out hx3)
    have HX3 := Lib.hid (HXW.out.trans hx3)
    have OX := Lib.hid oX
    have HLA : Hid (A < wr.heap.size) := Lib.hid HAb.out.lt
    have HWS : Hid (wr.heap.size ≤ k3) := Lib.hid j3
    have HTL : Hid (∀ k, tv.ownBlock = some k → k < wr.heap.size) := Lib.hid fun k e => (ORow.own RT.out k e).2
    have z2 := hx3.cell m2
    clear hX3 hx3 g3 f3x m0 m1 m2 o3 j3
    obtain ⟨N0, hN0⟩ : ∃ N0, N0 = wr.heap.size := ⟨_, rfl⟩
    rw [← hN0] at G3 F3 HLA HWS HTL
    clear hN0
    by_cases he : er = 0
    case neg =>
      have hbe : (er != 0) = true := by rw [bne_iff_ne]; exact he
      clear he
      go_wp2_with fail
      go_roundg (l.length - (j + 1))
      case measure => omega
      case rel => exact ⟨j + 1, tv, _, _, rfl, rfl, rfl, (by first | exact congrArg (Value.int .i64) HQ.out | exact congrArg (Value.int .i64) (by omega)), hlt, rfl, Lib.hid ⟨s, _, _, told, ⟨HA3.out, RA3.out, RT3.out, HX3.out, HNE.out⟩, HON.out.skip⟩⟩
    subst he
    obtain ⟨k1, k2, k3, k4, k5, k6, k7⟩ := HON.out.step (by have := HLN.out; omega) (feedP_ok0 HFP.out)
    have x3 := oX.cell (j := 3) rfl
    have a3 := HA3.out.cell (j := 3) rfl
    have hmk : ¬ T.mark < s.mark := by omega
    have hdr : ¬ T.drops < s.drops := by omega
    have K2 := Lib.hid k2
    have K3 := Lib.hid k3
    have KN := Lib.hid k1
    have HCB := Lib.hid (And.intro HON.out.cle HON.out.tle)
    clear k1 k2 k3 k4 k5 oX
    by_cases hd : T.drops = s.drops
    case neg =>
      have hbd : (T.drops == s.drops) = false := by rw [beq_eq_false_iff_ne]; exact hd
      have KON := Lib.hid (k7 hd)
      clear hd k6 k7 z2
      go_wp2_with fail
      clear x3 a3
      subst hnO
      go_loopg [16] (O.length) (fun k s16 wi => ∃ i : Nat, s16 = .int .i64 i ∧ i ≤ O.length ∧ k = O.length - i ∧ Hid (Ext W3 wi))
      case atStart => exact ⟨0, rfl, Nat.zero_le _, rfl, Lib.hid (Ext.refl _)⟩
      case round =>
        obtain ⟨i, rfl, hio, hki, HXi⟩ := hrel
        by_cases hli : i < O.length
        case pos =>
          have hii : (i : Int) < (O.length : Int) := by omega
          obtain ⟨b9, o9, e9, ⟨n0, n1, n2, n3, n4, n5⟩⟩ := sm_at ((SmO.view F3.out).ext HXi.out) hli
          have hck := K2.out _ (List.getElem_mem hli)
          have hol : O.length ≤ 1000 := by have h1 := feedW_lens (s := s) (key := x.key) (time := x.time) (n := x.n); rw [feedP_ok0 HFP.out] at h1; have h2 := (checkW_ok HON.out.chk).2.2.2.2.2.2.2.2.1; have h3 := h1.2; simp only at h3; omega
          generalize O[i] = y at *
          subst e9
          obtain ⟨cb1, cb2, cb3, cb4, -⟩ := checkW_ok K3.out
          have hm1 : IntKind.i64.wrap (y.start + T.size) = y.start + T.size := by rw [IntKind.wrap_i64]; omega
          have hm2 : IntKind.i64.wrap (y.start + T.size + T.late) = y.start + T.size + T.late := by rw [IntKind.wrap_i64]; omega
          have hm3 : decide (T.mark < y.start + T.size + T.late) = false := by rw [decide_eq_false_iff_not]; omega
          have hm4 : y.start.tmod T.size = 0 := by rw [Int.tmod_eq_emod_of_nonneg hck.2.2.1]; exact hck.2.1
          have hm5 : ¬ T.size = 0 := by omega
          have OXi := OX.out.ext HXi.out
          have q0 := OXi.cell (j := 0) rfl
          have q1 := OXi.cell (j := 1) rfl
          have q2 := OXi.cell (j := 2) rfl
          have HQi : Hid (wrap64 ((i : Int) + 1) = ((i + 1 : Nat) : Int)) := Lib.hid (by unfold wrap64; omega)
          clear hck cb1 cb2 cb3 cb4 OXi hol
          go_wp2_with fail
          apply wp_region_dag (X := Ext) (by kernel_rfl) (by kernel_rfl) (fun _ _ _ => Ext.trans) (Ext.drew1 _)
          apply dag_val Ext.refl rfl (by intro W hW H; go_simp <;> rfl)
          simp only [Act.put, List.setIfInBounds_toArray, List.set_cons_zero, List.set_cons_succ]
          apply dag_val Ext.refl rfl (by intro W hW H; go_simp <;> rfl)
          simp only [Act.put, List.setIfInBounds_toArray, List.set_cons_zero, List.set_cons_succ]
          apply dag_val Ext.refl rfl (by intro W hW H; go_simp <;> rfl)
          simp only [Act.put, List.setIfInBounds_toArray, List.set_cons_zero, List.set_cons_succ]
          apply dag_val Ext.refl rfl (by intro W hW H; go_simp <;> rfl)
          simp only [Act.put, List.setIfInBounds_toArray, List.set_cons_zero, List.set_cons_succ]
          apply dag_val Ext.refl rfl (by intro W hW H; have q := hW.cell n0; go_simp <;> rfl)
          simp only [Act.put, List.setIfInBounds_toArray, List.set_cons_zero, List.set_cons_succ]
          apply dag_val Ext.refl rfl (by intro W hW H; go_simp <;> rfl)
          simp only [Act.put, List.setIfInBounds_toArray, List.set_cons_zero, List.set_cons_succ]
          apply dag_val Ext.refl rfl (by intro W hW H; have q := hW.cell q0; go_simp <;> rfl)
          simp only [Act.put, List.setIfInBounds_toArray, List.set_cons_zero, List.set_cons_succ]
          apply dag_val Ext.refl rfl (by intro W hW H; go_simp <;> rfl)
          simp only [Act.put, List.setIfInBounds_toArray, List.set_cons_zero, List.set_cons_succ]
          apply dag_val Ext.refl rfl (by intro W hW H; go_simp <;> rfl)
          simp only [Act.put, List.setIfInBounds_toArray, List.set_cons_zero, List.set_cons_succ]
          apply dag_val Ext.refl rfl (by intro W hW H; have q := hW.cell q1; go_simp <;> rfl)
          simp only [Act.put, List.setIfInBounds_toArray, List.set_cons_zero, List.set_cons_succ]
          apply dag_val Ext.refl rfl (by intro W hW H; go_simp <;> rfl)
          simp only [Act.put, List.setIfInBounds_toArray, List.set_cons_zero, List.set_cons_succ]
          apply dag_val Ext.refl rfl (by intro W hW H; go_simp <;> rfl)
          simp only [Act.put, List.setIfInBounds_toArray, List.set_cons_zero, List.set_cons_succ]
          apply dag_val Ext.refl rfl (by intro W hW H; have q := hW.cell q2; go_simp <;> rfl)
          simp only [Act.put, List.setIfInBounds_toArray, List.set_cons_zero, List.set_cons_succ]
          apply dag_val Ext.refl rfl (by intro W hW H; go_simp <;> rfl)
          simp only [Act.put, List.setIfInBounds_toArray, List.set_cons_zero, List.set_cons_succ]
          apply dag_val Ext.refl rfl (by intro W hW H; go_simp <;> rfl)
          simp only [Act.put, List.setIfInBounds_toArray, List.set_cons_zero, List.set_cons_succ]
          apply dag_val Ext.refl rfl (by intro W hW H; go_simp <;> rfl)
          simp only [Act.put, List.setIfInBounds_toArray, List.set_cons_zero, List.set_cons_succ]
          apply dag_val Ext.refl rfl (by intro W hW H; go_simp <;> rfl)
          simp only [Act.put, List.setIfInBounds_toArray, List.set_cons_zero, List.set_cons_succ]
          apply dag_val Ext.refl rfl (by intro W hW H; go_simp <;> rfl)
          simp only [Act.put, List.setIfInBounds_toArray, List.set_cons_zero, List.set_cons_succ]
          apply dag_val Ext.refl rfl (by intro W hW H; go_simp <;> rfl)
          simp only [Act.put, List.setIfInBounds_toArray, List.set_cons_zero, List.set_cons_succ]
          apply dag_val Ext.refl rfl (by intro W hW H; have q := hW.cell n0; go_simp <;> rfl)
          simp only [Act.put, List.setIfInBounds_toArray, List.set_cons_zero, List.set_cons_succ]
          apply dag_val Ext.refl rfl (by intro W hW H; go_simp <;> rfl)
          simp only [Act.put, List.setIfInBounds_toArray, List.set_cons_zero, List.set_cons_succ]
          apply dag_val Ext.refl rfl (by intro W hW H; have q := hW.cell q0; go_simp <;> rfl)
          simp only [Act.put, List.setIfInBounds_toArray, List.set_cons_zero, List.set_cons_succ]
          apply dag_val Ext.refl rfl (by intro W hW H; go_simp <;> rfl)
          simp only [Act.put, List.setIfInBounds_toArray, List.set_cons_zero, List.set_cons_succ]
          apply dag_val Ext.refl rfl (by intro W hW H; go_simp <;> rfl)
          simp only [Act.put, List.setIfInBounds_toArray, List.set_cons_zero, List.set_cons_succ]
          apply dag_val Ext.refl rfl (by intro W hW H; go_simp <;> rfl)
          simp only [Act.put, List.setIfInBounds_toArray, List.set_cons_zero, List.set_cons_succ]
          refine dag_end fun W hW H => ?_
          clear H
          have HXn := Lib.hid (HXi.out.trans hW)
          clear hW
          go_wp2_with fail
          go_roundg (O.length - (i + 1))
          case measure => omega
          case rel => exact ⟨i + 1, (by first | exact congrArg (Value.int .i64) HQi.out | exact congrArg (Value.int .i64) (by omega)), hli, rfl, HXn⟩
        case neg =>
          have hie : i = O.length := by omega
          subst hie
          have hii : ¬ (O.length : Int) < (O.length : Int) := by omega
          have OXi := OX.out.ext HXi.out
          have HAi := HA3.out.ext HXi.out
          have q0 := OXi.cell (j := 0) rfl
          have q1 := OXi.cell (j := 1) rfl
          have q2 := OXi.cell (j := 2) rfl
          have q3 := OXi.cell (j := 3) rfl
          have q4 := OXi.cell (j := 4) rfl
          have hgo : SmV wr (.slice p3 nT c3) T.opn := (SmO.view G3.out).ext HXi.out
          have CK := check_any T (.slice p3 nT c3) wr hgo
          rw [K3.out] at CK
          have HLO := Lib.hid (told_len KON.out (by have := HLN.out; omega))
          clear hli hgo
          go_wp2_with (first
            | (go_at_call 20; refine CK.mono ?_; rintro e wc ⟨rfl, hxc⟩
               have HXc := Lib.hid (HXi.out.trans hxc)
               have oXc := OXi.ext hxc
               have hAc := HAi.ext hxc
               have x0 := oXc.cell (j := 0) rfl
               have x1 := oXc.cell (j := 1) rfl
               have x2 := oXc.cell (j := 2) rfl
               have x3 := oXc.cell (j := 3) rfl
               have x4 := oXc.cell (j := 4) rfl
               have a2 := hAc.cell (j := 2) rfl
               have a3 := hAc.cell (j := 3) rfl
               have rTc := ORow.keep RT3.out HXc.out
               have fOc : SRow 6 RSm (fun k => True ∧ some k ≠ tv.ownBlock) wc (.slice u3x O.length d3x) O := sm_to (SmO.view (ORow.keep F3.out HXc.out)))
            | (at_builtin; refine st_items Go.Proofs.Ytpejdompanhieaa.T.sms rTc fOc ?_ (by have h1 := HLO.out; rw [List.length_append] at h1; simp [maxLen]; omega) (by have h1 := HLO.out; rw [List.length_append] at h1; simp; omega) hAc.lt; intro tv2 wq hoq hgq hwq
               have hAq := hAc.kept hgq (fun e => by have := (ORow.own rTc _ e.symm).1; omega)
               have oXq := oXc.kept hgq (fun e => by have h1 := HTL.out _ e.symm; have h2 := HWS.out; omega)
               have y0 := oXq.cell (j := 0) rfl
               have y1 := oXq.cell (j := 1) rfl
               have y2 := oXq.cell (j := 2) rfl
               have y3 := oXq.cell (j := 3) rfl
               have y4 := oXq.cell (j := 4) rfl)
            | ((with_reducible show wpList _ _ _ (Oper.mk _ (Op.store _ _ _) _ _ _ _ :: _) _ _); refine st_put (vs := wtC T (.slice p3 nT c3)) hAq Go.Proofs.Ytpejdompanhieaa.T.wtSize rfl (wt_one T rfl) ?_; intro wz hAz hgz))
          have hap : ∀ k, (Value.slice p3 nT c3).ownBlock = some k → N0 ≤ k ∧ k < wc.heap.size := fun k e => ⟨(ORow.own G3.out k e).1, Nat.lt_of_lt_of_le (ORow.own G3.out k e).2 HXc.out.size⟩
          have hgT := ORow.keep G3.out HXc.out
          have hgq2 := SmO.kept hgT hgq (by
            cases hv : (Value.slice p3 nT c3).ownBlock with
            | none => exact .inl rfl
            | some k =>
              refine .inr fun e => ?_
              have h1 := hap k hv
              have h2 := HTL.out k e.symm
              omega)
          have hgz2 := SmO.view (SmO.kept hgq2 hgz (.inr fun e => by have h1 := hap _ e; have h2 := HLA.out; omega))
          have hoz := SmO.kept hoq hgz (.inr fun e => by have := (ORow.own hoq _ e).1; omega)
          have HXz : Ext w wz := Ext.grown (ORow.grown (ORow.base rTc (HWA.out : w.heap.size ≤ A + 1)) (HX3.out.trans HXc.out) hgq) hgz (by have := HWA0.out; omega)
          go_roundg (l.length - (j + 1))
          case measure => omega
          case rel =>
            subst hnT
            refine ⟨j + 1, tv2, _, _, rfl, rfl, rfl, (by first | exact congrArg (Value.int .i64) HQ.out | exact congrArg (Value.int .i64) (by omega)), hlt, rfl, Lib.hid ⟨T, _, _, told ++ O, ⟨hAz, hgz2, hoz, HXz, fun k e e2 => ?_⟩, KON.out⟩⟩
            have h1 := hap k e
            rcases hwq with h | h
            · have h2 := HTL.out k (h ▸ e2)
              omega
            · have h2 := Option.some.inj (h.symm.trans e2)
              omega
    have hbd : (T.drops == s.drops) = true := by rw [beq_iff_eq]; exact hd
    have KON := Lib.hid (k6 hd)
    have hw4 : wrap64 (cnt + 1) = cnt + 1 := by have := HCB.out; have := HLN.out; unfold wrap64; omega
    have hw5 : wrap64 (tot + x.n) = tot + x.n := by have := HCB.out; have := HLN.out; have := KN.out; unfold wrap64; omega
    clear hd k6 k7
    go_wp2_with fail
    clear x3 a3
    subst hnO
    go_loopg [16] (O.length) (fun k s16 wi => ∃ i : Nat, s16 = .int .i64 i ∧ i ≤ O.length ∧ k = O.length - i ∧ Hid (Ext W3 wi))
    case atStart => exact ⟨0, rfl, Nat.zero_le _, rfl, Lib.hid (Ext.refl _)⟩
    case round =>
      obtain ⟨i, rfl, hio, hki, HXi⟩ := hrel
      by_cases hli : i < O.length
      case pos =>
        have hii : (i : Int) < (O.length : Int) := by omega
        obtain ⟨b9, o9, e9, ⟨n0, n1, n2, n3, n4, n5⟩⟩ := sm_at ((SmO.view F3.out).ext HXi.out) hli
        have hck := K2.out _ (List.getElem_mem hli)
        have hol : O.length ≤ 1000 := by have h1 := feedW_lens (s := s) (key := x.key) (time := x.time) (n := x.n); rw [feedP_ok0 HFP.out] at h1; have h2 := (checkW_ok HON.out.chk).2.2.2.2.2.2.2.2.1; have h3 := h1.2; simp only at h3; omega
        generalize O[i] = y at *
        subst e9
        obtain ⟨cb1, cb2, cb3, cb4, -⟩ := checkW_ok K3.out
        have hm1 : IntKind.i64.wrap (y.start + T.size) = y.start + T.size := by rw [IntKind.wrap_i64]; omega
        have hm2 : IntKind.i64.wrap (y.start + T.size + T.late) = y.start + T.size + T.late := by rw [IntKind.wrap_i64]; omega
        have hm3 : decide (T.mark < y.start + T.size + T.late) = false := by rw [decide_eq_false_iff_not]; omega
        have hm4 : y.start.tmod T.size = 0 := by rw [Int.tmod_eq_emod_of_nonneg hck.2.2.1]; exact hck.2.1
        have hm5 : ¬ T.size = 0 := by omega
        have OXi := OX.out.ext HXi.out
        have q0 := OXi.cell (j := 0) rfl
        have q1 := OXi.cell (j := 1) rfl
        have q2 := OXi.cell (j := 2) rfl
        have HQi : Hid (wrap64 ((i : Int) + 1) = ((i + 1 : Nat) : Int)) := Lib.hid (by unfold wrap64; omega)
        clear hck cb1 cb2 cb3 cb4 OXi hol
        go_wp2_with fail
        apply wp_region_dag (X := Ext) (by kernel_rfl) (by kernel_rfl) (fun _ _ _ => Ext.trans) (Ext.drew1 _)
        apply dag_val Ext.refl rfl (by intro W hW H; go_simp <;> rfl)
        simp only [Act.put, List.setIfInBounds_toArray, List.set_cons_zero, List.set_cons_succ]
        apply dag_val Ext.refl rfl (by intro W hW H; go_simp <;> rfl)
        simp only [Act.put, List.setIfInBounds_toArray, List.set_cons_zero, List.set_cons_succ]
        apply dag_val Ext.refl rfl (by intro W hW H; go_simp <;> rfl)
        simp only [Act.put, List.setIfInBounds_toArray, List.set_cons_zero, List.set_cons_succ]
        apply dag_val Ext.refl rfl (by intro W hW H; go_simp <;> rfl)
        simp only [Act.put, List.setIfInBounds_toArray, List.set_cons_zero, List.set_cons_succ]
        apply dag_val Ext.refl rfl (by intro W hW H; have q := hW.cell n0; go_simp <;> rfl)
        simp only [Act.put, List.setIfInBounds_toArray, List.set_cons_zero, List.set_cons_succ]
        apply dag_val Ext.refl rfl (by intro W hW H; go_simp <;> rfl)
        simp only [Act.put, List.setIfInBounds_toArray, List.set_cons_zero, List.set_cons_succ]
        apply dag_val Ext.refl rfl (by intro W hW H; have q := hW.cell q0; go_simp <;> rfl)
        simp only [Act.put, List.setIfInBounds_toArray, List.set_cons_zero, List.set_cons_succ]
        apply dag_val Ext.refl rfl (by intro W hW H; go_simp <;> rfl)
        simp only [Act.put, List.setIfInBounds_toArray, List.set_cons_zero, List.set_cons_succ]
        apply dag_val Ext.refl rfl (by intro W hW H; go_simp <;> rfl)
        simp only [Act.put, List.setIfInBounds_toArray, List.set_cons_zero, List.set_cons_succ]
        apply dag_val Ext.refl rfl (by intro W hW H; have q := hW.cell q1; go_simp <;> rfl)
        simp only [Act.put, List.setIfInBounds_toArray, List.set_cons_zero, List.set_cons_succ]
        apply dag_val Ext.refl rfl (by intro W hW H; go_simp <;> rfl)
        simp only [Act.put, List.setIfInBounds_toArray, List.set_cons_zero, List.set_cons_succ]
        apply dag_val Ext.refl rfl (by intro W hW H; go_simp <;> rfl)
        simp only [Act.put, List.setIfInBounds_toArray, List.set_cons_zero, List.set_cons_succ]
        apply dag_val Ext.refl rfl (by intro W hW H; have q := hW.cell q2; go_simp <;> rfl)
        simp only [Act.put, List.setIfInBounds_toArray, List.set_cons_zero, List.set_cons_succ]
        apply dag_val Ext.refl rfl (by intro W hW H; go_simp <;> rfl)
        simp only [Act.put, List.setIfInBounds_toArray, List.set_cons_zero, List.set_cons_succ]
        apply dag_val Ext.refl rfl (by intro W hW H; go_simp <;> rfl)
        simp only [Act.put, List.setIfInBounds_toArray, List.set_cons_zero, List.set_cons_succ]
        apply dag_val Ext.refl rfl (by intro W hW H; go_simp <;> rfl)
        simp only [Act.put, List.setIfInBounds_toArray, List.set_cons_zero, List.set_cons_succ]
        apply dag_val Ext.refl rfl (by intro W hW H; go_simp <;> rfl)
        simp only [Act.put, List.setIfInBounds_toArray, List.set_cons_zero, List.set_cons_succ]
        apply dag_val Ext.refl rfl (by intro W hW H; go_simp <;> rfl)
        simp only [Act.put, List.setIfInBounds_toArray, List.set_cons_zero, List.set_cons_succ]
        apply dag_val Ext.refl rfl (by intro W hW H; go_simp <;> rfl)
        simp only [Act.put, List.setIfInBounds_toArray, List.set_cons_zero, List.set_cons_succ]
        apply dag_val Ext.refl rfl (by intro W hW H; have q := hW.cell n0; go_simp <;> rfl)
        simp only [Act.put, List.setIfInBounds_toArray, List.set_cons_zero, List.set_cons_succ]
        apply dag_val Ext.refl rfl (by intro W hW H; go_simp <;> rfl)
        simp only [Act.put, List.setIfInBounds_toArray, List.set_cons_zero, List.set_cons_succ]
        apply dag_val Ext.refl rfl (by intro W hW H; have q := hW.cell q0; go_simp <;> rfl)
        simp only [Act.put, List.setIfInBounds_toArray, List.set_cons_zero, List.set_cons_succ]
        apply dag_val Ext.refl rfl (by intro W hW H; go_simp <;> rfl)
        simp only [Act.put, List.setIfInBounds_toArray, List.set_cons_zero, List.set_cons_succ]
        apply dag_val Ext.refl rfl (by intro W hW H; go_simp <;> rfl)
        simp only [Act.put, List.setIfInBounds_toArray, List.set_cons_zero, List.set_cons_succ]
        apply dag_val Ext.refl rfl (by intro W hW H; go_simp <;> rfl)
        simp only [Act.put, List.setIfInBounds_toArray, List.set_cons_zero, List.set_cons_succ]
        refine dag_end fun W hW H => ?_
        clear H
        have HXn := Lib.hid (HXi.out.trans hW)
        clear hW
        go_wp2_with fail
        go_roundg (O.length - (i + 1))
        case measure => omega
        case rel => exact ⟨i + 1, (by first | exact congrArg (Value.int .i64) HQi.out | exact congrArg (Value.int .i64) (by omega)), hli, rfl, HXn⟩
      case neg =>
        have hie : i = O.length := by omega
        subst hie
        have hii : ¬ (O.length : Int) < (O.length : Int) := by omega
        have OXi := OX.out.ext HXi.out
        have HAi := HA3.out.ext HXi.out
        have q0 := OXi.cell (j := 0) rfl
        have q1 := OXi.cell (j := 1) rfl
        have q2 := OXi.cell (j := 2) rfl
        have q3 := OXi.cell (j := 3) rfl
        have q4 := OXi.cell (j := 4) rfl
        have hgo : SmV wr (.slice p3 nT c3) T.opn := (SmO.view G3.out).ext HXi.out
        have CK := check_any T (.slice p3 nT c3) wr hgo
        rw [K3.out] at CK
        have HLO := Lib.hid (told_len KON.out (by have := HLN.out; omega))
        clear hli hgo
        go_wp2_with (first
          | (go_at_call 20; refine CK.mono ?_; rintro e wc ⟨rfl, hxc⟩
             have HXc := Lib.hid (HXi.out.trans hxc)
             have oXc := OXi.ext hxc
             have hAc := HAi.ext hxc
             have x0 := oXc.cell (j := 0) rfl
             have x1 := oXc.cell (j := 1) rfl
             have x2 := oXc.cell (j := 2) rfl
             have x3 := oXc.cell (j := 3) rfl
             have x4 := oXc.cell (j := 4) rfl
             have a2 := hAc.cell (j := 2) rfl
             have a3 := hAc.cell (j := 3) rfl
             have rTc := ORow.keep RT3.out HXc.out
             have fOc : SRow 6 RSm (fun k => True ∧ some k ≠ tv.ownBlock) wc (.slice u3x O.length d3x) O := sm_to (SmO.view (ORow.keep F3.out HXc.out)))
          | (at_builtin; refine st_items Go.Proofs.Ytpejdompanhieaa.T.sms rTc fOc ?_ (by have h1 := HLO.out; rw [List.length_append] at h1; simp [maxLen]; omega) (by have h1 := HLO.out; rw [List.length_append] at h1; simp; omega) hAc.lt; intro tv2 wq hoq hgq hwq
             have hAq := hAc.kept hgq (fun e => by have := (ORow.own rTc _ e.symm).1; omega)
             have oXq := oXc.kept hgq (fun e => by have h1 := HTL.out _ e.symm; have h2 := HWS.out; omega)
             have y0 := oXq.cell (j := 0) rfl
             have y1 := oXq.cell (j := 1) rfl
             have y2 := oXq.cell (j := 2) rfl
             have y3 := oXq.cell (j := 3) rfl
             have y4 := oXq.cell (j := 4) rfl)
          | ((with_reducible show wpList _ _ _ (Oper.mk _ (Op.store _ _ _) _ _ _ _ :: _) _ _); refine st_put (vs := wtC T (.slice p3 nT c3)) hAq Go.Proofs.Ytpejdompanhieaa.T.wtSize rfl (wt_one T rfl) ?_; intro wz hAz hgz))
        have hap : ∀ k, (Value.slice p3 nT c3).ownBlock = some k → N0 ≤ k ∧ k < wc.heap.size := fun k e => ⟨(ORow.own G3.out k e).1, Nat.lt_of_lt_of_le (ORow.own G3.out k e).2 HXc.out.size⟩
        have hgT := ORow.keep G3.out HXc.out
        have hgq2 := SmO.kept hgT hgq (by
          cases hv : (Value.slice p3 nT c3).ownBlock with
          | none => exact .inl rfl
          | some k =>
            refine .inr fun e => ?_
            have h1 := hap k hv
            have h2 := HTL.out k e.symm
            omega)
        have hgz2 := SmO.view (SmO.kept hgq2 hgz (.inr fun e => by have h1 := hap _ e; have h2 := HLA.out; omega))
        have hoz := SmO.kept hoq hgz (.inr fun e => by have := (ORow.own hoq _ e).1; omega)
        have HXz : Ext w wz := Ext.grown (ORow.grown (ORow.base rTc (HWA.out : w.heap.size ≤ A + 1)) (HX3.out.trans HXc.out) hgq) hgz (by have := HWA0.out; omega)
        go_roundg (l.length - (j + 1))
        case measure => omega
        case rel =>
          subst hnT
          refine ⟨j + 1, tv2, _, _, rfl, rfl, rfl, (by first | exact congrArg (Value.int .i64) HQ.out | exact congrArg (Value.int .i64) (by omega)), hlt, rfl, Lib.hid ⟨T, _, _, told ++ O, ⟨hAz, hgz2, hoz, HXz, fun k e e2 => ?_⟩, KON.out⟩⟩
          have h1 := hap k e
          rcases hwq with h | h
          · have h2 := HTL.out k (h ▸ e2)
            omega
          · have h2 := Option.some.inj (h.symm.trans e2)
            omega
end Go.Proofs.Ytpejdompanhieaa
