/- The statement BloomKeeps of layer 33: the walk of the law. -/
import Derived.Test.YthlhhnkalknidaaAwake33
import Derived.Test.YthlhhnkalknidaaBmK
import Derived.Test.YthlhhnkalknidaaReads2
namespace Go.Proofs.Ythlhhnkalknidaa
open Go.RowKit

theorem BV.beside3 {w : World} {v : Value} {l : List UInt8} (h : BV w v l) {g : Nat} {t : TypeId} {x : Value} {e n : Int} (ho : ObjAt w g t [x, .int .i64 e, .int .i64 n]) (hx : ∀ b : UInt8, x ≠ bv b) (a b c : Value) : BV (set3 w g a b c) v l := by
  obtain ⟨p, cc, rfl, h1, h2, h3⟩ := h
  refine ⟨p, cc, rfl, h1, h2, fun hne => ?_⟩
  obtain ⟨k, o, rfl, hc⟩ := h3 hne
  have hk : k ≠ g := by
    rintro rfl
    have h0 : 0 < l.length := by rcases l with _ | ⟨y, r⟩; exact absurd rfl hne; simp
    have hcell := hc 0 _ (bs_get l h0)
    unfold World.cell? at hcell
    have ho' : w.heap[k]? = some (.cells [x, .int .i64 e, .int .i64 n].toArray t) := ho
    simp only [ho'] at hcell
    have hmem : bv l[0] ∈ [x, .int .i64 e, .int .i64 n] := by
      have : [x, Value.int .i64 e, .int .i64 n][o + 0]? = some (bv l[0]) := by simpa using hcell
      exact List.mem_of_getElem? this
    simp only [List.mem_cons, List.not_mem_nil, or_false] at hmem
    rcases hmem with h | h | h
    · exact hx _ h.symm
    · cases h
    · cases h
  exact ⟨k, o, rfl, fun j u hu => (grown_keeps (grown_set3 w g a b c)).cell (a := ⟨k, o + j, none⟩) hk (hc j u hu)⟩
theorem slice_nb (p : Option Addr) (n c : Nat) : ∀ b : UInt8, Value.slice p n c ≠ bv b := fun b e => by cases e
/-- A text of a row of texts. -/
theorem str_at {S : Nat → Prop} {w : World} {p : Option Addr} {n c : Nat} {xs : List (List UInt8)} (h : SRow 1 RS S w (.slice p n c) xs) {j : Nat} (hj : j < xs.length) :
    ∃ b o, p = some ⟨b, o, none⟩ ∧ w.cell? ⟨b, o + j, none⟩ = some (.string ⟨(xs.getD j []).toArray⟩) := by
  obtain ⟨b, o, cs, e, _, hc, hu⟩ := h.cells (by decide) hj
  have := hu.now.1
  subst this
  refine ⟨b, o, e, ?_⟩
  rw [List.getD_eq_getElem?_getD, List.getElem?_eq_getElem hj]
  simpa using hc 0 _ rfl

/-- A set in its box. -/
structure In (w : World) (g : Nat) (s : SetB) : Prop where
  ex : ∃ p c, ObjAt w g 27 [.slice p s.bits.length c, .int .i64 s.each, .int .i64 s.n] ∧ BV w (.slice p s.bits.length c) s.bits
theorem In.ext {w w' : World} {g : Nat} {s : SetB} (h : In w g s) (hx : Ext w w') : In w' g s := by
  obtain ⟨p, c, h1, h2⟩ := h.ex
  exact ⟨p, c, h1.ext hx, h2.ext hx⟩
/-- A set that is laid into another box leaves it. -/
theorem In.far3 {w : World} {g g' : Nat} {s : SetB} (h : In w g s) {x : Value} {e n : Int} (ho : ObjAt w g' 27 [x, .int .i64 e, .int .i64 n]) (hx : ∀ b : UInt8, x ≠ bv b) (hne : g ≠ g') (a b c : Value) : In (set3 w g' a b c) g s := by
  obtain ⟨p, q, h1, h2⟩ := h.ex
  exact ⟨p, q, h1.far3 hne _ _ _, h2.beside3 ho hx _ _ _⟩
/-- A set is laid into its box. -/
theorem In.laid {w : World} {g : Nat} {x : Value} {e n : Int} (ho : ObjAt w g 27 [x, .int .i64 e, .int .i64 n]) (hx : ∀ b : UInt8, x ≠ bv b) {p : Option Addr} {c : Nat} (s : SetB) (hb : BV w (.slice p s.bits.length c) s.bits) : In (set3 w g (.slice p s.bits.length c) (.int .i64 s.each) (.int .i64 s.n)) g s :=
  ⟨p, c, (ho.stored3 _ _ _).2, hb.beside3 ho hx _ _ _⟩

/-! ### The contracts, over whole sets -/
theorem addS_any (v : Value) (s : SetB) (key : List UInt8) (w : World) (h : BV w v s.bits) (hk : key.length ≤ maxLen) (hl : s.bits.length ≤ 5000) (h1 : 0 ≤ s.n) (h2 : s.n ≤ 1099511627776) :
    Calls Try.prog 12 #[stv v s.each s.n, .string ⟨key.toArray⟩] w fun e w' => ∃ p c, e = .returned (stv (.slice p (addB s key).bits.length c) (addB s key).each (addB s key).n) ∧ BV w' (.slice p (addB s key).bits.length c) (addB s key).bits ∧ Ext w w' := by
  refine (add_any v s.bits s.each s.n key w h hk (by omega)).mono ?_
  rintro e w' ⟨v', rfl, hb, hx⟩
  obtain ⟨p, c, rfl⟩ := hb.slice
  exact ⟨p, c, rfl, hb, hx⟩
theorem fullS_any (v : Value) (s : SetB) (w : World) (h : BV w v s.bits) (hl : s.bits.length ≤ 5000) :
    Calls Try.prog 23 #[stv v s.each s.n] w fun e w' => e = .returned (.int .i64 (fullL s.bits : Nat)) ∧ Ext w w' := full_any v s.bits s.each s.n w h (by omega)
theorem hasS_any (v : Value) (s : SetB) (key : List UInt8) (w : World) (h : BV w v s.bits) (hk : key.length ≤ maxLen) (ht : hasB s key = true) :
    Calls Try.prog 15 #[stv v s.each s.n, .string ⟨key.toArray⟩] w fun e w' => e = .returned (.bool true) ∧ Ext w w' := by
  rw [← ht]
  exact has_any v s.bits s.each s.n key w h hk

set_option maxRecDepth 20000 in
set_option maxHeartbeats 8000000 in
theorem bloomKeeps_walk (vk : Value) (K : List (List UInt8)) (size each : Nat) (w : World) (hk : SRow 1 RS (fun _ => True) w vk K) (hsz : size < 256) (_ : each < 256) :
    Calls Try.prog 6 #[vk, .int .u8 (size : Int), .int .u8 (each : Int)] w fun e w' => e = .returned (.bool true) ∧ Ext w w' := by
  obtain ⟨p, c, rfl, hkc, hkm⟩ := hk.slice
  unfold maxLen at hkm
  by_cases hl : 30 < K.length
  · have hl2 : (30 : Int) < (K.length : Int) := by omega
    clear hl
    go_enter Try.func6, Try.ntmps6
    go_wp2_with (go_at_call 9; refine (awake_any _).mono ?_; rintro e w1 ⟨rfl, hx1⟩)
    go_ret
    exact ⟨rfl, hx1⟩
  have hl2 : ¬ (30 : Int) < (K.length : Int) := by omega
  obtain ⟨M, hM, hM1, hM2⟩ : ∃ M : Nat, 1 + (size : Int) % 64 = (M : Int) ∧ 1 ≤ M ∧ M ≤ 64 := ⟨1 + size % 64, by omega, by omega, by omega⟩
  obtain ⟨E, hE, hE1, hE2⟩ : ∃ E : Nat, 1 + (each : Int) % 16 = (E : Int) ∧ 1 ≤ E ∧ E ≤ 16 := ⟨1 + each % 16, by omega, by omega, by omega⟩
  have hg0 : goodB ⟨List.replicate M 0, (E : Int), 0⟩ := by unfold goodB; simp; omega
  have hnew : newS (M : Int) (E : Int) = (⟨List.replicate M 0, (E : Int), 0⟩, 0) := by
    unfold newS
    rw [Int.toNat_natCast, if_pos ⟨by omega, by omega, hg0⟩]
  have N1 := newset_any (M : Int) (E : Int) w
  rw [hnew] at N1
  have hlr : (List.replicate M (0 : UInt8)).length = M := by simp
  have hz0 : fullL (List.replicate M (0 : UInt8)) = 0 := full_zeros M
  generalize hs0 : (⟨List.replicate M 0, (E : Int), 0⟩ : SetB) = s0 at *
  have hb0 : s0.bits = List.replicate M 0 := by rw [← hs0]
  have hn0 : s0.n = 0 := by rw [← hs0]
  have he0 : s0.each = (E : Int) := by rw [← hs0]
  simp only at N1
  rw [← hb0] at hlr hz0
  have HG := Lib.hid hg0
  have HB0 := Lib.hid hb0
  have HN0 := Lib.hid hn0
  have HE0 := Lib.hid he0
  have HLR := Lib.hid hlr
  have HZ0 := Lib.hid hz0
  clear hg0 hnew hs0 hb0 hn0 he0 hlr hz0 hsz
  go_enter Try.func6, Try.ntmps6
  go_wp2_with (go_at_call 19; refine N1.mono ?_; rintro e w1 ⟨v1, rfl, hb1, hx1⟩
               obtain ⟨p1, c1, e1⟩ := hb1.slice
               subst e1)
  have ho7 : ObjAt ((w1.alloc (.cells #[.slice p1 s0.bits.length c1, .int .i64 s0.each, .int .i64 s0.n] 27)).alloc (.cells #[.slice p1 s0.bits.length c1, .int .i64 s0.each, .int .i64 s0.n] 27)) w1.heap.size 27 [.slice p1 s0.bits.length c1, .int .i64 s0.each, .int .i64 s0.n] := heap_alloc2_old w1 _ _
  have ho9 : ObjAt ((w1.alloc (.cells #[.slice p1 s0.bits.length c1, .int .i64 s0.each, .int .i64 s0.n] 27)).alloc (.cells #[.slice p1 s0.bits.length c1, .int .i64 s0.each, .int .i64 s0.n] 27)) (w1.heap.size + 1) 27 [.slice p1 s0.bits.length c1, .int .i64 s0.each, .int .i64 s0.n] := heap_alloc2_new w1 _ _
  have hxa := hx1.trans ((Ext.alloc w1 (.cells #[.slice p1 s0.bits.length c1, .int .i64 s0.each, .int .i64 s0.n] 27)).trans (Ext.alloc _ (.cells #[.slice p1 s0.bits.length c1, .int .i64 s0.each, .int .i64 s0.n] 27)))
  have hba := hb1.ext ((Ext.alloc w1 (.cells #[.slice p1 s0.bits.length c1, .int .i64 s0.each, .int .i64 s0.n] 27)).trans (Ext.alloc _ (.cells #[.slice p1 s0.bits.length c1, .int .i64 s0.each, .int .i64 s0.n] 27)))
  have hsw := Lib.hid hx1.size
  clear hb1
  go_loopg [10, 11] (K.length) (fun k s10 s11 wr => ∃ j : Nat, s11 = .int .i64 j ∧ j ≤ K.length ∧ k = K.length - j ∧ s10 = .int .i64 (fullL (sB s0 K j).bits : Nat) ∧ In wr w1.heap.size (sB s0 K j) ∧ In wr (w1.heap.size + 1) (oB s0 K j) ∧ Hid (∀ t, t < j → (K.getD t []).length ≤ 60) ∧ Ext w wr)
  case atStart => exact ⟨0, rfl, Nat.zero_le _, rfl, by show _ = Value.int .i64 (fullL s0.bits : Nat); rw [HZ0.out]; rfl, ⟨p1, c1, ho7, hba⟩, ⟨p1, c1, ho9, hba⟩, fun t ht => by omega, hxa⟩
  case round =>
    obtain ⟨j, rfl, hj, hk2, rfl, hi7, hi9, HK, hx⟩ := hrel
    by_cases hlt : j < K.length
    case pos =>
      have hi : (j : Int) < (K.length : Int) := by omega
      obtain ⟨bk, ok, e9, hck0⟩ := str_at hk hlt
      subst e9
      have hck := hx.cell hck0
      have hsize : (ByteArray.mk (K.getD j []).toArray).size = (K.getD j []).length := text_size _
      by_cases h60 : (K.getD j []).length ≤ 60
      case neg =>
        have h61 : (60 : Int) < ((K.getD j []).length : Int) := by omega
        clear h60
        generalize K.getD j [] = key at *
        go_wp2_with (go_at_call 9; refine (awake_any _).mono ?_; rintro e w4 ⟨rfl, hx4⟩)
        go_ret
        exact ⟨rfl, hx.trans hx4⟩
      have h61 : ¬ (60 : Int) < ((K.getD j []).length : Int) := by omega
      have HK2 : Hid (∀ t, t < j + 1 → (K.getD t []).length ≤ 60) := fun t ht => by
        by_cases e : t = j
        · subst e; exact h60
        · exact HK.out t (by omega)
      obtain ⟨f1, f2, f3, f4, hns, f5, f6, f7, hmono2⟩ := keep_round s0 K HG.out HN0.out (by rw [HLR.out]; exact hM2) j (by omega)
      have A1 := fun v W h => addS_any v (sB s0 K j) (K.getD j []) W h (Nat.le_trans h60 (by simp [maxLen])) f1 f2 f3
      have F1 := fun v W h => fullS_any v (sB s0 K (j + 1)) W h f4
      have hS : addB (sB s0 K j) (K.getD j []) = sB s0 K (j + 1) := rfl
      have A2 := fun v W h => addS_any v (oB s0 K j) (K.getD j []) W h (Nat.le_trans h60 (by simp [maxLen])) f5 f6 f7
      have hO : j % 2 = 0 → addB (oB s0 K j) (K.getD j []) = oB s0 K (j + 1) := fun e => by simp only [oB]; rw [if_pos e]
      have hO2 : j % 2 ≠ 0 → oB s0 K j = oB s0 K (j + 1) := fun e => by simp only [oB]; rw [if_neg e]
      rw [hS] at A1
      have HO := Lib.hid hO
      have HO2 := Lib.hid hO2
      clear f1 f2 f3 f4 f5 f6 f7 hS hO hO2 h60
      generalize K.getD j [] = key at *
      generalize sB s0 K j = S at *
      generalize hSn : sB s0 K (j + 1) = S' at *
      have HSn := Lib.hid hSn
      clear hSn
      generalize oB s0 K j = O at *
      generalize hOn : oB s0 K (j + 1) = O' at *
      have HOn := Lib.hid hOn
      clear hOn
      obtain ⟨ps, cs, os, bs⟩ := hi7.ex
      obtain ⟨m0, m1, m2⟩ := os.cells3
      go_wp2_with fail
      apply wp_region_dag_tail 6 (X := Ext) (by kernel_rfl) (by kernel_rfl) (by kernel_rfl) (by decide) (fun _ _ _ => Ext.trans) (Ext.drew1 _)
      simp only [List.take_succ_cons, List.take_zero, List.drop_succ_cons, List.drop_zero]
      apply dag_val Ext.refl rfl (by intro W hW H; have k0 := hW.cell m0; have k1 := hW.cell m1; have k2 := hW.cell m2; go_simp <;> rfl)
      simp only [Act.put, List.setIfInBounds_toArray, List.set_cons_zero, List.set_cons_succ]
      apply dag_val Ext.refl rfl (by intro W hW H; go_simp <;> rfl)
      simp only [Act.put, List.setIfInBounds_toArray, List.set_cons_zero, List.set_cons_succ]
      apply dag_val Ext.refl rfl (by intro W hW H; go_simp <;> rfl)
      simp only [Act.put, List.setIfInBounds_toArray, List.set_cons_zero, List.set_cons_succ]
      apply dag_val Ext.refl rfl (by intro W hW H; go_simp <;> rfl)
      simp only [Act.put, List.setIfInBounds_toArray, List.set_cons_zero, List.set_cons_succ]
      apply dag_val Ext.refl rfl (by intro W hW H; have k0 := hW.cell hck; go_simp <;> rfl)
      simp only [Act.put, List.setIfInBounds_toArray, List.set_cons_zero, List.set_cons_succ]
      refine' dag_calls (fun v W => ∃ u cu, v = stv (.slice u S'.bits.length cu) S'.each S'.n ∧ BV W (.slice u S'.bits.length cu) S'.bits) (fun v W W' hx ⟨u, cu, e, hb⟩ => ⟨u, cu, e, hb.ext hx⟩) rfl (by intro W; go_simp <;> rfl) (fun W hW H => (A1 _ W (bs.ext hW)).mono (by rintro e w' ⟨u, cu, rfl, hb, hx9⟩; exact ⟨_, rfl, ⟨u, cu, rfl, hb⟩, hx9⟩)) (fun r => _)
      rotate_left
      simp only [Act.put, List.setIfInBounds_toArray, List.set_cons_zero, List.set_cons_succ]
      refine dag_end fun W hW H => ?_
      obtain ⟨u, cu, e8, hbu⟩ : ∃ u cu, r = stv (.slice u S'.bits.length cu) S'.each S'.n ∧ BV W (.slice u S'.bits.length cu) S'.bits := H 5
      subst e8
      clear H m0 m1 m2
      have osW := os.ext hW
      obtain ⟨⟨g0, k0, g1, k1, g2, k2⟩, os2⟩ := osW.stored3 (.slice u S'.bits.length cu) (.int .i64 S'.each) (.int .i64 S'.n)
      have hi7' : In (set3 W w1.heap.size (.slice u S'.bits.length cu) (.int .i64 S'.each) (.int .i64 S'.n)) w1.heap.size S' := In.laid osW (slice_nb _ _ _) S' hbu
      have hi9' : In (set3 W w1.heap.size (.slice u S'.bits.length cu) (.int .i64 S'.each) (.int .i64 S'.n)) (w1.heap.size + 1) O := (hi9.ext hW).far3 osW (slice_nb _ _ _) (by omega) _ _ _
      have hxW : Ext w (set3 W w1.heap.size (.slice u S'.bits.length cu) (.int .i64 S'.each) (.int .i64 S'.n)) := (hx.trans hW).set3 hsw.out _ _ _
      obtain ⟨n0, n1, n2⟩ := os2.cells3
      have hb7 : BV (set3 W w1.heap.size (.slice u S'.bits.length cu) (.int .i64 S'.each) (.int .i64 S'.n)) (.slice u S'.bits.length cu) S'.bits := hbu.beside3 osW (slice_nb _ _ _) _ _ _
      by_cases hev : j % 2 = 0
      case neg =>
        have he2 : ((j : Int) % 2 == 0) = false := by rw [beq_eq_false_iff_ne]; omega
        have HO3 := HO2.out hev
        clear hev
        go_wp2_with (go_at_call 23; refine (F1 _ _ hb7).mono ?_; rintro e w5 ⟨rfl, hx5⟩
                     have n2' := hx5.cell n2)
        go_roundg (K.length - (j + 1))
        case measure => omega
        case rel => exact ⟨j + 1, by go_num, hlt, rfl, by rw [← HSn.out], by rw [HSn.out]; exact hi7'.ext hx5, by rw [HOn.out, ← HO3]; exact hi9'.ext hx5, HK2, hxW.trans hx5⟩
      have he2 : ((j : Int) % 2 == 0) = true := by rw [beq_iff_eq]; omega
      have HO3 := HO.out hev
      rw [HO3] at A2
      clear hev
      obtain ⟨pO, cO, oO, bO⟩ := hi9'.ex
      go_wp2_with (go_at_call 23; refine (F1 _ _ hb7).mono ?_; rintro e w5 ⟨rfl, hx5⟩
                   have n2' := hx5.cell n2
                   obtain ⟨m0, m1, m2⟩ := (oO.ext hx5).cells3
                   have bO5 := bO.ext hx5
                   have hck5 := hx5.cell (hxW.cell hck0))
      apply wp_region_dag_tail 6 (X := Ext) (by kernel_rfl) (by kernel_rfl) (by kernel_rfl) (by decide) (fun _ _ _ => Ext.trans) (Ext.drew1 _)
      simp only [List.take_succ_cons, List.take_zero, List.drop_succ_cons, List.drop_zero]
      apply dag_val Ext.refl rfl (by intro W hW H; have k0 := hW.cell m0; have k1 := hW.cell m1; have k2 := hW.cell m2; go_simp <;> rfl)
      simp only [Act.put, List.setIfInBounds_toArray, List.set_cons_zero, List.set_cons_succ]
      apply dag_val Ext.refl rfl (by intro W hW H; go_simp <;> rfl)
      simp only [Act.put, List.setIfInBounds_toArray, List.set_cons_zero, List.set_cons_succ]
      apply dag_val Ext.refl rfl (by intro W hW H; go_simp <;> rfl)
      simp only [Act.put, List.setIfInBounds_toArray, List.set_cons_zero, List.set_cons_succ]
      apply dag_val Ext.refl rfl (by intro W hW H; go_simp <;> rfl)
      simp only [Act.put, List.setIfInBounds_toArray, List.set_cons_zero, List.set_cons_succ]
      apply dag_val Ext.refl rfl (by intro W hW H; have k0 := hW.cell hck5; go_simp <;> rfl)
      simp only [Act.put, List.setIfInBounds_toArray, List.set_cons_zero, List.set_cons_succ]
      refine' dag_calls (fun v W => ∃ u cu, v = stv (.slice u O'.bits.length cu) O'.each O'.n ∧ BV W (.slice u O'.bits.length cu) O'.bits) (fun v W W' hx ⟨u, cu, e, hb⟩ => ⟨u, cu, e, hb.ext hx⟩) rfl (by intro W; go_simp <;> rfl) (fun W hW H => (A2 _ W (bO5.ext hW)).mono (by rintro e w' ⟨u, cu, rfl, hb, hx9⟩; exact ⟨_, rfl, ⟨u, cu, rfl, hb⟩, hx9⟩)) (fun r => _)
      rotate_left
      simp only [Act.put, List.setIfInBounds_toArray, List.set_cons_zero, List.set_cons_succ]
      refine dag_end fun W6 hW6 H => ?_
      obtain ⟨u6, cu6, e8, hbu6⟩ : ∃ u cu, r = stv (.slice u O'.bits.length cu) O'.each O'.n ∧ BV W6 (.slice u O'.bits.length cu) O'.bits := H 5
      subst e8
      clear H m0 m1 m2
      have ooW := (oO.ext hx5).ext hW6
      obtain ⟨⟨g0', k0', g1', k1', g2', k2'⟩, oo2⟩ := ooW.stored3 (.slice u6 O'.bits.length cu6) (.int .i64 O'.each) (.int .i64 O'.n)
      have hi9'' : In (set3 W6 (w1.heap.size + 1) (.slice u6 O'.bits.length cu6) (.int .i64 O'.each) (.int .i64 O'.n)) (w1.heap.size + 1) O' := In.laid ooW (slice_nb _ _ _) O' hbu6
      have hi7'' : In (set3 W6 (w1.heap.size + 1) (.slice u6 O'.bits.length cu6) (.int .i64 O'.each) (.int .i64 O'.n)) w1.heap.size S' := ((hi7'.ext hx5).ext hW6).far3 ooW (slice_nb _ _ _) (by omega) _ _ _
      have hxW6 : Ext w (set3 W6 (w1.heap.size + 1) (.slice u6 O'.bits.length cu6) (.int .i64 O'.each) (.int .i64 O'.n)) := ((hxW.trans hx5).trans hW6).set3 (Nat.le_succ_of_le hsw.out) _ _ _
      go_wp2_with fail
      go_roundg (K.length - (j + 1))
      case measure => omega
      case rel => exact ⟨j + 1, by go_num, hlt, rfl, by rw [← HSn.out], by rw [HSn.out]; exact hi7'', by rw [HOn.out]; exact hi9'', HK2, hxW6⟩
    case neg =>
      obtain rfl : j = K.length := by omega
      obtain ⟨hj1, hj2⟩ := keep_end s0 K HG.out K.length
      have hs2 := fun t ht => sB_has s0 K HG.out (i := K.length) (j := t) ht
      have ho2 := fun t ht he => oB_has s0 K HG.out (i := K.length) (j := t) ht he
      obtain ⟨f1, f2, f3, f4, _⟩ := sB_facts s0 K HG.out K.length
      obtain ⟨o1, o2, o3, o4, _⟩ := oB_facts s0 K HG.out K.length
      have fl : (sB s0 K K.length).bits.length ≤ 5000 := by rw [f2, HLR.out]; exact Nat.le_trans hM2 (by decide)
      have ol : (oB s0 K K.length).bits.length ≤ 5000 := by rw [o2, HLR.out]; exact Nat.le_trans hM2 (by decide)
      have J1 := fun v1 v2 W h1 h2 => join_any v1 (oB s0 K K.length).bits (oB s0 K K.length).each (oB s0 K K.length).n v2 (sB s0 K K.length).bits (sB s0 K K.length).each (sB s0 K K.length).n W h1 h2 (Nat.le_trans ol (by decide)) (Nat.le_trans fl (by decide))
      have hj1' : joinS ⟨(oB s0 K K.length).bits, (oB s0 K K.length).each, (oB s0 K K.length).n⟩ ⟨(sB s0 K K.length).bits, (sB s0 K K.length).each, (sB s0 K K.length).n⟩ = _ := hj1
      rw [hj1'] at J1
      clear f1 f2 f3 f4 o1 o2 o3 o4 hj1 hj1' ol
      generalize hJ : (⟨(sB s0 K K.length).bits, (oB s0 K K.length).each, min ((oB s0 K K.length).n + (sB s0 K K.length).n) 1099511627776⟩ : SetB) = Jn at *
      have hJb : Jn.bits = (sB s0 K K.length).bits := by rw [← hJ]
      clear hJ
      simp only at J1
      generalize sB s0 K K.length = S at *
      generalize oB s0 K K.length = O at *
      have hF : fullL Jn.bits = fullL S.bits := by rw [hJb]
      have F1 : ∀ v W, BV W v Jn.bits → Calls Try.prog 23 #[stv v Jn.each Jn.n] W fun e w' => e = .returned (.int .i64 (fullL S.bits : Nat)) ∧ Ext W w' := fun v W h => by
        rw [← hF]
        exact fullS_any v Jn W h (by rw [hJb]; exact fl)
      clear hF
      have HJB := Lib.hid hJb
      clear hJb fl
      obtain ⟨ps, cs, os, bs⟩ := hi7.ex
      obtain ⟨pO, cO, oO, bO⟩ := hi9.ex
      obtain ⟨m0, m1, m2⟩ := os.cells3
      obtain ⟨n0, n1, n2⟩ := oO.cells3
      have hz1 : ((fullL S.bits : Nat) : Int) = ((fullL S.bits : Nat) : Int) := rfl
      have hz : (((fullL S.bits : Nat) : Int) != ((fullL S.bits : Nat) : Int)) = false := by rw [bne_eq_false_iff_eq]
      clear hz1
      go_wp2_with (first
        | (go_at_call 21; refine (J1 _ _ _ bO bs).mono ?_; rintro e w5 ⟨v5, rfl, hb5, hx5⟩
           obtain ⟨p5, c5, e5⟩ := hb5.slice
           subst e5
           have hx5a := hx5.trans (Ext.alloc w5 (.cells #[.slice p5 Jn.bits.length c5, .int .i64 Jn.each, .int .i64 Jn.n] 27))
           have bj := hb5.ext (Ext.alloc w5 (.cells #[.slice p5 Jn.bits.length c5, .int .i64 Jn.each, .int .i64 Jn.n] 27))
           have oj := boxS_at w5 (.slice p5 Jn.bits.length c5) Jn.each Jn.n)
        | (go_at_call 23; refine (F1 _ _ bj).mono ?_; rintro e w6 ⟨rfl, hx6⟩))
      have hi7a := ((⟨ps, cs, os, bs⟩ : In _ w1.heap.size S).ext hx5a).ext hx6
      have hi9a := ((⟨pO, cO, oO, bO⟩ : In _ (w1.heap.size + 1) O).ext hx5a).ext hx6
      have hija := (⟨p5, c5, oj, bj⟩ : In _ w5.heap.size Jn).ext hx6
      have hxz := (hx.trans hx5a).trans hx6
      clear F1 J1 os bs oO bO m0 m1 m2 n0 n1 n2 hz hb5 bj oj hi7 hi9
      go_loopg [15] (K.length) (fun k s15 wr2 => ∃ i : Nat, s15 = .int .i64 i ∧ i ≤ K.length ∧ k = K.length - i ∧ In wr2 w1.heap.size S ∧ In wr2 (w1.heap.size + 1) O ∧ In wr2 w5.heap.size Jn ∧ Ext w wr2)
      case atStart => exact ⟨0, rfl, Nat.zero_le _, rfl, hi7a, hi9a, hija, hxz⟩
      case round =>
        obtain ⟨i, rfl, hi, hk3, hq7, hq9, hqj, hxq⟩ := hrel
        by_cases hlt2 : i < K.length
        case neg =>
          obtain rfl : i = K.length := by omega
          go_wp2_with (go_at_call 9; refine (awake_any _).mono ?_; rintro e w4 ⟨rfl, hx4⟩)
          go_ret
          exact ⟨rfl, hxq.trans hx4⟩
        have hil : (i : Int) < (K.length : Int) := by omega
        obtain ⟨bk, ok, e9, hck0⟩ := str_at hk hlt2
        subst e9
        have hck := hxq.cell hck0
        have hlk := HK.out i hlt2
        have H1 := fun v W h => hasS_any v S (K.getD i []) W h (Nat.le_trans hlk (by simp [maxLen])) (hs2 i hlt2)
        have H2 := fun v W h => hasS_any v Jn (K.getD i []) W h (Nat.le_trans hlk (by simp [maxLen])) (hj2 i hlt2)
        have H3 := fun v W h he => hasS_any v O (K.getD i []) W h (Nat.le_trans hlk (by simp [maxLen])) (ho2 i hlt2 he)
        clear hs2 hj2 ho2 hlk hM hE HK hi7a hi9a hija
        generalize K.getD i [] = key at *
        obtain ⟨ps, cs, os, bs⟩ := hq7.ex
        obtain ⟨pO, cO, oO, bO⟩ := hq9.ex
        obtain ⟨pj, cj, oj, bj⟩ := hqj.ex
        obtain ⟨m0, m1, m2⟩ := os.cells3
        obtain ⟨n0, n1, n2⟩ := oO.cells3
        obtain ⟨l0, l1, l2⟩ := oj.cells3
        by_cases hev : i % 2 = 0
        case pos =>
          have he2 : ((i : Int) % 2 == 0) = true := by rw [beq_iff_eq]; omega
          have htm : (i : Int).tmod 2 = (i : Int) % 2 := Int.tmod_eq_emod_of_nonneg (by omega)
          have H4 := fun v W h => H3 v W h hev
          clear hev
          go_wp2_with fail
          apply wp_region_dag (X := Ext) (by kernel_rfl) (by kernel_rfl) (fun _ _ _ => Ext.trans) (Ext.drew1 _)
          apply dag_val Ext.refl rfl (by intro W hW H; have k0 := hW.cell m0; have k1 := hW.cell m1; have k2 := hW.cell m2; go_simp <;> rfl)
          simp only [Act.put, List.setIfInBounds_toArray, List.set_cons_zero, List.set_cons_succ]
          apply dag_val Ext.refl rfl (by intro W hW H; go_simp <;> rfl)
          simp only [Act.put, List.setIfInBounds_toArray, List.set_cons_zero, List.set_cons_succ]
          apply dag_val Ext.refl rfl (by intro W hW H; go_simp <;> rfl)
          simp only [Act.put, List.setIfInBounds_toArray, List.set_cons_zero, List.set_cons_succ]
          apply dag_val Ext.refl rfl (by intro W hW H; go_simp <;> rfl)
          simp only [Act.put, List.setIfInBounds_toArray, List.set_cons_zero, List.set_cons_succ]
          apply dag_val Ext.refl rfl (by intro W hW H; have k0 := hW.cell hck; go_simp <;> rfl)
          simp only [Act.put, List.setIfInBounds_toArray, List.set_cons_zero, List.set_cons_succ]
          refine' dag_call (c := .bool true) (f := 15) (args := #[stv (.slice ps S.bits.length cs) S.each S.n, .string ⟨key.toArray⟩]) rfl (by intro W; go_simp <;> rfl) (fun W hW H => H1 _ W (bs.ext hW)) _
          rotate_left
          simp only [Act.put, List.setIfInBounds_toArray, List.set_cons_zero, List.set_cons_succ]
          apply dag_val Ext.refl rfl (by intro W hW H; go_simp <;> rfl)
          simp only [Act.put, List.setIfInBounds_toArray, List.set_cons_zero, List.set_cons_succ]
          apply dag_val Ext.refl rfl (by intro W hW H; go_simp <;> rfl)
          simp only [Act.put, List.setIfInBounds_toArray, List.set_cons_zero, List.set_cons_succ]
          apply dag_val Ext.refl rfl (by intro W hW H; have k0 := hW.cell l0; have k1 := hW.cell l1; have k2 := hW.cell l2; go_simp <;> rfl)
          simp only [Act.put, List.setIfInBounds_toArray, List.set_cons_zero, List.set_cons_succ]
          apply dag_val Ext.refl rfl (by intro W hW H; go_simp <;> rfl)
          simp only [Act.put, List.setIfInBounds_toArray, List.set_cons_zero, List.set_cons_succ]
          apply dag_val Ext.refl rfl (by intro W hW H; go_simp <;> rfl)
          simp only [Act.put, List.setIfInBounds_toArray, List.set_cons_zero, List.set_cons_succ]
          apply dag_val Ext.refl rfl (by intro W hW H; go_simp <;> rfl)
          simp only [Act.put, List.setIfInBounds_toArray, List.set_cons_zero, List.set_cons_succ]
          apply dag_val Ext.refl rfl (by intro W hW H; have k0 := hW.cell hck; go_simp <;> rfl)
          simp only [Act.put, List.setIfInBounds_toArray, List.set_cons_zero, List.set_cons_succ]
          refine' dag_call (c := .bool true) (f := 15) (args := #[stv (.slice pj Jn.bits.length cj) Jn.each Jn.n, .string ⟨key.toArray⟩]) rfl (by intro W; go_simp <;> rfl) (fun W hW H => H2 _ W (bj.ext hW)) _
          rotate_left
          simp only [Act.put, List.setIfInBounds_toArray, List.set_cons_zero, List.set_cons_succ]
          apply dag_val Ext.refl rfl (by intro W hW H; go_simp <;> rfl)
          simp only [Act.put, List.setIfInBounds_toArray, List.set_cons_zero, List.set_cons_succ]
          apply dag_val Ext.refl rfl (by intro W hW H; go_simp <;> rfl)
          simp only [Act.put, List.setIfInBounds_toArray, List.set_cons_zero, List.set_cons_succ]
          apply dag_val Ext.refl rfl (by intro W hW H; go_simp <;> rfl)
          simp only [Act.put, List.setIfInBounds_toArray, List.set_cons_zero, List.set_cons_succ]
          apply dag_val Ext.refl rfl (by intro W hW H; go_simp <;> rfl)
          simp only [Act.put, List.setIfInBounds_toArray, List.set_cons_zero, List.set_cons_succ]
          apply dag_val Ext.refl rfl (by intro W hW H; go_simp <;> rfl)
          simp only [Act.put, List.setIfInBounds_toArray, List.set_cons_zero, List.set_cons_succ]
          apply dag_val Ext.refl rfl (by intro W hW H; go_simp <;> rfl)
          simp only [Act.put, List.setIfInBounds_toArray, List.set_cons_zero, List.set_cons_succ]
          apply dag_val Ext.refl rfl (by intro W hW H; go_simp <;> rfl)
          simp only [Act.put, List.setIfInBounds_toArray, List.set_cons_zero, List.set_cons_succ]
          apply dag_val Ext.refl rfl (by intro W hW H; have k0 := hW.cell n0; have k1 := hW.cell n1; have k2 := hW.cell n2; go_simp <;> rfl)
          simp only [Act.put, List.setIfInBounds_toArray, List.set_cons_zero, List.set_cons_succ]
          apply dag_val Ext.refl rfl (by intro W hW H; go_simp <;> rfl)
          simp only [Act.put, List.setIfInBounds_toArray, List.set_cons_zero, List.set_cons_succ]
          apply dag_val Ext.refl rfl (by intro W hW H; go_simp <;> rfl)
          simp only [Act.put, List.setIfInBounds_toArray, List.set_cons_zero, List.set_cons_succ]
          apply dag_val Ext.refl rfl (by intro W hW H; go_simp <;> rfl)
          simp only [Act.put, List.setIfInBounds_toArray, List.set_cons_zero, List.set_cons_succ]
          apply dag_val Ext.refl rfl (by intro W hW H; have k0 := hW.cell hck; go_simp <;> rfl)
          simp only [Act.put, List.setIfInBounds_toArray, List.set_cons_zero, List.set_cons_succ]
          refine' dag_call (c := .bool true) (f := 15) (args := #[stv (.slice pO O.bits.length cO) O.each O.n, .string ⟨key.toArray⟩]) rfl (by intro W; go_simp <;> rfl) (fun W hW H => H4 _ W (bO.ext hW)) _
          rotate_left
          simp only [Act.put, List.setIfInBounds_toArray, List.set_cons_zero, List.set_cons_succ]
          apply dag_val Ext.refl rfl (by intro W hW H; go_simp <;> rfl)
          simp only [Act.put, List.setIfInBounds_toArray, List.set_cons_zero, List.set_cons_succ]
          apply dag_val Ext.refl rfl (by intro W hW H; go_simp <;> rfl)
          simp only [Act.put, List.setIfInBounds_toArray, List.set_cons_zero, List.set_cons_succ]
          apply dag_val Ext.refl rfl (by intro W hW H; go_simp <;> rfl)
          simp only [Act.put, List.setIfInBounds_toArray, List.set_cons_zero, List.set_cons_succ]
          refine dag_end fun W hW H => ?_
          go_wp2_with fail
          go_roundg (K.length - (i + 1))
          case measure => omega
          case rel => exact ⟨i + 1, by go_num, hlt2, rfl, hq7.ext hW, hq9.ext hW, hqj.ext hW, hxq.trans hW⟩
        case neg =>
          have he2 : ((i : Int) % 2 == 0) = false := by rw [beq_eq_false_iff_ne]; omega
          have htm : (i : Int).tmod 2 = (i : Int) % 2 := Int.tmod_eq_emod_of_nonneg (by omega)
          clear hev
          go_wp2_with fail
          apply wp_region_dag (X := Ext) (by kernel_rfl) (by kernel_rfl) (fun _ _ _ => Ext.trans) (Ext.drew1 _)
          apply dag_val Ext.refl rfl (by intro W hW H; have k0 := hW.cell m0; have k1 := hW.cell m1; have k2 := hW.cell m2; go_simp <;> rfl)
          simp only [Act.put, List.setIfInBounds_toArray, List.set_cons_zero, List.set_cons_succ]
          apply dag_val Ext.refl rfl (by intro W hW H; go_simp <;> rfl)
          simp only [Act.put, List.setIfInBounds_toArray, List.set_cons_zero, List.set_cons_succ]
          apply dag_val Ext.refl rfl (by intro W hW H; go_simp <;> rfl)
          simp only [Act.put, List.setIfInBounds_toArray, List.set_cons_zero, List.set_cons_succ]
          apply dag_val Ext.refl rfl (by intro W hW H; go_simp <;> rfl)
          simp only [Act.put, List.setIfInBounds_toArray, List.set_cons_zero, List.set_cons_succ]
          apply dag_val Ext.refl rfl (by intro W hW H; have k0 := hW.cell hck; go_simp <;> rfl)
          simp only [Act.put, List.setIfInBounds_toArray, List.set_cons_zero, List.set_cons_succ]
          refine' dag_call (c := .bool true) (f := 15) (args := #[stv (.slice ps S.bits.length cs) S.each S.n, .string ⟨key.toArray⟩]) rfl (by intro W; go_simp <;> rfl) (fun W hW H => H1 _ W (bs.ext hW)) _
          rotate_left
          simp only [Act.put, List.setIfInBounds_toArray, List.set_cons_zero, List.set_cons_succ]
          apply dag_val Ext.refl rfl (by intro W hW H; go_simp <;> rfl)
          simp only [Act.put, List.setIfInBounds_toArray, List.set_cons_zero, List.set_cons_succ]
          apply dag_val Ext.refl rfl (by intro W hW H; go_simp <;> rfl)
          simp only [Act.put, List.setIfInBounds_toArray, List.set_cons_zero, List.set_cons_succ]
          apply dag_val Ext.refl rfl (by intro W hW H; have k0 := hW.cell l0; have k1 := hW.cell l1; have k2 := hW.cell l2; go_simp <;> rfl)
          simp only [Act.put, List.setIfInBounds_toArray, List.set_cons_zero, List.set_cons_succ]
          apply dag_val Ext.refl rfl (by intro W hW H; go_simp <;> rfl)
          simp only [Act.put, List.setIfInBounds_toArray, List.set_cons_zero, List.set_cons_succ]
          apply dag_val Ext.refl rfl (by intro W hW H; go_simp <;> rfl)
          simp only [Act.put, List.setIfInBounds_toArray, List.set_cons_zero, List.set_cons_succ]
          apply dag_val Ext.refl rfl (by intro W hW H; go_simp <;> rfl)
          simp only [Act.put, List.setIfInBounds_toArray, List.set_cons_zero, List.set_cons_succ]
          apply dag_val Ext.refl rfl (by intro W hW H; have k0 := hW.cell hck; go_simp <;> rfl)
          simp only [Act.put, List.setIfInBounds_toArray, List.set_cons_zero, List.set_cons_succ]
          refine' dag_call (c := .bool true) (f := 15) (args := #[stv (.slice pj Jn.bits.length cj) Jn.each Jn.n, .string ⟨key.toArray⟩]) rfl (by intro W; go_simp <;> rfl) (fun W hW H => H2 _ W (bj.ext hW)) _
          rotate_left
          simp only [Act.put, List.setIfInBounds_toArray, List.set_cons_zero, List.set_cons_succ]
          apply dag_val Ext.refl rfl (by intro W hW H; go_simp <;> rfl)
          simp only [Act.put, List.setIfInBounds_toArray, List.set_cons_zero, List.set_cons_succ]
          apply dag_val Ext.refl rfl (by intro W hW H; go_simp <;> rfl)
          simp only [Act.put, List.setIfInBounds_toArray, List.set_cons_zero, List.set_cons_succ]
          apply dag_val Ext.refl rfl (by intro W hW H; go_simp <;> rfl)
          simp only [Act.put, List.setIfInBounds_toArray, List.set_cons_zero, List.set_cons_succ]
          apply dag_val Ext.refl rfl (by intro W hW H; go_simp <;> rfl)
          simp only [Act.put, List.setIfInBounds_toArray, List.set_cons_zero, List.set_cons_succ]
          apply dag_val Ext.refl rfl (by intro W hW H; go_simp <;> rfl)
          simp only [Act.put, List.setIfInBounds_toArray, List.set_cons_zero, List.set_cons_succ]
          apply dag_val Ext.refl rfl (by intro W hW H; go_simp <;> rfl)
          simp only [Act.put, List.setIfInBounds_toArray, List.set_cons_zero, List.set_cons_succ]
          apply dag_val Ext.refl rfl (by intro W hW H; go_simp <;> rfl)
          simp only [Act.put, List.setIfInBounds_toArray, List.set_cons_zero, List.set_cons_succ]
          apply dag_not Ext.refl rfl
          simp only [Act.put, List.setIfInBounds_toArray, List.set_cons_zero, List.set_cons_succ]
          apply dag_not Ext.refl rfl
          simp only [Act.put, List.setIfInBounds_toArray, List.set_cons_zero, List.set_cons_succ]
          apply dag_not Ext.refl rfl
          simp only [Act.put, List.setIfInBounds_toArray, List.set_cons_zero, List.set_cons_succ]
          apply dag_not Ext.refl rfl
          simp only [Act.put, List.setIfInBounds_toArray, List.set_cons_zero, List.set_cons_succ]
          apply dag_not Ext.refl rfl
          simp only [Act.put, List.setIfInBounds_toArray, List.set_cons_zero, List.set_cons_succ]
          apply dag_not Ext.refl rfl
          simp only [Act.put, List.setIfInBounds_toArray, List.set_cons_zero, List.set_cons_succ]
          apply dag_not Ext.refl rfl
          simp only [Act.put, List.setIfInBounds_toArray, List.set_cons_zero, List.set_cons_succ]
          apply dag_val Ext.refl rfl (by intro W hW H; go_simp <;> rfl)
          simp only [Act.put, List.setIfInBounds_toArray, List.set_cons_zero, List.set_cons_succ]
          apply dag_val Ext.refl rfl (by intro W hW H; go_simp <;> rfl)
          simp only [Act.put, List.setIfInBounds_toArray, List.set_cons_zero, List.set_cons_succ]
          refine dag_end fun W hW H => ?_
          go_wp2_with fail
          go_roundg (K.length - (i + 1))
          case measure => omega
          case rel => exact ⟨i + 1, by go_num, hlt2, rfl, hq7.ext hW, hq9.ext hW, hqj.ext hW, hxq.trans hW⟩
end Go.Proofs.Ythlhhnkalknidaa
