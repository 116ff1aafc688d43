/- What the program's functions of layer 33 compute: Get. -/
import Derived.Test.YthlhhnkalknidaaBmG
namespace Go.Proofs.Ythlhhnkalknidaa
open Go.RowKit

theorem run_string_bytes2 {P : Program} {t e : TypeId} {z : Value} {sz bytes : Nat} (hT : RowT P t e z sz bytes) (he : P.underlying e = some (.int .u8)) {src : TypeId} (hd : P.underlying src = some .string) (s : ByteArray) (hs : s.size ≤ maxLen) (w : World) :
    ∃ c w', (convert src t (.string s)).run P w = .ok (.slice (some ⟨w.heap.size, 0, none⟩) s.size c) w' ∧ BV w' (.slice (some ⟨w.heap.size, 0, none⟩) s.size c) s.data.toList ∧ Ext w w' := by
  refine ⟨_, _, run_bytes_of_string w src t e s hd hT.und he, ⟨_, _, rfl, ?_, ?_, fun _ => ⟨_, _, rfl, fun j u hu => ?_⟩⟩, (Ext.drewN w 1).trans (Ext.alloc _ _)⟩
  · exact grownCap_ge w s.size 0 e
  · exact grownCap_le_maxLen w s.size 0 e hs
  · rw [Nat.zero_add]
    exact (World.cell?_alloc_mark w.drew _ _ _ j).trans (bytesRow_take s _ j u hu)
theorem st_bytes2 {P : Program} {t e : TypeId} {z : Value} {sz bytes : Nat} (hT : RowT P t e z sz bytes) (he : P.underlying e = some (.int .u8)) {src : TypeId} (hd : P.underlying src = some .string) {ops : Array Oper} {Q : Exit → Act → World → Prop} {rest : List Oper} {a : Act} {w : World} {dst : Option Tmp} {ty : TypeId} {pos : String} {after : Array Edge} {guard : Option (Nat × Bool)}
    {x : Operand} (l : List UInt8) (hl : l.length ≤ 100000000) (h : ∀ c w', BV w' (.slice (some ⟨w.heap.size, 0, none⟩) l.length c) l → Ext w w' → wpList P ops Q rest (a.put dst (.slice (some ⟨w.heap.size, 0, none⟩) l.length c)) w')
    (hg : Region.wanted ⟨dst, .convert src t x, ty, pos, after, guard⟩ (yielded ops a.tmps) = true := by exact rfl) (ex : a.eval x = .string ⟨l.toArray⟩ := by exact rfl) :
    wpList P ops Q (⟨dst, .convert src t x, ty, pos, after, guard⟩ :: rest) a w := by
  have e2 : (ByteArray.mk l.toArray).size = l.length := by show l.toArray.size = _; simp
  obtain ⟨c, w', hr, hb, hx⟩ := run_string_bytes2 hT he hd ⟨l.toArray⟩ (by rw [e2]; simp only [maxLen]; omega) w
  rw [e2] at hr hb
  refine wpList_run (v := .slice (some ⟨w.heap.size, 0, none⟩) l.length c) (w' := w') hg ?_ (h c w' (by simpa using hb) hx)
  simp [execOp, ex, hr, Result.andThen]
theorem BV.farB {w : World} {v : Value} {l : List UInt8} (h : BV w v l) {p : Addr} (hp : v.ownBlock ≠ some p.block) (hv : ∀ a n c, v = .slice (some a) n c → v.ownBlock = some a.block) (u : Value) : BV (w.setCell p u) v l := by
  obtain ⟨q, c, e, h1, h2, h3⟩ := h
  refine ⟨q, c, e, h1, h2, h3.keeps (S := fun k => k ≠ p.block) (fun a ha hh => hp ?_) (grown_keeps (grown_set w p u))⟩
  rw [hv a l.length c (by rw [e, ha]), hh]

theorem BV.farB3 {w : World} {v : Value} {l : List UInt8} (h : BV w v l) {g : Nat} (hp : v.ownBlock ≠ some g) (hv : ∀ a n c, v = .slice (some a) n c → v.ownBlock = some a.block) (x y z : Value) : BV (set3 w g x y z) v l :=
  ((h.farB (p := ⟨g, 0, none⟩) hp hv x).farB (p := ⟨g, 1, none⟩) hp hv y).farB (p := ⟨g, 2, none⟩) hp hv z
set_option maxHeartbeats 4000000 in
theorem getset_any (v : Value) (b : List UInt8) (w : World) (h : BV w v b) (hb : b.length ≤ 100000) :
    Calls Try.prog 28 #[v] w fun e w' => ∃ v', e = .returned (.tuple #[stv v' (getS b).1.each (getS b).1.n, .int .i64 (getS b).2]) ∧ BV w' v' (getS b).1.bits ∧ Ext w w' := by
  obtain ⟨p, c, rfl, hn, hc, hs⟩ := id h
  have hx0 := Ext.alloc w (.cells #[.slice none 0 0, .int .i64 0, .int .i64 0] 27)
  have ho0 : ObjAt (w.alloc (.cells #[.slice none 0 0, .int .i64 0, .int .i64 0] 27)) w.heap.size 27 nilS := heap_alloc_new w _
  have hsz : (w.alloc (.cells #[.slice none 0 0, .int .i64 0, .int .i64 0] 27)).heap.size = w.heap.size + 1 := by simp
  have N0 := new_any _ b _ (h.ext hx0) (by omega)
  rw [hsz] at N0
  obtain ⟨J, hJ⟩ : ∃ J, getS b = J := ⟨_, rfl⟩
  rw [hJ]
  unfold getS getRaw at hJ
  have N1 := fun g w h => num_any g ⟨b, 0⟩ w h
  have N2 := fun g w h => num_any g (numR ⟨b, 0⟩) w h
  have N3 := fun g w h => rtext_any g (numR (numR ⟨b, 0⟩)) 4096 w h
  have b1 := numN_bounds ⟨b, 0⟩
  have b2 := numN_bounds (numR ⟨b, 0⟩)
  have b3 := textL_length 4096 (numR (numR ⟨b, 0⟩))
  generalize numN ⟨b, 0⟩ = x at *
  generalize numN (numR ⟨b, 0⟩) = n at *
  generalize textL 4096 (numR (numR ⟨b, 0⟩)) = t at *
  have b4 : t.length ≤ 4096 := by have : max (0 : Int) 4096 = 4096 := rfl; omega
  have P1 := fun v w h => putset_any v t x n w h (by omega) b1.1 b1.2 b2.1 b2.2
  have HB1 := Lib.hid b1
  have HB2 := Lib.hid b2
  have HSZ := Lib.hid hsz
  clear b1 b2 b3 hsz
  generalize putS ⟨t, x, n⟩ = PS at *
  obtain ⟨pl, pe⟩ := PS
  simp only at *
  by_cases he : pe = 0
  case neg =>
    have hz : (pe != 0) = true := by rw [bne_iff_ne]; exact he
    rw [if_neg (fun h => he h.1)] at hJ
    subst hJ
    clear he
    go_enter Try.func28, Try.ntmps28
    go_wp2_with (first
      | (go_at_call 43; have hq := hg2; refine (N2 _ _ hr2).mono ?_; rintro e w3 ⟨rfl, hr3, hg3⟩
         have hlt3 : g < w3.heap.size := by obtain ⟨_, ho, _⟩ := hr3; exact ho.lt
         have hxa := ((hx0.trans hx1).grown hg2 hgb).grown hg3 hgb
         have hxb := hxa.trans (Ext.alloc w3 (.cells #[.slice none 0 0, .int .i64 x, .int .i64 n] 27))
         have hr3a := hr3.ext (Ext.alloc w3 (.cells #[.slice none 0 0, .int .i64 x, .int .i64 n] 27))
         have oB3 : ObjAt (w3.alloc (.cells #[.slice none 0 0, .int .i64 x, .int .i64 n] 27)) w3.heap.size 27 [.slice none 0 0, .int .i64 x, .int .i64 n] := heap_alloc_new w3 _
         have oA3 := (((ho0.ext hx1).kept hg2 hga).kept hg3 hga).ext (Ext.alloc w3 (.cells #[.slice none 0 0, .int .i64 x, .int .i64 n] 27)))
      | (go_at_call 43; refine (N1 _ _ hr1).mono ?_; rintro e w2 ⟨rfl, hr2, hg2⟩)
      | (go_at_call 42; refine N0.mono ?_; rintro e w1 ⟨g, rfl, hg, hr1, hx1⟩
         have hgb : w.heap.size ≤ g := by omega
         have hga : some w.heap.size ≠ some g := fun e => by have := Option.some.inj e; omega)
      | (go_at_call 44; refine (N3 _ _ hr3a).mono ?_; rintro e w5 ⟨rfl, hr5, hg5⟩
         have hs5 := hg5.size
         have hxc := hxb.grown hg5 hgb
         have oB5 := oB3.kept hg5 (fun e => by have := Option.some.inj e; omega)
         have oA5 := oA3.kept hg5 hga)
      | ((with_reducible show wpList _ _ _ (Oper.mk _ (Op.convert _ _ _) _ _ _ _ :: _) _ _); go_loud (refine st_bytes2 T.bytes T.u8 T.str t (by omega) ?_); intro c6 w6 hb6 hx6
         have hxd := hxc.trans hx6
         have oB6 := oB5.ext hx6
         have hc6 := oB6.cell (j := 0) (u := .slice none 0 0) rfl
         have hf6 := oB6.free 0
         have oB7 := oB6.store 0 (.slice (some ⟨w5.heap.size, 0, none⟩) t.length c6)
         have oA7 := (oA5.ext hx6).far (p := ⟨w3.heap.size, 0, none⟩) (by show w.heap.size ≠ w3.heap.size; omega) (.slice (some ⟨w5.heap.size, 0, none⟩) t.length c6)
         obtain ⟨hd0, hd1, hd2⟩ := oB7.cells3
         have hw3 : (w3.alloc (.cells #[.slice none 0 0, .int .i64 x, .int .i64 n] 27)).heap.size = w3.heap.size + 1 := by simp
         have hb7 := hb6.farB (p := ⟨w3.heap.size, 0, none⟩) (fun e => by have e' : w5.heap.size = w3.heap.size := Option.some.inj e; omega) (fun a n c e => by cases e; rfl) (.slice (some ⟨w5.heap.size, 0, none⟩) t.length c6)
         have hxe := hxd.store (p := ⟨w3.heap.size, 0, none⟩) hxa.size (.slice (some ⟨w5.heap.size, 0, none⟩) t.length c6))
      | (go_at_call 26; refine (P1 _ _ hb7).mono ?_; rintro e w8 ⟨v8, rfl, hf8, hx8⟩
         obtain ⟨⟨hm0, hk0, hm1, hk1, hm2, hk2⟩, ho6⟩ := (oA7.ext hx8).stored3 (.slice none 0 0) (.int .i64 0) (.int .i64 0)))
    refine bodyPost_ret (st_results2 rfl _ _ (w.heap.size) _ _ _ rfl ho6) rfl ?_
    exact ⟨_, rfl, BV.nil _, (hxe.trans hx8).set3 (Nat.le_refl _) _ _ _⟩
  subst he
  by_cases heq : pl = b
  · rw [if_pos ⟨rfl, heq⟩] at hJ
    subst hJ
    have hz : (b == pl) = true := by simp [heq]
    clear heq
    go_enter Try.func28, Try.ntmps28
    go_wp2_with (first
      | (go_at_call 43; have hq := hg2; refine (N2 _ _ hr2).mono ?_; rintro e w3 ⟨rfl, hr3, hg3⟩
         have hlt3 : g < w3.heap.size := by obtain ⟨_, ho, _⟩ := hr3; exact ho.lt
         have hxa := ((hx0.trans hx1).grown hg2 hgb).grown hg3 hgb
         have hxb := hxa.trans (Ext.alloc w3 (.cells #[.slice none 0 0, .int .i64 x, .int .i64 n] 27))
         have hr3a := hr3.ext (Ext.alloc w3 (.cells #[.slice none 0 0, .int .i64 x, .int .i64 n] 27))
         have oB3 : ObjAt (w3.alloc (.cells #[.slice none 0 0, .int .i64 x, .int .i64 n] 27)) w3.heap.size 27 [.slice none 0 0, .int .i64 x, .int .i64 n] := heap_alloc_new w3 _
         have oA3 := (((ho0.ext hx1).kept hg2 hga).kept hg3 hga).ext (Ext.alloc w3 (.cells #[.slice none 0 0, .int .i64 x, .int .i64 n] 27)))
      | (go_at_call 43; refine (N1 _ _ hr1).mono ?_; rintro e w2 ⟨rfl, hr2, hg2⟩)
      | (go_at_call 42; refine N0.mono ?_; rintro e w1 ⟨g, rfl, hg, hr1, hx1⟩
         have hgb : w.heap.size ≤ g := by omega
         have hga : some w.heap.size ≠ some g := fun e => by have := Option.some.inj e; omega)
      | (go_at_call 44; refine (N3 _ _ hr3a).mono ?_; rintro e w5 ⟨rfl, hr5, hg5⟩
         have hs5 := hg5.size
         have hxc := hxb.grown hg5 hgb
         have oB5 := oB3.kept hg5 (fun e => by have := Option.some.inj e; omega)
         have oA5 := oA3.kept hg5 hga)
      | ((with_reducible show wpList _ _ _ (Oper.mk _ (Op.convert _ _ _) _ _ _ _ :: _) _ _); go_loud (refine st_bytes2 T.bytes T.u8 T.str t (by omega) ?_); intro c6 w6 hb6 hx6
         have hxd := hxc.trans hx6
         have oB6 := oB5.ext hx6
         have hc6 := oB6.cell (j := 0) (u := .slice none 0 0) rfl
         have hf6 := oB6.free 0
         have oB7 := oB6.store 0 (.slice (some ⟨w5.heap.size, 0, none⟩) t.length c6)
         have oA7 := (oA5.ext hx6).far (p := ⟨w3.heap.size, 0, none⟩) (by show w.heap.size ≠ w3.heap.size; omega) (.slice (some ⟨w5.heap.size, 0, none⟩) t.length c6)
         obtain ⟨hd0, hd1, hd2⟩ := oB7.cells3
         have hw3 : (w3.alloc (.cells #[.slice none 0 0, .int .i64 x, .int .i64 n] 27)).heap.size = w3.heap.size + 1 := by simp
         have hb7 := hb6.farB (p := ⟨w3.heap.size, 0, none⟩) (fun e => by have e' : w5.heap.size = w3.heap.size := Option.some.inj e; omega) (fun a n c e => by cases e; rfl) (.slice (some ⟨w5.heap.size, 0, none⟩) t.length c6)
         have hxe := hxd.store (p := ⟨w3.heap.size, 0, none⟩) hxa.size (.slice (some ⟨w5.heap.size, 0, none⟩) t.length c6))
      | (go_at_call 26; refine (P1 _ _ hb7).mono ?_; rintro e w8 ⟨v8, rfl, hf8, hx8⟩
         obtain ⟨hh0, hh1, hh2⟩ := (oB7.ext hx8).cells3
         have hxf := hxe.trans hx8
         obtain ⟨⟨hm0, hk0, hm1, hk1, hm2, hk2⟩, ho6⟩ := (oA7.ext hx8).stored3 (.slice (some ⟨w5.heap.size, 0, none⟩) t.length c6) (.int .i64 x) (.int .i64 n))
      | (go_at_call 37; refine (bequal_any _ b _ pl _ (h.ext hxf) hf8.view).mono ?_; rintro e w' ⟨rfl, rfl⟩))
    refine bodyPost_ret (st_results2 rfl _ _ (w.heap.size) _ _ _ rfl ho6) rfl ?_
    have hne : (Value.slice (some ⟨w5.heap.size, 0, none⟩) t.length c6).ownBlock ≠ some w.heap.size := fun e => by have e' : w5.heap.size = w.heap.size := Option.some.inj e; omega
    exact ⟨_, rfl, (hb7.ext hx8).farB3 hne (fun a n c e => by cases e; rfl) _ _ _, hxf.set3 (Nat.le_refl _) _ _ _⟩
  · rw [if_neg (fun h => heq h.2)] at hJ
    subst hJ
    have hz : (b == pl) = false := by rw [beq_eq_false_iff_ne]; exact fun e => heq e.symm
    clear heq
    go_enter Try.func28, Try.ntmps28
    go_wp2_with (first
      | (go_at_call 43; have hq := hg2; refine (N2 _ _ hr2).mono ?_; rintro e w3 ⟨rfl, hr3, hg3⟩
         have hlt3 : g < w3.heap.size := by obtain ⟨_, ho, _⟩ := hr3; exact ho.lt
         have hxa := ((hx0.trans hx1).grown hg2 hgb).grown hg3 hgb
         have hxb := hxa.trans (Ext.alloc w3 (.cells #[.slice none 0 0, .int .i64 x, .int .i64 n] 27))
         have hr3a := hr3.ext (Ext.alloc w3 (.cells #[.slice none 0 0, .int .i64 x, .int .i64 n] 27))
         have oB3 : ObjAt (w3.alloc (.cells #[.slice none 0 0, .int .i64 x, .int .i64 n] 27)) w3.heap.size 27 [.slice none 0 0, .int .i64 x, .int .i64 n] := heap_alloc_new w3 _
         have oA3 := (((ho0.ext hx1).kept hg2 hga).kept hg3 hga).ext (Ext.alloc w3 (.cells #[.slice none 0 0, .int .i64 x, .int .i64 n] 27)))
      | (go_at_call 43; refine (N1 _ _ hr1).mono ?_; rintro e w2 ⟨rfl, hr2, hg2⟩)
      | (go_at_call 42; refine N0.mono ?_; rintro e w1 ⟨g, rfl, hg, hr1, hx1⟩
         have hgb : w.heap.size ≤ g := by omega
         have hga : some w.heap.size ≠ some g := fun e => by have := Option.some.inj e; omega)
      | (go_at_call 44; refine (N3 _ _ hr3a).mono ?_; rintro e w5 ⟨rfl, hr5, hg5⟩
         have hs5 := hg5.size
         have hxc := hxb.grown hg5 hgb
         have oB5 := oB3.kept hg5 (fun e => by have := Option.some.inj e; omega)
         have oA5 := oA3.kept hg5 hga)
      | ((with_reducible show wpList _ _ _ (Oper.mk _ (Op.convert _ _ _) _ _ _ _ :: _) _ _); go_loud (refine st_bytes2 T.bytes T.u8 T.str t (by omega) ?_); intro c6 w6 hb6 hx6
         have hxd := hxc.trans hx6
         have oB6 := oB5.ext hx6
         have hc6 := oB6.cell (j := 0) (u := .slice none 0 0) rfl
         have hf6 := oB6.free 0
         have oB7 := oB6.store 0 (.slice (some ⟨w5.heap.size, 0, none⟩) t.length c6)
         have oA7 := (oA5.ext hx6).far (p := ⟨w3.heap.size, 0, none⟩) (by show w.heap.size ≠ w3.heap.size; omega) (.slice (some ⟨w5.heap.size, 0, none⟩) t.length c6)
         obtain ⟨hd0, hd1, hd2⟩ := oB7.cells3
         have hw3 : (w3.alloc (.cells #[.slice none 0 0, .int .i64 x, .int .i64 n] 27)).heap.size = w3.heap.size + 1 := by simp
         have hb7 := hb6.farB (p := ⟨w3.heap.size, 0, none⟩) (fun e => by have e' : w5.heap.size = w3.heap.size := Option.some.inj e; omega) (fun a n c e => by cases e; rfl) (.slice (some ⟨w5.heap.size, 0, none⟩) t.length c6)
         have hxe := hxd.store (p := ⟨w3.heap.size, 0, none⟩) hxa.size (.slice (some ⟨w5.heap.size, 0, none⟩) t.length c6))
      | (go_at_call 26; refine (P1 _ _ hb7).mono ?_; rintro e w8 ⟨v8, rfl, hf8, hx8⟩
         obtain ⟨hh0, hh1, hh2⟩ := (oB7.ext hx8).cells3
         have hxf := hxe.trans hx8
         obtain ⟨⟨hm0, hk0, hm1, hk1, hm2, hk2⟩, ho6⟩ := (oA7.ext hx8).stored3 (.slice none 0 0) (.int .i64 0) (.int .i64 0))
      | (go_at_call 37; refine (bequal_any _ b _ pl _ (h.ext hxf) hf8.view).mono ?_; rintro e w' ⟨rfl, rfl⟩))
    refine bodyPost_ret (st_results2 rfl _ _ (w.heap.size) _ _ _ rfl ho6) rfl ?_
    exact ⟨_, rfl, BV.nil _, hxf.set3 (Nat.le_refl _) _ _ _⟩
end Go.Proofs.Ythlhhnkalknidaa
