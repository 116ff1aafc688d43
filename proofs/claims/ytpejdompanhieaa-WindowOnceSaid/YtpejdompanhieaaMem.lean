/- Words for memory, and the laws of single operations on slices: what lies from an address on, byte slices, rows that a call owns, worlds that have only grown. -/
import Derived.Test.YtpejdompanhieaaDag
import Derived.Laws.OwnMore
import Derived.Laws.IdiomStrings
import Derived.Laws.CopyOwn
import Derived.Maps.AppendAt
import Derived.WalkSpells
import Derived.IntWalk
import Derived.Lib.SlBytesConst
import Derived.Laws.Bits64
import Derived.Laws.BitsLemmas
namespace Go.Proofs.Ytpejdompanhieaa
open Go.RowKit

/-! ### Worlds -/
/-- What was there is as it was. -/
def Ext (w w' : World) : Prop := Below w.heap.size w w'
theorem Ext.refl (w : World) : Ext w w := Below.refl _ _
theorem Ext.trans {a b c : World} (h : Ext a b) (k : Ext b c) : Ext a c := Below.trans h (Below.mono k h.size)
theorem Ext.drew1 (w : World) : Ext w { w with drawn := w.drawn + 1 } := ⟨rfl, rfl, rfl, Nat.le_refl _, fun _ _ => rfl⟩
theorem Ext.alloc (w : World) (o : Obj) : Ext w (w.alloc o) := (Below.refl _ _).alloc (Nat.le_refl _) o
theorem Ext.drewN (w : World) (n : Nat) : Ext w (w.drewN n) := ⟨rfl, rfl, rfl, Nat.le_refl _, fun _ _ => rfl⟩
theorem Ext.below {B : Nat} {w w' : World} (h : Ext w w') (hB : B ≤ w.heap.size) : Below B w w' := Below.mono h hB
/-- A store into a block of the call's own. -/
theorem Ext.store {w w1 : World} (h : Ext w w1) {p : Addr} (hp : w.heap.size ≤ p.block) (u : Value) : Ext w (w1.setCell p u) := Below.setCell h hp u
/-- What one row of the call's own has taken in. -/
theorem Ext.grown {w w1 w' : World} (h : Ext w w1) {g : Nat} (k : w1.grownBy w' (some g)) (hg : w.heap.size ≤ g) : Ext w w' :=
  Below.grown h k h.size fun _ e => by cases e; exact hg
theorem Ext.thenBelow {w w1 w' : World} (h : Ext w w1) (k : Below w.heap.size w1 w') : Ext w w' := Below.trans h k
theorem Ext.cell {w w' : World} (h : Ext w w') {a : Addr} {v : Value} (hc : w.cell? a = some v) : w'.cell? a = some v :=
  (Below.cell h (World.block_lt_of_cell? w a hc)).trans hc

/-! ### Cells from an address on -/
def Sees (w : World) (p : Option Addr) (cs : List Value) : Prop :=
  cs ≠ [] → ∃ b o, p = some ⟨b, o, none⟩ ∧ ∀ j u, cs[j]? = some u → w.cell? ⟨b, o + j, none⟩ = some u
theorem Sees.nil (w : World) (p : Option Addr) : Sees w p [] := fun h => absurd rfl h
theorem Sees.ext {w w' : World} {p : Option Addr} {cs : List Value} (h : Sees w p cs) (hx : Ext w w') : Sees w' p cs := fun hn => by
  obtain ⟨b, o, e, hc⟩ := h hn
  exact ⟨b, o, e, fun j u hu => hx.cell (hc j u hu)⟩
theorem Sees.below {B : Nat} {w0 w' : World} {p : Option Addr} {cs : List Value} (h : Sees w0 p cs) (hB : w0.heap.size ≤ B) (hw : Below B w0 w') : Sees w' p cs := fun hn => by
  obtain ⟨b, o, e, hc⟩ := h hn
  exact ⟨b, o, e, fun j u hu => (Below.cell hw (Nat.lt_of_lt_of_le (World.block_lt_of_cell? w0 _ (hc j u hu)) hB)).trans (hc j u hu)⟩
theorem Sees.at {w : World} {p : Option Addr} {cs : List Value} (h : Sees w p cs) {k : Nat} {u : Value} (hu : cs[k]? = some u) : ∃ b o, p = some ⟨b, o, none⟩ ∧ w.cell? ⟨b, o + k, none⟩ = some u := by
  obtain ⟨b, o, e, hc⟩ := h (by intro e; subst e; simp at hu)
  exact ⟨b, o, e, hc k u hu⟩
theorem Sees.take {w : World} {p : Option Addr} {cs : List Value} (h : Sees w p cs) (k : Nat) : Sees w p (cs.take k) := fun hn => by
  obtain ⟨b, o, e, hc⟩ := h (by intro e; subst e; simp at hn)
  refine ⟨b, o, e, fun j u hu => hc j u ?_⟩
  rw [List.getElem?_take] at hu
  split at hu
  · exact hu
  · cases hu
/-- Where a slice that is cut at k begins. -/
def cutA (sz : Nat) (p : Option Addr) (c k : Nat) : Option Addr := if c = k then p else p.map (·.add (k * sz))
theorem add_lit (b o k : Nat) : (⟨b, o, none⟩ : Addr).add k = ⟨b, o + k, none⟩ := by
  unfold Addr.add
  split
  · rename_i h; subst h; rfl
  · rfl
theorem Sees.cut {w : World} {p : Option Addr} {cs : List Value} {sz n c k : Nat} (h : Sees w p cs) (hn : cs.length = n * sz) (hk : k ≤ n) (hc : n ≤ c) : Sees w (cutA sz p c k) (cs.drop (k * sz)) := fun hne => by
  have hlt : k * sz < cs.length := by
    rcases Nat.lt_or_ge (k * sz) cs.length with h1 | h1
    · exact h1
    · exact absurd (List.drop_eq_nil_of_le h1) hne
  have hkn : k ≠ c := by
    intro e
    have : k = n := by omega
    subst this
    omega
  obtain ⟨b, o, rfl, hcell⟩ := h (by intro e; subst e; simp at hlt)
  refine ⟨b, o + k * sz, ?_, fun j u hu => ?_⟩
  · unfold cutA
    rw [if_neg (by omega)]
    simp [add_lit]
  · rw [List.getElem?_drop] at hu
    rw [Nat.add_assoc]
    exact hcell _ u hu

/-! ### Bytes -/
abbrev bv (x : UInt8) : Value := .int .u8 (x.toNat : Int)
@[go_sem] theorem byte_wrap_u64 (x : UInt8) : IntKind.u64.wrap (x.toNat : Int) = (x.toNat : Int) := by rw [IntKind.wrap_u64]; have := x.toNat_lt; omega
@[go_sem] theorem byte_wrap_u8 (x : UInt8) : IntKind.u8.wrap (x.toNat : Int) = (x.toNat : Int) := by rw [IntKind.wrap_u8]; have := x.toNat_lt; omega
@[go_sem] theorem byte_wrap_i64 (x : UInt8) : IntKind.i64.wrap (x.toNat : Int) = (x.toNat : Int) := by rw [IntKind.wrap_i64]; have := x.toNat_lt; omega
theorem byte_xor (x y : UInt8) : bits .xor .u8 (x.toNat : Int) (y.toNat : Int) = ((x ^^^ y).toNat : Int) := by
  have e : ∀ x : UInt8, BitVec.ofInt 8 (x.toNat : Int) = x.toBitVec := fun x => by
    rw [BitVec.ofInt_natCast]; apply BitVec.eq_of_toNat_eq; simp
  show IntKind.u8.wrap ((BitVec.ofInt 8 (x.toNat : Int) ^^^ BitVec.ofInt 8 (y.toNat : Int)).toNat : Int) = _
  rw [e, e]
  exact byte_wrap_u8 (x ^^^ y)
def bs (l : List UInt8) : List Value := l.map bv
theorem bs_length (l : List UInt8) : (bs l).length = l.length := by simp [bs]
theorem bs_get (l : List UInt8) {k : Nat} (hk : k < l.length) : (bs l)[k]? = some (bv l[k]) := by simp [bs, hk]
theorem bs_append (a b : List UInt8) : bs (a ++ b) = bs a ++ bs b := by simp [bs]
theorem bs_drop (l : List UInt8) (k : Nat) : bs (l.drop k) = (bs l).drop k := by simp [bs, List.map_drop]
theorem bs_take (l : List UInt8) (k : Nat) : bs (l.take k) = (bs l).take k := by simp [bs, List.map_take]
theorem bs_one (l : List UInt8) : ∀ u ∈ bs l, u.oneCell' = true := by
  intro u hu
  simp only [bs, List.mem_map] at hu
  obtain ⟨x, _, rfl⟩ := hu
  rfl

/-- The value v is a slice of the bytes l. -/
def BV (w : World) (v : Value) (l : List UInt8) : Prop := ∃ p c, v = .slice p l.length c ∧ l.length ≤ c ∧ c ≤ maxLen ∧ Sees w p (bs l)
theorem BV.ext {w w' : World} {v : Value} {l : List UInt8} (h : BV w v l) (hx : Ext w w') : BV w' v l := by
  obtain ⟨p, c, e, h1, h2, h3⟩ := h
  exact ⟨p, c, e, h1, h2, h3.ext hx⟩
theorem BV.below {B : Nat} {w0 w' : World} {v : Value} {l : List UInt8} (h : BV w0 v l) (hB : w0.heap.size ≤ B) (hw : Below B w0 w') : BV w' v l := by
  obtain ⟨p, c, e, h1, h2, h3⟩ := h
  exact ⟨p, c, e, h1, h2, Sees.below h3 hB hw⟩
theorem BV.nil (w : World) : BV w (.slice none 0 0) [] := ⟨none, 0, rfl, by simp, by simp [maxLen], Sees.nil _ _⟩
theorem BV.drop {w : World} {p : Option Addr} {n c : Nat} {l : List UInt8} (h : BV w (.slice p n c) l) {k : Nat} (hk : k ≤ l.length) : BV w (.slice (cutA 1 p c k) (n - k) (c - k)) (l.drop k) := by
  obtain ⟨p', c', e, h1, h2, h3⟩ := h
  injection e with e1 e2 e3
  subst e1; subst e2; subst e3
  refine ⟨_, _, by rw [List.length_drop], by rw [List.length_drop]; omega, by omega, ?_⟩
  have := h3.cut (sz := 1) (n := l.length) (k := k) (by rw [bs_length]; omega) hk h1
  rw [bs_drop]
  simpa using this
theorem BV.take {w : World} {p : Option Addr} {n c : Nat} {l : List UInt8} (h : BV w (.slice p n c) l) {k c' : Nat} (hk : k ≤ l.length) (hc' : k ≤ c') (hc : c' ≤ c) : BV w (.slice p k c') (l.take k) := by
  obtain ⟨p', c'', e, h1, h2, h3⟩ := h
  injection e with e1 e2 e3
  subst e1; subst e2; subst e3
  refine ⟨_, _, by rw [List.length_take, Nat.min_eq_left hk], by rw [List.length_take]; omega, by omega, ?_⟩
  rw [bs_take]
  exact h3.take k

theorem BV.mid {w : World} {p : Option Addr} {n c : Nat} {l : List UInt8} (h : BV w (.slice p n c) l) {L H : Nat} (hLH : L ≤ H) (hH : H ≤ l.length) : BV w (.slice (cutA 1 p c L) (H - L) (c - L)) ((l.drop L).take (H - L)) := by
  have hn : n = l.length := by obtain ⟨_, _, e, _⟩ := h; injection e
  have hc : l.length ≤ c := by obtain ⟨_, _, e, h1, _⟩ := h; injection e with _ _ e3; omega
  exact (h.drop (k := L) (by omega)).take (k := H - L) (c' := c - L) (by simp; omega) (by omega) (Nat.le_refl _)
theorem BV.cellsAt {w : World} {p : Option Addr} {c : Nat} {l : List UInt8} (h : BV w (.slice p l.length c) l) (h0 : 0 < l.length) : ∃ b o, p = some ⟨b, o, none⟩ ∧ ∀ j, j < l.length → w.cell? ⟨b, o + j, none⟩ = some (bv (l.getD j 0)) := by
  obtain ⟨p', c', e, _, _, hs⟩ := h
  injection e with e1 _ _
  subst e1
  obtain ⟨b, o, e, hc⟩ := hs (by intro e; have h9 := bs_length l; rw [e] at h9; simp at h9; omega)
  refine ⟨b, o, e, fun j hj => ?_⟩
  rw [hc j _ (bs_get l hj)]
  simp [List.getD_eq_getElem?_getD, hj]

/-! ### Rows of the call's own -/
/-- The value v is a slice of the bytes l, nil or at the head of a block of its own from block number B on. E: the number of uint8's type. -/
def FB (w : World) (B : Nat) (v : Value) (l : List UInt8) : Prop := w.ownsRow B 5 1 v l.length (bs l)
theorem FB.slice {w : World} {B : Nat} {v : Value} {l : List UInt8} (h : FB w B v l) : ∃ p c, v = .slice p l.length c ∧ l.length ≤ c ∧ c ≤ maxLen ∧ Sees w p (bs l) := by
  have h0 := h
  rcases h.2 with ⟨rfl, hn⟩ | ⟨g, cap, cur, rfl, hb, hg, hnc, hcm, hcs, ht⟩
  · have : l = [] := List.eq_nil_of_length_eq_zero hn
    subst this
    exact ⟨none, 0, rfl, by simp, by simp [maxLen], Sees.nil _ _⟩
  · refine ⟨_, _, rfl, hnc, hcm, fun _ => ⟨g, 0, rfl, fun j u hu => ?_⟩⟩
    have := World.ownsRow.cells h0 (g := g) rfl j u hu
    rwa [add_lit] at this
theorem FB.view {w : World} {B : Nat} {v : Value} {l : List UInt8} (h : FB w B v l) : BV w v l := h.slice
theorem FB.keep {w w' : World} {B : Nat} {v : Value} {l : List UInt8} (h : FB w B v l) (hx : Ext w w') : FB w' B v l := by
  refine ⟨h.1, ?_⟩
  rcases h.2 with hn | ⟨g, cap, cur, rfl, hb, hg, r⟩
  · exact .inl hn
  · refine .inr ⟨g, cap, cur, rfl, hb, ?_, r⟩
    rw [hx.block g (Array.getElem?_eq_some_iff.1 hg).1]
    exact hg
theorem FB.base {w : World} {B B' : Nat} {v : Value} {l : List UInt8} (h : FB w B v l) (hB : B' ≤ B) : FB w B' v l := by
  refine ⟨h.1, ?_⟩
  rcases h.2 with hn | ⟨g, cap, cur, rfl, hb, r⟩
  · exact .inl hn
  · exact .inr ⟨g, cap, cur, rfl, by omega, r⟩
theorem FB.lit1 (w : World) {B : Nat} (hB : B ≤ w.heap.size) (x : UInt8) : FB (w.alloc (.cells #[bv x] 5)) B (.slice (some ⟨w.heap.size, 0, none⟩) 1 1) [x] :=
  World.ownsRow_lit w #[bv x] 1 hB (by simp [maxLen]) rfl
theorem FB.lit2 (w : World) {B : Nat} (hB : B ≤ w.heap.size) (x y : UInt8) : FB (w.alloc (.cells #[bv x, bv y] 5)) B (.slice (some ⟨w.heap.size, 0, none⟩) 2 2) [x, y] :=
  World.ownsRow_lit w #[bv x, bv y] 2 hB (by simp [maxLen]) rfl
theorem FB.lit0 (w : World) {B : Nat} (hB : B ≤ w.heap.size) : FB (w.alloc (.cells #[] 5)) B (.slice (some ⟨w.heap.size, 0, none⟩) 0 0) [] :=
  World.ownsRow_lit w #[] 0 hB (by simp [maxLen]) rfl
theorem FB.nil (w : World) (B : Nat) : FB w B (.slice none 0 0) [] := World.ownsRow_nil _ _ _ _

theorem FB.head {w : World} {B : Nat} {v : Value} {l : List UInt8} (h : FB w B v l) (hl : l ≠ []) : ∃ g c, v = .slice (some ⟨g, 0, none⟩) l.length c ∧ l.length ≤ c ∧ c ≤ maxLen ∧ B ≤ g ∧ g < w.heap.size := by
  rcases h.2 with ⟨_, hn⟩ | ⟨g, cap, cur, rfl, hb, hg, hnc, hcm, _⟩
  · exact absurd (List.eq_nil_of_length_eq_zero hn) hl
  · exact ⟨g, cap, rfl, hnc, hcm, hb, (Array.getElem?_eq_some_iff.1 hg).1⟩
theorem FB.block {w : World} {B g n c : Nat} {l : List UInt8} (h : FB w B (.slice (some ⟨g, 0, none⟩) n c) l) : B ≤ g ∧ g < w.heap.size ∧ n = l.length := by
  obtain ⟨h1, h2⟩ := h.lt g rfl
  obtain ⟨p, c', e, _⟩ := h.slice
  injection e with e1 e2 e3
  exact ⟨h1, h2, e2⟩
theorem FB.cell {w : World} {B g n c : Nat} {l : List UInt8} (h : FB w B (.slice (some ⟨g, 0, none⟩) n c) l) {j : Nat} (hj : j < l.length) : w.cell? ⟨g, j, none⟩ = some (bv l[j]) := by
  have := World.ownsRow.cells h (g := g) rfl j _ (bs_get l hj)
  rwa [add_lit, Nat.zero_add] at this
theorem FB.free {w : World} {B g n c : Nat} {l : List UInt8} (h : FB w B (.slice (some ⟨g, 0, none⟩) n c) l) (j : Nat) : w.frozen? ⟨g, j, none⟩ = false := by
  obtain ⟨_, _, hn⟩ := h.block
  subst hn
  exact World.ownsRow.frozenAt h j
theorem FB.store {w : World} {B g n c : Nat} {l : List UInt8} (h : FB w B (.slice (some ⟨g, 0, none⟩) n c) l) (j : Nat) (x : UInt8) : FB (w.setCell ⟨g, j, none⟩ (bv x)) B (.slice (some ⟨g, 0, none⟩) n c) (l.set j x) := by
  obtain ⟨_, _, hn⟩ := h.block
  subst hn
  have := (World.ownsRow.stored h j (bv x)).1
  unfold FB
  rw [List.length_set]
  have e : bs (l.set j x) = (bs l).set j (bv x) := by simp [bs, List.map_set]
  rw [e]
  exact this

theorem FB.far {w : World} {B : Nat} {v : Value} {l : List UInt8} (h : FB w B v l) {p : Addr} (hp : v.ownBlock ≠ some p.block) (u : Value) : FB (w.setCell p u) B v l := by
  refine ⟨h.1, ?_⟩
  rcases h.2 with hn | ⟨g, cap, cur, rfl, hb, hg, r⟩
  · exact .inl hn
  · refine .inr ⟨g, cap, cur, rfl, hb, ?_, r⟩
    rw [Below.heap_setCell _ _ _ _ (by intro e; exact hp (by simp [Value.ownBlock, e]))]
    exact hg
theorem FB.zeros (w : World) {B : Nat} (hB : B ≤ w.heap.size) (n : Nat) (hn : n ≤ maxLen) : FB (w.alloc (.cells (bs (List.replicate n 0)).toArray 5)) B (.slice (some ⟨w.heap.size, 0, none⟩) n n) (List.replicate n 0) := by
  have h := World.ownsRow_lit (base := B) (e := 5) (size := 1) w (bs (List.replicate n 0)).toArray n hB hn (by simp [bs])
  unfold FB
  rw [List.length_replicate]
  simpa using h

theorem zeros_two (w : World) (n : Nat) (hn : n ≤ maxLen) {Z : Array Value} (hZ : (bs (List.replicate n 0)).toArray = Z) :
    FB ((w.alloc (.cells Z 5)).alloc (.cells Z 5)).drew w.heap.size (.slice (some ⟨w.heap.size, 0, none⟩) n n) (List.replicate n 0) ∧
    FB ((w.alloc (.cells Z 5)).alloc (.cells Z 5)).drew w.heap.size (.slice (some ⟨w.heap.size + 1, 0, none⟩) n n) (List.replicate n 0) ∧
    Ext w ((w.alloc (.cells Z 5)).alloc (.cells Z 5)).drew := by
  subst hZ
  have h1 := FB.zeros w (Nat.le_refl _) n hn
  have h2 := FB.zeros (B := w.heap.size) (w.alloc (.cells (bs (List.replicate n 0)).toArray 5)) (by simp) n hn
  refine ⟨(h1.keep (Ext.alloc _ _)).keep (Ext.drewN _ 1), ?_, ((Ext.alloc _ _).trans (Ext.alloc _ _)).trans (Ext.drewN _ 1)⟩
  have h3 := h2.keep (Ext.drewN _ 1)
  rw [World.size_alloc] at h3
  exact h3

/-! ### Single operations, run -/
theorem wpList_run {P : Program} {ops : Array Oper} {Q : Exit → Act → World → Prop} {rest : List Oper} {o : Oper} {a : Act} {w w' : World} {v : Value}
    (hg : Region.wanted o (yielded ops a.tmps) = true) (hr : (execOp a.eval o).run P w = .ok (.value v) w') (h : wpList P ops Q rest (a.put o.dst v) w') : wpList P ops Q (o :: rest) a w :=
  wpList_step fun K hK => by
    rw [if_pos hg]
    unfold Oper.wp
    rw [hr]
    exact hK _ _ h
theorem gives_run {P : Program} {ops : Array Oper} {o : Oper} {a : Act} {W W' : World} {v : Value} {Post : Value → World → Prop}
    (hw : Region.wanted o (yielded ops a.tmps) = true) (hr : (execOp a.eval o).run P W = .ok (.value v) W') (h : Post v W') : opGives P ops o a W Post := by
  unfold opGives
  rw [if_pos hw, hr]
  exact h

/-- t is the type of slices of e, whose zero is z; an element takes sz cells and 'by' bytes. -/
structure RowT (P : Program) (t e : TypeId) (z : Value) (sz bytes : Nat) : Prop where
  und : P.underlying t = some (.slice e)
  info : ∃ i, P.info? e = some i ∧ i.zero = some z ∧ i.size = sz ∧ i.bytes = bytes
  zs : z.cells.size = sz
  pos : 0 < sz
theorem RowT.size {P : Program} {t e : TypeId} {z : Value} {sz bytes : Nat} (h : RowT P t e z sz bytes) (w : World) : (sizeOf e).run P w = .ok sz w := by
  obtain ⟨i, hi, _, hs, _⟩ := h.info
  simp [sizeOf, typeInfo, hi, hs]

/-- An index that a slice expression names, or leaves out. -/
def Idx (v : Option Value) (d L : Nat) : Prop := (v = none ∧ L = d) ∨ ∃ k, v = some (.int k (L : Int))
theorem Idx.out (d : Nat) : Idx none d d := .inl ⟨rfl, rfl⟩
theorem Idx.at (k : IntKind) (d L : Nat) : Idx (some (.int k (L : Int))) d L := .inr ⟨k, rfl⟩
theorem Idx.eq (k : IntKind) (d L : Nat) (i : Int) (h : i = (L : Int)) : Idx (some (.int k i)) d L := .inr ⟨k, by rw [h]⟩
theorem Idx.int (k : IntKind) (d : Nat) (i : Int) (h : 0 ≤ i) : Idx (some (.int k i)) d i.toNat := .inr ⟨k, by rw [Int.toNat_of_nonneg h]⟩

section
variable {P : Program} {t e : TypeId} {z : Value} {sz bytes : Nat}

theorem run_bound (k : IntKind) (i y : Nat) (code : BoundsCode) (w : World) (h1 : i ≤ y) : (Instr.sliceBound (.int k (i : Int)) y code).run P w = .ok i w := by
  have h2 : (i : Int) ≤ (y : Int) := by omega
  simp [Instr.sliceBound, asIntOf, h2]

/-- 's[l:h]', 's[l:h:m]', each index named or not. -/
theorem run_slice (hT : RowT P t e z sz bytes) {o : Oper} {a : Act} {x : Operand} {lo hi mx : Option Operand} (ho : o.op = .slice t x lo hi mx)
    {p : Option Addr} {n c : Nat} (hx : a.eval x = .slice p n c) (w : World) (L H M : Nat) (hL : Idx (lo.map a.eval) 0 L := by first | exact Idx.out _ | exact Idx.at _ _ _ | exact Idx.eq _ _ _ _ (by omega) | exact Idx.int _ _ _ (by omega)) (hH : Idx (hi.map a.eval) n H := by first | exact Idx.out _ | exact Idx.at _ _ _ | exact Idx.eq _ _ _ _ (by omega) | exact Idx.int _ _ _ (by omega)) (hM : Idx (mx.map a.eval) c M := by first | exact Idx.out _ | exact Idx.at _ _ _ | exact Idx.eq _ _ _ _ (by omega) | exact Idx.int _ _ _ (by omega))
    (hlh : L ≤ H := by omega) (hhm : H ≤ M := by omega) (hmc : M ≤ c := by omega) (hmx : mx.isSome = true → hi.isSome = true := by simp) :
    (execOp a.eval o).run P w = .ok (.value (.slice (cutA sz p M L) (H - L) (M - L))) w := by
  have hs := hT.size w
  have hu := hT.und
  simp only [execOp, ho, hx]
  rcases hM with ⟨e3, rfl⟩ | ⟨km, e3⟩ <;> rcases hH with ⟨e2, rfl⟩ | ⟨kh, e2⟩ <;> rcases hL with ⟨e1, rfl⟩ | ⟨kl, e1⟩ <;> rw [e1, e2, e3] <;>
    simp [Instr.sliceAt, Instr.slice, Instr.sliceBounds, run_underlying hu, run_bound, hlh, hhm, hmc, hs, cutA]
  all_goals
    cases mx <;> cases hi <;> simp at e2 e3 hmx
    try omega

theorem cutA_zero (p : Option Addr) (c : Nat) : cutA sz p c 0 = p := by
  unfold cutA
  split
  · rfl
  · cases p with
    | none => rfl
    | some a => simp [Addr.add]
theorem run_sliceTo (hT : RowT P t e z sz bytes) {o : Oper} {a : Act} {x : Operand} {hi mx : Option Operand} (ho : o.op = .slice t x none hi mx)
    {p : Option Addr} {n c : Nat} (hx : a.eval x = .slice p n c) (w : World) (H M : Nat) (hH : Idx (hi.map a.eval) n H := by first | exact Idx.out _ | exact Idx.at _ _ _ | exact Idx.eq _ _ _ _ (by omega) | exact Idx.int _ _ _ (by omega)) (hM : Idx (mx.map a.eval) c M := by first | exact Idx.out _ | exact Idx.at _ _ _ | exact Idx.eq _ _ _ _ (by omega) | exact Idx.int _ _ _ (by omega))
    (hhm : H ≤ M := by omega) (hmc : M ≤ c := by omega) (hmx : mx.isSome = true → hi.isSome = true := by simp) :
    (execOp a.eval o).run P w = .ok (.value (.slice p H M)) w := by
  have h := run_slice hT ho hx w 0 H M (Idx.out _) hH hM (Nat.zero_le _) hhm hmc hmx
  rw [cutA_zero] at h
  exact h

/-- '&s[j]'. -/
theorem run_indexAddr (hT : RowT P t e z sz bytes) {o : Oper} {a : Act} {x i : Operand} (ho : o.op = .indexAddr t x i) {b off n c : Nat} (hx : a.eval x = .slice (some ⟨b, off, none⟩) n c)
    (k : IntKind) (j : Nat) (hi : a.eval i = .int k (j : Int)) (hj : j < n) (w : World) :
    (execOp a.eval o).run P w = .ok (.value (.pointer (some ⟨b, off + j * sz, none⟩))) w := by
  have hs := hT.size w
  have hu := hT.und
  simp only [execOp, ho, hx, hi]
  simp [Instr.indexAt, asIntOf, run_underlying hu, hj, hs, add_lit]

/-- 'string(b)'. -/
theorem run_bytes_string (hT : RowT P t e z sz bytes) (he : P.underlying e = some (.int .u8)) {dst : TypeId} (hd : P.underlying dst = some .string) {v : Value} {l : List UInt8} {w : World} (h : BV w v l) :
    (convert t dst v).run P w = .ok (.string ⟨l.toArray⟩) w := by
  obtain ⟨p, c, rfl, _, _, hs⟩ := h
  cases p with
  | none =>
    have hl : l = [] := by
      cases l with
      | nil => rfl
      | cons x r =>
        obtain ⟨b, o, e, _⟩ := hs (by simp [bs])
        cases e
    subst hl
    exact run_convert_bytes_nil w t e hT.und he _ _ dst hd
  | some ad =>
    refine run_convert_bytes_back w t dst e ad c l hT.und he hd fun j hj => ?_
    obtain ⟨b, o, e1, h1⟩ := hs.at (bs_get l hj)
    cases e1
    rw [add_lit]
    exact h1
theorem run_op_bytes_string (hT : RowT P t e z sz bytes) (he : P.underlying e = some (.int .u8)) {dst : TypeId} (hd : P.underlying dst = some .string) {o : Oper} {a : Act} {x : Operand} (ho : o.op = .convert t dst x)
    {v : Value} (hx : a.eval x = v) {l : List UInt8} {w : World} (h : BV w v l) : (execOp a.eval o).run P w = .ok (.value (.string ⟨l.toArray⟩)) w := by
  subst hx
  simp [execOp, ho, run_bytes_string hT he hd h, Result.andThen]

theorem bytesRow_take (s : ByteArray) (cap j : Nat) (u : Value) (hu : (bs s.data.toList)[j]? = some u) : (bytesRow s cap)[j]? = some u := by
  have hj : j < s.data.size := by
    have := (List.getElem?_eq_some_iff.1 hu).1
    simpa [bs] using this
  rw [bytesRow_at s cap j hj]
  rw [bs_get _ (by simpa using hj)] at hu
  simpa using hu
/-- '[]byte(s)': a new slice of its bytes. -/
theorem run_string_bytes (hT : RowT P t e z sz bytes) (he : P.underlying e = some (.int .u8)) {src : TypeId} (hd : P.underlying src = some .string) (s : ByteArray) (hs : s.size ≤ maxLen) (w : World) :
    ∃ v w', (convert src t (.string s)).run P w = .ok v w' ∧ BV w' v s.data.toList ∧ Ext w w' := by
  refine ⟨_, _, run_bytes_of_string w src t e s hd hT.und he, ⟨_, _, rfl, ?_, ?_, fun _ => ⟨_, _, rfl, fun j u hu => ?_⟩⟩, (Ext.drewN w 1).trans (Ext.alloc _ _)⟩
  · exact grownCap_ge w s.size 0 e
  · exact grownCap_le_maxLen w s.size 0 e hs
  · rw [Nat.zero_add]
    exact (World.cell?_alloc_mark w.drew _ _ _ j).trans (bytesRow_take s _ j u hu)

/-- 'append(x, y...)', x a row of the call's own, y whatever reads as the cells 'ys'. -/
theorem run_append_row (hT : RowT P t e z sz bytes) (ty : TypeId) {w : World} {B : Nat} {v : Value} {n : Nat} {xs : List Value} (hown : w.ownsRow B e sz v n xs)
    {p : Option Addr} {m c : Nat} {ys : List Value} (hl : ys.length = m * sz) (hy : Sees w p ys) (h1 : ∀ u ∈ ys, u.oneCell' = true) (h63 : n + m ≤ maxLen) (hby : (n + m) * bytes ≤ 140737488355328) (hB : B ≤ w.heap.size) :
    ∃ v' w', (Builtin.append_ #[t, t] ty #[v, .slice p m c]).run P w = .ok v' w' ∧ w'.ownsRow B e sz v' (n + m) (xs ++ ys) ∧ w.grownBy w' v.ownBlock ∧ (v'.ownBlock = v.ownBlock ∨ v'.ownBlock = some w.heap.size) := by
  obtain ⟨i, hi, hz, hs, hb⟩ := hT.info
  have nothing : ys = [] → ∀ p', p = p' → (∀ b : Addr, p' = some b → m = 0) → m = 0 := fun h _ _ _ => by
    subst h
    have : 0 = m * sz := by simpa using hl
    rcases Nat.mul_eq_zero.1 this.symm with h | h
    · exact h
    · have := hT.pos; omega
  cases p with
  | none =>
    have hm : ys = [] := by
      cases ys with
      | nil => rfl
      | cons x r =>
        obtain ⟨b, o, e, _⟩ := hy (by simp)
        cases e
    have hm0 := nothing hm none rfl (fun b h => by cases h)
    subst hm; subst hm0
    refine ⟨v, w, ?_, by simpa using hown, ⟨rfl, rfl, rfl, Nat.le_refl _, fun _ _ _ => rfl⟩, .inl rfl⟩
    rcases hown.2 with ⟨rfl, rfl⟩ | ⟨g, cap, cur, rfl, _, _, hnc, _⟩
    · simp [Builtin.append_, run_underlying hT.und, sizeOf, typeInfo, hi, Builtin.lenOf, Builtin.firstCells]
    · simp [Builtin.append_, run_underlying hT.und, sizeOf, typeInfo, hi, Builtin.lenOf, Builtin.firstCells, hnc, storeCells]
  | some ad =>
    have hcells : ∀ j u, ys[j]? = some u → w.cell? (ad.add j) = some u := fun j u hu => by
      obtain ⟨b, o, e1, h2⟩ := hy.at hu
      cases e1
      rw [add_lit]
      exact h2
    obtain ⟨v', w', hrun, h2, h3, _, h5⟩ := run_append_own_at (P := P) w B t ty e i z sz bytes hT.und hi hz hs hb hT.zs hT.pos v n xs hown ad m c ys hl hcells h1 h63 hby hB
    exact ⟨v', w', hrun, h2, h3, h5⟩
theorem run_op_append {o : Oper} {a : Act} {x y : Operand} (ho : o.op = .call { callee := .builtin .append, args := #[x, y], argTypes := #[t, t] }) {v u : Value} (hx : a.eval x = v) (hy : a.eval y = u) {v' : Value} {w w' : World}
    (h : (Builtin.append_ #[t, t] o.type #[v, u]).run P w = .ok v' w') : (execOp a.eval o).run P w = .ok (.value v') w' := by
  simp [execOp, ho, resolve, invoke, builtin, hx, hy, h, Result.andThen]

/-- 'make([]T, n)'. -/
theorem run_make_row (hT : RowT P t e z sz bytes) {o : Oper} {a : Act} {x y : Operand} (ho : o.op = .makeSlice t x y) {kx ky : IntKind} {n : Nat} (hx : a.eval x = .int kx (n : Int)) (hy : a.eval y = .int ky (n : Int))
    (hb : bytes * n ≤ 281474976710656) (h63 : n ≤ maxLen) (w : World) :
    ∃ w', (execOp a.eval o).run P w = .ok (.value (.slice (some ⟨w.heap.size, 0, none⟩) n n)) w' ∧ w'.ownsRow w.heap.size e sz (.slice (some ⟨w.heap.size, 0, none⟩) n n) n (madeCells z.cells (n * sz)).toList ∧ Ext w w' := by
  obtain ⟨i, hi, hz, hs, hby⟩ := hT.info
  obtain ⟨w', hr, h1, h2⟩ := run_make_full (P := P) w w.heap.size t e i z sz hT.und hi hz hs kx ky n (by rw [hby]; exact hb) h63 (Nat.le_refl _)
  refine ⟨w', by simp [execOp, ho, hx, hy, hr, Result.andThen], h1, (Below.refl _ _).grown h2 (Nat.le_refl _) (by simp)⟩
end
theorem run_make_zeros {P : Program} {t : TypeId} (hT : RowT P t 5 (.int .u8 0) 1 1) (kx ky : IntKind) (n : Nat) (hb : n ≤ 281474976710656) (w : World) :
    (Instr.makeSlice t (.int kx (n : Int)) (.int ky (n : Int))).run P w = .ok (.slice (some ⟨w.heap.size, 0, none⟩) n n) (w.alloc (.cells (bs (List.replicate n 0)).toArray 5)) := by
  obtain ⟨i, hi, hz, hs, hby⟩ := hT.info
  have h := run_make (P := P) w t 5 i _ hT.und hi hz kx ky (n : Int) (n : Int) (by omega) (Int.le_refl _) (by rw [hby]; omega) (by omega)
  rw [h]
  have e : madeCells (Value.int IntKind.u8 0).cells (n * 1) = (bs (List.replicate n 0)).toArray := by
    apply Array.toList_inj.1
    rw [Nat.mul_one]
    show (madeCells #[Value.int .u8 0] n).toList = _
    rw [toList_madeCells_one]
    simp [bs, bv]
  rw [hs, Int.toNat_natCast, e]
theorem run_make_bytes {P : Program} {t : TypeId} (hT : RowT P t 5 (.int .u8 0) 1 1) {o : Oper} {a : Act} {x y : Operand} (ho : o.op = .makeSlice t x y) {kx ky : IntKind} {n : Nat} (hx : a.eval x = .int kx (n : Int)) (hy : a.eval y = .int ky (n : Int))
    (hb : n ≤ 281474976710656) (w : World) :
    ∃ w', (execOp a.eval o).run P w = .ok (.value (.slice (some ⟨w.heap.size, 0, none⟩) n n)) w' ∧ FB w' w.heap.size (.slice (some ⟨w.heap.size, 0, none⟩) n n) (List.replicate n 0) ∧ Ext w w' := by
  obtain ⟨w', h1, h2, h3⟩ := run_make_row hT ho hx hy (by omega) (by simp only [maxLen]; omega) w
  refine ⟨w', h1, ?_, h3⟩
  unfold FB
  rw [List.length_replicate]
  have e : (madeCells (Value.int IntKind.u8 0).cells (n * 1)).toList = bs (List.replicate n 0) := by
    rw [Nat.mul_one]
    show (madeCells #[Value.int .u8 0] n).toList = _
    rw [toList_madeCells_one]
    simp [bs, bv]
  rw [← e]
  exact h2

/-- 'append(x, y...)' at bytes. -/
theorem run_append_bytes {P : Program} {t : TypeId} (hT : RowT P t 5 (.int .u8 0) 1 1) {o : Oper} {a : Act} {x y : Operand} (ho : o.op = .call { callee := .builtin .append, args := #[x, y], argTypes := #[t, t] })
    {w : World} {B : Nat} {l m : List UInt8} (hx : FB w B (a.eval x) l) (hy : BV w (a.eval y) m) (hlen : l.length + m.length ≤ 140737488355328) (hB : B ≤ w.heap.size) :
    ∃ v' w', (execOp a.eval o).run P w = .ok (.value v') w' ∧ FB w' B v' (l ++ m) ∧ w.grownBy w' (a.eval x).ownBlock ∧ (v'.ownBlock = (a.eval x).ownBlock ∨ v'.ownBlock = some w.heap.size) := by
  obtain ⟨p, c, e, _, _, hs⟩ := hy
  obtain ⟨v', w', h1, h2, h3, h4⟩ := run_append_row hT o.type hx (m := m.length) (c := c) (by rw [bs_length]; omega) hs (bs_one m) (by simp only [maxLen]; omega) (by omega) hB
  refine ⟨v', w', run_op_append ho rfl e h1, ?_, h3, h4⟩
  unfold FB
  rw [List.length_append, bs_append]
  exact h2

theorem wpList_append_bytes {P : Program} {t : TypeId} (hT : RowT P t 5 (.int .u8 0) 1 1) {ops : Array Oper} {Q : Exit → Act → World → Prop} {rest : List Oper} {o : Oper} {a : Act} {w : World} (hg : Region.wanted o (yielded ops a.tmps) = true) {x y : Operand}
    (ho : o.op = .call { callee := .builtin .append, args := #[x, y], argTypes := #[t, t] }) {vx vy : Value} (ex : a.eval x = vx) (ey : a.eval y = vy)
    {B : Nat} {l m : List UInt8} (hx : FB w B vx l) (hy : BV w vy m) (hlen : l.length + m.length ≤ 140737488355328) (hB : B ≤ w.heap.size)
    (h : ∀ v' w', FB w' B v' (l ++ m) → w.grownBy w' vx.ownBlock → (v'.ownBlock = vx.ownBlock ∨ v'.ownBlock = some w.heap.size) → wpList P ops Q rest (a.put o.dst v') w') : wpList P ops Q (o :: rest) a w := by
  subst ex; subst ey
  obtain ⟨v', w', hr, h1, h2, h3⟩ := run_append_bytes hT ho hx hy hlen hB
  exact wpList_run hg hr (h v' w' h1 h2 h3)
theorem wpList_make_bytes {P : Program} {t : TypeId} (hT : RowT P t 5 (.int .u8 0) 1 1) {ops : Array Oper} {Q : Exit → Act → World → Prop} {rest : List Oper} {o : Oper} {a : Act} {w : World} (hg : Region.wanted o (yielded ops a.tmps) = true) {x y : Operand}
    (ho : o.op = .makeSlice t x y) {kx ky : IntKind} {n : Nat} (hx : a.eval x = .int kx (n : Int)) (hy : a.eval y = .int ky (n : Int)) (hb : n ≤ 281474976710656)
    (h : ∀ w', FB w' w.heap.size (.slice (some ⟨w.heap.size, 0, none⟩) n n) (List.replicate n 0) → Ext w w' → wpList P ops Q rest (a.put o.dst (.slice (some ⟨w.heap.size, 0, none⟩) n n)) w') : wpList P ops Q (o :: rest) a w := by
  obtain ⟨w', hr, h1, h2⟩ := run_make_bytes hT ho hx hy hb w
  exact wpList_run hg hr (h w' h1 h2)
theorem wpList_slice {P : Program} {t e : TypeId} {z : Value} {sz bytes : Nat} (hT : RowT P t e z sz bytes) {ops : Array Oper} {Q : Exit → Act → World → Prop} {rest : List Oper} {o : Oper} {a : Act} {w : World} (hg : Region.wanted o (yielded ops a.tmps) = true) {x : Operand} {lo hi mx : Option Operand}
    (ho : o.op = .slice t x lo hi mx) {p : Option Addr} {n c : Nat} (hx : a.eval x = .slice p n c) (L H M : Nat) (h : wpList P ops Q rest (a.put o.dst (.slice (cutA sz p M L) (H - L) (M - L))) w) (hL : Idx (lo.map a.eval) 0 L := by first | exact Idx.out _ | exact Idx.at _ _ _ | exact Idx.eq _ _ _ _ (by omega) | exact Idx.int _ _ _ (by omega)) (hH : Idx (hi.map a.eval) n H := by first | exact Idx.out _ | exact Idx.at _ _ _ | exact Idx.eq _ _ _ _ (by omega) | exact Idx.int _ _ _ (by omega)) (hM : Idx (mx.map a.eval) c M := by first | exact Idx.out _ | exact Idx.at _ _ _ | exact Idx.eq _ _ _ _ (by omega) | exact Idx.int _ _ _ (by omega))
    (hlh : L ≤ H := by omega) (hhm : H ≤ M := by omega) (hmc : M ≤ c := by omega) (hmx : mx.isSome = true → hi.isSome = true := by simp) : wpList P ops Q (o :: rest) a w :=
  wpList_run hg (run_slice hT ho hx w L H M hL hH hM hlh hhm hmc hmx) h
theorem wpList_sliceTo {P : Program} {t e : TypeId} {z : Value} {sz bytes : Nat} (hT : RowT P t e z sz bytes) {ops : Array Oper} {Q : Exit → Act → World → Prop} {rest : List Oper} {o : Oper} {a : Act} {w : World} (hg : Region.wanted o (yielded ops a.tmps) = true) {x : Operand} {hi mx : Option Operand}
    (ho : o.op = .slice t x none hi mx) {p : Option Addr} {n c : Nat} (hx : a.eval x = .slice p n c) (H M : Nat) (h : wpList P ops Q rest (a.put o.dst (.slice p H M)) w) (hH : Idx (hi.map a.eval) n H := by first | exact Idx.out _ | exact Idx.at _ _ _ | exact Idx.eq _ _ _ _ (by omega) | exact Idx.int _ _ _ (by omega)) (hM : Idx (mx.map a.eval) c M := by first | exact Idx.out _ | exact Idx.at _ _ _ | exact Idx.eq _ _ _ _ (by omega) | exact Idx.int _ _ _ (by omega))
    (hhm : H ≤ M := by omega) (hmc : M ≤ c := by omega) (hmx : mx.isSome = true → hi.isSome = true := by simp) : wpList P ops Q (o :: rest) a w :=
  wpList_run hg (run_sliceTo hT ho hx w H M hH hM hhm hmc hmx) h
theorem wpList_string {P : Program} {t e : TypeId} {z : Value} {sz bytes : Nat} (hT : RowT P t e z sz bytes) (he : P.underlying e = some (.int .u8)) {dst : TypeId} (hd : P.underlying dst = some .string) {ops : Array Oper} {Q : Exit → Act → World → Prop} {rest : List Oper} {o : Oper} {a : Act} {w : World} (hg : Region.wanted o (yielded ops a.tmps) = true) {x : Operand}
    (ho : o.op = .convert t dst x) {v : Value} (hx : a.eval x = v) {l : List UInt8} (hv : BV w v l) (h : wpList P ops Q rest (a.put o.dst (.string ⟨l.toArray⟩)) w) : wpList P ops Q (o :: rest) a w := by
  exact wpList_run hg (run_op_bytes_string hT he hd ho hx hv) h

/-- '[]byte("..")' of a constant: the row has been laid; here it gets its mark. -/
theorem wpList_mark {P : Program} {t e : TypeId} {z : Value} {sz bytes : Nat} (hT : RowT P t e z sz bytes) (he : P.underlying e = some (.int .u8)) {ops : Array Oper} {Q : Exit → Act → World → Prop} {rest : List Oper} {o : Oper} {a : Act} {w : World} (hg : Region.wanted o (yielded ops a.tmps) = true) {x : Operand}
    (ho : o.op = .convert t t x) {n : Nat} (hx : a.eval x = .slice (some ⟨w.heap.size, 0, none⟩) n n) {C : Array Value} (l : List UInt8) (hC : C = (bs l).toArray) (hn : n = l.length) (hm : l.length ≤ maxLen)
    (h : ∀ v' w', BV w' v' l → Ext w w' → wpList P ops Q rest (a.put o.dst v') w') : wpList P ops Q (o :: rest) a (w.alloc (.cells C e)) := by
  refine wpList_run (w' := w.alloc (.cells C e (C.size, C.size + 1))) (v := .slice (some ⟨w.heap.size, 0, none⟩) n n) hg ?_ (h _ _ ?_ (Ext.alloc _ _))
  · simp [execOp, ho, hx, Lib.run_convert_bytes_const w t e C n n hT.und he, Result.andThen]
  · subst hn
    refine ⟨_, _, rfl, Nat.le_refl _, hm, fun _ => ⟨_, _, rfl, fun j u hu => ?_⟩⟩
    rw [Nat.zero_add]
    refine (World.cell?_alloc_mark w C e _ j).trans ?_
    subst hC
    simpa using hu

theorem run_min {P : Program} {o : Oper} {a : Act} {x y : Operand} {ts : Array TypeId} (ho : o.op = .call { callee := .builtin .min, args := #[x, y], argTypes := ts }) {k : IntKind} {i j : Int} (hx : a.eval x = .int k i) (hy : a.eval y = .int k j) (w : World) :
    (execOp a.eval o).run P w = .ok (.value (.int k (min i j))) w := by
  have e : (if j < i then j else i) = min i j := by split <;> omega
  simp [execOp, ho, resolve, invoke, builtin, hx, hy, Builtin.min_, Builtin.min2, Sem.run_pure, e]
theorem run_max {P : Program} {o : Oper} {a : Act} {x y : Operand} {ts : Array TypeId} (ho : o.op = .call { callee := .builtin .max, args := #[x, y], argTypes := ts }) {k : IntKind} {i j : Int} (hx : a.eval x = .int k i) (hy : a.eval y = .int k j) (w : World) :
    (execOp a.eval o).run P w = .ok (.value (.int k (max i j))) w := by
  have e : (if i < j then j else i) = max i j := by split <;> omega
  simp [execOp, ho, resolve, invoke, builtin, hx, hy, Builtin.max_, Builtin.max2, Sem.run_pure, e]

/-- An append onto a row of the call's own, behind a world that has only grown. -/
theorem Ext.append {w w1 w' : World} (h : Ext w w1) {v : Value} {l : List UInt8} (hf : FB w1 w.heap.size v l) (k : w1.grownBy w' v.ownBlock) : Ext w w' :=
  Below.grown h k h.size fun g e => (hf.lt g e).1
/-- What is below B turns in no append onto a row of the call's own. -/
theorem below_grown {B B' : Nat} {w w' : World} {e sz : Nat} {v : Value} {n : Nat} {xs : List Value} (hown : w.ownsRow B' e sz v n xs) (hg : w.grownBy w' v.ownBlock) (hB : B ≤ B') (hs : B ≤ w.heap.size) : Below B w w' :=
  (Below.refl B w).grown hg hs fun k hk => by have := (hown.lt k hk).1; omega

/-! ### The same laws, the operation written out: its operands are read off the goal -/
section
variable {P : Program} {t e : TypeId} {z : Value} {sz bytes : Nat} {ops : Array Oper} {Q : Exit → Act → World → Prop} {rest : List Oper} {a : Act} {w : World} {dst : Option Tmp} {ty : TypeId} {pos : String} {after : Array Edge} {guard : Option (Nat × Bool)}
theorem st_slice (hT : RowT P t e z sz bytes) {x : Operand} {lo hi mx : Option Operand} {p : Option Addr} {n c : Nat} (L H M : Nat) (h : wpList P ops Q rest (a.put dst (.slice (cutA sz p M L) (H - L) (M - L))) w)
    (hg : Region.wanted ⟨dst, .slice t x lo hi mx, ty, pos, after, guard⟩ (yielded ops a.tmps) = true := by exact rfl) (hx : a.eval x = .slice p n c := by exact rfl)
    (hL : Idx (lo.map a.eval) 0 L := by first | exact Idx.out _ | exact Idx.at _ _ _ | exact Idx.eq _ _ _ _ (by omega)) (hH : Idx (hi.map a.eval) n H := by first | exact Idx.out _ | exact Idx.at _ _ _ | exact Idx.eq _ _ _ _ (by omega)) (hM : Idx (mx.map a.eval) c M := by first | exact Idx.out _ | exact Idx.at _ _ _ | exact Idx.eq _ _ _ _ (by omega))
    (hlh : L ≤ H := by omega) (hhm : H ≤ M := by omega) (hmc : M ≤ c := by omega) (hmx : mx.isSome = true → hi.isSome = true := by simp) : wpList P ops Q (⟨dst, .slice t x lo hi mx, ty, pos, after, guard⟩ :: rest) a w :=
  wpList_slice hT hg rfl hx L H M h hL hH hM hlh hhm hmc hmx
theorem st_sliceTo (hT : RowT P t e z sz bytes) {x : Operand} {hi mx : Option Operand} {p : Option Addr} {n c : Nat} (H M : Nat) (h : wpList P ops Q rest (a.put dst (.slice p H M)) w)
    (hg : Region.wanted ⟨dst, .slice t x none hi mx, ty, pos, after, guard⟩ (yielded ops a.tmps) = true := by exact rfl) (hx : a.eval x = .slice p n c := by exact rfl)
    (hH : Idx (hi.map a.eval) n H := by first | exact Idx.out _ | exact Idx.at _ _ _ | exact Idx.eq _ _ _ _ (by omega)) (hM : Idx (mx.map a.eval) c M := by first | exact Idx.out _ | exact Idx.at _ _ _ | exact Idx.eq _ _ _ _ (by omega))
    (hhm : H ≤ M := by omega) (hmc : M ≤ c := by omega) (hmx : mx.isSome = true → hi.isSome = true := by simp) : wpList P ops Q (⟨dst, .slice t x none hi mx, ty, pos, after, guard⟩ :: rest) a w :=
  wpList_sliceTo hT hg rfl hx H M h hH hM hhm hmc hmx
theorem st_string (hT : RowT P t e z sz bytes) (he : P.underlying e = some (.int .u8)) {d : TypeId} (hd : P.underlying d = some .string) {x : Operand} {v : Value} {l : List UInt8} (hv : BV w v l) (h : wpList P ops Q rest (a.put dst (.string ⟨l.toArray⟩)) w)
    (hg : Region.wanted ⟨dst, .convert t d x, ty, pos, after, guard⟩ (yielded ops a.tmps) = true := by exact rfl) (hx : a.eval x = v := by exact rfl) : wpList P ops Q (⟨dst, .convert t d x, ty, pos, after, guard⟩ :: rest) a w :=
  wpList_string hT he hd hg rfl hx hv h
theorem st_append (hT : RowT P t 5 (.int .u8 0) 1 1) {x y : Operand} {vx vy : Value} {B : Nat} {l m : List UInt8} (hx : FB w B vx l) (hy : BV w vy m)
    (h : ∀ v' w', FB w' B v' (l ++ m) → w.grownBy w' vx.ownBlock → (v'.ownBlock = vx.ownBlock ∨ v'.ownBlock = some w.heap.size) → wpList P ops Q rest (a.put dst v') w')
    (hlen : l.length + m.length ≤ 140737488355328) (hB : B ≤ w.heap.size)
    (hg : Region.wanted ⟨dst, .call { callee := .builtin .append, args := #[x, y], argTypes := #[t, t] }, ty, pos, after, guard⟩ (yielded ops a.tmps) = true := by exact rfl) (ex : a.eval x = vx := by exact rfl) (ey : a.eval y = vy := by exact rfl) :
    wpList P ops Q (⟨dst, .call { callee := .builtin .append, args := #[x, y], argTypes := #[t, t] }, ty, pos, after, guard⟩ :: rest) a w :=
  wpList_append_bytes hT hg rfl ex ey hx hy hlen hB h
end
end Go.Proofs.Ytpejdompanhieaa
