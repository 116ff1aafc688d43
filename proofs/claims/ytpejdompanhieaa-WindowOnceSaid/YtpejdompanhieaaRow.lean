/- Rows whose elements are read by a relation: rows that come in, rows that a call owns; how they grow, are cut and are read. -/
import Derived.Test.YtpejdompanhieaaBase
import Derived.OpenShut
import Derived.DataReads
namespace Go.Proofs.Ytpejdompanhieaa
open Go.RowKit

/-! ### What keeps, block by block -/
def Keeps (S : Nat → Prop) (w w' : World) : Prop := w.heap.size ≤ w'.heap.size ∧ ∀ k, k < w.heap.size → S k → w'.heap[k]? = w.heap[k]?
theorem Keeps.refl (S : Nat → Prop) (w : World) : Keeps S w w := ⟨Nat.le_refl _, fun _ _ _ => rfl⟩
theorem Keeps.trans {S : Nat → Prop} {a b c : World} (h : Keeps S a b) (k : Keeps S b c) : Keeps S a c :=
  ⟨Nat.le_trans h.1 k.1, fun i hi hs => (k.2 i (Nat.lt_of_lt_of_le hi h.1) hs).trans (h.2 i hi hs)⟩
theorem Keeps.mono {S T : Nat → Prop} {w w' : World} (h : Keeps S w w') (hs : ∀ k, k < w.heap.size → T k → S k) : Keeps T w w' := ⟨h.1, fun k hk ht => h.2 k hk (hs k hk ht)⟩
theorem Ext.keeps {w w' : World} (h : Ext w w') (S : Nat → Prop) : Keeps S w w' := ⟨h.size, fun k hk _ => h.block k hk⟩
theorem keeps_grown {w w' : World} {g : Option Nat} (h : w.grownBy w' g) : Keeps (fun k => some k ≠ g) w w' := ⟨h.size, fun k hk hs => h.block k hk hs⟩
theorem keeps_below {B : Nat} {w w' : World} (h : Below B w w') : Keeps (fun k => k < B) w w' := ⟨h.size, fun k _ hs => h.block k hs⟩
theorem Keeps.cell {S : Nat → Prop} {w w' : World} (h : Keeps S w w') {a : Addr} {v : Value} (hs : S a.block) (hc : w.cell? a = some v) : w'.cell? a = some v :=
  (World.cell?_of_block (h.2 a.block (World.block_lt_of_cell? w a hc) hs)).trans hc

/-- R holds, and does whatever happens outside the blocks of S. -/
def Under (S : Nat → Prop) (R : World → Prop) (w : World) : Prop := ∀ w', Keeps S w w' → R w'
theorem Under.now {S : Nat → Prop} {R : World → Prop} {w : World} (h : Under S R w) : R w := h w (Keeps.refl _ _)
theorem Under.step {S : Nat → Prop} {R : World → Prop} {w w' : World} (h : Under S R w) (k : Keeps S w w') : Under S R w' := fun w'' k2 => h w'' (k.trans k2)
theorem Under.mono {S T : Nat → Prop} {R : World → Prop} {w : World} (h : Under S R w) (hs : ∀ k, k < w.heap.size → S k → T k) : Under T R w := fun w' k => h w' (k.mono hs)
theorem Under.imp {S : Nat → Prop} {R Q : World → Prop} {w : World} (h : Under S R w) (hq : ∀ w, R w → Q w) : Under S Q w := fun w' k => hq w' (h w' k)
/-- The same blocks, told anew in a later world. -/
theorem Under.later {S T : Nat → Prop} {R : World → Prop} {w w' : World} (h : Under S R w) (k : Keeps S w w') (hs : ∀ k, k < w.heap.size → S k → T k) : Under T R w' :=
  fun w'' k2 => h w'' ⟨Nat.le_trans k.1 k2.1, fun i hi si => (k2.2 i (Nat.lt_of_lt_of_le hi k.1) (hs i hi si)).trans (k.2 i hi si)⟩

theorem Sees.keeps {S : Nat → Prop} {w w' : World} {p : Option Addr} {cs : List Value} (h : Sees w p cs) (hs : ∀ a, p = some a → S a.block) (k : Keeps S w w') : Sees w' p cs := fun hn => by
  obtain ⟨b, o, e, hc⟩ := h hn
  exact ⟨b, o, e, fun j u hu => k.cell (a := ⟨b, o + j, none⟩) (hs ⟨b, o, none⟩ e) (hc j u hu)⟩
theorem BV.under {w : World} {v : Value} {l : List UInt8} (h : BV w v l) : Under (fun _ => True) (fun w' => BV w' v l) w := fun w' k => by
  obtain ⟨p, c, e, h1, h2, h3⟩ := h
  exact ⟨p, c, e, h1, h2, h3.keeps (fun _ _ => trivial) k⟩
theorem FB.under {w : World} {B : Nat} {v : Value} {l : List UInt8} (h : FB w B v l) : Under (fun k => v.ownBlock = some k) (fun w' => FB w' B v l) w := fun w' k => by
  refine ⟨h.1, ?_⟩
  rcases h.2 with hn | ⟨g, cap, cur, rfl, hb, hg, r⟩
  · exact .inl hn
  · exact .inr ⟨g, cap, cur, rfl, hb, by rw [k.2 g (Array.getElem?_eq_some_iff.1 hg).1 rfl]; exact hg, r⟩

/-! ### Rows -/
section
variable {α : Type} {sz : Nat} {R : World → List Value → α → Prop}
def Chunks (sz : Nat) (css : List (List Value)) : Prop := ∀ cs ∈ css, cs.length = sz ∧ ∀ u ∈ cs, u.oneCell' = true
theorem chunks_length {css : List (List Value)} (h : Chunks sz css) : css.flatten.length = css.length * sz := by
  induction css with
  | nil => simp
  | cons c r ih =>
    rw [List.flatten_cons, List.length_append, ih fun cs hcs => h cs (List.mem_cons_of_mem _ hcs), (h c (List.mem_cons_self ..)).1, List.length_cons, Nat.add_mul, Nat.one_mul, Nat.add_comm]
theorem chunks_one {css : List (List Value)} (h : Chunks sz css) : ∀ u ∈ css.flatten, u.oneCell' = true := by
  intro u hu
  obtain ⟨cs, h1, h2⟩ := List.mem_flatten.1 hu
  exact (h cs h1).2 u h2
theorem chunks_drop : ∀ {css : List (List Value)} (_ : Chunks sz css) (k : Nat), (css.drop k).flatten = css.flatten.drop (k * sz)
  | css, _, 0 => by simp
  | [], _, k + 1 => by simp
  | c :: r, h, k + 1 => by
    have hc := (h c (List.mem_cons_self ..)).1
    rw [List.drop_succ_cons, chunks_drop (css := r) (fun cs hcs => h cs (List.mem_cons_of_mem _ hcs)) k]
    have e : (k + 1) * sz = c.length + k * sz := by rw [hc, Nat.add_mul]; omega
    rw [List.flatten_cons, e, ← List.drop_drop, List.drop_left]
theorem chunks_take : ∀ {css : List (List Value)} (_ : Chunks sz css) (k : Nat), (css.take k).flatten = css.flatten.take (k * sz)
  | css, _, 0 => by simp
  | [], _, k + 1 => by simp
  | c :: r, h, k + 1 => by
    have hc := (h c (List.mem_cons_self ..)).1
    rw [List.take_succ_cons, List.flatten_cons, List.flatten_cons, chunks_take (css := r) (fun cs hcs => h cs (List.mem_cons_of_mem _ hcs)) k]
    have e : (k + 1) * sz = c.length + k * sz := by rw [hc, Nat.add_mul]; omega
    rw [e, List.take_length_add_append]
theorem chunks_at {css : List (List Value)} (h : Chunks sz css) {j : Nat} {cs : List Value} (hj : css[j]? = some cs) {i : Nat} {u : Value} (hu : cs[i]? = some u) : css.flatten[j * sz + i]? = some u := by
  have hlt := (List.getElem?_eq_some_iff.1 hj).1
  have e : css.flatten.drop (j * sz) = cs ++ (css.drop (j + 1)).flatten := by
    rw [← chunks_drop h, List.drop_eq_getElem_cons hlt, (List.getElem?_eq_some_iff.1 hj).2]; rfl
  rw [← List.getElem?_drop, e, List.getElem?_append_left (List.getElem?_eq_some_iff.1 hu).1]
  exact hu

/-- The elements are read by R, whatever happens outside the blocks of S. -/
def Items (R : World → List Value → α → Prop) (S : Nat → Prop) (w : World) (css : List (List Value)) (xs : List α) : Prop :=
  css.length = xs.length ∧ ∀ (j : Nat) (cs : List Value) (x : α), css[j]? = some cs → xs[j]? = some x → Under S (fun w' => R w' cs x) w
theorem Items.nil (S : Nat → Prop) (w : World) : Items R S w [] [] := by
  refine ⟨rfl, ?_⟩
  intro j cs x h
  simp at h
theorem Items.append {S : Nat → Prop} {w : World} {c1 c2 : List (List Value)} {x1 x2 : List α} (h : Items R S w c1 x1) (k : Items R S w c2 x2) : Items R S w (c1 ++ c2) (x1 ++ x2) := by
  refine ⟨by simp [h.1, k.1], fun j cs x hc hx => ?_⟩
  by_cases hj : j < c1.length
  · rw [List.getElem?_append_left hj] at hc
    rw [List.getElem?_append_left (by rw [← h.1]; exact hj)] at hx
    exact h.2 j cs x hc hx
  · rw [List.getElem?_append_right (by omega)] at hc
    rw [List.getElem?_append_right (by rw [← h.1]; omega)] at hx
    exact k.2 (j - c1.length) cs x hc (by rw [h.1]; exact hx)
theorem Items.one {S : Nat → Prop} {w : World} {cs : List Value} {x : α} (h : Under S (fun w' => R w' cs x) w) : Items R S w [cs] [x] := by
  refine ⟨rfl, fun j cs' x' hc hx => ?_⟩
  cases j with
  | zero => simp at hc hx; subst hc; subst hx; exact h
  | succ j => simp at hc
theorem Items.later {S T : Nat → Prop} {w w' : World} {css : List (List Value)} {xs : List α} (h : Items R S w css xs) (k : Keeps S w w') (hs : ∀ k, k < w.heap.size → S k → T k) : Items R T w' css xs :=
  ⟨h.1, fun j cs x hc hx => (h.2 j cs x hc hx).later k hs⟩
theorem Items.drop {S : Nat → Prop} {w : World} {css : List (List Value)} {xs : List α} (h : Items R S w css xs) (k : Nat) : Items R S w (css.drop k) (xs.drop k) :=
  ⟨by simp [h.1], fun j cs x hc hx => by rw [List.getElem?_drop] at hc hx; exact h.2 _ cs x hc hx⟩
theorem Items.take {S : Nat → Prop} {w : World} {css : List (List Value)} {xs : List α} (h : Items R S w css xs) (k : Nat) : Items R S w (css.take k) (xs.take k) :=
  ⟨by simp [h.1], fun j cs x hc hx => by
    rw [List.getElem?_take] at hc hx
    split at hc
    · rename_i hj; rw [if_pos hj] at hx; exact h.2 _ cs x hc hx
    · cases hc⟩

/-- The value v is a slice of the elements xs. -/
def SRow (sz : Nat) (R : World → List Value → α → Prop) (S : Nat → Prop) (w : World) (v : Value) (xs : List α) : Prop :=
  ∃ css p c, Chunks sz css ∧ v = .slice p xs.length c ∧ xs.length ≤ c ∧ c ≤ maxLen ∧ Sees w p css.flatten ∧ Items R S w css xs
/-- The value v is a slice of the elements xs, nil or at the head of a block of its own from block B on. -/
def ORow (e sz : Nat) (R : World → List Value → α → Prop) (S : Nat → Prop) (w : World) (B : Nat) (v : Value) (xs : List α) : Prop :=
  ∃ css, Chunks sz css ∧ w.ownsRow B e sz v xs.length css.flatten ∧ Items R (fun k => S k ∧ some k ≠ v.ownBlock) w css xs

theorem SRow.nil (S : Nat → Prop) (w : World) : SRow sz R S w (.slice none 0 0) [] := ⟨[], none, 0, fun _ h => (by simp at h), rfl, Nat.le_refl _, by simp [maxLen], Sees.nil _ _, Items.nil _ _⟩
theorem ORow.nil {e : Nat} (S : Nat → Prop) (w : World) (B : Nat) : ORow e sz R S w B (.slice none 0 0) [] := ⟨[], fun _ h => (by simp at h), World.ownsRow_nil _ _ _ _, Items.nil _ _⟩
theorem SRow.ext {S : Nat → Prop} {w w' : World} {v : Value} {xs : List α} (h : SRow sz R S w v xs) (hx : Ext w w') : SRow sz R S w' v xs := by
  obtain ⟨css, p, c, h1, h2, h3, h4, h5, h6⟩ := h
  exact ⟨css, p, c, h1, h2, h3, h4, h5.ext hx, h6.later (hx.keeps _) fun _ _ h => h⟩
theorem SRow.mono {S T : Nat → Prop} {w : World} {v : Value} {xs : List α} (h : SRow sz R S w v xs) (hs : ∀ k, k < w.heap.size → S k → T k) : SRow sz R T w v xs := by
  obtain ⟨css, p, c, h1, h2, h3, h4, h5, h6⟩ := h
  exact ⟨css, p, c, h1, h2, h3, h4, h5, h6.later (Keeps.refl _ _) hs⟩
theorem SRow.below {B : Nat} {S : Nat → Prop} {w w' : World} {v : Value} {xs : List α} (h : SRow sz R S w v xs) (hB : w.heap.size ≤ B) (hx : Below B w w') : SRow sz R S w' v xs :=
  h.ext (Below.mono hx hB)
theorem ORow.keep {e : Nat} {S : Nat → Prop} {w w' : World} {B : Nat} {v : Value} {xs : List α} (h : ORow e sz R S w B v xs) (hx : Ext w w') : ORow e sz R S w' B v xs := by
  obtain ⟨css, h1, h2, h3⟩ := h
  refine ⟨css, h1, ⟨h2.1, ?_⟩, h3.later (hx.keeps _) fun _ _ h => h⟩
  rcases h2.2 with hn | ⟨g, cap, cur, rfl, hb, hg, r⟩
  · exact .inl hn
  · exact .inr ⟨g, cap, cur, rfl, hb, by rw [hx.block g (Array.getElem?_eq_some_iff.1 hg).1]; exact hg, r⟩
theorem ORow.base {e : Nat} {S : Nat → Prop} {w : World} {B B' : Nat} {v : Value} {xs : List α} (h : ORow e sz R S w B v xs) (hB : B' ≤ B) : ORow e sz R S w B' v xs := by
  obtain ⟨css, h1, h2, h3⟩ := h
  refine ⟨css, h1, ⟨h2.1, ?_⟩, h3⟩
  rcases h2.2 with hn | ⟨g, cap, cur, rfl, hb, r⟩
  · exact .inl hn
  · exact .inr ⟨g, cap, cur, rfl, by omega, r⟩
theorem ORow.mono {e : Nat} {S T : Nat → Prop} {w : World} {B : Nat} {v : Value} {xs : List α} (h : ORow e sz R S w B v xs) (hs : ∀ k, k < w.heap.size → S k → T k) : ORow e sz R T w B v xs := by
  obtain ⟨css, h1, h2, h3⟩ := h
  exact ⟨css, h1, h2, h3.later (Keeps.refl _ _) fun k hk hh => ⟨hs k hk hh.1, hh.2⟩⟩
theorem ORow.view {e : Nat} {S : Nat → Prop} {w : World} {B : Nat} {v : Value} {xs : List α} (h : ORow e sz R S w B v xs) : SRow sz R (fun k => S k ∧ some k ≠ v.ownBlock) w v xs := by
  obtain ⟨css, h1, h2, h3⟩ := h
  have h0 := h2
  rcases h2.2 with ⟨rfl, hn⟩ | ⟨g, cap, cur, rfl, hb, hg, hnc, hcm, hcs, ht⟩
  · have : xs = [] := List.eq_nil_of_length_eq_zero hn
    subst this
    have h6 : css = [] := List.eq_nil_of_length_eq_zero h3.1
    subst h6
    exact SRow.nil _ _
  · refine ⟨css, _, _, h1, rfl, hnc, hcm, fun _ => ⟨g, 0, rfl, fun j u hu => ?_⟩, h3⟩
    have := World.ownsRow.cells h0 (g := g) rfl j u hu
    rwa [add_lit] at this
theorem ORow.own {e : Nat} {S : Nat → Prop} {w : World} {B : Nat} {v : Value} {xs : List α} (h : ORow e sz R S w B v xs) : ∀ k, v.ownBlock = some k → B ≤ k ∧ k < w.heap.size := by
  obtain ⟨css, h1, h2, h3⟩ := h
  exact h2.lt
theorem SRow.drop {S : Nat → Prop} {w : World} {p : Option Addr} {n c : Nat} {xs : List α} (h : SRow sz R S w (.slice p n c) xs) {k : Nat} (hk : k ≤ xs.length) : SRow sz R S w (.slice (cutA sz p c k) (n - k) (c - k)) (xs.drop k) := by
  obtain ⟨css, p', c', h1, h2, h3, h4, h5, h6⟩ := h
  injection h2 with e1 e2 e3
  subst e1; subst e2; subst e3
  refine ⟨css.drop k, _, _, fun cs hcs => h1 cs (List.mem_of_mem_drop hcs), by rw [List.length_drop], by rw [List.length_drop]; omega, by omega, ?_, h6.drop k⟩
  rw [chunks_drop h1]
  exact h5.cut (n := xs.length) (by rw [chunks_length h1]; exact congrArg (· * sz) h6.1) hk h3
theorem SRow.take {S : Nat → Prop} {w : World} {p : Option Addr} {n c : Nat} {xs : List α} (h : SRow sz R S w (.slice p n c) xs) {k c' : Nat} (hk : k ≤ xs.length) (hc' : k ≤ c') (hc : c' ≤ c) : SRow sz R S w (.slice p k c') (xs.take k) := by
  obtain ⟨css, p', c'', h1, h2, h3, h4, h5, h6⟩ := h
  injection h2 with e1 e2 e3
  subst e1; subst e2; subst e3
  refine ⟨css.take k, _, _, fun cs hcs => h1 cs (List.mem_of_mem_take hcs), by rw [List.length_take, Nat.min_eq_left hk], by rw [List.length_take]; omega, by omega, ?_, h6.take k⟩
  rw [chunks_take h1]
  exact h5.take _
theorem SRow.len {S : Nat → Prop} {w : World} {p : Option Addr} {n c : Nat} {xs : List α} (h : SRow sz R S w (.slice p n c) xs) : n = xs.length ∧ xs.length ≤ c ∧ c ≤ maxLen := by
  obtain ⟨css, p', c', h1, h2, h3, h4, _⟩ := h
  injection h2 with e1 e2 e3
  exact ⟨e2, by omega, by omega⟩
theorem SRow.slice {S : Nat → Prop} {w : World} {v : Value} {xs : List α} (h : SRow sz R S w v xs) : ∃ p c, v = .slice p xs.length c ∧ xs.length ≤ c ∧ c ≤ maxLen := by
  obtain ⟨css, p, c, _, h2, h3, h4, _⟩ := h
  exact ⟨p, c, h2, h3, h4⟩
/-- An element's cells. -/
theorem SRow.cells {S : Nat → Prop} {w : World} {p : Option Addr} {n c : Nat} {xs : List α} (h : SRow sz R S w (.slice p n c) xs) (h0 : 0 < sz) {j : Nat} (hj : j < xs.length) :
    ∃ b o cs, p = some ⟨b, o, none⟩ ∧ cs.length = sz ∧ (∀ i u, cs[i]? = some u → w.cell? ⟨b, o + j * sz + i, none⟩ = some u) ∧ Under S (fun w' => R w' cs xs[j]) w := by
  obtain ⟨css, p', c', h1, h2, h3, h4, h5, h6⟩ := h
  injection h2 with e1 e2 e3
  subst e1; subst e2; subst e3
  have hjc : j < css.length := by rw [h6.1]; exact hj
  obtain ⟨b, o, e, hc⟩ := h5 (by
    intro e
    have h9 := chunks_length h1
    rw [e, List.length_nil] at h9
    have h8 : 0 < css.length * sz := Nat.mul_pos (by omega) h0
    omega)
  refine ⟨b, o, css[j], e, (h1 _ (List.getElem_mem hjc)).1, fun i u hu => ?_, h6.2 j _ _ (List.getElem?_eq_getElem hjc) (List.getElem?_eq_getElem hj)⟩
  rw [Nat.add_assoc]
  exact hc _ u (chunks_at h1 (List.getElem?_eq_getElem hjc) hu)

/-- A row takes in what another one has. -/
theorem run_append_items {P : Program} {t e : TypeId} {z : Value} {bytes : Nat} (hT : RowT P t e z sz bytes) (ty : TypeId) {S : Nat → Prop} {w : World} {B : Nat} {vx vy : Value} {xs ys : List α} (hx : ORow e sz R S w B vx xs) (hy : SRow sz R (fun k => S k ∧ some k ≠ vx.ownBlock) w vy ys)
    (h63 : xs.length + ys.length ≤ maxLen) (hby : (xs.length + ys.length) * bytes ≤ 140737488355328) (hB : B ≤ w.heap.size) :
    ∃ v' w', (Builtin.append_ #[t, t] ty #[vx, vy]).run P w = .ok v' w' ∧ ORow e sz R S w' B v' (xs ++ ys) ∧ w.grownBy w' vx.ownBlock ∧ (v'.ownBlock = vx.ownBlock ∨ v'.ownBlock = some w.heap.size) := by
  obtain ⟨css, h1, h2, h3⟩ := hx
  obtain ⟨cys, p, c, k1, rfl, k3, k4, k5, k6⟩ := hy
  obtain ⟨v', w', hr, hown, hg, hb⟩ := run_append_row hT ty h2 (m := ys.length) (c := c) (by rw [chunks_length k1]; exact congrArg (· * sz) k6.1) k5 (chunks_one k1) h63 hby hB
  refine ⟨v', w', hr, ⟨css ++ cys, ?_, ?_, ?_⟩, hg, hb⟩
  · intro cs hcs
    rcases List.mem_append.1 hcs with h | h
    · exact h1 cs h
    · exact k1 cs h
  · rw [List.length_append, List.flatten_append]; exact hown
  · refine (h3.append k6).later ((keeps_grown hg).mono fun k _ h => h.2) fun k hk hh => ⟨hh.1, ?_⟩
    rcases hb with hb | hb
    · rw [hb]; exact hh.2
    · rw [hb]; intro e; cases e; omega
end

section
variable {P : Program} {t e : TypeId} {z : Value} {sz bytes : Nat} {ops : Array Oper} {Q : Exit → Act → World → Prop} {rest : List Oper} {a : Act} {w : World} {dst : Option Tmp} {ty : TypeId} {pos : String} {after : Array Edge} {guard : Option (Nat × Bool)}
theorem st_items {α : Type} {R : World → List Value → α → Prop} (hT : RowT P t e z sz bytes) {S : Nat → Prop} {x y : Operand} {vx vy : Value} {B : Nat} {xs ys : List α} (hx : ORow e sz R S w B vx xs) (hy : SRow sz R (fun k => S k ∧ some k ≠ vx.ownBlock) w vy ys)
    (h : ∀ v' w', ORow e sz R S w' B v' (xs ++ ys) → w.grownBy w' vx.ownBlock → (v'.ownBlock = vx.ownBlock ∨ v'.ownBlock = some w.heap.size) → wpList P ops Q rest (a.put dst v') w')
    (h63 : xs.length + ys.length ≤ maxLen) (hby : (xs.length + ys.length) * bytes ≤ 140737488355328) (hB : B ≤ w.heap.size)
    (hg : Region.wanted ⟨dst, .call { callee := .builtin .append, args := #[x, y], argTypes := #[t, t] }, ty, pos, after, guard⟩ (yielded ops a.tmps) = true := by exact rfl) (ex : a.eval x = vx := by exact rfl) (ey : a.eval y = vy := by exact rfl) :
    wpList P ops Q (⟨dst, .call { callee := .builtin .append, args := #[x, y], argTypes := #[t, t] }, ty, pos, after, guard⟩ :: rest) a w := by
  obtain ⟨v', w', hr, h1, h2, h3⟩ := run_append_items hT ty hx hy h63 hby hB
  exact wpList_run hg (run_op_append rfl ex ey hr) (h v' w' h1 h2 h3)
end
theorem ORow.grown {α : Type} {e sz : Nat} {R : World → List Value → α → Prop} {S : Nat → Prop} {w0 w w' : World} {v : Value} {xs : List α} (h : ORow e sz R S w w0.heap.size v xs) (hx : Ext w0 w) (hg : w.grownBy w' v.ownBlock) : Ext w0 w' := by
  obtain ⟨css, _, h2, _⟩ := h
  exact Below.grown hx hg hx.size fun g e => (h2.lt g e).1
/-- A literal row of one element. -/
theorem SRow.lit1 {α : Type} {e sz : Nat} {R : World → List Value → α → Prop} {S : Nat → Prop} {w : World} {cs : List Value} {x : α} (h1 : cs.length = sz) (h2 : ∀ u ∈ cs, u.oneCell' = true) (h : Under S (fun w' => R w' cs x) w) :
    SRow sz R S (w.alloc (.cells cs.toArray e)) (.slice (some ⟨w.heap.size, 0, none⟩) 1 1) [x] := by
  have hx := Ext.alloc w (.cells cs.toArray e)
  refine ⟨[cs], some ⟨w.heap.size, 0, none⟩, 1, fun c hc => ?_, rfl, Nat.le_refl _, by simp [maxLen], fun _ => ⟨_, _, rfl, fun j u hu => ?_⟩, (Items.one h).later (hx.keeps _) fun _ _ h => h⟩
  · rw [List.mem_singleton] at hc; subst hc; exact ⟨h1, h2⟩
  · rw [Nat.zero_add]
    have : ([cs].flatten)[j]? = cs.toArray[j]? := by simp
    rw [this] at hu
    unfold World.cell?
    rw [heap_alloc_new]
    exact hu
theorem ORow.lit0 {α : Type} {e sz : Nat} {R : World → List Value → α → Prop} (S : Nat → Prop) (w : World) {B : Nat} (hB : B ≤ w.heap.size) : ORow e sz R S (w.alloc (.cells #[] e)) B (.slice (some ⟨w.heap.size, 0, none⟩) 0 0) ([] : List α) :=
  ⟨[], fun _ h => (by simp at h), World.ownsRow_lit w #[] 0 hB (by simp [maxLen]) (by simp), Items.nil _ _⟩

/-! ### Rows of byte rows -/
/-- One cell, that holds a byte row. -/
def RB (w : World) (cs : List Value) (l : List UInt8) : Prop := ∃ v, cs = [v] ∧ BV w v l
abbrev LV (w : World) (v : Value) (ls : List (List UInt8)) : Prop := SRow 1 RB (fun _ => True) w v ls
theorem BV.one {w : World} {v : Value} {l : List UInt8} (h : BV w v l) : v.oneCell' = true := by obtain ⟨p, c, rfl, _⟩ := h; rfl
/-- An element of a row of byte rows. -/
theorem SRow.row {S : Nat → Prop} {w : World} {p : Option Addr} {n c : Nat} {ls : List (List UInt8)} (h : SRow 1 RB S w (.slice p n c) ls) {j : Nat} (hj : j < ls.length) :
    ∃ b o v, p = some ⟨b, o, none⟩ ∧ w.cell? ⟨b, o + j, none⟩ = some v ∧ Under S (fun w' => BV w' v ls[j]) w := by
  obtain ⟨b, o, cs, e, _, hc, hu⟩ := h.cells (by decide) hj
  obtain ⟨v, rfl, hv⟩ := hu.now
  refine ⟨b, o, v, e, by simpa using hc 0 v rfl, hu.imp fun w' hw => ?_⟩
  obtain ⟨v', e', hb⟩ := hw
  cases e'
  exact hb
/-- What holds of a fresh byte row. -/
theorem FB.far_under {w : World} {B : Nat} {v : Value} {l : List UInt8} (h : FB w B v l) {S : Nat → Prop} (hs : ∀ k, B ≤ k → k < w.heap.size → S k) : Under S (fun w' => BV w' v l) w :=
  (h.under.imp fun _ hw => hw.view).mono fun k hk he => hs k (h.lt k he).1 hk

/-! ### Rows that come in -/
section
open Go.ChangeShapes Go.WideShapes
theorem open_row {α : Type} {R : World → List Value → α → Prop} {H : Type} {enc : TypeId × Value → H} {P : Program} {W : World} {held : Bool} {t e : TypeId} {sz fuel : Nat} {cs : List Value} {x : DataW H × List MemPlace} (ht : P.underlying t = some (.slice e)) (hc : P.cellsOf e = sz) (h0 : 0 < sz)
    (hR : ∀ w w' cs x, Keeps (fun _ => True) w w' → R w cs x → R w' cs x)
    (hel : ∀ n cs y, DataW.trod enc P W 0 (fun _ => true) held n e cs = some y → cs.length = sz → (∃ x, R W cs x) ∧ ∀ u ∈ cs, u.oneCell' = true)
    (h : DataW.trod enc P W 0 (fun _ => true) held fuel t cs = some x) : ∃ v xs, cs = [v] ∧ SRow sz R (fun _ => True) W v xs := by
  rcases DataW.trod_slice ht h with ⟨rfl, _⟩ | ⟨a, len, cap, elems, rest, n, _, rfl, rfl, _, hl, hm, hlen, hel2, _, _⟩
  · exact ⟨_, [], rfl, SRow.nil _ _⟩
  · rw [hc] at hel2
    have each : ∀ i, i < len → ∃ cs x, cs.length = sz ∧ (∀ u ∈ cs, u.oneCell' = true) ∧ R W cs x ∧ ∀ j u, cs[j]? = some u → W.cell? ((a.add (i * sz)).add j) = some u := fun i hi => by
      have h1 := hel2 i hi
      rw [List.getElem?_eq_getElem (by omega), Option.bind_eq_some_iff] at h1
      obtain ⟨cs, h2, h3⟩ := h1
      obtain ⟨_, h4, h5⟩ := World.cells?_some h2
      obtain ⟨⟨x, hx⟩, hone⟩ := hel n cs _ h3 h4
      refine ⟨cs, x, h4, hone, hx, fun j u hu => ?_⟩
      have hj : j < sz := by have := (List.getElem?_eq_some_iff.1 hu).1; omega
      have h6 := h5 j hj
      rw [hu] at h6
      exact h6
    have upto : ∀ k, k ≤ len → ∃ (css : List (List Value)) (xs : List α), Chunks sz css ∧ css.length = k ∧ xs.length = k ∧ (∀ (i : Nat) (cs : List Value), css[i]? = some cs → (∃ x, xs[i]? = some x ∧ R W cs x) ∧ ∀ j u, cs[j]? = some u → W.cell? ((a.add (i * sz)).add j) = some u) := fun k => by
      induction k with
      | zero =>
        intro _
        refine ⟨[], ([] : List α), fun _ h => (by simp at h), rfl, rfl, ?_⟩
        intro i cs h
        simp at h
      | succ k ih =>
        intro hk
        obtain ⟨css, xs, h1, h2, h3, h4⟩ := ih (by omega)
        obtain ⟨cs, x, e1, e2, e3, e4⟩ := each k (by omega)
        refine ⟨css ++ [cs], xs ++ [x], ?_, by simp [h2], by simp [h3], ?_⟩
        · intro c hc
          rcases List.mem_append.1 hc with h | h
          · exact h1 c h
          · rw [List.mem_singleton] at h; subst h; exact ⟨e1, e2⟩
        · intro i c hi
          by_cases hik : i < css.length
          · rw [List.getElem?_append_left hik] at hi
            obtain ⟨⟨x', hx', hr⟩, h6⟩ := h4 i c hi
            exact ⟨⟨x', by rw [List.getElem?_append_left (by omega)]; exact hx', hr⟩, h6⟩
          · have hik2 : i = css.length := by
              have := (List.getElem?_eq_some_iff.1 hi).1
              simp at this; omega
            subst hik2
            simp at hi
            subst hi
            rw [h2]
            exact ⟨⟨x, by rw [← h3]; simp, e3⟩, e4⟩
    obtain ⟨css, xs, h1, h2, h3, h4⟩ := upto len (Nat.le_refl _)
    subst h3
    refine ⟨_, xs, rfl, css, some a, cap, h1, rfl, hl, hm, fun hne => ?_, ⟨h2, fun j cs x hc hx w' hw => ?_⟩⟩
    · have hpos : 0 < css.length := by
        rcases css with _ | ⟨c, r⟩
        · exact absurd rfl hne
        · simp
      obtain ⟨b, o, spot⟩ := a
      have hspot : spot = none := by
        have hc0 := (h1 _ (List.getElem_mem hpos)).1
        have := (h4 0 _ (List.getElem?_eq_getElem hpos)).2 0 _ (List.getElem?_eq_getElem (by omega))
        have h7 := World.cell?_spot this
        simpa [Addr.add] using h7
      subst hspot
      refine ⟨b, o, rfl, fun j u hu => ?_⟩
      have hjl : j < css.length * sz := by
        have := (List.getElem?_eq_some_iff.1 hu).1
        rw [chunks_length h1] at this
        exact this
      have hq : j / sz < css.length := Nat.div_lt_of_lt_mul (by rw [Nat.mul_comm]; exact hjl)
      have hm : j % sz < sz := Nat.mod_lt _ h0
      have hcs := (h1 _ (List.getElem_mem hq)).1
      have e1 := chunks_at h1 (List.getElem?_eq_getElem hq) (List.getElem?_eq_getElem (show j % sz < (css[j / sz]).length by omega))
      have e2 : j / sz * sz + j % sz = j := by rw [Nat.mul_comm]; exact Nat.div_add_mod j sz
      rw [e2, hu] at e1
      have e3 := (h4 _ _ (List.getElem?_eq_getElem hq)).2 (j % sz) _ (List.getElem?_eq_getElem (by omega))
      rw [add_lit, add_lit, Nat.add_assoc, e2] at e3
      rw [e3]
      exact e1.symm
    · obtain ⟨⟨x', hx', hr⟩, _⟩ := h4 j cs hc
      rw [hx] at hx'
      cases hx'
      exact hR _ _ _ _ hw hr
end
end Go.Proofs.Ytpejdompanhieaa
