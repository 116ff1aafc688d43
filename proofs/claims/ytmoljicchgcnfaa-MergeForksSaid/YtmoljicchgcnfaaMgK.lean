/- The merger of layer 34 in memory: a box, a row of sources, a box for each source. -/
import Derived.Test.YtmoljicchgcnfaaMgS
import Derived.Test.YtmoljicchgcnfaaMgO
namespace Go.Proofs.Ytmoljicchgcnfaa
open Go.RowKit

/-- w' is w but for the blocks of X, and for new ones. -/
structure Chg (X : Nat → Prop) (w w' : World) : Prop where
  os : w'.os = w.os
  tape : w'.tape = w.tape
  output : w'.output = w.output
  size : w.heap.size ≤ w'.heap.size
  block : ∀ k, k < w.heap.size → ¬ X k → w'.heap[k]? = w.heap[k]?
theorem Chg.refl (X : Nat → Prop) (w : World) : Chg X w w := ⟨rfl, rfl, rfl, Nat.le_refl _, fun _ _ _ => rfl⟩
theorem Chg.trans {X : Nat → Prop} {a b c : World} (h : Chg X a b) (k : Chg X b c) : Chg X a c :=
  ⟨k.os.trans h.os, k.tape.trans h.tape, k.output.trans h.output, Nat.le_trans h.size k.size, fun i hi hx => (k.block i (Nat.lt_of_lt_of_le hi h.size) hx).trans (h.block i hi hx)⟩
theorem Ext.chg {X : Nat → Prop} {w w' : World} (h : Ext w w') : Chg X w w' := ⟨h.os, h.tape, h.output, h.size, fun k hk _ => h.block k hk⟩
theorem Chg.mono {X Y : Nat → Prop} {w w' : World} (h : Chg X w w') (hx : ∀ k, k < w.heap.size → X k → Y k) : Chg Y w w' := ⟨h.os, h.tape, h.output, h.size, fun k hk hy => h.block k hk fun x => hy (hx k hk x)⟩
theorem Chg.keeps {X : Nat → Prop} {w w' : World} (h : Chg X w w') : Keeps (fun k => ¬ X k) w w' := ⟨h.size, h.block⟩
theorem Chg.ext {X : Nat → Prop} {w0 w w' : World} (h : Ext w0 w) (k : Chg X w w') (hx : ∀ k, X k → w0.heap.size ≤ k) : Ext w0 w' :=
  ⟨k.os.trans h.os, k.tape.trans h.tape, k.output.trans h.output, Nat.le_trans h.size k.size, fun i hi => (k.block i (Nat.lt_of_lt_of_le hi h.size) (fun x => by have := hx i x; omega)).trans (h.block i hi)⟩
theorem Chg.set {X : Nat → Prop} (w : World) (a : Addr) (u : Value) (hx : X a.block) : Chg X w (w.setCell a u) := by
  have h := grown_set w a u
  exact ⟨h.os, h.tape, h.output, h.size, fun k hk hn => h.block k hk fun e => hn (by rw [Option.some.inj e]; exact hx)⟩
theorem ObjAt.chg {X : Nat → Prop} {w w' : World} {g : Nat} {t : TypeId} {cs : List Value} (h : ObjAt w g t cs) (k : Chg X w w') (hx : ¬ X g) : ObjAt w' g t cs := (k.block g h.lt hx).trans h
theorem itm_chg {X : Nat → Prop} {w w' : World} {u : Value} {l : List Itm} (h : ItmV w u l) (k : Chg X w w') (hx : ∀ b, u.ownBlock = some b → ¬ X b) : ItmV w' u l := by
  obtain ⟨css, p, c, h1, rfl, h3, h4, h5, h6⟩ := h
  refine ⟨css, p, c, h1, rfl, h3, h4, h5.keeps (S := fun k => ¬ X k) (fun a e => hx a.block (by rw [e]; rfl)) k.keeps, h6.1, fun j cs x hc hx' w'' _ => ?_⟩
  exact (h6.2 j cs x hc hx').now
theorem owns_chg {X : Nat → Prop} {w w' : World} {B e sz n : Nat} {v : Value} {xs : List Value} (h : w.ownsRow B e sz v n xs) (k : Chg X w w') (hx : ∀ b, v.ownBlock = some b → ¬ X b) : w'.ownsRow B e sz v n xs := by
  refine ⟨h.1, ?_⟩
  rcases h.2 with hn | ⟨g, cap, cur, rfl, hb, hg, r⟩
  · exact .inl hn
  · exact .inr ⟨g, cap, cur, rfl, hb, by rw [k.block g (Array.getElem?_eq_some_iff.1 hg).1 (hx g rfl)]; exact hg, r⟩

/-! ### Sources -/
abbrev srcv (g : Nat) : Value := .iface 57 (.pointer (some ⟨g, 0, none⟩))
/-- One cell, that holds a source. -/
def RG (_ : World) (cs : List Value) (g : Nat) : Prop := cs = [srcv g]
theorem T.sourceInfo : (Try.prog.info? 62).map (fun i => (i.zero, i.size, i.bytes)) = some (some .nilIface, 1, 16) := by kernel_rfl
theorem T.sources : RowT Try.prog 54 62 .nilIface 1 16 := ⟨Try.underlying54, info_parts T.sourceInfo, rfl, by omega⟩
abbrev GRow (w : World) (B : Nat) (v : Value) (gs : List Nat) : Prop := ORow 62 1 RG (fun _ => False) w B v gs
abbrev GOwn (w : World) (B : Nat) (v : Value) (gs : List Nat) : Prop := w.ownsRow B 62 1 v gs.length (gs.map srcv)
theorem flat_one (gs : List Nat) : (gs.map fun g => [srcv g]).flatten = gs.map srcv := by
  induction gs with
  | nil => rfl
  | cons g r ih => rw [List.map_cons, List.flatten_cons, ih]; rfl
theorem GRow.own {w : World} {B : Nat} {v : Value} {gs : List Nat} (h : GRow w B v gs) : GOwn w B v gs := by
  obtain ⟨css, h1, h2, h3⟩ := h
  have e : css = gs.map fun g => [srcv g] := by
    refine List.ext_getElem? fun j => ?_
    by_cases hj : j < css.length
    · have hj2 : j < gs.length := by rw [← h3.1]; exact hj
      have := (h3.2 j css[j] gs[j] (List.getElem?_eq_getElem hj) (List.getElem?_eq_getElem hj2)).now
      rw [List.getElem?_map, List.getElem?_eq_getElem hj, List.getElem?_eq_getElem hj2]
      exact congrArg some this
    · rw [List.getElem?_eq_none (by omega), List.getElem?_eq_none (by rw [List.length_map, ← h3.1]; omega)]
  subst e
  rw [flat_one] at h2
  exact h2
theorem GOwn.row {w : World} {B : Nat} {v : Value} {gs : List Nat} (h : GOwn w B v gs) : GRow w B v gs := by
  refine ⟨gs.map fun g => [srcv g], ?_, ?_, by simp, ?_⟩
  · intro cs hcs
    obtain ⟨g, _, rfl⟩ := List.mem_map.1 hcs
    exact ⟨rfl, fun u hu => by rw [List.mem_singleton] at hu; subst hu; rfl⟩
  · rw [flat_one]; exact h
  · intro j cs x hc hx w' _
    rw [List.getElem?_map, hx] at hc
    cases hc
    rfl

/-! ### The merger -/
/-- The merger's own blocks. -/
def Own (m : Nat) (v : Value) (gs : List Nat) (k : Nat) : Prop := k = m ∨ v.ownBlock = some k ∨ k ∈ gs
structure Heap (B : Nat) (w : World) (m : Nat) (v : Value) (gs : List Nat) (hs : List Src) (nw : Int) : Prop where
  box : ObjAt w m 56 [v, .int .i64 nw]
  row : GOwn w B v gs
  len : gs.length = hs.length
  each : ∀ (j g : Nat), gs[j]? = some g → ∃ u, ObjAt w g 59 [u] ∧ ItmV w u (at_ hs j) ∧ ∀ k, u.ownBlock = some k → ¬ Own m v gs k
  full : Full hs
  low : B ≤ m
  lows : ∀ g ∈ gs, B ≤ g
  apart : gs.Nodup
  mg : m ∉ gs
  mv : v.ownBlock ≠ some m
  vg : ∀ g ∈ gs, v.ownBlock ≠ some g
section
variable {B : Nat} {w w' : World} {m : Nat} {v : Value} {gs : List Nat} {hs : List Src} {nw : Int}
theorem Heap.own_low (h : Heap B w m v gs hs nw) : ∀ k, Own m v gs k → B ≤ k := by
  rintro k (rfl | e | hk)
  · exact h.low
  · exact (h.row.lt k e).1
  · exact h.lows k hk
theorem Heap.own_lt (h : Heap B w m v gs hs nw) : ∀ k, Own m v gs k → k < w.heap.size := by
  rintro k (rfl | e | hk)
  · exact h.box.lt
  · exact (h.row.lt k e).2
  · obtain ⟨j, hj, rfl⟩ := List.getElem_of_mem hk
    obtain ⟨u, hu, _⟩ := h.each j _ (List.getElem?_eq_getElem hj)
    exact hu.lt
/-- What happens outside leaves it. -/
theorem Heap.chg {X : Nat → Prop} (h : Heap B w m v gs hs nw) (k : Chg X w w') (hx : ∀ b, Own m v gs b → ¬ X b) (hi : ∀ (j g : Nat) (u : Value), gs[j]? = some g → ObjAt w g 59 [u] → ∀ b, u.ownBlock = some b → ¬ X b) : Heap B w' m v gs hs nw := by
  refine ⟨h.box.chg k (hx m (.inl rfl)), owns_chg h.row k (fun b e => hx b (.inr (.inl e))), h.len, ?_, h.full, h.low, h.lows, h.apart, h.mg, h.mv, h.vg⟩
  intro j g hg
  obtain ⟨u, h1, h2, h3⟩ := h.each j g hg
  exact ⟨u, h1.chg k (hx g (.inr (.inr (List.mem_of_getElem? hg)))), itm_chg h2 k (hi j g u hg h1), h3⟩
theorem Heap.ext (h : Heap B w m v gs hs nw) (k : Ext w w') : Heap B w' m v gs hs nw := h.chg (X := fun _ => False) k.chg (fun _ _ h => h) (fun _ _ _ _ _ _ _ h => h)
theorem Heap.shape (h : Heap B w m v gs hs nw) : ∃ p c, v = .slice p hs.length c ∧ hs.length ≤ c ∧ c ≤ maxLen := by
  rcases h.row.2 with ⟨e, hn⟩ | ⟨b, cap, cur, e, hb, hg2, hc, hm, _⟩
  · exact ⟨none, 0, by rw [← h.len, hn]; exact e, by rw [← h.len, hn]; exact Nat.le_refl _, by decide⟩
  · exact ⟨_, cap, by rw [← h.len]; exact e, by rw [← h.len]; exact hc, hm⟩
/-- A source's cell, its box. -/
theorem Heap.src (h : Heap B w m v gs hs nw) {j : Nat} (hj : j < hs.length) : ∃ b c g u, v = .slice (some ⟨b, 0, none⟩) hs.length c ∧ gs[j]? = some g ∧ w.cell? ⟨b, j, none⟩ = some (srcv g) ∧ ObjAt w g 59 [u] ∧ ItmV w u (at_ hs j) ∧ at_ hs j ≠ [] := by
  have hjg : j < gs.length := by rw [h.len]; exact hj
  have hg := List.getElem?_eq_getElem hjg
  obtain ⟨u, h1, h2, h3⟩ := h.each j _ hg
  rcases h.row.2 with ⟨_, hn⟩ | ⟨b, cap, cur, e, hb, hg2, _⟩
  · omega
  · subst e
    refine ⟨b, cap, gs[j], u, by rw [← h.len], hg, ?_, h1, h2, ?_⟩
    · have := World.ownsRow.cells h.row (g := b) rfl j (srcv gs[j]) (by rw [List.getElem?_map, hg]; rfl)
      rwa [add_lit, Nat.zero_add] at this
    · unfold at_
      rw [List.getD_eq_getElem?_getD, List.getElem?_eq_getElem hj]
      exact h.full _ (List.getElem_mem hj)
end

/-! ### Two sources change places -/
def gswap (gs : List Nat) (i k : Nat) : List Nat := (gs.set i (gs.getD k 0)).set k (gs.getD i 0)
theorem gswap_perm (h : List Nat) {i k : Nat} (hi : i < h.length) (hk : k < h.length) : (gswap h i k).Perm h := by
  unfold gswap
  by_cases e : i = k
  · subst e
    rw [List.set_set, List.getD_eq_getElem?_getD, List.getElem?_eq_getElem hi]
    simp
  · have h1 := set_perm 0 (h.getD k 0) h i hi
    have h2 := set_perm 0 (h.getD i 0) (h.set i (h.getD k 0)) k (by rw [List.length_set]; exact hk)
    have e3 : (h.set i (h.getD k 0)).getD k 0 = h.getD k 0 := by
      rw [List.getD_eq_getElem?_getD, List.getElem?_set, if_neg e]
      rfl
    rw [e3] at h2
    exact (h2.trans h1).cons_inv
theorem gswap_at (h : List Nat) {i k : Nat} (hi : i < h.length) (hk : k < h.length) (x : Nat) : (gswap h i k)[x]? = if x = k then h[i]? else if x = i then h[k]? else h[x]? := by
  unfold gswap
  rw [List.getElem?_set, List.length_set]
  by_cases e : x = k
  · subst e
    rw [if_pos rfl, if_pos rfl, if_pos hk, List.getD_eq_getElem?_getD, List.getElem?_eq_getElem hi]
    rfl
  · rw [if_neg (Ne.symm e), if_neg e, List.getElem?_set]
    by_cases e2 : x = i
    · subst e2
      rw [if_pos rfl, if_pos rfl, if_pos hi, List.getD_eq_getElem?_getD, List.getElem?_eq_getElem hk]
      rfl
    · rw [if_neg (Ne.symm e2), if_neg e2]
section
variable {B : Nat} {w w' : World} {m : Nat} {v : Value} {gs : List Nat} {hs : List Src} {nw : Int}
theorem own_perm {gs' : List Nat} (hp : gs'.Perm gs) (k : Nat) : Own m v gs' k ↔ Own m v gs k := by
  unfold Own
  rw [hp.mem_iff]
theorem Heap.swap {b n c i k g1 g2 : Nat} (h : Heap B w m (.slice (some ⟨b, 0, none⟩) n c) gs hs nw) {w2 : World} (hx : Ext (w.setCell ⟨b, i, none⟩ (srcv g2)) w2) (hi : i < hs.length) (hk : k < hs.length) (h1 : gs[i]? = some g1) (h2 : gs[k]? = some g2) :
    Heap B (w2.setCell ⟨b, k, none⟩ (srcv g1)) m (.slice (some ⟨b, 0, none⟩) n c) (gswap gs i k) (swap hs i k) nw := by
  have hig : i < gs.length := by rw [h.len]; exact hi
  have hkg : k < gs.length := by rw [h.len]; exact hk
  have hp := gswap_perm gs hig hkg
  have hx1 : Chg (fun q => q = b) w (w2.setCell ⟨b, k, none⟩ (srcv g1)) := ((Chg.set (X := fun q => q = b) w ⟨b, i, none⟩ _ rfl).trans hx.chg).trans (Chg.set (X := fun q => q = b) _ ⟨b, k, none⟩ _ rfl)
  have e1 : gs.getD i 0 = g1 := by rw [List.getD_eq_getElem?_getD, h1]; rfl
  have e2 : gs.getD k 0 = g2 := by rw [List.getD_eq_getElem?_getD, h2]; rfl
  have hn : n = gs.length := by
    rcases h.row.2 with ⟨e, _⟩ | ⟨_, _, _, e, _⟩
    · cases e
    · injection e
  subst hn
  refine ⟨h.box.chg hx1 (fun e => h.mv (by rw [e]; rfl)), ?_, ?_, ?_, ?_, h.low, ?_, hp.nodup_iff.2 h.apart, fun hm => h.mg (hp.mem_iff.1 hm), h.mv, fun g hg => h.vg g (hp.mem_iff.1 hg)⟩
  · have r1 := (World.ownsRow.stored h.row i (srcv g2)).1
    have r2 := (World.ownsRow.stored (owns_chg r1 (X := fun _ => False) hx.chg (fun _ _ h => h)) k (srcv g1)).1
    unfold GOwn gswap
    rw [e1, e2, List.length_set, List.length_set, List.map_set, List.map_set]
    exact r2
  · rw [swap_length, ← h.len]
    unfold gswap
    rw [List.length_set, List.length_set]
  · intro j g hg
    rw [gswap_at gs hig hkg] at hg
    rw [at_swap hs hi hk]
    have key : ∀ y, gs[y]? = some g → ∃ u, ObjAt (w2.setCell ⟨b, k, none⟩ (srcv g1)) g 59 [u] ∧ ItmV (w2.setCell ⟨b, k, none⟩ (srcv g1)) u (at_ hs y) ∧ ∀ q, u.ownBlock = some q → ¬ Own m (.slice (some ⟨b, 0, none⟩) gs.length c) (gswap gs i k) q := by
      intro y hy
      obtain ⟨u, o1, o2, o3⟩ := h.each y g hy
      refine ⟨u, o1.chg hx1 (fun e => h.vg g (List.mem_of_getElem? hy) (by rw [e]; rfl)), itm_chg o2 hx1 (fun q e1 e2 => o3 q e1 (.inr (.inl (by rw [e2]; rfl)))), fun q e => ?_⟩
      rw [own_perm hp]
      exact o3 q e
    split at hg
    · rename_i e; rw [if_pos e]; exact key i hg
    · rename_i e
      rw [if_neg e]
      split at hg
      · rename_i e2; rw [if_pos e2]; exact key k hg
      · rename_i e2; rw [if_neg e2]; exact key j hg
  · intro s hs'
    exact h.full s ((swap_perm hs hi hk).mem_iff.1 hs')
  · intro g hg
    exact h.lows g (hp.mem_iff.1 hg)
end

/-! ### One source more -/
theorem itm_lt {w : World} {u : Value} {l : List Itm} (h : ItmV w u l) (hl : l ≠ []) : ∀ k, u.ownBlock = some k → k < w.heap.size := by
  intro k e
  obtain ⟨p, c, rfl, _, _⟩ := h.slice
  obtain ⟨b, o, rfl, hat⟩ := itm_at h (j := 0) (List.length_pos_iff.2 hl)
  cases e
  exact World.block_lt_of_cell? w _ hat.c0
section
variable {B : Nat} {w0 w w7 : World} {m g : Nat} {v v' u : Value} {gs : List Nat} {hs : List Src} {l : Src} {nw : Int}
theorem Heap.push (h : Heap B w0 m v gs hs nw) (hx : Ext w0 w) (hg0 : w0.heap.size ≤ g) (og : ObjAt w g 59 [u]) (hu : ItmV w u l) (hl : l ≠ [])
    (hub : ∀ k, u.ownBlock = some k → w0.heap.size ≤ k ∧ k ≠ g) (hr : GRow w7 B v' (gs ++ [g])) (hgr : w.grownBy w7 v.ownBlock) (hv' : v'.ownBlock = v.ownBlock ∨ v'.ownBlock = some w.heap.size) :
    Heap B (w7.setCell ⟨m, 0, none⟩ v') m v' (gs ++ [g]) (hs ++ [l]) nw := by
  have hlt := h.own_lt
  have hmg : m < w0.heap.size := h.box.lt
  have hmlt : m < w.heap.size := Nat.lt_of_lt_of_le hmg hx.size
  have hvm : v'.ownBlock ≠ some m := by
    rcases hv' with e | e
    · rw [e]; exact h.mv
    · rw [e]; intro e2; cases e2; omega
  have hc1 : Chg (fun k => v.ownBlock = some k) w w7 := ⟨hgr.os, hgr.tape, hgr.output, hgr.size, fun k hk hn => hgr.block k hk fun e => hn e.symm⟩
  have hc2 : Chg (fun k => k = m) w7 (w7.setCell ⟨m, 0, none⟩ v') := Chg.set _ _ _ rfl
  have hb7 : ObjAt w7 m 56 [v, .int .i64 nw] := (h.box.ext hx).chg hc1 h.mv
  have hgsz : g < w.heap.size := og.lt
  have hvg : v'.ownBlock ≠ some g := by
    rcases hv' with e | e
    · rw [e]; intro e2; have := hlt g (.inr (.inl e2)); omega
    · rw [e]; intro e2; cases e2; omega
  have hgm : g ≠ m := by omega
  have hmem : ∀ k ∈ gs, k < w0.heap.size := fun k hk => hlt k (.inr (.inr hk))
  have hsrc : ∀ (y : Nat) (x : Value) (xl : Src), ObjAt w y 59 [x] → v.ownBlock ≠ some y → y ≠ m → ItmV w x xl → (∀ k, x.ownBlock = some k → v.ownBlock ≠ some k ∧ k ≠ m) →
      ObjAt (w7.setCell ⟨m, 0, none⟩ v') y 59 [x] ∧ ItmV (w7.setCell ⟨m, 0, none⟩ v') x xl := fun y x xl o1 n1 n2 o2 n3 =>
    ⟨(o1.chg hc1 n1).chg hc2 n2, itm_chg (itm_chg o2 hc1 (fun k e => (n3 k e).1)) hc2 (fun k e => (n3 k e).2)⟩
  refine ⟨hb7.store 0 v', owns_chg hr.own hc2 (fun k e e2 => hvm (by rw [e, e2])), by simp [h.len], ?_, ?_, h.low, ?_, ?_, ?_, hvm, ?_⟩
  · intro j y hy
    by_cases hj : j < gs.length
    · rw [List.getElem?_append_left hj] at hy
      obtain ⟨x, o1, o2, o3⟩ := h.each j y hy
      have hyg : y ∈ gs := List.mem_of_getElem? hy
      have hat : at_ (hs ++ [l]) j = at_ hs j := by
        unfold at_
        rw [List.getD_eq_getElem?_getD, List.getElem?_append_left (by rw [← h.len]; exact hj), ← List.getD_eq_getElem?_getD]
      have hne : at_ hs j ≠ [] := by
        unfold at_
        rw [List.getD_eq_getElem?_getD, List.getElem?_eq_getElem (by rw [← h.len]; exact hj)]
        exact h.full _ (List.getElem_mem _)
      have hxl := itm_lt o2 hne
      obtain ⟨r1, r2⟩ := hsrc y x _ (o1.ext hx) (h.vg y hyg) (fun e => h.mg (e ▸ hyg)) (o2.ext hx) (fun k e => ⟨fun e2 => o3 k e (.inr (.inl e2)), fun e2 => o3 k e (.inl e2)⟩)
      refine ⟨x, r1, by rw [hat]; exact r2, fun k e hown => ?_⟩
      have hkl := hxl k e
      rcases hown with e2 | e2 | e2
      · exact o3 k e (.inl e2)
      · rcases hv' with e3 | e3
        · exact o3 k e (.inr (.inl (e3 ▸ e2)))
        · rw [e3] at e2; cases e2; have := hx.size; omega
      · rcases List.mem_append.1 e2 with e2 | e2
        · exact o3 k e (.inr (.inr e2))
        · rw [List.mem_singleton] at e2; omega
    · rw [List.getElem?_append_right (by omega)] at hy
      have hj2 : j - gs.length = 0 := by
        have := (List.getElem?_eq_some_iff.1 hy).1
        simp at this; omega
      rw [hj2] at hy
      cases hy
      have hat : at_ (hs ++ [l]) j = l := by
        unfold at_
        rw [List.getD_eq_getElem?_getD, List.getElem?_append_right (by rw [← h.len]; omega), ← h.len, hj2]
        rfl
      obtain ⟨r1, r2⟩ := hsrc g u l og (fun e => by have := hlt g (.inr (.inl e)); omega) hgm hu (fun k e => ⟨fun e2 => by have := hlt k (.inr (.inl e2)); have := (hub k e).1; omega, fun e2 => by have := (hub k e).1; omega⟩)
      refine ⟨u, r1, by rw [hat]; exact r2, fun k e hown => ?_⟩
      have hk0 := hub k e
      have hkw := itm_lt hu hl k e
      rcases hown with e2 | e2 | e2
      · omega
      · rcases hv' with e3 | e3
        · have := hlt k (.inr (.inl (e3 ▸ e2))); omega
        · rw [e3] at e2; cases e2; omega
      · rcases List.mem_append.1 e2 with e2 | e2
        · have := hmem k e2; omega
        · rw [List.mem_singleton] at e2; exact hk0.2 e2
  · intro s hs'
    rcases List.mem_append.1 hs' with hs' | hs'
    · exact h.full s hs'
    · rw [List.mem_singleton] at hs'; subst hs'; exact hl
  · intro y hy
    rcases List.mem_append.1 hy with hy | hy
    · exact h.lows y hy
    · rw [List.mem_singleton] at hy; have := h.low; omega
  · rw [List.nodup_append]
    refine ⟨h.apart, by simp, fun a ha b hb e => ?_⟩
    rw [List.mem_singleton] at hb
    have := hmem a ha
    omega
  · intro hm
    rcases List.mem_append.1 hm with hm | hm
    · exact h.mg hm
    · rw [List.mem_singleton] at hm; omega
  · intro y hy
    rcases List.mem_append.1 hy with hy | hy
    · rcases hv' with e3 | e3
      · rw [e3]; exact h.vg y hy
      · rw [e3]; intro e; cases e; have := hmem _ hy; have := hx.size; omega
    · rw [List.mem_singleton] at hy; subst hy; exact hvg
end

/-! ### Where the items lie -/
/-- The sources' items lie in blocks of P. -/
def Tops (P : Nat → Prop) (w : World) (gs : List Nat) : Prop := ∀ g ∈ gs, ∀ u, ObjAt w g 59 [u] → ∀ k, u.ownBlock = some k → P k
theorem obj_one {w : World} {g : Nat} {t : TypeId} {u u' : Value} (h : ObjAt w g t [u]) (h' : ObjAt w g t [u']) : u = u' := by
  have := h.symm.trans h'
  injection this with e
  injection e with e
  simpa using e
theorem Heap.tops {B : Nat} {w : World} {m : Nat} {v : Value} {gs : List Nat} {hs : List Src} {nw : Int} (h : Heap B w m v gs hs nw) : Tops (fun k => k < w.heap.size) w gs := by
  intro g hg u hu k hk
  obtain ⟨j, hj, rfl⟩ := List.getElem_of_mem hg
  obtain ⟨x, o1, o2, _⟩ := h.each j _ (List.getElem?_eq_getElem hj)
  have e := obj_one hu o1
  subst e
  refine itm_lt o2 ?_ k hk
  unfold at_
  rw [List.getD_eq_getElem?_getD, List.getElem?_eq_getElem (by rw [← h.len]; exact hj)]
  exact h.full _ (List.getElem_mem _)
theorem Tops.chg {P X : Nat → Prop} {w w' : World} {gs : List Nat} (h : Tops P w gs) (k : Chg X w w') (hx : ∀ g ∈ gs, ¬ X g) (hl : ∀ g ∈ gs, g < w.heap.size) : Tops P w' gs :=
  fun g hg u hu => h g hg u ((k.block g (hl g hg) (hx g hg)).symm.trans hu)
theorem Tops.ext {P : Nat → Prop} {w w' : World} {gs : List Nat} (h : Tops P w gs) (k : Ext w w') (hl : ∀ g ∈ gs, g < w.heap.size) : Tops P w' gs := h.chg (X := fun _ => False) k.chg (fun _ _ h => h) hl
theorem Tops.sub {P : Nat → Prop} {w : World} {gs gs' : List Nat} (h : Tops P w gs) (hs : ∀ g ∈ gs', g ∈ gs) : Tops P w gs' := fun g hg => h g (hs g hg)
theorem Tops.mono {P P' : Nat → Prop} {w : World} {gs : List Nat} (h : Tops P w gs) (hP : ∀ k, P k → P' k) : Tops P' w gs := fun g hg u hu k hk => hP k (h g hg u hu k hk)
theorem Tops.set {P : Nat → Prop} {w : World} {gs : List Nat} {g : Nat} {u u' : Value} (h : Tops P w gs) (hg : g ∈ gs) (ho : ObjAt w g 59 [u]) (hb : ∀ k, u'.ownBlock = some k → u.ownBlock = some k) (hl : ∀ g ∈ gs, g < w.heap.size) : Tops P (w.setCell ⟨g, 0, none⟩ u') gs := by
  intro y hy x hx k hk
  by_cases e : y = g
  · subst e
    have := obj_one hx (ho.store 0 u')
    subst this
    exact h y hy u ho k (hb k hk)
  · have c := Chg.set (X := fun k => k = g) w ⟨g, 0, none⟩ u' rfl
    exact h y hy x ((c.block y (hl y hy) e).symm.trans hx) k hk
end Go.Proofs.Ytmoljicchgcnfaa
