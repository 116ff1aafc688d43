/- The merger in memory, when an item is taken off. -/
import Derived.Test.YtmoljicchgcnfaaMgN
namespace Go.Proofs.Ytmoljicchgcnfaa
open Go.RowKit

theorem full_drop {h : List Src} (hf : Full h) : Full (dropH h) := fun s hs => full_next hf s ((downI_perm _ _).mem_iff.2 hs)
theorem nodup_at {gs : List Nat} (h : gs.Nodup) {i j y : Nat} (hi : gs[i]? = some y) (hj : gs[j]? = some y) : i = j := by
  obtain ⟨l1, e1⟩ := List.getElem?_eq_some_iff.1 hi
  obtain ⟨l2, e2⟩ := List.getElem?_eq_some_iff.1 hj
  have hp := List.pairwise_iff_getElem.1 (List.nodup_iff_pairwise_ne.1 h)
  rcases Nat.lt_trichotomy i j with hl | hl | hl
  · exact absurd (e1.trans e2.symm) (hp i j l1 l2 hl)
  · exact hl
  · exact absurd (e2.trans e1.symm) (hp j i l2 l1 hl)
theorem owns_take {w : World} {B e n c k : Nat} {p : Option Addr} {xs : List Value} (h : w.ownsRow B e 1 (.slice p n c) n xs) (hp : p ≠ none) (hk : k ≤ n) : w.ownsRow B e 1 (.slice p k c) k (xs.take k) := by
  refine ⟨by rw [List.length_take, h.1]; omega, ?_⟩
  rcases h.2 with ⟨e1, _⟩ | ⟨g, cap, cur, e1, hb, hg, hnc, hcm, hcs, ht⟩
  · injection e1 with e2; exact absurd e2 hp
  · injection e1 with e2 e3 e4
    subst e2; subst e4
    exact .inr ⟨g, c, cur, rfl, hb, hg, by omega, hcm, hcs, by rw [← ht, List.take_take, Nat.min_eq_left (by omega), Nat.mul_one]⟩
section
variable {B : Nat} {w w2 w4 : World} {m g : Nat} {v u : Value} {gs : List Nat} {hs : List Src} {nw : Int}
theorem Heap.newer (h : Heap B w m v gs hs nw) (n' : Int) : Heap B (w.setCell ⟨m, 1, none⟩ (.int .i64 n')) m v gs hs n' := by
  have hx : Chg (fun k => k = m) w (w.setCell ⟨m, 1, none⟩ (.int .i64 n')) := Chg.set _ _ _ rfl
  have hb := h.box.store 1 (.int .i64 n')
  refine ⟨hb, owns_chg h.row hx (fun k e e2 => h.mv (by rw [e, e2])), h.len, ?_, h.full, h.low, h.lows, h.apart, h.mg, h.mv, h.vg⟩
  intro j y hy
  obtain ⟨x, o1, o2, o3⟩ := h.each j y hy
  exact ⟨x, o1.chg hx (fun e => h.mg (e ▸ List.mem_of_getElem? hy)), itm_chg o2 hx (fun k e e2 => o3 k e (.inl e2)), o3⟩
theorem Heap.shorter {t : Src} (h : Heap B w m v gs hs nw) (hg : gs[0]? = some g) (hu : ItmV w u t) (ht : t ≠ []) (hub : ∀ k, u.ownBlock = some k → ¬ Own m v gs k) : Heap B (w.setCell ⟨g, 0, none⟩ u) m v gs (hs.set 0 t) nw := by
  have hgm : g ∈ gs := List.mem_of_getElem? hg
  have hx : Chg (fun k => k = g) w (w.setCell ⟨g, 0, none⟩ u) := Chg.set _ _ _ rfl
  have h0 : 0 < hs.length := by have := (List.getElem?_eq_some_iff.1 hg).1; rw [h.len] at this; exact this
  refine ⟨h.box.chg hx (fun e => h.mg (e ▸ hgm)), owns_chg h.row hx (fun k e e2 => h.vg g hgm (by rw [e, e2])), by rw [List.length_set]; exact h.len, ?_, ?_, h.low, h.lows, h.apart, h.mg, h.mv, h.vg⟩
  · intro j y hy
    obtain ⟨x, o1, o2, o3⟩ := h.each j y hy
    by_cases hj : j = 0
    · subst hj
      rw [hg] at hy
      cases hy
      have hat : at_ (hs.set 0 t) 0 = t := by
        unfold at_
        rw [List.getD_eq_getElem?_getD, List.getElem?_set, if_pos rfl, if_pos h0]
        rfl
      exact ⟨u, o1.store 0 u, by rw [hat]; exact itm_chg hu hx (fun k e e2 => hub k e (.inr (.inr (e2 ▸ hgm)))), hub⟩
    · have hne : y ≠ g := by
        intro e
        subst e
        exact hj (nodup_at h.apart hy hg)
      have hat : at_ (hs.set 0 t) j = at_ hs j := by
        unfold at_
        rw [List.getD_eq_getElem?_getD, List.getElem?_set, if_neg (Ne.symm hj), ← List.getD_eq_getElem?_getD]
      exact ⟨x, o1.chg hx hne, by rw [hat]; exact itm_chg o2 hx (fun k e e2 => o3 k e (.inr (.inr (e2 ▸ hgm)))), o3⟩
  · intro s hs'
    rcases List.mem_or_eq_of_mem_set hs' with hs' | hs'
    · exact h.full s hs'
    · rw [hs']; exact ht
theorem own_sub {b n n' c g' : Nat} {gs : List Nat} (hg' : g' ∈ gs) : ∀ k, Own m (.slice (some ⟨b, 0, none⟩) n' c) ((gs.set 0 g').take n) k → Own m (.slice (some ⟨b, 0, none⟩) (n + 1) c) gs k := by
  rintro k (e | e | e)
  · exact .inl e
  · exact .inr (.inl e)
  · have := List.mem_of_mem_take e
    rcases List.mem_or_eq_of_mem_set this with h | h
    · exact .inr (.inr h)
    · rw [h]; exact .inr (.inr hg')
theorem Heap.fewer {b n c g' : Nat} (h : Heap B w m (.slice (some ⟨b, 0, none⟩) (n + 1) c) gs hs nw) (hg : gs[0]? = some g) (hg' : gs[n]? = some g') (hx2 : Ext (w.setCell ⟨g, 0, none⟩ u) w2) (hx4 : Ext (w2.setCell ⟨b, 0, none⟩ (srcv g')) w4) (hn : hs.length = n + 1) (hd : dropH hs = (hs.set 0 (at_ hs n)).take n) :
    Heap B (w4.setCell ⟨m, 0, none⟩ (.slice (some ⟨b, 0, none⟩) n c)) m (.slice (some ⟨b, 0, none⟩) n c) ((gs.set 0 g').take n) (dropH hs) nw := by
  have hgm : g ∈ gs := List.mem_of_getElem? hg
  have hgm' : g' ∈ gs := List.mem_of_getElem? hg'
  have hlg : gs.length = n + 1 := h.len.trans hn
  have hbg : b ≠ g := fun e => h.vg g hgm (by rw [e]; rfl)
  have hbm : b ≠ m := fun e => h.mv (by rw [e]; rfl)
  have hgne : g ≠ m := fun e => h.mg (e ▸ hgm)
  have c1 : Chg (fun k => k = g) w w2 := (Chg.set (X := fun k => k = g) _ _ _ rfl).trans hx2.chg
  have c2 : Chg (fun k => k = b) w2 w4 := (Chg.set (X := fun k => k = b) _ _ _ rfl).trans hx4.chg
  have c3 : Chg (fun k => k = m) w4 (w4.setCell ⟨m, 0, none⟩ (.slice (some ⟨b, 0, none⟩) n c)) := Chg.set _ _ _ rfl
  have hall : ∀ (y : Nat) (t : TypeId) (cs : List Value), ObjAt w y t cs → y ≠ g → y ≠ b → y ≠ m → ObjAt (w4.setCell ⟨m, 0, none⟩ (.slice (some ⟨b, 0, none⟩) n c)) y t cs := fun y t cs o n1 n2 n3 => ((o.chg c1 n1).chg c2 n2).chg c3 n3
  have hix : ∀ j y, ((gs.set 0 g').take n)[j]? = some y → ∃ i, gs[i]? = some y ∧ i ≠ 0 ∧ at_ ((hs.set 0 (at_ hs n)).take n) j = at_ hs i := by
    intro j y hy
    rw [List.getElem?_take] at hy
    split at hy
    · rename_i hj
      rw [List.getElem?_set] at hy
      by_cases h0 : 0 = j
      · subst h0
        rw [if_pos rfl, if_pos (by omega)] at hy
        cases hy
        refine ⟨n, hg', by omega, ?_⟩
        unfold at_
        rw [List.getD_eq_getElem?_getD, List.getElem?_take, if_pos hj, List.getElem?_set, if_pos rfl, if_pos (by omega)]
        rfl
      · rw [if_neg h0] at hy
        refine ⟨j, hy, fun e => h0 e.symm, ?_⟩
        unfold at_
        rw [List.getD_eq_getElem?_getD, List.getElem?_take, if_pos hj, List.getElem?_set, if_neg h0, ← List.getD_eq_getElem?_getD]
    · cases hy
  have hne : ∀ i y, gs[i]? = some y → i ≠ 0 → y ≠ g := by
    intro i y hy hi e
    subst e
    exact hi (nodup_at h.apart hy hg)
  have hsub := fun k => own_sub (m := m) (b := b) (n := n) (n' := n) (c := c) hgm' k
  have hmemt : ∀ y, y ∈ (gs.set 0 g').take n → y ∈ gs := by
    intro y hy
    rcases List.mem_or_eq_of_mem_set (List.mem_of_mem_take hy) with hh | hh
    · exact hh
    · rw [hh]; exact hgm'
  refine ⟨?_, ?_, ?_, ?_, full_drop h.full, h.low, fun y hy => h.lows y (hmemt y hy), ?_, fun e => h.mg (hmemt m e), h.mv, fun y hy => h.vg y (hmemt y hy)⟩
  · exact ((h.box.chg c1 (fun e => hgne e.symm)).chg c2 (fun e => hbm e.symm)).store 0 _
  · have r0 := h.row
    unfold GOwn at r0
    rw [hlg] at r0
    have r1 := owns_chg r0 c1 (fun k e e2 => hbg (by cases e; exact e2))
    have r2 := owns_chg (World.ownsRow.stored r1 0 (srcv g')).1 (X := fun _ => False) hx4.chg (fun _ _ h => h)
    have r3 := owns_chg r2 c3 (fun k e e2 => hbm (by cases e; exact e2))
    have r4 := owns_take r3 (by simp) (Nat.le_succ n)
    unfold GOwn
    have e1 : ((gs.set 0 g').take n).length = n := by rw [List.length_take, List.length_set]; omega
    rw [e1, List.map_take, List.map_set]
    exact r4
  · rw [hd, List.length_take, List.length_take, List.length_set, List.length_set, h.len]
  · intro j y hy
    obtain ⟨i, hi, hi0, hat⟩ := hix j y hy
    obtain ⟨x, o1, o2, o3⟩ := h.each i y hi
    have hym : y ∈ gs := List.mem_of_getElem? hi
    refine ⟨x, hall y _ _ o1 (hne i y hi hi0) (fun e => h.vg y hym (by rw [e]; rfl)) (fun e => h.mg (e ▸ hym)), ?_, fun k e hk => o3 k e (hsub k hk)⟩
    rw [hd, hat]
    exact itm_chg (itm_chg (itm_chg o2 c1 (fun k e e2 => o3 k e (.inr (.inr (e2 ▸ hgm))))) c2 (fun k e e2 => o3 k e (.inr (.inl (by rw [e2]; rfl))))) c3 (fun k e e2 => o3 k e (.inl e2))
  · rw [List.nodup_iff_pairwise_ne, List.pairwise_iff_getElem]
    intro i j hi hj hij e
    rw [List.length_take, List.length_set] at hi hj
    rw [List.getElem_take, List.getElem_take, List.getElem_set, List.getElem_set] at e
    rw [if_neg (show ¬ 0 = j by omega)] at e
    by_cases h0 : 0 = i
    · rw [if_pos h0] at e
      have := nodup_at h.apart hg' (List.getElem?_eq_some_iff.2 ⟨by omega, e.symm⟩)
      omega
    · rw [if_neg h0] at e
      have := nodup_at h.apart (i := i) (j := j) (List.getElem?_eq_some_iff.2 ⟨by omega, rfl⟩) (List.getElem?_eq_some_iff.2 ⟨by omega, e.symm⟩)
      omega
end
end Go.Proofs.Ytmoljicchgcnfaa
