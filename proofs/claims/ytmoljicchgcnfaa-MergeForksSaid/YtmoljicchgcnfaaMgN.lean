/- What New of layer 34 makes. -/
import Derived.Test.YtmoljicchgcnfaaMgD
namespace Go.Proofs.Ytmoljicchgcnfaa
open Go.RowKit

theorem grow_lit1 (S : Nat → Prop) (w : World) (g : Nat) : SRow 1 RG S (w.alloc (.cells #[srcv g] 62)) (.slice (some ⟨w.heap.size, 0, none⟩) 1 1) [g] :=
  SRow.lit1 (cs := [srcv g]) rfl (fun u hu => by rw [List.mem_singleton] at hu; subst hu; rfl) fun w' _ => rfl
theorem getD_at {ls : List (List Bat)} {j : Nat} (h : j < ls.length) : ls.getD j [] = ls[j] := by
  rw [List.getD_eq_getElem?_getD, List.getElem?_eq_getElem h]
  rfl
set_option maxHeartbeats 8000000 in
theorem new_any (v : Value) (ls : List (List Bat)) (w : World) (h : BatsV w v ls) (hn : ls.length ≤ 1000) (hb : ∀ i, i < ls.length → (itemsOf i (ls.getD i [])).length ≤ 100000) :
    Calls Try.prog 14 #[v] w fun e w' => ∃ m hv gs, e = .returned (.pointer (some ⟨m, 0, none⟩)) ∧ Heap w.heap.size w' m hv gs (newH ls) (-1) ∧ Ext w w' := by
  obtain ⟨p, c, rfl, hlc, hcm⟩ := h.slice
  unfold maxLen at hcm
  have hx0 := Ext.alloc w (.cells #[.slice none 0 0, .int .i64 (-1)] 56)
  have h0 : Heap w.heap.size (w.alloc (.cells #[.slice none 0 0, .int .i64 (-1)] 56)) w.heap.size (.slice none 0 0) [] (srcs ls 0) (-1) := by
    refine ⟨heap_alloc_new w _, World.ownsRow_nil _ _ _ _, rfl, ?_, ?_, Nat.le_refl _, ?_, List.nodup_nil, ?_, ?_, ?_⟩
    · intro j g hg; simp at hg
    · intro s hs; simp [srcs] at hs
    · intro g hg; simp at hg
    · intro hg; simp at hg
    · intro e; cases e
    · intro g hg; simp at hg
  go_enter Try.func14, Try.ntmps14
  go_wp2_with fail
  go_loopg [12] (ls.length) (fun k s12 wr => ∃ (j : Nat) (hv : Value) (gs : List Nat), s12 = .int .i64 j ∧ j ≤ ls.length ∧ k = ls.length - j ∧ (srcs ls j).length ≤ j ∧ Heap w.heap.size wr w.heap.size hv gs (srcs ls j) (-1) ∧ Ext w wr)
  case atStart => exact ⟨0, _, _, rfl, Nat.zero_le _, rfl, by simp [srcs], h0, hx0⟩
  case round =>
    obtain ⟨j, hv, gs, rfl, hj, hk, hsl, hh, hx⟩ := hrel
    by_cases hlt : j < ls.length
    case pos =>
      have hi : (j : Int) < (ls.length : Int) := by omega
      obtain ⟨b, o, q, d, rfl, m0, hbv⟩ := bats_at (h.ext hx) hlt
      have I1 := items_any (j : Int) _ ls[j] wr hbv (by have := hb j hlt; rw [getD_at hlt] at this; exact this)
      have hsucc := srcs_succ ls j
      unfold src1 at hsucc
      rw [getD_at hlt] at hsucc
      have cv := hh.box.cell (j := 0) rfl
      obtain ⟨xs, hxs⟩ : ∃ xs, itemsOf (j : Int) ls[j] = xs := ⟨_, rfl⟩
      rw [hxs] at I1 hsucc
      by_cases hemp : xs = []
      · subst hemp
        rw [if_pos (by rfl), List.append_nil] at hsucc
        have HS := Lib.hid hsucc
        clear hsucc hxs
        go_wp2_with (go_at_call 8; refine I1.mono ?_; rintro e w5 ⟨v5, rfl, ho5, hx5⟩
                     obtain ⟨p5, c5, e5, _, _⟩ := (itm_view ho5).slice
                     subst e5)
        go_roundg (ls.length - (j + 1))
        case measure => omega
        case rel => exact ⟨j + 1, hv, gs, by go_num, hlt, rfl, by rw [HS.out]; omega, by rw [HS.out]; exact hh.ext hx5, hx.trans hx5⟩
      · have hpos : 0 < xs.length := List.length_pos_iff.2 hemp
        have hpos2 : (0 : Int) < (xs.length : Int) := by omega
        rw [if_neg (by rw [List.isEmpty_iff]; exact hemp)] at hsucc
        have HS := Lib.hid hsucc
        have HE := Lib.hid hemp
        clear hsucc hxs hemp hpos
        go_wp2_with (first
          | (go_at_call 8; refine I1.mono ?_; rintro e w5 ⟨v5, rfl, ho5, hx5⟩
             obtain ⟨p5, c5, e5, _, _⟩ := (itm_view ho5).slice
             subst e5
             have hh5 := hh.ext hx5
             have cv5 := hx5.cell cv
             have hxa := (Ext.alloc w5 (.cells #[.slice p5 xs.length c5] 59)).trans (Ext.alloc _ (.cells #[srcv w5.heap.size] 62))
             have hrow := (GOwn.row (hh5.ext hxa).row)
             have hlit : SRow 1 RG (fun k => False ∧ some k ≠ hv.ownBlock) ((w5.alloc (.cells #[.slice p5 xs.length c5] 59)).alloc (.cells #[srcv w5.heap.size] 62)) (.slice (some ⟨(w5.alloc (.cells #[.slice p5 xs.length c5] 59)).heap.size, 0, none⟩) 1 1) [w5.heap.size] := grow_lit1 _ _ _
             rw [show (w5.alloc (.cells #[.slice p5 xs.length c5] 59)).heap.size = w5.heap.size + 1 from by simp] at hlit
             have hlg : gs.length + 1 ≤ 1001 := by rw [hh.len]; omega
             have HLG := Lib.hid hlg
             have HWS := Lib.hid ((hx.trans hx5).trans hxa).size
             clear hlg)
          | (at_builtin; refine st_items T.sources hrow hlit ?_ (by have := HLG.out; simp [maxLen]; omega) (by have := HLG.out; simp; omega) HWS.out; intro v7 w7 ho7 hg7 hw7
             have og : ObjAt ((w5.alloc (.cells #[.slice p5 xs.length c5] 59)).alloc (.cells #[srcv w5.heap.size] 62)) w5.heap.size 59 [.slice p5 xs.length c5] := heap_alloc2_old w5 _ _
             have hpush := Heap.push hh (hx5.trans hxa) hx5.size og ((itm_view ho5).ext hxa) HE.out (u := .slice p5 xs.length c5) (l := xs) (fun k e => by have := ho5.own k e; omega) ho7 hg7 hw7
             obtain ⟨p7, d7, e7, _, _⟩ := (ORow.view ho7).slice
             rw [show (gs ++ [w5.heap.size]).length = gs.length + 1 from by simp] at e7
             subst e7
             have ob7 : ObjAt w7 w.heap.size 56 [hv, .int .i64 (-1)] := (hh5.ext hxa).box.kept hg7 (fun e => hh.mv e.symm)
             have c7 := ob7.cell (j := 0) rfl
             have f7 := ob7.free 0
             have HP := Lib.hid hpush
             have hx7 : Ext w w7 := ⟨hg7.os.trans (((hx.trans hx5).trans hxa)).os, hg7.tape.trans (((hx.trans hx5).trans hxa)).tape, hg7.output.trans (((hx.trans hx5).trans hxa)).output, Nat.le_trans ((hx.trans hx5).trans hxa).size hg7.size, fun k hk => (hg7.block k (Nat.lt_of_lt_of_le hk ((hx.trans hx5).trans hxa).size) (fun e => by have := (hh.row.lt k e.symm).1; omega)).trans (((hx.trans hx5).trans hxa).block k hk)⟩
             clear hpush))
        go_roundg (ls.length - (j + 1))
        case measure => omega
        case rel => exact ⟨j + 1, _, _, by go_num, hlt, rfl, by rw [HS.out, List.length_append, List.length_singleton]; omega, by rw [HS.out]; exact HP.out, (Chg.set (X := fun k => k = w.heap.size) w7 ⟨w.heap.size, 0, none⟩ _ rfl).ext hx7 (fun k e => by omega)⟩
    case neg =>
      have hje : j = ls.length := by omega
      subst hje
      have hi : ¬ (ls.length : Int) < (ls.length : Int) := by omega
      obtain ⟨pv, cw, hve, hcw1, hcw2⟩ := hh.shape
      have hl0 : (srcs ls ls.length).length ≤ 1000 := by omega
      have hN : newH ls = buildH ((srcs ls ls.length).length / 2) (srcs ls ls.length) := rfl
      generalize srcs ls ls.length = s0 at *
      have HNN := Lib.hid hN
      clear hN
      subst hve
      have cv := hh.box.cell (j := 0) rfl
      have hdiv : (s0.length : Int).tdiv 2 = ((s0.length / 2 : Nat) : Int) := by rw [Int.tdiv_eq_ediv_of_nonneg (by omega)]; omega
      clear hlt
      go_wp2_with fail
      go_loopg [7] (s0.length / 2) (fun k s7 wi => ∃ (n : Nat) (gs' : List Nat) (hs' : List Src), s7 = .int .i64 ((n : Int) - 1) ∧ k = n ∧ n ≤ s0.length / 2 ∧ Heap w.heap.size wi w.heap.size (.slice pv s0.length cw) gs' hs' (-1) ∧ hs'.length = s0.length ∧ Hid (buildH n hs' = newH ls) ∧ Ext w wi)
      case atStart => exact ⟨s0.length / 2, gs, s0, by rw [show ((s0.length / 2 : Nat) : Int) = (s0.length : Int) / 2 from by omega], rfl, Nat.le_refl _, hh, rfl, Lib.hid HNN.out.symm, hx⟩
      case round =>
        obtain ⟨n, gs', hs', rfl, hk2, hn2, hhi, hlen, HB, hxi⟩ := hrel
        cases n with
        | zero =>
          have hneg : ¬ (0 : Int) ≤ ((0 : Nat) : Int) - 1 := by omega
          go_wp2_with fail
          go_ret
          have hfin := HB.out
          unfold buildH at hfin
          rw [← hfin]
          exact ⟨_, rfl, ⟨_, _, hhi⟩, hxi⟩
        | succ n =>
          have e1 : ((n + 1 : Nat) : Int) - 1 = (n : Int) := by omega
          rw [e1]
          have hge : (0 : Int) ≤ (n : Int) := by omega
          have D1 := down_any w.heap.size w.heap.size _ gs' hs' (-1) n wr hhi (by omega) (by omega)
          have hb2 := HB.out
          unfold buildH at hb2
          have HB2 := Lib.hid hb2
          have hlow := hhi.own_low
          clear hb2
          go_wp2_with (go_at_call 23; refine D1.mono ?_; rintro e w9 ⟨rfl, gs2, hp2, hh2, hx2⟩)
          go_roundg n
          case measure => omega
          case rel => exact ⟨n, gs2, _, by go_num, rfl, by omega, hh2, by rw [downI_length]; exact hlen, HB2, hx2.ext hxi (fun k e => hlow k (.inr (.inl e)))⟩
end Go.Proofs.Ytmoljicchgcnfaa
