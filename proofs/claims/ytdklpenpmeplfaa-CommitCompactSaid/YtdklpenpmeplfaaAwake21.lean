/- 'awake' of layer 21's statements answers true. -/
import Derived.Test.YtdklpenpmeplfaaCmV
namespace Go.Proofs.Ytdklpenpmeplfaa
open Go.RowKit

def cA : Cm := ⟨[103], [116], 1, 64⟩
def rA : Rec := ⟨0, 5, true, [2, 103, 2, 116, 1], false, [128, 1]⟩
def xA : Rec := ⟨0, 6, true, [2, 103, 2, 116, 1], true, []⟩
theorem lay_one : layC cA 5 false = (rA, 0) := by kernel_rfl
theorem lay_two : layC cA 6 true = (xA, 0) := by kernel_rfl
theorem get_one : getC rA = (cA, 0) := by kernel_rfl
theorem play_one : playB [] [rA] = [cA] := by kernel_rfl
theorem play_two : playB [cA] [xA] = [] := by kernel_rfl
theorem find_one : findC [cA] ⟨[103], [116], 1, 0⟩ = (64, true) := by kernel_rfl
theorem same_two : sameC [cA] [] = false := by kernel_rfl
theorem check_one : checkC cA = 0 := by kernel_rfl
theorem eq_one : eqC cA cA = true := eqC_refl _
theorem put1w (w : World) : Calls Try.prog 10 #[(.agg #[.string ⟨#[103]⟩, .string ⟨#[116]⟩, .int .i64 1, .int .i64 64]), .int .i64 5] w fun e w' => e = .returned (.tuple #[(.agg #[.int .i64 0, .int .i64 5, .bool true, .string ⟨#[2, 103, 2, 116, 1]⟩, .bool false, .string ⟨#[128, 1]⟩]), .int .i64 0]) ∧ Ext w w' := by
  have := cput_any cA 5 w
  rw [lay_one] at this
  exact this
theorem gone1w (w : World) : Calls Try.prog 12 #[(.agg #[.string ⟨#[103]⟩, .string ⟨#[116]⟩, .int .i64 1, .int .i64 64]), .int .i64 6] w fun e w' => e = .returned (.tuple #[(.agg #[.int .i64 0, .int .i64 6, .bool true, .string ⟨#[2, 103, 2, 116, 1]⟩, .bool true, .string ⟨#[]⟩]), .int .i64 0]) ∧ Ext w w' := by
  have := gone_any cA 6 w
  rw [lay_two] at this
  exact this
theorem get1w (w : World) : Calls Try.prog 14 #[(.agg #[.int .i64 0, .int .i64 5, .bool true, .string ⟨#[2, 103, 2, 116, 1]⟩, .bool false, .string ⟨#[128, 1]⟩])] w fun e w' => e = .returned (.tuple #[(.agg #[.string ⟨#[103]⟩, .string ⟨#[116]⟩, .int .i64 1, .int .i64 64]), .int .i64 0]) ∧ Ext w w' := by
  have := cget_any rA w (by simp [rA]) (by simp [rA])
  rw [get_one] at this
  exact this
theorem play1w (v : Value) (l : List Cm) (o0 o1 o2 o3 o4 : Int) (r : Rec) (vr : Value) (w : World) (h : CmV w v l) (hr : RecV w vr [r]) (hl : l.length ≤ 900) (hk : r.key.length ≤ 1000) (hv : r.value.length ≤ 1000) :
    Calls Try.prog 21 #[v, .agg #[.int .i64 o0, .int .i64 o1, .int .i64 o2, .int .i64 o3, .int .i64 o4, vr]] w fun e w' => ∃ p c, e = .returned (.slice p (playB l [r]).length c) ∧ (playB l [r]).length ≤ c ∧ c ≤ maxLen ∧ CmV w' (.slice p (playB l [r]).length c) (playB l [r]) ∧ Ext w w' := by
  refine (play_any v l ⟨o0, o1, o2, o3, o4, [r]⟩ vr w h hr (by simp; omega) (fun x hx => by rw [List.mem_singleton] at hx; subst hx; exact ⟨hk, hv⟩)).mono ?_
  rintro e w' ⟨v', rfl, ho, hx⟩
  have hv' := CmO.view ho
  obtain ⟨p, c, rfl, h1, h2⟩ := hv'.slice
  exact ⟨p, c, rfl, h1, h2, hv', hx⟩
theorem rec_lit1 (r : Rec) (w : World) (hk : r.key.length ≤ maxLen) (hv : r.value.length ≤ maxLen) : RecV (w.alloc (.cells (recCells r).toArray 25)) (.slice (some ⟨w.heap.size, 0, none⟩) 1 1) [r] :=
  SRow.lit1 (cs := recCells r) rfl (rec_one r) (fun _ _ => ⟨rfl, hk, hv⟩)
theorem find1w (v : Value) (w : World) (h : CmV w v [cA]) : Calls Try.prog 22 #[v, .string ⟨#[103]⟩, .string ⟨#[116]⟩, .int .i64 1] w fun e w' => e = .returned (.tuple #[.int .i64 64, .bool true]) ∧ Ext w w' := by
  have := cfind_any v [cA] ⟨[103], [116], 1, 0⟩ w h rfl
  rw [find_one] at this
  exact this
theorem same1w (v : Value) (w : World) (h : CmV w v [cA]) : Calls Try.prog 27 #[v, v] w fun e w' => e = .returned (.bool true) ∧ Ext w w' := by
  have := csame_any v v [cA] [cA] w h h
  rw [sameC_refl] at this
  exact this
theorem same2w (v : Value) (w : World) (h : CmV w v [cA]) : Calls Try.prog 27 #[v, .slice none 0 0] w fun e w' => e = .returned (.bool false) ∧ Ext w w' := by
  have := csame_any v (.slice none 0 0) [cA] [] w h (SRow.nil _ _)
  rw [same_two] at this
  exact this
theorem check1w (w : World) : Calls Try.prog 17 #[(.agg #[.string ⟨#[103]⟩, .string ⟨#[116]⟩, .int .i64 1, .int .i64 64])] w fun e w' => e = .returned (.int .i64 0) ∧ Ext w w' := by
  have := check_any cA w
  rw [check_one] at this
  exact this
theorem play11w (r0 : World) (w : World) (h : w = r0.alloc (.cells #[.int .i64 0, .int .i64 5, .bool true, .string ⟨#[2, 103, 2, 116, 1]⟩, .bool false, .string ⟨#[128, 1]⟩] 25)) :
    Calls Try.prog 21 #[.slice none 0 0, .agg #[.int .i64 0, .int .i64 0, .int .i64 0, .int .i64 0, .int .i64 0, .slice (some ⟨r0.heap.size, 0, none⟩) 1 1]] w fun e w' => ∃ p c, e = .returned (.slice p 1 c) ∧ CmV w' (.slice p 1 c) [cA] ∧ Ext w w' := by
  subst h
  refine (play1w (.slice none 0 0) [] 0 0 0 0 0 rA _ _ (SRow.nil _ _) (rec_lit1 rA r0 (by simp [rA, maxLen]) (by simp [rA, maxLen])) (by simp) (by simp [rA]) (by simp [rA])).mono ?_
  rw [play_one]
  rintro e w' ⟨p, c, rfl, _, _, h, hx⟩
  exact ⟨p, c, rfl, h, hx⟩
theorem play12w (v : Value) (r0 : World) (w : World) (h : w = r0.alloc (.cells #[.int .i64 0, .int .i64 6, .bool true, .string ⟨#[2, 103, 2, 116, 1]⟩, .bool true, .string ⟨#[]⟩] 25)) (hv : CmV w v [cA]) :
    Calls Try.prog 21 #[v, .agg #[.int .i64 0, .int .i64 0, .int .i64 0, .int .i64 0, .int .i64 0, .slice (some ⟨r0.heap.size, 0, none⟩) 1 1]] w fun e w' => ∃ p c, e = .returned (.slice p 0 c) ∧ Ext w w' := by
  subst h
  refine (play1w v [cA] 0 0 0 0 0 xA _ _ hv (rec_lit1 xA r0 (by simp [xA, maxLen]) (by simp [xA, maxLen])) (by simp) (by simp [xA]) (by simp [xA])).mono ?_
  rw [play_two]
  rintro e w' ⟨p, c, rfl, _, _, h, hx⟩
  exact ⟨p, c, rfl, hx⟩
set_option maxRecDepth 20000 in
set_option maxHeartbeats 600000 in
theorem awake_any (w : World) :
    Calls Try.prog 9 #[] w fun e w' => e = .returned (.bool true) ∧ Ext w w' := by
  have hx0 := Ext.alloc w (.cells #[.string ⟨#[103]⟩, .string ⟨#[116]⟩, .int .i64 1, .int .i64 64] 33)
  have oc : ObjAt (w.alloc (.cells #[.string ⟨#[103]⟩, .string ⟨#[116]⟩, .int .i64 1, .int .i64 64] 33)) w.heap.size 33 (cmCells cA) := heap_alloc_new w _
  go_enter Try.func9, Try.ntmps9
  repeat' (first
    | ((with_reducible show wpList _ _ _ (List.append _ _) _ _); show wpList _ _ _ (_ :: _) _ _)
    | (go_big_may; first
        | (go_at_call 10; refine (put1w _).mono ?_; rintro e w1 ⟨rfl, hx1⟩
           have hxa1 := Ext.alloc w1 (.cells #[.int .i64 0, .int .i64 5, .bool true, .string ⟨#[2, 103, 2, 116, 1]⟩, .bool false, .string ⟨#[128, 1]⟩] 25)
           have or : ObjAt (w1.alloc (.cells #[.int .i64 0, .int .i64 5, .bool true, .string ⟨#[2, 103, 2, 116, 1]⟩, .bool false, .string ⟨#[128, 1]⟩] 25)) w1.heap.size 25 (recCells rA) := heap_alloc_new w1 _
           have oc2 := oc.ext (hx1.trans hxa1)
           have r0 : _ = some (Value.int .i64 0) := or.cell (j := 0) rfl
           have r1 : _ = some (Value.int .i64 5) := or.cell (j := 1) rfl
           have r2 : _ = some (Value.bool true) := or.cell (j := 2) rfl
           have r3 : _ = some (Value.string ⟨#[2, 103, 2, 116, 1]⟩) := or.cell (j := 3) rfl
           have r4 : _ = some (Value.bool false) := or.cell (j := 4) rfl
           have r5 : _ = some (Value.string ⟨#[128, 1]⟩) := or.cell (j := 5) rfl)
        | (go_at_call 14; refine (get1w _).mono ?_; rintro e w2 ⟨rfl, hx2⟩
           have hxa2 := Ext.alloc w2 (.cells #[.string ⟨#[103]⟩, .string ⟨#[116]⟩, .int .i64 1, .int .i64 64] 33)
           have od : ObjAt (w2.alloc (.cells #[.string ⟨#[103]⟩, .string ⟨#[116]⟩, .int .i64 1, .int .i64 64] 33)) w2.heap.size 33 (cmCells cA) := heap_alloc_new w2 _
           have oc3 := oc2.ext (hx2.trans hxa2)
           have or3 := or.ext (hx2.trans hxa2)
           have c0 : _ = some (Value.string ⟨#[103]⟩) := oc3.cell (j := 0) rfl
           have c1 : _ = some (Value.string ⟨#[116]⟩) := oc3.cell (j := 1) rfl
           have c2 : _ = some (Value.int .i64 1) := oc3.cell (j := 2) rfl
           have c3 : _ = some (Value.int .i64 64) := oc3.cell (j := 3) rfl)
        | (go_at_call 12; refine (gone1w _).mono ?_; rintro e w3 ⟨rfl, hx3⟩
           have hxa3 := Ext.alloc w3 (.cells #[.int .i64 0, .int .i64 6, .bool true, .string ⟨#[2, 103, 2, 116, 1]⟩, .bool true, .string ⟨#[]⟩] 25)
           have ox : ObjAt (w3.alloc (.cells #[.int .i64 0, .int .i64 6, .bool true, .string ⟨#[2, 103, 2, 116, 1]⟩, .bool true, .string ⟨#[]⟩] 25)) w3.heap.size 25 (recCells xA) := heap_alloc_new w3 _
           have oc4 := oc3.ext (hx3.trans hxa3)
           have or4 := or3.ext (hx3.trans hxa3)
           have od4 := od.ext (hx3.trans hxa3)
           have s0 : _ = some (Value.int .i64 0) := or4.cell (j := 0) rfl
           have s1 : _ = some (Value.int .i64 5) := or4.cell (j := 1) rfl
           have s2 : _ = some (Value.bool true) := or4.cell (j := 2) rfl
           have s3 : _ = some (Value.string ⟨#[2, 103, 2, 116, 1]⟩) := or4.cell (j := 3) rfl
           have s4 : _ = some (Value.bool false) := or4.cell (j := 4) rfl
           have s5 : _ = some (Value.string ⟨#[128, 1]⟩) := or4.cell (j := 5) rfl
           obtain ⟨w4, hw4⟩ : ∃ w4, w4 = w3.alloc (.cells #[.int .i64 0, .int .i64 6, .bool true, .string ⟨#[2, 103, 2, 116, 1]⟩, .bool true, .string ⟨#[]⟩] 25) := ⟨_, rfl⟩
           have PL := play11w w4 _ rfl
           have hxl := Ext.alloc w4 (.cells #[.int .i64 0, .int .i64 5, .bool true, .string ⟨#[2, 103, 2, 116, 1]⟩, .bool false, .string ⟨#[128, 1]⟩] 25)
           rw [hw4] at PL hxl
           simp only [World.size_alloc] at PL
           have HXL := Lib.hid hxl
           clear hw4 hxl)
        | (go_at_call 21; have hq := hx7; refine (play12w _ _ _ rfl ((((hT.ext hx5).ext hx6).ext hx7).ext (Ext.alloc _ _))).mono ?_; rintro e w8 ⟨p8, c8, rfl, hx8⟩
           have oc8 := (((oc4.ext HXP.out).ext ((hx5.trans hx6).trans hx7)).ext (Ext.alloc _ (.cells #[.int .i64 0, .int .i64 6, .bool true, .string ⟨#[2, 103, 2, 116, 1]⟩, .bool true, .string ⟨#[]⟩] 25))).ext hx8
           have d0 : _ = some (Value.string ⟨#[103]⟩) := oc8.cell (j := 0) rfl
           have d1 : _ = some (Value.string ⟨#[116]⟩) := oc8.cell (j := 1) rfl
           have d2 : _ = some (Value.int .i64 1) := oc8.cell (j := 2) rfl
           have d3 : _ = some (Value.int .i64 64) := oc8.cell (j := 3) rfl)
        | (go_at_call 21; refine PL.mono ?_; rintro e w4 ⟨p4, c4, rfl, hT, hx4⟩
           have HXP := Lib.hid (HXL.out.trans hx4))
        | (go_at_call 22; refine (find1w _ _ hT).mono ?_; rintro e w5 ⟨rfl, hx5⟩
           have or5 := or4.ext (HXP.out.trans hx5)
           have od5 := od4.ext (HXP.out.trans hx5)
           have oc5 := oc4.ext (HXP.out.trans hx5)
           have ox5 := ox.ext (HXP.out.trans hx5)
           have t1 : _ = some (Value.int .i64 5) := or5.cell (j := 1) rfl
           have t2 : _ = some (Value.bool true) := or5.cell (j := 2) rfl
           have t3 : _ = some (Value.string ⟨#[2, 103, 2, 116, 1]⟩) := or5.cell (j := 3) rfl
           have t5 : _ = some (Value.string ⟨#[128, 1]⟩) := or5.cell (j := 5) rfl
           have g0 : _ = some (Value.string ⟨#[103]⟩) := od5.cell (j := 0) rfl
           have g1 : _ = some (Value.string ⟨#[116]⟩) := od5.cell (j := 1) rfl
           have g2 : _ = some (Value.int .i64 1) := od5.cell (j := 2) rfl
           have g3 : _ = some (Value.int .i64 64) := od5.cell (j := 3) rfl
           have h0 : _ = some (Value.string ⟨#[103]⟩) := oc5.cell (j := 0) rfl
           have h1 : _ = some (Value.string ⟨#[116]⟩) := oc5.cell (j := 1) rfl
           have h2 : _ = some (Value.int .i64 1) := oc5.cell (j := 2) rfl
           have h3 : _ = some (Value.int .i64 64) := oc5.cell (j := 3) rfl
           have u4 : _ = some (Value.bool true) := ox5.cell (j := 4) rfl)
        | ((with_reducible show wpList _ _ _ (Oper.mk _ (Op.binOp BinOp.eql 33 _ _ _) _ _ _ _ :: _) _ _); refine wpList_run rfl (run_eqlCm rfl (c := cA) (d := cA) rfl rfl _) ?_; rw [eq_one])
        | (go_at_call 27; have hq := hx6; refine (same2w _ _ ((hT.ext hx5).ext hx6)).mono ?_; rintro e w7 ⟨rfl, hx7⟩
           have ox7 := ox5.ext (hx6.trans hx7)
           have x0 : _ = some (Value.int .i64 0) := ox7.cell (j := 0) rfl
           have x1 : _ = some (Value.int .i64 6) := ox7.cell (j := 1) rfl
           have x2 : _ = some (Value.bool true) := ox7.cell (j := 2) rfl
           have x3 : _ = some (Value.string ⟨#[2, 103, 2, 116, 1]⟩) := ox7.cell (j := 3) rfl
           have x4 : _ = some (Value.bool true) := ox7.cell (j := 4) rfl
           have x5 : _ = some (Value.string ⟨#[]⟩) := ox7.cell (j := 5) rfl)
        | (go_at_call 27; refine (same1w _ _ (hT.ext hx5)).mono ?_; rintro e w6 ⟨rfl, hx6⟩)
        | (go_at_call 17; refine (check1w _).mono ?_; rintro e w9 ⟨rfl, hx9⟩))
    | go_values | go_skip | go_guarded | go_step | go_upon | go_back | (simp only [Int.not_lt, Int.not_le] at *; go_simp) | (go_values <;> (try go_simp)) | (go_ite <;> go_prune <;> (try go_simp)) | (split <;> (first | (rename_i hx; exact (hx _ rfl).elim) | go_prune)))
  go_ret
  exact ⟨rfl, ((((((((hx0.trans hx1).trans hxa1).trans hx2).trans hxa2).trans hx3).trans hxa3).trans HXP.out).trans ((hx5.trans hx6).trans hx7)).trans (((Ext.alloc _ _).trans hx8).trans hx9)⟩
end Go.Proofs.Ytdklpenpmeplfaa
