/- What the statements' own function of layer 7 computes that lays bodies one behind the other. -/
import Derived.Test.YtlbeemjcndhenaaLaw07b
import Derived.Test.YtlbeemjcndhenaaFrC
namespace Go.Proofs.Ytlbeemjcndhenaa
open Go.RowKit

/-- One cell, that holds a number. -/
def RN (_ : World) (cs : List Value) (x : Int) : Prop := cs = [.int .i64 x]
theorem T.intInfo : (Try.prog.info? 3).map (fun i => (i.zero, i.size, i.bytes)) = some (some (.int .i64 0), 1, 8) := by kernel_rfl
theorem T.ints : RowT Try.prog 51 3 (.int .i64 0) 1 8 := ⟨Try.underlying51, info_parts T.intInfo, rfl, by omega⟩
theorem int_at {S : Nat → Prop} {w : World} {p : Option Addr} {n c : Nat} {xs : List Int} (h : SRow 1 RN S w (.slice p n c) xs) {j : Nat} (hj : j < xs.length) :
    ∃ b o, p = some ⟨b, o, none⟩ ∧ w.cell? ⟨b, o + j, none⟩ = some (.int .i64 xs[j]) := by
  obtain ⟨b, o, cs, e, _, hc, hu⟩ := h.cells (by decide) hj
  have := hu.now
  unfold RN at this
  subst this
  exact ⟨b, o, e, by simpa using hc 0 _ rfl⟩
/-- A row that stands beside one that grows. -/
theorem ORow.beside {α : Type} {e sz : Nat} {R : World → List Value → α → Prop} {S T : Nat → Prop} {w w' : World} {B : Nat} {v : Value} {xs : List α} {g : Option Nat} (h : ORow e sz R S w B v xs) (hg : w.grownBy w' g) (hne : v.ownBlock = none ∨ v.ownBlock ≠ g)
    (hs : ∀ k, k < w.heap.size → S k → some k ≠ g ∧ T k) : ORow e sz R T w' B v xs := by
  obtain ⟨css, h1, h2, h3⟩ := h
  refine ⟨css, h1, World.ownsRow.kept h2 hg hne, h3.later ((keeps_grown hg).mono fun k hk hh => (hs k hk hh.1).1) fun k hk hh => ⟨(hs k hk hh.1).2, hh.2⟩⟩

theorem apart_grow {a b v : Option Nat} {n : Nat} (hab : a = none ∨ a ≠ b) (hv : v = b ∨ v = some n) (ha : ∀ k, a = some k → k < n) : v = none ∨ v ≠ a := by
  rcases hv with rfl | rfl
  · rcases hab with rfl | h
    · cases v with
      | none => exact .inl rfl
      | some j => exact .inr (by simp)
    · exact .inr h.symm
  · refine .inr fun e => ?_
    have := ha n e.symm
    omega
/-- Where each of the first i bodies ends. -/
def esB (bs : List (List UInt8)) (i : Nat) : List Int := (List.range i).map fun t => ((laidB (bs.take (t + 1))).length : Int)
theorem esB_length (bs : List (List UInt8)) (i : Nat) : (esB bs i).length = i := by simp [esB]
theorem esB_succ (bs : List (List UInt8)) (i : Nat) : esB bs i ++ [((laidB (bs.take (i + 1))).length : Int)] = esB bs (i + 1) := by simp [esB, List.range_succ]
theorem esB_get (bs : List (List UInt8)) (i j : Nat) (h : j < (esB bs i).length) : (esB bs i)[j] = ((laidB (bs.take (j + 1))).length : Int) := by simp [esB]
theorem laidB_snoc : ∀ (bs : List (List UInt8)) (b : List UInt8), laidB (bs ++ [b]) = laidB bs ++ layB (frameL b)
  | [], b => by simp [laidB]
  | x :: r, b => by simp [laidB, laidB_snoc r b]
theorem lay_six (b : List UInt8) (h : b.length ≤ 300) : (layB (frameL b)).length ≤ 6 := by
  have := layF_length (frameL b).length 1 (frameL b) (Nat.le_refl _)
  have hl := frameL_length b
  unfold needB at this
  show (layF (frameL b).length 1 (frameL b)).length ≤ _
  split at this <;> omega
theorem laidB_few : ∀ (bs : List (List UInt8)), (∀ b ∈ bs, b.length ≤ 300) → (laidB bs).length ≤ 6 * bs.length
  | [], _ => by simp [laidB]
  | b :: r, h => by
    have ih := laidB_few r fun x hx => h x (List.mem_cons_of_mem _ hx)
    have h1 := lay_six b (h b List.mem_cons_self)
    simp only [laidB, List.length_append, List.length_cons]
    omega
theorem placeB_length : ∀ (c : Nat) (bs : List (List UInt8)), (placeB c bs).length = bs.length
  | _, [] => rfl
  | c, b :: r => by simp [placeB, placeB_length _ r]
theorem placeB_get : ∀ (c : Nat) (bs : List (List UInt8)) (i : Nat) (h : i < bs.length), (placeB c bs)[i]? = some (((c + (laidB (bs.take i)).length : Nat) : Int), bs[i])
  | c, b :: r, 0, _ => by simp [placeB, laidB]
  | c, b :: r, i + 1, h => by
    have := placeB_get (c + (layB (frameL b)).length) r i (by simpa using h)
    simp only [placeB, List.getElem?_cons_succ, List.take_succ_cons, laidB, List.length_append, List.getElem_cons_succ]
    rw [this, Nat.add_assoc]
theorem need_lay (b : List UInt8) : frNeed (b.length : Int) = ((layB (frameL b)).length : Int) := by
  have := layF_length (frameL b).length 1 (frameL b) (Nat.le_refl _)
  have hl := frameL_length b
  unfold frNeed
  rw [show max (0 : Int) (b.length : Int) + 12 = ((frameL b).length : Int) by omega]
  exact this.symm

/-- What is told of bodies: their blocks and ends, or that one is too long. -/
def LaidPost (w : World) (bs : List (List UInt8)) (e : Ending) (w' : World) : Prop :=
  ((∀ b ∈ bs, b.length ≤ 300) ∧ ∃ v1 v2, e = .returned (.tuple #[v1, v2, .bool true]) ∧ LB (fun k => w.heap.size ≤ k ∧ some k ≠ v2.ownBlock) w' w.heap.size v1 (laidB bs) ∧ ORow 3 1 RN (fun _ => False) w' w.heap.size v2 (esB bs bs.length)) ∨
  ((¬ ∀ b ∈ bs, b.length ≤ 300) ∧ e = .returned (.tuple #[.slice none 0 0, .slice none 0 0, .bool false]))
set_option maxHeartbeats 2000000 in
theorem laid_any (v : Value) (bs : List (List UInt8)) (w : World) (h : LV w v bs) (hb : bs.length ≤ 10) :
    Calls Try.prog 21 #[v] w fun e w' => Ext w w' ∧ LaidPost w bs e w' := by
  obtain ⟨p, cp, rfl, hn, hcp⟩ := h.slice
  go_enter Try.func21, Try.ntmps21
  go_wp2_with fail
  go_loopg [5, 6, 7] bs.length (fun k s5 s6 s7 wr => ∃ i : Nat, s7 = .int .i64 i ∧ i ≤ bs.length ∧ k = bs.length - i ∧ Hid (∀ b ∈ bs.take i, b.length ≤ 300) ∧ LB (fun k => w.heap.size ≤ k ∧ some k ≠ s6.ownBlock) wr w.heap.size s5 (laidB (bs.take i)) ∧
    ORow 3 1 RN (fun _ => False) wr w.heap.size s6 (esB bs i) ∧ (s6.ownBlock = none ∨ s6.ownBlock ≠ s5.ownBlock) ∧ Ext w wr)
  case atStart => exact ⟨0, rfl, by omega, rfl, fun b hb => by simp at hb, ORow.nil _ _ _, ORow.nil _ _ _, .inl rfl, Ext.refl _⟩
  case round =>
    obtain ⟨i, rfl, hi, hk, hall, ho, he, hap, hx⟩ := hrel
    by_cases hlt : i < bs.length
    case neg =>
      obtain rfl : i = bs.length := by omega
      rw [List.take_of_length_le (Nat.le_refl _)] at hall ho
      go_wp2_with fail
      go_ret3
      exact ⟨hx, .inl ⟨hall.out, _, _, rfl, ho, he⟩⟩
    case pos =>
      obtain ⟨b1, o1, u1, rfl, hc1, hu1⟩ := h.row hlt
      have hb1 := hu1.now
      clear hu1
      obtain ⟨pu, cu, rfl, _, _, _⟩ := id hb1
      have hcc := hx.cell hc1
      by_cases hbig : 300 < (bs[i]).length
      · have hno : ¬ ∀ b ∈ bs, b.length ≤ 300 := fun hh => by have := hh _ (List.getElem_mem hlt); omega
        have HN := Lib.hid hno
        generalize bs[i] = z at *
        clear hno
        go_wp2_with fail
        go_ret3
        exact ⟨hx, .inr ⟨HN.out, rfl⟩⟩
      · have htk : bs.take (i + 1) = bs.take i ++ [bs[i]] := by rw [List.take_add_one, List.getElem?_eq_getElem hlt]; rfl
        have hall2 : ∀ b ∈ bs.take (i + 1), b.length ≤ 300 := by
          intro b hbm
          rw [htk] at hbm
          rcases List.mem_append.1 hbm with hm | hm
          · exact hall.out b hm
          · rw [List.mem_singleton] at hm; subst hm; omega
        have hfew := laidB_few _ hall2
        rw [List.length_take] at hfew
        have HA : Hid (∀ b ∈ bs.take (i + 1), b.length ≤ 300) := hall2
        clear hall2
        have HL : Hid (laidB (bs.take i) ++ layB (frameL bs[i]) = laidB (bs.take (i + 1))) := by
          have : laidB (bs.take i) ++ layB (frameL bs[i]) = laidB (bs.take (i + 1)) := by rw [htk, laidB_snoc]
          exact this
        have hlen : (laidB (bs.take i)).length + (layB (frameL bs[i])).length = (laidB (bs.take (i + 1))).length := by rw [← HL.out, List.length_append]
        have HE := Lib.hid (esB_succ bs i)
        have hes : (esB bs i).length ≤ 10 := by rw [esB_length]; omega
        have A1 := fun (w : World) (hh : BV w (.slice pu (bs[i]).length cu) bs[i]) => flay_any (.slice pu (bs[i]).length cu) bs[i] w hh
        have hfl : frLay bs[i] = (layB (frameL bs[i]), 0) := by unfold frLay; rw [if_neg (by omega)]
        rw [hfl] at A1
        dsimp only at A1
        generalize bs[i] = z at *
        generalize layB (frameL z) = zs at *
        obtain ⟨L2, hL2⟩ : ∃ x, laidB (bs.take (i + 1)) = x := ⟨_, rfl⟩
        rw [hL2] at HL hlen hfew HE
        have HL2 := Lib.hid hL2
        clear hL2
        generalize laidB (bs.take i) = L1 at *
        generalize esB bs i = E1 at *
        obtain ⟨E2, hE2⟩ : ∃ x, esB bs (i + 1) = x := ⟨_, rfl⟩
        rw [hE2] at HE
        have HE2 := Lib.hid hE2
        clear hE2
        have hE63 : E1.length + [(L2.length : Int)].length ≤ maxLen := by
          have : [(L2.length : Int)].length = 1 := rfl
          rw [this]; unfold maxLen; omega
        have hEby : (E1.length + [(L2.length : Int)].length) * 8 ≤ 140737488355328 := by
          have : [(L2.length : Int)].length = 1 := rfl
          rw [this]; omega
        clear htk hfl
        obtain ⟨po, co, e5, _, _⟩ := ho.view.slice
        obtain ⟨pe, ce, e6, _, _⟩ := he.view.slice
        subst e5
        subst e6
        have hos := fun k e => (ho.own k e).2
        have hee := fun k e => (he.own k e).2
        go_wp2_with (first
          | (go_at_call 8; refine (A1 _ (hb1.ext hx)).mono ?_; rintro e w1 ⟨v1, rfl, ho1, hx1⟩
             have sz1 := (hx.trans hx1).size
             have hy : SRow 1 RB (fun k => (w.heap.size ≤ k ∧ some k ≠ (Value.slice pe E1.length ce).ownBlock) ∧ some k ≠ (Value.slice po L1.length co).ownBlock) w1 v1 zs :=
               ho1.view.mono fun k hk hs => ⟨⟨Nat.le_trans hx.size hs.1, fun e => by have := hee k e.symm; have := hs.1; omega⟩, fun e => by have := hos k e.symm; have := hs.1; omega⟩)
          | (at_builtin; refine st_items T.lists (ho.keep hx1) hy ?_ (by simp [maxLen]; omega) (by omega) sz1; intro v2 w2 ho2 hg2 hw2
             rw [HL.out] at ho2
             have hx2 := (ho.keep hx1).grown (hx.trans hx1) hg2
             have he2 := (he.keep hx1).beside hg2 hap (T := fun _ => False) fun k _ hf => hf.elim
             have hap2 := apart_grow hap hw2 fun k e => Nat.lt_of_lt_of_le (hee k e) hx1.size
             obtain ⟨p2, c2, e2, _, _⟩ := ho2.view.slice
             subst e2
             have he2k := he2.keep (Ext.alloc w2 (.cells #[.int .i64 L2.length] 3))
             have ho2k := ho2.keep (Ext.alloc w2 (.cells #[.int .i64 L2.length] 3))
             have hx2k := hx2.trans (Ext.alloc w2 (.cells #[.int .i64 L2.length] 3))
             have hy2 : SRow 1 RN (fun k => False ∧ some k ≠ (Value.slice pe E1.length ce).ownBlock) (w2.alloc (.cells #[.int .i64 L2.length] 3)) (.slice (some ⟨w2.heap.size, 0, none⟩) 1 1) [(L2.length : Int)] :=
               SRow.lit1 (cs := [.int .i64 L2.length]) rfl (fun u hu => by rw [List.mem_singleton] at hu; subst hu; rfl) fun w' _ => rfl
             have hos2 := fun k e => (ho2.own k e).2)
          | (at_builtin; refine st_items T.ints he2k hy2 ?_ hE63 hEby hx2k.size; intro v3 w3 he3 hg3 hw3
             rw [HE.out] at he3
             have hx3 := he2k.grown hx2k hg3
             have ho3 := ho2k.beside hg3 hap2 (T := fun k => w.heap.size ≤ k ∧ some k ≠ v3.ownBlock) fun k hk hs => ⟨hs.2, hs.1, fun e => by
               rcases hw3 with e2 | e2
               · rw [e2] at e; exact hs.2 e
               · rw [e2] at e; cases e; omega⟩
             have hap3 := apart_grow hap2 hw3 fun k e => Nat.lt_of_lt_of_le (hos2 k e) (by simp)))
        go_roundg (bs.length - (i + 1))
        case measure => omega
        case rel => exact ⟨i + 1, by go_num, hlt, rfl, HA, by rw [HL2.out]; exact ho3, by rw [HE2.out]; exact he3, hap3, hx3⟩
end Go.Proofs.Ytlbeemjcndhenaa
