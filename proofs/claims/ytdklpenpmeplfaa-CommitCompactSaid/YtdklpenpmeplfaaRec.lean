/- Records and batches, as they come in. -/
import Derived.Test.YtdklpenpmeplfaaReads2
import Derived.Test.YtdklpenpmeplfaaMg
namespace Go.Proofs.Ytdklpenpmeplfaa
open Go.RowKit Go.ChangeShapes Go.WideShapes

def recCells (x : Rec) : List Value := [.int .i64 x.delta, .int .i64 x.time, .bool x.keyed, .string ⟨x.key.toArray⟩, .bool x.dead, .string ⟨x.value.toArray⟩]
/-- Six cells, that hold a record. -/
def RRec (_ : World) (cs : List Value) (x : Rec) : Prop := cs = recCells x ∧ x.key.length ≤ maxLen ∧ x.value.length ≤ maxLen
def batCells (b : Bat) (v : Value) : List Value := [.int .i64 b.base, .int .i64 b.count, .int .i64 b.prod, .int .i64 b.epoch, .int .i64 b.seq, v]
/-- Six cells, that hold a batch, whose records are read. -/
def RBat (w : World) (cs : List Value) (b : Bat) : Prop := ∃ v, cs = batCells b v ∧ SRow 6 RRec (fun _ => True) w v b.recs
abbrev RecV (w : World) (v : Value) (l : List Rec) : Prop := SRow 6 RRec (fun _ => True) w v l
abbrev BatV (w : World) (v : Value) (l : List Bat) : Prop := SRow 6 RBat (fun _ => True) w v l
/-- One cell, that holds a row of batches. -/
def RBats (w : World) (cs : List Value) (l : List Bat) : Prop := ∃ v, cs = [v] ∧ BatV w v l
abbrev BatsV (w : World) (v : Value) (l : List (List Bat)) : Prop := SRow 1 RBats (fun _ => True) w v l

theorem SRow.slice1 {α : Type} {sz : Nat} {R : World → List Value → α → Prop} {S : Nat → Prop} {w : World} {v : Value} {xs : List α} (h : SRow sz R S w v xs) : v.oneCell' = true := by
  obtain ⟨p, c, rfl, _⟩ := h.slice
  rfl
theorem SRow.under {α : Type} {sz : Nat} {R : World → List Value → α → Prop} {w : World} {v : Value} {xs : List α} (h : SRow sz R (fun _ => True) w v xs) : ∀ w', Keeps (fun _ => True) w w' → SRow sz R (fun _ => True) w' v xs := fun w' k => by
  obtain ⟨css, p, c, h1, h2, h3, h4, h5, h6⟩ := h
  exact ⟨css, p, c, h1, h2, h3, h4, h5.keeps (fun _ _ => trivial) k, h6.later k fun _ _ h => h⟩
theorem RRec.keeps : ∀ (w w' : World) (cs : List Value) (x : Rec), Keeps (fun _ => True) w w' → RRec w cs x → RRec w' cs x := fun _ _ _ _ _ h => h
theorem RBat.keeps : ∀ (w w' : World) (cs : List Value) (x : Bat), Keeps (fun _ => True) w w' → RBat w cs x → RBat w' cs x := fun _ _ _ _ k ⟨v, e, h⟩ => ⟨v, e, h.under _ k⟩
theorem RBats.keeps : ∀ (w w' : World) (cs : List Value) (x : List Bat), Keeps (fun _ => True) w w' → RBats w cs x → RBats w' cs x := fun _ _ _ _ k ⟨v, e, h⟩ => ⟨v, e, h.under _ k⟩

/-! ### How they are read -/
theorem rec_struct : ∃ f0 f1 f2 f3 f4 f5 : Field, Try.prog.underlying 25 = some (.struct #[f0, f1, f2, f3, f4, f5]) ∧ (f0.type = 3 ∧ f0.offset = 0) ∧ (f1.type = 3 ∧ f1.offset = 1) ∧ (f2.type = 4 ∧ f2.offset = 2) ∧ (f3.type = 9 ∧ f3.offset = 3) ∧ (f4.type = 4 ∧ f4.offset = 4) ∧ (f5.type = 9 ∧ f5.offset = 5) :=
  ⟨_, _, _, _, _, _, Try.underlying25, ⟨rfl, rfl⟩, ⟨rfl, rfl⟩, ⟨rfl, rfl⟩, ⟨rfl, rfl⟩, ⟨rfl, rfl⟩, ⟨rfl, rfl⟩⟩
theorem bat_struct : ∃ f0 f1 f2 f3 f4 f5 : Field, Try.prog.underlying 46 = some (.struct #[f0, f1, f2, f3, f4, f5]) ∧ (f0.type = 3 ∧ f0.offset = 0) ∧ (f1.type = 3 ∧ f1.offset = 1) ∧ (f2.type = 3 ∧ f2.offset = 2) ∧ (f3.type = 3 ∧ f3.offset = 3) ∧ (f4.type = 3 ∧ f4.offset = 4) ∧ (f5.type = 44 ∧ f5.offset = 5) :=
  ⟨_, _, _, _, _, _, Try.underlying46, ⟨rfl, rfl⟩, ⟨rfl, rfl⟩, ⟨rfl, rfl⟩, ⟨rfl, rfl⟩, ⟨rfl, rfl⟩, ⟨rfl, rfl⟩⟩
theorem T.recN : Try.prog.cellsOf 25 = 6 := by kernel_rfl
theorem T.batN : Try.prog.cellsOf 46 = 6 := by kernel_rfl
theorem T.intN : Try.prog.cellsOf 3 = 1 := by kernel_rfl
theorem T.boolN : Try.prog.cellsOf 4 = 1 := by kernel_rfl
theorem T.strN : Try.prog.cellsOf 9 = 1 := by kernel_rfl
theorem T.recsN : Try.prog.cellsOf 44 = 1 := by kernel_rfl
theorem T.batsN : Try.prog.cellsOf 60 = 1 := by kernel_rfl
section
variable {H : Type} {enc : TypeId × Value → H} {W : World} {held : Bool}
/-- One cell, that holds a bool. -/
def RTrue (_ : World) (cs : List Value) (x : Bool) : Prop := cs = [.bool x]
theorem reads_bool {P : Program} {t : TypeId} (ht : P.underlying t = some .bool) : Reads enc P W held t 1 RTrue := fun n cs y h => by
  obtain ⟨x, rfl, _⟩ := DataW.trod_bool ht h
  exact ⟨rfl, ⟨x, rfl⟩, fun u hu => by rw [List.mem_singleton] at hu; subst hu; rfl⟩
set_option maxRecDepth 20000 in
theorem reads_rec : Reads enc Try.prog W held 25 6 RRec := fun n cs y h => by
  obtain ⟨f0, f1, f2, f3, f4, f5, hs, ⟨t0, o0⟩, ⟨t1, o1⟩, ⟨t2, o2⟩, ⟨t3, o3⟩, ⟨t4, o4⟩, ⟨t5, o5⟩⟩ := rec_struct
  obtain ⟨xs, m, _, rfl, hl, hlen, hf⟩ := DataW.trod_struct hs h
  rw [T.recN] at hl
  match cs, hl, xs, hlen with
  | [u0, u1, u2, u3, u4, u5], _, [y0, y1, y2, y3, y4, y5], _ =>
  have r0 := hf 0 f0 rfl
  have r1 := hf 1 f1 rfl
  have r2 := hf 2 f2 rfl
  have r3 := hf 3 f3 rfl
  have r4 := hf 4 f4 rfl
  have r5 := hf 5 f5 rfl
  rw [t0, o0, T.intN] at r0
  rw [t1, o1, T.intN] at r1
  rw [t2, o2, T.boolN] at r2
  rw [t3, o3, T.strN] at r3
  rw [t4, o4, T.boolN] at r4
  rw [t5, o5, T.strN] at r5
  obtain ⟨_, ⟨x0, e0, _⟩, _⟩ := reads_int Try.underlying3 _ _ _ r0
  obtain ⟨_, ⟨x1, e1, _⟩, _⟩ := reads_int Try.underlying3 _ _ _ r1
  obtain ⟨_, ⟨x2, e2⟩, _⟩ := reads_bool Try.underlying4 _ _ _ r2
  obtain ⟨_, ⟨x3, e3, k3⟩, _⟩ := reads_string Try.underlying9 _ _ _ r3
  obtain ⟨_, ⟨x4, e4⟩, _⟩ := reads_bool Try.underlying4 _ _ _ r4
  obtain ⟨_, ⟨x5, e5, k5⟩, _⟩ := reads_string Try.underlying9 _ _ _ r5
  simp at e0 e1 e3 e5
  have e2' : u2 = .bool x2 := List.head_eq_of_cons_eq e2
  have e4' : u4 = .bool x4 := List.head_eq_of_cons_eq e4
  subst e0; subst e1; subst e2'; subst e3; subst e4'; subst e5
  refine ⟨rfl, ⟨⟨x0, x1, x2, x3, x4, x5⟩, rfl, k3, k5⟩, fun u hu => ?_⟩
  simp at hu
  rcases hu with rfl | rfl | rfl | rfl | rfl | rfl <;> rfl
theorem reads_recs {n : Nat} {cs : List Value} {y : DataW H × List MemPlace} (h : DataW.trod enc Try.prog W 0 (fun _ => true) held n 44 cs = some y) : ∃ v l, cs = [v] ∧ RecV W v l :=
  open_row (R := RRec) Try.underlying44 T.recN (by decide) RRec.keeps (fun n cs y hy _ => (reads_rec n cs y hy).2) h
set_option maxRecDepth 20000 in
theorem reads_bat : Reads enc Try.prog W held 46 6 RBat := fun n cs y h => by
  obtain ⟨f0, f1, f2, f3, f4, f5, hs, ⟨t0, o0⟩, ⟨t1, o1⟩, ⟨t2, o2⟩, ⟨t3, o3⟩, ⟨t4, o4⟩, ⟨t5, o5⟩⟩ := bat_struct
  obtain ⟨xs, m, _, rfl, hl, hlen, hf⟩ := DataW.trod_struct hs h
  rw [T.batN] at hl
  match cs, hl, xs, hlen with
  | [u0, u1, u2, u3, u4, u5], _, [y0, y1, y2, y3, y4, y5], _ =>
  have r0 := hf 0 f0 rfl
  have r1 := hf 1 f1 rfl
  have r2 := hf 2 f2 rfl
  have r3 := hf 3 f3 rfl
  have r4 := hf 4 f4 rfl
  have r5 := hf 5 f5 rfl
  rw [t0, o0, T.intN] at r0
  rw [t1, o1, T.intN] at r1
  rw [t2, o2, T.intN] at r2
  rw [t3, o3, T.intN] at r3
  rw [t4, o4, T.intN] at r4
  rw [t5, o5, T.recsN] at r5
  obtain ⟨_, ⟨x0, e0, _⟩, _⟩ := reads_int Try.underlying3 _ _ _ r0
  obtain ⟨_, ⟨x1, e1, _⟩, _⟩ := reads_int Try.underlying3 _ _ _ r1
  obtain ⟨_, ⟨x2, e2, _⟩, _⟩ := reads_int Try.underlying3 _ _ _ r2
  obtain ⟨_, ⟨x3, e3, _⟩, _⟩ := reads_int Try.underlying3 _ _ _ r3
  obtain ⟨_, ⟨x4, e4, _⟩, _⟩ := reads_int Try.underlying3 _ _ _ r4
  obtain ⟨v, l, e5, hv⟩ := reads_recs r5
  simp at e0 e1 e2 e3 e4 e5
  subst e0; subst e1; subst e2; subst e3; subst e4; subst e5
  refine ⟨rfl, ⟨⟨x0, x1, x2, x3, x4, l⟩, u5, rfl, hv⟩, fun u hu => ?_⟩
  simp at hu
  rcases hu with rfl | rfl | rfl | rfl | rfl | rfl
  · rfl
  · rfl
  · rfl
  · rfl
  · rfl
  · exact hv.slice1
theorem reads_bats {n : Nat} {cs : List Value} {y : DataW H × List MemPlace} (h : DataW.trod enc Try.prog W 0 (fun _ => true) held n 60 cs = some y) : ∃ v l, cs = [v] ∧ BatV W v l :=
  open_row (R := RBat) Try.underlying60 T.batN (by decide) RBat.keeps (fun n cs y hy _ => (reads_bat n cs y hy).2) h
theorem open_bats {a : Option Addr} {n c : Nat} {d : DataW H} {ps : List MemPlace} (h : DataW.Trod enc Try.prog W 0 (fun _ => true) held 60 (.slice a n c) d ps) : ∃ l, BatV W (.slice a n c) l := by
  obtain ⟨fuel, hf⟩ := h
  obtain ⟨v, l, e, hv⟩ := reads_bats hf
  simp [Value.cells] at e
  subst e
  exact ⟨l, hv⟩
end
end Go.Proofs.Ytdklpenpmeplfaa
