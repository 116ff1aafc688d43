/- Tables of layer 13, as they lie in memory: the program's and the document's. -/
import Derived.Test.YthiaaoiaabocfaaBat
import Derived.Test.YthiaaoiaabocfaaPr
import Derived.Test.YthiaaoiaabocfaaObj3
namespace Go.Proofs.Ythiaaoiaabocfaa
open Go.RowKit Go.ChangeShapes Go.WideShapes

def snCells (x : Sn) : List Value := [.int .i64 x.seq, .int .i64 x.count, .int .i64 x.base]
/-- Three cells, that hold a batch of a producer. -/
def RSn (_ : World) (cs : List Value) (x : Sn) : Prop := cs = snCells x
abbrev SnV (w : World) (v : Value) (l : List Sn) : Prop := SRow 3 RSn (fun _ => True) w v l
def entCells (e : Ent) (v : Value) : List Value := [.int .i64 e.id, .int .i64 e.epoch, v]
/-- Three cells, that hold a producer, whose batches are read. -/
def REnt (w : World) (cs : List Value) (e : Ent) : Prop := ∃ v, cs = entCells e v ∧ SnV w v e.last
abbrev TabV (w : World) (v : Value) (t : List Ent) : Prop := SRow 3 REnt (fun _ => True) w v t
theorem RSn.keeps : ∀ (w w' : World) (cs : List Value) (x : Sn), Keeps (fun _ => True) w w' → RSn w cs x → RSn w' cs x := fun _ _ _ _ _ h => h
theorem REnt.keeps : ∀ (w w' : World) (cs : List Value) (x : Ent), Keeps (fun _ => True) w w' → REnt w cs x → REnt w' cs x := fun _ _ _ _ k ⟨v, e, h⟩ => ⟨v, e, h.under _ k⟩
abbrev snv (x : Sn) : Value := .agg #[.int .i64 x.seq, .int .i64 x.count, .int .i64 x.base]
abbrev entv (e : Ent) (v : Value) : Value := .agg #[.int .i64 e.id, .int .i64 e.epoch, v]

theorem T.seenInfo : (Try.prog.info? 73).map (fun i => (i.zero, i.size, i.bytes)) = some (some (.agg #[.int .i64 0, .int .i64 0, .int .i64 0]), 3, 24) := by kernel_rfl
theorem T.seens : RowT Try.prog 41 73 (.agg #[.int .i64 0, .int .i64 0, .int .i64 0]) 3 24 := ⟨Try.underlying41, info_parts T.seenInfo, rfl, by omega⟩
theorem T.rseenInfo : (Try.prog.info? 68).map (fun i => (i.zero, i.size, i.bytes)) = some (some (.agg #[.int .i64 0, .int .i64 0, .int .i64 0]), 3, 24) := by kernel_rfl
theorem T.rseens : RowT Try.prog 46 68 (.agg #[.int .i64 0, .int .i64 0, .int .i64 0]) 3 24 := ⟨Try.underlying46, info_parts T.rseenInfo, rfl, by omega⟩
theorem T.entInfo : (Try.prog.info? 43).map (fun i => (i.zero, i.size, i.bytes)) = some (some (.agg #[.int .i64 0, .int .i64 0, .slice none 0 0]), 3, 40) := by kernel_rfl
theorem T.ents : RowT Try.prog 31 43 (.agg #[.int .i64 0, .int .i64 0, .slice none 0 0]) 3 40 := ⟨Try.underlying31, info_parts T.entInfo, rfl, by omega⟩
theorem T.rentInfo : (Try.prog.info? 48).map (fun i => (i.zero, i.size, i.bytes)) = some (some (.agg #[.int .i64 0, .int .i64 0, .slice none 0 0]), 3, 40) := by kernel_rfl
theorem T.rents : RowT Try.prog 22 48 (.agg #[.int .i64 0, .int .i64 0, .slice none 0 0]) 3 40 := ⟨Try.underlying22, info_parts T.rentInfo, rfl, by omega⟩

/-! ### What lies in a row -/
structure SnCells (w : World) (b o j : Nat) (x : Sn) : Prop where
  c0 : w.cell? ⟨b, o + j * 3, none⟩ = some (.int .i64 x.seq)
  c1 : w.cell? ⟨b, o + j * 3 + 1, none⟩ = some (.int .i64 x.count)
  c2 : w.cell? ⟨b, o + j * 3 + 2, none⟩ = some (.int .i64 x.base)
theorem sn_at {S : Nat → Prop} {w : World} {p : Option Addr} {n c : Nat} {xs : List Sn} (h : SRow 3 RSn S w (.slice p n c) xs) {j : Nat} (hj : j < xs.length) : ∃ b o, p = some ⟨b, o, none⟩ ∧ SnCells w b o j xs[j] := by
  obtain ⟨b, o, cs, e, _, hc, hu⟩ := h.cells (by decide) hj
  have e2 : cs = snCells xs[j] := hu.now
  subst e2
  exact ⟨b, o, e, ⟨hc 0 _ rfl, hc 1 _ rfl, hc 2 _ rfl⟩⟩
structure EntCells (w : World) (b o j : Nat) (x : Ent) (v : Value) : Prop where
  c0 : w.cell? ⟨b, o + j * 3, none⟩ = some (.int .i64 x.id)
  c1 : w.cell? ⟨b, o + j * 3 + 1, none⟩ = some (.int .i64 x.epoch)
  c2 : w.cell? ⟨b, o + j * 3 + 2, none⟩ = some v
theorem ent_at {S : Nat → Prop} {w : World} {p : Option Addr} {n c : Nat} {xs : List Ent} (h : SRow 3 REnt S w (.slice p n c) xs) {j : Nat} (hj : j < xs.length) :
    ∃ b o q d, p = some ⟨b, o, none⟩ ∧ EntCells w b o j xs[j] (.slice q xs[j].last.length d) ∧ SnV w (.slice q xs[j].last.length d) xs[j].last ∧ xs[j].last.length ≤ d ∧ d ≤ maxLen := by
  obtain ⟨b, o, cs, e, _, hc, hu⟩ := h.cells (by decide) hj
  obtain ⟨v, e2, h1⟩ := hu.now
  obtain ⟨q, d, rfl, h2, h3⟩ := h1.slice
  subst e2
  exact ⟨b, o, q, d, e, ⟨hc 0 _ rfl, hc 1 _ rfl, hc 2 _ rfl⟩, h1, h2, h3⟩
theorem sn_lit1 (e : TypeId) (S : Nat → Prop) (w : World) (x : Sn) : SRow 3 RSn S (w.alloc (.cells (snCells x).toArray e)) (.slice (some ⟨w.heap.size, 0, none⟩) 1 1) [x] := by
  refine SRow.lit1 (cs := snCells x) rfl (fun u hu => ?_) fun w' _ => rfl
  unfold snCells at hu
  simp only [List.mem_cons, List.not_mem_nil, or_false] at hu
  rcases hu with rfl | rfl | rfl <;> rfl
theorem ent_lit1 (t : TypeId) {S : Nat → Prop} {w : World} (e : Ent) {v : Value} (hv : Under S (fun w' => SnV w' v e.last) w) : SRow 3 REnt S (w.alloc (.cells (entCells e v).toArray t)) (.slice (some ⟨w.heap.size, 0, none⟩) 1 1) [e] := by
  refine SRow.lit1 (cs := entCells e v) rfl (fun u hu => ?_) (hv.imp fun w' h => ⟨v, rfl, h⟩)
  unfold entCells at hu
  simp only [List.mem_cons, List.not_mem_nil, or_false] at hu
  rcases hu with rfl | rfl | rfl
  · rfl
  · rfl
  · exact hv.now.slice1
/-- A row of batches of the call's own is not read where others are written. -/
abbrev SnO (e : TypeId) (w : World) (B : Nat) (v : Value) (l : List Sn) : Prop := ORow e 3 RSn (fun _ => False) w B v l
theorem SnO.view {e : TypeId} {w : World} {B : Nat} {v : Value} {xs : List Sn} (h : SnO e w B v xs) : SnV w v xs := by
  have := (ORow.view h).mono (T := fun _ => True) fun k hk => ?_
  · exact this
  · exact fun _ => trivial
end Go.Proofs.Ythiaaoiaabocfaa
