/- Texts as bytes; structs that are stored whole. -/
import Derived.Test.YtpejdompanhieaaIns
import Derived.IntWalk
import Derived.WalkSpells
namespace Go.Proofs.Ytpejdompanhieaa
open Go.RowKit

theorem run_string_bytes2 {P : Program} {t e : TypeId} {z : Value} {sz bytes : Nat} (hT : RowT P t e z sz bytes) (he : P.underlying e = some (.int .u8)) {src : TypeId} (hd : P.underlying src = some .string) (s : ByteArray) (hs : s.size ≤ maxLen) (w : World) :
    ∃ c w', (convert src t (.string s)).run P w = .ok (.slice (some ⟨w.heap.size, 0, none⟩) s.size c) w' ∧ BV w' (.slice (some ⟨w.heap.size, 0, none⟩) s.size c) s.data.toList ∧ Ext w w' := by
  refine ⟨_, _, run_bytes_of_string w src t e s hd hT.und he, ⟨_, _, rfl, ?_, ?_, fun _ => ⟨_, _, rfl, fun j u hu => ?_⟩⟩, (Ext.drewN w 1).trans (Ext.alloc _ _)⟩
  · exact grownCap_ge w s.size 0 e
  · exact grownCap_le_maxLen w s.size 0 e hs
  · rw [Nat.zero_add]
    exact (World.cell?_alloc_mark w.drew _ _ _ j).trans (bytesRow_take s _ j u hu)
theorem st_bytes2 {P : Program} {t e : TypeId} {z : Value} {sz bytes : Nat} (hT : RowT P t e z sz bytes) (he : P.underlying e = some (.int .u8)) {src : TypeId} (hd : P.underlying src = some .string) {ops : Array Oper} {Q : Exit → Act → World → Prop} {rest : List Oper} {a : Act} {w : World} {dst : Option Tmp} {ty : TypeId} {pos : String} {after : Array Edge} {guard : Option (Nat × Bool)}
    {x : Operand} (l : List UInt8) (hl : l.length ≤ 100000000) (h : ∀ c w', BV w' (.slice (some ⟨w.heap.size, 0, none⟩) l.length c) l → Ext w w' → wpList P ops Q rest (a.put dst (.slice (some ⟨w.heap.size, 0, none⟩) l.length c)) w')
    (hg : Region.wanted ⟨dst, .convert src t x, ty, pos, after, guard⟩ (yielded ops a.tmps) = true := by exact rfl) (ex : a.eval x = .string ⟨l.toArray⟩ := by exact rfl) :
    wpList P ops Q (⟨dst, .convert src t x, ty, pos, after, guard⟩ :: rest) a w := by
  have e2 : (ByteArray.mk l.toArray).size = l.length := by show l.toArray.size = _; simp
  obtain ⟨c, w', hr, hb, hx⟩ := run_string_bytes2 hT he hd ⟨l.toArray⟩ (by rw [e2]; simp only [maxLen]; omega) w
  rw [e2] at hr hb
  refine wpList_run (v := .slice (some ⟨w.heap.size, 0, none⟩) l.length c) (w' := w') hg ?_ (h c w' (by simpa using hb) hx)
  simp [execOp, ex, hr, Result.andThen]

/-! ### A struct of a block is stored whole -/
theorem putIn_full {cur vs : List Value} (h : vs.length = cur.length) : putIn cur 0 vs = vs := by
  unfold putIn
  rw [List.take_zero, List.nil_append, Nat.zero_add, h, List.drop_length, List.append_nil]
section
variable {P : Program} {ops : Array Oper} {Q : Exit → Act → World → Prop} {rest : List Oper} {a : Act} {w : World} {ty' : TypeId} {pos : String} {after : Array Edge} {guard : Option (Nat × Bool)}
theorem st_put {ty : TypeId} {x y : Operand} {g : Nat} {cs vs : List Value} {te : TypeId} (hw : ObjAt w g te cs) (hi : (P.info? ty).map (·.size) = some vs.length) (hl : vs.length = cs.length) (h1 : ∀ v ∈ vs, v.oneCell' = true)
    (h : ∀ w', ObjAt w' g te vs → w.grownBy w' (some g) → wpList P ops Q rest a w')
    (hg : Region.wanted ⟨none, .store ty x y, ty', pos, after, guard⟩ (yielded ops a.tmps) = true := by exact rfl) (ex : a.eval x = .pointer (some ⟨g, 0, none⟩) := by exact rfl) (ey : a.eval y = .agg vs.toArray := by exact rfl) :
    wpList P ops Q (⟨none, .store ty x y, ty', pos, after, guard⟩ :: rest) a w :=
  st_store (o := 0) hw hi (by omega) h1 (fun w' hw' hg' => h w' (by rw [putIn_full hl] at hw'; exact hw') hg') hg ex ey
end
end Go.Proofs.Ytpejdompanhieaa
