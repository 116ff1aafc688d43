/- Commits of layer 21, as they lie in memory: the program's and the document's. -/
import Derived.Test.YtdklpenpmeplfaaBat
import Derived.Test.YtdklpenpmeplfaaCm
import Derived.Test.YtdklpenpmeplfaaObj3
namespace Go.Proofs.Ytdklpenpmeplfaa
open Go.RowKit Go.ChangeShapes Go.WideShapes

def cmCells (c : Cm) : List Value := [.string ⟨c.group.toArray⟩, .string ⟨c.topic.toArray⟩, .int .i64 c.index, .int .i64 c.offset]
/-- Four cells, that hold a commit. -/
def RCm (_ : World) (cs : List Value) (c : Cm) : Prop := cs = cmCells c
abbrev CmV (w : World) (v : Value) (l : List Cm) : Prop := SRow 4 RCm (fun _ => True) w v l
abbrev CmO (e : TypeId) (w : World) (B : Nat) (v : Value) (l : List Cm) : Prop := ORow e 4 RCm (fun _ => True) w B v l
theorem RCm.keeps : ∀ (w w' : World) (cs : List Value) (x : Cm), Keeps (fun _ => True) w w' → RCm w cs x → RCm w' cs x := fun _ _ _ _ _ h => h
abbrev cmv (c : Cm) : Value := .agg #[.string ⟨c.group.toArray⟩, .string ⟨c.topic.toArray⟩, .int .i64 c.index, .int .i64 c.offset]
theorem T.cmInfo : (Try.prog.info? 33).map (fun i => (i.zero, i.size, i.bytes)) = some (some (.agg #[.string ⟨#[]⟩, .string ⟨#[]⟩, .int .i64 0, .int .i64 0]), 4, 48) := by kernel_rfl
theorem T.cms : RowT Try.prog 48 33 (.agg #[.string ⟨#[]⟩, .string ⟨#[]⟩, .int .i64 0, .int .i64 0]) 4 48 := ⟨Try.underlying48, info_parts T.cmInfo, rfl, by omega⟩
theorem T.rcmInfo : (Try.prog.info? 23).map (fun i => (i.zero, i.size, i.bytes)) = some (some (.agg #[.string ⟨#[]⟩, .string ⟨#[]⟩, .int .i64 0, .int .i64 0]), 4, 48) := by kernel_rfl
theorem T.rcms : RowT Try.prog 27 23 (.agg #[.string ⟨#[]⟩, .string ⟨#[]⟩, .int .i64 0, .int .i64 0]) 4 48 := ⟨Try.underlying27, info_parts T.rcmInfo, rfl, by omega⟩
theorem T.cmSize : (Try.prog.info? 33).map (·.size) = some 4 := by kernel_rfl
theorem T.rcmSize : (Try.prog.info? 23).map (·.size) = some 4 := by kernel_rfl
theorem T.recSize : (Try.prog.info? 25).map (·.size) = some 6 := by kernel_rfl

/-! ### What lies in a row -/
structure CmCells (w : World) (b o j : Nat) (x : Cm) : Prop where
  c0 : w.cell? ⟨b, o + j * 4, none⟩ = some (.string ⟨x.group.toArray⟩)
  c1 : w.cell? ⟨b, o + j * 4 + 1, none⟩ = some (.string ⟨x.topic.toArray⟩)
  c2 : w.cell? ⟨b, o + j * 4 + 2, none⟩ = some (.int .i64 x.index)
  c3 : w.cell? ⟨b, o + j * 4 + 3, none⟩ = some (.int .i64 x.offset)
theorem cm_at {S : Nat → Prop} {w : World} {p : Option Addr} {n c : Nat} {xs : List Cm} (h : SRow 4 RCm S w (.slice p n c) xs) {j : Nat} (hj : j < xs.length) : ∃ b o, p = some ⟨b, o, none⟩ ∧ CmCells w b o j xs[j] := by
  obtain ⟨b, o, cs, e, _, hc, hu⟩ := h.cells (by decide) hj
  have e2 : cs = cmCells xs[j] := hu.now
  subst e2
  exact ⟨b, o, e, ⟨hc 0 _ rfl, hc 1 _ rfl, hc 2 _ rfl, hc 3 _ rfl⟩⟩
theorem CmV.any {S : Nat → Prop} {w : World} {v : Value} {l : List Cm} (h : SRow 4 RCm S w v l) : CmV w v l := by
  obtain ⟨css, p, c, h1, h2, h3, h4, h5, h6, h7⟩ := h
  exact ⟨css, p, c, h1, h2, h3, h4, h5, h6, fun j cs x hc hx w' _ => (h7 j cs x hc hx).now⟩
theorem CmO.view {e : TypeId} {w : World} {B : Nat} {v : Value} {l : List Cm} (h : CmO e w B v l) : CmV w v l := CmV.any (ORow.view h)
theorem cm_one (c : Cm) : ∀ u ∈ cmCells c, u.oneCell' = true := fun u hu => by
  unfold cmCells at hu
  simp only [List.mem_cons, List.not_mem_nil, or_false] at hu
  rcases hu with rfl | rfl | rfl | rfl <;> rfl
theorem cm_results2 {fn : Func} {p u : Tmp} (h : fn.results = #[.cell p 33, .tmp u]) (tmps : Array Value) (w : World) (g : Nat) (x y z t : Value)
    (hp : tmps.getD p undef = .pointer (some ⟨g, 0, none⟩)) (hg : ObjAt w g 33 [x, y, z, t]) :
    (results fn tmps).run Try.prog w = .ok (.tuple #[.agg #[x, y, z, t], tmps.getD u undef]) w :=
  results_row_tmp h tmps w g _ #[x, y, z, t] _ hp hg Try.underlying33 rfl T.cmSize
theorem rcm_results2 {fn : Func} {p u : Tmp} (h : fn.results = #[.cell p 23, .tmp u]) (tmps : Array Value) (w : World) (g : Nat) (x y z t : Value)
    (hp : tmps.getD p undef = .pointer (some ⟨g, 0, none⟩)) (hg : ObjAt w g 23 [x, y, z, t]) :
    (results fn tmps).run Try.prog w = .ok (.tuple #[.agg #[x, y, z, t], tmps.getD u undef]) w :=
  results_row_tmp h tmps w g _ #[x, y, z, t] _ hp hg Try.underlying23 rfl T.rcmSize
theorem rec_results2 {fn : Func} {p u : Tmp} (h : fn.results = #[.cell p 25, .tmp u]) (tmps : Array Value) (w : World) (g : Nat) (r : Rec)
    (hp : tmps.getD p undef = .pointer (some ⟨g, 0, none⟩)) (hg : ObjAt w g 25 (recCells r)) :
    (results fn tmps).run Try.prog w = .ok (.tuple #[recv r, tmps.getD u undef]) w :=
  results_row_tmp h tmps w g _ (recCells r).toArray _ hp hg Try.underlying25 rfl T.recSize
end Go.Proofs.Ytdklpenpmeplfaa
