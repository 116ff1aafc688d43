/- Rows that are written in their middle: copy onto a row of the call's own; the plain side of slices.Insert and slices.Delete. -/
import Derived.Test.YtpejdompanhieaaRow2
import Derived.Test.YtpejdompanhieaaDagF
import Derived.Test.YtpejdompanhieaaObj
import Derived.Laws.CopyRow
import Derived.Lib.AppendZerosOnto
import Derived.Lib.Overlaps
import Derived.Laws.Externs
namespace Go.Proofs.Ytpejdompanhieaa
open Go.RowKit

/-! ### copy -/
theorem run_copy_at {P : Program} {t e : TypeId} {z : Value} {sz bytes : Nat} (hT : RowT P t e z sz bytes) (ty : TypeId) {w : World} {g o dLen dCap : Nat} {a : Addr} {sLen sCap : Nat} {cur cs : List Value} {te : TypeId}
    (hg : w.heap[g]? = some (.cells cur.toArray te (0, 0))) (hn : cs.length = min sLen dLen * sz) (hsrc : ∀ j v, cs[j]? = some v → w.cell? (a.add j) = some v) (hfit : o + cs.length ≤ cur.length) (h1 : ∀ v ∈ cs, v.oneCell' = true) :
    (Builtin.copy_ #[t, t] ty #[.slice (some ⟨g, o, none⟩) dLen dCap, .slice (some a) sLen sCap]).run P w =
      .ok (goInt (min sLen dLen : Nat)) (w.setRow g (cur.take o ++ cs ++ cur.drop (o + cs.length)).toArray) := by
  obtain ⟨i, hi, hz, hs, hb⟩ := hT.info
  have hl := run_loadCells_list (P := P) w a cs hsrc
  have hst := run_storeCells_at P g o te cs 0 cur.toArray w hg (by simpa using hfit) h1
  have hn' : Nat.min sLen dLen * sz = cs.length := hn.symm
  simp [Builtin.copy_, run_underlying hT.und, Builtin.lenOf, Builtin.firstCells, sizeOf, typeInfo, hi, hs, hn', hl, hst]
theorem run_op_copy {P : Program} {t : TypeId} {o : Oper} {a : Act} {x y : Operand} (ho : o.op = .call { callee := .builtin .copy, args := #[x, y], argTypes := #[t, t] }) {v u v' : Value} {w w' : World} (hx : a.eval x = v) (hy : a.eval y = u)
    (h : (Builtin.copy_ #[t, t] o.type #[v, u]).run P w = .ok v' w') : (execOp a.eval o).run P w = .ok (.value v') w' := by
  simp [execOp, ho, resolve, invoke, builtin, hx, hy, h, Result.andThen]

theorem run_op_clear {P : Program} {t : TypeId} {o : Oper} {a : Act} {x : Operand} (ho : o.op = .call { callee := .builtin .clear, args := #[x], argTypes := #[t] }) {v v' : Value} {w w' : World} (hx : a.eval x = v)
    (h : (Builtin.clear_ #[t] o.type #[v]).run P w = .ok v' w') : (execOp a.eval o).run P w = .ok (.value v') w' := by
  simp [execOp, ho, resolve, invoke, builtin, hx, h, Result.andThen]

/-- Cells that are laid over others, from place o on. -/
def putIn (cur : List Value) (o : Nat) (cs : List Value) : List Value := cur.take o ++ cs ++ cur.drop (o + cs.length)
theorem run_copy_put {P : Program} {t e : TypeId} {z : Value} {sz bytes : Nat} (hT : RowT P t e z sz bytes) (ty : TypeId) {w : World} {g o dLen dCap : Nat} {a : Addr} {sLen sCap : Nat} {cur cs : List Value} {te : TypeId}
    (hg : w.heap[g]? = some (.cells cur.toArray te (0, 0))) (hn : cs.length = min sLen dLen * sz) (hsrc : ∀ j v, cs[j]? = some v → w.cell? (a.add j) = some v) (hfit : o + cs.length ≤ cur.length) (h1 : ∀ v ∈ cs, v.oneCell' = true) :
    ∃ w', (Builtin.copy_ #[t, t] ty #[.slice (some ⟨g, o, none⟩) dLen dCap, .slice (some a) sLen sCap]).run P w = .ok (goInt (min sLen dLen : Nat)) w' ∧ w'.heap[g]? = some (.cells (putIn cur o cs).toArray te (0, 0)) ∧ w.grownBy w' (some g) := by
  refine ⟨_, run_copy_at hT ty hg hn hsrc hfit h1, setRow_heap w g cur.toArray _ te (0, 0) hg, ⟨rfl, rfl, rfl, by simp [World.setRow], fun k _ hk => setRow_other w g k _ (fun e => hk (by rw [e]))⟩⟩
theorem cells_frozen {w : World} {b : Nat} {cs : Array Value} {t : TypeId} (h : w.heap[b]? = some (.cells cs t (0, 0))) (j : Nat) : w.frozen? ⟨b, j, none⟩ = false := by
  unfold World.frozen?
  simp [h]
theorem cells_cell {w : World} {b : Nat} {cs : List Value} {t : TypeId} (h : w.heap[b]? = some (.cells cs.toArray t (0, 0))) {j : Nat} {u : Value} (hu : cs[j]? = some u) : w.cell? ⟨b, j, none⟩ = some u := by
  unfold World.cell?
  simp only [h]
  simpa using hu
theorem cells_shape {w : World} {b : Nat} {cs : List Value} {t : TypeId} (h : w.heap[b]? = some (.cells cs.toArray t (0, 0))) : w.shape? b = some (t, cs.length) := by
  unfold World.shape?
  simp [h]
theorem cut_in {sz g o c k : Nat} (h : k ≠ c) : cutA sz (some ⟨g, o, none⟩) c k = some ⟨g, o + k * sz, none⟩ := by
  unfold cutA
  rw [if_neg (by omega)]
  simp [add_lit]

/-! ### Stores -/
theorem wpList_skip {P : Program} {ops : Array Oper} {Q : Exit → Act → World → Prop} {rest : List Oper} {o : Oper} {a : Act} {w w' : World}
    (hg : Region.wanted o (yielded ops a.tmps) = true) (hr : (execOp a.eval o).run P w = .ok .skip w') (h : wpList P ops Q rest (a.put o.dst undef) w') : wpList P ops Q (o :: rest) a w :=
  wpList_step fun K hK => by
    rw [if_pos hg]
    unfold Oper.wp
    rw [hr]
    exact hK _ _ h
theorem run_store_put {P : Program} {ty : TypeId} {w : World} {g o : Nat} {cur vs : List Value} {te : TypeId} (hg : w.heap[g]? = some (.cells cur.toArray te (0, 0))) (hi : (P.info? ty).map (·.size) = some vs.length) (hfit : o + vs.length ≤ cur.length) (h1 : ∀ v ∈ vs, v.oneCell' = true) :
    (storeVar ty ⟨g, o, none⟩ (.agg vs.toArray)).run P w = .ok () (w.setRow g (putIn cur o vs).toArray) := by
  have hst := run_storeCells_at P g o te vs 0 cur.toArray w hg (by simpa using hfit) h1
  cases hq : P.info? ty with
  | none => simp [hq] at hi
  | some i =>
    have hi2 : i.size = vs.length := by simpa [hq] using hi
    simp [storeVar, sizeOf, typeInfo, hq, hi2, Value.cells, hst, putIn]
section
variable {P : Program} {ops : Array Oper} {Q : Exit → Act → World → Prop} {rest : List Oper} {a : Act} {w : World} {ty' : TypeId} {pos : String} {after : Array Edge} {guard : Option (Nat × Bool)}
theorem st_store {ty : TypeId} {x y : Operand} {g o : Nat} {cur vs : List Value} {te : TypeId} (hw : w.heap[g]? = some (.cells cur.toArray te (0, 0))) (hi : (P.info? ty).map (·.size) = some vs.length) (hfit : o + vs.length ≤ cur.length) (h1 : ∀ v ∈ vs, v.oneCell' = true)
    (h : ∀ w', w'.heap[g]? = some (.cells (putIn cur o vs).toArray te (0, 0)) → w.grownBy w' (some g) → wpList P ops Q rest a w')
    (hg : Region.wanted ⟨none, .store ty x y, ty', pos, after, guard⟩ (yielded ops a.tmps) = true := by exact rfl) (ex : a.eval x = .pointer (some ⟨g, o, none⟩) := by exact rfl) (ey : a.eval y = .agg vs.toArray := by exact rfl) :
    wpList P ops Q (⟨none, .store ty x y, ty', pos, after, guard⟩ :: rest) a w := by
  have hr := run_store_put (P := P) hw hi hfit h1
  refine wpList_skip (w' := w.setRow g (putIn cur o vs).toArray) hg ?_ (h _ (setRow_heap w g cur.toArray _ te (0, 0) hw) ⟨rfl, rfl, rfl, by simp [World.setRow], fun k _ hk => setRow_other w g k _ (fun e => hk (by rw [e]))⟩)
  simp [execOp, ex, ey, Instr.storeAt, Instr.sureAddr, hr, Result.andThen]
theorem st_store1 {ty : TypeId} {x y : Operand} {g o : Nat} {cs : List Value} {p : Option Addr} {n c : Nat} {te : TypeId} (hw : ObjAt w g te cs) (hi : (P.info? ty).map (·.size) = some 1) (ho : o < cs.length)
    (h : ∀ w', ObjAt w' g te (cs.set o (.slice p n c)) → w.grownBy w' (some g) → wpList P ops Q rest a w')
    (hg : Region.wanted ⟨none, .store ty x y, ty', pos, after, guard⟩ (yielded ops a.tmps) = true := by exact rfl) (ex : a.eval x = .pointer (some ⟨g, o, none⟩) := by exact rfl) (ey : a.eval y = .slice p n c := by exact rfl) :
    wpList P ops Q (⟨none, .store ty x y, ty', pos, after, guard⟩ :: rest) a w := by
  have h1 : ∀ v ∈ [Value.slice p n c], v.oneCell' = true := fun v hv => by rw [List.mem_singleton] at hv; subst hv; rfl
  have hst := run_storeCells_at P g o te [.slice p n c] 0 cs.toArray w hw (by simp only [List.length_singleton, List.size_toArray]; omega) h1
  have e : (cs.take o ++ [Value.slice p n c] ++ cs.drop (o + 1)) = cs.set o (.slice p n c) := by
    rw [List.set_eq_take_append_cons_drop, if_pos ho, List.append_assoc]
    rfl
  have hr : (storeVar ty ⟨g, o, none⟩ (.slice p n c)).run P w = .ok () (w.setRow g (cs.set o (.slice p n c)).toArray) := by
    cases hq : P.info? ty with
    | none => simp [hq] at hi
    | some i =>
      have hi2 : i.size = 1 := by simpa [hq] using hi
      rw [← e]
      simp [storeVar, sizeOf, typeInfo, hq, hi2, Value.cells, hst]
  refine wpList_skip (w' := w.setRow g (cs.set o (.slice p n c)).toArray) hg ?_ (h _ (setRow_heap w g cs.toArray _ te (0, 0) hw) ⟨rfl, rfl, rfl, by simp [World.setRow], fun k _ hk => setRow_other w g k _ (fun e => hk (by rw [e]))⟩)
  simp [execOp, ex, ey, Instr.storeAt, Instr.sureAddr, hr, Result.andThen]
end
/-- Zeros over a row's cells. -/
theorem run_clear_put {P : Program} {t e : TypeId} {z : Value} {sz bytes : Nat} (hT : RowT P t e z sz bytes) (ty : TypeId) {w : World} {g o n c : Nat} {cur : List Value} {te : TypeId} (hg : w.heap[g]? = some (.cells cur.toArray te (0, 0))) (hn : 0 < n) (hfit : o + n * sz ≤ cur.length) (h1 : z.cells.all (·.oneCell') = true) :
    ∃ w' zs, (Builtin.clear_ #[t] ty #[.slice (some ⟨g, o, none⟩) n c]).run P w = .ok (.tuple #[]) w' ∧ zs.length = n * sz ∧ w'.heap[g]? = some (.cells (putIn cur o zs).toArray te (0, 0)) ∧ w.grownBy w' (some g) := by
  obtain ⟨i, hi, hz, hs, hb⟩ := hT.info
  have hl : (Builtin.zeroCells z.cells n).toList.length = n * sz := by rw [Array.length_toList, size_zeroCells, hT.zs]
  have hst := run_storeCells_at P g o te (Builtin.zeroCells z.cells n).toList 0 cur.toArray w hg (by rw [hl]; simpa using hfit) (by
    intro v hv
    rw [Array.mem_toList_iff] at hv
    unfold Builtin.zeroCells at hv
    obtain ⟨j, _, rfl⟩ := Array.mem_map.1 hv
    rw [Array.all_eq_true] at h1
    have hlt : j % z.cells.size < z.cells.size := Nat.mod_lt _ (by rw [hT.zs]; exact hT.pos)
    rw [getElem!_pos z.cells (j % z.cells.size) hlt]
    exact h1 _ hlt)
  refine ⟨w.setRow g (putIn cur o (Builtin.zeroCells z.cells n).toList).toArray, _, ?_, hl, setRow_heap w g cur.toArray _ te (0, 0) hg, ⟨rfl, rfl, rfl, by simp [World.setRow], fun k _ hk => setRow_other w g k _ (fun e => hk (by rw [e]))⟩⟩
  have hzv : (zeroValue e).run P w = .ok z w := by simp [zeroValue, typeInfo, hi, hz]
  cases n with
  | zero => omega
  | succ n => simp [Builtin.clear_, run_underlying hT.und, hzv, hst, putIn]

/-- 'append(s[:i], make([]T, k)...)' where there is no room: a new row. -/
theorem run_grow_zeros {P : Program} {t tn e : TypeId} {z : Value} {sz bytes : Nat} (hT : RowT P t e z sz bytes) (hn : P.underlying tn = some (.int .i64)) (ty : TypeId) {w : World} {g i c k m : Nat} {C0 xs : List Value} {te : TypeId}
    (hg : w.heap[g]? = some (.cells C0.toArray te (0, 0))) (hxs : ∀ (j : Nat) (u : Value), xs[j]? = some u → C0[j]? = some u) (hi : i * sz ≤ xs.length) (hm : i + k = m) (hc : c < m) (h0 : 0 < k) (hb : m * bytes ≤ 140737488355328) (h63 : m ≤ maxLen) :
    ∃ w' G R, (Builtin.append_ #[t, tn] ty #[.slice (some ⟨g, 0, none⟩) i c, .int .i64 (k : Int)]).run P w = .ok (.slice (some ⟨w.heap.size, 0, none⟩) m G) w' ∧ w'.heap[w.heap.size]? = some (.cells (List.toArray R) e (0, 0)) ∧ R.length = G * sz ∧ R.take (i * sz) = xs.take (i * sz) ∧ m ≤ G ∧ G ≤ maxLen ∧ Ext w w' := by
  subst hm
  obtain ⟨inf, hinf, hz, hs, hby⟩ := hT.info
  have hold : (Builtin.firstCells inf.size i (.slice (some ⟨g, 0, none⟩) i c)).run P w.drew = .ok (xs.take (i * sz)).toArray w.drew := by
    rw [hs]
    exact run_firstCells_some (P := P) w.drew sz i ⟨g, 0, none⟩ i c (xs.take (i * sz)) (by rw [List.length_take, Nat.min_eq_left hi]) (fun j v hj => by
      rw [add_lit, Nat.zero_add]
      rw [List.getElem?_take] at hj
      split at hj
      · exact cells_cell (w := w) hg (hxs j v hj)
      · cases hj)
  have hfit := growslice_fits hc hb
  have h48 : k * bytes ≤ 281474976710656 := by
    have : k * bytes ≤ (i + k) * bytes := Nat.mul_le_mul_right _ (by omega)
    omega
  have h := Lib.run_append_grow_zeros w t tn ty e inf z .i64 .i64 hT.und hn hinf hz (some ⟨g, 0, none⟩) i c (xs.take (i * sz)) hold k h0 (by rw [hs]; exact hT.pos) hc (by unfold maxLen at h63; omega) (by rw [hby]; exact h48) (by rw [hby]; exact hfit)
  have hge := grownCap_ge w (i + k) c e
  have hle := grownCap_le_maxLen w (i + k) c e h63
  generalize grownCap w (i + k) c e = G at *
  refine ⟨_, G, (((xs.take (i * sz)).toArray ++ Builtin.zeroCells z.cells k ++ Builtin.zeroCells z.cells (G - (i + k)))).toList, h, ?_, ?_, ?_, hge, hle, (Ext.drew1 w).trans (Ext.alloc w.drew _)⟩
  · rw [Array.toArray_toList]
    exact heap_alloc_new w.drew _
  · rw [Array.length_toList, Array.size_append, Array.size_append, size_zeroCells, size_zeroCells, hT.zs, List.size_toArray, List.length_take, Nat.min_eq_left hi, ← Nat.add_mul, ← Nat.add_mul]
    congr 1
    omega
  · rw [Array.toList_append, Array.toList_append, List.append_assoc]
    show ((xs.take (i * sz)).toArray.toList ++ _).take _ = _
    rw [List.toList_toArray, List.take_append_of_le_length (by rw [List.length_take]; omega), List.take_take, Nat.min_self]

/-! ### The cells of a row into which one element goes -/
section
variable {n i sz G : Nat} {xs vs cur : List Value}
theorem putIn_length {o : Nat} {cs : List Value} (ho : o + cs.length ≤ cur.length) : (putIn cur o cs).length = cur.length := by
  unfold putIn
  rw [List.length_append, List.length_append, List.length_take, List.length_drop]
  omega
theorem putIn_get {cur cs : List Value} {o : Nat} (ho : o + cs.length ≤ cur.length) (j : Nat) : (putIn cur o cs)[j]? = if j < o then cur[j]? else if j < o + cs.length then cs[j - o]? else cur[j]? := by
  unfold putIn
  rw [List.append_assoc, List.getElem?_append, List.length_take, Nat.min_eq_left (by omega)]
  split
  · rename_i h; rw [List.getElem?_take, if_pos h]
  · rename_i h
    rw [List.getElem?_append]
    by_cases h2 : j < o + cs.length
    · rw [if_pos (by omega), if_pos h2]
    · rw [if_neg (by omega), if_neg h2, List.getElem?_drop]
      congr 1
      omega
theorem mid_get {xs vs : List Value} {k : Nat} (hk : k ≤ xs.length) (j : Nat) : (xs.take k ++ vs ++ xs.drop k)[j]? = if j < k then xs[j]? else if j < k + vs.length then vs[j - k]? else xs[j - vs.length]? := by
  rw [List.append_assoc, List.getElem?_append, List.length_take, Nat.min_eq_left hk]
  split
  · rename_i h; rw [List.getElem?_take, if_pos h]
  · rename_i h
    rw [List.getElem?_append]
    by_cases h2 : j < k + vs.length
    · rw [if_pos (by omega), if_pos h2]
    · rw [if_neg (by omega), if_neg h2, List.getElem?_drop]
      congr 1
      omega
/-- What stood from place k on is moved by one element; then the element goes in. -/
theorem shift_cells {k s : Nat} (hx : xs.length + s ≤ cur.length) (hk : k ≤ xs.length) (hv : vs.length = s) (hc : cur.take xs.length = xs) :
    (putIn (putIn cur (k + s) (xs.drop k)) k vs).take (xs.length + s) = xs.take k ++ vs ++ xs.drop k := by
  have hcg : ∀ j, j < xs.length → cur[j]? = xs[j]? := fun j hj => by
    have : (cur.take xs.length)[j]? = xs[j]? := by rw [hc]
    rwa [List.getElem?_take, if_pos hj] at this
  have hd : (xs.drop k).length = xs.length - k := List.length_drop ..
  apply List.ext_getElem?
  intro j
  rw [List.getElem?_take, mid_get hk]
  by_cases hj : j < xs.length + s
  · rw [if_pos hj, putIn_get (by rw [putIn_length (by omega)]; omega), putIn_get (by omega)]
    by_cases h1 : j < k
    · rw [if_pos h1, if_pos h1, if_pos (by omega), hcg j (by omega)]
    · rw [if_neg h1, if_neg h1]
      by_cases h2 : j < k + vs.length
      · rw [if_pos h2, if_pos h2]
      · rw [if_neg h2, if_neg h2, if_neg (by omega), if_pos (by omega), List.getElem?_drop]
        congr 1
        omega
  · rw [if_neg hj, if_neg (by omega), if_neg (by omega), List.getElem?_eq_none (by omega)]
/-- What stood ahead of place k, the element, what stood from k on. -/
theorem fresh_cells {k s : Nat} (hx : xs.length + s ≤ cur.length) (hk : k ≤ xs.length) (hv : vs.length = s) (hc : cur.take k = xs.take k) :
    (putIn (putIn cur k vs) (k + s) (xs.drop k)).take (xs.length + s) = xs.take k ++ vs ++ xs.drop k := by
  have hcg : ∀ j, j < k → cur[j]? = xs[j]? := fun j hj => by
    have : (cur.take k)[j]? = (xs.take k)[j]? := by rw [hc]
    rwa [List.getElem?_take, List.getElem?_take, if_pos hj, if_pos hj] at this
  have hd : (xs.drop k).length = xs.length - k := List.length_drop ..
  apply List.ext_getElem?
  intro j
  rw [List.getElem?_take, mid_get hk]
  by_cases hj : j < xs.length + s
  · rw [if_pos hj, putIn_get (by rw [putIn_length (by omega)]; omega), putIn_get (by omega)]
    by_cases h1 : j < k
    · rw [if_pos h1, if_pos (by omega), if_pos h1, hcg j h1]
    · rw [if_neg h1]
      by_cases h2 : j < k + vs.length
      · rw [if_pos h2, if_pos (by omega), if_neg h1, if_pos h2]
      · have e1 : ¬ j < k + s := by omega
        have e2 : j < k + s + (xs.drop k).length := by omega
        rw [if_neg e1, if_pos e2, if_neg h1, if_neg h2, List.getElem?_drop]
        congr 1
        omega
  · rw [if_neg hj, if_neg (by omega), if_neg (by omega), List.getElem?_eq_none (by omega)]
end

/-! ### Rows -/
section
variable {α : Type} {e sz : Nat} {R : World → List Value → α → Prop}
theorem SRow.none_nil {S : Nat → Prop} {w : World} {n c : Nat} {xs : List α} (h : SRow sz R S w (.slice none n c) xs) (h0 : 0 < sz) : xs = [] := by
  obtain ⟨css, p, c', h1, h2, h3, h4, h5, h6⟩ := h
  cases h2
  have : css.flatten = [] := by
    cases hf : css.flatten with
    | nil => rfl
    | cons a r => obtain ⟨b, o, e, _⟩ := h5 (by rw [hf]; simp); cases e
  have hl := chunks_length h1
  rw [this, List.length_nil] at hl
  have : css.length = 0 := by
    cases hc : css.length with
    | zero => rfl
    | succ k => rw [hc, Nat.add_mul] at hl; omega
  exact List.eq_nil_of_length_eq_zero (by rw [← h6.1]; exact this)
theorem flat_set {css : List (List Value)} {vs : List Value} (h : Chunks sz css) (hv : vs.length = sz) {i : Nat} (hi : i < css.length) : (css.set i vs).flatten = putIn css.flatten (i * sz) vs := by
  rw [List.set_eq_take_append_cons_drop, if_pos hi]
  unfold putIn
  rw [List.flatten_append, List.flatten_cons, chunks_take h, chunks_drop h, hv, List.append_assoc, Nat.add_mul, Nat.one_mul]
theorem putIn_take {cur xs vs : List Value} {o : Nat} (hc : cur.take xs.length = xs) (ho : o + vs.length ≤ xs.length) (hx : xs.length ≤ cur.length) : (putIn cur o vs).take xs.length = putIn xs o vs := by
  have hcg : ∀ j, j < xs.length → cur[j]? = xs[j]? := fun j hj => by
    have : (cur.take xs.length)[j]? = xs[j]? := by rw [hc]
    rwa [List.getElem?_take, if_pos hj] at this
  apply List.ext_getElem?
  intro j
  rw [List.getElem?_take, putIn_get (by omega), putIn_get ho]
  by_cases hj : j < xs.length
  · rw [if_pos hj, hcg j hj]
  · rw [if_neg hj, if_neg (by omega), if_neg (by omega), List.getElem?_eq_none (by omega)]
theorem ORow.kept {S : Nat → Prop} {w w' : World} {B : Nat} {g : Option Nat} {v : Value} {xs : List α} (h : ORow e sz R S w B v xs) (hg : w.grownBy w' g) (hS : ∀ k, S k → some k ≠ g) (hn : v.ownBlock = none ∨ v.ownBlock ≠ g) : ORow e sz R S w' B v xs := by
  obtain ⟨css, h1, h2, h3⟩ := h
  exact ⟨css, h1, h2.kept hg hn, h3.later ((keeps_grown hg).mono fun k _ hk => hS k hk.1) fun _ _ h => h⟩
theorem SRow.kept {S : Nat → Prop} {w w' : World} {g : Option Nat} {v : Value} {xs : List α} (h : SRow sz R S w v xs) (hg : w.grownBy w' g) (hS : ∀ k, S k → some k ≠ g) (hn : ∀ k, v.ownBlock = some k → some k ≠ g) : SRow sz R S w' v xs := by
  obtain ⟨css, p, c, h1, rfl, h3, h4, h5, h6⟩ := h
  refine ⟨css, p, c, h1, rfl, h3, h4, fun hne => ?_, h6.later ((keeps_grown hg).mono fun k _ hk => hS k hk) fun _ _ h => h⟩
  obtain ⟨b, o, e, hc⟩ := h5 hne
  refine ⟨b, o, e, fun j u hu => ?_⟩
  subst e
  exact (keeps_grown hg).cell (a := ⟨b, o + j, none⟩) (hn b rfl) (hc j u hu)
theorem SRow.low {w : World} {v : Value} {xs : List α} (h : SRow sz R (fun _ => True) w v xs) : SRow sz R (fun k => k < w.heap.size) w v xs := h.mono fun _ hk _ => hk
/-- One element of a row of the call's own is written over. -/
theorem ORow.setAt {S : Nat → Prop} {w : World} {B : Nat} {v : Value} {xs : List α} (h : ORow e sz R S w B v xs) {i : Nat} (hi : i < xs.length) :
    ∃ g c C0, v = .slice (some ⟨g, 0, none⟩) xs.length c ∧ B ≤ g ∧ w.heap[g]? = some (.cells (List.toArray C0) e (0, 0)) ∧ xs.length * sz ≤ C0.length ∧
      ∀ (w' : World) (vs : List Value) (x : α), vs.length = sz → (∀ u ∈ vs, u.oneCell' = true) → w'.heap[g]? = some (.cells (List.toArray (putIn C0 (i * sz) vs)) e (0, 0)) → w.grownBy w' (some g) → Under (fun k => S k ∧ some k ≠ v.ownBlock) (fun w' => R w' vs x) w → ORow e sz R S w' B v (xs.set i x) := by
  obtain ⟨css, h1, h2, h3⟩ := h
  rcases h2.2 with ⟨_, hn⟩ | ⟨g, cap, cur, rfl, hb, hg, hnc, hcm, hcs, htk⟩
  · omega
  have hmul : xs.length * sz ≤ cap * sz := Nat.mul_le_mul_right _ hnc
  have hcl : cur.toList.length = cap * sz := hcs
  refine ⟨g, cap, cur.toList, rfl, hb, by rw [Array.toArray_toList]; exact hg, by rw [hcl]; exact hmul, fun w' vs x hv hone hg' hgr hu => ?_⟩
  have hi1 : (i + 1) * sz ≤ xs.length * sz := Nat.mul_le_mul_right _ hi
  rw [Nat.add_mul, Nat.one_mul] at hi1
  have hfl : css.flatten.length = xs.length * sz := h2.1
  have hii : i < css.length := by rw [h3.1]; exact hi
  refine ⟨css.set i vs, ?_, ?_, ?_⟩
  · intro cs hcs'
    rcases List.mem_or_eq_of_mem_set hcs' with h | rfl
    · exact h1 cs h
    · exact ⟨hv, hone⟩
  · rw [List.length_set, flat_set h1 hv hii]
    refine ⟨by rw [putIn_length (by omega)]; exact hfl, .inr ⟨g, cap, _, rfl, hb, hg', hnc, hcm, ?_, ?_⟩⟩
    · rw [List.size_toArray, putIn_length (by omega), hcl]
    · rw [List.toList_toArray, ← hfl]
      exact putIn_take (by rw [hfl]; exact htk) (by omega) (by omega)
  · refine Items.later (S := fun k => S k ∧ some k ≠ (Value.slice (some ⟨g, 0, none⟩) xs.length cap).ownBlock) (w := w) ⟨by rw [List.length_set, List.length_set]; exact h3.1, fun j cs y hc hy => ?_⟩ ((keeps_grown hgr).mono fun k _ hk => hk.2) fun _ _ h => h
    by_cases hj : j = i
    · subst hj
      rw [List.getElem?_set_self hii] at hc
      rw [List.getElem?_set_self hi] at hy
      cases hc; cases hy
      exact hu
    · rw [List.getElem?_set_ne (fun e => hj e.symm)] at hc hy
      exact h3.2 j cs y hc hy
/-- A row whose end is written over, and cut off. -/
theorem ORow.cutAt {S : Nat → Prop} {w : World} {B : Nat} {v : Value} {xs : List α} (h : ORow e sz R S w B v xs) (h0 : 0 < xs.length) {i : Nat} (hi : i ≤ xs.length) :
    ∃ g c C0, v = .slice (some ⟨g, 0, none⟩) xs.length c ∧ B ≤ g ∧ w.heap[g]? = some (.cells (List.toArray C0) e (0, 0)) ∧ xs.length * sz ≤ C0.length ∧ xs.length ≤ c ∧
      ∀ (w' : World) (zs : List Value), i * sz + zs.length ≤ C0.length → w'.heap[g]? = some (.cells (List.toArray (putIn C0 (i * sz) zs)) e (0, 0)) → w.grownBy w' (some g) → ORow e sz R S w' B (.slice (some ⟨g, 0, none⟩) i c) (xs.take i) := by
  obtain ⟨css, h1, h2, h3⟩ := h
  rcases h2.2 with ⟨_, hn⟩ | ⟨g, cap, cur, rfl, hb, hg, hnc, hcm, hcs, htk⟩
  · omega
  have hmul : xs.length * sz ≤ cap * sz := Nat.mul_le_mul_right _ hnc
  have hcl : cur.toList.length = cap * sz := hcs
  have hi1 : i * sz ≤ xs.length * sz := Nat.mul_le_mul_right _ hi
  have hfl : css.flatten.length = xs.length * sz := h2.1
  refine ⟨g, cap, cur.toList, rfl, hb, by rw [Array.toArray_toList]; exact hg, by rw [hcl]; exact hmul, hnc, fun w' zs hz hg' hgr => ?_⟩
  have hlen : (xs.take i).length = i := by rw [List.length_take, Nat.min_eq_left hi]
  refine ⟨css.take i, fun cs hcs' => h1 cs (List.mem_of_mem_take hcs'), ?_, ?_⟩
  · rw [hlen, chunks_take h1]
    refine ⟨by rw [List.length_take, hfl]; omega, .inr ⟨g, cap, _, rfl, hb, hg', by omega, hcm, ?_, ?_⟩⟩
    · rw [List.size_toArray, putIn_length (by omega), hcl]
    · have e1 : (putIn cur.toList (i * sz) zs).take (i * sz) = cur.toList.take (i * sz) := by
        unfold putIn
        rw [List.append_assoc, List.take_append_of_le_length (by rw [List.length_take]; omega), List.take_take, Nat.min_self]
      rw [List.toList_toArray, e1, ← htk, List.take_take, Nat.min_eq_left hi1]
  · exact Items.later (S := fun k => S k ∧ some k ≠ (Value.slice (some ⟨g, 0, none⟩) xs.length cap).ownBlock) (h3.take i) ((keeps_grown hgr).mono fun k _ hk => hk.2) fun _ _ h => h
theorem flat_mid {css : List (List Value)} {vs : List Value} (h : Chunks sz css) (i : Nat) : (css.take i ++ vs :: css.drop i).flatten = css.flatten.take (i * sz) ++ vs ++ css.flatten.drop (i * sz) := by
  rw [List.flatten_append, List.flatten_cons, chunks_take h, chunks_drop h, List.append_assoc]
/-- A row into whose middle an element has gone. -/
theorem ORow.inserted {S : Nat → Prop} {w w' : World} {B i : Nat} {v v' : Value} {xs : List α} {x : α} {css : List (List Value)} {vs : List Value} (hch : Chunks sz css) (hit : Items R (fun k => S k ∧ some k ≠ v.ownBlock) w css xs) (hi : i ≤ xs.length)
    (hvs : vs.length = sz) (h1 : ∀ u ∈ vs, u.oneCell' = true) (hx : Under (fun k => S k ∧ some k ≠ v.ownBlock) (fun w' => R w' vs x) w) (hg : w.grownBy w' v.ownBlock) (hb : v'.ownBlock = v.ownBlock ∨ ∃ k, v'.ownBlock = some k ∧ w.heap.size ≤ k)
    (hown : w'.ownsRow B e sz v' (xs.length + 1) (css.flatten.take (i * sz) ++ vs ++ css.flatten.drop (i * sz))) : ORow e sz R S w' B v' (xs.take i ++ x :: xs.drop i) := by
  have hlen : (xs.take i ++ x :: xs.drop i).length = xs.length + 1 := by
    rw [List.length_append, List.length_cons, List.length_take, List.length_drop]; omega
  refine ⟨css.take i ++ vs :: css.drop i, ?_, by rw [hlen, flat_mid hch]; exact hown, ?_⟩
  · intro cs hcs
    rcases List.mem_append.1 hcs with h | h
    · exact hch cs (List.mem_of_mem_take h)
    · rcases List.mem_cons.1 h with rfl | h
      · exact ⟨hvs, h1⟩
      · exact hch cs (List.mem_of_mem_drop h)
  · have h3 : Items R (fun k => S k ∧ some k ≠ v.ownBlock) w (css.take i ++ ([vs] ++ css.drop i)) (xs.take i ++ ([x] ++ xs.drop i)) := (hit.take i).append ((Items.one hx).append (hit.drop i))
    refine Items.later (T := fun k => S k ∧ some k ≠ v'.ownBlock) h3 ((keeps_grown hg).mono fun k _ h => h.2) fun k hk hh => ⟨hh.1, ?_⟩
    rcases hb with hb | ⟨b, hb, hlt⟩
    · rw [hb]; exact hh.2
    · rw [hb]; intro e; cases e; omega
end
/-- What a loop that moves what is kept ahead has come to. -/
theorem kept_step {α : Type} {keep : α → Bool} {xs ys : List α} {i j : Nat} {x : α} (hij : i < j) (hj : j < xs.length) (hl : ys.length = xs.length) (h1 : ys.take i = (xs.take j).filter keep) (h2 : ys.drop j = xs.drop j) (hx : xs[j]? = some x) :
    ys[j]? = some x ∧ (keep x = true → (ys.set i x).take (i + 1) = (xs.take (j + 1)).filter keep ∧ (ys.set i x).drop (j + 1) = xs.drop (j + 1)) ∧ (keep x = false → ys.take i = (xs.take (j + 1)).filter keep) ∧ ys.drop (j + 1) = xs.drop (j + 1) := by
  have hxj : xs[j] = x := by rw [List.getElem?_eq_getElem hj] at hx; exact Option.some.inj hx
  have hsn : xs.take (j + 1) = xs.take j ++ [x] := by rw [List.take_succ_eq_append_getElem hj, hxj]
  have hd1 : ys.drop (j + 1) = xs.drop (j + 1) := by
    have := congrArg (List.drop 1) h2
    rwa [List.drop_drop, List.drop_drop] at this
  refine ⟨?_, fun hk => ⟨?_, ?_⟩, fun hk => ?_, hd1⟩
  · have := congrArg (fun l => l[0]?) h2
    simp only [List.getElem?_drop, Nat.add_zero] at this
    rw [this, hx]
  · rw [hsn, List.filter_append, List.filter_cons, hk]
    simp only [if_true, List.filter_nil]
    rw [← h1, List.take_succ_eq_append_getElem (by rw [List.length_set]; omega), List.getElem_set_self, List.take_set_of_le (by omega)]
  · rw [List.drop_set_of_lt (by omega)]
    exact hd1
  · rw [hsn, List.filter_append, List.filter_cons, hk]
    simpa using h1
theorem kept_start {α : Type} {del : α → Bool} {xs : List α} {i : Nat} (h : xs.findIdx? del = some i) : i < xs.length ∧ xs.take i = (xs.take (i + 1)).filter (fun x => !(del x)) := by
  rw [List.findIdx?_eq_some_iff_getElem] at h
  obtain ⟨hi, hp, hn⟩ := h
  refine ⟨hi, ?_⟩
  rw [List.take_succ_eq_append_getElem hi, List.filter_append, List.filter_cons, hp]
  simp only [Bool.not_true, Bool.false_eq_true, if_false, List.filter_nil, List.append_nil]
  rw [List.filter_eq_self.2]
  intro x hx
  obtain ⟨j, hj, rfl⟩ := List.getElem_of_mem hx
  rw [List.length_take] at hj
  rw [List.getElem_take]
  have := hn j (by omega)
  simpa using this
theorem kept_all {α : Type} {del : α → Bool} {xs : List α} (h : xs.findIdx? del = none) : xs.filter (fun x => !(del x)) = xs := by
  rw [List.findIdx?_eq_none_iff] at h
  exact List.filter_eq_self.2 fun x hx => by simp [h x hx]
end Go.Proofs.Ytpejdompanhieaa
