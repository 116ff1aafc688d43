/- 'append(x, make([]byte, n)...)' onto a row of the call's own; 'copy' into a row of the call's own. -/
import Derived.Test.YtlbeemjcndhenaaMem
import Derived.Lib.AppendZerosOnto
namespace Go.Proofs.Ytlbeemjcndhenaa
open Go.RowKit

theorem zeroCells_bs (n : Nat) : Builtin.zeroCells (Value.int IntKind.u8 0).cells n = (bs (List.replicate n 0)).toArray := by
  apply Array.toList_inj.1
  show (Builtin.zeroCells #[Value.int .u8 0] n).toList = _
  apply List.ext_getElem?
  intro j
  by_cases hj : j < n
  · simp [Builtin.zeroCells, hj, Nat.mod_one, bs, bv]
  · simp [Builtin.zeroCells, hj, bs, bv]

section
variable {P : Program} {t tn : TypeId}
theorem run_append_zeros (hT : RowT P t 5 (.int .u8 0) 1 1) {kn : IntKind} (htn : P.underlying tn = some (.int kn)) (ty : TypeId) {w : World} {B : Nat} {v : Value} {l : List UInt8} (hown : FB w B v l)
    (kq : IntKind) (n : Nat) (hlen : l.length + n ≤ 140737488355328) (hB : B ≤ w.heap.size) :
    ∃ v' w', (Builtin.append_ #[t, tn] ty #[v, .int kq n]).run P w = .ok v' w' ∧ FB w' B v' (l ++ List.replicate n 0) ∧ w.grownBy w' v.ownBlock ∧ (v'.ownBlock = v.ownBlock ∨ v'.ownBlock = some w.heap.size) := by
  obtain ⟨i, hi, hz, hs, hby⟩ := hT.info
  have hw : IntKind.i64.wrap (n : Int) = n := by rw [IntKind.wrap_i64]; omega
  have hn48 : ¬ (281474976710656 < (n : Int)) := by omega
  by_cases hn : n = 0
  · subst hn
    refine ⟨v, w, ?_, by simpa using hown, ⟨rfl, rfl, rfl, Nat.le_refl _, fun _ _ _ => rfl⟩, .inl rfl⟩
    obtain ⟨p, c, rfl, hc, _, _⟩ := hown.slice
    cases p <;> simp [Builtin.append_, run_underlying hT.und, run_underlying htn, sizeOf, typeInfo, hi, asInt, asIntOf, hc, storeCells, hby, IntKind.wrap_i64]
  · have hown0 := hown
    rcases hown.2 with ⟨rfl, hl0⟩ | ⟨g, cap, cur, rfl, hb, hg, hnc, hcm, hcs, htk⟩
    · have hl : l = [] := List.eq_nil_of_length_eq_zero hl0
      subst hl
      have hr := Lib.run_append_nil_zeros (P := P) w t tn ty 5 i _ kq kn hT.und htn hi hz n (by omega) (by omega) (by omega) (by rw [hby]; omega)
      refine ⟨_, _, hr, ?_, ⟨rfl, rfl, rfl, by simp, fun k hk _ => Below.heap_alloc w.drew _ k hk⟩, .inr rfl⟩
      have hcap := grownCap_ge w n 0 5
      have hmx := grownCap_le_maxLen w n 0 5 (by simp only [maxLen]; omega)
      refine ⟨by simp [bs], .inr ⟨w.heap.size, _, _, by simp, hB, heap_alloc_new w.drew _, by simpa using hcap, hmx, ?_, ?_⟩⟩
      · rw [zeroCells_bs, zeroCells_bs]; simp [bs]; omega
      · rw [zeroCells_bs, zeroCells_bs]; simp [bs]
    · rw [Nat.mul_one] at hcs htk
      have hcl : (bs l).length = l.length := bs_length l
      by_cases hroom : l.length + n ≤ cap
      · have h1 : ∀ u ∈ bs (List.replicate n 0), u.oneCell' = true := bs_one _
        have hst := run_storeCells_at P g l.length 5 (bs (List.replicate n 0)) 0 cur w hg (by rw [bs_length]; simp; omega) h1
        simp only [Nat.add_zero] at hst
        have hzc : (zeroValue 5).run P w = .ok (.int .u8 0) w := by simp [zeroValue, typeInfo, hi, hz]
        refine ⟨.slice (some ⟨g, 0, none⟩) (l.length + n) cap, w.setRow g (cur.toList.take l.length ++ bs (List.replicate n 0) ++ cur.toList.drop (l.length + (bs (List.replicate n 0)).length)).toArray, ?_, ?_, ⟨rfl, rfl, rfl, by simp, fun k _ hk => setRow_other w g k _ (fun e => hk (by simp [Value.ownBlock, e]))⟩, .inl rfl⟩
        · simp [Builtin.append_, run_underlying hT.und, run_underlying htn, sizeOf, typeInfo, hi, hs, asInt, asIntOf, hw, hby, hn48, hroom, hn, hzc, zeroCells_bs, Addr.add_lit, hst, Int.not_lt.2 (Int.natCast_nonneg n)]
        · refine ⟨by simp [bs], .inr ⟨g, cap, _, by simp, hb, setRow_heap w g cur _ 5 _ hg, by simpa using hroom, hcm, ?_, ?_⟩⟩
          · simp [bs]; omega
          · rw [htk, bs_append]
            simp [bs, List.take_append]
            exact List.take_of_length_le (by simp)
      · have holds : ∀ j u, (bs l)[j]? = some u → w.cell? ((⟨g, 0, none⟩ : Addr).add j) = some u := World.ownsRow.cells hown0 (g := g) rfl
        have hf := run_firstCells_some (P := P) w.drew i.size l.length ⟨g, 0, none⟩ l.length cap (bs l) (by rw [hs, bs_length]; omega) holds
        have hr := Lib.run_append_grow_zeros (P := P) w t tn ty 5 i _ kq kn hT.und htn hi hz (some ⟨g, 0, none⟩) l.length cap (bs l) hf n (by omega) (by omega) (by omega) (by omega) (by rw [hby]; omega) (by rw [hby]; exact growslice_fits (by omega) (by omega))
        refine ⟨_, _, hr, ?_, ⟨rfl, rfl, rfl, by simp, fun k hk _ => Below.heap_alloc w.drew _ k hk⟩, .inr rfl⟩
        have hcap := grownCap_ge w (l.length + n) cap 5
        have hmx := grownCap_le_maxLen w (l.length + n) cap 5 (by simp only [maxLen]; omega)
        refine ⟨by simp [bs], .inr ⟨w.heap.size, _, _, by simp, hB, heap_alloc_new w.drew _, by simpa using hcap, hmx, ?_, ?_⟩⟩
        · rw [zeroCells_bs, zeroCells_bs]; simp [bs]; omega
        · rw [zeroCells_bs, zeroCells_bs, bs_append]; simp [bs, List.take_append, List.take_replicate]; exact List.take_of_length_le (by simp)
end

theorem wpList_append_zeros {P : Program} {t tn : TypeId} (hT : RowT P t 5 (.int .u8 0) 1 1) {kn : IntKind} (htn : P.underlying tn = some (.int kn)) {ops : Array Oper} {Q : Exit → Act → World → Prop} {rest : List Oper} {o : Oper} {a : Act} {w : World} (hg : Region.wanted o (yielded ops a.tmps) = true) {x y : Operand}
    (ho : o.op = .call { callee := .builtin .append, args := #[x, y], argTypes := #[t, tn] }) {vx : Value} {kq : IntKind} {n : Nat} (ex : a.eval x = vx) (ey : a.eval y = .int kq n)
    {B : Nat} {l : List UInt8} (hx : FB w B vx l) (hlen : l.length + n ≤ 140737488355328) (hB : B ≤ w.heap.size)
    (h : ∀ v' w', FB w' B v' (l ++ List.replicate n 0) → w.grownBy w' vx.ownBlock → (v'.ownBlock = vx.ownBlock ∨ v'.ownBlock = some w.heap.size) → wpList P ops Q rest (a.put o.dst v') w') : wpList P ops Q (o :: rest) a w := by
  obtain ⟨v', w', hr, h1, h2, h3⟩ := run_append_zeros hT htn o.type hx kq n hlen hB
  refine wpList_run hg ?_ (h v' w' h1 h2 h3)
  simp [execOp, ho, resolve, invoke, builtin, ex, ey, hr, Result.andThen]

/-- 'copy(out[off:], src)', out a row of the call's own. -/
theorem run_copy_bytes {P : Program} {t : TypeId} (hT : RowT P t 5 (.int .u8 0) 1 1) (ty : TypeId) {w : World} {B g n c : Nat} {l m : List UInt8} (hf : FB w B (.slice (some ⟨g, 0, none⟩) n c) l) {off dl dc : Nat} (hd : off + dl ≤ l.length) {y : Value} (hy : BV w y m) :
    ∃ w', (Builtin.copy_ #[t, t] ty #[.slice (some ⟨g, off, none⟩) dl dc, y]).run P w = .ok (goInt ((min m.length dl : Nat) : Int)) w' ∧
      FB w' B (.slice (some ⟨g, 0, none⟩) n c) (l.take off ++ (m.take (min m.length dl) ++ l.drop (off + min m.length dl))) ∧ w.grownBy w' (some g) := by
  obtain ⟨i, hi, hz, hs, hby⟩ := hT.info
  have hsz : (P.info? 5).map (·.size) = some 1 := by simp [hi, hs]
  obtain ⟨p, sc, rfl, _, _, hsee⟩ := hy
  by_cases h0 : min m.length dl = 0
  · refine ⟨w, ?_, ?_, ⟨rfl, rfl, rfl, Nat.le_refl _, fun _ _ _ => rfl⟩⟩
    · rw [h0]; exact run_copy_none w t t ty 5 _ p dl dc m.length sc hT.und hsz (by simpa [Nat.min_def] using h0)
    · rw [h0]; simpa using hf
  · obtain ⟨b, o, rfl, hcell⟩ := hsee (by intro e; apply h0; have h9 := bs_length m; rw [e] at h9; simp at h9; omega)
    obtain ⟨hbg, hgw, hn⟩ := hf.block
    subst hn
    rcases hf.2 with ⟨hv, _⟩ | ⟨g', cap, cur, hv, hb, hg, hnc, hcm, hcs, htk⟩
    · cases hv
    · cases hv
      rw [Nat.mul_one] at hcs htk
      have hlen : (bs (m.take (min m.length dl))).length = min m.length dl := by rw [bs_length, List.length_take]; omega
      have hr := run_copy_row (P := P) w t t ty 5 g off dl dc ⟨b, o, none⟩ m.length sc cur 5 (bs (m.take (min m.length dl))) hT.und hsz hg hlen
        (fun j v hj => by
          rw [add_lit]
          refine hcell j v ?_
          rw [bs_take, List.getElem?_take] at hj
          split at hj
          · exact hj
          · cases hj) (by rw [hlen]; omega) (bs_one _)
      rw [hlen] at hr
      refine ⟨_, hr, ?_, ⟨rfl, rfl, rfl, by simp, fun k _ hk => setRow_other w g k _ (fun e => hk (by rw [e]))⟩⟩
      have hL : (l.take off ++ (m.take (min m.length dl) ++ l.drop (off + min m.length dl))).length = l.length := by simp; omega
      unfold FB
      rw [hL]
      refine ⟨by rw [bs_length, hL]; omega, .inr ⟨g, c, _, rfl, hbg, setRow_heap w g cur _ 5 _ hg, hnc, hcm, ?_, ?_⟩⟩
      · simp [bs]; omega
      · obtain ⟨D, hcur⟩ : ∃ D, cur.toList = bs l ++ D := ⟨_, by rw [← htk]; exact (List.take_append_drop _ _).symm⟩
        have hbl : (bs l).length = l.length := bs_length l
        have t1 : (bs l ++ D).take off = bs (l.take off) := by rw [List.take_append_of_le_length (by omega), bs_take]
        have d1 : (bs l ++ D).drop (off + min m.length dl) = bs (l.drop (off + min m.length dl)) ++ D := by rw [List.drop_append_of_le_length (by omega), bs_drop]
        rw [hcur, t1, d1]
        have e3 : (bs (l.take off) ++ bs (m.take (min m.length dl)) ++ (bs (l.drop (off + min m.length dl)) ++ D)).toArray.toList = bs (l.take off ++ (m.take (min m.length dl) ++ l.drop (off + min m.length dl))) ++ D := by
          simp [bs_append]
        rw [e3, Nat.mul_one, List.take_append_of_le_length (by rw [bs_length, hL]; exact Nat.le_refl _), List.take_of_length_le (by rw [bs_length, hL]; exact Nat.le_refl _)]
theorem wpList_copy_bytes {P : Program} {t : TypeId} (hT : RowT P t 5 (.int .u8 0) 1 1) {ops : Array Oper} {Q : Exit → Act → World → Prop} {rest : List Oper} {o : Oper} {a : Act} {w : World} (hg : Region.wanted o (yielded ops a.tmps) = true) {x y : Operand}
    (ho : o.op = .call { callee := .builtin .copy, args := #[x, y], argTypes := #[t, t] }) {B g n c : Nat} {l m : List UInt8} (hf : FB w B (.slice (some ⟨g, 0, none⟩) n c) l) {off dl dc : Nat} (ex : a.eval x = .slice (some ⟨g, off, none⟩) dl dc) {vy : Value} (ey : a.eval y = vy) (hd : off + dl ≤ l.length) (hy : BV w vy m)
    (h : ∀ w', FB w' B (.slice (some ⟨g, 0, none⟩) n c) (l.take off ++ (m.take (min m.length dl) ++ l.drop (off + min m.length dl))) → w.grownBy w' (some g) → wpList P ops Q rest (a.put o.dst (goInt ((min m.length dl : Nat) : Int))) w') : wpList P ops Q (o :: rest) a w := by
  obtain ⟨w', hr, h1, h2⟩ := run_copy_bytes hT o.type hf hd hy (dc := dc)
  refine wpList_run hg ?_ (h w' h1 h2)
  simp [execOp, ho, resolve, invoke, builtin, ex, ey, hr, Result.andThen]

section
variable {P : Program} {t tn : TypeId} {ops : Array Oper} {Q : Exit → Act → World → Prop} {rest : List Oper} {a : Act} {w : World} {dst : Option Tmp} {ty : TypeId} {pos : String} {after : Array Edge} {guard : Option (Nat × Bool)}
theorem st_zeros (hT : RowT P t 5 (.int .u8 0) 1 1) {kn : IntKind} (htn : P.underlying tn = some (.int kn)) {x y : Operand} {vx : Value} {kq : IntKind} (n : Nat) {B : Nat} {l : List UInt8} (hx : FB w B vx l)
    (h : ∀ v' w', FB w' B v' (l ++ List.replicate n 0) → w.grownBy w' vx.ownBlock → (v'.ownBlock = vx.ownBlock ∨ v'.ownBlock = some w.heap.size) → wpList P ops Q rest (a.put dst v') w')
    (hlen : l.length + n ≤ 140737488355328) (hB : B ≤ w.heap.size) (ey : a.eval y = .int kq n)
    (hg : Region.wanted ⟨dst, .call { callee := .builtin .append, args := #[x, y], argTypes := #[t, tn] }, ty, pos, after, guard⟩ (yielded ops a.tmps) = true := by exact rfl) (ex : a.eval x = vx := by exact rfl) :
    wpList P ops Q (⟨dst, .call { callee := .builtin .append, args := #[x, y], argTypes := #[t, tn] }, ty, pos, after, guard⟩ :: rest) a w :=
  wpList_append_zeros hT htn hg rfl ex ey hx hlen hB h
end
end Go.Proofs.Ytlbeemjcndhenaa
