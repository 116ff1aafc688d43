/- Plain laws of layer 21: which records stay where each key's last one does. -/
import Derived.Test.YtdklpenpmeplfaaCm
namespace Go.Proofs.Ytdklpenpmeplfaa

/-- Batches that rise, of one record each. -/
def oneB (rs : List Rec) (i : Nat) : Bat := ⟨i, 1, 0, 0, 0, [rs.getD i rec0]⟩
def mkB (rs : List Rec) : List Bat := (List.range rs.length).map (oneB rs)
theorem mkB_length (rs : List Rec) : (mkB rs).length = rs.length := by unfold mkB; rw [List.length_map, List.length_range]
theorem mkB_at (rs : List Rec) {i : Nat} (h : i < (mkB rs).length) : (mkB rs)[i] = oneB rs i := by
  have e : (mkB rs)[i]? = some (oneB rs i) := by
    rw [mkB_length] at h
    unfold mkB
    rw [List.getElem?_map, List.getElem?_range h]
    rfl
  rw [List.getElem?_eq_getElem h] at e
  exact Option.some.inj e
theorem getD_at {rs : List Rec} {i : Nat} (h : i < rs.length) : rs.getD i rec0 = rs[i] := by simp [List.getD_eq_getElem?_getD, h]
/-- f tells where each key stands last among the first j. -/
def Good (rs : List Rec) (j : Nat) (f : List UInt8 → Option Int) : Prop :=
  (∀ k, f k = none → ∀ i, i < j → (rs.getD i rec0).key ≠ k) ∧
  ∀ k v, f k = some v → ∃ i : Nat, v = (i : Int) ∧ i < j ∧ (rs.getD i rec0).key = k ∧ ∀ m, i < m → m < j → (rs.getD m rec0).key ≠ k
theorem Good.zero (rs : List Rec) : Good rs 0 (fun _ => none) := ⟨fun _ _ i h => absurd h (Nat.not_lt_zero i), fun k v h => by cases h⟩
theorem Good.step {rs : List Rec} {j : Nat} {f : List UInt8 → Option Int} (h : Good rs j f) : Good rs (j + 1) (fun k => if k = (rs.getD j rec0).key then some (j : Int) else f k) := by
  refine ⟨fun k hk i hi => ?_, fun k v hv => ?_⟩
  · simp only at hk
    by_cases he : k = (rs.getD j rec0).key
    · rw [if_pos he] at hk; cases hk
    · rw [if_neg he] at hk
      by_cases hij : i = j
      · subst hij; exact fun e => he e.symm
      · exact h.1 k hk i (by omega)
  · simp only at hv
    by_cases he : k = (rs.getD j rec0).key
    · rw [if_pos he] at hv
      exact ⟨j, (Option.some.inj hv).symm, Nat.lt_succ_self j, he.symm, fun m h1 h2 => by omega⟩
    · rw [if_neg he] at hv
      obtain ⟨i, h1, h2, h3, h4⟩ := h.2 k v hv
      refine ⟨i, h1, by omega, h3, fun m h5 h6 => ?_⟩
      by_cases hmj : m = j
      · subst hmj; exact fun e => he e.symm
      · exact h4 m h5 (by omega)
def keepI (rs : List Rec) (i : Nat) : Bool := !((rs.drop (i + 1)).any fun y => y.key == (rs.getD i rec0).key)
theorem keepI_iff {rs : List Rec} {i : Nat} : keepI rs i = true ↔ ∀ m, i < m → m < rs.length → (rs.getD m rec0).key ≠ (rs.getD i rec0).key := by
  unfold keepI
  rw [Bool.not_eq_true', List.any_eq_false]
  constructor
  · intro h m h1 h2 e
    have := h rs[m] (by
      rw [List.mem_iff_getElem]
      exact ⟨m - (i + 1), by rw [List.length_drop]; omega, by rw [List.getElem_drop]; congr 1; omega⟩)
    rw [getD_at h2] at e
    exact this (by rw [beq_iff_eq]; exact e)
  · intro h y hy e
    obtain ⟨m, hm, rfl⟩ := List.getElem_of_mem hy
    rw [List.length_drop] at hm
    rw [List.getElem_drop, beq_iff_eq] at e
    have := h (i + 1 + m) (by omega) (by omega)
    rw [getD_at (by omega)] at this
    exact this e
theorem Good.keep {rs : List Rec} {f : List UInt8 → Option Int} (h : Good rs rs.length f) {i : Nat} (hi : i < rs.length) : (((i : Int) == (f (rs.getD i rec0).key).getD 0) = keepI rs i) := by
  cases hf : f (rs.getD i rec0).key with
  | none => exact absurd rfl (h.1 _ hf i hi)
  | some v =>
    obtain ⟨i', rfl, h2, h3, h4⟩ := h.2 _ _ hf
    have hle : i ≤ i' := by
      rcases Nat.lt_or_ge i' i with hlt | hge
      · exact absurd rfl (h4 i hlt hi)
      · exact hge
    cases hk : keepI rs i with
    | true =>
      rw [keepI_iff] at hk
      have : i = i' := by
        rcases Nat.lt_or_eq_of_le hle with hlt | heq
        · exact absurd h3 (hk i' hlt h2)
        · exact heq
      subst this
      simp
    | false =>
      have hne : i ≠ i' := by
        rintro rfl
        have : keepI rs i = true := keepI_iff.2 h4
        rw [this] at hk; cases hk
      show ((i : Int) == (i' : Int)) = false
      rw [beq_eq_false_iff_ne]
      omega
def cleanB (rs : List Rec) (j : Nat) : List Bat := ((List.range j).filter (keepI rs)).map (oneB rs)
theorem cleanB_keep {rs : List Rec} {j : Nat} (h : keepI rs j = true) : cleanB rs (j + 1) = cleanB rs j ++ [oneB rs j] := by
  unfold cleanB
  rw [List.range_succ, List.filter_append, List.map_append]
  simp [h]
theorem cleanB_drop {rs : List Rec} {j : Nat} (h : keepI rs j = false) : cleanB rs (j + 1) = cleanB rs j := by
  unfold cleanB
  rw [List.range_succ, List.filter_append, List.map_append]
  simp [h]
theorem cleanB_length (rs : List Rec) (j : Nat) : (cleanB rs j).length ≤ j := by
  unfold cleanB
  rw [List.length_map]
  exact Nat.le_trans (List.length_filter_le _ _) (by rw [List.length_range]; exact Nat.le_refl _)
theorem cleanB_mem {rs : List Rec} {b : Bat} (h : b ∈ cleanB rs rs.length) : ∃ i, i < rs.length ∧ b = oneB rs i := by
  unfold cleanB at h
  obtain ⟨i, h1, rfl⟩ := List.mem_map.1 h
  exact ⟨i, List.mem_range.1 (List.mem_filter.1 h1).1, rfl⟩
/-- Batches played one behind the other. -/
def playL (l : List Cm) (bs : List Bat) : List Cm := bs.foldl (fun l b => playB l b.recs) l
theorem playL_snoc (l : List Cm) (bs : List Bat) (j : Nat) (hj : j < bs.length) : playL l (bs.take (j + 1)) = playB (playL l (bs.take j)) bs[j].recs := by
  unfold playL
  rw [List.take_succ_eq_append_getElem hj, List.foldl_append]
  rfl
def keptR : List Rec → List Rec
  | [] => []
  | r :: t => if t.any (fun y => y.key == r.key) then keptR t else r :: keptR t
theorem kept_range : ∀ rs : List Rec, ((List.range rs.length).filter (keepI rs)).map (fun i => rs.getD i rec0) = keptR rs
  | [] => rfl
  | r :: t => by
    have ih := kept_range t
    rw [List.length_cons, List.range_succ_eq_map, List.filter_cons]
    have h0 : keepI (r :: t) 0 = !(t.any fun y => y.key == r.key) := rfl
    have hs : ∀ l : List Nat, ((l.map Nat.succ).filter (keepI (r :: t))).map (fun i => (r :: t).getD i rec0) = (l.filter (keepI t)).map (fun i => t.getD i rec0) := fun l => by
      induction l with
      | nil => rfl
      | cons a l ihl =>
        rw [List.map_cons, List.filter_cons, List.filter_cons]
        have e : keepI (r :: t) (Nat.succ a) = keepI t a := rfl
        rw [e]
        cases keepI t a with
        | true => simpa using ihl
        | false => simpa using ihl
    rw [h0]
    cases ha : t.any (fun y => y.key == r.key) with
    | true =>
      have e : keptR (r :: t) = keptR t := by rw [keptR, if_pos ha]
      rw [e, ← ih]
      simpa using hs (List.range t.length)
    | false =>
      have e : keptR (r :: t) = r :: keptR t := by rw [keptR, if_neg (by rw [ha]; simp)]
      rw [e, ← ih]
      simpa using hs (List.range t.length)
theorem playL_one (l : List Cm) (rs : List Rec) (is : List Nat) : playL l (is.map (oneB rs)) = (is.map (fun i => rs.getD i rec0)).foldl playR l := by
  unfold playL
  induction is generalizing l with
  | nil => rfl
  | cons a r ih => exact ih _
theorem map_getD (rs : List Rec) : (List.range rs.length).map (fun i => rs.getD i rec0) = rs := by
  apply List.ext_getElem
  · simp
  · intro i h1 h2
    simp only [List.getElem_map, List.getElem_range]
    exact getD_at h2
theorem play_all (l : List Cm) (rs : List Rec) : playL l (mkB rs) = rs.foldl playR l := by
  unfold mkB
  rw [playL_one, map_getD]
theorem play_clean (l : List Cm) (rs : List Rec) : playL l (cleanB rs rs.length) = (keptR rs).foldl playR l := by
  unfold cleanB
  rw [playL_one, kept_range]
/-! ### Records of commits -/
def putRec (time : Int) (c : Cm) : Rec := ⟨0, time, true, keyC c, false, putV c.offset⟩
theorem keyC_inj {a b : Cm} (ha : checkC a = 0) (hb : checkC b = 0) (h : keyC a = keyC b) : ordC a b = 0 := by
  have e1 := read_key ha 0 0 true []
  have e2 := read_key hb 0 0 true []
  rw [h, e2] at e1
  simp only [Cm.mk.injEq, if_true] at e1
  exact ordC_zero.2 ⟨e1.1.symm, e1.2.1.symm, e1.2.2.1.symm⟩
theorem keyC_same {a b : Cm} (h : ordC a b = 0) : keyC a = keyC b := by
  obtain ⟨h1, h2, h3⟩ := ordC_zero.1 h
  unfold keyC
  rw [h1, h2, h3]
theorem kept_lasts (time : Int) : ∀ cs : List Cm, (∀ c ∈ cs, checkC c = 0) → keptR (cs.map (putRec time)) = (lastsC cs).map (putRec time)
  | [], _ => rfl
  | c :: r, h => by
    have ih := kept_lasts time r fun d hd => h d (List.mem_cons_of_mem _ hd)
    have hany : (r.map (putRec time)).any (fun y => y.key == (putRec time c).key) = r.any (isC c) := by
      rw [List.any_map]
      apply Bool.eq_iff_iff.2
      rw [List.any_eq_true, List.any_eq_true]
      constructor
      · rintro ⟨d, hd, he⟩
        refine ⟨d, hd, ?_⟩
        have he2 : keyC d = keyC c := by simpa [putRec] using he
        unfold isC
        rw [keyC_inj (h d (List.mem_cons_of_mem _ hd)) (h c (List.mem_cons_self ..)) he2]
        rfl
      · rintro ⟨d, hd, he⟩
        refine ⟨d, hd, ?_⟩
        have he2 : ordC d c = 0 := by unfold isC at he; simpa using he
        have := keyC_same he2
        simpa [putRec] using this
    rw [List.map_cons, keptR, hany, lastsC]
    cases r.any (isC c) with
    | true => simpa using ih
    | false => simpa using ih
theorem play_puts (time : Int) : ∀ (cs l : List Cm), (∀ c ∈ cs, checkC c = 0) → (cs.map (putRec time)).foldl playR l = cs.foldl putC l
  | [], _, _ => rfl
  | c :: r, l, h => by
    rw [List.map_cons, List.foldl_cons, List.foldl_cons]
    have e : playR l (putRec time c) = putC l c := by
      have hg := get_put (h c (List.mem_cons_self ..)) 0 time
      unfold playR
      rw [show getC (putRec time c) = (c, 0) from hg, if_neg (by simp), if_neg (by simp [putRec])]
    rw [e]
    exact play_puts time r _ fun d hd => h d (List.mem_cons_of_mem _ hd)
/-- What is played is the same before and after. -/
theorem compact_same (time : Int) (cs : List Cm) (h : ∀ c ∈ cs, checkC c = 0) : playL [] (cleanB (cs.map (putRec time)) (cs.map (putRec time)).length) = playL [] (mkB (cs.map (putRec time))) := by
  rw [play_clean, play_all, kept_lasts time cs h, play_puts time _ _ (fun c hc => h c (lastsC_mem hc)), play_puts time cs _ h]
  exact fold_lasts cs
end Go.Proofs.Ytdklpenpmeplfaa
