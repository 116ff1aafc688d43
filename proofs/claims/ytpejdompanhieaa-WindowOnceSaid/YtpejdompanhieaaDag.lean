/- A region whose operations may come up in any order that its edges allow: one obligation for each operation, under the facts of those that must stand ahead of it. -/
import Derived.WalkKit
import Derived.Deep.Draws
namespace Go.Proofs.Ytpejdompanhieaa
open Go.RowKit

/-- What is asked of one operation's run: it yields a value, in a world, of which Post holds. -/
def givesUpon (P : Program) (Post : Value → World → Prop) : Result Next → Prop
  | .ok (.value v) W' => Post v W'
  | .ok .skip W' => Post undef W'
  | .ok (.enter f args) W' => Calls P f args W' (fun e W'' => ∃ v, e = .returned v ∧ Post v W'')
  | _ => False

section
variable {P : Program} {Post : Value → World → Prop} {W : World}
@[go_sem] theorem givesUpon_value (v : Value) : givesUpon P Post (.ok (.value v) W) = Post v W := rfl
@[go_sem] theorem givesUpon_skip : givesUpon P Post (.ok .skip W) = Post undef W := rfl
@[go_sem] theorem givesUpon_enter (f : FuncId) (args : Array Value) : givesUpon P Post (.ok (.enter f args) W) = Calls P f args W (fun e W'' => ∃ v, e = .returned v ∧ Post v W'') := rfl
end

def opGives (P : Program) (ops : Array Oper) (o : Oper) (a : Act) (W : World) (Post : Value → World → Prop) : Prop :=
  if Region.wanted o (yielded ops a.tmps) then givesUpon P Post ((execOp a.eval o).run P W) else Post undef W

/-- What an operation's slot shall hold: a value that is known, or one of which a relation to the world is known. -/
abbrev Want := Value ⊕ (Value → World → Prop)
def Want.fact : Want → Value → World → Prop
  | .inl c, v, _ => v = c
  | .inr R, v, W => R v W

/-- The facts at hand: that of operation j, if it is among those of 'anc'. -/
def factOf (facts : List (Nat × (World → Prop))) (j : Nat) (W : World) : Prop :=
  match facts.lookup j with
  | some p => p W
  | none => True
def Held (facts : List (Nat × (World → Prop))) (anc : Nat) (W : World) : Prop := ∀ j, anc.testBit j = true → factOf facts j W

/-- The obligations, in the text's order. -/
def dagObl (P : Program) (X : World → World → Prop) (w0 : World) (ops : Array Oper) (A : List Nat) (Q : Act → World → Prop) : List Oper → List Want → Nat → List (Nat × (World → Prop)) → Act → Prop
  | o :: os, .inl c :: ws, i, facts, a =>
    (∀ W, X w0 W → Held facts (A.getD i 0) W → opGives P ops o a W (fun v W' => X W W' ∧ v = c)) ∧ dagObl P X w0 ops A Q os ws (i + 1) facts (a.put o.dst c)
  | o :: os, .inr R :: ws, i, facts, a =>
    (∀ v W W', X W W' → R v W → R v W') ∧
    (∀ W, X w0 W → Held facts (A.getD i 0) W → opGives P ops o a W (fun v W' => X W W' ∧ R v W')) ∧ ∀ v, dagObl P X w0 ops A Q os ws (i + 1) ((i, R v) :: facts) (a.put o.dst v)
  | [], [], _, facts, a => ∀ W, X w0 W → (∀ j, factOf facts j W) → Q a W
  | _, _, _, _, _ => False

/-- The masks of those that must stand ahead, computed. -/
def ancs (ops : Array Oper) : List Nat := (Region.before ops).toList

/-- That the text's order serves every order: edges lead back; two that are in no order do not touch one slot. -/
def dagOk (ops : Array Oper) (A : List Nat) : Bool :=
  (List.range ops.size).all fun i =>
    match ops[i]? with
    | none => false
    | some o =>
      (!(o.op matches .select ..)) &&
      (o.after.all fun e => !Region.binds .any e || decide (e.on < i)) &&
      ((List.range ops.size).all fun j => !(A.getD i 0).testBit j || (decide (j < i) && o.after.any fun e => Region.binds .any e && (e.on == j || (A.getD e.on 0).testBit j))) &&
      ((List.range ops.size).all fun j =>
        match (ops[j]?).bind (·.dst) with
        | none => true
        | some d => (decide (j = i) || o.dst != some d) && (!(o.looksAt ops).contains d || (if j < i then (A.getD i 0).testBit j else (decide (j = i) || (A.getD j 0).testBit i))))

section
variable {P : Program} {X : World → World → Prop} {w0 : World} {ops : Array Oper} {A : List Nat} {Q : Act → World → Prop}

/-- Frame a is a0, but for the slots of the operations in D, which hold V's values. -/
structure Agree (ops : Array Oper) (a0 : Act) (V : Nat → Value) (D : Nat → Prop) (a : Act) : Prop where
  defers : a.defers = a0.defers
  size : a.tmps.size = a0.tmps.size
  done : ∀ j o d, D j → ops[j]? = some o → o.dst = some d → d < a0.tmps.size → a.tmps[d]? = some (V j)
  rest : ∀ t, (∀ j o, D j → ops[j]? = some o → o.dst ≠ some t) → a.tmps[t]? = a0.tmps[t]?

theorem Agree.start {a0 : Act} {V : Nat → Value} {D : Nat → Prop} (h : ∀ j, ¬ D j) : Agree ops a0 V D a0 :=
  ⟨rfl, rfl, fun j _ _ hj => absurd hj (h j), fun _ _ => rfl⟩

theorem Agree.eq {a0 a a' : Act} {V : Nat → Value} {D : Nat → Prop} (h : Agree ops a0 V D a) (h' : Agree ops a0 V D a') : a = a' := by
  obtain ⟨t, d⟩ := a
  obtain ⟨t', d'⟩ := a'
  have hd : d = d' := h.defers.trans h'.defers.symm
  have ht : t = t' := by
    apply Array.ext_getElem?
    intro k
    by_cases hk : ∃ j o, D j ∧ ops[j]? = some o ∧ o.dst = some k
    · obtain ⟨j, o, h1, h2, h3⟩ := hk
      by_cases hs : k < a0.tmps.size
      · exact (h.done j o k h1 h2 h3 hs).trans (h'.done j o k h1 h2 h3 hs).symm
      · have e1 : t.size = a0.tmps.size := h.size
        have e2 : t'.size = a0.tmps.size := h'.size
        rw [Array.getElem?_eq_none (by omega), Array.getElem?_eq_none (by omega)]
    · have hk' : ∀ j o, D j → ops[j]? = some o → o.dst ≠ some k := fun j o h1 h2 h3 => hk ⟨j, o, h1, h2, h3⟩
      exact (h.rest k hk').trans (h'.rest k hk').symm
  rw [hd, ht]

theorem Agree.put {a0 a : Act} {V V' : Nat → Value} {D D' : Nat → Prop} {i : Nat} {o : Oper} (h : Agree ops a0 V D a) (ho : ops[i]? = some o)
    (hD : ∀ j, D' j ↔ D j ∨ j = i) (hV : ∀ j, D j → V' j = V j) (hne : ∀ j oj d, D j → ops[j]? = some oj → oj.dst = some d → o.dst ≠ some d) :
    Agree ops a0 V' D' (a.put o.dst (V' i)) := by
  cases hd : o.dst with
  | none =>
    refine ⟨h.defers, h.size, fun j oj d hj hoj hdj hlt => ?_, fun t ht => ?_⟩
    · rcases (hD j).1 hj with hj | rfl
      · rw [hV j hj]; exact h.done j oj d hj hoj hdj hlt
      · rw [ho] at hoj; cases hoj; rw [hd] at hdj; cases hdj
    · exact h.rest t fun j oj hj hoj => ht j oj ((hD j).2 (.inl hj)) hoj
  | some x =>
    refine ⟨h.defers, by simpa [Act.put] using h.size, fun j oj d hj hoj hdj hlt => ?_, fun t ht => ?_⟩
    · rcases (hD j).1 hj with hj | rfl
      · have hx : x ≠ d := fun e => hne j oj d hj hoj hdj (by rw [hd, e])
        simp only [Act.put]
        rw [Array.getElem?_setIfInBounds_ne hx, hV j hj]
        exact h.done j oj d hj hoj hdj hlt
      · rw [ho] at hoj; cases hoj
        rw [hd] at hdj; cases hdj
        simp only [Act.put]
        have hs : x < a.tmps.size := by rw [h.size]; exact hlt
        simp [hs]
    · have hx : x ≠ t := fun e => ht i o ((hD i).2 (.inr rfl)) ho (by rw [hd, e])
      simp only [Act.put]
      rw [Array.getElem?_setIfInBounds_ne hx]
      exact h.rest t fun j oj hj hoj => ht j oj ((hD j).2 (.inl hj)) hoj

/-- The frame in the text's order ahead of operation k, the values those of V. -/
def frameAt (ops : Array Oper) (a0 : Act) (V : Nat → Value) : Nat → Act
  | 0 => a0
  | k + 1 => (frameAt ops a0 V k).put ((ops[k]?).bind (·.dst)) (V k)
def factsAt (ws : List Want) (V : Nat → Value) : Nat → List (Nat × (World → Prop))
  | 0 => []
  | k + 1 => match ws[k]? with
    | some (.inr R) => (k, R (V k)) :: factsAt ws V k
    | _ => factsAt ws V k

theorem factOf_factsAt {ws : List Want} {V : Nat → Value} {W : World} {j : Nat} : ∀ k, (j < k → ∀ x, ws[j]? = some x → x.fact (V j) W) → factOf (factsAt ws V k) j W
  | 0, _ => by simp [factsAt, factOf]
  | k + 1, h => by
    have ih := factOf_factsAt (ws := ws) (V := V) (W := W) (j := j) k (fun hj => h (by omega))
    unfold factsAt
    split
    · rename_i R hR
      unfold factOf
      rw [List.lookup_cons]
      by_cases hj : j = k
      · subst hj
        simp only [beq_self_eq_true]
        exact h (by omega) _ hR
      · have : (j == k) = false := by simpa using hj
        rw [this]
        exact ih
    · exact ih

/-- What the obligations say at each operation, whatever values were met. -/
structure DagGet (P : Program) (X : World → World → Prop) (w0 : World) (ops : Array Oper) (A : List Nat) (Q : Act → World → Prop) (ws : List Want) (a0 : Act) (V : Nat → Value) (m i : Nat) : Prop where
  step : ∀ k, i ≤ k → k < m → ∀ o, ops[k]? = some o → ∃ x, ws[k]? = some x ∧ ∀ W, X w0 W → Held (factsAt ws V k) (A.getD k 0) W → opGives P ops o (frameAt ops a0 V k) W (fun v W' => X W W' ∧ x.fact v W')
  keep : ∀ k, i ≤ k → k < m → ∀ x, ws[k]? = some x → ∀ v W W', X W W' → x.fact v W → x.fact v W'
  last : ∀ W, X w0 W → (∀ j, factOf (factsAt ws V m) j W) → Q (frameAt ops a0 V m) W

theorem dag_get {ws : List Want} {a0 : Act} {V : Nat → Value} (hV : ∀ j c, ws[j]? = some (.inl c) → V j = c) {m : Nat} (hm : m ≤ ops.size) :
    ∀ n i, n + i = m → dagObl P X w0 ops A Q ((ops.toList.take m).drop i) (ws.drop i) i (factsAt ws V i) (frameAt ops a0 V i) → DagGet P X w0 ops A Q ws a0 V m i
  | 0, i, hn, h => by
    have hi : i = m := by omega
    subst hi
    have e1 : (ops.toList.take i).drop i = [] := by simp
    rw [e1] at h
    cases hw : ws.drop i with
    | cons x r => rw [hw] at h; simp [dagObl] at h
    | nil =>
      rw [hw] at h
      simp only [dagObl] at h
      exact ⟨fun k hk hk2 => by omega, fun k hk hk2 => by omega, h⟩
  | n + 1, i, hn, h => by
    have hi : i < ops.size := by omega
    have e1 : (ops.toList.take m).drop i = ops[i] :: (ops.toList.take m).drop (i + 1) := by
      have hl : i < (ops.toList.take m).length := by simp; omega
      rw [List.drop_eq_getElem_cons hl]
      simp
    rw [e1] at h
    have hoi : ops[i]? = some ops[i] := Array.getElem?_eq_getElem hi
    cases hw : ws.drop i with
    | nil => rw [hw] at h; simp [dagObl] at h
    | cons x r =>
      have hx : ws[i]? = some x := by
        have : (ws.drop i)[0]? = some x := by rw [hw]; rfl
        simpa using this
      have hr : ws.drop (i + 1) = r := by
        have h1 : (ws.drop i).drop 1 = r := by rw [hw]; rfl
        rw [List.drop_drop] at h1
        exact h1
      have hf : frameAt ops a0 V (i + 1) = (frameAt ops a0 V i).put ops[i].dst (V i) := by simp [frameAt, hoi]
      rw [hw] at h
      have split_k : ∀ k, i ≤ k → k = i ∨ i + 1 ≤ k := fun k hk => by omega
      cases x with
      | inl c =>
        simp only [dagObl] at h
        obtain ⟨h1, h2⟩ := h
        have hfa : factsAt ws V (i + 1) = factsAt ws V i := by simp [factsAt, hx]
        have ih := dag_get hV hm n (i + 1) (by omega) (by rw [hr, hfa, hf, hV i c hx]; exact h2)
        refine ⟨fun k hk hk2 o ho => ?_, fun k hk hk2 x hxk => ?_, ih.last⟩
        · rcases split_k k hk with rfl | hk
          · rw [hoi] at ho; cases ho
            exact ⟨_, hx, h1⟩
          · exact ih.step k hk hk2 o ho
        · rcases split_k k hk with rfl | hk
          · rw [hx] at hxk; cases hxk
            exact fun v W W' _ e => e
          · exact ih.keep k hk hk2 x hxk
      | inr R =>
        simp only [dagObl] at h
        obtain ⟨h0, h1, h2⟩ := h
        have hfa : factsAt ws V (i + 1) = (i, R (V i)) :: factsAt ws V i := by simp [factsAt, hx]
        have ih := dag_get hV hm n (i + 1) (by omega) (by rw [hr, hfa, hf]; exact h2 (V i))
        refine ⟨fun k hk hk2 o ho => ?_, fun k hk hk2 x hxk => ?_, ih.last⟩
        · rcases split_k k hk with rfl | hk
          · rw [hoi] at ho; cases ho
            exact ⟨_, hx, h1⟩
          · exact ih.step k hk hk2 o ho
        · rcases split_k k hk with rfl | hk
          · rw [hx] at hxk; cases hxk
            exact h0
          · exact ih.keep k hk hk2 x hxk

theorem agree_frameAt (hd : ∀ (i j : Nat) (oi oj : Oper) (d : Tmp), ops[i]? = some oi → ops[j]? = some oj → oi.dst = some d → oj.dst = some d → i = j) (a0 : Act) (V : Nat → Value) :
    ∀ k, k ≤ ops.size → Agree ops a0 V (· < k) (frameAt ops a0 V k)
  | 0, _ => Agree.start fun j => by omega
  | k + 1, hk => by
    have hlt : k < ops.size := by omega
    have ho : ops[k]? = some ops[k] := Array.getElem?_eq_getElem hlt
    have ih := agree_frameAt hd a0 V k (by omega)
    have e : frameAt ops a0 V (k + 1) = (frameAt ops a0 V k).put ops[k].dst (V k) := by simp [frameAt, ho]
    rw [e]
    refine ih.put ho (fun j => by omega) (fun _ _ => rfl) (fun j oj d hj hoj hdj hc => ?_)
    have := hd k j ops[k] oj d ho hoj hc hdj
    omega

/-- How many are still to come. -/
def undone (l : List Bool) : Nat := (l.filter (!·)).length
theorem undone_set : ∀ (l : List Bool) (i : Nat), l[i]? = some false → undone (l.set i true) + 1 = undone l
  | [], i, h => by simp at h
  | b :: l, 0, h => by
    simp at h
    subst h
    simp [undone]
  | b :: l, i + 1, h => by
    have ih := undone_set l i (by simpa using h)
    cases b <;> simp [undone] at ih ⊢ <;> omega
theorem undone_zero : ∀ (l : List Bool), undone l = 0 → ∀ b ∈ l, b = true
  | [], _, _, h => by cases h
  | x :: l, h0, b, hb => by
    cases x with
    | false => simp [undone] at h0
    | true =>
      rcases List.mem_cons.1 hb with rfl | hb
      · rfl
      · exact undone_zero l (by simpa [undone] using h0) b hb

theorem undone_all : ∀ (l : List Bool), (∀ b ∈ l, b = true) → undone l = 0
  | [], _ => rfl
  | x :: l, h => by
    have hx := h x List.mem_cons_self
    subst hx
    have := undone_all l fun b hb => h b (List.mem_cons_of_mem _ hb)
    simpa [undone] using this

def DoneIn (listed : Array Bool) (j : Nat) : Prop := listed.getD j false = true

/-- What 'dagOk' says. -/
structure DagOk (ops : Array Oper) (A : List Nat) : Prop where
  sel : ∀ (i : Nat) (o : Oper), ops[i]? = some o → ∀ cs b, o.op ≠ .select cs b
  back : ∀ (i : Nat) (o : Oper), ops[i]? = some o → ∀ e ∈ o.after, Region.binds .any e = true → e.on < i
  clos : ∀ (i : Nat) (o : Oper), ops[i]? = some o → ∀ j, j < ops.size → (A.getD i 0).testBit j = true → j < i ∧ ∃ e ∈ o.after, Region.binds .any e = true ∧ (e.on = j ∨ (A.getD e.on 0).testBit j = true)
  apart : ∀ (i j : Nat) (oi oj : Oper) (d : Tmp), ops[i]? = some oi → ops[j]? = some oj → oi.dst = some d → oj.dst = some d → i = j
  looks : ∀ (i j : Nat) (oi oj : Oper) (d : Tmp), ops[i]? = some oi → ops[j]? = some oj → oj.dst = some d → d ∈ oi.looksAt ops → if j < i then (A.getD i 0).testBit j = true else (j = i ∨ (A.getD j 0).testBit i = true)

theorem dagOk_spec (h : dagOk ops A = true) : DagOk ops A := by
  have key : ∀ (i : Nat) (o : Oper), ops[i]? = some o → i < ops.size := fun i o ho => (Array.getElem?_eq_some_iff.1 ho).1
  unfold dagOk at h
  rw [List.all_eq_true] at h
  have hh : ∀ (i : Nat) (o : Oper), ops[i]? = some o → _ := fun i o ho => h i (List.mem_range.2 (key i o ho))
  have g : ∀ (i : Nat) (o : Oper), ops[i]? = some o →
      (!(o.op matches .select ..)) = true ∧ (o.after.all fun e => !Region.binds .any e || decide (e.on < i)) = true ∧
      ((List.range ops.size).all fun j => !(A.getD i 0).testBit j || (decide (j < i) && o.after.any fun e => Region.binds .any e && (e.on == j || (A.getD e.on 0).testBit j))) = true ∧
      ((List.range ops.size).all fun j =>
        match (ops[j]?).bind (·.dst) with
        | none => true
        | some d => (decide (j = i) || o.dst != some d) && (!(o.looksAt ops).contains d || (if j < i then (A.getD i 0).testBit j else (decide (j = i) || (A.getD j 0).testBit i)))) = true := by
    intro i o ho
    have := hh i o ho
    rw [ho] at this
    simp only [Bool.and_eq_true] at this
    exact ⟨this.1.1.1, this.1.1.2, this.1.2, this.2⟩
  have g4 : ∀ (i j : Nat) (oi oj : Oper) (d : Tmp), ops[i]? = some oi → ops[j]? = some oj → oj.dst = some d →
      (decide (j = i) || oi.dst != some d) = true ∧ (!(oi.looksAt ops).contains d || (if j < i then (A.getD i 0).testBit j else (decide (j = i) || (A.getD j 0).testBit i))) = true := by
    intro i j oi oj d hi hj hd
    have h4 := (g i oi hi).2.2.2
    rw [List.all_eq_true] at h4
    have := h4 j (List.mem_range.2 (key j oj hj))
    rw [hj] at this
    simp only [Option.bind_some, hd, Bool.and_eq_true] at this
    exact this
  refine ⟨fun i o ho cs b he => ?_, fun i o ho e he hb => ?_, fun i o ho j hj ht => ?_, fun i j oi oj d hi hj hdi hdj => ?_, fun i j oi oj d hi hj hdj hl => ?_⟩
  · have h1 := (g i o ho).1
    rw [he] at h1
    simp at h1
  · have h2 := (g i o ho).2.1
    rw [Array.all_eq_true'] at h2
    have := h2 e he
    rw [hb] at this
    simpa using this
  · have h3 := (g i o ho).2.2.1
    rw [List.all_eq_true] at h3
    have := h3 j (List.mem_range.2 hj)
    rw [ht] at this
    simp only [Bool.not_true, Bool.false_or, Bool.and_eq_true, decide_eq_true_eq, Array.any_eq_true', Bool.or_eq_true, beq_iff_eq] at this
    exact this
  · have h4 := (g4 i j oi oj d hi hj hdj).1
    rw [hdi] at h4
    simp at h4
    exact h4.symm
  · have h4 := (g4 i j oi oj d hi hj hdj).2
    have hc : (oi.looksAt ops).contains d = true := by simpa using hl
    rw [hc] at h4
    split
    · rename_i hlt
      rw [if_pos hlt] at h4
      simpa using h4
    · rename_i hlt
      rw [if_neg hlt] at h4
      simpa using h4

theorem eval_of_tmps {a a' : Act} (x : Operand) (h : ∀ t, x = .tmp t → a.tmps[t]? = a'.tmps[t]?) : a.eval x = a'.eval x := by
  cases x with
  | tmp t =>
    have := h t rfl
    simp [Act.eval, this]
  | _ => rfl

theorem same_looks {o : Oper} {a a' : Act} (hs : ∀ cs b, o.op ≠ .select cs b) (h : ∀ t ∈ o.looksAt ops, a.tmps[t]? = a'.tmps[t]?) :
    execOp a.eval o = execOp a'.eval o ∧ Region.wanted o (yielded ops a.tmps) = Region.wanted o (yielded ops a'.tmps) := by
  refine ⟨execOp_congr o hs fun x hx => eval_of_tmps x fun t ht => h t ?_, ?_⟩
  · subst ht
    exact List.mem_append_left _ (List.mem_filterMap.2 ⟨.tmp t, by simpa using hx, rfl⟩)
  · unfold Region.wanted
    cases hg : o.guard with
    | none => rfl
    | some gw =>
      obtain ⟨g, want⟩ := gw
      have hy : yielded ops a.tmps g = yielded ops a'.tmps g := by
        unfold yielded
        cases ht : (ops[g]?).bind (·.dst) with
        | none => rfl
        | some t =>
          have := h t (by simp [Oper.looksAt, hg, ht])
          simp only [Option.bind_some, this]
      simp only [hy]

theorem ready_in (listed : Array Bool) (i : Nat) : i ∈ Region.ready .any ops listed ↔ i < ops.size ∧ listed.getD i true = false ∧ ∃ o, ops[i]? = some o ∧ ∀ e ∈ o.after, Region.binds .any e = true → DoneIn listed e.on := by
  unfold Region.ready
  rw [List.mem_filter, List.mem_range]
  constructor
  · rintro ⟨h1, h2⟩
    have ho : ops[i]? = some ops[i] := Array.getElem?_eq_getElem h1
    rw [ho] at h2
    simp only [Option.map_some, Option.getD_some, Bool.and_eq_true, Bool.not_eq_true', Array.all_eq_true', Bool.or_eq_true] at h2
    refine ⟨h1, h2.1, _, ho, fun e he hb => ?_⟩
    rcases h2.2 e he with h3 | h3
    · rw [hb] at h3; cases h3
    · exact h3
  · rintro ⟨h1, h2, o, ho, h3⟩
    refine ⟨h1, ?_⟩
    rw [ho]
    simp only [Option.map_some, Option.getD_some, Bool.and_eq_true, Bool.not_eq_true', Array.all_eq_true', Bool.or_eq_true]
    refine ⟨h2, fun e he => ?_⟩
    cases hb : Region.binds .any e with
    | false => exact .inl rfl
    | true => exact .inr (h3 e he hb)
theorem done_or (listed : Array Bool) (i : Nat) (hs : listed.size = ops.size) (hi : i < ops.size) : DoneIn listed i ∨ listed[i]? = some false := by
  have hl : i < listed.size := by omega
  unfold DoneIn
  cases hb : listed[i] with
  | false => right; rw [Array.getElem?_eq_getElem hl, hb]
  | true => left; simp [hl, hb]
theorem done_set {listed : Array Bool} {i : Nat} (hl : i < listed.size) (j : Nat) : DoneIn (listed.setIfInBounds i true) j ↔ DoneIn listed j ∨ j = i := by
  unfold DoneIn
  by_cases hji : j = i
  · subst hji
    simp [hl]
  · simp [hji, Ne.symm hji]

/-- The operations from m on come up in the text's order, behind all others. -/
theorem suffix_any {Q' : Exit → Act → World → Prop} (hok : DagOk ops A) {m : Nat} (forced : ∀ k, m ≤ k → k < ops.size → ∀ j, j < k → (A.getD k 0).testBit j = true) :
    ∀ (fuel k : Nat) (listed : Array Bool) (a : Act) (W : World), undone listed.toList = fuel → listed.size = ops.size → m ≤ k → k ≤ ops.size → (∀ j, j < ops.size → (DoneIn listed j ↔ j < k)) →
      wpList P ops Q' (ops.toList.drop k) a W → wpAny P .any ops Q' fuel listed a W
  | 0, k, listed, a, W, hu, hs, hmk, hk, hd, h => by
    have hall : ∀ i, i < ops.size → DoneIn listed i := by
      intro i hi
      rcases done_or listed i hs hi with h | h
      · exact h
      · have h1 : false ∈ listed.toList := Array.mem_toList_iff.2 (Array.mem_of_getElem? h)
        have := undone_zero _ hu _ h1
        cases this
    have hkn : k = ops.size := by
      rcases Nat.lt_or_ge k ops.size with h1 | h1
      · have := (hd k h1).1 (hall k h1)
        omega
      · omega
    subst hkn
    rw [List.drop_of_length_le (by simp)] at h
    refine ⟨?_, h⟩
    cases hr : Region.ready .any ops listed with
    | nil => rfl
    | cons i r =>
      obtain ⟨hi, hn, _⟩ := (ready_in listed i).1 (by rw [hr]; exact List.mem_cons_self)
      have h1 := hall i hi
      unfold DoneIn at h1
      have hl : i < listed.size := by omega
      simp only [Array.getD_eq_getD_getElem?, Array.getElem?_eq_getElem hl, Option.getD_some] at h1 hn
      rw [h1] at hn
      cases hn
  | fuel + 1, k, listed, a, W, hu, hs, hmk, hk, hd, h => by
    have hkn : k < ops.size := by
      rcases Nat.lt_or_ge k ops.size with h1 | h1
      · exact h1
      · exfalso
        have : undone listed.toList = 0 := undone_all _ fun b hb => by
          obtain ⟨j, hj, e⟩ := List.mem_iff_getElem.1 hb
          have hj' : j < listed.size := by simpa using hj
          have := (hd j (by omega)).2 (by omega)
          unfold DoneIn at this
          simp [hj'] at this
          rw [← e]
          simpa using this
        omega
    have hl : k < listed.size := by omega
    have hnk : ¬ DoneIn listed k := fun hc => by have := (hd k hkn).1 hc; omega
    have hfalse : listed[k]? = some false := (done_or listed k hs hkn).resolve_left hnk
    have ho : ops[k]? = some ops[k] := Array.getElem?_eq_getElem hkn
    have hready : k ∈ Region.ready .any ops listed := (ready_in listed k).2 ⟨hkn, by simp [hfalse], _, ho, fun e he hb => by
      have hlt := hok.back k _ ho e he hb
      exact (hd e.on (by omega)).2 hlt⟩
    refine ⟨fun hr => absurd hready (by rw [hr]; exact List.not_mem_nil), fun i hi => ?_⟩
    obtain ⟨hlt, hn, o, hoi, hedges⟩ := (ready_in listed i).1 hi
    have hni : ¬ DoneIn listed i := by
      unfold DoneIn
      simp only [Array.getD_eq_getD_getElem?, Array.getElem?_eq_getElem (show i < listed.size by omega), Option.getD_some] at hn ⊢
      rw [hn]
      decide
    have hki : k = i := by
      rcases Nat.lt_trichotomy k i with h1 | h1 | h1
      · exfalso
        obtain ⟨_, e, he, hb, h3⟩ := hok.clos i o hoi k hkn (forced i (by omega) hlt k h1)
        have hde := hedges e he hb
        have hback := hok.back i o hoi e he hb
        have hek := (hd e.on (by omega)).1 hde
        rcases h3 with h3 | h3
        · omega
        · have hoe : ops[e.on]? = some ops[e.on] := Array.getElem?_eq_getElem (by omega)
          have := (hok.clos e.on _ hoe k hkn h3).1
          omega
      · exact h1
      · exact absurd ((hd i hlt).2 h1) hni
    subst hki
    rw [ho] at hoi
    cases hoi
    have e1 : ops.toList.drop k = ops[k] :: ops.toList.drop (k + 1) := by
      have hl : k < ops.toList.length := by simpa using hkn
      rw [List.drop_eq_getElem_cons hl]
      simp
    rw [e1] at h
    have h2 : wpOp P ops Q' k (wpList P ops Q' (ops.toList.drop (k + 1))) a W := by
      unfold wpOp
      rw [ho]
      exact h
    refine wpOp_mono (fun a' W' h3 => ?_) h2
    refine suffix_any hok forced fuel (k + 1) _ a' W' ?_ (by simpa using hs) (by omega) (by omega) (fun j hj => ?_) h3
    · have := undone_set listed.toList k (by simpa using hfalse)
      rw [Array.toList_setIfInBounds]
      omega
    · rw [done_set hl, hd j hj]
      omega

theorem dag_any {Q' : Exit → Act → World → Prop} {m : Nat} (hm : m ≤ ops.size) (forced : ∀ k, m ≤ k → k < ops.size → ∀ j, j < k → (A.getD k 0).testBit j = true)
    (hQ : ∀ a w, Q a w → wpList P ops Q' (ops.toList.drop m) a w) (hok : DagOk ops A) (hX : ∀ a b c, X a b → X b c → X a c)
    {ws : List Want} {a0 : Act} (get : ∀ V : Nat → Value, (∀ j c, ws[j]? = some (.inl c) → V j = c) → DagGet P X w0 ops A Q ws a0 V m 0) :
    ∀ (fuel : Nat) (listed : Array Bool) (a : Act) (W : World) (V : Nat → Value), undone listed.toList = fuel → listed.size = ops.size → X w0 W →
      (∀ j c, ws[j]? = some (.inl c) → V j = c) → Agree ops a0 V (DoneIn listed) a →
      (∀ i j, DoneIn listed i → i < ops.size → j < ops.size → (A.getD i 0).testBit j = true → DoneIn listed j) → (∀ j, DoneIn listed j → j < m) →
      (∀ j x, DoneIn listed j → ws[j]? = some x → x.fact (V j) W) → wpAny P .any ops Q' fuel listed a W := by
  have finish : ∀ (fuel : Nat) (listed : Array Bool) (a : Act) (W : World) (V : Nat → Value), undone listed.toList = fuel → listed.size = ops.size → X w0 W → (∀ j c, ws[j]? = some (.inl c) → V j = c) →
      Agree ops a0 V (DoneIn listed) a → (∀ j, DoneIn listed j → j < m) → (∀ j x, DoneIn listed j → ws[j]? = some x → x.fact (V j) W) → (∀ i, i < m → DoneIn listed i) → wpAny P .any ops Q' fuel listed a W := by
    intro fuel listed a W V hu hs hx hV hag hdm hf hall
    have G := get V hV
    have hag' : Agree ops a0 V (DoneIn listed) (frameAt ops a0 V m) := by
      have h := agree_frameAt hok.apart a0 V m hm
      exact ⟨h.defers, h.size, fun j o d hj ho hd hlt => h.done j o d (hdm j hj) ho hd hlt, fun t ht => h.rest t fun j o hj ho => ht j o (hall j hj) ho⟩
    rw [Agree.eq hag hag']
    exact suffix_any hok forced fuel m listed _ W hu hs (Nat.le_refl _) hm (fun j hj => ⟨hdm j, hall j⟩) (hQ _ _ (G.last W hx fun j => factOf_factsAt _ fun hj x hx => hf j x (hall j hj) hx))
  intro fuel
  induction fuel with
  | zero =>
    intro listed a W V hu hs hx hV hag _ hdm hf
    refine finish 0 listed a W V hu hs hx hV hag hdm hf fun i hi => ?_
    rcases done_or (ops := ops) listed i hs (by omega) with h | h
    · exact h
    · have h1 : false ∈ listed.toList := Array.mem_toList_iff.2 (Array.mem_of_getElem? h)
      have := undone_zero _ hu _ h1
      cases this
  | succ fuel ih =>
    intro listed a W V hu hs hx hV hag hcl hdm hf
    by_cases hall : ∀ i, i < m → DoneIn listed i
    · exact finish _ listed a W V hu hs hx hV hag hdm hf hall
    have hsome : ∃ i, i < m ∧ ¬ DoneIn listed i := Classical.byContradiction fun hc => hall fun i hi => Classical.byContradiction fun hn => hc ⟨i, hi, hn⟩
    -- the least that is not done is ready
    have hne : Region.ready .any ops listed ≠ [] := by
      obtain ⟨i, hi, hni⟩ := hsome
      intro hr
      have key : ∀ i, i < ops.size → DoneIn listed i := by
        intro i
        induction i using Nat.strongRecOn with
        | _ i ihs =>
          intro hi
          rcases done_or listed i hs hi with h | h
          · exact h
          · exfalso
            have ho : ops[i]? = some ops[i] := Array.getElem?_eq_getElem hi
            have : i ∈ Region.ready .any ops listed := (ready_in listed i).2 ⟨hi, by simp [h], _, ho, fun e he hb => by
              have hlt := hok.back i _ ho e he hb
              exact ihs e.on hlt (by omega)⟩
            rw [hr] at this
            cases this
      exact hni (key i (by omega))
    refine ⟨fun hr => absurd hr hne, fun i hi => ?_⟩
    obtain ⟨hlt, hn, o, ho, hedges⟩ := (ready_in listed i).1 hi
    have hl : i < listed.size := by omega
    have hfalse : listed[i]? = some false := by
      simp only [Array.getD_eq_getD_getElem?, Array.getElem?_eq_getElem hl, Option.getD_some] at hn
      rw [Array.getElem?_eq_getElem hl, hn]
    have hnd : ¬ DoneIn listed i := by
      unfold DoneIn
      simp [hfalse]
    -- ancestors are done
    have hanc : ∀ j, j < ops.size → (A.getD i 0).testBit j = true → DoneIn listed j := by
      intro j hj ht
      obtain ⟨_, e, he, hb, h3⟩ := hok.clos i o ho j hj ht
      have hde := hedges e he hb
      rcases h3 with rfl | h3
      · exact hde
      · have hlt' := hok.back i o ho e he hb
        exact hcl e.on j hde (by omega) hj h3
    have him : i < m := by
      rcases Nat.lt_or_ge i m with h1 | h1
      · exact h1
      · obtain ⟨j, hj, hnj⟩ := hsome
        exact absurd (hanc j (by omega) (forced i h1 hlt j (by omega))) hnj
    have G := get V hV
    obtain ⟨x, hxi, hstep⟩ := G.step i (Nat.zero_le _) him o ho
    have hheld : Held (factsAt ws V i) (A.getD i 0) W := fun j hj => factOf_factsAt _ fun hji y hy => hf j y (hanc j (by omega) hj) hy
    have hg := hstep W hx hheld
    -- the frame looks as the text's order has it
    have hfr := agree_frameAt hok.apart a0 V i (by omega)
    have hlook : ∀ t ∈ o.looksAt ops, (frameAt ops a0 V i).tmps[t]? = a.tmps[t]? := by
      intro t ht
      by_cases hex : ∃ (j : Nat) (oj : Oper), ops[j]? = some oj ∧ oj.dst = some t
      · obtain ⟨j, oj, hoj, hdj⟩ := hex
        have hjs := (Array.getElem?_eq_some_iff.1 hoj).1
        have hlk := hok.looks i j o oj t ho hoj hdj ht
        by_cases hji : j < i
        · rw [if_pos hji] at hlk
          have hdone := hanc j hjs hlk
          by_cases hts : t < a0.tmps.size
          · exact (hfr.done j oj t hji hoj hdj hts).trans (hag.done j oj t hdone hoj hdj hts).symm
          · rw [Array.getElem?_eq_none (Nat.le_of_not_lt (by rw [hfr.size]; exact hts)), Array.getElem?_eq_none (Nat.le_of_not_lt (by rw [hag.size]; exact hts))]
        · rw [if_neg hji] at hlk
          have hndj : ¬ DoneIn listed j := by
            rcases hlk with rfl | hlk
            · exact hnd
            · exact fun hd => hnd (hcl j i hd hjs hlt hlk)
          have r1 := hfr.rest t fun j' o' hj' ho' hd' => by
            have := hok.apart j' j o' oj t ho' hoj hd' hdj
            omega
          have r2 := hag.rest t fun j' o' hj' ho' hd' => by
            have := hok.apart j' j o' oj t ho' hoj hd' hdj
            subst this
            exact hndj hj'
          exact r1.trans r2.symm
      · have hex' : ∀ (j : Nat) (oj : Oper), ops[j]? = some oj → oj.dst ≠ some t := fun j oj h1 h2 => hex ⟨j, oj, h1, h2⟩
        exact (hfr.rest t fun j oj _ h => hex' j oj h).trans (hag.rest t fun j oj _ h => hex' j oj h).symm
    obtain ⟨hex, hwa⟩ := same_looks (hok.sel i o ho) hlook
    -- going on
    have next : ∀ v W', X W W' → x.fact v W' → wpAny P .any ops Q' fuel (listed.setIfInBounds i true) (a.put o.dst v) W' := by
      intro v W' hxw hv
      have hdone : ∀ j, DoneIn (listed.setIfInBounds i true) j ↔ DoneIn listed j ∨ j = i := done_set hl
      have hV' : ∀ j c, ws[j]? = some (.inl c) → (fun j => if j = i then v else V j) j = c := by
        intro j c hc
        by_cases hji : j = i
        · subst hji
          simp only [if_true]
          rw [hxi] at hc
          cases hc
          exact hv
        · simp only [if_neg hji]
          exact hV j c hc
      have hag' := Agree.put (V' := fun j => if j = i then v else V j) hag ho hdone (fun j hj => if_neg fun e : j = i => hnd (e ▸ hj))
        (fun j oj d hj hoj hdj hc => hnd (by have := hok.apart j i oj o d hoj ho hdj hc; exact this ▸ hj))
      simp only [if_true] at hag'
      refine ih _ _ W' (fun j => if j = i then v else V j) ?_ (by simpa using hs) (hX _ _ _ hx hxw) hV' hag' ?_ (fun j hj => by rcases (hdone j).1 hj with h | rfl; exact hdm j h; exact him) ?_
      · have := undone_set listed.toList i (by simpa using hfalse)
        rw [Array.toList_setIfInBounds]
        omega
      · intro k j hk hks hjs ht
        rcases (hdone k).1 hk with hk | rfl
        · exact (hdone j).2 (.inl (hcl k j hk hks hjs ht))
        · exact (hdone j).2 (.inl (hanc j hjs ht))
      · intro j y hj hy
        rcases (hdone j).1 hj with hj | rfl
        · have hji : j ≠ i := fun e => hnd (e ▸ hj)
          simp only [if_neg hji]
          exact G.keep j (Nat.zero_le _) (hdm j hj) y hy _ _ _ hxw (hf j y hj hy)
        · simp only [if_true]
          rw [hxi] at hy
          cases hy
          exact hv
    unfold opGives at hg
    unfold wpOp
    rw [ho]
    simp only []
    rw [hwa, hex] at hg
    by_cases hw : Region.wanted o (yielded ops a.tmps) = true
    · rw [if_pos hw] at hg ⊢
      refine .inl ?_
      unfold Oper.wp
      generalize (execOp a.eval o).run P W = r at *
      cases r with
      | halt h w => exact hg.elim
      | ok n w =>
        cases n <;> simp only [givesUpon] at hg <;> simp only [Oper.upon]
        case value v => exact next _ _ hg.1 hg.2
        case skip => exact next _ _ hg.1 hg.2
        case enter f args =>
          exact hg.mono fun e w' ⟨v, he, h1, h2⟩ => by
            subst he
            exact next _ _ h1 h2
    · rw [if_neg hw] at hg ⊢
      exact next _ _ hg.1 hg.2

/-- That the operations from m on stand behind all that stand ahead of them in the text. -/
def forcedOk (ops : Array Oper) (A : List Nat) (m : Nat) : Bool :=
  (List.range ops.size).all fun k => decide (k < m) || (List.range k).all fun j => (A.getD k 0).testBit j
theorem forced_spec {m : Nat} (h : forcedOk ops A m = true) : ∀ k, m ≤ k → k < ops.size → ∀ j, j < k → (A.getD k 0).testBit j = true := by
  intro k hmk hk j hj
  unfold forcedOk at h
  rw [List.all_eq_true] at h
  have h1 := h k (List.mem_range.2 hk)
  have h2 : decide (k < m) = false := by simp; omega
  rw [h2, Bool.false_or, List.all_eq_true] at h1
  exact h1 j (List.mem_range.2 hj)

/-- ████ A region that draws its order: the obligations in the text's order serve every order. The last operations, which stand behind all others (a store, an append), are walked as ever. -/
theorem wp_region_dag_tail (m : Nat) {Q' : Exit → Act → World → Prop} {id : Nat} {a0 : Act} {ws : List Want} (hm : P.follows .mixedOrders = true) (hok : dagOk ops (ancs ops) = true) (hfo : forcedOk ops (ancs ops) m = true) (hle : m ≤ ops.size)
    (hX : ∀ a b c, X a b → X b c → X a c) (h0 : X w0 { w0 with drawn := w0.drawn + 1 })
    (h : dagObl P X w0 ops (ancs ops) (fun a w => wpList P ops Q' (ops.toList.drop m) a w) (ops.toList.take m) ws 0 [] a0) : (Code.region id ops true).wp P Q' a0 w0 := by
  have hd := dagOk_spec hok
  refine wp_region_any hm (dag_any hle (forced_spec hfo) (fun _ _ h => h) hd hX (ws := ws) (fun V hV => dag_get hV hle m 0 (by omega) (by simpa [factsAt, frameAt] using h)) ops.size (Array.replicate ops.size false) a0 _
    (fun j => match ws[j]? with | some (.inl c) => c | _ => undef) ?_ (by simp) h0 ?_ (Agree.start fun j => ?_) ?_ ?_ ?_)
  · simp [undone]
  · intro j c hc
    simp only [hc]
  · simp [DoneIn, Array.getElem?_replicate]
    split <;> simp
  · intro i j hi _ _ _
    have : ¬ DoneIn (Array.replicate ops.size false) i := by simp [DoneIn, Array.getElem?_replicate]; split <;> simp
    exact absurd hi this
  · intro j hj
    have : ¬ DoneIn (Array.replicate ops.size false) j := by simp [DoneIn, Array.getElem?_replicate]; split <;> simp
    exact absurd hj this
  · intro j x hj
    have : ¬ DoneIn (Array.replicate ops.size false) j := by simp [DoneIn, Array.getElem?_replicate]; split <;> simp
    exact absurd hj this
theorem wp_region_dag {Q' : Exit → Act → World → Prop} {id : Nat} {a0 : Act} {ws : List Want} (hm : P.follows .mixedOrders = true) (hok : dagOk ops (ancs ops) = true) (hX : ∀ a b c, X a b → X b c → X a c)
    (h0 : X w0 { w0 with drawn := w0.drawn + 1 }) (h : dagObl P X w0 ops (ancs ops) (fun a w => Q' .normal a w) ops.toList ws 0 [] a0) : (Code.region id ops true).wp P Q' a0 w0 := by
  refine wp_region_dag_tail ops.size (ws := ws) hm hok ?_ (Nat.le_refl _) hX h0 ?_
  · unfold forcedOk
    rw [List.all_eq_true]
    intro k hk
    simp [List.mem_range.1 hk]
  · have e1 : ops.toList.take ops.size = ops.toList := List.take_of_length_le (by simp)
    have e2 : ops.toList.drop ops.size = [] := List.drop_of_length_le (by simp)
    rw [e1, e2]
    exact h

/-! ### Steps through the obligations -/
theorem dag_is {o : Oper} {os : List Oper} {c : Value} {ws : List Want} {i : Nat} {facts : List (Nat × (World → Prop))} {a : Act}
    (h1 : ∀ W, X w0 W → Held facts (A.getD i 0) W → opGives P ops o a W (fun v W' => X W W' ∧ v = c)) (h2 : dagObl P X w0 ops A Q os ws (i + 1) facts (a.put o.dst c)) :
    dagObl P X w0 ops A Q (o :: os) (.inl c :: ws) i facts a := ⟨h1, h2⟩
theorem dag_rel {o : Oper} {os : List Oper} {ws : List Want} {i : Nat} {facts : List (Nat × (World → Prop))} {a : Act} (R : Value → World → Prop) (hst : ∀ v W W', X W W' → R v W → R v W')
    (h1 : ∀ W, X w0 W → Held facts (A.getD i 0) W → opGives P ops o a W (fun v W' => X W W' ∧ R v W')) (h2 : ∀ v, dagObl P X w0 ops A Q os ws (i + 1) ((i, R v) :: facts) (a.put o.dst v)) :
    dagObl P X w0 ops A Q (o :: os) (.inr R :: ws) i facts a := ⟨hst, h1, h2⟩
theorem dag_end {i : Nat} {facts : List (Nat × (World → Prop))} {a : Act} (h : ∀ W, X w0 W → (∀ j, factOf facts j W) → Q a W) : dagObl P X w0 ops A Q [] [] i facts a := h
/-- The operation yields a value and leaves the world alone. -/
theorem dag_val (hX : ∀ a, X a a) {o : Oper} {os : List Oper} {c : Value} {ws : List Want} {i : Nat} {facts : List (Nat × (World → Prop))} {a : Act}
    (hw : Region.wanted o (yielded ops a.tmps) = true) (h1 : ∀ W, X w0 W → Held facts (A.getD i 0) W → (execOp a.eval o).run P W = .ok (.value c) W) (h2 : dagObl P X w0 ops A Q os ws (i + 1) facts (a.put o.dst c)) :
    dagObl P X w0 ops A Q (o :: os) (.inl c :: ws) i facts a := ⟨fun W hx hh => by
      unfold opGives
      rw [if_pos hw, h1 W hx hh]
      exact ⟨hX W, rfl⟩, h2⟩
/-- The operation's guard says no. -/
theorem dag_not (hX : ∀ a, X a a) {o : Oper} {os : List Oper} {ws : List Want} {i : Nat} {facts : List (Nat × (World → Prop))} {a : Act}
    (hw : Region.wanted o (yielded ops a.tmps) = false) (h2 : dagObl P X w0 ops A Q os ws (i + 1) facts (a.put o.dst undef)) :
    dagObl P X w0 ops A Q (o :: os) (.inl undef :: ws) i facts a := ⟨fun W _ _ => by
      unfold opGives
      rw [if_neg (by rw [hw]; decide)]
      exact ⟨hX W, rfl⟩, h2⟩
/-- A call whose value is known. -/
theorem dag_call {o : Oper} {os : List Oper} {c : Value} {ws : List Want} {i : Nat} {facts : List (Nat × (World → Prop))} {a : Act} {f : FuncId} {args : Array Value}
    (hw : Region.wanted o (yielded ops a.tmps) = true) (hr : ∀ W, (execOp a.eval o).run P W = .ok (.enter f args) W)
    (h1 : ∀ W, X w0 W → Held facts (A.getD i 0) W → Calls P f args W (fun e W' => e = .returned c ∧ X W W')) (h2 : dagObl P X w0 ops A Q os ws (i + 1) facts (a.put o.dst c)) :
    dagObl P X w0 ops A Q (o :: os) (.inl c :: ws) i facts a := ⟨fun W hx hh => by
      unfold opGives
      rw [if_pos hw, hr W]
      exact (h1 W hx hh).mono fun e W' ⟨he, hx'⟩ => ⟨c, he, hx', rfl⟩, h2⟩
/-- A call of whose value a relation is known. -/
theorem dag_calls {o : Oper} {os : List Oper} {ws : List Want} {i : Nat} {facts : List (Nat × (World → Prop))} {a : Act} {f : FuncId} {args : Array Value} (R : Value → World → Prop) (hst : ∀ v W W', X W W' → R v W → R v W')
    (hw : Region.wanted o (yielded ops a.tmps) = true) (hr : ∀ W, (execOp a.eval o).run P W = .ok (.enter f args) W)
    (h1 : ∀ W, X w0 W → Held facts (A.getD i 0) W → Calls P f args W (fun e W' => ∃ v, e = .returned v ∧ R v W' ∧ X W W')) (h2 : ∀ v, dagObl P X w0 ops A Q os ws (i + 1) ((i, R v) :: facts) (a.put o.dst v)) :
    dagObl P X w0 ops A Q (o :: os) (.inr R :: ws) i facts a := ⟨hst, fun W hx hh => by
      unfold opGives
      rw [if_pos hw, hr W]
      exact (h1 W hx hh).mono fun e W' ⟨v, he, hr', hx'⟩ => ⟨v, he, hx', hr'⟩, h2⟩

end
#print axioms wp_region_dag
end Go.Proofs.Ytpejdompanhieaa
