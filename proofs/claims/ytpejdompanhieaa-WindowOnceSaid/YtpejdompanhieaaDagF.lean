/- A region whose operations may come up in any order that its edges allow, and whose rows are its own: what makes a row makes it afresh; an append takes the row that it grows away. What was there ahead of the region is as it was, all along; a row that was not taken away stands apart from all others. -/
import Derived.Test.YtpejdompanhieaaRow
import Derived.Test.YtpejdompanhieaaDag
import Derived.Test.YtpejdompanhieaaObj
namespace Go.Proofs.Ytpejdompanhieaa
open Go.RowKit

/-- The block of its own that a value leads to: a slice's, a pointer's. -/
def ownOf : Value → Option Nat
  | .slice (some a) _ _ => some a.block
  | .pointer (some a) => some a.block
  | .agg cs => match cs.toList with
    | .slice (some a) _ _ :: _ => some a.block
    | _ => none
  | _ => none
theorem ownOf_agg (p : Option Addr) (n c : Nat) (r : List Value) : ownOf (.agg (.slice p n c :: r).toArray) = (Value.slice p n c).ownBlock := by cases p <;> rfl
theorem ownOf_slice (p : Option Addr) (n c : Nat) : ownOf (.slice p n c) = (Value.slice p n c).ownBlock := by cases p <;> rfl
/-- A thing of the region's own: it hangs on its own block, and on what was there ahead. -/
structure Res (n : Nat) (R : Value → World → Prop) : Prop where
  stable : ∀ v W W', R v W → Keeps (fun k => k < n ∨ ownOf v = some k) W W' → R v W'
  owns : ∀ v W k, R v W → ownOf v = some k → n ≤ k ∧ k < W.heap.size
/-- What an operation's slot shall hold: a value that is known; a thing that is made; one that grows out of that of operation j, which is then taken away; the thing of operation j, changed in its place (a store). -/
inductive WantF where
  | val (c : Value)
  | row (R : Value → World → Prop)
  | app (j : Nat) (R : Value → World → Prop)
  | upd (j : Nat) (R : Value → World → Prop)
def WantF.says : WantF → Option (Value → World → Prop)
  | .val _ => none
  | .row R => some R
  | .app _ R => some R
  | .upd _ R => some R
abbrev FactsF := List (Nat × Value × (World → Prop))
def heldF (facts : FactsF) (anc : Nat) (W : World) : Prop := ∀ x ∈ facts, anc.testBit x.1 = true → x.2.2 W
def dropF (facts : FactsF) (j : Nat) : FactsF := facts.filter fun x => x.1 != j
/-- Those that look at row j come ahead of operation i, that takes it away. -/
def takeOk (A : List Nat) (i j : Nat) : Bool := decide (j < i) && (A.getD i 0).testBit j && (List.range i).all fun k => !(A.getD k 0).testBit j || (A.getD i 0).testBit k

def dagOblF (P : Program) (w0 : World) (ops : Array Oper) (A : List Nat) (Q : Act → World → Prop) : List Oper → List WantF → Nat → FactsF → Act → Prop
  | o :: os, .val c :: ws, i, facts, a =>
    (∀ W, Ext w0 W → heldF facts (A.getD i 0) W → opGives P ops o a W (fun v W' => Ext W W' ∧ v = c)) ∧ dagOblF P w0 ops A Q os ws (i + 1) facts (a.put o.dst c)
  | o :: os, .row R :: ws, i, facts, a =>
    Res w0.heap.size R ∧ (∀ W, Ext w0 W → heldF facts (A.getD i 0) W → opGives P ops o a W (fun v W' => Ext W W' ∧ R v W' ∧ ∀ k, ownOf v = some k → W.heap.size ≤ k)) ∧ ∀ v, dagOblF P w0 ops A Q os ws (i + 1) ((i, v, R v) :: facts) (a.put o.dst v)
  | o :: os, .app j R :: ws, i, facts, a =>
    Res w0.heap.size R ∧ takeOk A i j = true ∧ ∃ vj F, (j, vj, F) ∈ facts ∧ (∀ W, Ext w0 W → heldF facts (A.getD i 0) W → opGives P ops o a W (fun v W' => W.grownBy W' (ownOf vj) ∧ R v W' ∧ (ownOf v = ownOf vj ∨ ∀ k, ownOf v = some k → W.heap.size ≤ k))) ∧
      ∀ v, dagOblF P w0 ops A Q os ws (i + 1) ((i, v, R v) :: dropF facts j) (a.put o.dst v)
  | o :: os, .upd j R :: ws, i, facts, a =>
    Res w0.heap.size R ∧ takeOk A i j = true ∧ ∃ vj F, (j, vj, F) ∈ facts ∧ (∀ W, Ext w0 W → heldF facts (A.getD i 0) W → opGives P ops o a W (fun _ W' => W.grownBy W' (ownOf vj) ∧ R vj W')) ∧
      ∀ v, dagOblF P w0 ops A Q os ws (i + 1) ((i, vj, R vj) :: dropF facts j) (a.put o.dst v)
  | [], [], _, facts, a => ∀ W, Ext w0 W → (∀ x ∈ facts, x.2.2 W) → (∀ x ∈ facts, ∀ y ∈ facts, x.1 ≠ y.1 → ∀ k, ownOf x.2.1 = some k → ownOf y.2.1 ≠ some k) → Q a W
  | _, _, _, _, _ => False

/-- What operation k's thing is told by: its own value, or that of the thing it changed. -/
def hdl (ws : List WantF) (V : Nat → Value) : Nat → Nat → Value
  | 0, k => V k
  | f + 1, k => match ws[k]? with
    | some (.upd j _) => hdl ws V f j
    | _ => V k
/-- The facts in the text's order ahead of operation k. -/
def factsF (ws : List WantF) (V : Nat → Value) : Nat → FactsF
  | 0 => []
  | k + 1 => match ws[k]? with
    | some (.row R) => (k, hdl ws V k k, R (hdl ws V k k)) :: factsF ws V k
    | some (.app j R) => (k, hdl ws V k k, R (hdl ws V k k)) :: dropF (factsF ws V k) j
    | some (.upd j R) => (k, hdl ws V k k, R (hdl ws V k k)) :: dropF (factsF ws V k) j
    | _ => factsF ws V k
/-- Operation i takes away the row of operation j. -/
def takes (ws : List WantF) (i j : Nat) : Prop := ∃ R, ws[i]? = some (.app j R) ∨ ws[i]? = some (.upd j R)
theorem mem_dropF {facts : FactsF} {j : Nat} {x : Nat × Value × (World → Prop)} : x ∈ dropF facts j ↔ x ∈ facts ∧ x.1 ≠ j := by
  simp [dropF]
theorem factsF_mem {ws : List WantF} {V : Nat → Value} (hlt : ∀ i j, takes ws i j → j < i) : ∀ (k : Nat) (x : Nat × Value × (World → Prop)), x ∈ factsF ws V k → x.1 < k ∧ (∃ y R, ws[x.1]? = some y ∧ y.says = some R ∧ x.2.1 = hdl ws V x.1 x.1 ∧ x.2.2 = R (hdl ws V x.1 x.1)) ∧ ∀ i, i < k → ¬ takes ws i x.1
  | 0, x, h => by simp [factsF] at h
  | k + 1, x, h => by
    unfold factsF at h
    have step : x ∈ factsF ws V k → ¬ takes ws k x.1 → x.1 < k + 1 ∧ (∃ y R, ws[x.1]? = some y ∧ y.says = some R ∧ x.2.1 = hdl ws V x.1 x.1 ∧ x.2.2 = R (hdl ws V x.1 x.1)) ∧ ∀ i, i < k + 1 → ¬ takes ws i x.1 := fun hx hn => by
      obtain ⟨h1, h2, h3⟩ := factsF_mem hlt k x hx
      refine ⟨by omega, h2, fun i hi ht => ?_⟩
      by_cases e : i = k
      · subst e; exact hn ht
      · exact h3 i (by omega) ht
    split at h
    · rename_i R hw
      rcases List.mem_cons.1 h with rfl | h
      · exact ⟨by simp, ⟨_, R, hw, rfl, rfl, rfl⟩, fun i hi ht => by have := hlt i k ht; omega⟩
      · exact step h fun ⟨R', e⟩ => by rw [hw] at e; rcases e with e | e <;> cases e
    · rename_i j R hw
      rcases List.mem_cons.1 h with rfl | h
      · exact ⟨by simp, ⟨_, R, hw, rfl, rfl, rfl⟩, fun i hi ht => by have := hlt i k ht; omega⟩
      · rw [mem_dropF] at h
        exact step h.1 fun ⟨R', e⟩ => by rw [hw] at e; rcases e with e | e <;> cases e; exact h.2 rfl
    · rename_i j R hw
      rcases List.mem_cons.1 h with rfl | h
      · exact ⟨by simp, ⟨_, R, hw, rfl, rfl, rfl⟩, fun i hi ht => by have := hlt i k ht; omega⟩
      · rw [mem_dropF] at h
        exact step h.1 fun ⟨R', e⟩ => by rw [hw] at e; rcases e with e | e <;> cases e; exact h.2 rfl
    · rename_i hn1 hn2 hn3
      exact step h fun ⟨R', e⟩ => by rcases e with e | e; exact hn2 _ _ e; exact hn3 _ _ e
theorem hdl_fuel {ws : List WantF} {V : Nat → Value} (hlt : ∀ i j, takes ws i j → j < i) : ∀ (j f : Nat), j ≤ f → hdl ws V f j = hdl ws V j j := by
  intro j
  induction j using Nat.strongRecOn with
  | _ j ih =>
    intro f hf
    cases f with
    | zero => (obtain rfl : j = 0 := by omega); rfl
    | succ f =>
      cases j with
      | zero =>
        simp only [hdl]
        split
        · rename_i j' R hw
          have := hlt 0 j' ⟨R, .inr hw⟩
          omega
        · rfl
      | succ g =>
        simp only [hdl]
        split
        · rename_i j' R hw
          have := hlt _ j' ⟨R, .inr hw⟩
          rw [ih j' (by omega) f (by omega), ih j' (by omega) g (by omega)]
        · rfl
theorem hdl_upd {ws : List WantF} {V : Nat → Value} (hlt : ∀ i j, takes ws i j → j < i) {i j : Nat} {R : Value → World → Prop} (h : ws[i]? = some (.upd j R)) : hdl ws V i i = hdl ws V j j := by
  have hji := hlt i j ⟨R, .inr h⟩
  cases i with
  | zero => omega
  | succ g =>
    show (match ws[g + 1]? with | some (.upd j _) => hdl ws V g j | _ => V (g + 1)) = _
    rw [h]
    exact hdl_fuel hlt j g (by omega)
theorem hdl_self {ws : List WantF} {V : Nat → Value} {i : Nat} (h : ∀ j R, ws[i]? ≠ some (.upd j R)) : hdl ws V i i = V i := by
  cases i with
  | zero => rfl
  | succ g =>
    show (match ws[g + 1]? with | some (.upd j _) => hdl ws V g j | _ => V (g + 1)) = V (g + 1)
    cases hw : ws[g + 1]? with
    | none => rfl
    | some x =>
      cases x with
      | val c => rfl
      | row R => rfl
      | app j R => rfl
      | upd j R => exact absurd hw (h j R)
theorem hdl_agree {ws : List WantF} {V V' : Nat → Value} {D : Nat → Prop} (hD : ∀ k j R, D k → ws[k]? = some (.upd j R) → D j) (hV : ∀ k, D k → V' k = V k) : ∀ (f k : Nat), D k → hdl ws V' f k = hdl ws V f k
  | 0, k, hk => hV k hk
  | f + 1, k, hk => by
    simp only [hdl]
    split
    · rename_i j R hw; exact hdl_agree hD hV f j (hD k j R hk hw)
    · exact hV k hk

section
variable {P : Program} {w0 : World} {ops : Array Oper} {A : List Nat} {Q : Act → World → Prop}

/-- What is known of operation k. -/
def stepF (P : Program) (w0 : World) (ops : Array Oper) (A : List Nat) (ws : List WantF) (V : Nat → Value) (k : Nat) (o : Oper) (a : Act) : WantF → Prop
  | .val c => ∀ W, Ext w0 W → heldF (factsF ws V k) (A.getD k 0) W → opGives P ops o a W (fun v W' => Ext W W' ∧ v = c)
  | .row R => Res w0.heap.size R ∧ ∀ W, Ext w0 W → heldF (factsF ws V k) (A.getD k 0) W → opGives P ops o a W (fun v W' => Ext W W' ∧ R v W' ∧ ∀ g, ownOf v = some g → W.heap.size ≤ g)
  | .app j R => Res w0.heap.size R ∧ takeOk A k j = true ∧ (∃ vj F, (j, vj, F) ∈ factsF ws V k ∧ vj = hdl ws V j j) ∧
      ∀ W, Ext w0 W → heldF (factsF ws V k) (A.getD k 0) W → opGives P ops o a W (fun v W' => W.grownBy W' (ownOf (hdl ws V j j)) ∧ R v W' ∧ (ownOf v = ownOf (hdl ws V j j) ∨ ∀ g, ownOf v = some g → W.heap.size ≤ g))
  | .upd j R => Res w0.heap.size R ∧ takeOk A k j = true ∧ (∃ vj F, (j, vj, F) ∈ factsF ws V k ∧ vj = hdl ws V j j) ∧
      ∀ W, Ext w0 W → heldF (factsF ws V k) (A.getD k 0) W → opGives P ops o a W (fun _ W' => W.grownBy W' (ownOf (hdl ws V j j)) ∧ R (hdl ws V j j) W')
structure GetF (P : Program) (w0 : World) (ops : Array Oper) (A : List Nat) (Q : Act → World → Prop) (ws : List WantF) (a0 : Act) (V : Nat → Value) (m i : Nat) : Prop where
  step : ∀ k, i ≤ k → k < m → ∀ o, ops[k]? = some o → ∃ x, ws[k]? = some x ∧ stepF P w0 ops A ws V k o (frameAt ops a0 V k) x
  last : ∀ W, Ext w0 W → (∀ x ∈ factsF ws V m, x.2.2 W) → (∀ x ∈ factsF ws V m, ∀ y ∈ factsF ws V m, x.1 ≠ y.1 → ∀ k, ownOf x.2.1 = some k → ownOf y.2.1 ≠ some k) → Q (frameAt ops a0 V m) W

/-- That the wants take nothing twice and nothing that comes behind. -/
theorem takes_of_obl {m : Nat} (hm : m ≤ ops.size) : ∀ (n i : Nat) (ws : List WantF) (facts : FactsF) (a : Act), n + i = m → dagOblF P w0 ops A Q ((ops.toList.take m).drop i) ws i facts a → ∀ t j, takes ws t j → j < i + t
  | 0, i, ws, facts, a, hn, h, t, j, ht => by
    have e1 : (ops.toList.take m).drop i = [] := by simp; omega
    rw [e1] at h
    cases ws with
    | nil => obtain ⟨R, ht⟩ := ht; simp at ht
    | cons x r => cases x <;> simp [dagOblF] at h
  | n + 1, i, ws, facts, a, hn, h, t, j, ht => by
    have hl : i < (ops.toList.take m).length := by simp; omega
    rw [List.drop_eq_getElem_cons hl] at h
    cases ws with
    | nil => simp [dagOblF] at h
    | cons x r =>
      have rest : ∀ facts' a', dagOblF P w0 ops A Q ((ops.toList.take m).drop (i + 1)) r (i + 1) facts' a' → ∀ t', t = t' + 1 → j < i + t := fun facts' a' h' t' e => by
        subst e
        have := takes_of_obl hm n (i + 1) r facts' a' (by omega) h' t' j (by simpa [takes] using ht)
        omega
      have here : ∀ j', takeOk A i j' = true → j' < i := fun j' h2 => by
        unfold takeOk at h2
        rw [Bool.and_eq_true, Bool.and_eq_true, decide_eq_true_eq] at h2
        exact h2.1.1
      cases x with
      | val c =>
        simp only [dagOblF] at h
        cases t with
        | zero => simp [takes] at ht
        | succ t => exact rest _ _ h.2 t rfl
      | row R' =>
        simp only [dagOblF] at h
        cases t with
        | zero => simp [takes] at ht
        | succ t => exact rest _ _ (h.2.2 undef) t rfl
      | app j' R' =>
        simp only [dagOblF] at h
        obtain ⟨_, h2, vj, F, _, _, h5⟩ := h
        cases t with
        | zero =>
          obtain ⟨R, ht⟩ := ht
          simp at ht
          obtain ⟨rfl, _⟩ := ht
          exact here _ h2
        | succ t => exact rest _ _ (h5 undef) t rfl
      | upd j' R' =>
        simp only [dagOblF] at h
        obtain ⟨_, h2, vj, F, _, _, h5⟩ := h
        cases t with
        | zero =>
          obtain ⟨R, ht⟩ := ht
          simp at ht
          obtain ⟨rfl, _⟩ := ht
          exact here _ h2
        | succ t => exact rest _ _ (h5 undef) t rfl

theorem get_F {ws : List WantF} (hlt : ∀ i j, takes ws i j → j < i) {a0 : Act} {V : Nat → Value} (hV : ∀ j c, ws[j]? = some (.val c) → V j = c) {m : Nat} (hm : m ≤ ops.size) :
    ∀ n i, n + i = m → dagOblF P w0 ops A Q ((ops.toList.take m).drop i) (ws.drop i) i (factsF ws V i) (frameAt ops a0 V i) → GetF P w0 ops A Q ws a0 V m i
  | 0, i, hn, h => by
    have hi : i = m := by omega
    subst hi
    have e1 : (ops.toList.take i).drop i = [] := by simp
    rw [e1] at h
    cases hw : ws.drop i with
    | cons x r => rw [hw] at h; cases x <;> simp [dagOblF] at h
    | nil =>
      rw [hw] at h
      simp only [dagOblF] at h
      exact ⟨fun k hk hk2 => by omega, h⟩
  | n + 1, i, hn, h => by
    have hi : i < ops.size := by omega
    have e1 : (ops.toList.take m).drop i = ops[i] :: (ops.toList.take m).drop (i + 1) := by
      have hl : i < (ops.toList.take m).length := by simp; omega
      rw [List.drop_eq_getElem_cons hl]
      simp
    rw [e1] at h
    have hoi : ops[i]? = some ops[i] := Array.getElem?_eq_getElem hi
    cases hw : ws.drop i with
    | nil => rw [hw] at h; simp [dagOblF] at h
    | cons x r =>
      have hx : ws[i]? = some x := by
        have : (ws.drop i)[0]? = some x := by rw [hw]; rfl
        simpa using this
      have hr : ws.drop (i + 1) = r := by
        have h1 : (ws.drop i).drop 1 = r := by rw [hw]; rfl
        rw [List.drop_drop] at h1
        exact h1
      have hf : frameAt ops a0 V (i + 1) = (frameAt ops a0 V i).put ops[i].dst (V i) := by simp [frameAt, hoi]
      rw [hw] at h
      have split_k : ∀ k, i ≤ k → k = i ∨ i + 1 ≤ k := fun k hk => by omega
      cases x with
      | val c =>
        simp only [dagOblF] at h
        obtain ⟨h1, h2⟩ := h
        have hfa : factsF ws V (i + 1) = factsF ws V i := by simp [factsF, hx]
        have ih := get_F hlt hV hm n (i + 1) (by omega) (by rw [hr, hfa, hf, hV i c hx]; exact h2)
        refine ⟨fun k hk hk2 o ho => ?_, ih.last⟩
        rcases split_k k hk with rfl | hk
        · rw [hoi] at ho; cases ho
          exact ⟨_, hx, h1⟩
        · exact ih.step k hk hk2 o ho
      | row R =>
        simp only [dagOblF] at h
        obtain ⟨h0, h1, h2⟩ := h
        have hself : hdl ws V i i = V i := hdl_self fun j R' e => by rw [hx] at e; cases e
        have hfa : factsF ws V (i + 1) = (i, V i, R (V i)) :: factsF ws V i := by simp [factsF, hx, hself]
        have ih := get_F hlt hV hm n (i + 1) (by omega) (by rw [hr, hfa, hf]; exact h2 (V i))
        refine ⟨fun k hk hk2 o ho => ?_, ih.last⟩
        rcases split_k k hk with rfl | hk
        · rw [hoi] at ho; cases ho
          exact ⟨_, hx, h0, h1⟩
        · exact ih.step k hk hk2 o ho
      | app j R =>
        simp only [dagOblF] at h
        obtain ⟨h0, ht, vj, F, hmem, h1, h2⟩ := h
        have hself : hdl ws V i i = V i := hdl_self fun j R' e => by rw [hx] at e; cases e
        have hfa : factsF ws V (i + 1) = (i, V i, R (V i)) :: dropF (factsF ws V i) j := by simp [factsF, hx, hself]
        have ih := get_F hlt hV hm n (i + 1) (by omega) (by rw [hr, hfa, hf]; exact h2 (V i))
        obtain ⟨_, ⟨_, _, _, _, hvj, _⟩, _⟩ := factsF_mem hlt i _ hmem
        simp only at hvj
        subst hvj
        refine ⟨fun k hk hk2 o ho => ?_, ih.last⟩
        rcases split_k k hk with rfl | hk
        · rw [hoi] at ho; cases ho
          exact ⟨_, hx, h0, ht, ⟨_, F, hmem, rfl⟩, h1⟩
        · exact ih.step k hk hk2 o ho
      | upd j R =>
        simp only [dagOblF] at h
        obtain ⟨h0, ht, vj, F, hmem, h1, h2⟩ := h
        obtain ⟨_, ⟨_, _, _, _, hvj, _⟩, _⟩ := factsF_mem hlt i _ hmem
        simp only at hvj
        subst hvj
        have hup : hdl ws V i i = hdl ws V j j := hdl_upd hlt hx
        have hfa : factsF ws V (i + 1) = (i, hdl ws V j j, R (hdl ws V j j)) :: dropF (factsF ws V i) j := by simp [factsF, hx, hup]
        have ih := get_F hlt hV hm n (i + 1) (by omega) (by rw [hr, hfa, hf]; exact h2 (V i))
        refine ⟨fun k hk hk2 o ho => ?_, ih.last⟩
        rcases split_k k hk with rfl | hk
        · rw [hoi] at ho; cases ho
          exact ⟨_, hx, h0, ht, ⟨_, F, hmem, rfl⟩, h1⟩
        · exact ih.step k hk hk2 o ho

/-- What an operation leaves. -/
def postF (ws : List WantF) (V : Nat → Value) (W : World) : WantF → Value → World → Prop
  | .val c, v, W' => Ext W W' ∧ v = c
  | .row R, v, W' => Ext W W' ∧ R v W' ∧ ∀ g, ownOf v = some g → W.heap.size ≤ g
  | .app j R, v, W' => W.grownBy W' (ownOf (hdl ws V j j)) ∧ R v W' ∧ (ownOf v = ownOf (hdl ws V j j) ∨ ∀ g, ownOf v = some g → W.heap.size ≤ g)
  | .upd j R, _, W' => W.grownBy W' (ownOf (hdl ws V j j)) ∧ R (hdl ws V j j) W'
/-- Row j is there and was not taken away. -/
def AliveF (ws : List WantF) (D : Nat → Prop) (j : Nat) : Prop := D j ∧ (∃ (y : WantF) (R : Value → World → Prop), ws[j]? = some y ∧ y.says = some R) ∧ ∀ i, D i → ¬ takes ws i j
structure InvF (w0 : World) (ws : List WantF) (V : Nat → Value) (D : Nat → Prop) (W : World) : Prop where
  ext : Ext w0 W
  fact : ∀ (j : Nat) (y : WantF) (R : Value → World → Prop), AliveF ws D j → ws[j]? = some y → y.says = some R → R (hdl ws V j j) W
  apart : ∀ j j', AliveF ws D j → AliveF ws D j' → j ≠ j' → ∀ k, ownOf (hdl ws V j j) = some k → ownOf (hdl ws V j' j') ≠ some k

theorem dag_anyF {Q' : Exit → Act → World → Prop} {m : Nat} (hm : m ≤ ops.size) (forced : ∀ k, m ≤ k → k < ops.size → ∀ j, j < k → (A.getD k 0).testBit j = true)
    (hQ : ∀ a w, Q a w → wpList P ops Q' (ops.toList.drop m) a w) (hok : DagOk ops A)
    {ws : List WantF} {a0 : Act} (hlt : ∀ i j, takes ws i j → j < i) (hwm : ∀ i y, ws[i]? = some y → i < m) (get : ∀ V : Nat → Value, (∀ j c, ws[j]? = some (.val c) → V j = c) → GetF P w0 ops A Q ws a0 V m 0) :
    ∀ (fuel : Nat) (listed : Array Bool) (a : Act) (W : World) (V : Nat → Value), undone listed.toList = fuel → listed.size = ops.size →
      (∀ j c, ws[j]? = some (.val c) → V j = c) → Agree ops a0 V (DoneIn listed) a →
      (∀ i j, DoneIn listed i → i < ops.size → j < ops.size → (A.getD i 0).testBit j = true → DoneIn listed j) → (∀ j, DoneIn listed j → j < m) →
      InvF w0 ws V (DoneIn listed) W → wpAny P .any ops Q' fuel listed a W := by
  have finish : ∀ (fuel : Nat) (listed : Array Bool) (a : Act) (W : World) (V : Nat → Value), undone listed.toList = fuel → listed.size = ops.size → (∀ j c, ws[j]? = some (.val c) → V j = c) →
      Agree ops a0 V (DoneIn listed) a → (∀ j, DoneIn listed j → j < m) → InvF w0 ws V (DoneIn listed) W → (∀ i, i < m → DoneIn listed i) → wpAny P .any ops Q' fuel listed a W := by
    intro fuel listed a W V hu hs hV hag hdm hf hall
    have G := get V hV
    have hag' : Agree ops a0 V (DoneIn listed) (frameAt ops a0 V m) := by
      have h := agree_frameAt hok.apart a0 V m hm
      exact ⟨h.defers, h.size, fun j o d hj ho hd hlt => h.done j o d (hdm j hj) ho hd hlt, fun t ht => h.rest t fun j o hj ho => ht j o (hall j hj) ho⟩
    rw [Agree.eq hag hag']
    have hal : ∀ x ∈ factsF ws V m, AliveF ws (DoneIn listed) x.1 := fun x hx => by
      obtain ⟨h1, ⟨y, R, h2, h3, _, _⟩, h6⟩ := factsF_mem hlt m x hx
      exact ⟨hall _ h1, ⟨y, R, h2, h3⟩, fun i hi ht => h6 i (hdm i hi) ht⟩
    refine suffix_any hok forced fuel m listed _ W hu hs (Nat.le_refl _) hm (fun j hj => ⟨hdm j, hall j⟩) (hQ _ _ (G.last W hf.ext (fun x hx => ?_) (fun x hx y hy hne k hk => ?_)))
    · obtain ⟨_, ⟨y, R, h2, h3, _, h5⟩, _⟩ := factsF_mem hlt m x hx
      rw [h5]
      exact hf.fact x.1 y R (hal x hx) h2 h3
    · obtain ⟨_, ⟨_, _, _, _, h4, _⟩, _⟩ := factsF_mem hlt m x hx
      obtain ⟨_, ⟨_, _, _, _, k4, _⟩, _⟩ := factsF_mem hlt m y hy
      rw [h4] at hk
      rw [k4]
      exact hf.apart x.1 y.1 (hal x hx) (hal y hy) hne k hk
  intro fuel
  induction fuel with
  | zero =>
    intro listed a W V hu hs hV hag _ hdm hf
    refine finish 0 listed a W V hu hs hV hag hdm hf fun i hi => ?_
    rcases done_or (ops := ops) listed i hs (by omega) with h | h
    · exact h
    · have h1 : false ∈ listed.toList := Array.mem_toList_iff.2 (Array.mem_of_getElem? h)
      have := undone_zero _ hu _ h1
      cases this
  | succ fuel ih =>
    intro listed a W V hu hs hV hag hcl hdm hf
    by_cases hall : ∀ i, i < m → DoneIn listed i
    · exact finish _ listed a W V hu hs hV hag hdm hf hall
    have hsome : ∃ i, i < m ∧ ¬ DoneIn listed i := Classical.byContradiction fun hc => hall fun i hi => Classical.byContradiction fun hn => hc ⟨i, hi, hn⟩
    have hne : Region.ready .any ops listed ≠ [] := by
      obtain ⟨i, hi, hni⟩ := hsome
      intro hr
      have key : ∀ i, i < ops.size → DoneIn listed i := by
        intro i
        induction i using Nat.strongRecOn with
        | _ i ihs =>
          intro hi
          rcases done_or listed i hs hi with h | h
          · exact h
          · exfalso
            have ho : ops[i]? = some ops[i] := Array.getElem?_eq_getElem hi
            have : i ∈ Region.ready .any ops listed := (ready_in listed i).2 ⟨hi, by simp [h], _, ho, fun e he hb => by
              have hlt := hok.back i _ ho e he hb
              exact ihs e.on hlt (by omega)⟩
            rw [hr] at this
            cases this
      exact hni (key i (by omega))
    refine ⟨fun hr => absurd hr hne, fun i hi => ?_⟩
    obtain ⟨hlti, hn, o, ho, hedges⟩ := (ready_in listed i).1 hi
    have hl : i < listed.size := by omega
    have hfalse : listed[i]? = some false := by
      simp only [Array.getD_eq_getD_getElem?, Array.getElem?_eq_getElem hl, Option.getD_some] at hn
      rw [Array.getElem?_eq_getElem hl, hn]
    have hnd : ¬ DoneIn listed i := by
      unfold DoneIn
      simp [hfalse]
    have hanc : ∀ j, j < ops.size → (A.getD i 0).testBit j = true → DoneIn listed j := by
      intro j hj ht
      obtain ⟨_, e, he, hb, h3⟩ := hok.clos i o ho j hj ht
      have hde := hedges e he hb
      rcases h3 with rfl | h3
      · exact hde
      · have hlt' := hok.back i o ho e he hb
        exact hcl e.on j hde (by omega) hj h3
    have him : i < m := by
      rcases Nat.lt_or_ge i m with h1 | h1
      · exact h1
      · obtain ⟨j, hj, hnj⟩ := hsome
        exact absurd (hanc j (by omega) (forced i h1 hlti j (by omega))) hnj
    have G := get V hV
    have hopk : ∀ k, k < m → ∃ ok, ops[k]? = some ok := fun k hk => ⟨_, Array.getElem?_eq_getElem (by omega)⟩
    have htk : ∀ k j, takes ws k j → takeOk A k j = true ∧ ∀ i', i' < k → ¬ takes ws i' j := fun k j ht => by
      obtain ⟨R, hR⟩ := ht
      have hkm : k < m := by rcases hR with hR | hR <;> exact hwm k _ hR
      obtain ⟨ok, hok'⟩ := hopk k hkm
      obtain ⟨x, hx, hst⟩ := G.step k (Nat.zero_le _) hkm ok hok'
      rcases hR with hR | hR
      · rw [hR] at hx
        cases hx
        obtain ⟨_, h2, ⟨vj, F, h3, _⟩, _⟩ := hst
        exact ⟨h2, (factsF_mem hlt k _ h3).2.2⟩
      · rw [hR] at hx
        cases hx
        obtain ⟨_, h2, ⟨vj, F, h3, _⟩, _⟩ := hst
        exact ⟨h2, (factsF_mem hlt k _ h3).2.2⟩
    have huniq : ∀ k k' j, takes ws k j → takes ws k' j → k = k' := fun k k' j h1 h2 => by
      rcases Nat.lt_trichotomy k k' with h | h | h
      · exact absurd h1 ((htk k' j h2).2 k h)
      · exact h
      · exact absurd h2 ((htk k j h1).2 k' h)
    have hres : ∀ (j : Nat) (y : WantF) (R : Value → World → Prop), ws[j]? = some y → y.says = some R → Res w0.heap.size R := fun j y R hy hR => by
      have hjm := hwm j _ hy
      obtain ⟨oj, hoj⟩ := hopk j hjm
      obtain ⟨x, hx, hst⟩ := G.step j (Nat.zero_le _) hjm oj hoj
      rw [hy] at hx
      cases hx
      cases y with
      | val c => cases hR
      | row R' => cases hR; exact hst.1
      | app j' R' => cases hR; exact hst.1
      | upd j' R' => cases hR; exact hst.1
    obtain ⟨x, hxi, hstep⟩ := G.step i (Nat.zero_le _) him o ho
    have hheld : heldF (factsF ws V i) (A.getD i 0) W := fun x hx hb => by
      obtain ⟨h1, ⟨y, R, h2, h3, _, h5⟩, h6⟩ := factsF_mem hlt i x hx
      rw [h5]
      refine hf.fact x.1 y R ⟨hanc _ (by omega) hb, ⟨y, R, h2, h3⟩, fun i' hi' ht => ?_⟩ h2 h3
      have hge : i ≤ i' := Nat.le_of_not_lt fun hlt' => h6 i' hlt' ht
      have hgt : i < i' := by
        rcases Nat.lt_or_eq_of_le hge with h | h
        · exact h
        · exact absurd (h ▸ hi') hnd
      have hto := (htk i' x.1 ht).1
      unfold takeOk at hto
      rw [Bool.and_eq_true, Bool.and_eq_true, List.all_eq_true] at hto
      have hbit := hto.2 i (List.mem_range.2 hgt)
      rw [hb] at hbit
      simp only [Bool.not_true, Bool.false_or] at hbit
      exact hnd (hcl i' i hi' (by have := hdm i' hi'; omega) hlti hbit)
    have hfr := agree_frameAt hok.apart a0 V i (by omega)
    have hlook : ∀ t ∈ o.looksAt ops, (frameAt ops a0 V i).tmps[t]? = a.tmps[t]? := by
      intro t ht
      by_cases hex : ∃ (j : Nat) (oj : Oper), ops[j]? = some oj ∧ oj.dst = some t
      · obtain ⟨j, oj, hoj, hdj⟩ := hex
        have hjs := (Array.getElem?_eq_some_iff.1 hoj).1
        have hlk := hok.looks i j o oj t ho hoj hdj ht
        by_cases hji : j < i
        · rw [if_pos hji] at hlk
          have hdone := hanc j hjs hlk
          by_cases hts : t < a0.tmps.size
          · exact (hfr.done j oj t hji hoj hdj hts).trans (hag.done j oj t hdone hoj hdj hts).symm
          · rw [Array.getElem?_eq_none (Nat.le_of_not_lt (by rw [hfr.size]; exact hts)), Array.getElem?_eq_none (Nat.le_of_not_lt (by rw [hag.size]; exact hts))]
        · rw [if_neg hji] at hlk
          have hndj : ¬ DoneIn listed j := by
            rcases hlk with rfl | hlk
            · exact hnd
            · exact fun hd => hnd (hcl j i hd hjs hlti hlk)
          have r1 := hfr.rest t fun j' o' hj' ho' hd' => by
            have := hok.apart j' j o' oj t ho' hoj hd' hdj
            omega
          have r2 := hag.rest t fun j' o' hj' ho' hd' => by
            have := hok.apart j' j o' oj t ho' hoj hd' hdj
            subst this
            exact hndj hj'
          exact r1.trans r2.symm
      · have hex' : ∀ (j : Nat) (oj : Oper), ops[j]? = some oj → oj.dst ≠ some t := fun j oj h1 h2 => hex ⟨j, oj, h1, h2⟩
        exact (hfr.rest t fun j oj _ h => hex' j oj h).trans (hag.rest t fun j oj _ h => hex' j oj h).symm
    obtain ⟨hex, hwa⟩ := same_looks (hok.sel i o ho) hlook
    have hdone : ∀ j, DoneIn (listed.setIfInBounds i true) j ↔ DoneIn listed j ∨ j = i := done_set hl
    -- what is asked of the world behind this operation
    have next : ∀ v W', (∀ c, x = .val c → v = c) → InvF w0 ws (fun j => if j = i then v else V j) (DoneIn (listed.setIfInBounds i true)) W' → wpAny P .any ops Q' fuel (listed.setIfInBounds i true) (a.put o.dst v) W' := by
      intro v W' hv hinv
      have hV' : ∀ j c, ws[j]? = some (.val c) → (fun j => if j = i then v else V j) j = c := by
        intro j c hc
        by_cases hji : j = i
        · subst hji
          simp only [if_true]
          rw [hxi] at hc
          cases hc
          exact hv c rfl
        · simp only [if_neg hji]
          exact hV j c hc
      have hag' := Agree.put (V' := fun j => if j = i then v else V j) hag ho hdone (fun j hj => if_neg fun e : j = i => hnd (e ▸ hj))
        (fun j oj d hj hoj hdj hc => hnd (by have := hok.apart j i oj o d hoj ho hdj hc; exact this ▸ hj))
      simp only [if_true] at hag'
      refine ih _ _ W' (fun j => if j = i then v else V j) ?_ (by simpa using hs) hV' hag' ?_ (fun j hj => by rcases (hdone j).1 hj with h | rfl; exact hdm j h; exact him) hinv
      · have := undone_set listed.toList i (by simpa using hfalse)
        rw [Array.toList_setIfInBounds]
        omega
      · intro k j hk hks hjs ht
        rcases (hdone k).1 hk with hk | rfl
        · exact (hdone j).2 (.inl (hcl k j hk hks hjs ht))
        · exact (hdone j).2 (.inl (hanc j hjs ht))
    -- rows that were alive and still are
    have was : ∀ j, AliveF ws (DoneIn (listed.setIfInBounds i true)) j → j ≠ i → AliveF ws (DoneIn listed) j ∧ ¬ takes ws i j := fun j hj hne => by
      obtain ⟨h1, h2, h3⟩ := hj
      exact ⟨⟨((hdone j).1 h1).resolve_right hne, h2, fun i' hi' => h3 i' ((hdone i').2 (.inl hi'))⟩, h3 i ((hdone i).2 (.inr rfl))⟩
    have hbit : ∀ k j, takes ws k j → (A.getD k 0).testBit j = true := fun k j ht => by
      have hto := (htk k j ht).1
      unfold takeOk at hto
      rw [Bool.and_eq_true, Bool.and_eq_true] at hto
      exact hto.1.2
    have hclos : ∀ k j R, DoneIn listed k → ws[k]? = some (.upd j R) → DoneIn listed j := fun k j R hk hw => by
      have h1 := hdm k hk
      have h2 := hlt k j ⟨R, .inr hw⟩
      exact hcl k j hk (by omega) (by omega) (hbit k j ⟨R, .inr hw⟩)
    have hold : ∀ (v : Value) (j : Nat), DoneIn listed j → hdl ws (fun t => if t = i then v else V t) j j = hdl ws V j j := fun v j hj =>
      hdl_agree hclos (fun k hk => if_neg fun e : k = i => hnd (e ▸ hk)) j j hj
    have hsz := hf.ext.size
    have old : ∀ j, AliveF ws (DoneIn listed) j → ∀ k, ownOf (hdl ws V j j) = some k → w0.heap.size ≤ k ∧ k < W.heap.size := fun j hj k hk => by
      obtain ⟨_, ⟨y, R, hy, hR⟩, _⟩ := id hj
      exact (hres j y R hy hR).owns _ _ k (hf.fact j y R hj hy hR) hk
    -- a change at the thing of jt, which operation i takes away: the others stand
    have change : ∀ (v : Value) (W' : World) (R0 : Value → World → Prop) (jt : Nat), x.says = some R0 → takes ws i jt → (∃ vj F, (jt, vj, F) ∈ factsF ws V i) → W.grownBy W' (ownOf (hdl ws V jt jt)) →
        R0 (hdl ws (fun t => if t = i then v else V t) i i) W' → (ownOf (hdl ws (fun t => if t = i then v else V t) i i) = ownOf (hdl ws V jt jt) ∨ ∀ g, ownOf (hdl ws (fun t => if t = i then v else V t) i i) = some g → W.heap.size ≤ g) →
        InvF w0 ws (fun t => if t = i then v else V t) (DoneIn (listed.setIfInBounds i true)) W' := by
      intro v W' R0 jt hsay htakes hmem hg hR0 hown
      obtain ⟨vj, F, hmem⟩ := hmem
      obtain ⟨hjt1, ⟨yt, Rt, hyt, hRt, _, _⟩, _⟩ := factsF_mem hlt i _ hmem
      simp only at hjt1 hyt
      have hjal : AliveF ws (DoneIn listed) jt := ⟨hanc jt (by omega) (hbit i jt htakes), ⟨yt, Rt, hyt, hRt⟩, fun i' hi' ht => hnd (by rw [huniq i i' jt htakes ht]; exact hi')⟩
      have hown0 := old jt hjal
      have hext : Ext w0 W' := Below.grown hf.ext hg hsz fun k hk => (hown0 k hk).1
      have nej : ∀ j, AliveF ws (DoneIn (listed.setIfInBounds i true)) j → j ≠ i → j ≠ jt := fun j hj hji e => (was j hj hji).2 (e ▸ htakes)
      refine ⟨hext, fun j y R hj hy hR => ?_, fun j j' hj hj' hne k hk => ?_⟩
      · by_cases hji : j = i
        · subst hji
          rw [hxi] at hy; cases hy
          rw [hsay] at hR; cases hR
          exact hR0
        · have hal := (was j hj hji).1
          rw [hold v j hal.1]
          refine (hres j y R hy hR).stable _ _ _ (hf.fact j y R hal hy hR) ((keeps_grown hg).mono fun k hk hs e => ?_)
          rcases hs with hs | hs
          · have := (hown0 k e.symm).1; omega
          · exact hf.apart j jt hal hjal (nej j hj hji) k hs e.symm
      · have key : ∀ j', AliveF ws (DoneIn (listed.setIfInBounds i true)) j' → j' ≠ i → ∀ k, ownOf (hdl ws (fun t => if t = i then v else V t) i i) = some k → ownOf (hdl ws V j' j') ≠ some k := fun j' hj' hji' k hk e => by
          have hal := (was j' hj' hji').1
          rcases hown with h | h
          · rw [h] at hk
            exact hf.apart j' jt hal hjal (nej j' hj' hji') k e hk
          · have h1 := h k hk
            have h2 := (old j' hal k e).2
            omega
        by_cases hji : j = i
        · have hji' : j' ≠ i := fun e => hne (hji.trans e.symm)
          rw [hold v j' (was j' hj' hji').1.1]
          rw [hji] at hk
          exact key j' hj' hji' k hk
        · rw [hold v j (was j hj hji).1.1] at hk
          by_cases hji' : j' = i
          · rw [hji']
            intro e
            exact key j hj hji k e hk
          · rw [hold v j' (was j' hj' hji').1.1]
            exact hf.apart j j' (was j hj hji).1 (was j' hj' hji').1 hne k hk
    have hlast : ∀ v W', postF ws V W x v W' →
        wpAny P .any ops Q' fuel (listed.setIfInBounds i true) (a.put o.dst v) W' := by
      intro v W' hxv
      cases x with
      | val c =>
        obtain ⟨hx, rfl⟩ := hxv
        have ns : ∀ j, AliveF ws (DoneIn (listed.setIfInBounds i true)) j → j ≠ i := fun j hj e => by
          subst e
          obtain ⟨_, ⟨y, R, hy, hR⟩, _⟩ := hj
          rw [hxi] at hy; cases hy; cases hR
        refine next v W' (fun c e => by cases e; rfl) ⟨hf.ext.trans hx, fun j y R hj hy hR => ?_, fun j j' hj hj' hne k hk => ?_⟩
        · have hji := ns j hj
          rw [hold v j (was j hj hji).1.1]
          exact (hres j y R hy hR).stable _ _ _ (hf.fact j y R (was j hj hji).1 hy hR) (hx.keeps _)
        · rw [hold v j (was j hj (ns j hj)).1.1] at hk
          rw [hold v j' (was j' hj' (ns j' hj')).1.1]
          exact hf.apart j j' (was j hj (ns j hj)).1 (was j' hj' (ns j' hj')).1 hne k hk
      | row R0 =>
        obtain ⟨hx, hR0, hfresh⟩ := hxv
        have hself : hdl ws (fun t => if t = i then v else V t) i i = v := (hdl_self fun j R' e => by rw [hxi] at e; cases e).trans (if_pos rfl)
        refine next v W' (fun c e => by cases e) ⟨hf.ext.trans hx, fun j y R hj hy hR => ?_, fun j j' hj hj' hne k hk => ?_⟩
        · by_cases hji : j = i
          · subst hji
            rw [hxi] at hy; cases hy; cases hR
            rw [hself]
            exact hR0
          · rw [hold v j (was j hj hji).1.1]
            exact (hres j y R hy hR).stable _ _ _ (hf.fact j y R (was j hj hji).1 hy hR) (hx.keeps _)
        · by_cases hji : j = i
          · have hji' : j' ≠ i := fun e => hne (hji.trans e.symm)
            rw [hji, hself] at hk
            rw [hold v j' (was j' hj' hji').1.1]
            intro e
            have h1 := hfresh k hk
            have h2 := (old j' (was j' hj' hji').1 k e).2
            omega
          · rw [hold v j (was j hj hji).1.1] at hk
            by_cases hji' : j' = i
            · rw [hji', hself]
              intro e
              have h1 := hfresh k e
              have h2 := (old j (was j hj hji).1 k hk).2
              omega
            · rw [hold v j' (was j' hj' hji').1.1]
              exact hf.apart j j' (was j hj hji).1 (was j' hj' hji').1 hne k hk
      | app jt R0 =>
        obtain ⟨hg, hR0, hown⟩ := hxv
        have hself : hdl ws (fun t => if t = i then v else V t) i i = v := (hdl_self fun j R' e => by rw [hxi] at e; cases e).trans (if_pos rfl)
        obtain ⟨_, _, ⟨vj, F, hmem, _⟩, _⟩ := hstep
        exact next v W' (fun c e => by cases e) (change v W' R0 jt rfl ⟨R0, .inl hxi⟩ ⟨vj, F, hmem⟩ hg (by rw [hself]; exact hR0) (by rw [hself]; exact hown))
      | upd jt R0 =>
        obtain ⟨hg, hR0⟩ := hxv
        obtain ⟨_, _, ⟨vj, F, hmem, _⟩, _⟩ := hstep
        have hjd : DoneIn listed jt := hanc jt (by have := hlt i jt ⟨R0, .inr hxi⟩; omega) (hbit i jt ⟨R0, .inr hxi⟩)
        have hself : hdl ws (fun t => if t = i then v else V t) i i = hdl ws V jt jt := (hdl_upd hlt hxi).trans (hold v jt hjd)
        exact next v W' (fun c e => by cases e) (change v W' R0 jt rfl ⟨R0, .inr hxi⟩ ⟨vj, F, hmem⟩ hg (by rw [hself]; exact hR0) (by rw [hself]; exact .inl rfl))
    have hg : opGives P ops o (frameAt ops a0 V i) W (postF ws V W x) := by
      cases x with
      | val c => exact hstep W hf.ext hheld
      | row R => exact hstep.2 W hf.ext hheld
      | app j R => exact hstep.2.2.2 W hf.ext hheld
      | upd j R => exact hstep.2.2.2 W hf.ext hheld
    unfold opGives at hg
    unfold wpOp
    rw [ho]
    simp only []
    rw [hwa, hex] at hg
    by_cases hw : Region.wanted o (yielded ops a.tmps) = true
    · rw [if_pos hw] at hg ⊢
      refine .inl ?_
      unfold Oper.wp
      generalize (execOp a.eval o).run P W = r at *
      cases r with
      | halt h w => exact hg.elim
      | ok n w =>
        cases n <;> simp only [givesUpon] at hg <;> simp only [Oper.upon]
        case value v => exact hlast _ _ hg
        case skip => exact hlast _ _ hg
        case enter f args =>
          exact hg.mono fun e w' ⟨v, he, h1⟩ => by
            subst he
            exact hlast _ _ h1
    · rw [if_neg hw] at hg ⊢
      exact hlast _ _ hg

theorem len_of_obl : ∀ (os : List Oper) (i : Nat) (ws : List WantF) (facts : FactsF) (a : Act), dagOblF P w0 ops A Q os ws i facts a → ws.length = os.length
  | [], i, ws, facts, a, h => by cases ws with
    | nil => rfl
    | cons x r => cases x <;> simp [dagOblF] at h
  | o :: os, i, ws, facts, a, h => by
    cases ws with
    | nil => simp [dagOblF] at h
    | cons x r =>
      cases x with
      | val c => simp only [dagOblF] at h; simp [len_of_obl os _ r _ _ h.2]
      | row R => simp only [dagOblF] at h; simp [len_of_obl os _ r _ _ (h.2.2 undef)]
      | app j R => simp only [dagOblF] at h; obtain ⟨_, _, _, _, _, _, h2⟩ := h; simp [len_of_obl os _ r _ _ (h2 undef)]
      | upd j R => simp only [dagOblF] at h; obtain ⟨_, _, _, _, _, _, h2⟩ := h; simp [len_of_obl os _ r _ _ (h2 undef)]

/-- ████ A region that draws its order and whose rows are its own; the operations from m on stand behind all others and are walked as ever. -/
theorem wp_region_dagF (m : Nat) {Q' : Exit → Act → World → Prop} {id : Nat} {a0 : Act} {ws : List WantF} (hm : P.follows .mixedOrders = true) (hok : dagOk ops (ancs ops) = true) (hfo : forcedOk ops (ancs ops) m = true) (hle : m ≤ ops.size)
    (h : dagOblF P w0 ops (ancs ops) (fun a w => wpList P ops Q' (ops.toList.drop m) a w) (ops.toList.take m) ws 0 [] a0) : (Code.region id ops true).wp P Q' a0 w0 := by
  have hd := dagOk_spec hok
  have hlen := len_of_obl _ _ _ _ _ h
  have hwm : ∀ (i : Nat) (y : WantF), ws[i]? = some y → i < m := fun i y hy => by
    have := (List.getElem?_eq_some_iff.1 hy).1
    rw [hlen, List.length_take] at this
    omega
  have hlt : ∀ i j, takes ws i j → j < i := fun i j ht => by
    have := takes_of_obl hle m 0 ws [] a0 (by omega) (by simpa using h) i j ht
    omega
  refine wp_region_any hm (dag_anyF hle (forced_spec hfo) (fun _ _ h => h) hd hlt hwm (ws := ws) (fun V hV => get_F hlt hV hle m 0 (by omega) (by simpa [factsF, frameAt] using h)) ops.size (Array.replicate ops.size false) a0 _
    (fun j => match ws[j]? with | some (.val c) => c | _ => undef) ?_ (by simp) ?_ (Agree.start fun j => ?_) ?_ ?_ ?_)
  · simp [undone]
  · intro j c hc
    simp only [hc]
  · simp [DoneIn, Array.getElem?_replicate]
    split <;> simp
  · intro i j hi _ _ _
    have : ¬ DoneIn (Array.replicate ops.size false) i := by simp [DoneIn, Array.getElem?_replicate]; split <;> simp
    exact absurd hi this
  · intro j hj
    have : ¬ DoneIn (Array.replicate ops.size false) j := by simp [DoneIn, Array.getElem?_replicate]; split <;> simp
    exact absurd hj this
  · have nod : ∀ j, ¬ DoneIn (Array.replicate ops.size false) j := fun j => by simp [DoneIn, Array.getElem?_replicate]; split <;> simp
    exact ⟨Ext.drew1 _, fun j y R hj => absurd hj.1 (nod j), fun j j' hj => absurd hj.1 (nod j)⟩

/-! ### Steps through the obligations -/
variable {o : Oper} {os : List Oper} {ws : List WantF} {i : Nat} {facts : FactsF} {a : Act}
theorem dagf_end (h : ∀ W, Ext w0 W → (∀ x ∈ facts, x.2.2 W) → (∀ x ∈ facts, ∀ y ∈ facts, x.1 ≠ y.1 → ∀ k, ownOf x.2.1 = some k → ownOf y.2.1 ≠ some k) → Q a W) : dagOblF P w0 ops A Q [] [] i facts a := h
theorem dagf_val {c : Value} (hw : Region.wanted o (yielded ops a.tmps) = true) (h1 : ∀ W, Ext w0 W → heldF facts (A.getD i 0) W → (execOp a.eval o).run P W = .ok (.value c) W) (h2 : dagOblF P w0 ops A Q os ws (i + 1) facts (a.put o.dst c)) :
    dagOblF P w0 ops A Q (o :: os) (.val c :: ws) i facts a := ⟨fun W hx hh => by
      unfold opGives
      rw [if_pos hw, h1 W hx hh]
      exact ⟨Ext.refl W, rfl⟩, h2⟩
theorem dagf_not (hw : Region.wanted o (yielded ops a.tmps) = false) (h2 : dagOblF P w0 ops A Q os ws (i + 1) facts (a.put o.dst undef)) :
    dagOblF P w0 ops A Q (o :: os) (.val undef :: ws) i facts a := ⟨fun W _ _ => by
      unfold opGives
      rw [if_neg (by rw [hw]; decide)]
      exact ⟨Ext.refl W, rfl⟩, h2⟩
/-- A call whose value is known. -/
theorem dagf_call {c : Value} {f : FuncId} {args : Array Value} (hw : Region.wanted o (yielded ops a.tmps) = true) (hr : ∀ W, (execOp a.eval o).run P W = .ok (.enter f args) W)
    (h1 : ∀ W, Ext w0 W → heldF facts (A.getD i 0) W → Calls P f args W (fun e W' => e = .returned c ∧ Ext W W')) (h2 : dagOblF P w0 ops A Q os ws (i + 1) facts (a.put o.dst c)) :
    dagOblF P w0 ops A Q (o :: os) (.val c :: ws) i facts a := ⟨fun W hx hh => by
      unfold opGives
      rw [if_pos hw, hr W]
      exact (h1 W hx hh).mono fun e W' ⟨he, hx'⟩ => ⟨c, he, hx', rfl⟩, h2⟩
/-- A call that makes a row. -/
theorem dagf_calls {f : FuncId} {args : Array Value} (R : Value → World → Prop) (hR : Res w0.heap.size R) (hw : Region.wanted o (yielded ops a.tmps) = true) (hr : ∀ W, (execOp a.eval o).run P W = .ok (.enter f args) W)
    (h1 : ∀ W, Ext w0 W → heldF facts (A.getD i 0) W → Calls P f args W (fun e W' => ∃ v, e = .returned v ∧ R v W' ∧ (∀ k, ownOf v = some k → W.heap.size ≤ k) ∧ Ext W W')) (h2 : ∀ v, dagOblF P w0 ops A Q os ws (i + 1) ((i, v, R v) :: facts) (a.put o.dst v)) :
    dagOblF P w0 ops A Q (o :: os) (.row R :: ws) i facts a := ⟨hR, fun W hx hh => by
      unfold opGives
      rw [if_pos hw, hr W]
      exact (h1 W hx hh).mono fun e W' ⟨v, he, hr', hf, hx'⟩ => ⟨v, he, hx', hr', hf⟩, h2⟩
/-- An operation that makes a row. -/
theorem dagf_row (R : Value → World → Prop) (hR : Res w0.heap.size R) (hw : Region.wanted o (yielded ops a.tmps) = true)
    (h1 : ∀ W, Ext w0 W → heldF facts (A.getD i 0) W → ∃ v W', (execOp a.eval o).run P W = .ok (.value v) W' ∧ Ext W W' ∧ R v W' ∧ ∀ k, ownOf v = some k → W.heap.size ≤ k) (h2 : ∀ v, dagOblF P w0 ops A Q os ws (i + 1) ((i, v, R v) :: facts) (a.put o.dst v)) :
    dagOblF P w0 ops A Q (o :: os) (.row R :: ws) i facts a := ⟨hR, fun W hx hh => by
      obtain ⟨v, W', hr, h3⟩ := h1 W hx hh
      unfold opGives
      rw [if_pos hw, hr]
      exact h3, h2⟩
/-- An append that takes away the row that it grows. -/
theorem dagf_app (j : Nat) (vj : Value) (F : World → Prop) (R : Value → World → Prop) (hR : Res w0.heap.size R) (ht : takeOk A i j = true) (hm : (j, vj, F) ∈ facts) (hw : Region.wanted o (yielded ops a.tmps) = true)
    (h1 : ∀ W, Ext w0 W → heldF facts (A.getD i 0) W → ∃ v W', (execOp a.eval o).run P W = .ok (.value v) W' ∧ W.grownBy W' (ownOf vj) ∧ R v W' ∧ (ownOf v = ownOf vj ∨ ∀ k, ownOf v = some k → W.heap.size ≤ k)) (h2 : ∀ v, dagOblF P w0 ops A Q os ws (i + 1) ((i, v, R v) :: dropF facts j) (a.put o.dst v)) :
    dagOblF P w0 ops A Q (o :: os) (.app j R :: ws) i facts a := ⟨hR, ht, vj, F, hm, fun W hx hh => by
      obtain ⟨v, W', hr, h3⟩ := h1 W hx hh
      unfold opGives
      rw [if_pos hw, hr]
      exact h3, h2⟩
end

/-- A store into a thing of the region's own. -/
theorem dagf_upd {P : Program} {w0 : World} {ops : Array Oper} {A : List Nat} {Q : Act → World → Prop} {o : Oper} {os : List Oper} {ws : List WantF} {i : Nat} {facts : FactsF} {a : Act} (j : Nat) (vj : Value) (F : World → Prop) (R : Value → World → Prop) (hR : Res w0.heap.size R) (ht : takeOk A i j = true) (hm : (j, vj, F) ∈ facts) (hw : Region.wanted o (yielded ops a.tmps) = true)
    (h1 : ∀ W, Ext w0 W → heldF facts (A.getD i 0) W → ∃ W', (execOp a.eval o).run P W = .ok .skip W' ∧ W.grownBy W' (ownOf vj) ∧ R vj W') (h2 : ∀ v, dagOblF P w0 ops A Q os ws (i + 1) ((i, vj, R vj) :: dropF facts j) (a.put o.dst v)) :
    dagOblF P w0 ops A Q (o :: os) (.upd j R :: ws) i facts a := ⟨hR, ht, vj, F, hm, fun W hx hh => by
      obtain ⟨W', hr, h3⟩ := h1 W hx hh
      unfold opGives
      rw [if_pos hw, hr]
      exact h3, h2⟩
theorem mem_keep {facts : FactsF} {j : Nat} {x : Nat × Value × (World → Prop)} (h : x ∈ facts) (hne : x.1 ≠ j) : x ∈ dropF facts j := mem_dropF.2 ⟨h, hne⟩
theorem own_slice {v : Value} (h : ∃ p n c, v = .slice p n c) : ownOf v = v.ownBlock := by obtain ⟨p, n, c, rfl⟩ := h; exact ownOf_slice p n c
theorem FB.own_eq {w : World} {B : Nat} {v : Value} {l : List UInt8} (h : FB w B v l) : ownOf v = v.ownBlock := own_slice (by obtain ⟨p, c, e, _⟩ := h.slice; exact ⟨p, _, c, e⟩)
theorem FB.res (n : Nat) (l : List UInt8) : Res n (fun v W => FB W n v l) :=
  ⟨fun _ W' _ h k => h.under _ (k.mono fun _ _ e => .inr (by rw [h.own_eq]; exact e)), fun _ _ k h e => h.lt k (by rw [← h.own_eq]; exact e)⟩
theorem ORow.own_eq {α : Type} {sz e : Nat} {R : World → List Value → α → Prop} {S : Nat → Prop} {w : World} {B : Nat} {v : Value} {xs : List α} (h : ORow e sz R S w B v xs) : ownOf v = v.ownBlock :=
  own_slice (by obtain ⟨p, c, e, _⟩ := h.view.slice; exact ⟨p, _, c, e⟩)
/-- Rows whose elements lie in what was there ahead. -/
theorem ORow.res {α : Type} {sz e : Nat} {R : World → List Value → α → Prop} (n : Nat) (xs : List α) : Res n (fun v W => ORow e sz R (fun k => k < n) W n v xs) :=
  ⟨fun v W W' h k => by
    have ho := h.own_eq
    obtain ⟨css, h1, h2, h3⟩ := h
    refine ⟨css, h1, ⟨h2.1, ?_⟩, h3.later (k.mono fun _ _ hh => .inl hh.1) fun _ _ hh => hh⟩
    rcases h2.2 with hn | ⟨g, cap, cur, rfl, hb, hg, r⟩
    · exact .inl hn
    · exact .inr ⟨g, cap, cur, rfl, hb, by rw [k.2 g (Array.getElem?_eq_some_iff.1 hg).1 (.inr rfl)]; exact hg, r⟩, fun v W k h e => h.own k (by rw [← h.own_eq]; exact e)⟩
/-- A thing in a block of its own. -/
theorem ObjAt.res (n : Nat) (t : TypeId) (cs : List Value) : Res n (fun v W => ∃ g, v = .pointer (some ⟨g, 0, none⟩) ∧ n ≤ g ∧ ObjAt W g t cs) :=
  ⟨fun v W W' ⟨g, e, h1, h2⟩ k => ⟨g, e, h1, by unfold ObjAt; rw [k.2 g h2.lt (.inr (by rw [e]; rfl))]; exact h2⟩, fun v W k ⟨g, e, h1, h2⟩ he => by
    rw [e] at he
    have he' : g = k := Option.some.inj he
    subst he'
    exact ⟨h1, h2.lt⟩⟩
/-- 'append(x, y...)' at bytes, in such a region. -/
theorem fapp_bytes {P : Program} {t : TypeId} (hT : RowT P t 5 (.int .u8 0) 1 1) {o : Oper} {a : Act} {x y : Operand} (ho : o.op = .call { callee := .builtin .append, args := #[x, y], argTypes := #[t, t] })
    {W : World} {B : Nat} {vx vy : Value} {l m : List UInt8} (ex : a.eval x = vx) (ey : a.eval y = vy) (hx : FB W B vx l) (hy : BV W vy m) (hlen : l.length + m.length ≤ 140737488355328) (hB : B ≤ W.heap.size) :
    ∃ v W', (execOp a.eval o).run P W = .ok (.value v) W' ∧ W.grownBy W' (ownOf vx) ∧ FB W' B v (l ++ m) ∧ (ownOf v = ownOf vx ∨ ∀ k, ownOf v = some k → W.heap.size ≤ k) := by
  subst ex; subst ey
  obtain ⟨v', w', hr, h1, h2, h3⟩ := run_append_bytes hT ho hx hy hlen hB
  refine ⟨v', w', hr, by rw [hx.own_eq]; exact h2, h1, ?_⟩
  rw [h1.own_eq, hx.own_eq]
  exact h3.imp (fun e => e) fun e k hk => by rw [e] at hk; cases hk; exact Nat.le_refl _
theorem FB.fresh {w w' : World} {v : Value} {l : List UInt8} (h : FB w' w.heap.size v l) : ∀ k, ownOf v = some k → w.heap.size ≤ k := fun k hk => (h.lt k (by rw [← h.own_eq]; exact hk)).1
/-- A box is made. -/
theorem frow_alloc {P : Program} {o : Oper} {a : Act} {W : World} {n : Nat} {t : TypeId} {cs : List Value} (hn : n ≤ W.heap.size) (hr : (execOp a.eval o).run P W = .ok (.value (.pointer (some ⟨W.heap.size, 0, none⟩))) (W.alloc (.cells cs.toArray t))) :
    ∃ v W', (execOp a.eval o).run P W = .ok (.value v) W' ∧ Ext W W' ∧ (∃ g, v = .pointer (some ⟨g, 0, none⟩) ∧ n ≤ g ∧ ObjAt W' g t cs) ∧ ∀ k, ownOf v = some k → W.heap.size ≤ k :=
  ⟨_, _, hr, Ext.alloc _ _, ⟨_, rfl, hn, ObjAt.new W t cs⟩, fun k hk => by have e : W.heap.size = k := Option.some.inj hk; omega⟩
/-- A row of bytes that lies in a struct, ahead of other cells. -/
theorem FB.resAgg (n : Nat) (l : List UInt8) (r : List Value) : Res n (fun v W => ∃ p c, v = .agg (.slice p l.length c :: r).toArray ∧ FB W n (.slice p l.length c) l) :=
  ⟨fun _ W' _ ⟨p, c, e, h⟩ k => ⟨p, c, e, h.under _ (k.mono fun _ _ e2 => .inr (by rw [e, ownOf_agg]; exact e2))⟩, fun _ _ k ⟨p, c, e, h⟩ e2 => h.lt k (by rw [e, ownOf_agg] at e2; exact e2)⟩
/-- A struct is built of a row. -/
theorem fapp_build {P : Program} {o : Oper} {a : Act} {W : World} {n : Nat} {v : Value} {l : List UInt8} {r : List Value} (h : FB W n v l) (hr : ∀ p c, v = .slice p l.length c → (execOp a.eval o).run P W = .ok (.value (.agg (.slice p l.length c :: r).toArray)) W) :
    ∃ v' W', (execOp a.eval o).run P W = .ok (.value v') W' ∧ W.grownBy W' (ownOf v) ∧ (∃ p c, v' = .agg (.slice p l.length c :: r).toArray ∧ FB W' n (.slice p l.length c) l) ∧ (ownOf v' = ownOf v ∨ ∀ k, ownOf v' = some k → W.heap.size ≤ k) := by
  obtain ⟨p, c, rfl, _⟩ := h.slice
  exact ⟨_, W, hr p c rfl, World.grownBy.refl _ _, ⟨p, c, rfl, h⟩, .inl (by rw [ownOf_agg, ownOf_slice])⟩
end Go.Proofs.Ytpejdompanhieaa
