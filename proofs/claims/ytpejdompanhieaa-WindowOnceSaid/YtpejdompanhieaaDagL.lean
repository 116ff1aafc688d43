/- As DagY, with a link beside it: what the writer tells of the value of an earlier operation. -/
import Derived.Test.YtpejdompanhieaaDagY
namespace Go.Proofs.Ytpejdompanhieaa
open Go.RowKit

def dagOblL (P : Program) (X Y Z : World → World → Prop) (L : Value → World → Prop) (j1 k : Nat) (w0 : World) (ops : Array Oper) (A : List Nat) (Q : Act → World → Prop) : List Oper → List Want → Nat → List (Nat × (World → Prop)) → Act → Value → Prop
  | o :: os, .inl c :: ws, i, facts, a, u =>
    i ≠ k ∧ (∀ W, PreY X Y w0 A k i W → Held facts (A.getD i 0) W → opGives P ops o a W (fun v W' => X W W' ∧ v = c)) ∧ dagOblL P X Y Z L j1 k w0 ops A Q os ws (i + 1) facts (a.put o.dst c) (if i = j1 then c else u)
  | o :: os, .inr R :: ws, i, facts, a, u =>
    (∀ v W W', (X W W' ∨ i ≠ k ∧ Z W W') → R v W → R v W') ∧
    (∀ W, PreY X Y w0 A k i W → Held facts (A.getD i 0) W → opGives P ops o a W (fun v W' => StepY X Z k i W W' ∧ R v W' ∧ (i = k → L u W'))) ∧ ∀ v, dagOblL P X Y Z L j1 k w0 ops A Q os ws (i + 1) ((i, R v) :: facts) (a.put o.dst v) (if i = j1 then v else u)
  | [], [], _, facts, a, u => ∀ W, (∀ j, factOf facts j W) → L u W → Q a W
  | _, _, _, _, _, _ => False

section
variable {P : Program} {X Y Z : World → World → Prop} {L : Value → World → Prop} {j1 k0 : Nat} {w0 : World} {ops : Array Oper} {A : List Nat} {Q : Act → World → Prop}

structure DagGetL (P : Program) (X Y Z : World → World → Prop) (L : Value → World → Prop) (j1 k0 : Nat) (w0 : World) (ops : Array Oper) (A : List Nat) (Q : Act → World → Prop) (ws : List Want) (a0 : Act) (V : Nat → Value) (m i : Nat) : Prop where
  step : ∀ k, i ≤ k → k < m → ∀ o, ops[k]? = some o → ∃ x, ws[k]? = some x ∧ ∀ W, PreY X Y w0 A k0 k W → Held (factsAt ws V k) (A.getD k 0) W → opGives P ops o (frameAt ops a0 V k) W (fun v W' => (X W W' ∨ k = k0 ∧ Z W W') ∧ x.fact v W' ∧ (k = k0 → L (V j1) W'))
  keep : ∀ k, i ≤ k → k < m → ∀ x, ws[k]? = some x → ∀ v W W', (X W W' ∨ k ≠ k0 ∧ Z W W') → x.fact v W → x.fact v W'
  last : ∀ W, (∀ j, factOf (factsAt ws V m) j W) → L (V j1) W → Q (frameAt ops a0 V m) W

theorem dag_getL {ws : List Want} {a0 : Act} {V : Nat → Value} (hV : ∀ j c, ws[j]? = some (.inl c) → V j = c) {m : Nat} (hm : m ≤ ops.size) (hj1 : j1 < k0) (hkm : k0 < m) :
    ∀ n i, n + i = m → dagOblL P X Y Z L j1 k0 w0 ops A Q ((ops.toList.take m).drop i) (ws.drop i) i (factsAt ws V i) (frameAt ops a0 V i) (if j1 < i then V j1 else undef) → DagGetL P X Y Z L j1 k0 w0 ops A Q ws a0 V m i
  | 0, i, hn, h => by
    have hi : i = m := by omega
    subst hi
    have e1 : (ops.toList.take i).drop i = [] := by simp
    rw [e1] at h
    cases hw : ws.drop i with
    | cons x r => rw [hw] at h; simp [dagOblL] at h
    | nil =>
      rw [hw] at h
      simp only [dagOblL] at h
      rw [if_pos (by omega)] at h
      exact ⟨fun k hk hk2 => by omega, fun k hk hk2 => by omega, h⟩
  | n + 1, i, hn, h => by
    have hi : i < ops.size := by omega
    have e1 : (ops.toList.take m).drop i = ops[i] :: (ops.toList.take m).drop (i + 1) := by
      have hl : i < (ops.toList.take m).length := by simp; omega
      rw [List.drop_eq_getElem_cons hl]
      simp
    rw [e1] at h
    have hoi : ops[i]? = some ops[i] := Array.getElem?_eq_getElem hi
    cases hw : ws.drop i with
    | nil => rw [hw] at h; simp [dagOblL] at h
    | cons x r =>
      have hx : ws[i]? = some x := by
        have : (ws.drop i)[0]? = some x := by rw [hw]; rfl
        simpa using this
      have hr : ws.drop (i + 1) = r := by
        have h1 : (ws.drop i).drop 1 = r := by rw [hw]; rfl
        rw [List.drop_drop] at h1
        exact h1
      have hf : frameAt ops a0 V (i + 1) = (frameAt ops a0 V i).put ops[i].dst (V i) := by simp [frameAt, hoi]
      rw [hw] at h
      have split_k : ∀ k, i ≤ k → k = i ∨ i + 1 ≤ k := fun k hk => by omega
      cases x with
      | inl c =>
        simp only [dagOblL] at h
        obtain ⟨hik, h1, h2⟩ := h
        have hu : (if i = j1 then c else if j1 < i then V j1 else undef) = (if j1 < i + 1 then V j1 else undef) := by
          by_cases e : i = j1
          · subst e; rw [if_pos rfl, if_pos (by omega)]; exact (hV i c hx).symm
          · rw [if_neg e]; by_cases e2 : j1 < i
            · rw [if_pos e2, if_pos (by omega)]
            · rw [if_neg e2, if_neg (by omega)]
        rw [hu] at h2
        have hfa : factsAt ws V (i + 1) = factsAt ws V i := by simp [factsAt, hx]
        have ih := dag_getL hV hm hj1 hkm n (i + 1) (by omega) (by rw [hr, hfa, hf, hV i c hx]; exact h2)
        refine ⟨fun k hk hk2 o ho => ?_, fun k hk hk2 x hxk => ?_, ih.last⟩
        · rcases split_k k hk with rfl | hk
          · rw [hoi] at ho; cases ho
            exact ⟨_, hx, fun W hp hh => opGives_monoY (h1 W hp hh) fun v W' hv => ⟨.inl hv.1, hv.2, fun e => absurd e hik⟩⟩
          · exact ih.step k hk hk2 o ho
        · rcases split_k k hk with rfl | hk
          · rw [hx] at hxk; cases hxk
            exact fun v W W' _ e => e
          · exact ih.keep k hk hk2 x hxk
      | inr R =>
        simp only [dagOblL] at h
        obtain ⟨h0, h1, h2⟩ := h
        have hfa : factsAt ws V (i + 1) = (i, R (V i)) :: factsAt ws V i := by simp [factsAt, hx]
        have hu : (if i = j1 then V i else if j1 < i then V j1 else undef) = (if j1 < i + 1 then V j1 else undef) := by
          by_cases e : i = j1
          · subst e; rw [if_pos rfl, if_pos (by omega)]
          · rw [if_neg e]; by_cases e2 : j1 < i
            · rw [if_pos e2, if_pos (by omega)]
            · rw [if_neg e2, if_neg (by omega)]
        have ih := dag_getL hV hm hj1 hkm n (i + 1) (by omega) (by rw [hr, hfa, hf, ← hu]; exact h2 (V i))
        refine ⟨fun k hk hk2 o ho => ?_, fun k hk hk2 x hxk => ?_, ih.last⟩
        · rcases split_k k hk with rfl | hk
          · rw [hoi] at ho; cases ho
            refine ⟨_, hx, fun W hp hh => opGives_monoY (h1 W hp hh) fun v W' hv => ⟨?_, hv.2.1, fun e => ?_⟩⟩
            rotate_left
            · have := hv.2.2 e
              rwa [if_pos (by omega)] at this
            have hs := hv.1
            unfold StepY at hs
            split at hs
            · rename_i e; exact .inr ⟨e, hs⟩
            · exact .inl hs
          · exact ih.step k hk hk2 o ho
        · rcases split_k k hk with rfl | hk
          · rw [hx] at hxk; cases hxk
            exact h0
          · exact ih.keep k hk hk2 x hxk

theorem dag_anyL {Q' : Exit → Act → World → Prop} {m : Nat} (hm : m ≤ ops.size) (hk0 : k0 < m) (hj1 : j1 < k0) (hlk : (A.getD k0 0).testBit j1 = true) (hL : ∀ v a b, X a b → L v a → L v b) (forced : ∀ k, m ≤ k → k < ops.size → ∀ j, j < k → (A.getD k 0).testBit j = true)
    (hQ : ∀ a w, Q a w → wpList P ops Q' (ops.toList.drop m) a w) (hok : DagOk ops A) (hX : ∀ a b c, X a b → X b c → X a c) (hY : ∀ a b c, Y a b → Y b c → Y a c) (hXY : ∀ a b, X a b → Y a b) (hZY : ∀ a b, Z a b → Y a b)
    {ws : List Want} {a0 : Act} (get : ∀ V : Nat → Value, (∀ j c, ws[j]? = some (.inl c) → V j = c) → DagGetL P X Y Z L j1 k0 w0 ops A Q ws a0 V m 0) :
    ∀ (fuel : Nat) (listed : Array Bool) (a : Act) (W : World) (V : Nat → Value), undone listed.toList = fuel → listed.size = ops.size → Y w0 W → (¬ DoneIn listed k0 → X w0 W) → (DoneIn listed k0 → L (V j1) W) →
      (∀ j c, ws[j]? = some (.inl c) → V j = c) → Agree ops a0 V (DoneIn listed) a →
      (∀ i j, DoneIn listed i → i < ops.size → j < ops.size → (A.getD i 0).testBit j = true → DoneIn listed j) → (∀ j, DoneIn listed j → j < m) →
      (∀ j x, DoneIn listed j → ws[j]? = some x → x.fact (V j) W) → wpAny P .any ops Q' fuel listed a W := by
  have finish : ∀ (fuel : Nat) (listed : Array Bool) (a : Act) (W : World) (V : Nat → Value), undone listed.toList = fuel → listed.size = ops.size → (∀ j c, ws[j]? = some (.inl c) → V j = c) →
      Agree ops a0 V (DoneIn listed) a → (∀ j, DoneIn listed j → j < m) → (∀ j x, DoneIn listed j → ws[j]? = some x → x.fact (V j) W) → (DoneIn listed k0 → L (V j1) W) → (∀ i, i < m → DoneIn listed i) → wpAny P .any ops Q' fuel listed a W := by
    intro fuel listed a W V hu hs hV hag hdm hf hl0 hall
    have G := get V hV
    have hag' : Agree ops a0 V (DoneIn listed) (frameAt ops a0 V m) := by
      have h := agree_frameAt hok.apart a0 V m hm
      exact ⟨h.defers, h.size, fun j o d hj ho hd hlt => h.done j o d (hdm j hj) ho hd hlt, fun t ht => h.rest t fun j o hj ho => ht j o (hall j hj) ho⟩
    rw [Agree.eq hag hag']
    exact suffix_any hok forced fuel m listed _ W hu hs (Nat.le_refl _) hm (fun j hj => ⟨hdm j, hall j⟩) (hQ _ _ (G.last W (fun j => factOf_factsAt _ fun hj x hx => hf j x (hall j hj) hx) (hl0 (hall k0 hk0))))
  intro fuel
  induction fuel with
  | zero =>
    intro listed a W V hu hs _ hx hl0 hV hag _ hdm hf
    refine finish 0 listed a W V hu hs hV hag hdm hf hl0 fun i hi => ?_
    rcases done_or (ops := ops) listed i hs (by omega) with h | h
    · exact h
    · have h1 : false ∈ listed.toList := Array.mem_toList_iff.2 (Array.mem_of_getElem? h)
      have := undone_zero _ hu _ h1
      cases this
  | succ fuel ih =>
    intro listed a W V hu hs hy hx hl0 hV hag hcl hdm hf
    by_cases hall : ∀ i, i < m → DoneIn listed i
    · exact finish _ listed a W V hu hs hV hag hdm hf hl0 hall
    have hsome : ∃ i, i < m ∧ ¬ DoneIn listed i := Classical.byContradiction fun hc => hall fun i hi => Classical.byContradiction fun hn => hc ⟨i, hi, hn⟩
    have hne : Region.ready .any ops listed ≠ [] := by
      obtain ⟨i, hi, hni⟩ := hsome
      intro hr
      have key : ∀ i, i < ops.size → DoneIn listed i := by
        intro i
        induction i using Nat.strongRecOn with
        | _ i ihs =>
          intro hi
          rcases done_or listed i hs hi with h | h
          · exact h
          · exfalso
            have ho : ops[i]? = some ops[i] := Array.getElem?_eq_getElem hi
            have : i ∈ Region.ready .any ops listed := (ready_in listed i).2 ⟨hi, by simp [h], _, ho, fun e he hb => by
              have hlt := hok.back i _ ho e he hb
              exact ihs e.on hlt (by omega)⟩
            rw [hr] at this
            cases this
      exact hni (key i (by omega))
    refine ⟨fun hr => absurd hr hne, fun i hi => ?_⟩
    obtain ⟨hlt, hn, o, ho, hedges⟩ := (ready_in listed i).1 hi
    have hl : i < listed.size := by omega
    have hfalse : listed[i]? = some false := by
      simp only [Array.getD_eq_getD_getElem?, Array.getElem?_eq_getElem hl, Option.getD_some] at hn
      rw [Array.getElem?_eq_getElem hl, hn]
    have hnd : ¬ DoneIn listed i := by
      unfold DoneIn
      simp [hfalse]
    have hanc : ∀ j, j < ops.size → (A.getD i 0).testBit j = true → DoneIn listed j := by
      intro j hj ht
      obtain ⟨_, e, he, hb, h3⟩ := hok.clos i o ho j hj ht
      have hde := hedges e he hb
      rcases h3 with rfl | h3
      · exact hde
      · have hlt' := hok.back i o ho e he hb
        exact hcl e.on j hde (by omega) hj h3
    have him : i < m := by
      rcases Nat.lt_or_ge i m with h1 | h1
      · exact h1
      · obtain ⟨j, hj, hnj⟩ := hsome
        exact absurd (hanc j (by omega) (forced i h1 hlt j (by omega))) hnj
    have G := get V hV
    obtain ⟨x, hxi, hstep⟩ := G.step i (Nat.zero_le _) him o ho
    have hheld : Held (factsAt ws V i) (A.getD i 0) W := fun j hj => factOf_factsAt _ fun hji y hy => hf j y (hanc j (by omega) hj) hy
    have hpre : PreY X Y w0 A k0 i W := ⟨hy, fun hb => hx fun hd => by
      rcases Bool.or_eq_true _ _ ▸ hb with hb | hb
      · exact hnd (hcl k0 i hd (by omega) hlt hb)
      · exact hnd (by have e : i = k0 := by simpa using hb
                      rw [e]; exact hd)⟩
    have hg := hstep W hpre hheld
    have hfr := agree_frameAt hok.apart a0 V i (by omega)
    have hlook : ∀ t ∈ o.looksAt ops, (frameAt ops a0 V i).tmps[t]? = a.tmps[t]? := by
      intro t ht
      by_cases hex : ∃ (j : Nat) (oj : Oper), ops[j]? = some oj ∧ oj.dst = some t
      · obtain ⟨j, oj, hoj, hdj⟩ := hex
        have hjs := (Array.getElem?_eq_some_iff.1 hoj).1
        have hlk := hok.looks i j o oj t ho hoj hdj ht
        by_cases hji : j < i
        · rw [if_pos hji] at hlk
          have hdone := hanc j hjs hlk
          by_cases hts : t < a0.tmps.size
          · exact (hfr.done j oj t hji hoj hdj hts).trans (hag.done j oj t hdone hoj hdj hts).symm
          · rw [Array.getElem?_eq_none (Nat.le_of_not_lt (by rw [hfr.size]; exact hts)), Array.getElem?_eq_none (Nat.le_of_not_lt (by rw [hag.size]; exact hts))]
        · rw [if_neg hji] at hlk
          have hndj : ¬ DoneIn listed j := by
            rcases hlk with rfl | hlk
            · exact hnd
            · exact fun hd => hnd (hcl j i hd hjs hlt hlk)
          have r1 := hfr.rest t fun j' o' hj' ho' hd' => by
            have := hok.apart j' j o' oj t ho' hoj hd' hdj
            omega
          have r2 := hag.rest t fun j' o' hj' ho' hd' => by
            have := hok.apart j' j o' oj t ho' hoj hd' hdj
            subst this
            exact hndj hj'
          exact r1.trans r2.symm
      · have hex' : ∀ (j : Nat) (oj : Oper), ops[j]? = some oj → oj.dst ≠ some t := fun j oj h1 h2 => hex ⟨j, oj, h1, h2⟩
        exact (hfr.rest t fun j oj _ h => hex' j oj h).trans (hag.rest t fun j oj _ h => hex' j oj h).symm
    obtain ⟨hex, hwa⟩ := same_looks (hok.sel i o ho) hlook
    have next : ∀ v W', (X W W' ∨ i = k0 ∧ Z W W') → x.fact v W' → (i = k0 → L (V j1) W') → wpAny P .any ops Q' fuel (listed.setIfInBounds i true) (a.put o.dst v) W' := by
      intro v W' hxw hv hlw
      have hdone : ∀ j, DoneIn (listed.setIfInBounds i true) j ↔ DoneIn listed j ∨ j = i := done_set hl
      have hV' : ∀ j c, ws[j]? = some (.inl c) → (fun j => if j = i then v else V j) j = c := by
        intro j c hc
        by_cases hji : j = i
        · subst hji
          simp only [if_true]
          rw [hxi] at hc
          cases hc
          exact hv
        · simp only [if_neg hji]
          exact hV j c hc
      have hag' := Agree.put (V' := fun j => if j = i then v else V j) hag ho hdone (fun j hj => if_neg fun e : j = i => hnd (e ▸ hj))
        (fun j oj d hj hoj hdj hc => hnd (by have := hok.apart j i oj o d hoj ho hdj hc; exact this ▸ hj))
      simp only [if_true] at hag'
      refine ih _ _ W' (fun j => if j = i then v else V j) ?_ (by simpa using hs) (hY _ _ _ hy (by rcases hxw with h | ⟨_, h⟩; exact hXY _ _ h; exact hZY _ _ h)) ?_ ?_ hV' hag' ?_ (fun j hj => by rcases (hdone j).1 hj with h | rfl; exact hdm j h; exact him) ?_
      · have := undone_set listed.toList i (by simpa using hfalse)
        rw [Array.toList_setIfInBounds]
        omega
      · intro hn
        have hn1 : ¬ DoneIn listed k0 := fun hd => hn ((hdone k0).2 (.inl hd))
        have hn2 : i ≠ k0 := fun e => hn ((hdone k0).2 (.inr e.symm))
        rcases hxw with hxw | ⟨e, _⟩
        · exact hX _ _ _ (hx hn1) hxw
        · exact absurd e hn2
      · intro hd
        by_cases hik : i = k0
        · have hji : j1 ≠ i := by omega
          simp only [if_neg hji]
          exact hlw hik
        · have hd0 : DoneIn listed k0 := by
            rcases (hdone k0).1 hd with h | h
            · exact h
            · exact absurd h.symm hik
          have hj0 : DoneIn listed j1 := hcl k0 j1 hd0 (by omega) (by omega) hlk
          have hji : j1 ≠ i := fun e => hnd (e ▸ hj0)
          simp only [if_neg hji]
          rcases hxw with hxw | ⟨e, _⟩
          · exact hL _ _ _ hxw (hl0 hd0)
          · exact absurd e hik
      · intro k j hk hks hjs ht
        rcases (hdone k).1 hk with hk | rfl
        · exact (hdone j).2 (.inl (hcl k j hk hks hjs ht))
        · exact (hdone j).2 (.inl (hanc j hjs ht))
      · intro j y hj hy
        rcases (hdone j).1 hj with hj | rfl
        · have hji : j ≠ i := fun e => hnd (e ▸ hj)
          simp only [if_neg hji]
          refine G.keep j (Nat.zero_le _) (hdm j hj) y hy _ _ _ ?_ (hf j y hj hy)
          rcases hxw with hxw | ⟨e, hz⟩
          · exact .inl hxw
          · exact .inr ⟨fun e2 => hji (e2.trans e.symm), hz⟩
        · simp only [if_true]
          rw [hxi] at hy
          cases hy
          exact hv
    unfold opGives at hg
    unfold wpOp
    rw [ho]
    simp only []
    rw [hwa, hex] at hg
    by_cases hw : Region.wanted o (yielded ops a.tmps) = true
    · rw [if_pos hw] at hg ⊢
      refine .inl ?_
      unfold Oper.wp
      generalize (execOp a.eval o).run P W = r at *
      cases r with
      | halt h w => exact hg.elim
      | ok n w =>
        cases n <;> simp only [givesUpon] at hg <;> simp only [Oper.upon]
        case value v => exact next _ _ hg.1 hg.2.1 hg.2.2
        case skip => exact next _ _ hg.1 hg.2.1 hg.2.2
        case enter f args =>
          exact hg.mono fun e w' ⟨v, he, h1, h2, h3⟩ => by
            subst he
            exact next _ _ h1 h2 h3
    · rw [if_neg hw] at hg ⊢
      exact next _ _ hg.1 hg.2.1 hg.2.2

/-- ████ A region that draws its order, with one writer, number k0; the operations from m on stand behind all others and are walked as ever. -/
theorem wp_region_dagL (j1 k0 m : Nat) (Z Y : World → World → Prop) (L : Value → World → Prop) {Q' : Exit → Act → World → Prop} {id : Nat} {a0 : Act} {ws : List Want} (hm : P.follows .mixedOrders = true) (hok : dagOk ops (ancs ops) = true) (hfo : forcedOk ops (ancs ops) m = true) (hle : m ≤ ops.size) (hk : k0 < m) (hj1 : j1 < k0) (hlk : ((ancs ops).getD k0 0).testBit j1 = true) (hL : ∀ v a b, X a b → L v a → L v b)
    (hX : ∀ a b c, X a b → X b c → X a c) (hY : ∀ a b c, Y a b → Y b c → Y a c) (hXY : ∀ a b, X a b → Y a b) (hZY : ∀ a b, Z a b → Y a b) (h0 : X w0 { w0 with drawn := w0.drawn + 1 })
    (h : dagOblL P X Y Z L j1 k0 w0 ops (ancs ops) (fun a w => wpList P ops Q' (ops.toList.drop m) a w) (ops.toList.take m) ws 0 [] a0 undef) : (Code.region id ops true).wp P Q' a0 w0 := by
  have hd := dagOk_spec hok
  refine wp_region_any hm (dag_anyL hle hk hj1 hlk hL (forced_spec hfo) (fun _ _ h => h) hd hX hY hXY hZY (ws := ws) (fun V hV => dag_getL hV hle hj1 hk m 0 (by omega) (by simpa [factsAt, frameAt] using h)) ops.size (Array.replicate ops.size false) a0 _
    (fun j => match ws[j]? with | some (.inl c) => c | _ => undef) ?_ (by simp) (hXY _ _ h0) (fun _ => h0) (fun hd => ?_) ?_ (Agree.start fun j => ?_) ?_ ?_ ?_)
  · simp [undone]
  · have : ¬ DoneIn (Array.replicate ops.size false) k0 := by simp [DoneIn, Array.getElem?_replicate]; split <;> simp
    exact absurd hd this
  · intro j c hc
    simp only [hc]
  · simp [DoneIn, Array.getElem?_replicate]
    split <;> simp
  · intro i j hi _ _ _
    have : ¬ DoneIn (Array.replicate ops.size false) i := by simp [DoneIn, Array.getElem?_replicate]; split <;> simp
    exact absurd hi this
  · intro j hj
    have : ¬ DoneIn (Array.replicate ops.size false) j := by simp [DoneIn, Array.getElem?_replicate]; split <;> simp
    exact absurd hj this
  · intro j x hj
    have : ¬ DoneIn (Array.replicate ops.size false) j := by simp [DoneIn, Array.getElem?_replicate]; split <;> simp
    exact absurd hj this

/-! ### Steps through the obligations -/
theorem dagl_end {i : Nat} {facts : List (Nat × (World → Prop))} {a : Act} {u : Value} (h : ∀ W, (∀ j, factOf facts j W) → L u W → Q a W) : dagOblL P X Y Z L j1 k0 w0 ops A Q [] [] i facts a u := h
/-- The operation yields a value and leaves the world alone. -/
theorem dagl_val (hX : ∀ a, X a a) {o : Oper} {os : List Oper} {c : Value} {ws : List Want} {i : Nat} {facts : List (Nat × (World → Prop))} {a : Act} {u : Value} (hi : i ≠ k0) (hj : i ≠ j1)
    (hw : Region.wanted o (yielded ops a.tmps) = true) (h1 : ∀ W, PreY X Y w0 A k0 i W → Held facts (A.getD i 0) W → (execOp a.eval o).run P W = .ok (.value c) W) (h2 : dagOblL P X Y Z L j1 k0 w0 ops A Q os ws (i + 1) facts (a.put o.dst c) u) :
    dagOblL P X Y Z L j1 k0 w0 ops A Q (o :: os) (.inl c :: ws) i facts a u := ⟨hi, fun W hx hh => by
      unfold opGives
      rw [if_pos hw, h1 W hx hh]
      exact ⟨hX W, rfl⟩, by rw [if_neg hj]; exact h2⟩
/-- The operation runs to a value of which a relation is known. -/
theorem dagl_run {o : Oper} {os : List Oper} {ws : List Want} {i : Nat} {facts : List (Nat × (World → Prop))} {a : Act} {u : Value} (R : Value → World → Prop) (hi : i ≠ k0) (hj : i ≠ j1) (hst : ∀ v W W', (X W W' ∨ i ≠ k0 ∧ Z W W') → R v W → R v W')
    (hw : Region.wanted o (yielded ops a.tmps) = true) (h1 : ∀ W, PreY X Y w0 A k0 i W → Held facts (A.getD i 0) W → ∃ v W', (execOp a.eval o).run P W = .ok (.value v) W' ∧ X W W' ∧ R v W')
    (h2 : ∀ v, dagOblL P X Y Z L j1 k0 w0 ops A Q os ws (i + 1) ((i, R v) :: facts) (a.put o.dst v) u) :
    dagOblL P X Y Z L j1 k0 w0 ops A Q (o :: os) (.inr R :: ws) i facts a u := ⟨hst, fun W hx hh => by
      obtain ⟨v, W', hr, hs, hR⟩ := h1 W hx hh
      unfold opGives
      rw [if_pos hw, hr]
      exact ⟨by unfold StepY; rw [if_neg hi]; exact hs, hR, fun e => absurd e hi⟩, fun v => by rw [if_neg hj]; exact h2 v⟩
/-- The operation of which the writer shall tell. -/
theorem dagl_link {o : Oper} {os : List Oper} {ws : List Want} {i : Nat} {facts : List (Nat × (World → Prop))} {a : Act} {u : Value} (R : Value → World → Prop) (hi : i ≠ k0) (hj : i = j1) (hst : ∀ v W W', (X W W' ∨ i ≠ k0 ∧ Z W W') → R v W → R v W')
    (hw : Region.wanted o (yielded ops a.tmps) = true) (h1 : ∀ W, PreY X Y w0 A k0 i W → Held facts (A.getD i 0) W → ∃ v W', (execOp a.eval o).run P W = .ok (.value v) W' ∧ X W W' ∧ R v W')
    (h2 : ∀ v, dagOblL P X Y Z L j1 k0 w0 ops A Q os ws (i + 1) ((i, R v) :: facts) (a.put o.dst v) v) :
    dagOblL P X Y Z L j1 k0 w0 ops A Q (o :: os) (.inr R :: ws) i facts a u := ⟨hst, fun W hx hh => by
      obtain ⟨v, W', hr, hs, hR⟩ := h1 W hx hh
      unfold opGives
      rw [if_pos hw, hr]
      exact ⟨by unfold StepY; rw [if_neg hi]; exact hs, hR, fun e => absurd e hi⟩, fun v => by rw [if_pos hj]; exact h2 v⟩
/-- A call of whose value a relation is known. -/
theorem dagl_calls {o : Oper} {os : List Oper} {ws : List Want} {i : Nat} {facts : List (Nat × (World → Prop))} {a : Act} {u : Value} {f : FuncId} {args : Array Value} (R : Value → World → Prop) (hi : i ≠ k0) (hj : i ≠ j1) (hst : ∀ v W W', (X W W' ∨ i ≠ k0 ∧ Z W W') → R v W → R v W')
    (hw : Region.wanted o (yielded ops a.tmps) = true) (hr : ∀ W, (execOp a.eval o).run P W = .ok (.enter f args) W)
    (h1 : ∀ W, PreY X Y w0 A k0 i W → Held facts (A.getD i 0) W → Calls P f args W (fun e W' => ∃ v, e = .returned v ∧ R v W' ∧ X W W')) (h2 : ∀ v, dagOblL P X Y Z L j1 k0 w0 ops A Q os ws (i + 1) ((i, R v) :: facts) (a.put o.dst v) u) :
    dagOblL P X Y Z L j1 k0 w0 ops A Q (o :: os) (.inr R :: ws) i facts a u := ⟨hst, fun W hx hh => by
      unfold opGives
      rw [if_pos hw, hr W]
      exact (h1 W hx hh).mono fun e W' ⟨v, he, hr', hx'⟩ => ⟨v, he, by unfold StepY; rw [if_neg hi]; exact hx', hr', fun e => absurd e hi⟩, fun v => by rw [if_neg hj]; exact h2 v⟩
/-- The writer, without a value; it tells of the linked value. -/
theorem dagl_store {o : Oper} {os : List Oper} {ws : List Want} {i : Nat} {facts : List (Nat × (World → Prop))} {a : Act} {u : Value} (hi : i = k0) (hj : i ≠ j1)
    (hw : Region.wanted o (yielded ops a.tmps) = true) (h1 : ∀ W, PreY X Y w0 A k0 i W → Held facts (A.getD i 0) W → ∃ W', (execOp a.eval o).run P W = .ok .skip W' ∧ Z W W' ∧ L u W')
    (h2 : ∀ v, dagOblL P X Y Z L j1 k0 w0 ops A Q os ws (i + 1) ((i, fun _ => True) :: facts) (a.put o.dst v) u) :
    dagOblL P X Y Z L j1 k0 w0 ops A Q (o :: os) (.inr (fun _ _ => True) :: ws) i facts a u := ⟨fun _ _ _ _ _ => trivial, fun W hx hh => by
      obtain ⟨W', hr, hs, hR⟩ := h1 W hx hh
      unfold opGives
      rw [if_pos hw, hr]
      exact ⟨by unfold StepY; rw [if_pos hi]; exact hs, trivial, fun _ => hR⟩, fun v => by rw [if_neg hj]; exact h2 v⟩
end
end Go.Proofs.Ytpejdompanhieaa
