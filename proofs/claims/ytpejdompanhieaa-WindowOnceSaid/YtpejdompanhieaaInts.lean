/- Rows of numbers. -/
import Derived.Test.YtpejdompanhieaaRow
namespace Go.Proofs.Ytpejdompanhieaa
open Go.RowKit

/-- One cell, that holds a number. -/
def RN (_ : World) (cs : List Value) (x : Int) : Prop := cs = [.int .i64 x]
theorem T.intInfo : (Try.prog.info? 3).map (fun i => (i.zero, i.size, i.bytes)) = some (some (.int .i64 0), 1, 8) := by kernel_rfl
theorem T.ints : RowT Try.prog 89 3 (.int .i64 0) 1 8 := ⟨Try.underlying89, info_parts T.intInfo, rfl, by omega⟩
abbrev IV (w : World) (v : Value) (xs : List Int) : Prop := SRow 1 RN (fun _ => True) w v xs
abbrev IO (w : World) (B : Nat) (v : Value) (xs : List Int) : Prop := ORow 3 1 RN (fun _ => False) w B v xs
theorem IO.view {w : World} {B : Nat} {v : Value} {xs : List Int} (h : IO w B v xs) : IV w v xs := (ORow.view h).mono fun _ _ _ => trivial
theorem int_at {S : Nat → Prop} {w : World} {p : Option Addr} {n c : Nat} {xs : List Int} (h : SRow 1 RN S w (.slice p n c) xs) {j : Nat} (hj : j < xs.length) :
    ∃ b o, p = some ⟨b, o, none⟩ ∧ w.cell? ⟨b, o + j, none⟩ = some (.int .i64 xs[j]) := by
  obtain ⟨b, o, cs, e, _, hc, hu⟩ := h.cells (by decide) hj
  have := hu.now
  unfold RN at this
  subst this
  exact ⟨b, o, e, by simpa using hc 0 _ rfl⟩
theorem int_lit1 (S : Nat → Prop) (w : World) (x : Int) : SRow 1 RN S (w.alloc (.cells #[.int .i64 x] 3)) (.slice (some ⟨w.heap.size, 0, none⟩) 1 1) [x] :=
  SRow.lit1 (cs := [.int .i64 x]) rfl (fun u hu => by rw [List.mem_singleton] at hu; subst hu; rfl) fun w' _ => rfl
/-- A row that stands beside one that grows. -/
theorem ORow.beside {α : Type} {e sz : Nat} {R : World → List Value → α → Prop} {S T : Nat → Prop} {w w' : World} {B : Nat} {v : Value} {xs : List α} {g : Option Nat} (h : ORow e sz R S w B v xs) (hg : w.grownBy w' g) (hne : v.ownBlock = none ∨ v.ownBlock ≠ g)
    (hs : ∀ k, k < w.heap.size → S k → some k ≠ g ∧ T k) : ORow e sz R T w' B v xs := by
  obtain ⟨css, h1, h2, h3⟩ := h
  refine ⟨css, h1, World.ownsRow.kept h2 hg hne, h3.later ((keeps_grown hg).mono fun k hk hh => (hs k hk hh.1).1) fun k hk hh => ⟨(hs k hk hh.1).2, hh.2⟩⟩

theorem apart_grow {a b v : Option Nat} {n : Nat} (hab : a = none ∨ a ≠ b) (hv : v = b ∨ v = some n) (ha : ∀ k, a = some k → k < n) : v = none ∨ v ≠ a := by
  rcases hv with rfl | rfl
  · rcases hab with rfl | h
    · cases v with
      | none => exact .inl rfl
      | some j => exact .inr (by simp)
    · exact .inr h.symm
  · refine .inr fun e => ?_
    have := ha n e.symm
    omega
/-- Numbers without a sign, as numbers. -/
def ni (l : List Nat) : List Int := l.map fun n => ((n : Nat) : Int)
theorem ni_length (l : List Nat) : (ni l).length = l.length := by simp [ni]
theorem ni_get (l : List Nat) (j : Nat) (h : j < (ni l).length) : (ni l)[j] = ((l[j]'(by rw [← ni_length l]; exact h) : Nat) : Int) := by simp [ni]
theorem ni_snoc (l : List Nat) (x : Nat) : ni (l ++ [x]) = ni l ++ [(x : Int)] := by simp [ni]
end Go.Proofs.Ytpejdompanhieaa
