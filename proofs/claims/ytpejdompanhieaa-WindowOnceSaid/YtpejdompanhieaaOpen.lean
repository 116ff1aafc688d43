/- How arguments that came in are read: from a row's reading to the words of the walks. -/
import Derived.Test.YtpejdompanhieaaMem
import Derived.OpenShut
import Derived.DataReads
namespace Go.Proofs.Ytpejdompanhieaa
open Go.RowKit Go.ChangeShapes Go.WideShapes

theorem wf_u8 {n : Int} (h : (Lit.int .u8 n).wf = true) : 0 ≤ n ∧ n < 256 := by
  simp [Lit.wf, IntKind.min, IntKind.max, IntKind.signed, IntKind.bits] at h; omega
theorem wf_u16 {n : Int} (h : (Lit.int .u16 n).wf = true) : 0 ≤ n ∧ n < 65536 := by
  simp [Lit.wf, IntKind.min, IntKind.max, IntKind.signed, IntKind.bits] at h; omega
theorem wf_i64 {n : Int} (h : (Lit.int .i64 n).wf = true) : -9223372036854775808 ≤ n ∧ n ≤ 9223372036854775807 := by
  simp [Lit.wf, IntKind.min, IntKind.max, IntKind.signed, IntKind.bits] at h; omega

theorem open_bytes {H : Type} {enc : TypeId × Value → H} {P : Program} {W : World} {base : Nat} {held : Bool} {t e : TypeId} (ht : P.underlying t = some (.slice e)) (he : P.underlying e = some (.int .u8)) (hc : P.cellsOf e = 1)
    {a : Option Addr} {n c : Nat} {d : DataW H} {ps : List MemPlace} (h : DataW.Trod enc P W base (fun _ => true) held t (.slice a n c) d ps) : ∃ l, BV W (.slice a n c) l := by
  obtain ⟨fuel, hf⟩ := h
  rcases open_ints ht he hc hf with ⟨hcs, _⟩ | ⟨x, l, c', zs, hcs, _, hl, hm, hz, _, hcell, hwz⟩
  · simp [Value.cells] at hcs
    obtain ⟨rfl, rfl, rfl⟩ := hcs
    exact ⟨[], BV.nil W⟩
  · simp [Value.cells] at hcs
    obtain ⟨rfl, rfl, rfl⟩ := hcs
    have hz' : zs.length = c := by simpa using hz
    refine ⟨(zs.take n).map fun z => UInt8.ofNat z.toNat, some x, c, ?_, ?_, hm, ?_⟩
    · simp; omega
    · simp; omega
    · intro hne
      have hlen : 0 < n ∧ n ≤ zs.length := by
        have : (zs.take n) ≠ [] := by intro e; apply hne; simp [bs, e]
        have h2 : 0 < (zs.take n).length := List.length_pos_iff.2 this
        simp at h2
        omega
      obtain ⟨b, off, spot⟩ := x
      have h0 := hcell 0 (by omega)
      have hspot : spot = none := by simpa [Addr.add] using World.cell?_spot h0
      subst hspot
      refine ⟨b, off, rfl, fun j u hu => ?_⟩
      have hj : j < n := by
        have := (List.getElem?_eq_some_iff.1 hu).1
        simp [bs] at this
        omega
      have hjz : j < zs.length := by omega
      have h1 := hcell j hjz
      rw [add_lit] at h1
      rw [h1]
      have h2 := (wf_u8 (hwz _ (List.getElem_mem hjz)))
      simp [bs, hj, hjz] at hu
      rw [← hu]
      simp [bv, List.getD_eq_getElem?_getD, hjz]
      omega
end Go.Proofs.Ytpejdompanhieaa
