/- A slice of numbers that came in. -/
import Derived.Test.YtedmhhllkkgbjaaFg20
import Derived.Deep.Slices
import Derived.ProofKit
namespace Go.Proofs.Ytedmhhllkkgbjaa
open Go.RowKit Go.ChangeShapes Go.WideShapes Go.Deep

theorem ints_of {H : Type} {enc : TypeId × Value → H} {W : World} {held : Bool} {a : Option Addr} {len cap : Nat} {d : DataW H} {p : List MemPlace} (h : DataW.Trod enc Try.prog W 0 (fun _ => true) held 60 (.slice a len cap) d p) :
    ∃ xs : List Int, xs.length = len ∧ len ≤ maxLen ∧ len ≤ cap ∧ ReadI W a xs := by
  obtain ⟨fuel, hf⟩ := h
  rcases open_ints Try.underlying60 Try.underlying3 (by kernel_rfl) hf with ⟨hcs, _⟩ | ⟨x, l, c, zs, hcs, hb, hl, hm, hz, hy, hcell, hw⟩
  · simp [Value.cells] at hcs
    obtain ⟨rfl, rfl, rfl⟩ := hcs
    exact ⟨[], rfl, Nat.zero_le _, Nat.zero_le _, fun i x h => by simp at h⟩
  · simp [Value.cells] at hcs
    obtain ⟨rfl, rfl, rfl⟩ := hcs
    simp only [if_true] at hz
    refine ⟨zs.take len, by rw [List.length_take]; omega, by omega, hl, fun i y hyy => ?_⟩
    rw [List.getElem?_take] at hyy
    split at hyy
    · have h1 := hcell i (by omega)
      obtain ⟨g, o, sp⟩ := x
      have hsp : sp = none := by
        have h0 := hcell 0 (by omega)
        simpa [Addr.add] using World.cell?_spot h0
      subst hsp
      rw [add_some, List.getD_eq_getElem?_getD, hyy] at h1
      exact ⟨g, o, rfl, h1⟩
    · cases hyy
end Go.Proofs.Ytedmhhllkkgbjaa
