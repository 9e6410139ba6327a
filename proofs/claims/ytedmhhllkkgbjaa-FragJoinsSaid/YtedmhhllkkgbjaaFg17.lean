/- Rows of rows of bytes that came in. -/
import Derived.Test.YtedmhhllkkgbjaaFg16
import Derived.Deep.Matrix
import Derived.ProofKit
namespace Go.Proofs.Ytedmhhllkkgbjaa
open Go.RowKit Go.ChangeShapes Go.WideShapes Go.Deep

theorem byte_wf8 {a : Int} (h : (Lit.int .u8 a).wf = true) : 0 ≤ a ∧ a < 256 := by
  have hmin : IntKind.u8.min = 0 := rfl
  have hmax : IntKind.u8.max = 255 := rfl
  simp only [Lit.wf, Bool.and_eq_true, decide_eq_true_eq, hmin, hmax] at h
  omega
theorem u16_wf {a : Int} (h : (Lit.int .u16 a).wf = true) : ∃ n : Nat, a = n ∧ n ≤ 65535 := by
  have hmin : IntKind.u16.min = 0 := rfl
  have hmax : IntKind.u16.max = 65535 := rfl
  simp only [Lit.wf, Bool.and_eq_true, decide_eq_true_eq, hmin, hmax] at h
  exact ⟨a.toNat, by omega, by omega⟩

theorem rows_of {H : Type} {enc : TypeId × Value → H} {W : World} {held : Bool} {a : Option Addr} {len cap : Nat} {d : DataW H} {p : List MemPlace} (h : DataW.Trod enc Try.prog W 0 (fun _ => true) held 47 (.slice a len cap) d p) :
    ∃ xs : List (List Int), xs.length = len ∧ len ≤ maxLen ∧ ReadR W a xs ∧ Bs xs := by
  obtain ⟨fuel, hf⟩ := h
  rcases open_int_rows Try.underlying47 Try.underlying27 Try.underlying5 (by kernel_rfl) (by kernel_rfl) hf with ⟨hcs, _⟩ | ⟨x, l, c, A, L, C, Z, hcs, hb, hl, hm, hx, hrows⟩
  · simp [Value.cells] at hcs
    obtain ⟨rfl, rfl, rfl⟩ := hcs
    exact ⟨[], rfl, Nat.zero_le _, ReadR.nil _ _, fun x hx => by simp at hx⟩
  · simp [Value.cells] at hcs
    obtain ⟨rfl, rfl, rfl⟩ := hcs
    have hlen : ∀ r, r < len → ((Z r).take (L r)).length = L r := fun r hr => by
      obtain ⟨_, h1, _, h2, _⟩ := hrows r (by omega)
      rw [List.length_take]
      omega
    refine ⟨(List.range len).map (fun r => (Z r).take (L r)), by simp, by omega, fun i y hy => ?_, fun y hy b hb => ?_⟩
    · have hi : i < len := by
        have := (List.getElem?_eq_some_iff.1 hy).1
        simpa using this
      rw [List.getElem?_map, List.getElem?_range hi] at hy
      obtain rfl := Option.some.inj hy
      obtain ⟨h1, h2, h3, h4, h5, h6, h7⟩ := hrows i (by omega)
      obtain ⟨g, o, sp⟩ := x
      have hsp : sp = none := by
        have h0 := (hrows 0 (by omega)).1
        simpa [Addr.add] using World.cell?_spot h0
      subst hsp
      rw [add_some] at h1
      refine ⟨g, o, A i, C i, rfl, by rw [hlen i hi]; exact h1, ⟨by rw [hlen i hi]; exact h2, fun g' o' s e => ?_, fun e => ?_⟩⟩
      · have hc := (h7 _ e).2
        have hs : 0 < C i → s = none := fun h0 => by
          have := hc 0 h0
          simpa [Addr.add] using World.cell?_spot this
        refine ⟨hs, fun j b hj => ?_⟩
        have hj' : j < L i := by
          have := (List.getElem?_eq_some_iff.1 hj).1
          rw [hlen i hi] at this
          exact this
        obtain rfl := hs (by omega)
        have := hc j (by omega)
        rw [add_some] at this
        rw [this, List.getD_eq_getElem?_getD]
        rw [List.getElem?_take, if_pos hj'] at hj
        rw [hj]
        rfl
      · have := h6 e
        exact List.eq_nil_of_length_eq_zero (by rw [hlen i hi]; omega)
    · obtain ⟨r, hr, rfl⟩ := List.mem_map.1 hy
      have hr' := List.mem_range.1 hr
      obtain ⟨_, _, _, _, h5, _⟩ := hrows r (by omega)
      exact byte_wf8 (h5 b (List.mem_of_mem_take hb))
end Go.Proofs.Ytedmhhllkkgbjaa
