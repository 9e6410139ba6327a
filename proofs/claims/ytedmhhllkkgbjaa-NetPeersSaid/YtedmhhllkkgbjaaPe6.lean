/- Messages and bytes that came in. -/
import Derived.Test.YtedmhhllkkgbjaaPe5
import Derived.Deep.Slices
import Derived.ProofKit
namespace Go.Proofs.Ytedmhhllkkgbjaa
open Go.RowKit Go.ChangeShapes Go.WideShapes Go.Deep

set_option maxRecDepth 100000 in
theorem msg_of {H : Type} {enc : TypeId × Value → H} {W : World} {base : Nat} {spare : Nat → Bool} {held : Bool} {n : Nat} {cs : List Value} {x : DataW H × List MemPlace} (h : DataW.trod enc Try.prog W base spare held n 71 cs = some x) : ∃ m : Msg, cs = m.cells ∧ (Lit.int .i64 m.seq).wf = true := by
  obtain ⟨xs, n', _, _, hl, hx, hf⟩ := DataW.trod_struct Try.underlying71 h
  have hC : Try.prog.cellsOf 71 = 5 := by kernel_rfl
  have c3 : Try.prog.cellsOf 3 = 1 := by kernel_rfl
  have c9 : Try.prog.cellsOf 9 = 1 := by kernel_rfl
  have c69 : Try.prog.cellsOf 69 = 1 := by kernel_rfl
  rw [hC] at hl
  match cs, hl with
  | [a, b, c, d, f], _ =>
    match xs, hx with
    | [y0, y1, y2, y3, y4], _ =>
      have h0 : DataW.trod enc Try.prog W base spare held n' 69 (([a, b, c, d, f].drop 0).take (Try.prog.cellsOf 69)) = some y0 := hf 0 _ rfl
      have h1 : DataW.trod enc Try.prog W base spare held n' 3 (([a, b, c, d, f].drop 1).take (Try.prog.cellsOf 3)) = some y1 := hf 1 _ rfl
      have h2 : DataW.trod enc Try.prog W base spare held n' 3 (([a, b, c, d, f].drop 2).take (Try.prog.cellsOf 3)) = some y2 := hf 2 _ rfl
      have h3 : DataW.trod enc Try.prog W base spare held n' 9 (([a, b, c, d, f].drop 3).take (Try.prog.cellsOf 9)) = some y3 := hf 3 _ rfl
      have h4 : DataW.trod enc Try.prog W base spare held n' 3 (([a, b, c, d, f].drop 4).take (Try.prog.cellsOf 3)) = some y4 := hf 4 _ rfl
      rw [c69] at h0
      rw [c3] at h1 h2 h4
      rw [c9] at h3
      replace h0 : DataW.trod enc Try.prog W base spare held n' 69 [a] = some y0 := h0
      replace h1 : DataW.trod enc Try.prog W base spare held n' 3 [b] = some y1 := h1
      replace h2 : DataW.trod enc Try.prog W base spare held n' 3 [c] = some y2 := h2
      replace h3 : DataW.trod enc Try.prog W base spare held n' 9 [d] = some y3 := h3
      replace h4 : DataW.trod enc Try.prog W base spare held n' 3 [f] = some y4 := h4
      obtain ⟨i0, e0, _, _⟩ := DataW.trod_int Try.underlying69 h0
      obtain ⟨i1, e1, _, _⟩ := DataW.trod_int Try.underlying3 h1
      obtain ⟨i2, e2, _, w2⟩ := DataW.trod_int Try.underlying3 h2
      obtain ⟨t, e3, _, _⟩ := DataW.trod_string Try.underlying9 h3
      obtain ⟨i4, e4, _, _⟩ := DataW.trod_int Try.underlying3 h4
      simp only [List.cons.injEq, and_true] at e0 e1 e2 e3 e4
      exact ⟨⟨i0, i1, i2, t, i4⟩, by rw [e0, e1, e2, e3, e4]; rfl, w2⟩

theorem msgs_of {H : Type} {enc : TypeId × Value → H} {W : World} {spare : Nat → Bool} {held : Bool} {a : Option Addr} {len cap : Nat} {d : DataW H} {p : List MemPlace} (h : DataW.Trod enc Try.prog W 0 spare held 65 (.slice a len cap) d p) :
    ∃ ss : List Msg, ss.length = len ∧ len ≤ maxLen ∧ ReadM W a ss ∧ ∀ m ∈ ss, (Lit.int .i64 m.seq).wf = true := by
  obtain ⟨fuel, hf⟩ := h
  rcases open_slice Try.underlying65 hf with ⟨hcs, _⟩ | ⟨x, l, c, m, n, D, Pl, hcs, hb, hl, hm, hmm, hx, hel⟩
  · simp [Value.cells] at hcs
    obtain ⟨rfl, rfl, rfl⟩ := hcs
    exact ⟨[], rfl, Nat.zero_le _, fun i m h => by simp at h, fun m h => by simp at h⟩
  · simp [Value.cells] at hcs
    obtain ⟨rfl, rfl, rfl⟩ := hcs
    have hC : Try.prog.cellsOf 71 = 5 := by kernel_rfl
    rw [hC] at hel
    have hlm : len ≤ m := by rw [hmm]; split <;> omega
    have hS : ∀ i, i < len → ∃ s : Msg, (Lit.int .i64 s.seq).wf = true ∧ ∀ j u, s.cells[j]? = some u → W.cell? (x.add (i * 5 + j)) = some u := by
      intro i hi
      obtain ⟨cs', h1, h2⟩ := hel i (by omega)
      obtain ⟨s, rfl, hs⟩ := msg_of h2
      obtain ⟨_, _, hc⟩ := World.cells?_some h1
      refine ⟨s, hs, fun j u hu => ?_⟩
      have hj : j < 5 := (List.getElem?_eq_some_iff.1 hu).1
      have := hc j hj
      rw [hu] at this
      have e : (x.add (i * 5)).add j = x.add (i * 5 + j) := by
        unfold Addr.add
        by_cases h1 : i * 5 = 0 <;> by_cases h2 : j = 0 <;> simp [h1, h2, Nat.add_assoc]
      rwa [e] at this
    obtain ⟨S, hSS⟩ := choose_lt (p := fun i (s : Msg) => (Lit.int .i64 s.seq).wf = true ∧ ∀ j u, s.cells[j]? = some u → W.cell? (x.add (i * 5 + j)) = some u) hS
    refine ⟨(List.range len).map S, by simp, by omega, fun i s hs => ?_, fun s hs => ?_⟩
    · have hi : i < len := by
        have := (List.getElem?_eq_some_iff.1 hs).1
        simpa using this
      have h0 := (hSS i hi).2 0 _ rfl
      obtain ⟨b, o, sp⟩ := x
      have hsp : sp = none := by simpa [Addr.add] using World.cell?_spot ((hSS 0 (by omega)).2 0 _ rfl)
      subst hsp
      rw [List.getElem?_map, List.getElem?_range hi] at hs
      obtain rfl := Option.some.inj hs
      refine ⟨b, o, rfl, fun j u hu => ?_⟩
      have := (hSS i hi).2 j u hu
      rwa [add_some, ← Nat.add_assoc] at this
    · obtain ⟨i, hi, rfl⟩ := List.mem_map.1 hs
      exact (hSS i (List.mem_range.1 hi)).1

theorem bytes_of {H : Type} {enc : TypeId × Value → H} {W : World} {held : Bool} {a : Option Addr} {len cap : Nat} {d : DataW H} {p : List MemPlace} (h : DataW.Trod enc Try.prog W 0 (fun _ => true) held 27 (.slice a len cap) d p) :
    ∃ xs : List Int, xs.length = len ∧ len ≤ maxLen ∧ ReadU W a xs ∧ ∀ x ∈ xs, 0 ≤ x ∧ x < 256 := by
  obtain ⟨fuel, hf⟩ := h
  rcases open_ints Try.underlying27 Try.underlying5 (by kernel_rfl) hf with ⟨hcs, _⟩ | ⟨x, l, c, zs, hcs, hb, hl, hm, hz, hy, hcell, hw⟩
  · simp [Value.cells] at hcs
    obtain ⟨rfl, rfl, rfl⟩ := hcs
    exact ⟨[], rfl, Nat.zero_le _, fun i x h => by simp at h, fun x h => by simp at h⟩
  · simp [Value.cells] at hcs
    obtain ⟨rfl, rfl, rfl⟩ := hcs
    simp only [if_true] at hz
    refine ⟨zs.take len, by rw [List.length_take]; omega, by omega, fun i y hyy => ?_, fun y hyy => ?_⟩
    · rw [List.getElem?_take] at hyy
      split at hyy
      · have h1 := hcell i (by omega)
        obtain ⟨g, o, sp⟩ := x
        have hsp : sp = none := by
          have h0 := hcell 0 (by omega)
          simpa [Addr.add] using World.cell?_spot h0
        subst hsp
        rw [add_some, List.getD_eq_getElem?_getD, hyy] at h1
        exact ⟨g, o, rfl, h1⟩
      · cases hyy
    · have h2 := hw y (List.mem_of_mem_take hyy)
      have hmin : IntKind.u8.min = 0 := rfl
      have hmax : IntKind.u8.max = 255 := rfl
      simp only [Lit.wf, Bool.and_eq_true, decide_eq_true_eq, hmin, hmax] at h2
      omega
end Go.Proofs.Ytedmhhllkkgbjaa
