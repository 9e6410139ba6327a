/- Fates that came in; calls with their fates. -/
import Derived.Test.YtdamegjhdopfaaaE11
import Derived.SizedLaws
import Derived.Deep.Slices
import Derived.ProofKit
namespace Go.Proofs.Ytdamegjhdopfaaa
open Go.RowKit Go.ChangeShapes Go.WideShapes Go.Deep
set_option linter.unusedSimpArgs false
set_option linter.unusedVariables false

theorem int_wf {a : Int} (h : (Lit.int .i64 a).wf = true) : -9223372036854775808 ≤ a ∧ a ≤ 9223372036854775807 := by
  have hmin : IntKind.i64.min = -9223372036854775808 := rfl
  have hmax : IntKind.i64.max = 9223372036854775807 := rfl
  simp only [Lit.wf, Bool.and_eq_true, decide_eq_true_eq, hmin, hmax] at h
  exact h
theorem mask_wf {a : Int} (h : (Lit.int .u8 a).wf = true) : 0 ≤ a ∧ a < 256 := by
  have hmin : IntKind.u8.min = 0 := rfl
  have hmax : IntKind.u8.max = 255 := rfl
  simp only [Lit.wf, Bool.and_eq_true, decide_eq_true_eq, hmin, hmax] at h
  omega
set_option maxRecDepth 100000 in
theorem ft_of {H : Type} {enc : TypeId × Value → H} {W : World} {base : Nat} {held : Bool} {n : Nat} {cs : List Value} {x : DataW H × List MemPlace} (h : DataW.trod enc Try.prog W base (fun _ => true) held n 43 cs = some x) :
    ∃ f : Ft, cs = f.cells ∧ (-9223372036854775808 ≤ f.keep ∧ f.keep ≤ 9223372036854775807) ∧ (-9223372036854775808 ≤ f.cut ∧ f.cut ≤ 9223372036854775807) := by
  obtain ⟨xs, n', _, _, hl, hx, hf⟩ := DataW.trod_struct Try.underlying43 h
  have hC : Try.prog.cellsOf 43 = 2 := by kernel_rfl
  have c3 : Try.prog.cellsOf 3 = 1 := by kernel_rfl
  rw [hC] at hl
  match cs, hl with
  | [u0, u1], _ =>
    match xs, hx with
    | [y0, y1], _ =>
      have h0 : DataW.trod enc Try.prog W base (fun _ => true) held n' 3 (([u0, u1].drop 0).take (Try.prog.cellsOf 3)) = some y0 := hf 0 _ rfl
      have h1 : DataW.trod enc Try.prog W base (fun _ => true) held n' 3 (([u0, u1].drop 1).take (Try.prog.cellsOf 3)) = some y1 := hf 1 _ rfl
      rw [c3] at h0 h1
      replace h0 : DataW.trod enc Try.prog W base (fun _ => true) held n' 3 [u0] = some y0 := h0
      replace h1 : DataW.trod enc Try.prog W base (fun _ => true) held n' 3 [u1] = some y1 := h1
      obtain ⟨i0, e0, _, w0⟩ := DataW.trod_int Try.underlying3 h0
      obtain ⟨i1, e1, _, w1⟩ := DataW.trod_int Try.underlying3 h1
      simp only [List.cons.injEq, and_true] at e0 e1
      exact ⟨⟨i0, i1⟩, by rw [e0, e1]; rfl, int_wf w0, int_wf w1⟩
theorem fates_in {H : Type} {enc : TypeId × Value → H} {W : World} {base : Nat} {held : Bool} {n : Nat} {v : Value} {x : DataW H × List MemPlace} (h : DataW.trod enc Try.prog W base (fun _ => true) held n 23 [v] = some x) :
    ∃ (a : Option Addr) (c : Nat) (fs : List Ft), v = .slice a fs.length c ∧ fs.length ≤ maxLen ∧ ReadFt W a fs ∧ InI64 fs ∧ (fs.length = 0 ∨ ∃ elems spare, x.1 = .slice elems spare ∧ fs.length ≤ elems.length + spare.length) := by
  rcases open_slice Try.underlying23 h with ⟨hcs, _⟩ | ⟨y, l, c, m, n, D, Pl, hcs, hb, hl, hm, hmm, hx, hel⟩
  · simp only [List.cons.injEq, and_true] at hcs
    exact ⟨none, 0, [], hcs, Nat.zero_le _, fun i f h => (by simp at h), fun f h => (by cases h), .inl rfl⟩
  · simp only [List.cons.injEq, and_true] at hcs
    have hC : Try.prog.cellsOf 43 = 2 := by kernel_rfl
    rw [hC] at hel
    have hlm : l ≤ m := by rw [hmm]; split <;> omega
    have hS : ∀ i, i < l → ∃ s : Ft, ((-9223372036854775808 ≤ s.keep ∧ s.keep ≤ 9223372036854775807) ∧ (-9223372036854775808 ≤ s.cut ∧ s.cut ≤ 9223372036854775807)) ∧ ∀ j u, s.cells[j]? = some u → W.cell? (y.add (i * 2 + j)) = some u := by
      intro i hi
      obtain ⟨cs', h1, h2⟩ := hel i (by omega)
      obtain ⟨s, rfl, hs⟩ := ft_of h2
      obtain ⟨_, _, hc⟩ := World.cells?_some h1
      refine ⟨s, hs, fun j u hu => ?_⟩
      have hj : j < 2 := (List.getElem?_eq_some_iff.1 hu).1
      have := hc j hj
      rw [hu] at this
      have e : (y.add (i * 2)).add j = y.add (i * 2 + j) := by
        unfold Addr.add
        by_cases h1 : i * 2 = 0 <;> by_cases h2 : j = 0 <;> simp [h1, h2, Nat.add_assoc]
      rwa [e] at this
    have : Inhabited Ft := ⟨⟨0, 0⟩⟩
    obtain ⟨S, hSS⟩ := choose_lt (p := fun i (s : Ft) => ((-9223372036854775808 ≤ s.keep ∧ s.keep ≤ 9223372036854775807) ∧ (-9223372036854775808 ≤ s.cut ∧ s.cut ≤ 9223372036854775807)) ∧ ∀ j u, s.cells[j]? = some u → W.cell? (y.add (i * 2 + j)) = some u) hS
    have hget : ∀ (i : Nat) (s : Ft), ((List.range l).map S)[i]? = some s → i < l ∧ s = S i := fun i s hs => by
      have hi : i < l := by
        have := (List.getElem?_eq_some_iff.1 hs).1
        simpa using this
      rw [List.getElem?_map, List.getElem?_range hi] at hs
      exact ⟨hi, (Option.some.inj hs).symm⟩
    refine ⟨some y, c, (List.range l).map S, by simpa using hcs, by simp; omega, fun i s hs => ?_, fun s hs => ?_, .inr ⟨_, _, by rw [hx], by simp⟩⟩
    · obtain ⟨hi, rfl⟩ := hget i s hs
      obtain ⟨b, o, sp⟩ := y
      have hsp : sp = none := by simpa [Addr.add] using World.cell?_spot ((hSS 0 (by omega)).2 0 _ rfl)
      subst hsp
      refine ⟨b, o, rfl, fun j u hu => ?_⟩
      have := (hSS i hi).2 j u hu
      rwa [add_some, ← Nat.add_assoc] at this
    · obtain ⟨i, hi⟩ := List.getElem?_of_mem hs
      obtain ⟨hil, rfl⟩ := hget i s hi
      exact (hSS i hil).1
theorem fates_of {H : Type} {enc : TypeId × Value → H} {W : World} {held : Bool} {a : Option Addr} {len cap : Nat} {d : DataW H} {p : List MemPlace} (h : DataW.Trod enc Try.prog W 0 (fun _ => true) held 23 (.slice a len cap) d p) :
    ∃ fs : List Ft, fs.length = len ∧ len ≤ maxLen ∧ ReadFt W a fs ∧ InI64 fs ∧ (len = 0 ∨ ∃ elems spare, d = .slice elems spare ∧ len ≤ elems.length + spare.length) := by
  obtain ⟨fuel, hf⟩ := h
  obtain ⟨a', c', fs, hv, h1, h2, h3, h4⟩ := fates_in (v := .slice a len cap) hf
  simp only [Value.slice.injEq] at hv
  obtain ⟨rfl, rfl, rfl⟩ := hv
  exact ⟨fs, rfl, h1, h2, h3, h4⟩
theorem fates_few {H : Type} {ts : List TypeId} {ds : List (DataW H)} (hsz : (DataW.weightsEach Try.prog ts ds).all (· ≤ reachBytes) = true) {j : Nat} (ht : ts[j]? = some 23) {d : DataW H} (hd : ds[j]? = some d) {len : Nat} (h : len = 0 ∨ ∃ elems spare, d = .slice elems spare ∧ len ≤ elems.length + spare.length) : len ≤ 8796093021952 := by
  rcases h with h | ⟨elems, spare, rfl, h⟩
  · omega
  · have h1 := sized_slice hsz ht hd Try.underlying23
    have h2 : Try.prog.bytesOf 43 = 16 := by kernel_rfl
    have h3 : reachBytes = 140737488351232 := rfl
    rw [h2, h3] at h1
    omega
end Go.Proofs.Ytdamegjhdopfaaa
