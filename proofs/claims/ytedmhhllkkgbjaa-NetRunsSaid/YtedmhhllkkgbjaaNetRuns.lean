/- Proved: NetRuns returns true, whatever it is handed, and its arguments read as they did. No condition. -/
import Derived.Test.YtedmhhllkkgbjaaRows
import Derived.Test.YtedmhhllkkgbjaaNet10
import Derived.WalkKit
import Derived.ProofKit
import Derived.OpenShut
import Derived.Below
import Derived.Carry
import Derived.Deep.Slices
namespace Go.Proofs.Ytedmhhllkkgbjaa.netRuns
open Go.ChangeShapes Go.WideShapes Go.ChangeAt Go.RowKit Go.Deep
set_option linter.unusedVariables false

theorem own : ownKnob Try.prog.godebug = none := by kernel_rfl
theorem laidOut : laidOutB Try.prog = true := by kernel_rfl

theorem one_of {α : Type} {l : List α} (h : l.length = 1) : ∃ a, l = [a] := by
  match l, h with
  | [a], _ => exact ⟨a, rfl⟩

set_option maxRecDepth 100000 in
theorem mail_of {H : Type} {enc : TypeId × Value → H} {W : World} {base : Nat} {spare : Nat → Bool} {held : Bool} {n : Nat} {cs : List Value} {x : DataW H × List MemPlace} (h : DataW.trod enc Try.prog W base spare held n 29 cs = some x) : ∃ m : Mail, cs = m.cells := by
  obtain ⟨xs, n', _, _, hl, hx, hf⟩ := DataW.trod_struct Try.underlying29 h
  have hC : Try.prog.cellsOf 29 = 3 := by kernel_rfl
  have c3 : Try.prog.cellsOf 3 = 1 := by kernel_rfl
  have c9 : Try.prog.cellsOf 9 = 1 := by kernel_rfl
  rw [hC] at hl
  match cs, hl with
  | [a, b, c], _ =>
    match xs, hx with
    | [y0, y1, y2], _ =>
      have h0 : DataW.trod enc Try.prog W base spare held n' 3 (([a, b, c].drop 0).take (Try.prog.cellsOf 3)) = some y0 := hf 0 _ rfl
      have h1 : DataW.trod enc Try.prog W base spare held n' 3 (([a, b, c].drop 1).take (Try.prog.cellsOf 3)) = some y1 := hf 1 _ rfl
      have h2 : DataW.trod enc Try.prog W base spare held n' 9 (([a, b, c].drop 2).take (Try.prog.cellsOf 9)) = some y2 := hf 2 _ rfl
      rw [c3] at h0 h1
      rw [c9] at h2
      replace h0 : DataW.trod enc Try.prog W base spare held n' 3 [a] = some y0 := h0
      replace h1 : DataW.trod enc Try.prog W base spare held n' 3 [b] = some y1 := h1
      replace h2 : DataW.trod enc Try.prog W base spare held n' 9 [c] = some y2 := h2
      obtain ⟨i, e0, _, _⟩ := DataW.trod_int Try.underlying3 h0
      obtain ⟨j, e1, _, _⟩ := DataW.trod_int Try.underlying3 h1
      obtain ⟨t, e2, _, _⟩ := DataW.trod_string Try.underlying9 h2
      simp only [List.cons.injEq, and_true] at e0 e1 e2
      exact ⟨⟨i, j, t⟩, by rw [e0, e1, e2]; rfl⟩

theorem u8_wf {a : Int} (h : (Lit.int .u8 a).wf = true) : 0 ≤ a ∧ a ≤ 255 := by
  have hmin : IntKind.u8.min = 0 := rfl
  have hmax : IntKind.u8.max = 255 := rfl
  simp only [Lit.wf, Bool.and_eq_true, decide_eq_true_eq, hmin, hmax] at h
  exact h

set_option maxRecDepth 100000 in
theorem step_of {H : Type} {enc : TypeId × Value → H} {W : World} {base : Nat} {spare : Nat → Bool} {held : Bool} {n : Nat} {cs : List Value} {x : DataW H × List MemPlace} (h : DataW.trod enc Try.prog W base spare held n 38 cs = some x) : ∃ s : StepD, cs = s.cells ∧ 0 ≤ s.kind ∧ s.kind ≤ 255 := by
  obtain ⟨xs, n', _, _, hl, hx, hf⟩ := DataW.trod_struct Try.underlying38 h
  have hC : Try.prog.cellsOf 38 = 5 := by kernel_rfl
  have c3 : Try.prog.cellsOf 3 = 1 := by kernel_rfl
  have c5 : Try.prog.cellsOf 5 = 1 := by kernel_rfl
  have c29 : Try.prog.cellsOf 29 = 3 := by kernel_rfl
  rw [hC] at hl
  match cs, hl with
  | [a, b, c, d, f], _ =>
    match xs, hx with
    | [y0, y1, y2], _ =>
      have h0 : DataW.trod enc Try.prog W base spare held n' 5 (([a, b, c, d, f].drop 0).take (Try.prog.cellsOf 5)) = some y0 := hf 0 _ rfl
      have h1 : DataW.trod enc Try.prog W base spare held n' 29 (([a, b, c, d, f].drop 1).take (Try.prog.cellsOf 29)) = some y1 := hf 1 _ rfl
      have h2 : DataW.trod enc Try.prog W base spare held n' 3 (([a, b, c, d, f].drop 4).take (Try.prog.cellsOf 3)) = some y2 := hf 2 _ rfl
      rw [c5] at h0
      rw [c29] at h1
      rw [c3] at h2
      replace h0 : DataW.trod enc Try.prog W base spare held n' 5 [a] = some y0 := h0
      replace h1 : DataW.trod enc Try.prog W base spare held n' 29 [b, c, d] = some y1 := h1
      replace h2 : DataW.trod enc Try.prog W base spare held n' 3 [f] = some y2 := h2
      obtain ⟨i, e0, _, w0⟩ := DataW.trod_int Try.underlying5 h0
      obtain ⟨m, e1⟩ := mail_of h1
      obtain ⟨j, e2, _, _⟩ := DataW.trod_int Try.underlying3 h2
      simp only [List.cons.injEq, and_true, Mail.cells] at e0 e1 e2
      exact ⟨⟨i, m, j⟩, by rw [e0, e1.1, e1.2.1, e1.2.2, e2]; rfl, u8_wf w0⟩

instance : Inhabited StepD := ⟨⟨0, zmail, 0⟩⟩

/-- A slice of steps that came in. -/
theorem steps_of {H : Type} {enc : TypeId × Value → H} {W : World} {spare : Nat → Bool} {held : Bool} {a : Option Addr} {len cap : Nat} {d : DataW H} {p : List MemPlace} (h : DataW.Trod enc Try.prog W 0 spare held 35 (.slice a len cap) d p) :
    ∃ ss : List StepD, StepsAt W a ss ∧ ss.length = len ∧ len ≤ 9223372036854775807 := by
  obtain ⟨fuel, hf⟩ := h
  rcases open_slice Try.underlying35 hf with ⟨hcs, _⟩ | ⟨x, l, c, m, n, D, Pl, hcs, hb, hl, hm, hmm, hx, hel⟩
  · simp [Value.cells] at hcs
    obtain ⟨rfl, rfl, rfl⟩ := hcs
    exact ⟨[], fun h => by simp at h, rfl, by omega⟩
  · simp [Value.cells] at hcs
    obtain ⟨rfl, rfl, rfl⟩ := hcs
    have hC : Try.prog.cellsOf 38 = 5 := by kernel_rfl
    rw [hC] at hel
    have hlm : len ≤ m := by rw [hmm]; split <;> omega
    have hS : ∀ i, i < len → ∃ s : StepD, (0 ≤ s.kind ∧ s.kind ≤ 255) ∧ ∀ j u, s.cells[j]? = some u → W.cell? (x.add (i * 5 + j)) = some u := by
      intro i hi
      obtain ⟨cs', h1, h2⟩ := hel i (by omega)
      obtain ⟨s, rfl, hs⟩ := step_of h2
      obtain ⟨_, _, hc⟩ := World.cells?_some h1
      refine ⟨s, hs, fun j u hu => ?_⟩
      have hj : j < 5 := (List.getElem?_eq_some_iff.1 hu).1
      have := hc j hj
      rw [hu] at this
      have e : (x.add (i * 5)).add j = x.add (i * 5 + j) := by
        unfold Addr.add
        by_cases h1 : i * 5 = 0 <;> by_cases h2 : j = 0 <;> simp [h1, h2, Nat.add_assoc]
      rwa [e] at this
    obtain ⟨S, hSS⟩ := choose_lt (p := fun i (s : StepD) => (0 ≤ s.kind ∧ s.kind ≤ 255) ∧ ∀ j u, s.cells[j]? = some u → W.cell? (x.add (i * 5 + j)) = some u) hS
    refine ⟨(List.range len).map S, fun hp => ?_, by simp, by simp only [maxLen] at hm; omega⟩
    rw [List.length_map, List.length_range] at hp
    have h0 := (hSS 0 hp).2 0 _ rfl
    obtain ⟨b, o, sp⟩ := x
    have hsp : sp = none := by simpa [Addr.add] using World.cell?_spot h0
    subst hsp
    refine ⟨b, o, rfl, fun i s hs => ?_⟩
    have hi : i < len := by
      have := (List.getElem?_eq_some_iff.1 hs).1
      simpa using this
    rw [List.getElem?_map, List.getElem?_range hi] at hs
    obtain rfl := Option.some.inj hs
    refine ⟨(hSS i hi).1, fun j u hu => ?_⟩
    have := (hSS i hi).2 j u hu
    rwa [add_some, ← Nat.add_assoc] at this

set_option maxRecDepth 100000 in
theorem lifted (os : Os) (started : os.Started) (H : Type) (enc : TypeId × Value → H) :
    ReturnsInHanded {} Try.checked os 4 .any (Rows.netRunsSpec.pre6 enc Try.prog Try.f4 Rows.netRunsRow.domain false) (Rows.netRunsSpec.post enc Try.prog Try.f4 false true false false) := by
  refine returnsInHanded_of_change (C := Try.checked) own started (by kernel_rfl) Try.func4
    (ChangeSpec.witness6 (enc := enc) (C := Try.checked) false ⟨#[], #[.slice none 0 0], []⟩ 8 (by kernel_rfl) (by kernel_rfl) (by kernel_rfl) (by kernel_rfl)) ?_
  intro W base args ds gs before hval0 hW hcnd _
  have hval : ∀ (j : Nat) t v, Try.f4.params[j]? = some t → args[j]? = some v → Value.okWide Try.prog W .any base t v := hval0
  have hW' := hW
  obtain ⟨p, q, hA0, hV, rfl, hfz, hnd⟩ := hW
  have hA : DataW.TrodAll enc Try.prog W 0 (fun _ => true) true Try.f4.params.toList args.toList ds p := hA0
  rw [Try.params4] at hA hval
  obtain ⟨v0, vs0, d0, ds0, p0, q0, hargs, rfl, rfl, h0, r0⟩ := trodAll_cons hA
  obtain ⟨rfl, rfl, rfl⟩ := trodAll_nil r0
  obtain rfl : args = #[v0] := by cases args; simp_all
  obtain ⟨rfl, rfl⟩ := trodVars_none hV
  have k0 := h0
  have lt0 : ∀ x ∈ p0, x.block < W.heap.size := by obtain ⟨m, hm⟩ := k0; exact DataW.trod_lt m _ _ _ hm
  obtain ⟨a0, len0, cap0, rfl⟩ := okWide_slice Try.underlying35 (hval 0 35 v0 rfl rfl)
  obtain ⟨ss, hss, rfl, hm0⟩ := steps_of h0
  clear hA0 hval0
  refine (netRuns_any hss hm0).mono fun e W' ⟨he, bel⟩ => ?_
  subst he
  exact ⟨_, rfl, _, _, _, [], _, [], hW', trodAll_mk1 (shut_bool Try.underlying4 _), (trodAll_cons_mk (Below.trod laidOut (by kernel_rfl) (of_decide_eq_true (by kernel_rfl)) k0 bel lt0) trodAll_mk0), rfl, bel.frame _, fun h => by cases h⟩

theorem over : Rows.netRunsRow.holds Try.pinned (OpenSpec.ofChange Rows.netRunsSpec) :=
  OpenClaim.holds_of_wide 4 Try.f4 rfl rfl rfl rfl rfl rfl rfl ⟨rfl, rfl, rfl, rfl, rfl⟩ rfl rfl rfl rfl rfl (by kernel_rfl) Try.func4 (by kernel_rfl)
    (of_decide_eq_true (by kernel_rfl)) (by unfold Func.isWrapper; first | (rw [if_pos (by decide +kernel)]; kernel_rfl) | (rw [if_neg (by decide +kernel)]; exact ⟨rfl, rfl⟩))
    (fun os started H enc _ => lifted os started H enc)

/-- The statement. -/
theorem proved : Rows.NetRunsSaid :=
  over
end Go.Proofs.Ytedmhhllkkgbjaa.netRuns
namespace Go.Proofs.Ytedmhhllkkgbjaa
theorem netRuns_holds : Rows.NetRunsSaid := netRuns.proved
end Go.Proofs.Ytedmhhllkkgbjaa
