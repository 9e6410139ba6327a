/- Proved: NetNobody returns true, whatever it is handed, and its arguments read as they did. No condition. -/
import Derived.Test.YtedmhhllkkgbjaaRows
import Derived.Test.YtedmhhllkkgbjaaNob2
import Derived.WalkKit
import Derived.ProofKit
import Derived.OpenShut
import Derived.Below
import Derived.Carry
import Derived.Deep.Slices
namespace Go.Proofs.Ytedmhhllkkgbjaa.netNobody
open Go.ChangeShapes Go.WideShapes Go.ChangeAt Go.RowKit Go.Deep
set_option linter.unusedVariables false

theorem own : ownKnob Try.prog.godebug = none := by kernel_rfl
theorem laidOut : laidOutB Try.prog = true := by kernel_rfl

set_option maxRecDepth 100000 in
theorem mail_of {H : Type} {enc : TypeId × Value → H} {W : World} {base : Nat} {spare : Nat → Bool} {held : Bool} {n : Nat} {cs : List Value} {x : DataW H × List MemPlace} (h : DataW.trod enc Try.prog W base spare held n 29 cs = some x) : ∃ (a : Int) (b : Int) (c : ByteArray), cs = [.int .i64 a, .int .i64 b, .string c] := by
  obtain ⟨xs, n', _, _, hl, hx, hf⟩ := DataW.trod_struct Try.underlying29 h
  have hC : Try.prog.cellsOf 29 = 3 := by kernel_rfl
  have c3 : Try.prog.cellsOf 3 = 1 := by kernel_rfl
  have c9 : Try.prog.cellsOf 9 = 1 := by kernel_rfl
  rw [hC] at hl
  match cs, hl with
  | [u0, u1, u2], _ =>
    match xs, hx with
    | [y0, y1, y2], _ =>
      have h0 : DataW.trod enc Try.prog W base spare held n' 3 (([u0, u1, u2].drop 0).take (Try.prog.cellsOf 3)) = some y0 := hf 0 _ rfl
      rw [c3] at h0
      replace h0 : DataW.trod enc Try.prog W base spare held n' 3 [u0] = some y0 := h0
      have h1 : DataW.trod enc Try.prog W base spare held n' 3 (([u0, u1, u2].drop 1).take (Try.prog.cellsOf 3)) = some y1 := hf 1 _ rfl
      rw [c3] at h1
      replace h1 : DataW.trod enc Try.prog W base spare held n' 3 [u1] = some y1 := h1
      have h2 : DataW.trod enc Try.prog W base spare held n' 9 (([u0, u1, u2].drop 2).take (Try.prog.cellsOf 9)) = some y2 := hf 2 _ rfl
      rw [c9] at h2
      replace h2 : DataW.trod enc Try.prog W base spare held n' 9 [u2] = some y2 := h2
      obtain ⟨a, e0, _, _⟩ := DataW.trod_int Try.underlying3 h0
      obtain ⟨b, e1, _, _⟩ := DataW.trod_int Try.underlying3 h1
      obtain ⟨c, e2, _, _⟩ := DataW.trod_string Try.underlying9 h2
      simp only [List.cons.injEq, and_true] at e0 e1 e2
      exact ⟨a, b, c, by rw [e0, e1, e2]⟩

set_option maxRecDepth 100000 in
theorem msg_of {H : Type} {enc : TypeId × Value → H} {W : World} {base : Nat} {spare : Nat → Bool} {held : Bool} {n : Nat} {cs : List Value} {x : DataW H × List MemPlace} (h : DataW.trod enc Try.prog W base spare held n 71 cs = some x) : ∃ (a : Int) (b : Int) (c : Int) (d : ByteArray) (e : Int), cs = [.int .i64 a, .int .i64 b, .int .i64 c, .string d, .int .i64 e] := by
  obtain ⟨xs, n', _, _, hl, hx, hf⟩ := DataW.trod_struct Try.underlying71 h
  have hC : Try.prog.cellsOf 71 = 5 := by kernel_rfl
  have c3 : Try.prog.cellsOf 3 = 1 := by kernel_rfl
  have c9 : Try.prog.cellsOf 9 = 1 := by kernel_rfl
  have c69 : Try.prog.cellsOf 69 = 1 := by kernel_rfl
  rw [hC] at hl
  match cs, hl with
  | [u0, u1, u2, u3, u4], _ =>
    match xs, hx with
    | [y0, y1, y2, y3, y4], _ =>
      have h0 : DataW.trod enc Try.prog W base spare held n' 69 (([u0, u1, u2, u3, u4].drop 0).take (Try.prog.cellsOf 69)) = some y0 := hf 0 _ rfl
      rw [c69] at h0
      replace h0 : DataW.trod enc Try.prog W base spare held n' 69 [u0] = some y0 := h0
      have h1 : DataW.trod enc Try.prog W base spare held n' 3 (([u0, u1, u2, u3, u4].drop 1).take (Try.prog.cellsOf 3)) = some y1 := hf 1 _ rfl
      rw [c3] at h1
      replace h1 : DataW.trod enc Try.prog W base spare held n' 3 [u1] = some y1 := h1
      have h2 : DataW.trod enc Try.prog W base spare held n' 3 (([u0, u1, u2, u3, u4].drop 2).take (Try.prog.cellsOf 3)) = some y2 := hf 2 _ rfl
      rw [c3] at h2
      replace h2 : DataW.trod enc Try.prog W base spare held n' 3 [u2] = some y2 := h2
      have h3 : DataW.trod enc Try.prog W base spare held n' 9 (([u0, u1, u2, u3, u4].drop 3).take (Try.prog.cellsOf 9)) = some y3 := hf 3 _ rfl
      rw [c9] at h3
      replace h3 : DataW.trod enc Try.prog W base spare held n' 9 [u3] = some y3 := h3
      have h4 : DataW.trod enc Try.prog W base spare held n' 3 (([u0, u1, u2, u3, u4].drop 4).take (Try.prog.cellsOf 3)) = some y4 := hf 4 _ rfl
      rw [c3] at h4
      replace h4 : DataW.trod enc Try.prog W base spare held n' 3 [u4] = some y4 := h4
      obtain ⟨a, e0, _, _⟩ := DataW.trod_int Try.underlying69 h0
      obtain ⟨b, e1, _, _⟩ := DataW.trod_int Try.underlying3 h1
      obtain ⟨c, e2, _, _⟩ := DataW.trod_int Try.underlying3 h2
      obtain ⟨d, e3, _, _⟩ := DataW.trod_string Try.underlying9 h3
      obtain ⟨e, e4, _, _⟩ := DataW.trod_int Try.underlying3 h4
      simp only [List.cons.injEq, and_true] at e0 e1 e2 e3 e4
      exact ⟨a, b, c, d, e, by rw [e0, e1, e2, e3, e4]⟩

set_option maxRecDepth 100000 in
theorem lifted (os : Os) (started : os.Started) (H : Type) (enc : TypeId × Value → H) :
    ReturnsInHanded {} Try.checked os 13 .any (Rows.netNobodySpec.pre6 enc Try.prog Try.f13 Rows.netNobodyRow.domain false) (Rows.netNobodySpec.post enc Try.prog Try.f13 false true false false) := by
  refine returnsInHanded_of_change (C := Try.checked) own started (by kernel_rfl) Try.func13
    (ChangeSpec.witness6 (enc := enc) (C := Try.checked) false ⟨#[], #[.agg #[.int .i64 0, .int .i64 0, .string ByteArray.empty], .int .i64 0, .agg #[.int .i64 0, .int .i64 0, .int .i64 0, .string ByteArray.empty, .int .i64 0]], []⟩ 8 (by kernel_rfl) (by kernel_rfl) (by kernel_rfl) (by kernel_rfl)) ?_
  intro W base args ds gs before hval0 hW hcnd _
  have hval : ∀ (j : Nat) t v, Try.f13.params[j]? = some t → args[j]? = some v → Value.okWide Try.prog W .any base t v := hval0
  have hW' := hW
  obtain ⟨p, q, hA0, hV, rfl, hfz, hnd⟩ := hW
  have hA : DataW.TrodAll enc Try.prog W 0 (fun _ => true) true Try.f13.params.toList args.toList ds p := hA0
  rw [Try.params13] at hA hval
  obtain ⟨v0, vs0, d0, ds0, p0, q0, hargs, rfl, rfl, h0, r0⟩ := trodAll_cons hA
  obtain ⟨v1, vs1, d1, ds1, p1, q1, rfl, rfl, rfl, h1, r1⟩ := trodAll_cons r0
  obtain ⟨v2, vs2, d2, ds2, p2, q2, rfl, rfl, rfl, h2, r2⟩ := trodAll_cons r1
  obtain ⟨rfl, rfl, rfl⟩ := trodAll_nil r2
  obtain rfl : args = #[v0, v1, v2] := by cases args; simp_all
  obtain ⟨rfl, rfl⟩ := trodVars_none hV
  have k0 := h0
  have lt0 : ∀ x ∈ p0, x.block < W.heap.size := by obtain ⟨m, hm⟩ := k0; exact DataW.trod_lt m _ _ _ hm
  obtain ⟨cs0, rfl, hz0⟩ := okWide_struct Try.underlying29 (hval 0 29 v0 rfl rfl)
  obtain ⟨f0, hf0⟩ := h0
  obtain ⟨a0, b0, c0, e0⟩ := mail_of hf0
  obtain rfl : cs0 = #[.int .i64 a0, .int .i64 b0, .string c0] := by have := congrArg List.toArray e0; simpa [Value.cells] using this
  have k1 := h1
  have lt1 : ∀ x ∈ p1, x.block < W.heap.size := by obtain ⟨m, hm⟩ := k1; exact DataW.trod_lt m _ _ _ hm
  obtain ⟨x1, rfl, rfl, rfl, w1⟩ := open_int Try.underlying3 (hval 1 3 v1 rfl rfl) h1
  have k2 := h2
  have lt2 : ∀ x ∈ p2, x.block < W.heap.size := by obtain ⟨m, hm⟩ := k2; exact DataW.trod_lt m _ _ _ hm
  obtain ⟨cs2, rfl, hz2⟩ := okWide_struct Try.underlying71 (hval 2 71 v2 rfl rfl)
  obtain ⟨f2, hf2⟩ := h2
  obtain ⟨a2, b2, c2, s2, n2, e2⟩ := msg_of hf2
  obtain rfl : cs2 = #[.int .i64 a2, .int .i64 b2, .int .i64 c2, .string s2, .int .i64 n2] := by have := congrArg List.toArray e2; simpa [Value.cells] using this
  clear hA0 hval0
  refine (netNobody_any W ⟨a0, b0, c0⟩ x1 a2 b2 c2 s2 n2).mono fun e W' ⟨he, bel⟩ => ?_
  subst he
  exact ⟨_, rfl, _, _, _, [], _, [], hW', trodAll_mk1 (shut_bool Try.underlying4 _), (trodAll_cons_mk (Below.trod laidOut (by kernel_rfl) (of_decide_eq_true (by kernel_rfl)) k0 bel lt0) (trodAll_cons_mk (Below.trod laidOut (by kernel_rfl) (of_decide_eq_true (by kernel_rfl)) k1 bel lt1) (trodAll_cons_mk (Below.trod laidOut (by kernel_rfl) (of_decide_eq_true (by kernel_rfl)) k2 bel lt2) trodAll_mk0))), rfl, bel.frame _, fun h => by cases h⟩

theorem over : Rows.netNobodyRow.holds Try.pinned (OpenSpec.ofChange Rows.netNobodySpec) :=
  OpenClaim.holds_of_wide 13 Try.f13 rfl rfl rfl rfl rfl rfl rfl ⟨rfl, rfl, rfl, rfl, rfl⟩ rfl rfl rfl rfl rfl (by kernel_rfl) Try.func13 (by kernel_rfl)
    (of_decide_eq_true (by kernel_rfl)) (by unfold Func.isWrapper; first | (rw [if_pos (by decide +kernel)]; kernel_rfl) | (rw [if_neg (by decide +kernel)]; exact ⟨rfl, rfl⟩))
    (fun os started H enc _ => lifted os started H enc)

/-- The statement. -/
theorem proved : Rows.NetNobodySaid :=
  over
end Go.Proofs.Ytedmhhllkkgbjaa.netNobody
namespace Go.Proofs.Ytedmhhllkkgbjaa
theorem netNobody_holds : Rows.NetNobodySaid := netNobody.proved
end Go.Proofs.Ytedmhhllkkgbjaa
