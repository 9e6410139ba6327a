/- Proved: DiskNobody returns true, whatever it is handed, and its arguments read as they did. No condition. -/
import Derived.Test.YtdamegjhdopfaaaRows
import Derived.Test.YtdamegjhdopfaaaD17
import Derived.WalkKit
import Derived.ProofKit
import Derived.OpenShut
import Derived.Below
import Derived.Carry
import Derived.Deep.Slices
namespace Go.Proofs.Ytdamegjhdopfaaa.diskNobody
open Go.ChangeShapes Go.WideShapes Go.ChangeAt Go.RowKit Go.Deep
set_option linter.unusedVariables false      -- a walk need not use every 'w<i>' (that an integer argument fits its kind)

theorem own : ownKnob Try.prog.godebug = none := by kernel_rfl

theorem laidOut : laidOutB Try.prog = true := by kernel_rfl

theorem head_of {H : Type} {enc : TypeId × Value → H} {W : World} {base : Nat} {spare : Nat → Bool} {held : Bool} {n : Nat} {t e : TypeId} {v : Value} {x : DataW H × List MemPlace} (ht : Try.prog.underlying t = some (.slice e)) (h : DataW.trod enc Try.prog W base spare held n t [v] = some x) : ∃ a l c, v = .slice a l c := by
  rcases open_slice ht h with ⟨hcs, _⟩ | ⟨a, l, c, _, _, _, _, hcs, _⟩
  · simp only [List.cons.injEq, and_true] at hcs
    exact ⟨none, 0, 0, hcs⟩
  · simp only [List.cons.injEq, and_true] at hcs
    exact ⟨some a, l, c, hcs⟩
set_option maxRecDepth 100000 in
theorem op_of {H : Type} {enc : TypeId × Value → H} {W : World} {base : Nat} {spare : Nat → Bool} {held : Bool} {n : Nat} {cs : List Value} {x : DataW H × List MemPlace} (h : DataW.trod enc Try.prog W base spare held n 35 cs = some x) :
    ∃ (a b : Int) (c1 : Option Addr) (c2 c3 : Nat) (d : Bool) (f g m : Int) (k1 : Option Addr) (k2 k3 : Nat), cs = [.int .i64 a, .int .i64 b, .slice c1 c2 c3, .bool d, .int .i64 f, .int .i64 g, .int .u8 m, .slice k1 k2 k3] := by
  obtain ⟨xs, n', _, _, hl, hx, hf⟩ := DataW.trod_struct Try.underlying35 h
  have hC : Try.prog.cellsOf 35 = 8 := by kernel_rfl
  have c3 : Try.prog.cellsOf 3 = 1 := by kernel_rfl
  have c4 : Try.prog.cellsOf 4 = 1 := by kernel_rfl
  have c5 : Try.prog.cellsOf 5 = 1 := by kernel_rfl
  have cb : Try.prog.cellsOf 33 = 1 := by kernel_rfl
  have cf : Try.prog.cellsOf 23 = 1 := by kernel_rfl
  rw [hC] at hl
  match cs, hl with
  | [u0, u1, u2, u3, u4, u5, u6, u7], _ =>
    match xs, hx with
    | [y0, y1, y2, y3, y4, y5, y6, y7], _ =>
      have h0 : DataW.trod enc Try.prog W base spare held n' 3 (([u0, u1, u2, u3, u4, u5, u6, u7].drop 0).take (Try.prog.cellsOf 3)) = some y0 := hf 0 _ rfl
      have h1 : DataW.trod enc Try.prog W base spare held n' 3 (([u0, u1, u2, u3, u4, u5, u6, u7].drop 1).take (Try.prog.cellsOf 3)) = some y1 := hf 1 _ rfl
      have h2 : DataW.trod enc Try.prog W base spare held n' 33 (([u0, u1, u2, u3, u4, u5, u6, u7].drop 2).take (Try.prog.cellsOf 33)) = some y2 := hf 2 _ rfl
      have h3 : DataW.trod enc Try.prog W base spare held n' 4 (([u0, u1, u2, u3, u4, u5, u6, u7].drop 3).take (Try.prog.cellsOf 4)) = some y3 := hf 3 _ rfl
      have h4 : DataW.trod enc Try.prog W base spare held n' 3 (([u0, u1, u2, u3, u4, u5, u6, u7].drop 4).take (Try.prog.cellsOf 3)) = some y4 := hf 4 _ rfl
      have h5 : DataW.trod enc Try.prog W base spare held n' 3 (([u0, u1, u2, u3, u4, u5, u6, u7].drop 5).take (Try.prog.cellsOf 3)) = some y5 := hf 5 _ rfl
      have h6 : DataW.trod enc Try.prog W base spare held n' 5 (([u0, u1, u2, u3, u4, u5, u6, u7].drop 6).take (Try.prog.cellsOf 5)) = some y6 := hf 6 _ rfl
      have h7 : DataW.trod enc Try.prog W base spare held n' 23 (([u0, u1, u2, u3, u4, u5, u6, u7].drop 7).take (Try.prog.cellsOf 23)) = some y7 := hf 7 _ rfl
      rw [c3] at h0 h1 h4 h5
      rw [cb] at h2
      rw [c4] at h3
      rw [c5] at h6
      rw [cf] at h7
      replace h0 : DataW.trod enc Try.prog W base spare held n' 3 [u0] = some y0 := h0
      replace h1 : DataW.trod enc Try.prog W base spare held n' 3 [u1] = some y1 := h1
      replace h2 : DataW.trod enc Try.prog W base spare held n' 33 [u2] = some y2 := h2
      replace h3 : DataW.trod enc Try.prog W base spare held n' 4 [u3] = some y3 := h3
      replace h4 : DataW.trod enc Try.prog W base spare held n' 3 [u4] = some y4 := h4
      replace h5 : DataW.trod enc Try.prog W base spare held n' 3 [u5] = some y5 := h5
      replace h6 : DataW.trod enc Try.prog W base spare held n' 5 [u6] = some y6 := h6
      replace h7 : DataW.trod enc Try.prog W base spare held n' 23 [u7] = some y7 := h7
      obtain ⟨i0, e0, _, _⟩ := DataW.trod_int Try.underlying3 h0
      obtain ⟨i1, e1, _, _⟩ := DataW.trod_int Try.underlying3 h1
      obtain ⟨a2, l2, k2, e2⟩ := head_of Try.underlying33 h2
      obtain ⟨i3, e3, _⟩ := DataW.trod_bool Try.underlying4 h3
      obtain ⟨i4, e4, _, _⟩ := DataW.trod_int Try.underlying3 h4
      obtain ⟨i5, e5, _, _⟩ := DataW.trod_int Try.underlying3 h5
      obtain ⟨i6, e6, _, _⟩ := DataW.trod_int Try.underlying5 h6
      obtain ⟨a7, l7, k7, e7⟩ := head_of Try.underlying23 h7
      simp only [List.cons.injEq, and_true] at e0 e1 e3 e4 e5 e6
      exact ⟨i0, i1, a2, l2, k2, i3, i4, i5, i6, a7, l7, k7, by rw [e0, e1, e2, e3, e4, e5, e6, e7]⟩

set_option maxRecDepth 100000 in
theorem lifted (os : Os) (started : os.Started) (H : Type) (enc : TypeId × Value → H) :
    ReturnsInHanded {} Try.checked os 9 .any (Rows.diskNobodySpec.pre6 enc Try.prog Try.f9 Rows.diskNobodyRow.domain false) (Rows.diskNobodySpec.post enc Try.prog Try.f9 false true false false) := by
  refine returnsInHanded_of_change (C := Try.checked) own started (by kernel_rfl) Try.func9
    (ChangeSpec.witness6 (enc := enc) (C := Try.checked) false ⟨#[], #[.agg #[.int .i64 0, .int .i64 0, .slice none 0 0, .bool false, .int .i64 0, .int .i64 0, .int .u8 0, .slice none 0 0]], []⟩ 8 (by kernel_rfl) (by kernel_rfl) (by kernel_rfl) (by kernel_rfl)) ?_
  intro W base args ds gs before hval0 hW hcnd _
  have hval : ∀ (j : Nat) t v, Try.f9.params[j]? = some t → args[j]? = some v → Value.okWide Try.prog W .any base t v := hval0
  have hW' := hW
  obtain ⟨p, q, hA0, hV, rfl, hfz, hnd⟩ := hW
  have hA : DataW.TrodAll enc Try.prog W 0 (fun _ => true) true Try.f9.params.toList args.toList ds p := hA0
  rw [Try.params9] at hA hval
  obtain ⟨v0, vs0, d0, ds0, p0, q0, hargs, rfl, rfl, h0, r0⟩ := trodAll_cons hA
  obtain ⟨rfl, rfl, rfl⟩ := trodAll_nil r0
  obtain rfl : args = #[v0] := by cases args; simp_all
  obtain ⟨rfl, rfl⟩ := trodVars_none hV
  have k0 := h0
  have lt0 : ∀ x ∈ p0, x.block < W.heap.size := by obtain ⟨m, hm⟩ := k0; exact DataW.trod_lt m _ _ _ hm
  obtain ⟨cs0, rfl, hz0⟩ := okWide_struct Try.underlying35 (hval 0 35 v0 rfl rfl)
  obtain ⟨f0, hf0⟩ := h0
  obtain ⟨a, b, c1, c2, c3, d, f, g, m, k1, k2, k3, e0⟩ := op_of hf0
  obtain rfl : cs0 = #[.int .i64 a, .int .i64 b, .slice c1 c2 c3, .bool d, .int .i64 f, .int .i64 g, .int .u8 m, .slice k1 k2 k3] := by have := congrArg List.toArray e0; simpa [Value.cells] using this
  clear hA0 hval0
  simp only [List.append_nil] at hW'
  refine (nobody_any W a b c1 c2 c3 d f g m k1 k2 k3).mono fun e W' ⟨he, hF⟩ => ?_
  have bel := hF.below0
  subst he
  exact ⟨_, rfl, _, _, _, [], _, [], hW', trodAll_mk1 (shut_bool Try.underlying4 _), (trodAll_cons_mk (Below.trod laidOut (by kernel_rfl) (of_decide_eq_true (by kernel_rfl)) k0 bel lt0) trodAll_mk0), rfl, bel.frame _, fun h => by cases h⟩

theorem over : Rows.diskNobodyRow.holds Try.pinned (OpenSpec.ofChange Rows.diskNobodySpec) :=
  OpenClaim.holds_of_wide 9 Try.f9 rfl rfl rfl rfl rfl rfl rfl ⟨rfl, rfl, rfl, rfl, rfl⟩ rfl rfl rfl rfl rfl (by kernel_rfl) Try.func9 (by kernel_rfl)
    (of_decide_eq_true (by kernel_rfl)) (by unfold Func.isWrapper; first | (rw [if_pos (by decide +kernel)]; kernel_rfl) | (rw [if_neg (by decide +kernel)]; exact ⟨rfl, rfl⟩))
    (fun os started H enc _ => lifted os started H enc)

/-- The statement. -/
theorem proved : Rows.DiskNobodySaid :=
  over
end Go.Proofs.Ytdamegjhdopfaaa.diskNobody
namespace Go.Proofs.Ytdamegjhdopfaaa
theorem diskNobody_holds : Rows.DiskNobodySaid := diskNobody.proved
end Go.Proofs.Ytdamegjhdopfaaa
