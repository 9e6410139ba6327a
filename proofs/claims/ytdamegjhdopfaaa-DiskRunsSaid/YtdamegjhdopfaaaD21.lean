/- Calls that came in: []lienlaw03.Op. -/
import Derived.Test.YtdamegjhdopfaaaD20
import Derived.Deep.Slices
import Derived.ProofKit
namespace Go.Proofs.Ytdamegjhdopfaaa
open Go.RowKit Go.ChangeShapes Go.WideShapes Go.Deep

structure OpD where
  kind : Int
  at' : Int
  bA : Option Addr
  bc : Nat
  b : List Int
  wh : Bool
  n : Int
  pl : Int
  mask : Int
  fA : Option Addr
  fn : Nat
  fc : Nat
instance : Inhabited OpD := ⟨⟨0, 0, none, 0, [], false, 0, 0, 0, none, 0, 0⟩⟩
def OpD.cells (o : OpD) : List Value := [.int .i64 o.kind, .int .i64 o.at', .slice o.bA o.b.length o.bc, .bool o.wh, .int .i64 o.n, .int .i64 o.pl, .int .u8 o.mask, .slice o.fA o.fn o.fc]
/-- its bytes are read -/
def OpD.Ok (w : World) (o : OpD) : Prop := ReadU w o.bA o.b ∧ ∀ x ∈ o.b, 0 ≤ x ∧ x < 256
def ReadOps (w : World) (A : Option Addr) (os : List OpD) : Prop :=
  ∀ (i : Nat) (o : OpD), os[i]? = some o → (∃ g f, A = some ⟨g, f, none⟩ ∧ ∀ (j : Nat) (u : Value), o.cells[j]? = some u → w.cell? ⟨g, f + i * 8 + j, none⟩ = some u) ∧ o.Ok w

theorem bytes_in {H : Type} {enc : TypeId × Value → H} {W : World} {base : Nat} {held : Bool} {n : Nat} {v : Value} {x : DataW H × List MemPlace} (h : DataW.trod enc Try.prog W base (fun _ => true) held n 33 [v] = some x) :
    ∃ (a : Option Addr) (c : Nat) (xs : List Int), v = .slice a xs.length c ∧ xs.length ≤ maxLen ∧ ReadU W a xs ∧ ∀ x ∈ xs, 0 ≤ x ∧ x < 256 := by
  rcases open_ints Try.underlying33 Try.underlying5 (by kernel_rfl) h with ⟨hcs, _⟩ | ⟨x, l, c, zs, hcs, hb, hl, hm, hz, hy, hcell, hw⟩
  · simp only [List.cons.injEq, and_true] at hcs
    exact ⟨none, 0, [], hcs, Nat.zero_le _, fun i x h => by simp at h, fun x h => by simp at h⟩
  · simp only [List.cons.injEq, and_true] at hcs
    simp only [if_true] at hz
    have hlen : (zs.take l).length = l := by rw [List.length_take]; omega
    refine ⟨some x, c, zs.take l, by rw [hlen]; exact hcs, by rw [hlen]; omega, fun i y hyy => ?_, fun y hyy => ?_⟩
    · rw [List.getElem?_take] at hyy
      split at hyy
      · have h1 := hcell i (by omega)
        obtain ⟨g, o, sp⟩ := x
        have hsp : sp = none := by
          have h0 := hcell 0 (by omega)
          simpa [Addr.add] using World.cell?_spot h0
        subst hsp
        rw [add_some, List.getD_eq_getElem?_getD, hyy] at h1
        exact ⟨g, o, rfl, h1⟩
      · cases hyy
    · have h2 := hw y (List.mem_of_mem_take hyy)
      have hmin : IntKind.u8.min = 0 := rfl
      have hmax : IntKind.u8.max = 255 := rfl
      simp only [Lit.wf, Bool.and_eq_true, decide_eq_true_eq, hmin, hmax] at h2
      omega
theorem head_of {H : Type} {enc : TypeId × Value → H} {W : World} {base : Nat} {spare : Nat → Bool} {held : Bool} {n : Nat} {t e : TypeId} {v : Value} {x : DataW H × List MemPlace} (ht : Try.prog.underlying t = some (.slice e)) (h : DataW.trod enc Try.prog W base spare held n t [v] = some x) : ∃ a l c, v = .slice a l c := by
  rcases open_slice ht h with ⟨hcs, _⟩ | ⟨a, l, c, _, _, _, _, hcs, _⟩
  · simp only [List.cons.injEq, and_true] at hcs
    exact ⟨none, 0, 0, hcs⟩
  · simp only [List.cons.injEq, and_true] at hcs
    exact ⟨some a, l, c, hcs⟩
set_option maxRecDepth 100000 in
theorem opd_of {H : Type} {enc : TypeId × Value → H} {W : World} {base : Nat} {held : Bool} {n : Nat} {cs : List Value} {x : DataW H × List MemPlace} (h : DataW.trod enc Try.prog W base (fun _ => true) held n 35 cs = some x) :
    ∃ o : OpD, cs = o.cells ∧ o.Ok W := by
  obtain ⟨xs, n', _, _, hl, hx, hf⟩ := DataW.trod_struct Try.underlying35 h
  have hC : Try.prog.cellsOf 35 = 8 := by kernel_rfl
  have c3 : Try.prog.cellsOf 3 = 1 := by kernel_rfl
  have c4 : Try.prog.cellsOf 4 = 1 := by kernel_rfl
  have c5 : Try.prog.cellsOf 5 = 1 := by kernel_rfl
  have cb : Try.prog.cellsOf 33 = 1 := by kernel_rfl
  have cf : Try.prog.cellsOf 23 = 1 := by kernel_rfl
  rw [hC] at hl
  match cs, hl with
  | [u0, u1, u2, u3, u4, u5, u6, u7], _ =>
    match xs, hx with
    | [y0, y1, y2, y3, y4, y5, y6, y7], _ =>
      have h0 : DataW.trod enc Try.prog W base (fun _ => true) held n' 3 (([u0, u1, u2, u3, u4, u5, u6, u7].drop 0).take (Try.prog.cellsOf 3)) = some y0 := hf 0 _ rfl
      have h1 : DataW.trod enc Try.prog W base (fun _ => true) held n' 3 (([u0, u1, u2, u3, u4, u5, u6, u7].drop 1).take (Try.prog.cellsOf 3)) = some y1 := hf 1 _ rfl
      have h2 : DataW.trod enc Try.prog W base (fun _ => true) held n' 33 (([u0, u1, u2, u3, u4, u5, u6, u7].drop 2).take (Try.prog.cellsOf 33)) = some y2 := hf 2 _ rfl
      have h3 : DataW.trod enc Try.prog W base (fun _ => true) held n' 4 (([u0, u1, u2, u3, u4, u5, u6, u7].drop 3).take (Try.prog.cellsOf 4)) = some y3 := hf 3 _ rfl
      have h4 : DataW.trod enc Try.prog W base (fun _ => true) held n' 3 (([u0, u1, u2, u3, u4, u5, u6, u7].drop 4).take (Try.prog.cellsOf 3)) = some y4 := hf 4 _ rfl
      have h5 : DataW.trod enc Try.prog W base (fun _ => true) held n' 3 (([u0, u1, u2, u3, u4, u5, u6, u7].drop 5).take (Try.prog.cellsOf 3)) = some y5 := hf 5 _ rfl
      have h6 : DataW.trod enc Try.prog W base (fun _ => true) held n' 5 (([u0, u1, u2, u3, u4, u5, u6, u7].drop 6).take (Try.prog.cellsOf 5)) = some y6 := hf 6 _ rfl
      have h7 : DataW.trod enc Try.prog W base (fun _ => true) held n' 23 (([u0, u1, u2, u3, u4, u5, u6, u7].drop 7).take (Try.prog.cellsOf 23)) = some y7 := hf 7 _ rfl
      rw [c3] at h0 h1 h4 h5
      rw [cb] at h2
      rw [c4] at h3
      rw [c5] at h6
      rw [cf] at h7
      replace h0 : DataW.trod enc Try.prog W base (fun _ => true) held n' 3 [u0] = some y0 := h0
      replace h1 : DataW.trod enc Try.prog W base (fun _ => true) held n' 3 [u1] = some y1 := h1
      replace h2 : DataW.trod enc Try.prog W base (fun _ => true) held n' 33 [u2] = some y2 := h2
      replace h3 : DataW.trod enc Try.prog W base (fun _ => true) held n' 4 [u3] = some y3 := h3
      replace h4 : DataW.trod enc Try.prog W base (fun _ => true) held n' 3 [u4] = some y4 := h4
      replace h5 : DataW.trod enc Try.prog W base (fun _ => true) held n' 3 [u5] = some y5 := h5
      replace h6 : DataW.trod enc Try.prog W base (fun _ => true) held n' 5 [u6] = some y6 := h6
      replace h7 : DataW.trod enc Try.prog W base (fun _ => true) held n' 23 [u7] = some y7 := h7
      obtain ⟨i0, e0, _, _⟩ := DataW.trod_int Try.underlying3 h0
      obtain ⟨i1, e1, _, _⟩ := DataW.trod_int Try.underlying3 h1
      obtain ⟨a2, k2, b2, e2, _, hb, hbb⟩ := bytes_in h2
      obtain ⟨i3, e3, _⟩ := DataW.trod_bool Try.underlying4 h3
      obtain ⟨i4, e4, _, _⟩ := DataW.trod_int Try.underlying3 h4
      obtain ⟨i5, e5, _, _⟩ := DataW.trod_int Try.underlying3 h5
      obtain ⟨i6, e6, _, _⟩ := DataW.trod_int Try.underlying5 h6
      obtain ⟨a7, l7, k7, e7⟩ := head_of Try.underlying23 h7
      simp only [List.cons.injEq, and_true] at e0 e1 e3 e4 e5 e6
      exact ⟨⟨i0, i1, a2, k2, b2, i3, i4, i5, i6, a7, l7, k7⟩, by rw [e0, e1, e2, e3, e4, e5, e6, e7]; rfl, hb, hbb⟩
theorem ops_of {H : Type} {enc : TypeId × Value → H} {W : World} {held : Bool} {a : Option Addr} {len cap : Nat} {d : DataW H} {p : List MemPlace} (h : DataW.Trod enc Try.prog W 0 (fun _ => true) held 22 (.slice a len cap) d p) :
    ∃ os : List OpD, os.length = len ∧ len ≤ maxLen ∧ ReadOps W a os := by
  obtain ⟨fuel, hf⟩ := h
  rcases open_slice Try.underlying22 hf with ⟨hcs, _⟩ | ⟨x, l, c, m, n, D, Pl, hcs, hb, hl, hm, hmm, hx, hel⟩
  · simp [Value.cells] at hcs
    obtain ⟨rfl, rfl, rfl⟩ := hcs
    exact ⟨[], rfl, Nat.zero_le _, fun i m h => by simp at h⟩
  · simp [Value.cells] at hcs
    obtain ⟨rfl, rfl, rfl⟩ := hcs
    have hC : Try.prog.cellsOf 35 = 8 := by kernel_rfl
    rw [hC] at hel
    have hlm : len ≤ m := by rw [hmm]; split <;> omega
    have hS : ∀ i, i < len → ∃ s : OpD, s.Ok W ∧ ∀ j u, s.cells[j]? = some u → W.cell? (x.add (i * 8 + j)) = some u := by
      intro i hi
      obtain ⟨cs', h1, h2⟩ := hel i (by omega)
      obtain ⟨s, rfl, hs⟩ := opd_of h2
      obtain ⟨_, _, hc⟩ := World.cells?_some h1
      refine ⟨s, hs, fun j u hu => ?_⟩
      have hj : j < 8 := (List.getElem?_eq_some_iff.1 hu).1
      have := hc j hj
      rw [hu] at this
      have e : (x.add (i * 8)).add j = x.add (i * 8 + j) := by
        unfold Addr.add
        by_cases h1 : i * 8 = 0 <;> by_cases h2 : j = 0 <;> simp [h1, h2, Nat.add_assoc]
      rwa [e] at this
    obtain ⟨S, hSS⟩ := choose_lt (p := fun i (s : OpD) => s.Ok W ∧ ∀ j u, s.cells[j]? = some u → W.cell? (x.add (i * 8 + j)) = some u) hS
    refine ⟨(List.range len).map S, by simp, by omega, fun i s hs => ?_⟩
    have hi : i < len := by
      have := (List.getElem?_eq_some_iff.1 hs).1
      simpa using this
    obtain ⟨b, o, sp⟩ := x
    have hsp : sp = none := by simpa [Addr.add] using World.cell?_spot ((hSS 0 (by omega)).2 0 _ rfl)
    subst hsp
    rw [List.getElem?_map, List.getElem?_range hi] at hs
    obtain rfl := Option.some.inj hs
    refine ⟨⟨b, o, rfl, fun j u hu => ?_⟩, (hSS i hi).1⟩
    have := (hSS i hi).2 j u hu
    rwa [add_some, ← Nat.add_assoc] at this
end Go.Proofs.Ytdamegjhdopfaaa
