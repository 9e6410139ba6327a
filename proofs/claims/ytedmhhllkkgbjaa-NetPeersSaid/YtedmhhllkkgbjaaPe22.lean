/- Acts that came in; two plain laws of rows. -/
import Derived.Test.YtedmhhllkkgbjaaPe6
import Derived.Test.YtedmhhllkkgbjaaPe21
import Derived.Deep.Slices
import Derived.ProofKit
namespace Go.Proofs.Ytedmhhllkkgbjaa
open Go.RowKit Go.ChangeShapes Go.WideShapes Go.Deep

theorem MapIs.perm {D : DataW Msg} {l l' : List Msg} (h : MapIs D l) (hp : l'.Perm l) : MapIs D l' :=
  ⟨(hp.map _).nodup_iff.2 h.nodup, h.map, fun m hm => h.has m (hp.mem_iff.1 hm), fun kl hk => by
    obtain ⟨m, hm, e⟩ := h.only kl hk
    exact ⟨m, hp.mem_iff.2 hm, e⟩⟩

theorem got_same {ms G : List Msg} (hp : ms.Perm G) (h1 : ms.Pairwise (fun x y => ¬ y.seq < x.seq)) (h2 : G.Pairwise (fun x y => x.seq < y.seq)) : ms = G :=
  List.Perm.eq_of_pairwise (le := fun x y : Msg => ¬ y.seq < x.seq) (fun a b ha hb hab hba => pw_inj (·.seq) (h2.imp (fun {x y} h (e : x.seq = y.seq) => by omega)) (hp.mem_iff.1 ha) hb (by show a.seq = b.seq; omega)) h1 (h2.imp (fun {x y} h => by omega)) hp

/-- what a peer does -/
structure Deed where
  kind : Int
  key : ByteArray
  n : Int
  m : Msg
instance : Inhabited Deed := ⟨⟨0, ⟨#[]⟩, 0, zMsg⟩⟩
def Deed.cells (d : Deed) : List Value := [.int .u8 d.kind, .string d.key, .int .i64 d.n, .int .i64 d.m.kind, .int .i64 d.m.peer, .int .i64 d.m.seq, .string d.m.key, .int .i64 d.m.n]
def ReadD (w : World) (A : Option Addr) (ds : List Deed) : Prop :=
  ∀ (i : Nat) (d : Deed), ds[i]? = some d → ∃ g o, A = some ⟨g, o, none⟩ ∧ ∀ (j : Nat) (u : Value), d.cells[j]? = some u → w.cell? ⟨g, o + i * 8 + j, none⟩ = some u

set_option maxRecDepth 100000 in
theorem deed_of {H : Type} {enc : TypeId × Value → H} {W : World} {base : Nat} {spare : Nat → Bool} {held : Bool} {n : Nat} {cs : List Value} {x : DataW H × List MemPlace} (h : DataW.trod enc Try.prog W base spare held n 83 cs = some x) : ∃ d : Deed, cs = d.cells ∧ (Lit.int .i64 d.m.seq).wf = true ∧ 0 ≤ d.kind ∧ d.kind ≤ 255 := by
  obtain ⟨xs, n', _, _, hl, hx, hf⟩ := DataW.trod_struct Try.underlying83 h
  have hC : Try.prog.cellsOf 83 = 8 := by kernel_rfl
  have c3 : Try.prog.cellsOf 3 = 1 := by kernel_rfl
  have c9 : Try.prog.cellsOf 9 = 1 := by kernel_rfl
  have c5 : Try.prog.cellsOf 5 = 1 := by kernel_rfl
  have c71 : Try.prog.cellsOf 71 = 5 := by kernel_rfl
  rw [hC] at hl
  match cs, hl with
  | [a, b, c, d, f, p, q, r], _ =>
    match xs, hx with
    | [y0, y1, y2, y3], _ =>
      have h0 : DataW.trod enc Try.prog W base spare held n' 5 (([a, b, c, d, f, p, q, r].drop 0).take (Try.prog.cellsOf 5)) = some y0 := hf 0 _ rfl
      have h1 : DataW.trod enc Try.prog W base spare held n' 9 (([a, b, c, d, f, p, q, r].drop 1).take (Try.prog.cellsOf 9)) = some y1 := hf 1 _ rfl
      have h2 : DataW.trod enc Try.prog W base spare held n' 3 (([a, b, c, d, f, p, q, r].drop 2).take (Try.prog.cellsOf 3)) = some y2 := hf 2 _ rfl
      have h3 : DataW.trod enc Try.prog W base spare held n' 71 (([a, b, c, d, f, p, q, r].drop 3).take (Try.prog.cellsOf 71)) = some y3 := hf 3 _ rfl
      rw [c5] at h0
      rw [c9] at h1
      rw [c3] at h2
      rw [c71] at h3
      replace h0 : DataW.trod enc Try.prog W base spare held n' 5 [a] = some y0 := h0
      replace h1 : DataW.trod enc Try.prog W base spare held n' 9 [b] = some y1 := h1
      replace h2 : DataW.trod enc Try.prog W base spare held n' 3 [c] = some y2 := h2
      replace h3 : DataW.trod enc Try.prog W base spare held n' 71 [d, f, p, q, r] = some y3 := h3
      obtain ⟨i0, e0, _, w0⟩ := DataW.trod_int Try.underlying5 h0
      obtain ⟨t, e1, _, _⟩ := DataW.trod_string Try.underlying9 h1
      obtain ⟨i2, e2, _, _⟩ := DataW.trod_int Try.underlying3 h2
      obtain ⟨m, e3, hm⟩ := msg_of h3
      simp only [List.cons.injEq, and_true] at e0 e1 e2
      have e3' : [d, f, p, q, r] = [.int .i64 m.kind, .int .i64 m.peer, .int .i64 m.seq, .string m.key, .int .i64 m.n] := e3
      simp only [List.cons.injEq, and_true] at e3'
      obtain ⟨g0, g1, g2, g3, g4⟩ := e3'
      have hmin : IntKind.u8.min = 0 := rfl
      have hmax : IntKind.u8.max = 255 := rfl
      simp only [Lit.wf, Bool.and_eq_true, decide_eq_true_eq, hmin, hmax] at w0
      exact ⟨⟨i0, t, i2, m⟩, by rw [e0, e1, e2, g0, g1, g2, g3, g4]; rfl, hm, w0⟩

theorem deeds_of {H : Type} {enc : TypeId × Value → H} {W : World} {spare : Nat → Bool} {held : Bool} {a : Option Addr} {len cap : Nat} {d : DataW H} {p : List MemPlace} (h : DataW.Trod enc Try.prog W 0 spare held 76 (.slice a len cap) d p) :
    ∃ ss : List Deed, ss.length = len ∧ len ≤ maxLen ∧ ReadD W a ss ∧ ∀ d ∈ ss, (Lit.int .i64 d.m.seq).wf = true ∧ 0 ≤ d.kind ∧ d.kind ≤ 255 := by
  obtain ⟨fuel, hf⟩ := h
  rcases open_slice Try.underlying76 hf with ⟨hcs, _⟩ | ⟨x, l, c, m, n, D, Pl, hcs, hb, hl, hm, hmm, hx, hel⟩
  · simp [Value.cells] at hcs
    obtain ⟨rfl, rfl, rfl⟩ := hcs
    exact ⟨[], rfl, Nat.zero_le _, fun i m h => by simp at h, fun m h => by simp at h⟩
  · simp [Value.cells] at hcs
    obtain ⟨rfl, rfl, rfl⟩ := hcs
    have hC : Try.prog.cellsOf 83 = 8 := by kernel_rfl
    rw [hC] at hel
    have hlm : len ≤ m := by rw [hmm]; split <;> omega
    have hS : ∀ i, i < len → ∃ s : Deed, ((Lit.int .i64 s.m.seq).wf = true ∧ 0 ≤ s.kind ∧ s.kind ≤ 255) ∧ ∀ j u, s.cells[j]? = some u → W.cell? (x.add (i * 8 + j)) = some u := by
      intro i hi
      obtain ⟨cs', h1, h2⟩ := hel i (by omega)
      obtain ⟨s, rfl, hs⟩ := deed_of h2
      obtain ⟨_, _, hc⟩ := World.cells?_some h1
      refine ⟨s, hs, fun j u hu => ?_⟩
      have hj : j < 8 := (List.getElem?_eq_some_iff.1 hu).1
      have := hc j hj
      rw [hu] at this
      have e : (x.add (i * 8)).add j = x.add (i * 8 + j) := by
        unfold Addr.add
        by_cases h1 : i * 8 = 0 <;> by_cases h2 : j = 0 <;> simp [h1, h2, Nat.add_assoc]
      rwa [e] at this
    obtain ⟨S, hSS⟩ := choose_lt (p := fun i (s : Deed) => ((Lit.int .i64 s.m.seq).wf = true ∧ 0 ≤ s.kind ∧ s.kind ≤ 255) ∧ ∀ j u, s.cells[j]? = some u → W.cell? (x.add (i * 8 + j)) = some u) hS
    refine ⟨(List.range len).map S, by simp, by omega, fun i s hs => ?_, fun s hs => ?_⟩
    · have hi : i < len := by
        have := (List.getElem?_eq_some_iff.1 hs).1
        simpa using this
      have h0 := (hSS i hi).2 0 _ rfl
      obtain ⟨b, o, sp⟩ := x
      have hsp : sp = none := by simpa [Addr.add] using World.cell?_spot ((hSS 0 (by omega)).2 0 _ rfl)
      subst hsp
      rw [List.getElem?_map, List.getElem?_range hi] at hs
      obtain rfl := Option.some.inj hs
      refine ⟨b, o, rfl, fun j u hu => ?_⟩
      have := (hSS i hi).2 j u hu
      rwa [add_some, ← Nat.add_assoc] at this
    · obtain ⟨i, hi, rfl⟩ := List.mem_map.1 hs
      exact (hSS i (List.mem_range.1 hi)).1
end Go.Proofs.Ytedmhhllkkgbjaa
