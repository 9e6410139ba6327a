/- Rows of rows of bytes that are read. -/
import Derived.Test.YtedmhhllkkgbjaaFg4
namespace Go.Proofs.Ytedmhhllkkgbjaa
open Go.RowKit

/-- bytes that are read -/
structure ReadB (w : World) (A : Option Addr) (c : Nat) (x : List Int) : Prop where
  cap : x.length ≤ c
  cells : ∀ g o s, A = some ⟨g, o, s⟩ → (0 < c → s = none) ∧ ∀ (j : Nat) (b : Int), x[j]? = some b → w.cell? ⟨g, o + j, none⟩ = some (.int .u8 b)
  empty : A = none → x = []
/-- rows of bytes that are read -/
def ReadR (w : World) (A : Option Addr) (xs : List (List Int)) : Prop :=
  ∀ (i : Nat) (x : List Int), xs[i]? = some x → ∃ g o PA pc, A = some ⟨g, o, none⟩ ∧ w.cell? ⟨g, o + i, none⟩ = some (.slice PA x.length pc) ∧ ReadB w PA pc x

theorem cell_lt {w : World} {a : Addr} {v : Value} (h : w.cell? a = some v) : a.block < w.heap.size := World.block_lt_of_cell? _ _ h
theorem ReadB.below {w w' : World} {A : Option Addr} {c : Nat} {x : List Int} (h : ReadB w A c x) (hb : Below w.heap.size w w') : ReadB w' A c x :=
  ⟨h.cap, fun g o s e => ⟨(h.cells g o s e).1, fun j b hj => by
    have hc := (h.cells g o s e).2 j b hj
    exact (Fr.of_below hb (fun _ => False)).cell0 hc⟩, h.empty⟩
theorem ReadR.below {w w' : World} {A : Option Addr} {xs : List (List Int)} (h : ReadR w A xs) (hb : Below w.heap.size w w') : ReadR w' A xs := by
  intro i x hx
  obtain ⟨g, o, PA, pc, e, hc, hr⟩ := h i x hx
  exact ⟨g, o, PA, pc, e, (Fr.of_below hb (fun _ => False)).cell0 hc, hr.below hb⟩
theorem ReadR.nil (w : World) (A : Option Addr) : ReadR w A [] := fun i x hx => by simp at hx
/-- a row of one's own is read -/
theorem readB_own {w : World} {B n : Nat} {A : Option Addr} {c : Nat} {x : List Int} (h : w.ownsRow B 5 1 (.slice A n c) x.length (bytes x)) : ReadB w A c x := by
  refine ⟨?_, fun g o s e => ?_, fun e => ?_⟩
  · rcases h.2 with ⟨hv, hx⟩ | ⟨g2, c2, cur, hv, _, _, hc, _⟩
    · simp only [Value.slice.injEq] at hv
      rw [hx]; exact Nat.zero_le _
    · simp only [Value.slice.injEq] at hv
      rw [hv.2.2]
      exact hc
  · have hs := h.2
    rcases hs with ⟨hv, _⟩ | ⟨g2, c2, cur, hv, _⟩
    · simp only [Value.slice.injEq] at hv
      rw [e] at hv
      cases hv.1
    · simp only [Value.slice.injEq] at hv
      rw [e] at hv
      simp only [Option.some.injEq, Addr.mk.injEq] at hv
      obtain ⟨⟨rfl, rfl, rfl⟩, rfl, rfl⟩ := hv
      subst e
      refine ⟨fun _ => rfl, fun j b hj => ?_⟩
      have := (own_news h).1 _ rfl j (.int .u8 b) (by simp [bytes, hj])
      rwa [add_some] at this
  · rcases h.2 with ⟨hv, hx⟩ | ⟨g2, c2, cur, hv, _⟩
    · exact List.eq_nil_of_length_eq_zero hx
    · simp only [Value.slice.injEq] at hv
      rw [e] at hv
      cases hv.1
theorem OW.read {B : Nat} {w : World} {g : Nat} {v : Value} {vs : List Value} {xs : List (List Int)} (h : OW B w g v vs xs) : ∃ A c, v = .slice A xs.length c ∧ xs.length ≤ c ∧ ReadR w A xs := by
  obtain ⟨A, c, rfl⟩ := own_slice h.row
  refine ⟨A, c, rfl, ?_, fun i x hx => ?_⟩
  · rcases h.row.2 with ⟨hv, hx⟩ | ⟨g2, c2, cur, hv, _, _, hc, _⟩
    · rw [hx]; exact Nat.zero_le _
    · simp only [Value.slice.injEq] at hv
      rw [hv.2.2]
      exact hc
  · have hi := (List.getElem?_eq_some_iff.1 hx).1
    obtain ⟨y, hy⟩ : ∃ y, vs[i]? = some y := ⟨_, List.getElem?_eq_getElem (by rw [h.rows.1]; exact hi)⟩
    have ho := h.rows.2 i x _ hx hy
    obtain ⟨PA, pc, hp⟩ := own_slice ho
    rw [hp] at ho hy
    have hn := own_news h.row
    cases A with
    | none => have := hn.2 rfl; omega
    | some ad =>
      have hcell := hn.1 ad rfl i _ hy
      obtain ⟨g2, o2, s2⟩ := ad
      have hs : s2 = none := by
        rcases h.row.2 with ⟨hv, _⟩ | ⟨g3, c3, cur, hv, _⟩
        · cases hv
        · simp only [Value.slice.injEq, Option.some.injEq, Addr.mk.injEq] at hv
          exact hv.1.2.2
      subst hs
      rw [add_some] at hcell
      exact ⟨g2, o2, PA, pc, rfl, hcell, readB_own ho⟩

/-- where a part of a slice lies -/
def cutA (A : Option Addr) (cap lo : Nat) : Option Addr := if cap = lo then A else A.map (·.add lo)
theorem cutA_read {w : World} {A : Option Addr} {cap : Nat} {x : List Int} (h : ReadB w A cap x) (lo hi : Nat) (h1 : lo ≤ hi) (h2 : hi ≤ x.length) : ReadB w (cutA A cap lo) (cap - lo) ((x.drop lo).take (hi - lo)) := by
  have hc := h.cap
  have hl : ((x.drop lo).take (hi - lo)).length = hi - lo := by rw [List.length_take, List.length_drop]; omega
  refine ⟨by rw [hl]; omega, fun g o s e => ?_, fun e => ?_⟩
  · unfold cutA at e
    split at e
    · have : hi - lo = 0 := by omega
      rw [this]
      exact ⟨fun hc => by omega, fun j b hj => by simp at hj⟩
    · cases A with
      | none => cases e
      | some ad =>
        obtain ⟨g0, o0, s0⟩ := ad
        obtain ⟨hs0, hcell⟩ := h.cells g0 o0 s0 rfl
        obtain rfl := hs0 (by omega)
        simp only [Option.map_some, add_some, Option.some.injEq, Addr.mk.injEq] at e
        obtain ⟨rfl, rfl, rfl⟩ := e
        refine ⟨fun _ => rfl, fun j b hj => ?_⟩
        have hj2 : j < hi - lo := by have := (List.getElem?_eq_some_iff.1 hj).1; omega
        rw [List.getElem?_take, if_pos hj2, List.getElem?_drop] at hj
        rw [Nat.add_assoc]
        exact hcell _ _ hj
  · unfold cutA at e
    have hx : x = [] := by
      split at e
      · exact h.empty e
      · cases A with
        | none => exact h.empty rfl
        | some ad => cases e
    subst hx
    simp
theorem cutB (A : Option Addr) (len cap lo hi : Nat) (h1 : lo ≤ hi) (h2 : hi ≤ cap) (W : World) (l h : Int) (el : l = lo) (e : h = hi) :
    (Instr.slice 27 (.slice A len cap) (some (.int .i64 l)) (some (.int .i64 h)) none).run Try.prog W = .ok (.slice (cutA A cap lo) (hi - lo) (cap - lo)) W := by
  obtain ⟨i, hi', hzz⟩ := Option.map_eq_some_iff.1 Try.info5
  simp only [Prod.mk.injEq] at hzz
  obtain ⟨_, hz1, _⟩ := hzz
  have hel : Try.prog.elem 27 = 5 := by simp [Program.elem, Try.underlying27]
  have hu : Try.prog.underlying 27 = some (.slice (Try.prog.elem 27)) := by rw [hel]; exact Try.underlying27
  subst e
  subst el
  rw [run_slice_lh W 27 A len cap hu .i64 .i64 (lo : Int) (hi : Int) (by omega) (by omega) (by omega), hel]
  simp [sizeOf, typeInfo, hi', hz1, sliced, Result.andThen, cutA]
theorem cutB_from (A : Option Addr) (len cap lo : Nat) (h1 : lo ≤ len) (W : World) (l : Int) (el : l = lo) :
    (Instr.slice 27 (.slice A len cap) (some (.int .i64 l)) none none).run Try.prog W = .ok (.slice (cutA A cap lo) (len - lo) (cap - lo)) W := by
  obtain ⟨i, hi', hzz⟩ := Option.map_eq_some_iff.1 Try.info5
  simp only [Prod.mk.injEq] at hzz
  obtain ⟨_, hz1, _⟩ := hzz
  have hel : Try.prog.elem 27 = 5 := by simp [Program.elem, Try.underlying27]
  have hu : Try.prog.underlying 27 = some (.slice (Try.prog.elem 27)) := by rw [hel]; exact Try.underlying27
  subst el
  rw [run_slice_l W 27 A len cap hu .i64 (lo : Int) (by omega) (by omega), hel]
  simp [sizeOf, typeInfo, hi', hz1, sliced, Result.andThen, cutA]
theorem ReadB.news {w : World} {A : Option Addr} {c : Nat} {x : List Int} (h : ReadB w A c x) : ∀ ad, A = some ad → ∀ j u, (bytes x)[j]? = some u → w.cell? (ad.add j) = some u := by
  rintro ⟨g, o, s⟩ e j u hu
  obtain ⟨hs, hc⟩ := h.cells g o s e
  rw [bytes, List.getElem?_map] at hu
  obtain ⟨b, hb, rfl⟩ := Option.map_eq_some_iff.1 hu
  obtain rfl := hs (by have h1 := (List.getElem?_eq_some_iff.1 hb).1; have h2 := h.cap; omega)
  rw [add_some]
  exact hc j b hb

end Go.Proofs.Ytedmhhllkkgbjaa
