/- The document's Peer: Hear of a transfer. -/
import Derived.Test.YtedmhhllkkgbjaaPe19
namespace Go.Proofs.Ytedmhhllkkgbjaa
open Go.RowKit Go.WideShapes
set_option linter.unusedSimpArgs false
set_option linter.unusedVariables false

/-- a message put into a row that rises by seq, as far as it was looked at -/
structure GI (s : Int) (m : Msg) (l a : List Msg) (d t : Bool) : Prop where
  there : t = l.any (fun x => x.seq == s)
  und : d = false → a = l ∧ ∀ x ∈ l, ¬ s < x.seq
  dn : d = true → ∃ l1 l2 y, l = l1 ++ y :: l2 ∧ a = l1 ++ m :: y :: l2 ∧ (∀ x ∈ l1, ¬ s < x.seq) ∧ s < y.seq
theorem GI.nil (s : Int) (m : Msg) : GI s m [] [] false false := ⟨rfl, fun _ => ⟨rfl, fun x h => by simp at h⟩, fun h => by cases h⟩
theorem GI.len {s : Int} {m : Msg} {l a : List Msg} {d t : Bool} (h : GI s m l a d t) : a.length ≤ l.length + 1 := by
  cases d with
  | false => rw [(h.und rfl).1]; omega
  | true => obtain ⟨l1, l2, y, rfl, rfl, _⟩ := h.dn rfl; simp; omega
theorem GI.done {s : Int} {m : Msg} {l a : List Msg} {t : Bool} (h : GI s m l a true t) (x : Msg) (t' : Bool) (ht : t' = (t || (x.seq == s))) : GI s m (l ++ [x]) (a ++ [x]) true t' := by
  refine ⟨by rw [ht, h.there]; simp, fun h => (by cases h), fun _ => ?_⟩
  obtain ⟨l1, l2, y, rfl, rfl, h1, h2⟩ := h.dn rfl
  exact ⟨l1, l2 ++ [x], y, by simp, by simp, h1, h2⟩
theorem GI.put {s : Int} {m : Msg} {l a : List Msg} {t : Bool} (h : GI s m l a false t) (x : Msg) (hx : s < x.seq) (t' : Bool) (ht : t' = (t || (x.seq == s))) : GI s m (l ++ [x]) (a ++ [m] ++ [x]) true t' := by
  obtain ⟨rfl, h1⟩ := h.und rfl
  exact ⟨by rw [ht, h.there]; simp, fun h => (by cases h), fun _ => ⟨a, [], x, by simp, by simp, h1, hx⟩⟩
theorem GI.on {s : Int} {m : Msg} {l a : List Msg} {t : Bool} (h : GI s m l a false t) (x : Msg) (hx : ¬ s < x.seq) (t' : Bool) (ht : t' = (t || (x.seq == s))) : GI s m (l ++ [x]) (a ++ [x]) false t' := by
  obtain ⟨rfl, h1⟩ := h.und rfl
  refine ⟨by rw [ht, h.there]; simp, fun _ => ⟨rfl, fun y hy => ?_⟩, fun h => (by cases h)⟩
  rcases List.mem_append.1 hy with hy | hy
  · exact h1 y hy
  · obtain rfl := List.mem_singleton.1 hy; exact hx

/-- what the row is behind a transfer -/
structure GotR (m : Msg) (G G' : List Msg) : Prop where
  same : G.any (fun x => x.seq == m.seq) = true → G' = G
  perm : G.any (fun x => x.seq == m.seq) = false → G'.Perm (G ++ [m])
  rise : G.Pairwise (fun x y => x.seq < y.seq) → G'.Pairwise (fun x y => x.seq < y.seq)
theorem GotR.there {m : Msg} {G a : List Msg} {d : Bool} (h : GI m.seq m G a d true) : GotR m G G := ⟨fun _ => rfl, fun e => (by rw [← h.there] at e; cases e), fun h => h⟩
theorem GotR.done {m : Msg} {G a : List Msg} (h : GI m.seq m G a true false) : GotR m G a := by
  have ht := h.there
  obtain ⟨l1, l2, y, rfl, rfl, h1, h2⟩ := h.dn rfl
  refine ⟨fun e => (by rw [← ht] at e; cases e), fun _ => ?_, fun hp => ?_⟩
  · refine (List.perm_middle (a := m) (l₁ := l1) (l₂ := y :: l2)).trans ?_
    exact List.Perm.symm (List.perm_append_comm (l₁ := l1 ++ y :: l2) (l₂ := [m]))
  · have hne : ∀ x ∈ l1, x.seq ≠ m.seq := fun x hx e => by
      have := List.any_eq_false.1 ht.symm x (by simp [hx])
      simp [e] at this
    rw [List.pairwise_append] at hp ⊢
    obtain ⟨p1, p2, p3⟩ := hp
    refine ⟨p1, List.pairwise_cons.2 ⟨fun z hz => ?_, p2⟩, fun x hx z hz => ?_⟩
    · rcases List.mem_cons.1 hz with rfl | hz
      · exact h2
      · have := (List.pairwise_cons.1 p2).1 z hz; omega
    · rcases List.mem_cons.1 hz with rfl | hz
      · have := h1 x hx; have := hne x hx; omega
      · exact p3 x hx z hz
theorem GotR.last {m : Msg} {G a : List Msg} (h : GI m.seq m G a false false) : GotR m G (a ++ [m]) := by
  have ht := h.there
  obtain ⟨rfl, h1⟩ := h.und rfl
  refine ⟨fun e => (by rw [← ht] at e; cases e), fun _ => List.Perm.refl _, fun hp => ?_⟩
  rw [List.pairwise_append]
  refine ⟨hp, by simp, fun x hx y hy => ?_⟩
  obtain rfl := List.mem_singleton.1 hy
  have := h1 x hx
  have h2 := List.any_eq_false.1 ht.symm x hx
  simp at h2
  omega
end Go.Proofs.Ytedmhhllkkgbjaa
