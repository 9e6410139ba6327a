/- A disk: Loose. -/
import Derived.Test.YtdamegjhdopfaaaD9
namespace Go.Proofs.Ytdamegjhdopfaaa
open Go.RowKit Go.WideShapes
set_option linter.unusedSimpArgs false
set_option linter.unusedVariables false

theorem ranges_iter {w : World} {b r n : Nat} {D : DataW Hd} {left : Lit → Bool} {cnt : Nat} (h : w.ranges Try.prog 3 hdR b r n D left cnt) : (∃ o, w.heap[r]? = some o ∧ ∀ cs t f, o ≠ .cells cs t f) ∧ (∃ o, w.heap[b]? = some o ∧ ∀ cs t f, o ≠ .cells cs t f) := by
  obtain ⟨es, clock, since, seen, c0, hb, _, _, _, hr, _⟩ := h
  exact ⟨⟨_, hr, fun _ _ _ e => by cases e⟩, ⟨_, hb, fun _ _ _ e => by cases e⟩⟩
theorem same_self (a : Int) : (Lit.int .i64 a).sameKey (.int .i64 a) = true := by simp [Lit.sameKey]
theorem same_ne {a b : Int} (h : a ≠ b) : (Lit.int .i64 a).sameKey (.int .i64 b) = false := Maps.sameKey_ne (fun e => h (by simpa using e))
theorem holds_own {w : World} {B n g c : Nat} {l : List Lo} (h : w.ownsRow B 48 2 (.slice (some ⟨g, 0, none⟩) n c) l.length (l.flatMap Lo.cells)) : Go.Sort.HoldsK Lo.cells 2 w g 0 l.toArray ∧ g < w.heap.size ∧ B ≤ g := by
  rcases h.2 with ⟨hv, _⟩ | ⟨g2, c2, cur, hv, hB, hh, _⟩
  · cases hv
  · simp only [Value.slice.injEq, Option.some.injEq, Addr.mk.injEq, and_true, true_and] at hv
    obtain ⟨rfl, rfl, rfl⟩ := hv
    refine ⟨fun j hj => ?_, blk_lt hh, hB⟩
    rw [Go.Sort.size_flatK] at hj
    have hj' : j < l.length * 2 := hj
    have hjd : j / 2 < l.length := by omega
    have hjm : j % 2 < 2 := Nat.mod_lt _ (by omega)
    refine ⟨?_, blk_frozen hh _⟩
    rw [Go.Sort.get_flatK _ _ _ _ hj]
    obtain ⟨m, hm⟩ : ∃ m, l[j / 2]? = some m := ⟨_, List.getElem?_eq_getElem hjd⟩
    have e1 : (l.toArray[j / 2]!) = m := by
      rw [getElem!_def, List.getElem?_toArray, hm]
    rw [e1]
    have hu : m.cells[j % 2]? = some (m.cells[j % 2]!) := by
      rw [getElem!_def]
      cases hc : m.cells[j % 2]? with
      | none => have := List.getElem?_eq_none_iff.1 hc; simp [Lo.cells] at this; omega
      | some u => rfl
    have := (own_news h).1 _ rfl (j / 2 * 2 + j % 2) _ (flat_at (f := Lo.cells) (s := 2) (fun _ => rfl) l (j / 2) (j % 2) m _ hm hu)
    rw [add_some, Nat.zero_add, show j / 2 * 2 + j % 2 = j from by omega] at this
    rw [Nat.zero_add]
    exact this

theorem nodup_len {α : Type} : ∀ {l1 l2 : List α}, l1.Nodup → (∀ x ∈ l1, x ∈ l2) → l1.length ≤ l2.length
  | [], _, _, _ => Nat.zero_le _
  | a :: r, l2, hn, hs => by
    obtain ⟨h1, h2⟩ := List.nodup_cons.1 hn
    obtain ⟨s, t, rfl⟩ := List.append_of_mem (hs a List.mem_cons_self)
    have := nodup_len (l1 := r) (l2 := s ++ t) h2 (fun x hx => by
      have h3 := hs x (List.mem_cons_of_mem _ hx)
      rcases List.mem_append.1 h3 with h | h
      · exact List.mem_append_left _ h
      · rcases List.mem_cons.1 h with rfl | h
        · exact absurd hx h1
        · exact List.mem_append_right _ h)
    simp only [List.length_append, List.length_cons] at this ⊢
    omega
theorem nodup_map {α β : Type} {f : α → β} {l : List α} (h : (l.map f).Nodup) : l.Nodup := (List.pairwise_map.1 h).imp (fun h e => h (congrArg f e))


/-- the loose sectors, rising -/
def losOf (d : Dk) : List Lo := (List.finRange 4096).filterMap (fun i => if 0 < (d.L (i.val : Int)).length then some ⟨i, (d.L (i.val : Int)).length⟩ else none)
theorem mem_los (d : Dk) (m : Lo) : m ∈ losOf d ↔ 0 < (d.L (m.s.val : Int)).length ∧ m.many = (d.L (m.s.val : Int)).length := by
  unfold losOf
  rw [List.mem_filterMap]
  constructor
  · rintro ⟨i, _, h⟩
    split at h
    · rename_i h0
      cases h
      exact ⟨h0, rfl⟩
    · cases h
  · rintro ⟨h1, h2⟩
    refine ⟨m.s, List.mem_finRange _, ?_⟩
    rw [if_pos h1, ← h2]
theorem los_rise (d : Dk) : (losOf d).Pairwise (fun x y => x.s.val < y.s.val) := by
  unfold losOf
  rw [List.pairwise_filterMap]
  refine (List.pairwise_lt_finRange 4096).imp (fun {a b} hab x hx y hy => ?_)
  split at hx
  · cases hx
    split at hy
    · cases hy; exact hab
    · cases hy
  · cases hx
theorem los_nodup (d : Dk) : ((losOf d).map (·.s)).Nodup := by
  rw [List.Nodup, List.pairwise_map]
  exact (los_rise d).imp (fun {a b} h e => by rw [e] at h; exact Nat.lt_irrefl _ h)
theorem los_same (d : Dk) {ms : List Lo} (hp : ms.Perm (losOf d)) (h1 : ms.Pairwise (fun x y => ¬ y.s.val < x.s.val)) : ms = losOf d :=
  List.Perm.eq_of_pairwise (le := fun x y : Lo => ¬ y.s.val < x.s.val) (fun a b ha hb hab hba => by
    have h2 : a.s = b.s := Fin.ext (by omega)
    have h3 := (mem_los d a).1 (hp.mem_iff.1 ha)
    have h4 := (mem_los d b).1 hb
    obtain ⟨a1, a2⟩ := a
    obtain ⟨b1, b2⟩ := b
    simp only at h2 h3 h4
    subst h2
    rw [h3.2, h4.2]) h1 ((los_rise d).imp (fun {x y} h => by omega)) hp
theorem los_len (d : Dk) : (losOf d).length ≤ 4096 := by
  unfold losOf
  exact Nat.le_trans (List.length_filterMap_le _ _) (by simp)

def LoosePost (w : World) (l : List Lo) (e : Ending) (w' : World) : Prop :=
  ∃ v, e = .returned v ∧ w'.ownsRow w.heap.size 48 2 v l.length (l.flatMap Lo.cells) ∧ Fr (fun _ => False) w w'

theorem sorted_own {w w' : World} {B n g c : Nat} {l : List Lo} {d' : Array Lo} (h : w.ownsRow B 48 2 (.slice (some ⟨g, 0, none⟩) n c) l.length (l.flatMap Lo.cells)) (hd : d'.size = l.length) (hH : Go.Sort.HoldsK Lo.cells 2 w' g 0 d')
    (hb : ∀ cs t, w.heap[g]? = some (.cells cs t (0, 0)) → ∃ cs' : Array Value, w'.heap[g]? = some (.cells cs' t (0, 0)) ∧ cs'.size = cs.size) : w'.ownsRow B 48 2 (.slice (some ⟨g, 0, none⟩) n c) d'.toList.length (d'.toList.flatMap Lo.cells) := by
  rcases h.2 with ⟨hv, _⟩ | ⟨g2, c2, cur, hv, hB, hh, hc1, hc2, hc3, _⟩
  · cases hv
  · have hv' := hv
    simp only [Value.slice.injEq, Option.some.injEq, Addr.mk.injEq, and_true, true_and] at hv'
    obtain ⟨rfl, rfl, rfl⟩ := hv'
    obtain ⟨cs', hb', hs'⟩ := hb _ _ hh
    have hl : d'.toList.length = l.length := by simpa using hd
    have hfl : (d'.toList.flatMap Lo.cells).length = l.length * 2 := by rw [flat_length (f := Lo.cells) (s := 2) (fun _ => rfl), hl]
    refine ⟨by rw [hfl, hl], .inr ⟨g, c, cs', by rw [hl], hB, hb', by rw [hl]; exact hc1, hc2, by rw [hs', hc3], ?_⟩⟩
    rw [hl]
    apply List.ext_getElem?
    intro j
    by_cases hj : j < l.length * 2
    · rw [List.getElem?_take_of_lt hj]
      have hjd : j / 2 < l.length := by omega
      have hjm : j % 2 < 2 := Nat.mod_lt _ (by omega)
      have hjs : j / 2 < d'.size := by omega
      have h1 := (hH.cell hjs hjm).1
      have e0 : 0 + j / 2 * 2 + j % 2 = j := by omega
      rw [e0, blk_cell hb'] at h1
      rw [Array.getElem?_toList, h1]
      obtain ⟨m, hm⟩ : ∃ m, d'.toList[j / 2]? = some m := ⟨_, List.getElem?_eq_getElem (by rw [hl]; exact hjd)⟩
      have em : d'[j / 2]! = m := by
        rw [getElem!_pos d' (j / 2) hjs]
        rw [Array.getElem?_toList, Array.getElem?_eq_getElem hjs] at hm
        exact Option.some.inj hm
      have hu : m.cells[j % 2]? = some (m.cells[j % 2]!) := by
        rw [getElem!_def]
        cases hc : m.cells[j % 2]? with
        | none => have := List.getElem?_eq_none_iff.1 hc; simp [Lo.cells] at this; omega
        | some u => rfl
      have h2 := flat_at (f := Lo.cells) (s := 2) (fun _ => rfl) d'.toList (j / 2) (j % 2) m _ hm hu
      rw [show j / 2 * 2 + j % 2 = j by omega] at h2
      rw [em, h2]
    · rw [List.getElem?_eq_none (by rw [List.length_take]; omega), List.getElem?_eq_none (by rw [hfl]; omega)]
end Go.Proofs.Ytdamegjhdopfaaa
