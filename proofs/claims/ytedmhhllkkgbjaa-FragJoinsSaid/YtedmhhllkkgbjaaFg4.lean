/- Rows of rows of bytes of the call's own, laid in a variable: how they are grown. -/
import Derived.Test.YtedmhhllkkgbjaaFg3
namespace Go.Proofs.Ytedmhhllkkgbjaa
open Go.RowKit
set_option linter.unusedVariables false

abbrev bytes (x : List Int) : List Value := x.map (Value.int .u8)
/-- the cells of a row of rows, and the rows -/
def RowsOwn (B : Nat) (w : World) (vs : List Value) (xs : List (List Int)) : Prop :=
  vs.length = xs.length ∧ ∀ (i : Nat) (x : List Int) (u : Value), xs[i]? = some x → vs[i]? = some u → w.ownsRow B 5 1 u x.length (bytes x)
def Distinct (vs : List Value) : Prop := ∀ (i j : Nat) (u u' : Value) (k : Nat), i ≠ j → vs[i]? = some u → vs[j]? = some u' → u.ownBlock = some k → u'.ownBlock ≠ some k
structure OW (B : Nat) (w : World) (g : Nat) (v : Value) (vs : List Value) (xs : List (List Int)) : Prop where
  cell : w.heap[g]? = some (.cells #[v] 47 (0, 0))
  row : w.ownsRow B 27 1 v xs.length vs
  rows : RowsOwn B w vs xs
  dist : Distinct vs
def OutAt (B : Nat) (w : World) (g : Nat) (xs : List (List Int)) : Prop := ∃ v vs, OW B w g v vs xs

theorem own_typed' {w : World} {base n m c : Nat} {e : TypeId} {size g : Nat} {xs : List Value} (h : w.ownsRow base e size (.slice (some ⟨g, 0, none⟩) m c) n xs) : ∃ cs, w.heap[g]? = some (.cells cs e (0, 0)) := by
  rcases h.2 with ⟨hv, _⟩ | ⟨g', cap, cur, hv, _, hh, _⟩
  · cases hv
  · simp only [Value.slice.injEq, Option.some.injEq, Addr.mk.injEq] at hv
    rw [hv.1.1]
    exact ⟨cur, hh⟩
theorem own_typed_blk {w : World} {base n : Nat} {e : TypeId} {size k : Nat} {v : Value} {xs : List Value} (h : w.ownsRow base e size v n xs) (hk : v.ownBlock = some k) : ∃ cs, w.heap[k]? = some (.cells cs e (0, 0)) := by
  rcases h.2 with ⟨rfl, _⟩ | ⟨g, cap, cur, rfl, hg, hh, r⟩
  · simp [Value.ownBlock] at hk
  · have : g = k := by simpa [Value.ownBlock] using hk
    subst this
    exact ⟨cur, hh⟩

theorem bytes_one (u : List Int) : ∀ x ∈ bytes u, x.oneCell' = true := by
  intro x hx
  simp only [bytes, List.mem_map] at hx
  obtain ⟨y, _, rfl⟩ := hx
  rfl
theorem bytes_len (u : List Int) : (bytes u).length = u.length := List.length_map ..
theorem bytes_app (u v : List Int) : bytes (u ++ v) = bytes u ++ bytes v := List.map_append ..

/-- append of a block's bytes onto a row of bytes, as one step of a region that draws -/
theorem app_u8 {ops : Array Oper} {o : Oper} {a : Act} {w : World} {K : Act → World → Prop} {Q : Exit → Act → World → Prop} {E : Prop}
    (hg : o.guard = none) (s x : Operand) (hop : o.op = Op.call { callee := Callee.builtin Builtin.append, args := #[s, x], argTypes := #[27, 27] })
    (B : Nat) (v : Value) (n : Nat) (xs : List Value) (hs : a.eval s = v) (hown : w.ownsRow B 5 1 v n xs) (gb m c : Nat) (cs : List Value) (hx : a.eval x = .slice (some ⟨gb, 0, none⟩) m c) (hb : w.heap[gb]? = some (.cells cs.toArray 5 (0, 0)))
    (hm : cs.length = m) (h1 : ∀ u ∈ cs, u.oneCell' = true) (hlen : n + m ≤ 1000000000) (hbase : B ≤ w.heap.size)
    (h : ∀ v' w', w'.ownsRow B 5 1 v' (n + m) (xs ++ cs) → w.grownBy w' v.ownBlock → (v'.ownBlock = v.ownBlock ∨ v'.ownBlock = some w.heap.size) → K (a.put o.dst v') w') :
    if Region.wanted o (yielded ops a.tmps) = true then Oper.wp Try.prog o a w K Q else E :=
  step_app hg s x 27 hop B 5 _ 1 1 Try.underlying27 Try.info5 rfl (by decide) v n xs hs hown ⟨gb, 0, none⟩ m c cs hx (by omega) (news_of hb) h1 (by simp only [maxLen]; omega) (by omega) hbase h

/-- the same of whatever is read -/
theorem app_u8x {ops : Array Oper} {o : Oper} {a : Act} {w : World} {K : Act → World → Prop} {Q : Exit → Act → World → Prop} {E : Prop}
    (hg : o.guard = none) (s x : Operand) (hop : o.op = Op.call { callee := Callee.builtin Builtin.append, args := #[s, x], argTypes := #[27, 27] })
    (B : Nat) (v : Value) (n : Nat) (xs : List Value) (hs : a.eval s = v) (hown : w.ownsRow B 5 1 v n xs) (ao : Option Addr) (m c : Nat) (cs : List Int) (hx : a.eval x = .slice ao m c) (hb : ∀ ad, ao = some ad → ∀ j u, (bytes cs)[j]? = some u → w.cell? (ad.add j) = some u) (hno : ao = none → m = 0)
    (hm : cs.length = m) (hlen : n + m ≤ 1000000000) (hbase : B ≤ w.heap.size)
    (h : ∀ v' w', w'.ownsRow B 5 1 v' (n + m) (xs ++ bytes cs) → w.grownBy w' v.ownBlock → (v'.ownBlock = v.ownBlock ∨ v'.ownBlock = some w.heap.size) → K (a.put o.dst v') w') :
    if Region.wanted o (yielded ops a.tmps) = true then Oper.wp Try.prog o a w K Q else E :=
  step_appx hg s x 27 hop B 5 _ 1 1 Try.underlying27 Try.info5 rfl (by decide) v n xs hs hown ao m c (bytes cs) hx (by rw [bytes_len]; omega) hb hno (bytes_one cs) (by simp only [maxLen]; omega) (by omega) hbase h

theorem set_far {w : World} {g i b : Nat} {v u : Value} (hc : w.cell? ⟨g, i, none⟩ = some v) (hne : g ≠ b) (j : Nat) : (w.setCell ⟨b, j, none⟩ u).cell? ⟨g, i, none⟩ = some v :=
  ((Fr.refl (fun k => k = b) w).setCell (p := ⟨b, j, none⟩) (.inr rfl) u).cell hc hne
theorem grown_cell {w w' : World} {row : Option Nat} (hg : w.grownBy w' row) {g i : Nat} {v : Value} (hc : w.cell? ⟨g, i, none⟩ = some v) (hne : some g ≠ row) : w'.cell? ⟨g, i, none⟩ = some v :=
  (((Fr.refl (fun k => some k = row) w).grown hg (fun _ hk => .inr hk.symm)).cell hc hne)

/-- the last cell of a row of one's own is stored into -/
theorem own_setlast {w : World} {B n g c : Nat} {e : TypeId} {vs : List Value} {u : Value} (h : w.ownsRow B e 1 (.slice (some ⟨g, 0, none⟩) n c) n (vs ++ [u])) (u2 : Value) :
    (w.setCell ⟨g, vs.length, none⟩ u2).ownsRow B e 1 (.slice (some ⟨g, 0, none⟩) n c) n (vs ++ [u2]) := by
  obtain ⟨h1, ⟨h2, _⟩ | ⟨g2, c2, cur, hv, hg, hh, hc, hm, hs, ht⟩⟩ := h
  · cases h2
  · simp only [Value.slice.injEq, Option.some.injEq, Addr.mk.injEq, and_true, true_and] at hv
    obtain ⟨rfl, rfl⟩ := hv
    have hl : vs.length + 1 = n := by simpa using h1
    refine ⟨by simpa using h1, .inr ⟨g, c, cur.setIfInBounds vs.length u2, rfl, hg, blk_set hh _ _, hc, hm, by simpa using hs, ?_⟩⟩
    rw [Array.toList_setIfInBounds, List.take_set, ht, List.set_append_right _ _ (Nat.le_refl _)]
    simp

theorem OW.ne {B : Nat} {w : World} {g gv n c : Nat} {vs : List Value} {xs : List (List Int)} (h : OW B w g (.slice (some ⟨gv, 0, none⟩) n c) vs xs) : g ≠ gv := by
  intro e
  subst e
  obtain ⟨cs, hc⟩ := own_typed' h.row
  have := h.cell.symm.trans hc
  cases this

theorem OW.split {B : Nat} {w : World} {g : Nat} {v : Value} {vs : List Value} {front : List (List Int)} {last : List Int} (h : OW B w g v vs (front ++ [last])) :
    ∃ gv c vs' u, v = .slice (some ⟨gv, 0, none⟩) (front.length + 1) c ∧ vs = vs' ++ [u] ∧ vs'.length = front.length ∧ w.ownsRow B 5 1 u last.length (bytes last) := by
  have hl : vs.length = front.length + 1 := by have := h.rows.1; simpa using this
  obtain ⟨vs', u, rfl⟩ : ∃ vs' u, vs = vs' ++ [u] := ⟨vs.dropLast, vs.getLast (by intro e; rw [e] at hl; simp at hl), (List.dropLast_concat_getLast _).symm⟩
  have hl' : vs'.length = front.length := by simpa using hl
  have hu := h.rows.2 front.length last u (by simp) (by rw [← hl']; simp)
  rcases h.row.2 with ⟨_, h0⟩ | ⟨g2, c2, cur, hv, _⟩
  · simp at h0
  · exact ⟨g2, c2, vs', u, by simpa using hv, rfl, hl', hu⟩

/-- the last row has grown: it is stored anew -/
theorem OW.turn {B : Nat} {w w2 : World} {g gv n c : Nat} {vs : List Value} {u u2 : Value} {front : List (List Int)} {last last2 : List Int}
    (h : OW B w g (.slice (some ⟨gv, 0, none⟩) n c) (vs ++ [u]) (front ++ [last])) (hF : Fr (fun k => some k = u.ownBlock) w w2) (h2 : w2.ownsRow B 5 1 u2 last2.length (bytes last2))
    (hm : u2.ownBlock = u.ownBlock ∨ ∃ b, u2.ownBlock = some b ∧ w.heap.size ≤ b) :
    OW B (w2.setCell ⟨gv, vs.length, none⟩ u2) g (.slice (some ⟨gv, 0, none⟩) n c) (vs ++ [u2]) (front ++ [last2]) := by
  have hgv := h.ne
  have hl : vs.length = front.length := by have := h.rows.1; simpa using this
  have hu := h.rows.2 front.length last u (by simp) (by rw [← hl]; simp)
  obtain ⟨bv, hbv⟩ := own_typed' h.row
  have h1 := own_ne hu h.cell (by decide)
  have h3 := own_ne hu hbv (by decide)
  have hrow2 : w2.ownsRow B 27 1 (.slice (some ⟨gv, 0, none⟩) n c) (front ++ [last2]).length (vs ++ [u]) := by
    have := hF.own h.row (fun k hk => by obtain rfl : gv = k := by simpa [Value.ownBlock] using hk
                                         exact h3)
    simpa using this
  have hsl : n = (front ++ [last2]).length := by
    obtain ⟨A, c', hv⟩ := own_slice hrow2
    simp only [Value.slice.injEq] at hv
    exact hv.2.1
  have hbv2 : w2.heap[gv]? = some (.cells bv 27 (0, 0)) := hF.blk hbv h3
  have hne2 := own_ne h2 hbv2 (by decide)
  refine ⟨blk_far (hF.blk h.cell h1) hgv _, ?_, ⟨by simp [hl], ?_⟩, ?_⟩
  · subst hsl
    exact own_setlast hrow2 u2
  · intro i x y hx hy
    by_cases hi : i < front.length
    · rw [List.getElem?_append_left hi] at hx
      rw [List.getElem?_append_left (by omega)] at hy
      have ho := h.rows.2 i x y (by rw [List.getElem?_append_left hi]; exact hx) (by rw [List.getElem?_append_left (by omega)]; exact hy)
      refine own_setCell (hF.own ho (fun k hk hs => ?_)) (fun e => ?_) _
      · exact h.dist i vs.length y u k (by omega) (by rw [List.getElem?_append_left (by omega)]; exact hy) (by simp) hk hs.symm
      · exact own_ne ho hbv (by decide) e
    · have : i = front.length := by
        have := (List.getElem?_eq_some_iff.1 hx).1
        simp at this
        omega
      subst this
      obtain rfl : last2 = x := by simpa using hx
      obtain rfl : u2 = y := by rw [← hl] at hy; simpa using hy
      exact own_setCell h2 hne2 _
  · intro i j a b k hij ha hb hk
    have hlt : ∀ i a, (vs ++ [u2])[i]? = some a → i ≤ vs.length := fun i a ha => by
      have := (List.getElem?_eq_some_iff.1 ha).1
      simp at this
      omega
    have key : ∀ i a k, i < vs.length → vs[i]? = some a → a.ownBlock = some k → u2.ownBlock ≠ some k := by
      intro i a k hi ha hk he
      rcases hm with hm | ⟨q, hq, hq2⟩
      · exact h.dist i vs.length a u k (by omega) (by rw [List.getElem?_append_left hi]; exact ha) (by simp) hk (hm ▸ he)
      · have ho := h.rows.2 i _ a (by rw [List.getElem?_append_left (by omega)]; exact List.getElem?_eq_getElem (by omega)) (by rw [List.getElem?_append_left hi]; exact ha)
        have := own_lt ho k hk
        rw [hq] at he
        have := Option.some.inj he
        omega
    by_cases hi : i < vs.length
    · rw [List.getElem?_append_left hi] at ha
      by_cases hj : j < vs.length
      · rw [List.getElem?_append_left hj] at hb
        exact h.dist i j a b k hij (by rw [List.getElem?_append_left hi]; exact ha) (by rw [List.getElem?_append_left hj]; exact hb) hk
      · have : j = vs.length := by have := hlt j b hb; omega
        subst this
        obtain rfl : u2 = b := by simpa using hb
        exact key i a k hi ha hk
    · have : i = vs.length := by have := hlt i a ha; omega
      subst this
      have hj : j < vs.length := by have := hlt j b hb; omega
      rw [List.getElem?_append_left hj] at hb
      obtain rfl : u2 = a := by simpa using ha
      intro he
      exact key j b k hj hb he hk

/-- a nil row is put behind them -/
theorem OW.push {B : Nat} {w w2 : World} {g : Nat} {v v2 : Value} {vs : List Value} {xs : List (List Int)}
    (h : OW B w g v vs xs) (hF : Fr (fun k => some k = v.ownBlock) w w2) (h2 : w2.ownsRow B 27 1 v2 (xs.length + 1) (vs ++ [.slice none 0 0])) (hB : ∀ k, v2.ownBlock = some k → k ≠ g) :
    OW B (w2.setCell ⟨g, 0, none⟩ v2) g v2 (vs ++ [.slice none 0 0]) (xs ++ [[]]) := by
  have hl := h.rows.1
  have h1 := own_ne h.row h.cell (by decide)
  have hc := blk_set (hF.blk h.cell h1) 0 v2
  refine ⟨by simpa using hc, ?_, ⟨by simp [hl], ?_⟩, ?_⟩
  · rw [List.length_append, List.length_singleton]
    exact own_setCell h2 (fun e => hB g e.symm rfl) _
  · intro i x y hx hy
    by_cases hi : i < xs.length
    · rw [List.getElem?_append_left hi] at hx
      rw [List.getElem?_append_left (by omega)] at hy
      have ho := h.rows.2 i x y hx hy
      refine own_setCell (hF.own ho (fun k hk hs => ?_)) (fun e => ?_) _
      · obtain ⟨cs, hcs⟩ := own_typed_blk h.row hs.symm
        exact own_ne ho hcs (by decide) hk.symm
      · exact own_ne ho h.cell (by decide) e
    · have : i = xs.length := by
        have := (List.getElem?_eq_some_iff.1 hx).1
        simp at this
        omega
      subst this
      obtain rfl : [] = x := by simpa using hx
      obtain rfl : Value.slice none 0 0 = y := by rw [← hl] at hy; simpa using hy
      exact ⟨by simp, .inl ⟨rfl, rfl⟩⟩
  · intro i j a b k hij ha hb hk
    have hlt : ∀ i a, (vs ++ [Value.slice none 0 0])[i]? = some a → i ≤ vs.length := fun i a ha => by
      have := (List.getElem?_eq_some_iff.1 ha).1
      simp at this
      omega
    by_cases hi : i < vs.length
    · rw [List.getElem?_append_left hi] at ha
      by_cases hj : j < vs.length
      · rw [List.getElem?_append_left hj] at hb
        exact h.dist i j a b k hij ha hb hk
      · have : j = vs.length := by have := hlt j b hb; omega
        subst this
        obtain rfl : Value.slice none 0 0 = b := by simpa using hb
        simp [Value.ownBlock]
    · have : i = vs.length := by have := hlt i a ha; omega
      subst this
      obtain rfl : Value.slice none 0 0 = a := by simpa using ha
      simp [Value.ownBlock] at hk

end Go.Proofs.Ytedmhhllkkgbjaa
