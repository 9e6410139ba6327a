/- What is read, apart from some blocks; a scope of several labels; a payload in plain words. -/
import Derived.Test.YtedmhhllkkgbjaaFg8
import Derived.Deep.RegionLawGrows
import Derived.WalkMore
namespace Go.Proofs.Ytedmhhllkkgbjaa
open Go.RowKit

/-- bytes that are read, in no block of S -/
structure ReadBN (S : Nat → Prop) (w : World) (A : Option Addr) (c : Nat) (x : List Int) : Prop where
  read : ReadB w A c x
  far : ∀ g o s, A = some ⟨g, o, s⟩ → x ≠ [] → ¬ S g
def ReadRN (S : Nat → Prop) (w : World) (A : Option Addr) (xs : List (List Int)) : Prop :=
  ∀ (i : Nat) (x : List Int), xs[i]? = some x → ∃ g o PA pc, A = some ⟨g, o, none⟩ ∧ ¬ S g ∧ w.cell? ⟨g, o + i, none⟩ = some (.slice PA x.length pc) ∧ ReadBN S w PA pc x

theorem ReadBN.fr {S : Nat → Prop} {w w' : World} {A : Option Addr} {c : Nat} {x : List Int} (h : ReadBN S w A c x) (hF : Fr S w w') : ReadBN S w' A c x :=
  ⟨⟨h.read.cap, fun g o s e => ⟨(h.read.cells g o s e).1, fun j b hj => hF.cell ((h.read.cells g o s e).2 j b hj) (h.far g o s e (fun e => by rw [e] at hj; simp at hj))⟩, h.read.empty⟩, h.far⟩
theorem ReadRN.fr {S : Nat → Prop} {w w' : World} {A : Option Addr} {xs : List (List Int)} (h : ReadRN S w A xs) (hF : Fr S w w') : ReadRN S w' A xs := by
  intro i x hx
  obtain ⟨g, o, PA, pc, e, hg, hc, hr⟩ := h i x hx
  exact ⟨g, o, PA, pc, e, hg, hF.cell hc hg, hr.fr hF⟩
theorem ReadB.far {S : Nat → Prop} {w : World} {A : Option Addr} {c : Nat} {x : List Int} (h : ReadB w A c x) (hS : ∀ k, S k → w.heap.size ≤ k) : ReadBN S w A c x := by
  refine ⟨h, fun g o s e hx hs => ?_⟩
  obtain ⟨b, l, rfl⟩ := List.exists_cons_of_ne_nil hx
  have := cell_lt ((h.cells g o s e).2 0 b rfl)
  have := hS g hs
  simp at *
  omega
theorem ReadR.far {S : Nat → Prop} {w : World} {A : Option Addr} {xs : List (List Int)} (h : ReadR w A xs) (hS : ∀ k, S k → w.heap.size ≤ k) : ReadRN S w A xs := by
  intro i x hx
  obtain ⟨g, o, PA, pc, e, hc, hr⟩ := h i x hx
  exact ⟨g, o, PA, pc, e, fun hs => by have := cell_lt hc; have := hS g hs; simp at *; omega, hc, hr.far hS⟩
theorem ReadRN.near {S : Nat → Prop} {w : World} {A : Option Addr} {xs : List (List Int)} (h : ReadRN S w A xs) : ReadR w A xs := by
  intro i x hx
  obtain ⟨g, o, PA, pc, e, _, hc, hr⟩ := h i x hx
  exact ⟨g, o, PA, pc, e, hc, hr.read⟩
theorem ReadRN.nil (S : Nat → Prop) (w : World) (A : Option Addr) : ReadRN S w A [] := fun i x hx => by simp at hx
theorem readBN_own {S : Nat → Prop} {w : World} {B n : Nat} {A : Option Addr} {c : Nat} {x : List Int} (h : w.ownsRow B 5 1 (.slice A n c) x.length (bytes x)) (hS : ∀ k, S k → k < B) : ReadBN S w A c x := by
  refine ⟨readB_own h, fun g o s e hx hs => ?_⟩
  have := hS g hs
  have := (h.lt g (by rw [e]; rfl)).1
  omega
theorem ReadBN.nil (S : Nat → Prop) (w : World) : ReadBN S w none 0 [] := ⟨⟨Nat.le_refl _, fun g o s e => (by cases e), fun _ => rfl⟩, fun g o s e => (by cases e)⟩

/-- the cells of a row of rows -/
theorem ReadRN.olds {S : Nat → Prop} {w : World} {g : Nat} : ∀ (xs : List (List Int)) (o : Nat), ReadRN S w (some ⟨g, o, none⟩) xs → ∃ olds : List Value, olds.length = xs.length ∧ (∀ (j : Nat) (u : Value), olds[j]? = some u → w.cell? ((⟨g, o, none⟩ : Addr).add j) = some u) ∧
    (∀ (i : Nat) (x : List Int), xs[i]? = some x → ∃ PA pc, olds[i]? = some (Value.slice PA x.length pc) ∧ ReadBN S w PA pc x)
  | [], o, _ => ⟨[], rfl, fun j u h => by simp at h, fun i x h => by simp at h⟩
  | x :: xs, o, h => by
    obtain ⟨g', o', PA, pc, e, hg, hc, hr⟩ := h 0 x rfl
    simp only [Option.some.injEq, Addr.mk.injEq] at e
    obtain ⟨rfl, rfl, _⟩ := e
    have h2 : ReadRN S w (some ⟨g, o + 1, none⟩) xs := by
      intro i y hy
      obtain ⟨g', o', PA, pc, e, hg, hc, hr⟩ := h (i + 1) y (by simpa using hy)
      simp only [Option.some.injEq, Addr.mk.injEq] at e
      obtain ⟨rfl, rfl, _⟩ := e
      exact ⟨g, o + 1, PA, pc, rfl, hg, by rw [Nat.add_assoc, Nat.add_comm 1 i]; exact hc, hr⟩
    obtain ⟨olds, h3, h4, h5⟩ := ReadRN.olds xs (o + 1) h2
    refine ⟨.slice PA x.length pc :: olds, by simp [h3], fun j u hu => ?_, fun i y hy => ?_⟩
    · cases j with
      | zero =>
        obtain rfl : Value.slice PA x.length pc = u := by simpa using hu
        rw [add_some]; exact hc
      | succ j =>
        have := h4 j u (by simpa using hu)
        rw [add_some] at this ⊢
        rw [Nat.add_assoc, Nat.add_comm 1 j] at this
        exact this
    · cases i with
      | zero =>
        obtain rfl : x = y := by simpa using hy
        exact ⟨PA, pc, rfl, hr⟩
      | succ i => exact h5 i y (by simpa using hy)
theorem ReadRN.olds' {S : Nat → Prop} {w : World} {A : Option Addr} {xs : List (List Int)} (h : ReadRN S w A xs) : ∃ olds : List Value, olds.length = xs.length ∧ (∀ b, A = some b → ∀ (j : Nat) (u : Value), olds[j]? = some u → w.cell? (b.add j) = some u) ∧
    (∀ (i : Nat) (x : List Int), xs[i]? = some x → ∃ PA pc, olds[i]? = some (Value.slice PA x.length pc) ∧ ReadBN S w PA pc x) := by
  cases xs with
  | nil => exact ⟨[], rfl, fun b _ j u h => by simp at h, fun i x h => by simp at h⟩
  | cons x xs =>
    obtain ⟨g, o, _, _, rfl, _⟩ := h 0 x rfl
    obtain ⟨olds, h1, h2, h3⟩ := ReadRN.olds (x :: xs) o h
    refine ⟨olds, h1, fun b e => ?_, h3⟩
    obtain rfl := Option.some.inj e
    exact h2
/-- .. and the new row of them and one more -/
theorem readRN_snoc {S : Nat → Prop} {w w' : World} {B n c : Nat} {A : Option Addr} {xs : List (List Int)} {x : List Int} {olds : List Value} {XA : Option Addr} {xc : Nat}
    (h : w'.ownsRow B 27 1 (.slice A n c) (xs.length + 1) (olds ++ [.slice XA x.length xc])) (hl : olds.length = xs.length) (hS : ∀ k, S k → k < B) (hF : Fr S w w')
    (ho : ∀ (i : Nat) (x : List Int), xs[i]? = some x → ∃ PA pc, olds[i]? = some (Value.slice PA x.length pc) ∧ ReadBN S w PA pc x) (hx : ReadBN S w XA xc x) : ReadRN S w' A (xs ++ [x]) := by
  intro i y hy
  have key : ∃ PA pc, (olds ++ [Value.slice XA x.length xc])[i]? = some (.slice PA y.length pc) ∧ ReadBN S w PA pc y := by
    by_cases hi : i < xs.length
    · rw [List.getElem?_append_left hi] at hy
      rw [List.getElem?_append_left (by omega)]
      exact ho i y hy
    · have : i = xs.length := by
        have := (List.getElem?_eq_some_iff.1 hy).1
        simp at this
        omega
      subst this
      obtain rfl : x = y := by simpa using hy
      exact ⟨XA, xc, by rw [← hl]; simp, hx⟩
  obtain ⟨PA, pc, h1, h2⟩ := key
  rcases h.2 with ⟨_, h0⟩ | ⟨g2, c2, cur, hv, hg2, _⟩
  · omega
  · simp only [Value.slice.injEq] at hv
    obtain ⟨rfl, rfl, rfl⟩ := hv
    have hcell := (own_news h).1 _ rfl i _ h1
    rw [add_some] at hcell
    exact ⟨g2, 0, PA, pc, rfl, fun hs => by have := hS g2 hs; omega, hcell, h2.fr hF⟩

/-- as Q; by a goto: J of its label -/
def Exit.jumps (J : Nat → Act → World → Prop) (Q : Exit → Act → World → Prop) : Exit → Act → World → Prop
  | .goto l, a, w => J l a w
  | e, a, w => Q e a w

section
variable {P : Program} {a : Act} {w : World} {Q : Exit → Act → World → Prop}
theorem wp_scope_many {c : Code} (J : Nat → Act → World → Prop) (μ : Nat → Act → World → Nat)
    (first : c.wp P (Exit.jumps J Q) a w)
    (pass : ∀ l a w, J l a w → ∃ rest, findLabel c l = some rest ∧ rest.wp P (Exit.jumps (fun l' a' w' => J l' a' w' ∧ μ l' a' w' < μ l a w) Q) a w) : (Code.scope c).wp P Q a w := by
  intro b k cs
  have key : ∀ n l a w, μ l a w = n → J l a w → ∃ rest e a' w', gotoIn l (.inScope c :: k) = some (.code rest :: .inScope c :: k) ∧ Q e a' w' ∧ Arrives P (lone (b.at a (.code rest :: .inScope c :: k)) cs w) b k cs e a' w' := by
    intro n
    induction n using Nat.strongRecOn with
    | _ n ih =>
      intro l a w hn hJ
      obtain ⟨rest, hf, hpass⟩ := pass l a w hJ
      have hg : gotoIn l (.inScope c :: k) = some (.code rest :: .inScope c :: k) := by simp [gotoIn, hf]
      obtain ⟨e, a₁, w₁, hq, harr⟩ := hpass b (.inScope c :: k) cs
      cases e with
      | normal => exact ⟨rest, .normal, a₁, w₁, hg, hq, Steps.trans harr (.one step_inScope)⟩
      | exit id => exact ⟨rest, .exit id, a₁, w₁, hg, hq, fun k' hk => harr k' (by simp [exitTo, hk])⟩
      | goto l' =>
        obtain ⟨hJ', hlt⟩ := hq
        obtain ⟨rest₂, e₂, a₂, w₂, hg₂, hq₂, harr₂⟩ := ih _ (by omega) l' a₁ w₁ rfl hJ'
        exact ⟨rest, e₂, a₂, w₂, hg, hq₂, .of_steps (harr _ hg₂) harr₂⟩
      | ret => exact ⟨rest, _, a₁, w₁, hg, hq, harr⟩
      | panic ch => exact ⟨rest, _, a₁, w₁, hg, hq, harr⟩
      | outgrown => exact ⟨rest, _, a₁, w₁, hg, hq, harr⟩
  obtain ⟨e, a₁, w₁, hq, harr⟩ := first b (.inScope c :: k) cs
  cases e with
  | normal => exact ⟨.normal, a₁, w₁, hq, .head step_scope (Steps.trans harr (.one step_inScope))⟩
  | exit id => exact ⟨.exit id, a₁, w₁, hq, fun k' hk => .head step_scope (harr k' (by simp [exitTo, hk]))⟩
  | goto l' =>
    obtain ⟨rest₂, e₂, a₂, w₂, hg₂, hq₂, harr₂⟩ := key _ l' a₁ w₁ rfl hq
    exact ⟨e₂, a₂, w₂, hq₂, .of_steps (.head step_scope (harr _ hg₂)) harr₂⟩
  | ret => exact ⟨_, a₁, w₁, hq, .of_steps (.one step_scope) harr⟩
  | panic ch => exact ⟨_, a₁, w₁, hq, .of_steps (.one step_scope) harr⟩
  | outgrown => exact ⟨_, a₁, w₁, hq, .of_steps (.one step_scope) harr⟩
theorem wp_fall {c rest0 : Code} {J : Nat → Act → World → Prop} {μ : Nat → Act → World → Nat} (hp : ∀ l a w, J l a w → ∃ rest, findLabel c l = some (.seq .skip rest) ∧ rest.wp P (Exit.jumps (fun l' a' w' => J l' a' w' ∧ μ l' a' w' < μ l a w) Q) a w) (l : Nat) (hf : findLabel c l = some (.seq .skip rest0)) (hJ : J l a w) :
    rest0.wp P (Exit.jumps J Q) a w := by
  obtain ⟨rest, hf', hw⟩ := hp l a w hJ
  have he := Option.some.inj (hf.symm.trans hf')
  injection he with _ he
  subst he
  intro b k cs
  obtain ⟨e, a₁, w₁, hq, harr⟩ := hw b k cs
  refine ⟨e, a₁, w₁, ?_, harr⟩
  cases e with
  | goto l' => exact hq.1
  | _ => exact hq
theorem wp_scope_enter {c : Code} (J : Nat → Act → World → Prop) (μ : Nat → Act → World → Nat)
    (pass : ∀ l a w, J l a w → ∃ rest, findLabel c l = some (.seq .skip rest) ∧ rest.wp P (Exit.jumps (fun l' a' w' => J l' a' w' ∧ μ l' a' w' < μ l a w) Q) a w)
    (first : (∀ l a w, J l a w → ∃ rest, findLabel c l = some (.seq .skip rest) ∧ rest.wp P (Exit.jumps (fun l' a' w' => J l' a' w' ∧ μ l' a' w' < μ l a w) Q) a w) → c.wp P (Exit.jumps J Q) a w) : (Code.scope c).wp P Q a w :=
  wp_scope_many J μ (first pass) (fun l a w hJ => by
    obtain ⟨rest, hf, hw⟩ := pass l a w hJ
    exact ⟨_, hf, wp_seq (wp_skip hw)⟩)
@[go_sem] theorem Exit.jumps_normal {J : Nat → Act → World → Prop} : Exit.jumps J Q .normal a w = Q .normal a w := rfl
@[go_sem] theorem Exit.jumps_ret {J : Nat → Act → World → Prop} : Exit.jumps J Q .ret a w = Q .ret a w := rfl
@[go_sem] theorem Exit.jumps_exit {J : Nat → Act → World → Prop} (id : Nat) : Exit.jumps J Q (.exit id) a w = Q (.exit id) a w := rfl
end

/-- what was put together so far -/
structure J where
  recs : List (List Int)
  opn : List Int
  begun : Bool
/-- a fragment: none: it counts for nothing -/
def jstep (j : J) (k : Int) (b : List Int) : Option J :=
  if k = 1 then some ⟨j.recs ++ [b], [], false⟩
  else if k = 2 then some ⟨j.recs, b, true⟩
  else if k = 3 ∨ k = 4 then
    if j.begun = false ∨ 8192 < j.opn.length + b.length then none
    else if k = 4 then some ⟨j.recs ++ [j.opn ++ b], [], false⟩ else some ⟨j.recs, j.opn ++ b, true⟩
  else none
def jrun : Nat → J → List Int → Option J
  | 0, j, _ => some j
  | _ + 1, j, [] => some j
  | _ + 1, _, [_] => none
  | f + 1, j, k :: n :: p => if 106 < n ∨ p.length < n.toNat then none else (jstep j k (p.take n.toNat)).bind (fun j' => jrun f j' (p.drop n.toNat))
def jpay (j : J) (p : List Int) : Option J := if 108 < p.length then none else jrun p.length j p
theorem jrun_fuel : ∀ (f : Nat) (j : J) (p : List Int), p.length ≤ f → jrun f j p = jrun p.length j p := by
  intro f
  induction f using Nat.strongRecOn with
  | _ f ih =>
    intro j p hp
    match f, p, hp with
    | 0, [], _ => rfl
    | f + 1, [], _ => rfl
    | f + 1, [_], _ => rfl
    | f + 1, k :: n :: p, hp =>
      simp only [List.length_cons] at hp ⊢
      simp only [jrun]
      split
      · rfl
      · cases jstep j k (p.take n.toNat) with
        | none => rfl
        | some j' =>
          simp only [Option.bind_some]
          have hl : (p.drop n.toNat).length ≤ p.length := by rw [List.length_drop]; omega
          rw [ih f (by omega) j' _ (by omega), ih (p.length + 1) (by omega) j' _ (by omega)]

end Go.Proofs.Ytedmhhllkkgbjaa
