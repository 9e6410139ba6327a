/- What was cut is joined; and behind the first payloads the first records (plain law). -/
import Derived.Test.YtedmhhllkkgbjaaFg11
namespace Go.Proofs.Ytedmhhllkkgbjaa
open Go.RowKit

theorem list_snoc_ind {α : Type} {P : List α → Prop} (h0 : P []) (h1 : ∀ l e, P l → P (l ++ [e])) : ∀ l, P l := by
  intro l
  have : ∀ n (l : List α), l.length = n → P l := by
    intro n
    induction n with
    | zero => intro l h; rw [List.eq_nil_of_length_eq_zero h]; exact h0
    | succ n ih =>
      intro l h
      rcases List.eq_nil_or_concat l with rfl | ⟨a, b, rfl⟩
      · cases h
      · rw [List.concat_eq_append] at h ⊢
        exact h1 a b (ih a (by rw [List.length_append] at h; simpa using h))
  exact this _ l rfl
/-- a fragment in bytes -/
def enc (recs : List (List Int)) (e : Ev) : List Int := e.kind :: (e.n : Int) :: piece recs e
/-- what fragments put together -/
def evRun (recs : List (List Int)) : J → List Ev → Option J
  | j, [] => some j
  | j, e :: es => (jstep j e.kind (piece recs e)).bind (fun j' => evRun recs j' es)
theorem evRun_append (recs : List (List Int)) : ∀ (a b : List Ev) (j : J), evRun recs j (a ++ b) = (evRun recs j a).bind (fun j' => evRun recs j' b)
  | [], b, j => rfl
  | e :: a, b, j => by
    simp only [List.cons_append, evRun, Option.bind_assoc]
    congr 1
    funext j'
    exact evRun_append recs a b j'
theorem evRun_one (recs : List (List Int)) (j : J) (e : Ev) : evRun recs j [e] = jstep j e.kind (piece recs e) := by
  simp only [evRun]
  cases jstep j e.kind (piece recs e) <;> rfl
theorem jstep_recs {j j' : J} {k : Int} {b : List Int} (h : jstep j k b = some j') : j.recs.length ≤ j'.recs.length := by
  unfold jstep at h
  split at h
  · cases h; simp
  · split at h
    · cases h; simp
    · split at h
      · split at h
        · cases h
        · split at h
          · cases h; simp
          · cases h; simp
      · cases h
theorem evRun_recs (recs : List (List Int)) : ∀ (l : List Ev) (j j' : J), evRun recs j l = some j' → j.recs.length ≤ j'.recs.length
  | [], j, j', h => by cases h; exact Nat.le_refl _
  | e :: l, j, j', h => by
    obtain ⟨j2, h1, h2⟩ := Option.bind_eq_some_iff.1 h
    exact Nat.le_trans (jstep_recs h1) (evRun_recs recs l j2 j' h2)

theorem jrun_enc (recs : List (List Int)) : ∀ (es : List Ev) (f : Nat) (j : J), (∀ e ∈ es, e.n ≤ 106 ∧ (piece recs e).length = e.n) → (es.flatMap (enc recs)).length ≤ f → jrun f j (es.flatMap (enc recs)) = evRun recs j es
  | [], 0, j, _, _ => rfl
  | [], f + 1, j, _, _ => rfl
  | e :: es, 0, j, _, h => by simp [enc] at h
  | e :: es, f + 1, j, he, h => by
    obtain ⟨h1, h2⟩ := he e List.mem_cons_self
    simp only [List.flatMap_cons, enc, List.cons_append, List.length_cons, List.length_append] at h ⊢
    simp only [jrun, evRun]
    rw [if_neg (by simp only [Int.toNat_natCast, List.length_append]; omega)]
    have e1 : (piece recs e ++ List.flatMap (enc recs) es).take (e.n : Int).toNat = piece recs e := by rw [Int.toNat_natCast, ← h2]; exact List.take_left
    have e2 : (piece recs e ++ List.flatMap (enc recs) es).drop (e.n : Int).toNat = List.flatMap (enc recs) es := by rw [Int.toNat_natCast, ← h2]; exact List.drop_left
    rw [e1, e2]
    congr 1
    funext j'
    exact jrun_enc recs es f j' (fun x hx => he x (List.mem_cons_of_mem _ hx)) (by omega)

/-- the fragments of each payload -/
def packStep (o : List (List Ev)) (e : Ev) : List (List Ev) :=
  let o' := if e.fresh then o ++ [[]] else o
  o'.dropLast ++ [o'.getLastD [] ++ [e]]
def packs (l : List Ev) : List (List Ev) := l.foldl packStep []
theorem packs_snoc (l : List Ev) (e : Ev) : packs (l ++ [e]) = packStep (packs l) e := by simp [packs]
theorem flat_last {α : Type} (o : List (List α)) (x : List α) : (o.dropLast ++ [o.getLastD [] ++ x]).flatten = o.flatten ++ x := by
  rcases List.eq_nil_or_concat o with rfl | ⟨a, b, rfl⟩
  · simp
  · simp
theorem map_last {α β : Type} (f : List α → List β) (hf : f [] = []) (o : List (List α)) (x : List α) (y : List β) (hx : ∀ a, f (a ++ x) = f a ++ y) :
    (o.dropLast ++ [o.getLastD [] ++ x]).map f = (o.map f).dropLast ++ [(o.map f).getLastD [] ++ y] := by
  rcases List.eq_nil_or_concat o with rfl | ⟨a, b, rfl⟩
  · have := hx []
    simp only [List.nil_append, hf] at this
    simp [this]
  · simp [hx]
theorem packs_flat (l : List Ev) : (packs l).flatten = l := by
  induction l using list_snoc_ind with
  | h0 => rfl
  | h1 l e ih =>
    rw [packs_snoc]
    simp only [packStep]
    rw [flat_last]
    split <;> simp [ih]
theorem outOf_packs (recs : List (List Int)) (l : List Ev) : outOf recs l = (packs l).map (fun es => es.flatMap (enc recs)) := by
  induction l using list_snoc_ind with
  | h0 => rfl
  | h1 l e ih =>
    rw [packs_snoc, outOf_snoc, ih]
    simp only [packStep, cutStep]
    rw [map_last (fun es => List.flatMap (enc recs) es) rfl _ [e] ([e.kind, (e.n : Int)] ++ piece recs e) (fun a => by simp [enc])]
    cases e.fresh <;> simp [List.append_assoc]

theorem joins_packs (recs : List (List Int)) : ∀ (gs : List (List Ev)) (j j' : J) (i : Nat) (y : List (List Int)), (∀ e ∈ gs.flatten, e.n ≤ 106 ∧ (piece recs e).length = e.n) → (∀ g ∈ gs, (g.flatMap (enc recs)).length ≤ 108) → evRun recs j gs.flatten = some j' →
    joins j i (gs.map (fun es => es.flatMap (enc recs)) ++ y) = joins j' (i + gs.length) y
  | [], j, j', i, y, _, _, h => by cases h; rfl
  | g :: gs, j, j', i, y, he, hg, h => by
    simp only [List.flatten_cons, evRun_append] at h
    obtain ⟨j2, h1, h2⟩ := Option.bind_eq_some_iff.1 h
    have hp : jpay j (g.flatMap (enc recs)) = some j2 := by
      unfold jpay
      rw [if_neg (by have := hg g List.mem_cons_self; omega), jrun_enc recs g _ j (fun e h => he e (by simp [h])) (Nat.le_refl _), h1]
    simp only [List.map_cons, List.cons_append]
    rw [joins_some _ _ _ _ _ hp, joins_packs recs gs j2 j' (i + 1) y (fun e h => he e (by rw [List.flatten_cons]; exact List.mem_append_right _ h)) (fun x hx => hg x (List.mem_cons_of_mem _ hx)) h2]
    congr 1
    simp only [List.length_cons]
    omega

/-- the first payloads are the first fragments -/
theorem outOf_len (recs : List (List Int)) : ∀ (l : List Ev), (∀ e r, l = e :: r → e.fresh = true) → (outOf recs l).length = freshN l := by
  intro l
  induction l using list_snoc_ind with
  | h0 => intro _; rfl
  | h1 l e ih =>
    intro hf
    rw [outOf_snoc, freshN_snoc, cutStep_len, ih (fun x r h => hf x (r ++ [e]) (by rw [h]; rfl))]
    intro he h0
    rcases List.eq_nil_or_concat l with rfl | ⟨a, b, rfl⟩
    · have := hf e [] rfl
      rw [he] at this
      cases this
    · rw [List.concat_eq_append, outOf_snoc] at h0
      exact cutStep_ne _ _ _ h0
theorem outOf_take (recs : List (List Int)) (l : List Ev) (hf : ∀ e r, l = e :: r → e.fresh = true) (k : Nat) (hk : k ≤ (outOf recs l).length) :
    ∃ d r, l = d ++ r ∧ outOf recs d = (outOf recs l).take k ∧ (∀ e r', r = e :: r' → e.fresh = true) := by
  induction l using list_snoc_ind with
  | h0 => exact ⟨[], [], rfl, by simp [outOf], fun e r' h => by cases h⟩
  | h1 l e ih =>
    by_cases hk1 : k = (outOf recs (l ++ [e])).length
    · exact ⟨l ++ [e], [], by simp, by rw [hk1, List.take_length], fun e r' h => by cases h⟩
    have hf' : ∀ x r, l = x :: r → x.fresh = true := fun x r h => hf x (r ++ [e]) (by rw [h]; rfl)
    have hl := outOf_len recs l hf'
    have hl2 := outOf_len recs (l ++ [e]) hf
    rw [freshN_snoc] at hl2
    have hkl : k ≤ (outOf recs l).length := by
      rw [hl2] at hk hk1
      split at hk <;> split at hk1 <;> omega
    have htk : (outOf recs (l ++ [e])).take k = (outOf recs l).take k := by
      rw [outOf_snoc]
      simp only [cutStep]
      cases hfe : e.fresh
      · have hlt : k < (outOf recs l).length := by
          rw [hl2, hfe] at hk hk1
          simp at hk hk1
          omega
        simp only [Bool.false_eq_true, if_false]
        rw [List.take_append_of_le_length (by rw [List.length_dropLast]; omega), List.dropLast_eq_take, List.take_take]
        congr 1
        omega
      · simp only [if_true]
        rw [List.dropLast_concat, List.take_append_of_le_length hkl]
    obtain ⟨d, r, e1, e2, e3⟩ := ih hf' hkl
    refine ⟨d, r ++ [e], by rw [e1, List.append_assoc], by rw [e2, htk], ?_⟩
    intro x r' hx
    cases r with
    | cons y r => 
      simp only [List.cons_append, List.cons.injEq] at hx
      exact e3 x r (by rw [hx.1])
    | nil =>
      simp only [List.nil_append, List.cons.injEq] at hx
      obtain ⟨rfl, _⟩ := hx
      cases hfe : e.fresh
      · exfalso
        simp only [List.append_nil] at e1
        rw [← e1] at e2
        have := congrArg List.length e2
        rw [List.length_take] at this
        rw [hl2, hfe] at hk hk1
        simp at hk hk1
        omega
      · rfl

/-- the fragments that are to come -/
def restOf (ss : List Nat) (i a l : Nat) : List Ev :=
  match ss.drop i with
  | [] => []
  | s :: ss' => (frags i s (s + 1 - a) a l).1 ++ plan (i + 1) ss' (frags i s (s + 1 - a) a l).2
theorem restOf_start (ss : List Nat) (i l : Nat) : restOf ss i 0 l = plan i (ss.drop i) l := by
  unfold restOf
  cases ss.drop i <;> rfl
theorem frags_fuel (i s : Nat) : ∀ f f' a l, s - a < f → s - a < f' → (a = 0 ∨ a < s) → frags i s f a l = frags i s f' a l
  | 0, _, _, _, h, _, _ => by omega
  | _ + 1, 0, _, _, _, h, _ => by omega
  | f + 1, f' + 1, a, l, h, h', ha => by
    by_cases hE : a + (nextEv i s a l).n = s
    · rw [frags_end i s f a l hE, frags_end i s f' a l hE]
    · have hle := next_n_le i s a l (by omega)
      have hp := next_n_pos i s a l (by omega)
      rw [frags_more i s f a l hE, frags_more i s f' a l hE, frags_fuel i s f f' _ _ (by omega) (by omega) (by omega)]
theorem restOf_end (ss : List Nat) (i a l : Nat) (s : Nat) (hs : ss[i]? = some s) (_ha : a = 0 ∨ a < s) (he : a + (nextEv i s a l).n = s) :
    restOf ss i a l = nextEv i s a l :: restOf ss (i + 1) 0 (nextLeft s a l) := by
  obtain ⟨hi, hs'⟩ := List.getElem?_eq_some_iff.1 hs
  rw [restOf_start]
  unfold restOf
  rw [List.drop_eq_getElem_cons hi, hs']
  simp only
  rw [show s + 1 - a = (s - a) + 1 from by omega, frags_end i s (s - a) a l he]
  rfl
theorem restOf_more (ss : List Nat) (i a l : Nat) (s : Nat) (hs : ss[i]? = some s) (ha : a = 0 ∨ a < s) (he : a + (nextEv i s a l).n ≠ s) :
    restOf ss i a l = nextEv i s a l :: restOf ss i (a + (nextEv i s a l).n) (nextLeft s a l) := by
  obtain ⟨hi, hs'⟩ := List.getElem?_eq_some_iff.1 hs
  have hle := next_n_le i s a l (by omega)
  have hp := next_n_pos i s a l (by omega)
  unfold restOf
  rw [List.drop_eq_getElem_cons hi, hs']
  simp only
  rw [show s + 1 - a = (s - a) + 1 from by omega, frags_more i s (s - a) a l he, frags_fuel i s (s - a) (s + 1 - (a + (nextEv i s a l).n)) _ _ (by omega) (by omega) (by omega)]
  rfl
theorem restOf_none (ss : List Nat) (i a l : Nat) (hs : ss[i]? = none) : restOf ss i a l = [] := by
  unfold restOf
  rw [List.drop_eq_nil_of_le (List.getElem?_eq_none_iff.1 hs)]

/-- where one stands behind some fragments -/
theorem plan_inv (ss : List Nat) (Q : List Ev → Nat → Nat → Nat → Prop)
    (step : ∀ done i a l s, ss[i]? = some s → (a = 0 ∨ a < s) → l ≤ 108 → Q done i a l →
      (a + (nextEv i s a l).n = s → Q (done ++ [nextEv i s a l]) (i + 1) 0 (nextLeft s a l)) ∧ (a + (nextEv i s a l).n ≠ s → Q (done ++ [nextEv i s a l]) i (a + (nextEv i s a l).n) (nextLeft s a l))) :
    ∀ (d r done : List Ev) (i a l : Nat), i ≤ ss.length → (a = 0 ∨ ∃ s, ss[i]? = some s ∧ a < s) → l ≤ 108 → Q done i a l → restOf ss i a l = d ++ r →
      ∃ i' a' l', i' ≤ ss.length ∧ (a' = 0 ∨ ∃ s, ss[i']? = some s ∧ a' < s) ∧ l' ≤ 108 ∧ Q (done ++ d) i' a' l' ∧ r = restOf ss i' a' l'
  | [], r, done, i, a, l, hi, ha, hl, hQ, h => ⟨i, a, l, hi, ha, hl, by simpa using hQ, h.symm⟩
  | e :: d, r, done, i, a, l, hi, ha, hl, hQ, h => by
    cases hs : ss[i]? with
    | none => rw [restOf_none ss i a l hs] at h; cases h
    | some s =>
      have hi' : i < ss.length := (List.getElem?_eq_some_iff.1 hs).1
      have ha' : a = 0 ∨ a < s := by
        rcases ha with rfl | ⟨s', h1, h2⟩
        · exact .inl rfl
        · rw [hs] at h1; cases h1; exact .inr h2
      obtain ⟨q1, q2⟩ := step done i a l s hs ha' hl hQ
      have hle := next_n_le i s a l (by omega)
      by_cases hE : a + (nextEv i s a l).n = s
      · rw [restOf_end ss i a l s hs ha' hE, List.cons_append] at h
        obtain rfl := (List.cons.inj h).1
        have := plan_inv ss Q step d r _ (i + 1) 0 _ hi' (.inl rfl) (nextLeft_le s a l hl) (q1 hE) (List.cons.inj h).2
        simpa using this
      · rw [restOf_more ss i a l s hs ha' hE, List.cons_append] at h
        obtain rfl := (List.cons.inj h).1
        have := plan_inv ss Q step d r _ i _ _ hi (.inr ⟨s, hs, by omega⟩) (nextLeft_le s a l hl) (q2 hE) (List.cons.inj h).2
        simpa using this

/-- no payload is longer than there is room -/
def LenInv (recs : List (List Int)) (done : List Ev) (l : Nat) : Prop :=
  (∀ x ∈ outOf recs done, x.length ≤ 108) ∧ (outOf recs done = [] → l = 0) ∧ ∀ x, (outOf recs done).getLast? = some x → x.length + l ≤ 108
theorem LenInv.step {recs : List (List Int)} {done : List Ev} {i s a l : Nat} (h : LenInv recs done l) (hl : l ≤ 108) : LenInv recs (done ++ [nextEv i s a l]) (nextLeft s a l) := by
  obtain ⟨h1, h2, h3⟩ := h
  have hp := piece_len recs (nextEv i s a l)
  have hn : (nextEv i s a l).n = min ((if l < 3 then 108 else l) - 2) (s - a) := rfl
  have hL : nextLeft s a l = (if l < 3 then 108 else l) - (2 + (nextEv i s a l).n) := rfl
  have key : ∃ front last, (if (nextEv i s a l).fresh = true then outOf recs done ++ [[]] else outOf recs done) = front ++ [last] ∧ (∀ x ∈ front, x.length ≤ 108) ∧ last.length + (if l < 3 then 108 else l) ≤ 108 := by
    by_cases h0 : l < 3
    · exact ⟨outOf recs done, [], by simp [nextEv, h0], h1, by simp [h0]⟩
    · rcases List.eq_nil_or_concat (outOf recs done) with h4 | ⟨f, x, h4⟩
      · have := h2 h4; omega
      · refine ⟨f, x, by simp [nextEv, h0, h4], fun y hy => h1 y (by rw [h4]; simp [hy]), ?_⟩
        have := h3 x (by rw [h4]; simp)
        rw [if_neg h0]; exact this
  obtain ⟨front, last, e1, e2, e3⟩ := key
  have hout : outOf recs (done ++ [nextEv i s a l]) = front ++ [last ++ [(nextEv i s a l).kind, ((nextEv i s a l).n : Int)] ++ piece recs (nextEv i s a l)] := by
    rw [outOf_snoc]
    simp only [cutStep]
    rw [e1]
    simp
  have hlen : (last ++ [(nextEv i s a l).kind, ((nextEv i s a l).n : Int)] ++ piece recs (nextEv i s a l)).length + nextLeft s a l ≤ 108 := by
    simp only [List.length_append, List.length_cons, List.length_nil]
    rw [hL]
    have : 3 ≤ (if l < 3 then 108 else l) := by split <;> omega
    omega
  refine ⟨?_, ?_, ?_⟩
  · rw [hout]
    intro x hx
    rcases List.mem_append.1 hx with hx | hx
    · exact e2 x hx
    · obtain rfl := List.mem_singleton.1 hx
      omega
  · rw [hout]; intro h; simp at h
  · rw [hout]
    intro x hx
    simp only [List.getLast?_concat, Option.some.injEq] at hx
    subst hx
    exact hlen

/-- what is put together behind some fragments -/
def RunInv (recs : List (List Int)) (j : J) (done : List Ev) (i a : Nat) : Prop :=
  ∃ j', evRun recs j done = some j' ∧ j'.recs = j.recs ++ recs.take i ∧ (a ≠ 0 → j'.begun = true ∧ ∃ r, recs[i]? = some r ∧ j'.opn = r.take a)
theorem RunInv.step {recs : List (List Int)} {j : J} {done : List Ev} {i a l s : Nat} {r : List Int} (h : RunInv recs j done i a) (hr : recs[i]? = some r) (hs : r.length = s) (h8 : s ≤ 8192) (ha : a = 0 ∨ a < s) :
    (a + (nextEv i s a l).n = s → RunInv recs j (done ++ [nextEv i s a l]) (i + 1) 0) ∧ (a + (nextEv i s a l).n ≠ s → RunInv recs j (done ++ [nextEv i s a l]) i (a + (nextEv i s a l).n)) := by
  obtain ⟨j', h1, h2, h3⟩ := h
  have hle := next_n_le i s a l (by omega)
  have hpc : piece recs (nextEv i s a l) = (r.drop a).take (nextEv i s a l).n := by
    simp only [piece]
    rw [show recs.getD (nextEv i s a l).rc [] = r from by rw [List.getD_eq_getElem?_getD]; show (recs[i]?).getD [] = r; rw [hr]; rfl]
    rfl
  have hpl : (piece recs (nextEv i s a l)).length = (nextEv i s a l).n := by rw [hpc, List.length_take, List.length_drop]; omega
  have hkd : (nextEv i s a l).kind = kindOf (a == 0) (a + (nextEv i s a l).n == s) := rfl
  have hrun : ∀ j2, jstep j' (nextEv i s a l).kind (piece recs (nextEv i s a l)) = some j2 → evRun recs j (done ++ [nextEv i s a l]) = some j2 := by
    intro j2 h
    rw [evRun_append, h1]
    simp only [Option.bind_some]
    rw [evRun_one, h]
  have htk : recs.take (i + 1) = recs.take i ++ [r] := by rw [List.take_add_one, hr]; rfl
  constructor
  · intro hE
    have hk : (a + (nextEv i s a l).n == s) = true := by simp [hE]
    rcases Nat.eq_zero_or_pos a with rfl | hpos
    · refine ⟨⟨j'.recs ++ [piece recs (nextEv i s 0 l)], [], false⟩, hrun _ ?_, ?_, fun h => absurd rfl h⟩
      · rw [hkd, hk]
        simp [kindOf, jstep]
      · show j'.recs ++ [piece recs (nextEv i s 0 l)] = _
        rw [hpc, h2, htk, List.drop_zero, show (nextEv i s 0 l).n = r.length from by omega, List.take_length, List.append_assoc]
    · obtain ⟨hb, r', hr', ho⟩ := h3 (by omega)
      rw [hr] at hr'; cases hr'
      have hk0 : (a == 0) = false := by simp; omega
      refine ⟨⟨j'.recs ++ [j'.opn ++ piece recs (nextEv i s a l)], [], false⟩, hrun _ ?_, ?_, fun h => absurd rfl h⟩
      · rw [hkd, hk, hk0]
        have : ¬ (j'.begun = false ∨ 8192 < j'.opn.length + (piece recs (nextEv i s a l)).length) := by
          rw [hb, hpl, ho, List.length_take]
          simp
          omega
        simp [kindOf, jstep, this]
      · show j'.recs ++ [j'.opn ++ piece recs (nextEv i s a l)] = _
        rw [hpc, h2, htk, ho, List.take_of_length_le (l := r.drop a) (by rw [List.length_drop]; omega), List.take_append_drop, List.append_assoc]
  · intro hE
    have hk : (a + (nextEv i s a l).n == s) = false := by simp [hE]
    have hn1 := next_n_pos i s a l (by omega)
    rcases Nat.eq_zero_or_pos a with rfl | hpos
    · refine ⟨⟨j'.recs, piece recs (nextEv i s 0 l), true⟩, hrun _ ?_, h2, fun _ => ⟨rfl, r, hr, ?_⟩⟩
      · rw [hkd, hk]
        simp [kindOf, jstep]
      · show piece recs (nextEv i s 0 l) = _
        rw [hpc, List.drop_zero, Nat.zero_add]
    · obtain ⟨hb, r', hr', ho⟩ := h3 (by omega)
      rw [hr] at hr'; cases hr'
      have hk0 : (a == 0) = false := by simp; omega
      refine ⟨⟨j'.recs, j'.opn ++ piece recs (nextEv i s a l), true⟩, hrun _ ?_, h2, fun _ => ⟨rfl, r, hr, ?_⟩⟩
      · rw [hkd, hk, hk0]
        have : ¬ (j'.begun = false ∨ 8192 < j'.opn.length + (piece recs (nextEv i s a l)).length) := by
          rw [hb, hpl, ho, List.length_take]
          simp
          omega
        simp [kindOf, jstep, this]
      · show j'.opn ++ piece recs (nextEv i s a l) = _
        rw [hpc, ho, List.take_add]

/-- all fragments of a plan -/
theorem plan_pieces (recs : List (List Int)) (e : Ev) (he : e ∈ plan 0 (recs.map List.length) 0) : e.n ≤ 106 ∧ (piece recs e).length = e.n := by
  obtain ⟨_, s, h2, h3, h4⟩ := plan_ok 0 _ 0 (by omega) e he
  refine ⟨h4, ?_⟩
  rw [Nat.sub_zero, List.getElem?_map] at h2
  obtain ⟨r, hr, hl⟩ := Option.map_eq_some_iff.1 h2
  simp only [piece]
  rw [List.getD_eq_getElem?_getD, hr]
  simp only [Option.getD_some, List.length_take, List.length_drop]
  omega
theorem plan_at (recs : List (List Int)) (h8 : ∀ r ∈ recs, r.length ≤ 8192) (j : J) (d r : List Ev) (h : plan 0 (recs.map List.length) 0 = d ++ r) :
    ∃ i, i ≤ recs.length ∧ (r = [] → i = recs.length) ∧ (∃ j', evRun recs j d = some j' ∧ j'.recs = j.recs ++ recs.take i) ∧ ∀ x ∈ outOf recs d, x.length ≤ 108 := by
  obtain ⟨i, a, l, hi, ha, hl, ⟨hQ1, hQ2⟩, hr⟩ := plan_inv (recs.map List.length) (fun done i a l => LenInv recs done l ∧ RunInv recs j done i a)
    (by
      intro done i a l s hs ha hl hQ
      rw [List.getElem?_map] at hs
      obtain ⟨r, hr, rfl⟩ := Option.map_eq_some_iff.1 hs
      have h1 := hQ.1.step (i := i) (s := r.length) (a := a) hl
      have h2 := hQ.2.step (l := l) hr rfl (h8 r (List.mem_of_getElem? hr)) ha
      exact ⟨fun h => ⟨h1, h2.1 h⟩, fun h => ⟨h1, h2.2 h⟩⟩)
    d r [] 0 0 0 (Nat.zero_le _) (.inl rfl) (by omega) ⟨⟨by simp [outOf], fun _ => rfl, by simp [outOf]⟩, ⟨j, rfl, by simp, fun h => absurd rfl h⟩⟩ (by rw [restOf_start]; exact h)
  rw [List.length_map] at hi
  obtain ⟨j', h1, h2, _⟩ := hQ2
  refine ⟨i, hi, ?_, ⟨j', h1, h2⟩, hQ1.1⟩
  intro h0
  rw [h0] at hr
  rcases Nat.lt_or_ge i recs.length with hlt | hge
  · exfalso
    obtain ⟨s, hs⟩ : ∃ s, (recs.map List.length)[i]? = some s := ⟨_, List.getElem?_eq_getElem (by rw [List.length_map]; exact hlt)⟩
    have ha' : a = 0 ∨ a < s := by
      rcases ha with h | ⟨s', h1, h2⟩
      · exact .inl h
      · rw [hs] at h1; cases h1; exact .inr h2
    by_cases hE : a + (nextEv i s a l).n = s
    · rw [restOf_end _ i a l s hs ha' hE] at hr; cases hr
    · rw [restOf_more _ i a l s hs ha' hE] at hr; cases hr
  · omega

theorem plan_append (a b : List Nat) : ∀ (i l : Nat), ∃ l', plan i (a ++ b) l = plan i a l ++ plan (i + a.length) b l' := by
  induction a with
  | nil => exact fun i l => ⟨l, by simp [plan]⟩
  | cons s a ih =>
    intro i l
    obtain ⟨l', h⟩ := ih (i + 1) (frags i s (s + 1) 0 l).2
    refine ⟨l', ?_⟩
    simp only [List.cons_append, plan, h, List.append_assoc, List.length_cons]
    rw [show i + 1 + a.length = i + (a.length + 1) from by omega]
theorem outOf_congr (recs recs' : List (List Int)) (l : List Ev) (h : ∀ e ∈ l, piece recs e = piece recs' e) : outOf recs l = outOf recs' l := by
  induction l using list_snoc_ind with
  | h0 => rfl
  | h1 l e ih =>
    rw [outOf_snoc, outOf_snoc, ih (fun x hx => h x (List.mem_append_left _ hx))]
    simp only [cutStep]
    rw [h e (by simp)]
theorem cutE_ok (recs : List (List Int)) (hl : recs.length ≤ 256) (h8 : ∀ r ∈ recs, r.length ≤ 8192) : cutE recs = 0 := by
  unfold cutE
  rw [if_neg (by omega), if_pos]
  simpa using h8
theorem cutL_ok (recs : List (List Int)) (hl : recs.length ≤ 256) (h8 : ∀ r ∈ recs, r.length ≤ 8192) : cutL recs = outOf recs (plan 0 (recs.map List.length) 0) := by
  unfold cutL
  rw [if_pos (cutE_ok recs hl h8)]
theorem cutL_len (recs : List (List Int)) (hl : recs.length ≤ 256) (h8 : ∀ r ∈ recs, r.length ≤ 8192) : (cutL recs).length = freshN (plan 0 (recs.map List.length) 0) := by
  rw [cutL_ok recs hl h8]
  exact outOf_len _ _ (fun e r h => plan_first _ e r h)
theorem freshN_app (a b : List Ev) : freshN (a ++ b) = freshN a + freshN b := by simp [freshN]

/-- WHAT WAS CUT IS JOINED; BEHIND THE FIRST PAYLOADS THE FIRST RECORDS -/
theorem cut_back (recs : List (List Int)) (hl : recs.length ≤ 256) (h8 : ∀ r ∈ recs, r.length ≤ 8192) (j : J) (k : Nat) (hk : k ≤ (cutL recs).length) :
    ∃ (m : Nat) (j' : J), m ≤ recs.length ∧ (∀ i y, joins j i ((cutL recs).take k ++ y) = joins j' (i + k) y) ∧ j'.recs = j.recs ++ recs.take m ∧ (m < recs.length → k < (cutL (recs.take (m + 1))).length) ∧ (k = (cutL recs).length → m = recs.length) := by
  have hfr : ∀ e r, plan 0 (recs.map List.length) 0 = e :: r → e.fresh = true := fun e r h => plan_first _ e r h
  have hkl := hk
  have hlen := cutL_len recs hl h8
  rw [cutL_ok recs hl h8] at hk
  obtain ⟨d, r, e1, e2, e3⟩ := outOf_take recs _ hfr k hk
  obtain ⟨m, hm, hend, ⟨j', hj, hjr⟩, h108⟩ := plan_at recs h8 j d r e1
  have hdl : (packs d).length = k := by
    have := congrArg List.length e2
    rw [List.length_take, outOf_packs, List.length_map] at this
    omega
  have hfd : ∀ e r, d = e :: r → e.fresh = true := fun e r' h => hfr e (r' ++ r) (by rw [e1, h]; rfl)
  have hkf : k = freshN d := by
    rw [← outOf_len recs d hfd, outOf_packs, List.length_map, hdl]
  refine ⟨m, j', hm, ?_, hjr, ?_, ?_⟩
  · intro i y
    rw [cutL_ok recs hl h8, ← e2, outOf_packs, joins_packs recs (packs d) j j' i y ?_ ?_ (by rw [packs_flat]; exact hj), hdl]
    · rw [packs_flat]
      intro e he
      exact plan_pieces recs e (by rw [e1]; exact List.mem_append_left _ he)
    · intro g hg
      exact h108 _ (by rw [outOf_packs]; exact List.mem_map_of_mem hg)
  · intro hlt
    have hl' : (recs.take (m + 1)).length ≤ 256 := by rw [List.length_take]; omega
    have h8' : ∀ r ∈ recs.take (m + 1), r.length ≤ 8192 := fun r hr => h8 r (List.mem_of_mem_take hr)
    rw [cutL_len _ hl' h8']
    obtain ⟨l', hp⟩ := plan_append ((recs.take (m + 1)).map List.length) ((recs.drop (m + 1)).map List.length) 0 0
    rw [← List.map_append, List.take_append_drop] at hp
    generalize hP : plan 0 ((recs.take (m + 1)).map List.length) 0 = p1 at hp
    generalize plan (0 + (List.map List.length (List.take (m + 1) recs)).length) (List.map List.length (List.drop (m + 1) recs)) l' = p2 at hp
    obtain ⟨i1, hi1, hi2, ⟨j1, hj1, hjr1⟩, _⟩ := plan_at (recs.take (m + 1)) h8' j p1 [] (by rw [List.append_nil]; exact hP)
    have hi3 := hi2 rfl
    have hpc : ∀ e ∈ p1, piece (recs.take (m + 1)) e = piece recs e := by
      intro e he
      rw [← hP] at he
      obtain ⟨_, s, h2, h3, h4⟩ := plan_ok 0 _ 0 (by omega) e he
      rw [Nat.sub_zero, List.getElem?_map] at h2
      obtain ⟨r', hr', _⟩ := Option.map_eq_some_iff.1 h2
      have hlt' : e.rc < m + 1 := by
        have := (List.getElem?_eq_some_iff.1 hr').1
        rw [List.length_take] at this
        omega
      simp only [piece, List.getD_eq_getElem?_getD]
      rw [List.getElem?_take, if_pos hlt']
    have hrunc : ∀ (l : List Ev) (j : J), (∀ e ∈ l, piece (recs.take (m + 1)) e = piece recs e) → evRun (recs.take (m + 1)) j l = evRun recs j l := by
      intro l
      induction l with
      | nil => intro j _; rfl
      | cons e l ih =>
        intro j h
        simp only [evRun]
        rw [h e List.mem_cons_self]
        congr 1
        funext j'
        exact ih j' (fun x hx => h x (List.mem_cons_of_mem _ hx))
    rw [hrunc p1 j hpc] at hj1
    rw [e1] at hp
    rcases List.append_eq_append_iff.1 hp with ⟨y, h1, h2⟩ | ⟨y, h1, h2⟩
    · -- p1 = d ++ y
      rw [h1, freshN_app, ← hkf]
      cases y with
      | nil =>
        exfalso
        rw [List.append_nil] at h1
        rw [h1, hj] at hj1
        cases hj1
        have := congrArg List.length hjr
        rw [hjr1, List.length_append, List.length_append, List.length_take, hi3, List.length_take, List.length_take] at this
        omega
      | cons e y =>
        have := e3 e (y ++ p2) (by rw [h2]; rfl)
        rw [show freshN (e :: y) = 1 + freshN y from by simp [freshN, this]; omega]
        omega
    · exfalso
      rw [h1, evRun_append, hj1] at hj
      simp only [Option.bind_some] at hj
      have h3 := evRun_recs recs _ _ _ hj
      have h4 := congrArg List.length hjr
      have h5 := congrArg List.length hjr1
      rw [List.length_append, List.length_take] at h4
      rw [hi3, List.take_length, List.length_append, List.length_take] at h5
      omega
  · intro h0
    apply hend
    have h1 : outOf recs d = outOf recs (plan 0 (recs.map List.length) 0) := by
      rw [e2, List.take_of_length_le]
      rw [← cutL_ok recs hl h8]
      omega
    cases r with
    | nil => rfl
    | cons e r =>
      exfalso
      have h2 := e3 e r rfl
      have h3 := congrArg List.length h1
      rw [outOf_len recs d hfd, outOf_len recs _ hfr, e1, freshN_app] at h3
      have : freshN (e :: r) = 1 + freshN r := by simp [freshN, h2]; omega
      omega

theorem join_back (recs : List (List Int)) (hl : recs.length ≤ 256) (h8 : ∀ r ∈ recs, r.length ≤ 8192) : joinR (cutL recs) = recs ∧ joinN (cutL recs) = (cutL recs).length := by
  obtain ⟨m, j', h1, h2, h3, h4, h5⟩ := cut_back recs hl h8 ⟨[], [], false⟩ (cutL recs).length (Nat.le_refl _)
  have h6 := h2 0 []
  rw [List.take_length, List.append_nil, Nat.zero_add] at h6
  unfold joinR joinN
  rw [h6]
  refine ⟨?_, rfl⟩
  show j'.recs = _
  rw [h3, h5 rfl, List.take_length]
  rfl
theorem join_torn (recs : List (List Int)) (hl : recs.length ≤ 256) (h8 : ∀ r ∈ recs, r.length ≤ 8192) (k : Nat) (hk : k ≤ (cutL recs).length) :
    ∃ m, m ≤ recs.length ∧ joinR ((cutL recs).take k) = recs.take m ∧ joinN ((cutL recs).take k) = k ∧ (m < recs.length → k < (cutL (recs.take (m + 1))).length) := by
  obtain ⟨m, j', h1, h2, h3, h4, h5⟩ := cut_back recs hl h8 ⟨[], [], false⟩ k hk
  have h6 := h2 0 []
  rw [List.append_nil, Nat.zero_add] at h6
  refine ⟨m, h1, ?_, ?_, h4⟩
  · unfold joinR
    rw [h6]
    exact h3
  · unfold joinN
    rw [h6]
    rfl
theorem join_groups (a b : List (List Int)) (hla : a.length ≤ 256) (h8a : ∀ r ∈ a, r.length ≤ 8192) (hlb : b.length ≤ 256) (h8b : ∀ r ∈ b, r.length ≤ 8192) (k : Nat) (hk : k ≤ (cutL a).length) :
    joinR ((cutL a).take k ++ cutL b) = joinR ((cutL a).take k) ++ b ∧ joinN ((cutL a).take k ++ cutL b) = ((cutL a).take k ++ cutL b).length := by
  obtain ⟨m, j', h1, h2, h3, h4, h5⟩ := cut_back a hla h8a ⟨[], [], false⟩ k hk
  obtain ⟨m', j2, g1, g2, g3, g4, g5⟩ := cut_back b hlb h8b j' (cutL b).length (Nat.le_refl _)
  have h6 := h2 0 []
  have h7 := h2 0 (cutL b)
  have g6 := g2 (0 + k) []
  rw [List.take_length, List.append_nil] at g6
  rw [List.append_nil] at h6
  unfold joinR joinN
  rw [h6, h7, g6]
  constructor
  · show j2.recs = j'.recs ++ b
    rw [g3, g5 rfl, List.take_length]
  · show 0 + k + (cutL b).length = _
    rw [List.length_append, List.length_take]
    omega

end Go.Proofs.Ytedmhhllkkgbjaa
