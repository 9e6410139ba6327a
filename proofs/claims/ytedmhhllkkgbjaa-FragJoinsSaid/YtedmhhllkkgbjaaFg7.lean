/- What the plan of a cut says; the cut in plain words. -/
import Derived.Test.YtedmhhllkkgbjaaFg6
namespace Go.Proofs.Ytedmhhllkkgbjaa
open Go.RowKit

theorem next_n_106 (i s a l : Nat) (h : l ≤ 108) : (nextEv i s a l).n ≤ 106 := by
  show min ((if l < 3 then 108 else l) - 2) (s - a) ≤ 106
  split <;> omega
theorem nextLeft_le (s a l : Nat) (h : l ≤ 108) : nextLeft s a l ≤ 108 := by
  show (if l < 3 then 108 else l) - _ ≤ 108
  split <;> omega
theorem frags_left (i s : Nat) : ∀ f a l, l ≤ 108 → (frags i s f a l).2 ≤ 108
  | 0, _, _, h => h
  | f + 1, a, l, h => by
    by_cases he : a + (nextEv i s a l).n = s
    · rw [frags_end i s f a l he]; exact nextLeft_le s a l h
    · rw [frags_more i s f a l he]; exact frags_left i s f _ _ (nextLeft_le s a l h)
theorem frags_ok (i s : Nat) : ∀ f a l, a ≤ s → l ≤ 108 → ∀ e ∈ (frags i s f a l).1, e.rc = i ∧ e.at_ + e.n ≤ s ∧ e.n ≤ 106
  | 0, _, _, _, _, e, he => by simp [frags] at he
  | f + 1, a, l, ha, hl, e, he => by
    have h0 : (nextEv i s a l).rc = i ∧ (nextEv i s a l).at_ + (nextEv i s a l).n ≤ s ∧ (nextEv i s a l).n ≤ 106 := ⟨rfl, next_n_le i s a l ha, next_n_106 i s a l hl⟩
    by_cases hE : a + (nextEv i s a l).n = s
    · rw [frags_end i s f a l hE] at he
      obtain rfl := List.mem_singleton.1 he
      exact h0
    · rw [frags_more i s f a l hE] at he
      rcases List.mem_cons.1 he with rfl | he
      · exact h0
      · exact frags_ok i s f _ _ (next_n_le i s a l ha) (nextLeft_le s a l hl) e he
theorem plan_ok : ∀ (i : Nat) (ss : List Nat) (l : Nat), l ≤ 108 → ∀ e ∈ plan i ss l, i ≤ e.rc ∧ ∃ s, ss[e.rc - i]? = some s ∧ e.at_ + e.n ≤ s ∧ e.n ≤ 106
  | _, [], _, _, e, he => by simp [plan] at he
  | i, s :: ss, l, hl, e, he => by
    simp only [plan, List.mem_append] at he
    rcases he with he | he
    · obtain ⟨h1, h2, h3⟩ := frags_ok i s (s + 1) 0 l (Nat.zero_le _) hl e he
      exact ⟨by omega, s, by rw [h1]; simp, h2, h3⟩
    · obtain ⟨h1, s', h2, h3⟩ := plan_ok (i + 1) ss _ (frags_left i s (s + 1) 0 l hl) e he
      refine ⟨by omega, s', ?_, h3⟩
      rw [show e.rc - i = (e.rc - (i + 1)) + 1 from by omega]
      simpa using h2
theorem plan_first (ss : List Nat) (e : Ev) (rest : List Ev) (h : plan 0 ss 0 = e :: rest) : e.fresh = true := by
  cases ss with
  | nil => simp [plan] at h
  | cons s ss =>
    simp only [plan] at h
    by_cases hE : 0 + (nextEv 0 s 0 0).n = s
    · rw [frags_end 0 s s 0 0 hE] at h
      simp only [List.cons_append, List.nil_append, List.cons.injEq] at h
      rw [← h.1]; rfl
    · rw [frags_more 0 s s 0 0 hE] at h
      simp only [List.cons_append, List.cons.injEq] at h
      rw [← h.1]; rfl
theorem plan_len2 : ∀ (i : Nat) (ss : List Nat) (l : Nat), (∀ s ∈ ss, s ≤ 8192) → (plan i ss l).length ≤ ss.length * 8193
  | _, [], _, _ => by simp [plan]
  | i, s :: ss, l, h => by
    have h1 := frags_len i s (s + 1) 0 l
    have h2 := plan_len2 (i + 1) ss (frags i s (s + 1) 0 l).2 (fun x hx => h x (List.mem_cons_of_mem _ hx))
    have h3 := h s List.mem_cons_self
    simp only [plan, List.length_append, List.length_cons, Nat.succ_mul]
    omega

/-- the payloads behind some fragments -/
def outOf (recs : List (List Int)) (l : List Ev) : List (List Int) := l.foldl (cutStep recs) []
theorem outOf_snoc (recs : List (List Int)) (l : List Ev) (e : Ev) : outOf recs (l ++ [e]) = cutStep recs (outOf recs l) e := by simp [outOf]
theorem cutStep_ne (recs : List (List Int)) (o : List (List Int)) (e : Ev) : cutStep recs o e ≠ [] := by simp [cutStep]
theorem piece_len (recs : List (List Int)) (e : Ev) : (piece recs e).length ≤ e.n := by simp only [piece, List.length_take]; omega
theorem cutStep_len (recs : List (List Int)) (o : List (List Int)) (e : Ev) (h : e.fresh = false → o ≠ []) : (cutStep recs o e).length = o.length + if e.fresh then 1 else 0 := by
  cases hf : e.fresh
  · have := List.length_pos_iff.2 (h hf)
    simp [cutStep, hf]
    omega
  · simp [cutStep, hf]
theorem cutStep_bound (recs : List (List Int)) (o : List (List Int)) (e : Ev) (M : Nat) (he : e.n ≤ 106) (h : ∀ x ∈ o, x.length ≤ M) : ∀ x ∈ cutStep recs o e, x.length ≤ M + 108 := by
  have hp := piece_len recs e
  intro x hx
  simp only [cutStep, List.mem_append, List.mem_singleton] at hx
  have key : ∀ y ∈ (if e.fresh = true then o ++ [[]] else o), y.length ≤ M := by
    intro y hy
    split at hy
    · rcases List.mem_append.1 hy with hy | hy
      · exact h y hy
      · simp at hy; subst hy; simp
    · exact h y hy
  rcases hx with hx | rfl
  · have := key x ((List.dropLast_sublist _).mem hx); omega
  · have hl : ((if e.fresh = true then o ++ [[]] else o).getLastD []).length ≤ M := by
      generalize hq : (if e.fresh = true then o ++ [[]] else o) = q at key
      cases q with
      | nil => simp
      | cons a q =>
        have := key ((a :: q).getLastD []) (by rw [List.getLastD_cons]; exact List.getLastD_mem_cons)
        exact this
    simp only [List.length_append, List.length_cons, List.length_nil]
    omega
theorem outOf_bound (recs : List (List Int)) : ∀ (n : Nat) (l : List Ev), l.length = n → (∀ e ∈ l, e.n ≤ 106) → (∀ x ∈ outOf recs l, x.length ≤ n * 108) ∧ (outOf recs l).length ≤ n := by
  intro n
  induction n with
  | zero =>
    intro l hl _
    obtain rfl := List.eq_nil_of_length_eq_zero hl
    simp [outOf]
  | succ n ih =>
    intro l hl he
    have hne : l ≠ [] := fun e => by rw [e] at hl; simp at hl
    rw [← List.dropLast_concat_getLast hne] at he ⊢
    have hn : l.dropLast.length = n := by rw [List.length_dropLast]; omega
    obtain ⟨h1, h2⟩ := ih l.dropLast hn (fun e h => he e (List.mem_append_left _ h))
    rw [outOf_snoc]
    refine ⟨fun x hx => ?_, ?_⟩
    · have := cutStep_bound recs _ _ _ (he _ (List.mem_append_right _ (List.mem_singleton.2 rfl))) h1 x hx
      rw [Nat.succ_mul]
      exact this
    · simp only [cutStep, List.length_append, List.length_singleton, List.length_dropLast]
      split <;> simp <;> omega

def cutE (recs : List (List Int)) : Int := if 256 < recs.length then 3 else if recs.all (fun r => decide (r.length ≤ 8192)) = true then 0 else 2
def cutL (recs : List (List Int)) : List (List Int) := if cutE recs = 0 then outOf recs (plan 0 (recs.map List.length) 0) else []

end Go.Proofs.Ytedmhhllkkgbjaa
