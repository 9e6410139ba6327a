/- Rows of fates: that are read, that are one's own; zeros behind them. -/
import Derived.Test.YtdamegjhdopfaaaE9
namespace Go.Proofs.Ytdamegjhdopfaaa
open Go.RowKit Go.WideShapes
set_option linter.unusedSimpArgs false
set_option linter.unusedVariables false

theorem ft_len (fs : List Ft) : (fs.flatMap Ft.cells).length = fs.length * 2 := flat_length (f := Ft.cells) (s := 2) (fun _ => rfl) fs
theorem ft_one (fs : List Ft) : ∀ u ∈ fs.flatMap Ft.cells, u.oneCell' = true := fun u hu => by
  obtain ⟨f, _, hf⟩ := List.mem_flatMap.1 hu
  simp only [Ft.cells, List.mem_cons, List.not_mem_nil, or_false] at hf
  rcases hf with rfl | rfl <;> rfl
theorem ReadFt.news {w : World} {A : Option Addr} {fs : List Ft} (h : ReadFt w A fs) : ∀ ad, A = some ad → ∀ j u, (fs.flatMap Ft.cells)[j]? = some u → w.cell? (ad.add j) = some u := by
  intro ad e j u hu
  have hj := (List.getElem?_eq_some_iff.1 hu).1
  rw [ft_len] at hj
  obtain ⟨f, hf⟩ : ∃ f, fs[j / 2]? = some f := ⟨_, List.getElem?_eq_getElem (by omega)⟩
  obtain ⟨g, o, e', hc⟩ := h _ f hf
  rw [e'] at e
  cases e
  obtain ⟨v, hv⟩ : ∃ v, f.cells[j % 2]? = some v := ⟨_, List.getElem?_eq_getElem (by show j % 2 < 2; omega)⟩
  have h1 := flat_at (f := Ft.cells) (s := 2) (fun _ => rfl) fs (j / 2) (j % 2) f v hf hv
  rw [show j / 2 * 2 + j % 2 = j by omega, hu] at h1
  cases h1
  have := hc _ _ hv
  rw [add_some]
  rw [show o + j = o + j / 2 * 2 + j % 2 by omega]
  exact this
theorem ReadFt.none {w : World} {A : Option Addr} {fs : List Ft} (h : ReadFt w A fs) (e : A = none) : fs.length = 0 := by
  cases fs with
  | nil => rfl
  | cons f fs =>
    obtain ⟨g, o, e', _⟩ := h 0 f rfl
    rw [e] at e'
    cases e'
theorem readFt_own {w : World} {B n c : Nat} {A : Option Addr} {fs : List Ft} (h : w.ownsRow B 43 2 (.slice A n c) n (fs.flatMap Ft.cells)) : ReadFt w A fs := by
  intro i f hf
  have hi := (List.getElem?_eq_some_iff.1 hf).1
  have hl := h.1
  rw [ft_len] at hl
  rcases h.2 with ⟨_, h0⟩ | ⟨g, c2, cur, hv, _⟩
  · omega
  · simp only [Value.slice.injEq] at hv
    obtain ⟨rfl, _⟩ := hv
    refine ⟨g, 0, rfl, fun j u hu => ?_⟩
    have := (own_news h).1 _ rfl _ u (flat_at (f := Ft.cells) (s := 2) (fun _ => rfl) fs i j f u hf hu)
    rw [add_some] at this
    rw [show 0 + i * 2 + j = 0 + (i * 2 + j) by omega]
    exact this
theorem zero_ft (k : Nat) : (Builtin.zeroCells (Value.agg #[.int .i64 0, .int .i64 0]).cells k).toList = (List.replicate k (⟨0, 0⟩ : Ft)).flatMap Ft.cells := by
  have h1 : (List.replicate k (⟨0, 0⟩ : Ft)).flatMap Ft.cells = List.replicate (k * 2) (Value.int .i64 0) := by
    induction k with
    | zero => rfl
    | succ k ih =>
      rw [List.replicate_succ, List.flatMap_cons, ih, show (k + 1) * 2 = (k * 2 + 1) + 1 by omega, List.replicate_succ, List.replicate_succ]
      rfl
  rw [h1]
  refine List.eq_replicate_iff.2 ⟨?_, fun u hu => ?_⟩
  · rw [Array.length_toList, size_zeroCells]
    rfl
  · simp only [Builtin.zeroCells, Array.toList_map, List.mem_map] at hu
    obtain ⟨j, _, rfl⟩ := hu
    have : j % 2 = 0 ∨ j % 2 = 1 := by omega
    rcases this with e | e
    · show (#[Value.int .i64 0, .int .i64 0] : Array Value)[j % 2]! = _
      rw [e]; rfl
    · show (#[Value.int .i64 0, .int .i64 0] : Array Value)[j % 2]! = _
      rw [e]; rfl
theorem ft_set : ∀ (fs : List Ft) (k : Nat) (f : Ft), ((fs.flatMap Ft.cells).set (k * 2) (.int .i64 f.keep)).set (k * 2 + 1) (.int .i64 f.cut) = (fs.set k f).flatMap Ft.cells
  | [], k, f => rfl
  | x :: fs, 0, f => rfl
  | x :: fs, k + 1, f => by
    rw [List.flatMap_cons, List.set_cons_succ, List.flatMap_cons, ← ft_set fs k f, show (k + 1) * 2 = k * 2 + 1 + 1 by omega]
    rfl
/-- zeros behind a row of fates of one's own -/
theorem run_zeros_ft (w : World) (A : Option Addr) (n c base : Nat) (fs : List Ft) (kq : IntKind) (hown : w.ownsRow base 43 2 (.slice A n c) n (fs.flatMap Ft.cells)) (k : Nat) (h0 : 0 < k) (h63 : n + k ≤ maxLen) (hbytes : (n + k) * 16 ≤ 140737488355328) (hbase : base ≤ w.heap.size) :
    ∃ A' c' w', (Builtin.append_ #[23, 3] 23 #[.slice A n c, .int kq k]).run Try.prog w = .ok (.slice A' (n + k) c') w' ∧ w'.ownsRow base 43 2 (.slice A' (n + k) c') (n + k) ((fs ++ List.replicate k (⟨0, 0⟩ : Ft)).flatMap Ft.cells) ∧ w.grownBy w' (Value.slice A n c).ownBlock := by
  obtain ⟨i, hi, h1⟩ := Option.map_eq_some_iff.1 fit_info
  simp only [Prod.mk.injEq] at h1
  obtain ⟨hz, hsz, hb⟩ := h1
  obtain ⟨v, w', hr, ho, hg⟩ := run_zeros_own (P := Try.prog) w base 23 3 23 43 i _ kq .i64 2 16 Try.underlying23 Try.underlying3 hi hz hsz hb rfl (by decide) (fun u hu => by simp [Value.cells] at hu; rw [hu]; rfl) A n c _ hown k h0 _ (zero_ft k) h63 hbytes hbase
  obtain ⟨A', c', rfl⟩ := own_slice ho
  rw [← List.flatMap_append] at ho
  exact ⟨A', c', w', hr, ho, hg⟩
end Go.Proofs.Ytdamegjhdopfaaa
