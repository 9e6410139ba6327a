/- The two disks side by side; what DiskApart's crash shows, in plain words. -/
import Derived.Test.YtdamegjhdopfaaaE8
namespace Go.Proofs.Ytdamegjhdopfaaa
open Go.RowKit Go.WideShapes
set_option linter.unusedSimpArgs false
set_option linter.unusedVariables false

structure DB (w0 w : World) (g gr k : Nat) (T TR : Nat → Prop) (d dr : Dk) : Prop where
  a : DkAt w g T d
  b : RdAt w gr TR dr
  done : d.done ≤ k
  puts : d.puts ≤ k
  doneR : dr.done ≤ k
  putsR : dr.puts ≤ k
  big : ∀ q, T q → w0.heap.size ≤ q
  bigR : ∀ q, TR q → w0.heap.size ≤ q
  apart : ∀ q, T q → ¬ TR q
  fr : Fr (fun q => w0.heap.size ≤ q) w0 w
theorem write_le (d : Dk) (i : Int) (b : List Int) : (d.write i b).done ≤ max d.done (d.done + 1) ∧ (d.write i b).puts ≤ d.puts + 1 := by
  unfold Dk.write
  split
  · exact ⟨Int.le_max_right _ _, Nat.le_refl _⟩
  · omega
section
variable {w0 w w' : World} {g gr k : Nat} {T TR : Nat → Prop} {d dr : Dk}
theorem DB.fr0 (h : DB w0 w g gr k T TR d dr) (hF : Fr (fun _ => False) w w') : DB w0 w' g gr k T TR d dr :=
  ⟨h.a.fr0 hF, h.b.fr0 hF, h.done, h.puts, h.doneR, h.putsR, h.big, h.bigR, h.apart, h.fr.trans hF (fun _ _ h => h.elim)⟩
theorem DB.mono (h : DB w0 w g gr k T TR d dr) {k' : Nat} (hk : k ≤ k') : DB w0 w g gr k' T TR d dr :=
  ⟨h.a, h.b, by have := h.done; omega, by have := h.puts; omega, by have := h.doneR; omega, by have := h.putsR; omega, h.big, h.bigR, h.apart, h.fr⟩
def DBW1 (w0 : World) (g gr k : Nat) (TR : Nat → Prop) (d dr : Dk) (i : Int) (b : List Int) (e : Ending) (w' : World) : Prop :=
  ∃ T', e = .returned (.int .i64 (d.writeE i b.length)) ∧ DB w0 w' g gr (k + 1) T' TR (d.write i b) dr
def DBW2 (w0 : World) (g gr k : Nat) (T : Nat → Prop) (d dr : Dk) (i : Int) (b : List Int) (e : Ending) (w' : World) : Prop :=
  ∃ TR', e = .returned (.int .i64 (dr.writeE i b.length)) ∧ DB w0 w' g gr (k + 1) T TR' d (dr.write i b)
theorem DB.write1 (h : DB w0 w g gr k T TR d dr) (hk : k ≤ 1000) (i : Int) (A : Option Addr) (c : Nat) (b : List Int) (hR : ReadU w A b) (hb : ∀ x ∈ b, 0 ≤ x ∧ x < 256) :
    Calls Try.prog 18 #[.pointer (some ⟨g, 0, none⟩), .int .i64 i, .slice A b.length c] w (DBW1 w0 g gr k TR d dr i b) := by
  have hd := h.done
  have hp := h.puts
  have hdr := h.doneR
  have hpr := h.putsR
  refine (write_any h.a i A c b hR hb (by omega) (by omega)).mono ?_
  rintro e w' ⟨rfl, T', hat, hF, hT⟩
  have hle := write_le d i b
  refine ⟨T', rfl, hat, h.b.fr hF (fun q h1 h2 => h.apart q h2 h1), by omega, by omega, by omega, by omega, fun q hq => ?_, h.bigR, fun q hq hr => ?_, h.fr.trans hF (fun q _ hq => h.big q hq)⟩
  · rcases hT q hq with h1 | h1
    · exact h.big q h1
    · have := h.fr.size; omega
  · rcases hT q hq with h1 | h1
    · exact h.apart q h1 hr
    · have := h.b.lt q hr; omega
theorem DB.write2 (h : DB w0 w g gr k T TR d dr) (hk : k ≤ 1000) (i : Int) (A : Option Addr) (c : Nat) (b : List Int) (hR : ReadU w A b) (hb : ∀ x ∈ b, 0 ≤ x ∧ x < 256) :
    Calls Try.prog 20 #[.pointer (some ⟨gr, 0, none⟩), .int .i64 i, .slice A b.length c] w (DBW2 w0 g gr k T d dr i b) := by
  have hd := h.done
  have hp := h.puts
  have hdr := h.doneR
  have hpr := h.putsR
  refine (rwrite_any h.b i A c b hR hb (by omega) (by omega)).mono ?_
  rintro e w' ⟨rfl, T', hat, hF, hT⟩
  have hle := write_le dr i b
  refine ⟨T', rfl, h.a.fr hF (fun q h1 h2 => h.apart q h1 h2), hat, by omega, by omega, by omega, by omega, h.big, fun q hq => ?_, fun q hr hq => ?_, h.fr.trans hF (fun q _ hq => h.bigR q hq)⟩
  · rcases hT q hq with h1 | h1
    · exact h.bigR q h1
    · have := h.fr.size; omega
  · rcases hT q hq with h1 | h1
    · exact h.apart q hr h1
    · have := h.a.lt q hr; omega
theorem DB.write1f (h : DB w0 w g gr k T TR d dr) (hk : k ≤ 1000) (i : Int) (k1 : Nat) (b : List Int) (hr : w.heap[k1]? = some (.cells (by8 b).toArray 5 (0, 0))) (hb : Sec b) :
    Calls Try.prog 18 #[.pointer (some ⟨g, 0, none⟩), .int .i64 i, .slice (some ⟨k1, 0, none⟩) 128 128] w (DBW1 w0 g gr k TR d dr i b) := by
  have := h.write1 hk i (some ⟨k1, 0, none⟩) 128 b (readU_row hr) hb.2
  rw [hb.1] at this
  exact this
theorem DB.write2f (h : DB w0 w g gr k T TR d dr) (hk : k ≤ 1000) (i : Int) (k1 : Nat) (b : List Int) (hr : w.heap[k1]? = some (.cells (by8 b).toArray 5 (0, 0))) (hb : Sec b) :
    Calls Try.prog 20 #[.pointer (some ⟨gr, 0, none⟩), .int .i64 i, .slice (some ⟨k1, 0, none⟩) 128 128] w (DBW2 w0 g gr k T d dr i b) := by
  have := h.write2 hk i (some ⟨k1, 0, none⟩) 128 b (readU_row hr) hb.2
  rw [hb.1] at this
  exact this
/-- both are new -/
theorem db_new {w w1 w2 : World} (hF0 : Fr (fun _ => False) w w1) (hF1 : Fr (fun _ => False) w1 w2) {g gr : Nat} {T TR : Nat → Prop} {w3 : World} {F : List (List Int)} (ha : DkAt w2 g T (newDk F)) (hT : ∀ q, T q → w1.heap.size ≤ q)
    (hb : RdAt w3 gr TR (newDk F)) (hF2 : Fr (fun _ => False) w2 w3) (hTR : ∀ q, TR q → w2.heap.size ≤ q) : DB w w3 g gr 0 T TR (newDk F) (newDk F) := by
  have h0 := hF0.size
  have h1 := hF1.size
  exact ⟨ha.fr0 hF2, hb, by simp [newDk], by simp [newDk], by simp [newDk], by simp [newDk], fun q hq => by have := hT q hq; omega, fun q hq => by have := hTR q hq; omega,
    fun q h2 h3 => by have := hTR q h3; have := ha.lt q h2; omega, ((hF0.trans hF1 (fun _ _ h => h)).trans hF2 (fun _ _ h => h)).none⟩
end
/-- a disk of twelve sectors that is up, without a fuse -/
def Up12 (d : Dk) : Prop := d.F.length = 12 ∧ d.down = false ∧ d.fuse = -1
theorem Up12.wr {d : Dk} (h : Up12 d) (i : Int) (b : List Int) : Up12 (d.write i b) := by
  obtain ⟨h1, h2, h3⟩ := h
  unfold Dk.write
  split
  · exact ⟨h1, by simp [Dk.tick, Dk.wr, h2, h3], by simp [Dk.tick, Dk.wr, h3]⟩
  · exact ⟨h1, h2, h3⟩

theorem crash_far (d : Dk) : ∀ (ps : List (Lo × Ft)) (F : List (List Int)) (s : Nat), (∀ p ∈ ps, p.1.s.val ≠ s) → (ps.foldl (crash1 d) F).getD s [] = F.getD s []
  | [], _, _, _ => rfl
  | p :: ps, F, s, h => by
    rw [List.foldl_cons, crash_far d ps _ s (fun q hq => h q (List.mem_cons_of_mem _ hq))]
    have := h p (List.mem_cons_self ..)
    unfold crash1
    simp [List.getD, List.getElem?_set_ne this]
theorem crash_len (d : Dk) : ∀ (ps : List (Lo × Ft)) (F : List (List Int)), (ps.foldl (crash1 d) F).length = F.length
  | [], _ => rfl
  | p :: ps, F => by
    rw [List.foldl_cons, crash_len d ps]
    unfold crash1
    simp
theorem crash_at (d : Dk) : ∀ (ps : List (Lo × Ft)) (F : List (List Int)) (k : Nat) (m : Lo) (f : Ft), ps[k]? = some (m, f) → ps.Pairwise (fun x y => x.1.s.val ≠ y.1.s.val) → m.s.val < F.length →
    (ps.foldl (crash1 d) F).getD m.s.val [] = afterS (F.getD m.s.val []) (d.L (m.s.val : Int)) f
  | [], _, _, _, _, h, _, _ => by simp at h
  | p :: ps, F, 0, m, f, h, hp, hl => by
    obtain rfl : p = (m, f) := by simpa using h
    rw [List.pairwise_cons] at hp
    rw [List.foldl_cons, crash_far d ps _ _ (fun q hq e => hp.1 q hq e.symm)]
    unfold crash1
    simp [List.getD, List.getElem?_set_self hl]
  | p :: ps, F, k + 1, m, f, h, hp, hl => by
    have h1 : ps[k]? = some (m, f) := by simpa using h
    rw [List.pairwise_cons] at hp
    have hne := hp.1 _ (List.mem_of_getElem? h1)
    rw [List.foldl_cons, crash_at d ps _ k m f h1 hp.2 (by unfold crash1; simpa using hl)]
    unfold crash1
    simp only [List.getD, List.getElem?_set_ne hne]
theorem zip_apart {l : List Lo} (h : l.Pairwise (fun x y => x.s.val < y.s.val)) (fs : List Ft) : (l.zip fs).Pairwise (fun x y => x.1.s.val ≠ y.1.s.val) := by
  induction h generalizing fs with
  | nil => simp
  | @cons a l h1 h2 ih =>
    cases fs with
    | nil => simp
    | cons f fs =>
      rw [List.zip_cons_cons, List.pairwise_cons]
      refine ⟨fun q hq => ?_, ih fs⟩
      have := h1 q.1 (List.of_mem_zip hq).1
      simp only
      omega
theorem fit1_may (m : Nat) (hm : m ≤ 1000000) (f : Ft) : mayB (fit1 m f).keep (fit1 m f).cut m = true := by
  have h1 := modU_range f.keep (m + 1) (by omega) (by omega)
  have h2 := modU_range f.cut 128 (by omega) (by omega)
  unfold fit1 mayB
  split
  · rename_i e
    rw [e]
    simp
  · rename_i e
    simp only [Bool.and_eq_true, Bool.or_eq_true, decide_eq_true_eq]
    omega
theorem fitAll_len (l : List Lo) (fs : List Ft) (h : l.length ≤ fs.length) : (fitAll l fs).length = l.length := by simp [fitAll]; omega
theorem fitAll_at (l : List Lo) (fs : List Ft) {k : Nat} {m : Lo} {f : Ft} (h1 : l[k]? = some m) (h2 : (fitAll l fs)[k]? = some f) : ∃ f0, f = fit1 m.many f0 := by
  unfold fitAll at h2
  rw [List.getElem?_map] at h2
  obtain ⟨⟨m', f0⟩, h3, rfl⟩ := Option.map_eq_some_iff.1 h2
  obtain ⟨h4, h5⟩ := List.getElem?_zip_eq_some.1 h3
  rw [h1] at h4
  cases h4
  exact ⟨f0, rfl⟩
theorem fitAll_may (l : List Lo) (hm : ∀ m ∈ l, m.many ≤ 1000000) (fs : List Ft) {k : Nat} {m : Lo} {f : Ft} (h1 : l[k]? = some m) (h2 : (fitAll l fs)[k]? = some f) : mayB f.keep f.cut m.many = true := by
  obtain ⟨f0, rfl⟩ := fitAll_at l fs h1 h2
  exact fit1_may _ (hm m (List.mem_of_getElem? h1)) f0
/-- what the two crashes are -/
theorem apart_law (d : Dk) (l : List Lo) (hl : l = losOf d) (hm : ∀ m ∈ l, m.many ≤ 1000000) (hin : ∀ m ∈ l, m.s.val < d.F.length) (p q : List Ft) (hp : p.length = l.length) (hq : q.length = l.length)
    (hpm : ∀ (k : Nat) (f : Ft) (m : Lo), p[k]? = some f → l[k]? = some m → mayB f.keep f.cut m.many = true) (hqm : ∀ (k : Nat) (f : Ft) (m : Lo), q[k]? = some f → l[k]? = some m → mayB f.keep f.cut m.many = true)
    (k : Nat) (m : Lo) (f : Ft) (h1 : l[k]? = some m) (h2 : p[k]? = some f) :
    crashE l p = 0 ∧ crashE l (q.set k f) = 0 ∧ (crashF d l p).length = d.F.length ∧ (crashF d l (q.set k f)).length = d.F.length ∧
    (crashF d l p).getD m.s.val [] = afterS (d.F.getD m.s.val []) (d.L (m.s.val : Int)) f ∧ (crashF d l (q.set k f)).getD m.s.val [] = afterS (d.F.getD m.s.val []) (d.L (m.s.val : Int)) f := by
  have hk : k < q.length := by have := (List.getElem?_eq_some_iff.1 h1).1; omega
  have hrise := los_rise d
  rw [← hl] at hrise
  have hlt := hin m (List.mem_of_getElem? h1)
  have hE : ∀ r : List Ft, r.length = l.length → (∀ (k : Nat) (f : Ft) (m : Lo), r[k]? = some f → l[k]? = some m → mayB f.keep f.cut m.many = true) → crashE l r = 0 := fun r hr hrm => by
    unfold crashE
    rw [if_neg (by omega), fits_take l r (fun i f m h3 h4 => hrm i f m h3 h4)]
    rfl
  refine ⟨hE p hp hpm, hE _ (by simpa using hq) (fun i f' m' h3 h4 => ?_), crash_len _ _ _, crash_len _ _ _, ?_, ?_⟩
  · by_cases e : k = i
    · subst e
      rw [List.getElem?_set_self hk] at h3
      cases h3
      rw [h1] at h4
      cases h4
      exact hpm k f m h2 h1
    · rw [List.getElem?_set_ne e] at h3
      exact hqm i f' m' h3 h4
  · exact crash_at d _ _ k m f (List.getElem?_zip_eq_some.2 ⟨h1, h2⟩) (zip_apart hrise p) hlt
  · exact crash_at d _ _ k m f (List.getElem?_zip_eq_some.2 ⟨h1, by rw [List.getElem?_set_self hk]⟩) (zip_apart hrise _) hlt
end Go.Proofs.Ytdamegjhdopfaaa
