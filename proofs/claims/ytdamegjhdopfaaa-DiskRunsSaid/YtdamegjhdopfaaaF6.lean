/- Calls with all that they have; a call of both disks. -/
import Derived.Test.YtdamegjhdopfaaaF5
import Derived.Test.YtdamegjhdopfaaaE12
namespace Go.Proofs.Ytdamegjhdopfaaa
open Go.RowKit Go.ChangeShapes Go.WideShapes Go.Deep
set_option linter.unusedSimpArgs false
set_option linter.unusedVariables false

/-- all that a call's arguments say -/
structure OpD.Whole (w : World) (o : OpD) : Prop where
  read : ReadU w o.bA o.b
  byte : ∀ x ∈ o.b, 0 ≤ x ∧ x < 256
  cap : o.b.length ≤ o.bc ∧ o.bc ≤ maxLen
  none : o.bA = none → o.bc = 0
  mask : 0 ≤ o.mask ∧ o.mask < 256
  fates : ∃ fs : List Ft, fs.length = o.fn ∧ o.fn ≤ maxLen ∧ ReadFt w o.fA fs ∧ InI64 fs
theorem OpD.Whole.fr {w w' : World} {o : OpD} (h : o.Whole w) (hF : Fr (fun _ => False) w w') : o.Whole w' :=
  ⟨h.read.fr hF (fun _ _ _ h => h), h.byte, h.cap, h.none, h.mask, by obtain ⟨fs, h1, h2, h3, h4⟩ := h.fates; exact ⟨fs, h1, h2, h3.fr hF (fun _ _ _ h => h), h4⟩⟩
def ReadOps2 (w : World) (A : Option Addr) (os : List OpD) : Prop :=
  ∀ (i : Nat) (o : OpD), os[i]? = some o → (∃ g f, A = some ⟨g, f, none⟩ ∧ ∀ (j : Nat) (u : Value), o.cells[j]? = some u → w.cell? ⟨g, f + i * 8 + j, none⟩ = some u) ∧ o.Whole w
theorem bytes_cap {H : Type} {enc : TypeId × Value → H} {W : World} {base : Nat} {held : Bool} {n : Nat} {v : Value} {x : DataW H × List MemPlace} (h : DataW.trod enc Try.prog W base (fun _ => true) held n 33 [v] = some x) :
    ∃ (a : Option Addr) (c l : Nat), v = .slice a l c ∧ l ≤ c ∧ c ≤ maxLen ∧ (a = none → c = 0) := by
  rcases open_slice Try.underlying33 h with ⟨hcs, _⟩ | ⟨a, l, c, _, _, _, _, hcs, _, hl, hm, _⟩
  · simp only [List.cons.injEq, and_true] at hcs
    exact ⟨none, 0, 0, hcs, Nat.le_refl _, Nat.zero_le _, fun _ => rfl⟩
  · simp only [List.cons.injEq, and_true] at hcs
    exact ⟨some a, c, l, hcs, hl, hm, fun e => by cases e⟩
set_option maxRecDepth 100000 in
theorem opd_of2 {H : Type} {enc : TypeId × Value → H} {W : World} {base : Nat} {held : Bool} {n : Nat} {cs : List Value} {x : DataW H × List MemPlace} (h : DataW.trod enc Try.prog W base (fun _ => true) held n 35 cs = some x) :
    ∃ o : OpD, cs = o.cells ∧ o.Whole W := by
  obtain ⟨xs, n', _, _, hl, hx, hf⟩ := DataW.trod_struct Try.underlying35 h
  have hC : Try.prog.cellsOf 35 = 8 := by kernel_rfl
  have c3 : Try.prog.cellsOf 3 = 1 := by kernel_rfl
  have c4 : Try.prog.cellsOf 4 = 1 := by kernel_rfl
  have c5 : Try.prog.cellsOf 5 = 1 := by kernel_rfl
  have cb : Try.prog.cellsOf 33 = 1 := by kernel_rfl
  have cf : Try.prog.cellsOf 23 = 1 := by kernel_rfl
  rw [hC] at hl
  match cs, hl with
  | [u0, u1, u2, u3, u4, u5, u6, u7], _ =>
    match xs, hx with
    | [y0, y1, y2, y3, y4, y5, y6, y7], _ =>
      have h0 : DataW.trod enc Try.prog W base (fun _ => true) held n' 3 (([u0, u1, u2, u3, u4, u5, u6, u7].drop 0).take (Try.prog.cellsOf 3)) = some y0 := hf 0 _ rfl
      have h1 : DataW.trod enc Try.prog W base (fun _ => true) held n' 3 (([u0, u1, u2, u3, u4, u5, u6, u7].drop 1).take (Try.prog.cellsOf 3)) = some y1 := hf 1 _ rfl
      have h2 : DataW.trod enc Try.prog W base (fun _ => true) held n' 33 (([u0, u1, u2, u3, u4, u5, u6, u7].drop 2).take (Try.prog.cellsOf 33)) = some y2 := hf 2 _ rfl
      have h3 : DataW.trod enc Try.prog W base (fun _ => true) held n' 4 (([u0, u1, u2, u3, u4, u5, u6, u7].drop 3).take (Try.prog.cellsOf 4)) = some y3 := hf 3 _ rfl
      have h4 : DataW.trod enc Try.prog W base (fun _ => true) held n' 3 (([u0, u1, u2, u3, u4, u5, u6, u7].drop 4).take (Try.prog.cellsOf 3)) = some y4 := hf 4 _ rfl
      have h5 : DataW.trod enc Try.prog W base (fun _ => true) held n' 3 (([u0, u1, u2, u3, u4, u5, u6, u7].drop 5).take (Try.prog.cellsOf 3)) = some y5 := hf 5 _ rfl
      have h6 : DataW.trod enc Try.prog W base (fun _ => true) held n' 5 (([u0, u1, u2, u3, u4, u5, u6, u7].drop 6).take (Try.prog.cellsOf 5)) = some y6 := hf 6 _ rfl
      have h7 : DataW.trod enc Try.prog W base (fun _ => true) held n' 23 (([u0, u1, u2, u3, u4, u5, u6, u7].drop 7).take (Try.prog.cellsOf 23)) = some y7 := hf 7 _ rfl
      rw [c3] at h0 h1 h4 h5
      rw [cb] at h2
      rw [c4] at h3
      rw [c5] at h6
      rw [cf] at h7
      replace h0 : DataW.trod enc Try.prog W base (fun _ => true) held n' 3 [u0] = some y0 := h0
      replace h1 : DataW.trod enc Try.prog W base (fun _ => true) held n' 3 [u1] = some y1 := h1
      replace h2 : DataW.trod enc Try.prog W base (fun _ => true) held n' 33 [u2] = some y2 := h2
      replace h3 : DataW.trod enc Try.prog W base (fun _ => true) held n' 4 [u3] = some y3 := h3
      replace h4 : DataW.trod enc Try.prog W base (fun _ => true) held n' 3 [u4] = some y4 := h4
      replace h5 : DataW.trod enc Try.prog W base (fun _ => true) held n' 3 [u5] = some y5 := h5
      replace h6 : DataW.trod enc Try.prog W base (fun _ => true) held n' 5 [u6] = some y6 := h6
      replace h7 : DataW.trod enc Try.prog W base (fun _ => true) held n' 23 [u7] = some y7 := h7
      obtain ⟨i0, e0, _, _⟩ := DataW.trod_int Try.underlying3 h0
      obtain ⟨i1, e1, _, _⟩ := DataW.trod_int Try.underlying3 h1
      obtain ⟨a2, k2, b2, e2, _, hb, hbb⟩ := bytes_in h2
      obtain ⟨a2', k2', l2, e2', q1, q2, q3⟩ := bytes_cap h2
      obtain ⟨i3, e3, _⟩ := DataW.trod_bool Try.underlying4 h3
      obtain ⟨i4, e4, _, _⟩ := DataW.trod_int Try.underlying3 h4
      obtain ⟨i5, e5, _, _⟩ := DataW.trod_int Try.underlying3 h5
      obtain ⟨i6, e6, _, w6⟩ := DataW.trod_int Try.underlying5 h6
      obtain ⟨a7, k7, fs, e7, m7, r7, n7, _⟩ := fates_in h7
      simp only [List.cons.injEq, and_true] at e0 e1 e3 e4 e5 e6
      rw [e2] at e2'
      simp only [Value.slice.injEq] at e2'
      obtain ⟨rfl, rfl, rfl⟩ := e2'
      exact ⟨⟨i0, i1, a2, k2, b2, i3, i4, i5, i6, a7, fs.length, k7⟩, by rw [e0, e1, e2, e3, e4, e5, e6, e7]; rfl, ⟨hb, hbb, ⟨q1, q2⟩, q3, mask_wf w6, fs, rfl, m7, r7, n7⟩⟩
theorem ops_of2 {H : Type} {enc : TypeId × Value → H} {W : World} {held : Bool} {a : Option Addr} {len cap : Nat} {d : DataW H} {p : List MemPlace} (h : DataW.Trod enc Try.prog W 0 (fun _ => true) held 22 (.slice a len cap) d p) :
    ∃ os : List OpD, os.length = len ∧ len ≤ maxLen ∧ ReadOps2 W a os := by
  obtain ⟨fuel, hf⟩ := h
  rcases open_slice Try.underlying22 hf with ⟨hcs, _⟩ | ⟨x, l, c, m, n, D, Pl, hcs, hb, hl, hm, hmm, hx, hel⟩
  · simp [Value.cells] at hcs
    obtain ⟨rfl, rfl, rfl⟩ := hcs
    exact ⟨[], rfl, Nat.zero_le _, fun i m h => by simp at h⟩
  · simp [Value.cells] at hcs
    obtain ⟨rfl, rfl, rfl⟩ := hcs
    have hC : Try.prog.cellsOf 35 = 8 := by kernel_rfl
    rw [hC] at hel
    have hlm : len ≤ m := by rw [hmm]; split <;> omega
    have hS : ∀ i, i < len → ∃ s : OpD, s.Whole W ∧ ∀ j u, s.cells[j]? = some u → W.cell? (x.add (i * 8 + j)) = some u := by
      intro i hi
      obtain ⟨cs', h1, h2⟩ := hel i (by omega)
      obtain ⟨s, rfl, hs⟩ := opd_of2 h2
      obtain ⟨_, _, hc⟩ := World.cells?_some h1
      refine ⟨s, hs, fun j u hu => ?_⟩
      have hj : j < 8 := (List.getElem?_eq_some_iff.1 hu).1
      have := hc j hj
      rw [hu] at this
      have e : (x.add (i * 8)).add j = x.add (i * 8 + j) := by
        unfold Addr.add
        by_cases h1 : i * 8 = 0 <;> by_cases h2 : j = 0 <;> simp [h1, h2, Nat.add_assoc]
      rwa [e] at this
    obtain ⟨S, hSS⟩ := choose_lt (p := fun i (s : OpD) => s.Whole W ∧ ∀ j u, s.cells[j]? = some u → W.cell? (x.add (i * 8 + j)) = some u) hS
    refine ⟨(List.range len).map S, by simp, by omega, fun i s hs => ?_⟩
    have hi : i < len := by
      have := (List.getElem?_eq_some_iff.1 hs).1
      simpa using this
    obtain ⟨b, o, sp⟩ := x
    have hsp : sp = none := by simpa [Addr.add] using World.cell?_spot ((hSS 0 (by omega)).2 0 _ rfl)
    subst hsp
    rw [List.getElem?_map, List.getElem?_range hi] at hs
    obtain rfl := Option.some.inj hs
    refine ⟨⟨b, o, rfl, fun j u hu => ?_⟩, (hSS i hi).1⟩
    have := (hSS i hi).2 j u hu
    rwa [add_some, ← Nat.add_assoc] at this

/-- a call of the first, and of the second disk -/
def Op1 (w0 w : World) (g gr k : Nat) (T TR : Nat → Prop) (d' dr : Dk) (r : Int) (e : Ending) (w' : World) : Prop :=
  ∃ T', e = .returned (.int .i64 r) ∧ DB w0 w' g gr (k + 1) T' TR d' dr ∧ Fr T w w' ∧ ∀ q, q < w.heap.size → ¬ T q → ¬ T' q
def Op2 (w0 w : World) (g gr k : Nat) (T TR : Nat → Prop) (d dr' : Dk) (r : Int) (e : Ending) (w' : World) : Prop :=
  ∃ TR', e = .returned (.int .i64 r) ∧ DB w0 w' g gr (k + 1) T TR' d dr' ∧ Fr TR w w' ∧ ∀ q, q < w.heap.size → ¬ TR q → ¬ TR' q
theorem DkAt.tg {w : World} {g : Nat} {T : Nat → Prop} {d : Dk} (h : DkAt w g T d) : T g := by
  obtain ⟨FA, fc, bm, km, Dm, hd, h1, h2, h3⟩ := h
  exact h2 g (.inl rfl)
theorem RdAt.tg {w : World} {g : Nat} {T : Nat → Prop} {d : Dk} (h : RdAt w g T d) : T g := by
  obtain ⟨sb, U, hs, h1, h2, _⟩ := h
  exact h2
section
variable {w0 w w' : World} {g gr k : Nat} {T TR T' : Nat → Prop} {d dr d' : Dk}
theorem DB.op1 (h : DB w0 w g gr k T TR d dr) (hat : DkAt w' g T' d') (hF : Fr T w w') (hT : ∀ q, T' q → T q ∨ w.heap.size ≤ q) (hd : d'.done ≤ max d.done (d.done + 1)) (hp : d'.puts ≤ d.puts + 1) (r : Int) : Op1 w0 w g gr k T TR d' dr r (.returned (.int .i64 r)) w' := by
  have h1 := h.done
  have h2 := h.puts
  have h3 := h.doneR
  have h4 := h.putsR
  refine ⟨T', rfl, ⟨hat, h.b.fr hF (fun q h1 h2 => h.apart q h2 h1), by omega, by omega, by omega, by omega, fun q hq => ?_, h.bigR, fun q hq hr => ?_, h.fr.trans hF (fun q _ hq => h.big q hq)⟩, hF, fun q hq hn ht => ?_⟩
  · rcases hT q hq with h1 | h1
    · exact h.big q h1
    · have := h.fr.size; omega
  · rcases hT q hq with h1 | h1
    · exact h.apart q h1 hr
    · have := h.b.lt q hr; omega
  · rcases hT q ht with h1 | h1
    · exact hn h1
    · omega
theorem DB.op2 (h : DB w0 w g gr k T TR d dr) (hat : RdAt w' gr T' d') (hF : Fr TR w w') (hT : ∀ q, T' q → TR q ∨ w.heap.size ≤ q) (hd : d'.done ≤ max dr.done (dr.done + 1)) (hp : d'.puts ≤ dr.puts + 1) (r : Int) : Op2 w0 w g gr k T TR d d' r (.returned (.int .i64 r)) w' := by
  have h1 := h.done
  have h2 := h.puts
  have h3 := h.doneR
  have h4 := h.putsR
  refine ⟨T', rfl, ⟨h.a.fr hF (fun q h1 h2 => h.apart q h1 h2), hat, by omega, by omega, by omega, by omega, h.big, fun q hq => ?_, fun q hr hq => ?_, h.fr.trans hF (fun q _ hq => h.bigR q hq)⟩, hF, fun q hq hn ht => ?_⟩
  · rcases hT q hq with h1 | h1
    · exact h.bigR q h1
    · have := h.fr.size; omega
  · rcases hT q hq with h1 | h1
    · exact h.apart q hr h1
    · have := h.a.lt q hr; omega
  · rcases hT q ht with h1 | h1
    · exact hn h1
    · omega
theorem DB.w1 (h : DB w0 w g gr k T TR d dr) (hk : k ≤ 1000) (i : Int) (A : Option Addr) (c : Nat) (b : List Int) (hR : ReadU w A b) (hb : ∀ x ∈ b, 0 ≤ x ∧ x < 256) :
    Calls Try.prog 18 #[.pointer (some ⟨g, 0, none⟩), .int .i64 i, .slice A b.length c] w (Op1 w0 w g gr k T TR (d.write i b) dr (d.writeE i b.length)) := by
  have hd := h.done
  have hp := h.puts
  refine (write_any h.a i A c b hR hb (by omega) (by omega)).mono ?_
  rintro e w' ⟨rfl, T', hat, hF, hT⟩
  exact h.op1 hat hF hT (write_le d i b).1 (write_le d i b).2 _
theorem DB.w2 (h : DB w0 w g gr k T TR d dr) (hk : k ≤ 1000) (i : Int) (A : Option Addr) (c : Nat) (b : List Int) (hR : ReadU w A b) (hb : ∀ x ∈ b, 0 ≤ x ∧ x < 256) :
    Calls Try.prog 20 #[.pointer (some ⟨gr, 0, none⟩), .int .i64 i, .slice A b.length c] w (Op2 w0 w g gr k T TR d (dr.write i b) (dr.writeE i b.length)) := by
  have hd := h.doneR
  have hp := h.putsR
  refine (rwrite_any h.b i A c b hR hb (by omega) (by omega)).mono ?_
  rintro e w' ⟨rfl, T', hat, hF, hT⟩
  exact h.op2 hat hF hT (write_le dr i b).1 (write_le dr i b).2 _
theorem flush_le (d : Dk) : d.flush.done ≤ max d.done (d.done + 1) ∧ d.flush.puts ≤ d.puts + 1 := by
  unfold Dk.flush
  split
  · omega
  · exact ⟨Int.le_max_right _ _, Nat.le_succ _⟩
theorem DB.f1 (h : DB w0 w g gr k T TR d dr) (hk : k ≤ 1000) : Calls Try.prog 28 #[.pointer (some ⟨g, 0, none⟩)] w (Op1 w0 w g gr k T TR d.flush dr d.flushE) := by
  have hd := h.done
  have hp := h.puts
  refine (flush_any h.a (by omega) (by omega)).mono ?_
  rintro e w' ⟨rfl, hat, hF⟩
  exact h.op1 hat hF (fun q hq => .inl hq) (flush_le d).1 (flush_le d).2 _
theorem DB.f2 (h : DB w0 w g gr k T TR d dr) (hk : k ≤ 1000) : Calls Try.prog 65 #[.pointer (some ⟨gr, 0, none⟩)] w (Op2 w0 w g gr k T TR d dr.flush dr.flushE) := by
  have hd := h.doneR
  have hp := h.putsR
  refine (rflush_any h.b (by omega) (by omega)).mono ?_
  rintro e w' ⟨rfl, hat, hF⟩
  exact h.op2 hat hF (fun q hq => .inl hq) (flush_le dr).1 (flush_le dr).2 _
theorem fuse_le (d : Dk) (n : Int) : (d.setFuse n).done ≤ max d.done (d.done + 1) ∧ (d.setFuse n).puts ≤ d.puts + 1 := by
  unfold Dk.setFuse
  split
  · exact ⟨Int.le_max_left _ _, Nat.le_succ _⟩
  · omega
theorem DB.u1 (h : DB w0 w g gr k T TR d dr) (n : Int) : Calls Try.prog 29 #[.pointer (some ⟨g, 0, none⟩), .int .i64 n] w (Op1 w0 w g gr k T TR (d.setFuse n) dr (d.fuseE n)) := by
  refine (fuse_any h.a n).mono ?_
  rintro e w' ⟨rfl, hat, hF⟩
  exact h.op1 hat (hF.mono (fun q _ e => by rw [e]; exact h.a.tg)) (fun q hq => .inl hq) (fuse_le d n).1 (fuse_le d n).2 _
theorem DB.u2 (h : DB w0 w g gr k T TR d dr) (n : Int) : Calls Try.prog 66 #[.pointer (some ⟨gr, 0, none⟩), .int .i64 n] w (Op2 w0 w g gr k T TR d (dr.setFuse n) (dr.fuseE n)) := by
  refine (rfuse_any h.b n).mono ?_
  rintro e w' ⟨rfl, hat, hF⟩
  exact h.op2 hat (hF.mono (fun q _ e => by rw [e]; exact h.b.tg)) (fun q hq => .inl hq) (fuse_le dr n).1 (fuse_le dr n).2 _
theorem rot_le (d : Dk) (i j m : Int) : (d.rot i j m).done ≤ max d.done (d.done + 1) ∧ (d.rot i j m).puts ≤ d.puts + 1 := by
  unfold Dk.rot
  split
  · exact ⟨Int.le_max_left _ _, Nat.le_succ _⟩
  · omega
theorem DB.r1 (h : DB w0 w g gr k T TR d dr) (i j m : Int) (hm : 0 ≤ m ∧ m < 256) : Calls Try.prog 26 #[.pointer (some ⟨g, 0, none⟩), .int .i64 i, .int .i64 j, .int .u8 m] w (Op1 w0 w g gr k T TR (d.rot i j m) dr (d.rotE i j)) := by
  refine (rot_all h.a i j m hm).mono ?_
  rintro e w' ⟨rfl, hat, hF⟩
  exact h.op1 hat hF (fun q hq => .inl hq) (rot_le d i j m).1 (rot_le d i j m).2 _
theorem DB.r2 (h : DB w0 w g gr k T TR d dr) (i j m : Int) (hm : 0 ≤ m ∧ m < 256) : Calls Try.prog 67 #[.pointer (some ⟨gr, 0, none⟩), .int .i64 i, .int .i64 j, .int .u8 m] w (Op2 w0 w g gr k T TR d (dr.rot i j m) (dr.rotE i j)) := by
  refine (rrot_any h.b i j m hm).mono ?_
  rintro e w' ⟨rfl, T', hat, hF, hT⟩
  exact h.op2 hat hF hT (rot_le dr i j m).1 (rot_le dr i j m).2 _
end
end Go.Proofs.Ytdamegjhdopfaaa
