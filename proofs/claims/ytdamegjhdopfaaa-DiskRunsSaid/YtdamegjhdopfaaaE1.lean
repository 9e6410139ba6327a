/- The document's disk (lienref03.Disk): how it stands in memory; Down, has, done. -/
import Derived.Test.YtdamegjhdopfaaaD26
namespace Go.Proofs.Ytdamegjhdopfaaa
open Go.RowKit Go.WideShapes
set_option linter.unusedSimpArgs false
set_option linter.unusedVariables false

/-- bytes that are read, in a block of U -/
def ReadV (U : Nat → Prop) (w : World) (A : Option Addr) (x : List Int) : Prop :=
  ∀ (j : Nat) (b : Int), x[j]? = some b → ∃ g o, A = some ⟨g, o, none⟩ ∧ U g ∧ w.cell? ⟨g, o + j, none⟩ = some (.int .u8 b)
/-- rows of sectors that are read, all in blocks of U -/
def ReadVV (U : Nat → Prop) (w : World) (A : Option Addr) (xs : List (List Int)) : Prop :=
  ∀ (i : Nat) (x : List Int), xs[i]? = some x → ∃ g o PA pc, A = some ⟨g, o, none⟩ ∧ U g ∧ w.cell? ⟨g, o + i, none⟩ = some (.slice PA 128 pc) ∧ ReadV U w PA x
section
variable {U U' : Nat → Prop} {w w' : World} {A : Option Addr}
theorem ReadV.fr {S : Nat → Prop} {x : List Int} (h : ReadV U w A x) (hF : Fr S w w') (hS : ∀ k, U k → ¬ S k) : ReadV U w' A x := fun j b hb => by
  obtain ⟨g, o, e, hu, hc⟩ := h j b hb
  exact ⟨g, o, e, hu, hF.cell hc (hS g hu)⟩
theorem ReadV.mono {x : List Int} (h : ReadV U w A x) (hU : ∀ k, U k → U' k) : ReadV U' w A x := fun j b hb => by
  obtain ⟨g, o, e, hu, hc⟩ := h j b hb
  exact ⟨g, o, e, hU g hu, hc⟩
theorem ReadV.u {x : List Int} (h : ReadV U w A x) : ReadU w A x := fun j b hb => by
  obtain ⟨g, o, e, hu, hc⟩ := h j b hb
  exact ⟨g, o, e, hc⟩
theorem ReadVV.fr {S : Nat → Prop} {xs : List (List Int)} (h : ReadVV U w A xs) (hF : Fr S w w') (hS : ∀ k, U k → ¬ S k) : ReadVV U w' A xs := fun i x hx => by
  obtain ⟨g, o, PA, pc, e, hu, hc, hr⟩ := h i x hx
  exact ⟨g, o, PA, pc, e, hu, hF.cell hc (hS g hu), hr.fr hF hS⟩
theorem ReadVV.mono {xs : List (List Int)} (h : ReadVV U w A xs) (hU : ∀ k, U k → U' k) : ReadVV U' w A xs := fun i x hx => by
  obtain ⟨g, o, PA, pc, e, hu, hc, hr⟩ := h i x hx
  exact ⟨g, o, PA, pc, e, hU g hu, hc, hr.mono hU⟩
theorem ReadVV.nil : ReadVV U w A [] := fun i x hx => by simp at hx
end
/-- what any disk has, in plain words -/
structure Dk.Pure (d : Dk) : Prop where
  secs : ∀ s ∈ d.F, Sec s
  pos : 0 < d.F.length
  few : d.F.length ≤ 4096
  lsecs : ∀ i, ∀ s ∈ d.L i, Sec s
  within : ∀ i, d.L i ≠ [] → 0 ≤ i ∧ i < d.F.length
  lens : ∀ i, (d.L i).length ≤ d.puts
  dones : 0 ≤ d.done
  fuses : -1 ≤ d.fuse ∧ d.fuse ≤ 1048576
  dw : d.down = decide (d.fuse = 0)
/-- a sector of the document's disk: two heads -/
structure Oh where
  fa : Option Addr
  fn : Nat
  fc : Nat
  la : Option Addr
  ll : Nat
  lc : Nat
def Oh.cells (h : Oh) : List Value := [.slice h.fa h.fn h.fc, .slice h.la h.ll h.lc]
theorem Oh.len (h : Oh) : h.cells.length = 2 := rfl
def noOh : Oh := ⟨none, 0, 0, none, 0, 0⟩
/-- a head tells of a sector -/
def Oh.is (U : Nat → Prop) (w : World) (h : Oh) (s : List Int) (l : List (List Int)) : Prop := h.fn = 128 ∧ h.ll = l.length ∧ ReadV U w h.fa s ∧ ReadVV U w h.la l
def Dk.left (d : Dk) : Int := if 0 ≤ d.fuse then d.fuse else 0
structure RdIn (w : World) (g sb : Nat) (U : Nat → Prop) (hs : List Oh) (d : Dk) : Prop where
  box : w.heap[g]? = some (.cells #[.slice (some ⟨sb, 0, none⟩) d.F.length d.F.length, .bool (decide (0 ≤ d.fuse)), .int .i64 d.left, .int .i64 d.done] 55 (0, 0))
  row : w.heap[sb]? = some (.cells (hs.flatMap Oh.cells).toArray 52 (0, 0))
  len : hs.length = d.F.length
  is : ∀ (i : Nat) (o : Oh), hs[i]? = some o → o.is U w (d.F.getD i []) (d.L i)
  pure : d.Pure
  ug : ¬ U g
  us : ¬ U sb
/-- the document's disk; T: the blocks that it has -/
def RdAt (w : World) (g : Nat) (T : Nat → Prop) (d : Dk) : Prop :=
  ∃ sb U hs, RdIn w g sb U hs d ∧ T g ∧ T sb ∧ (∀ k, U k → T k) ∧ ∀ k, T k → k < w.heap.size
section
variable {w w' : World} {g sb : Nat} {U T S : Nat → Prop} {hs : List Oh} {d : Dk}
theorem RdIn.ne (h : RdIn w g sb U hs d) : sb ≠ g := fun e => by
  have h1 := h.row
  rw [e] at h1
  have := h.box.symm.trans h1
  simp at this
theorem RdIn.fr (h : RdIn w g sb U hs d) (hF : Fr S w w') (hg : ¬ S g) (hsb : ¬ S sb) (hU : ∀ k, U k → ¬ S k) : RdIn w' g sb U hs d :=
  ⟨hF.blk h.box hg, hF.blk h.row hsb, h.len, fun i o ho => by
    obtain ⟨h1, h2, h3, h4⟩ := h.is i o ho
    exact ⟨h1, h2, h3.fr hF hU, h4.fr hF hU⟩, h.pure, h.ug, h.us⟩
theorem RdAt.fr (h : RdAt w g T d) (hF : Fr S w w') (hS : ∀ k, T k → ¬ S k) : RdAt w' g T d := by
  obtain ⟨sb, U, hs, h1, h2, h3, h4, h5⟩ := h
  exact ⟨sb, U, hs, h1.fr hF (hS g h2) (hS sb h3) (fun k hk => hS k (h4 k hk)), h2, h3, h4, fun k hk => Nat.lt_of_lt_of_le (h5 k hk) hF.size⟩
theorem RdAt.fr0 (h : RdAt w g T d) (hF : Fr (fun _ => False) w w') : RdAt w' g T d := h.fr hF (fun _ _ h => h)
theorem RdAt.lt (h : RdAt w g T d) : ∀ k, T k → k < w.heap.size := by
  obtain ⟨sb, U, hs, h1, h2, h3, h4, h5⟩ := h
  exact h5
theorem RdAt.pure (h : RdAt w g T d) : d.Pure := by
  obtain ⟨sb, U, hs, h1, _⟩ := h
  exact h1.pure
/-- a sector's cells -/
theorem RdIn.cells (h : RdIn w g sb U hs d) {i : Nat} (hi : i < d.F.length) : ∃ o, hs[i]? = some o ∧ o.is U w (d.F.getD i []) (d.L i) ∧ w.cell? ⟨sb, i * 2, none⟩ = some (.slice o.fa 128 o.fc) ∧ w.cell? ⟨sb, i * 2 + 1, none⟩ = some (.slice o.la (d.L i).length o.lc) := by
  obtain ⟨o, ho⟩ : ∃ o, hs[i]? = some o := ⟨_, List.getElem?_eq_getElem (by rw [h.len]; exact hi)⟩
  have his := h.is i o ho
  have i1 := his.1
  have i2 := his.2.1
  refine ⟨o, ho, his, ?_, ?_⟩
  · rw [blk_cell h.row, ← i1]
    have := flat_at (f := Oh.cells) (s := 2) (fun _ => rfl) hs i 0 o _ ho rfl
    simpa using this
  · rw [blk_cell h.row, ← i2]
    have := flat_at (f := Oh.cells) (s := 2) (fun _ => rfl) hs i 1 o _ ho rfl
    simpa using this
end

set_option maxRecDepth 100000 in
theorem rdown_any {w : World} {g : Nat} {T : Nat → Prop} {d : Dk} (h : RdAt w g T d) : Calls Try.prog 54 #[.pointer (some ⟨g, 0, none⟩)] w (fun e w' => e = .returned (.bool d.down) ∧ w' = w) := by
  obtain ⟨sb, U, hs, h1, _⟩ := h
  have c1 : w.cell? ⟨g, 1, none⟩ = some (.bool (decide (0 ≤ d.fuse))) := blk_cell h1.box 1
  have c2 : w.cell? ⟨g, 2, none⟩ = some (.int .i64 d.left) := blk_cell h1.box 2
  have hdw := h1.pure.dw
  clear h1
  by_cases hf : 0 ≤ d.fuse
  · have hl : d.left = d.fuse := if_pos hf
    rw [hl] at c2
    rw [decide_eq_true hf] at c1
    have HD : Hid (d.down = (d.fuse == 0)) := (by rw [hdw]; by_cases e : d.fuse = 0 <;> simp [e] : d.down = (d.fuse == 0))
    clear hl hdw
    go_enter Try.func54, Try.ntmps54
    go_wp2
    go_ret
    exact ⟨by rw [HD.out]; rfl, rfl⟩
  · rw [decide_eq_false hf] at c1
    have HD : Hid (d.down = false) := (by rw [hdw]; have : d.fuse ≠ 0 := (by omega); simp [this] : d.down = false)
    clear hdw c2
    go_enter Try.func54, Try.ntmps54
    go_wp2
    go_ret
    exact ⟨by rw [HD.out]; rfl, rfl⟩

set_option maxRecDepth 100000 in
theorem rhas_any {w : World} {g : Nat} {T : Nat → Prop} {d : Dk} (h : RdAt w g T d) (i : Int) : Calls Try.prog 55 #[.pointer (some ⟨g, 0, none⟩), .int .i64 i] w (fun e w' => e = .returned (.bool (decide (0 ≤ i) && decide (i < d.F.length))) ∧ w' = w) := by
  obtain ⟨sb, U, hs, h1, _⟩ := h
  have h0 : w.cell? ⟨g, 0, none⟩ = some (.slice (some ⟨sb, 0, none⟩) d.F.length d.F.length) := blk_cell h1.box 0
  clear h1
  go_enter Try.func55, Try.ntmps55
  by_cases hi : 0 ≤ i
  · go_wp2
    go_ret
    exact ⟨by simp [hi], rfl⟩
  · go_wp2
    go_ret
    exact ⟨by simp; omega, rfl⟩

theorem Dk.Pure.tick {d : Dk} (h : d.Pure) (hd : d.down = false) : d.tick.Pure := by
  have hf := h.fuses
  have hw := h.dw
  have hd0 := h.dones
  refine ⟨h.secs, h.pos, h.few, h.lsecs, h.within, h.lens, by show 0 ≤ d.done + 1; omega, ?_, ?_⟩
  · show -1 ≤ (if 0 < d.fuse then d.fuse - 1 else d.fuse) ∧ (if 0 < d.fuse then d.fuse - 1 else d.fuse) ≤ 1048576
    split <;> omega
  · show (if 0 < d.fuse then decide (d.fuse = 1) else d.down) = decide ((if 0 < d.fuse then d.fuse - 1 else d.fuse) = 0)
    split
    · apply Bool.eq_iff_iff.2; simp; omega
    · exact hw
/-- the box of the document's disk is written -/
theorem RdIn.boxed {w w' : World} {g sb : Nat} {U : Nat → Prop} {hs : List Oh} {d : Dk} (h : RdIn w g sb U hs d) (hF : Fr (fun k => k = g) w w') (d' : Dk) (e1 : d'.F = d.F) (e2 : d'.L = d.L) (hp : d'.Pure)
    (hb : w'.heap[g]? = some (.cells #[.slice (some ⟨sb, 0, none⟩) d.F.length d.F.length, .bool (decide (0 ≤ d'.fuse)), .int .i64 d'.left, .int .i64 d'.done] 55 (0, 0))) : RdIn w' g sb U hs d' := by
  have hu : ∀ k, U k → ¬ k = g := fun k hk e => h.ug (by rw [← e]; exact hk)
  refine ⟨by rw [e1]; exact hb, hF.blk h.row h.ne, by rw [e1]; exact h.len, fun i o ho => ?_, hp, h.ug, h.us⟩
  obtain ⟨h1, h2, h3, h4⟩ := h.is i o ho
  rw [e1, e2]
  exact ⟨h1, h2, h3.fr hF hu, h4.fr hF hu⟩
def RdonePost (w : World) (g : Nat) (T : Nat → Prop) (d : Dk) (e : Ending) (w' : World) : Prop :=
  e = .returned (.int .i64 0) ∧ RdAt w' g T d.tick ∧ Fr (fun k => k = g) w w'
set_option maxRecDepth 100000 in
theorem rdone_any {w : World} {g : Nat} {T : Nat → Prop} {d : Dk} (h : RdAt w g T d) (hdn : d.down = false) (hd : d.done ≤ 1000000000) : Calls Try.prog 56 #[.pointer (some ⟨g, 0, none⟩)] w (RdonePost w g T d) := by
  obtain ⟨sb, U, hs, h1, h2, h3, h4, h5⟩ := h
  have hf := h1.pure.fuses
  have hd0 := h1.pure.dones
  have hdw := h1.pure.dw
  rw [hdn] at hdw
  have hf0 : d.fuse ≠ 0 := by simpa using hdw.symm
  have hpt := h1.pure.tick hdn
  have hbox := h1.box
  have c1 : w.cell? ⟨g, 1, none⟩ = some (.bool (decide (0 ≤ d.fuse))) := blk_cell hbox 1
  have c2 : w.cell? ⟨g, 2, none⟩ = some (.int .i64 d.left) := blk_cell hbox 2
  have c3 : w.cell? ⟨g, 3, none⟩ = some (.int .i64 d.done) := blk_cell hbox 3
  have f2 := blk_frozen hbox 2
  have f3 := blk_frozen hbox 3
  have H1 := Lib.hid h1
  have H4 := Lib.hid h4
  have H5 := Lib.hid h5
  have HP := Lib.hid hpt
  have HG := Lib.hid h2
  have HS := Lib.hid h3
  clear h1 h2 h3 h4 h5 hpt hdw hbox hdn
  by_cases hf1 : 0 < d.fuse
  · have hl : d.left = d.fuse := if_pos (by omega)
    rw [hl] at c2
    rw [decide_eq_true (by omega)] at c1
    have HL := Lib.hid hl
    clear hl
    go_enter Try.func56, Try.ntmps56
    go_wp2
    go_ret
    have hF : Fr (fun k => k = g) w ((w.setCell ⟨g, 3, none⟩ (.int .i64 (d.done + 1))).setCell ⟨g, 2, none⟩ (.int .i64 (d.fuse - 1))) := setg_fr (setg_fr (Fr.refl _ w) 3 _) 2 _
    refine ⟨rfl, ⟨sb, U, hs, H1.out.boxed hF d.tick rfl rfl HP.out ?_, HG.out, HS.out, H4.out, fun k hk => Nat.lt_of_lt_of_le (H5.out k hk) hF.size⟩, hF⟩
    have ht : d.tick.fuse = d.fuse - 1 := if_pos hf1
    have htl : d.tick.left = d.fuse - 1 := by unfold Dk.left; rw [ht, if_pos (by omega)]
    rw [ht, htl, decide_eq_true (by omega)]
    have := blk_set (blk_set H1.out.box 3 (.int .i64 (d.done + 1))) 2 (.int .i64 (d.fuse - 1))
    rw [decide_eq_true (show 0 ≤ d.fuse by omega)] at this
    simpa [Dk.tick] using this
  · rw [decide_eq_false (by omega)] at c1
    go_enter Try.func56, Try.ntmps56
    go_wp2
    go_ret
    have hF : Fr (fun k => k = g) w (w.setCell ⟨g, 3, none⟩ (.int .i64 (d.done + 1))) := setg_fr (Fr.refl _ w) 3 _
    refine ⟨rfl, ⟨sb, U, hs, H1.out.boxed hF d.tick rfl rfl HP.out ?_, HG.out, HS.out, H4.out, fun k hk => Nat.lt_of_lt_of_le (H5.out k hk) hF.size⟩, hF⟩
    have ht : d.tick.fuse = d.fuse := if_neg (by omega)
    have htl : d.tick.left = d.left := by unfold Dk.left; rw [ht]
    rw [ht, htl]
    have := blk_set H1.out.box 3 (.int .i64 (d.done + 1))
    simpa [Dk.tick] using this
end Go.Proofs.Ytdamegjhdopfaaa
