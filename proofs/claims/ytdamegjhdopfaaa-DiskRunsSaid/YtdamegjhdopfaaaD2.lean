/- A disk: has, told, Size, Done, Down. -/
import Derived.Test.YtdamegjhdopfaaaD1
namespace Go.Proofs.Ytdamegjhdopfaaa
open Go.RowKit Go.WideShapes

set_option maxRecDepth 100000 in
theorem has_any {w : World} {g : Nat} {T : Nat → Prop} {d : Dk} (h : DkAt w g T d) (i : Int) : Calls Try.prog 52 #[.pointer (some ⟨g, 0, none⟩), .int .i64 i] w (fun e w' => e = .returned (.bool (decide (0 ≤ i) && decide (i < d.F.length))) ∧ w' = w) := by
  obtain ⟨FA, fc, bm, km, Dm, hd, h1, h2, h3⟩ := h
  have h0 : w.cell? ⟨g, 0, none⟩ = some (.slice FA d.F.length fc) := blk_cell h1.box 0
  clear h1 h2 h3
  go_enter Try.func52, Try.ntmps52
  by_cases hi : 0 ≤ i
  · go_wp2
    go_ret
    exact ⟨by simp [hi], rfl⟩
  · go_wp2
    go_ret
    exact ⟨by simp; omega, rfl⟩

set_option maxRecDepth 100000 in
theorem size_any {w : World} {g : Nat} {T : Nat → Prop} {d : Dk} (h : DkAt w g T d) : Calls Try.prog 34 #[.pointer (some ⟨g, 0, none⟩)] w (fun e w' => e = .returned (.int .i64 d.F.length) ∧ w' = w) := by
  have H := Lib.hid h
  obtain ⟨FA, fc, bm, km, Dm, hd, h1, h2, h3⟩ := h
  have h0 : w.cell? ⟨g, 0, none⟩ = some (.slice FA d.F.length fc) := blk_cell h1.box 0
  clear h1 h2 h3
  go_enter Try.func34, Try.ntmps34
  go_wp2_with fail
  refine (made_any H.out).mono ?_
  rintro e w1 ⟨rfl, rfl⟩
  go_wp2_with fail
  go_ret
  exact ⟨rfl, rfl⟩
theorem size_nil (w : World) : Calls Try.prog 34 #[.pointer none] w (fun e w' => e = .returned (.int .i64 0) ∧ w' = w) := by
  go_enter Try.func34, Try.ntmps34
  go_wp2_with fail
  refine (made_nil w).mono ?_
  rintro e w1 ⟨rfl, rfl⟩
  go_wp2_with fail
  go_ret
  exact ⟨rfl, rfl⟩
set_option maxRecDepth 100000 in
theorem done_any {w : World} {g : Nat} {T : Nat → Prop} {d : Dk} (h : DkAt w g T d) : Calls Try.prog 31 #[.pointer (some ⟨g, 0, none⟩)] w (fun e w' => e = .returned (.int .i64 d.done) ∧ w' = w) := by
  have H := Lib.hid h
  obtain ⟨FA, fc, bm, km, Dm, hd, h1, h2, h3⟩ := h
  have h0 : w.cell? ⟨g, 2, none⟩ = some (.int .i64 d.done) := blk_cell h1.box 2
  clear h1 h2 h3
  go_enter Try.func31, Try.ntmps31
  go_wp2_with fail
  refine (made_any H.out).mono ?_
  rintro e w1 ⟨rfl, rfl⟩
  go_wp2_with fail
  go_ret
  exact ⟨rfl, rfl⟩
theorem done_nil (w : World) : Calls Try.prog 31 #[.pointer none] w (fun e w' => e = .returned (.int .i64 0) ∧ w' = w) := by
  go_enter Try.func31, Try.ntmps31
  go_wp2_with fail
  refine (made_nil w).mono ?_
  rintro e w1 ⟨rfl, rfl⟩
  go_wp2_with fail
  go_ret
  exact ⟨rfl, rfl⟩
set_option maxRecDepth 100000 in
theorem down_any {w : World} {g : Nat} {T : Nat → Prop} {d : Dk} (h : DkAt w g T d) : Calls Try.prog 30 #[.pointer (some ⟨g, 0, none⟩)] w (fun e w' => e = .returned (.bool d.down) ∧ w' = w) := by
  have H := Lib.hid h
  obtain ⟨FA, fc, bm, km, Dm, hd, h1, h2, h3⟩ := h
  have h0 : w.cell? ⟨g, 4, none⟩ = some (.bool d.down) := blk_cell h1.box 4
  clear h1 h2 h3
  go_enter Try.func30, Try.ntmps30
  go_wp2_with fail
  refine (made_any H.out).mono ?_
  rintro e w1 ⟨rfl, rfl⟩
  go_wp2_with fail
  go_ret
  exact ⟨rfl, rfl⟩
theorem down_nil (w : World) : Calls Try.prog 30 #[.pointer none] w (fun e w' => e = .returned (.bool false) ∧ w' = w) := by
  go_enter Try.func30, Try.ntmps30
  go_wp2_with fail
  refine (made_nil w).mono ?_
  rintro e w1 ⟨rfl, rfl⟩
  go_wp2_with fail
  go_ret
  exact ⟨rfl, rfl⟩

theorem setg_fr {a w : World} {g : Nat} (h : Fr (fun k => k = g) a w) (i : Nat) (u : Value) : Fr (fun k => k = g) a (w.setCell ⟨g, i, none⟩ u) := h.setCell (.inr rfl) u
/-- the box is written, and nothing else -/
theorem DkIn.boxed {w w' : World} {g : Nat} {FA : Option Addr} {fc bm km : Nat} {Dm : DataW Hd} {hd : Int → Hd} {d : Dk} (h : DkIn w g FA fc bm km Dm hd d) (hF : Fr (fun k => k = g) w w') (done fuse : Int) (down : Bool)
    (hb : w'.heap[g]? = some (.cells #[.slice FA d.F.length fc, .map (some bm), .int .i64 done, .int .i64 fuse, .bool down] 74 (0, 0))) (hk : 0 ≤ done) (hf : -1 ≤ fuse ∧ fuse ≤ 1048576) :
    DkIn w' g FA fc bm km Dm hd { d with done := done, fuse := fuse, down := down } := by
  have hgm : bm ≠ g := fun e => by obtain ⟨_, _, hm, _⟩ := h.map; rw [e] at hm; have := h.box.symm.trans hm; cases this
  have hne : ∀ (v : Value) (n : Nat) (xs : List Value), w.ownsRow 0 106 128 v n xs → ∀ k, v.ownBlock = some k → ¬ k = g := fun v n xs ho k hk e => own_ne ho h.box (by decide) (by rw [← e]; exact hk.symm)
  exact ⟨hb, hF.own h.row (hne _ _ _ h.row), h.secs, h.pos, h.few, owns_blk h.map (hF.block _ h.map.lt hgm), h.heads, h.num, fun i => hF.own (h.rows i) (hne _ _ _ (h.rows i)), h.lsecs, h.within, h.kms, h.lens, hk, hf, h.apart, h.apartF⟩

def ToldPost (w : World) (g : Nat) (T : Nat → Prop) (d : Dk) (e : Ending) (w' : World) : Prop :=
  e = .returned (.tuple #[]) ∧ DkAt w' g T d.tick ∧ Fr (fun k => k = g) w w'
set_option maxRecDepth 100000 in
theorem told_any {w : World} {g : Nat} {T : Nat → Prop} {d : Dk} (h : DkAt w g T d) (hd : d.done ≤ 1000000000) : Calls Try.prog 53 #[.pointer (some ⟨g, 0, none⟩)] w (ToldPost w g T d) := by
  obtain ⟨FA, fc, bm, km, Dm, hdd, h1, h2, h3⟩ := h
  obtain ⟨hf1, hf2⟩ := h1.fuses
  have hd0 := h1.dones
  have hbox := h1.box
  have c2 : w.cell? ⟨g, 2, none⟩ = some (.int .i64 d.done) := blk_cell hbox 2
  have c3 : w.cell? ⟨g, 3, none⟩ = some (.int .i64 d.fuse) := blk_cell hbox 3
  have c4 : w.cell? ⟨g, 4, none⟩ = some (.bool d.down) := blk_cell hbox 4
  have f2 := blk_frozen hbox 2
  have f3 := blk_frozen hbox 3
  have f4 := blk_frozen hbox 4
  have H1 := Lib.hid h1
  have H2 := Lib.hid h2
  have H3 := Lib.hid h3
  clear h1 h2 h3 hbox
  go_enter Try.func53, Try.ntmps53
  by_cases hf : 0 < d.fuse
  · go_wp2
    go_end0
    have hF : Fr (fun k => k = g) w (((w.setCell ⟨g, 2, none⟩ (.int .i64 (d.done + 1))).setCell ⟨g, 3, none⟩ (.int .i64 (d.fuse - 1))).setCell ⟨g, 4, none⟩ (.bool (d.fuse - 1 == 0))) := setg_fr (setg_fr (setg_fr (Fr.refl _ w) 2 _) 3 _) 4 _
    refine ⟨rfl, ⟨FA, fc, bm, km, Dm, hdd, ?_, H2.out, fun k hk => Nat.lt_of_lt_of_le (H3.out k hk) hF.size⟩, hF⟩
    have hb : (d.fuse - 1 == 0) = decide (d.fuse = 1) := by
      by_cases e : d.fuse = 1
      · simp [e]
      · have : d.fuse - 1 ≠ 0 := by omega
        simp [e, this]
    have := H1.out.boxed hF (d.done + 1) (d.fuse - 1) (d.fuse - 1 == 0) (by simpa using blk_set (blk_set (blk_set H1.out.box 2 (.int .i64 (d.done + 1))) 3 (.int .i64 (d.fuse - 1))) 4 (.bool (d.fuse - 1 == 0))) (by omega) (by omega)
    unfold Dk.tick
    rw [if_pos hf, if_pos hf, ← hb]
    exact this
  · go_wp2
    go_end0
    have hF : Fr (fun k => k = g) w (w.setCell ⟨g, 2, none⟩ (.int .i64 (d.done + 1))) := setg_fr (Fr.refl _ w) 2 _
    refine ⟨rfl, ⟨FA, fc, bm, km, Dm, hdd, ?_, H2.out, fun k hk => Nat.lt_of_lt_of_le (H3.out k hk) hF.size⟩, hF⟩
    have := H1.out.boxed hF (d.done + 1) d.fuse d.down (by simpa using blk_set H1.out.box 2 (.int .i64 (d.done + 1))) (by omega) (by omega)
    unfold Dk.tick
    have hf0 : ¬ 0 < d.fuse := by omega
    rw [if_neg hf0, if_neg hf0]
    exact this
end Go.Proofs.Ytdamegjhdopfaaa
