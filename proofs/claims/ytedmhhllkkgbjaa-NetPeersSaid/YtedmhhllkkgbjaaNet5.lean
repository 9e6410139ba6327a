/- out, Take, Lose, Twin. -/
import Derived.Test.YtedmhhllkkgbjaaNet4
import Derived.Test.YtedmhhllkkgbjaaNet2
namespace Go.Proofs.Ytedmhhllkkgbjaa
open Go.RowKit

/-- A block of one mail. -/
theorem mblk_cells {w : World} {g : Nat} {m : Mail} (h : w.heap[g]? = some (.cells #[.int .i64 m.fr, .int .i64 m.rc, .string m.text] 29 (0, 0))) :
    w.cell? ⟨g, 0, none⟩ = some (.int .i64 m.fr) ∧ w.cell? ⟨g, 1, none⟩ = some (.int .i64 m.rc) ∧ w.cell? ⟨g, 2, none⟩ = some (.string m.text) :=
  ⟨blk_cell h 0, blk_cell h 1, blk_cell h 2⟩

def OutPost (w : World) (b i : Nat) (y : Value) (l : List Mail) (m : Mail) (e : Ending) (w' : World) : Prop :=
  e = .returned m.val ∧ ∃ v', w'.heap[b]? = some (.cells #[v', y] 96 (0, 0)) ∧ w'.ownsRow 0 29 3 v' (l.eraseIdx i).length (mcells (l.eraseIdx i)) ∧ Fr (fun k => k = b) w w' ∧ ∃ g, v'.ownBlock = some g ∧ w.heap.size ≤ g

set_option maxRecDepth 100000 in
set_option maxHeartbeats 400000 in
theorem out_mail {w : World} {b g c i : Nat} {l : List Mail} {m : Mail} {y : Value} (hb : w.heap[b]? = some (.cells #[.slice (some ⟨g, 0, none⟩) l.length c, y] 96 (0, 0))) (ho : w.ownsRow 0 29 3 (.slice (some ⟨g, 0, none⟩) l.length c) l.length (mcells l))
    (hm : l[i]? = some m) (hl : l.length < 1000000) :
    Calls Try.prog 53 #[.pointer (some ⟨b, 0, none⟩), .int .i64 i] w (OutPost w b i y l m) := by
  have hil : i < l.length := (List.getElem?_eq_some_iff.1 hm).1
  obtain ⟨g', c', hv, hc, hcm, hcell⟩ := own_row ho (by omega)
  simp only [Value.slice.injEq, Option.some.injEq, Addr.mk.injEq, and_true, true_and] at hv
  obtain ⟨rfl, rfl⟩ := hv
  obtain ⟨k0, k1, k2⟩ := mcells_at l i m hm
  have c0 := hcell _ _ k0
  have c1 := hcell _ _ k1
  have c2 := hcell _ _ k2
  clear hcell k0 k1 k2
  have Hm := Lib.hid hm
  clear hm
  have hlen : (i : Int) < l.length := by omega
  have hc0 : w.cell? ⟨b, 0, none⟩ = some (.slice (some ⟨g, 0, none⟩) l.length c) := blk_cell hb 0
  have hbl := blk_lt hb
  have hgl := own_lt ho g rfl
  go_enter Try.func53, Try.ntmps53
  go_upto_region 2 with (fail)
  obtain ⟨w2, he, hn1, hn2, hF, hsz⟩ := alloc2 w (.cells #[.int .i64 0, .int .i64 0, .string ⟨#[]⟩] 29) (.cells #[.int .i64 m.fr, .int .i64 m.rc, .string m.text] 29)
  rw [he]
  have hb2 := hF.blk0 hb
  have ho2 := hF.own0 ho
  have HF := Lib.hid hF
  have HE := Lib.hid he
  have HZ := Lib.hid hsz
  have HN1 := Lib.hid hn1
  clear hF he hsz c0 c1 c2 hc0 hn1 hb ho
  have hc2 : w2.cell? ⟨b, 0, none⟩ = some (.slice (some ⟨g, 0, none⟩) l.length c) := blk_cell hb2 0
  go_wp2_with fail
  refine (clone_mails ho2 (by omega) hl).mono ?_
  rintro e w3 ⟨g3, c3, rfl, hg3, ho3, hF3⟩
  have hb3 := hF3.blk0 hb2
  obtain ⟨k, hk⟩ : ∃ k, l.length = k + 1 := ⟨l.length - 1, by omega⟩
  have hbg : b ≠ g3 := by have := blk_lt hb2; omega
  have hn3 := hF3.blk0 hn2
  have hn31 := hF3.blk0 HN1.out
  have hxg : w.heap.size + 1 ≠ g3 := by have := blk_lt hn2; omega
  have hyg : w.heap.size ≠ g3 := by have := blk_lt hn2; omega
  have HF3 := Lib.hid hF3
  have HN31 := Lib.hid hn31
  clear hF3 hn31
  go_wp2_with fail
  refine (delete_mails (hk ▸ ho3) hk (by omega) (by omega) (hk ▸ (own_block ho3).choose_spec.2.1) (by have := (own_block ho3).choose_spec.2.2.1; simpa [maxLen] using this)).mono ?_
  rintro e w4 ⟨rfl, ho4, hF4⟩
  have hb4 := hF4.blk hb3 hbg
  have hn4 := hF4.blk hn3 hxg
  have hn41 := hF4.blk HN31.out hyg
  have fb := blk_frozen hb4 0
  have cb := blk_cell hb4 0
  have x0 : w4.cell? ⟨w.heap.size + 1, 0, none⟩ = some (.int .i64 m.fr) := blk_cell hn4 0
  have x1 : w4.cell? ⟨w.heap.size + 1, 1, none⟩ = some (.int .i64 m.rc) := blk_cell hn4 1
  have x2 : w4.cell? ⟨w.heap.size + 1, 2, none⟩ = some (.string m.text) := blk_cell hn4 2
  have y0 : w4.cell? ⟨w.heap.size, 0, none⟩ = some (.int .i64 0) := blk_cell hn41 0
  have y1 : w4.cell? ⟨w.heap.size, 1, none⟩ = some (.int .i64 0) := blk_cell hn41 1
  have y2 : w4.cell? ⟨w.heap.size, 2, none⟩ = some (.string ⟨#[]⟩) := blk_cell hn41 2
  have z0 := blk_frozen hn41 0
  have z1 := blk_frozen hn41 1
  have z2 := blk_frozen hn41 2
  have hb1 : b ≠ w.heap.size := by omega
  have hb2' : b ≠ w.heap.size + 1 := by omega
  have HF4 := Lib.hid hF4
  have HK := Lib.hid hk
  clear hF4 hk
  go_wp2
  have hb5 := blk_set hb4 0 (.slice (some ⟨g3, 0, none⟩) k c3)
  have hn5 := blk_far hn41 (p := ⟨b, 0, none⟩) (fun e => hb1 e.symm) (.slice (some ⟨g3, 0, none⟩) k c3)
  have ho5 := own_setCell ho4 (p := ⟨b, 0, none⟩) (by simpa [Value.ownBlock] using hbg) (.slice (some ⟨g3, 0, none⟩) k c3)
  have hF5 : Fr (fun q => q = b) w (w4.setCell ⟨b, 0, none⟩ (.slice (some ⟨g3, 0, none⟩) k c3)) :=
    Fr.setCell (S := fun q => q = b) (p := ⟨b, 0, none⟩) (((HF.out.none (S := fun q => q = b)).trans (HF3.out.none (S := fun q => q = b)) (fun _ _ x => x)).trans HF4.out (fun q hq e => by have := HZ.out; omega)) (.inr rfl) _
  generalize w4.setCell ⟨b, 0, none⟩ (.slice (some ⟨g3, 0, none⟩) k c3) = w5 at *
  have hn6 := set3 (x := .int .i64 m.fr) (y := .int .i64 m.rc) (z := .string m.text) hn5
  have hb6 : (((w5.setCell ⟨w.heap.size, 0, none⟩ (.int .i64 m.fr)).setCell ⟨w.heap.size, 1, none⟩ (.int .i64 m.rc)).setCell ⟨w.heap.size, 2, none⟩ (.string m.text)).heap[b]? = some (.cells #[.slice (some ⟨g3, 0, none⟩) k c3, y] 96 (0, 0)) := by
    have := blk_far (blk_far (blk_far hb5 (p := ⟨w.heap.size, 0, none⟩) hb1 (.int .i64 m.fr)) (p := ⟨w.heap.size, 1, none⟩) hb1 (.int .i64 m.rc)) (p := ⟨w.heap.size, 2, none⟩) hb1 (.string m.text)
    simpa using this
  have hg3n : some w.heap.size ≠ (Value.slice (some ⟨g3, 0, none⟩) k c3).ownBlock := by simpa [Value.ownBlock] using hyg
  have ho6 := own_setCell (own_setCell (own_setCell ho5 (p := ⟨w.heap.size, 0, none⟩) hg3n (.int .i64 m.fr)) (p := ⟨w.heap.size, 1, none⟩) hg3n (.int .i64 m.rc)) (p := ⟨w.heap.size, 2, none⟩) hg3n (.string m.text)
  have hF6 := ((hF5.setCell (p := ⟨w.heap.size, 0, none⟩) (.inl (Nat.le_refl _)) (.int .i64 m.fr)).setCell (p := ⟨w.heap.size, 1, none⟩) (.inl (Nat.le_refl _)) (.int .i64 m.rc)).setCell (p := ⟨w.heap.size, 2, none⟩) (.inl (Nat.le_refl _)) (.string m.text)
  generalize ((w5.setCell ⟨w.heap.size, 0, none⟩ (.int .i64 m.fr)).setCell ⟨w.heap.size, 1, none⟩ (.int .i64 m.rc)).setCell ⟨w.heap.size, 2, none⟩ (.string m.text) = w6 at *
  have r0 : w6.cell? ⟨w.heap.size, 0, none⟩ = some (.int .i64 m.fr) := blk_cell hn6 0
  have r1 : w6.cell? ⟨w.heap.size, 1, none⟩ = some (.int .i64 m.rc) := blk_cell hn6 1
  have r2 : w6.cell? ⟨w.heap.size, 2, none⟩ = some (.string m.text) := blk_cell hn6 2
  have hlk : (l.eraseIdx i).length = k := by rw [List.length_eraseIdx, if_pos hil, HK.out]; omega
  exact bodyPost_ret (v := m.val) (by simp [results, Try.results53, go_sem, r0, r1, r2, Mail.val]) rfl ⟨rfl, _, hb6, by rw [hlk]; exact ho6, hF6, g3, rfl, by have := HF.out.size; omega⟩
end Go.Proofs.Ytedmhhllkkgbjaa
