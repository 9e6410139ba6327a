/- has, there, At. -/
import Derived.Test.YtedmhhllkkgbjaaNet1
import Derived.Deep.RegionWith
namespace Go.Proofs.Ytedmhhllkkgbjaa
open Go.RowKit

def inl (l : List Mail) (i : Int) : Bool := decide (0 ≤ i) && decide (i < l.length)
theorem inl_iff (l : List Mail) (i : Int) : inl l i = true ↔ 0 ≤ i ∧ i < l.length := by simp [inl]
theorem inl_not (l : List Mail) (i : Int) : inl l i = false ↔ ¬ (0 ≤ i ∧ i < l.length) := by rw [← inl_iff]; simp

theorem has_any {w : World} {b : Nat} {A : Option Addr} {c : Nat} {l : List Mail} (h : w.cell? ⟨b, 0, none⟩ = some (.slice A l.length c)) (i : Int) :
    Calls Try.prog 67 #[.pointer (some ⟨b, 0, none⟩), .int .i64 i] w fun e w' => e = .returned (.bool (inl l i)) ∧ w = w' := by
  by_cases h1 : 0 ≤ i
  · by_cases h2 : i < l.length
    · have hk := Lib.hid ((inl_iff l i).2 ⟨h1, h2⟩)
      go_enter Try.func67, Try.ntmps67
      go_wp2
      go_ret
      exact ⟨by rw [hk.out]; rfl, rfl⟩
    · have hk := Lib.hid ((inl_not l i).2 (fun x => h2 x.2))
      go_enter Try.func67, Try.ntmps67
      go_wp2
      go_ret
      exact ⟨by rw [hk.out]; rfl, rfl⟩
  · have hk := Lib.hid ((inl_not l i).2 (fun x => h1 x.1))
    go_enter Try.func67, Try.ntmps67
    go_wp2
    go_ret
    exact ⟨by rw [hk.out]; rfl, rfl⟩

theorem there_yes {w : World} {b : Nat} {v : Value} {l : List Mail} (h : NetAt w b v l) (i : Int) (hi : inl l i = true) :
    Calls Try.prog 52 #[.pointer (some ⟨b, 0, none⟩), .int .i64 i] w fun e w' => e = .returned (.int .i64 0) ∧ w = w' := by
  obtain ⟨A, c, rfl⟩ := own_slice h.own
  go_enter Try.func52, Try.ntmps52
  go_wp2_with fail
  refine (none_no _ _ (blk_cell h.blk 1)).mono ?_
  rintro e w' ⟨rfl, rfl⟩
  go_wp2_with fail
  refine (has_any (l := l) (blk_cell h.blk 0) i).mono ?_
  rintro e w' ⟨rfl, rfl⟩
  go_wp2
  go_ret
  exact ⟨rfl, rfl⟩
theorem there_no {w : World} {b : Nat} {v : Value} {l : List Mail} (h : NetAt w b v l) (i : Int) (hi : inl l i = false) :
    Calls Try.prog 52 #[.pointer (some ⟨b, 0, none⟩), .int .i64 i] w fun e w' => e = .returned (.int .i64 5) ∧ w = w' := by
  obtain ⟨A, c, rfl⟩ := own_slice h.own
  go_enter Try.func52, Try.ntmps52
  go_wp2_with fail
  refine (none_no _ _ (blk_cell h.blk 1)).mono ?_
  rintro e w' ⟨rfl, rfl⟩
  go_wp2_with fail
  refine (has_any (l := l) (blk_cell h.blk 0) i).mono ?_
  rintro e w' ⟨rfl, rfl⟩
  go_wp2
  go_ret
  exact ⟨rfl, rfl⟩

/-- The i-th mail in memory. -/
theorem mcells_at (l : List Mail) (i : Nat) (m : Mail) (h : l[i]? = some m) : (mcells l)[i * 3]? = some (.int .i64 m.fr) ∧ (mcells l)[i * 3 + 1]? = some (.int .i64 m.rc) ∧ (mcells l)[i * 3 + 2]? = some (.string m.text) := by
  induction l generalizing i with
  | nil => simp at h
  | cons x l ih =>
    cases i with
    | zero => simp at h; subst h; simp [mcells, Mail.cells]
    | succ i =>
      have := ih i (by simpa using h)
      have e : mcells (x :: l) = x.cells ++ mcells l := by simp [mcells]
      rw [e]
      have h3 : x.cells.length = 3 := rfl
      refine ⟨?_, ?_, ?_⟩
      · rw [List.getElem?_append_right (by omega), h3, show (i + 1) * 3 - 3 = i * 3 by omega]; exact this.1
      · rw [List.getElem?_append_right (by omega), h3, show (i + 1) * 3 + 1 - 3 = i * 3 + 1 by omega]; exact this.2.1
      · rw [List.getElem?_append_right (by omega), h3, show (i + 1) * 3 + 2 - 3 = i * 3 + 2 by omega]; exact this.2.2

theorem own_row {w : World} {base n : Nat} {e : TypeId} {size : Nat} {v : Value} {xs : List Value} (h : w.ownsRow base e size v n xs) (hn : 0 < n) : ∃ g c, v = .slice (some ⟨g, 0, none⟩) n c ∧ n ≤ c ∧ c ≤ 9223372036854775807 ∧ ∀ j u, xs[j]? = some u → w.cell? ⟨g, j, none⟩ = some u := by
  rcases h.2 with ⟨rfl, hn'⟩ | ⟨g, cap, cur, rfl, _, hh, hc, hcm, _, ht⟩
  · omega
  · refine ⟨g, cap, rfl, hc, by simpa [maxLen] using hcm, fun j u hu => ?_⟩
    have := h.cells (g := g) rfl j u hu
    rwa [add_plain] at this

set_option maxHeartbeats 400000 in
theorem at_no {w : World} {b : Nat} {v : Value} {l : List Mail} (h : NetAt w b v l) (i : Int) (hi : inl l i = false) :
    Calls Try.prog 24 #[.pointer (some ⟨b, 0, none⟩), .int .i64 i] w fun e w' => e = .returned (.tuple #[.agg #[.int .i64 0, .int .i64 0, .string ByteArray.empty], .int .i64 5]) ∧ Fr (fun _ => False) w w' := by
  go_enter Try.func24, Try.ntmps24
  go_wp2_with fail
  refine (there_no (h.alloc _) i hi).mono ?_
  rintro e w' ⟨rfl, rfl⟩
  go_wp2
  exact bodyPost_ret (v := .tuple #[.agg #[.int .i64 0, .int .i64 0, .string ByteArray.empty], .int .i64 5]) (by simp [results, Try.results24, go_sem]; rfl) rfl ⟨rfl, (Fr.refl _ _).alloc _⟩

theorem set3 {w : World} {g : Nat} {t : TypeId} {a b c x y z : Value} (h : w.heap[g]? = some (.cells #[a, b, c] t (0, 0))) :
    (((w.setCell ⟨g, 0, none⟩ x).setCell ⟨g, 1, none⟩ y).setCell ⟨g, 2, none⟩ z).heap[g]? = some (.cells #[x, y, z] t (0, 0)) := by
  simpa using blk_set (blk_set (blk_set h 0 x) 1 y) 2 z

def Told (w : World) (r : Value) (S : Nat → Prop) (e : Ending) (w' : World) : Prop := e = .returned r ∧ Fr S w w'

set_option maxHeartbeats 400000 in
theorem at_yes {w : World} {b : Nat} {v : Value} {l : List Mail} (h : NetAt w b v l) (i : Nat) (m : Mail) (hi : l[i]? = some m) :
    Calls Try.prog 24 #[.pointer (some ⟨b, 0, none⟩), .int .i64 i] w (Told w (.tuple #[m.val, .int .i64 0]) (fun _ => False)) := by
  have hil : i < l.length := (List.getElem?_eq_some_iff.1 hi).1
  have hin : inl l i = true := by rw [inl_iff]; omega
  obtain ⟨g, c, rfl, hc, hcm, hcell⟩ := own_row h.own (by omega)
  obtain ⟨k0, k1, k2⟩ := mcells_at l i m hi
  have c0 := hcell _ _ k0
  have c1 := hcell _ _ k1
  have c2 := hcell _ _ k2
  clear hcell k0 k1 k2
  have Hi := Lib.hid hi
  clear hi
  have hlen : (i : Int) < l.length := by omega
  go_enter Try.func24, Try.ntmps24
  go_wp2_with fail
  refine (there_yes (h.alloc _) i hin).mono ?_
  rintro e w' ⟨rfl, rfl⟩
  have hn := blk_new w (.cells #[.int .i64 0, .int .i64 0, .string ⟨#[]⟩] 29)
  have hF := (Fr.refl (fun _ => False) w).alloc (.cells #[.int .i64 0, .int .i64 0, .string ⟨#[]⟩] 29)
  have H1 := h.alloc (.cells #[.int .i64 0, .int .i64 0, .string ⟨#[]⟩] 29)
  generalize w.alloc (.cells #[.int .i64 0, .int .i64 0, .string ⟨#[]⟩] 29) = w1 at *
  generalize hg : w.heap.size = gn at *
  have Hg := Lib.hid hg
  clear hg
  have d0 := hF.cell c0 (fun x => x)
  have d1 := hF.cell c1 (fun x => x)
  have d2 := hF.cell c2 (fun x => x)
  have HFr := Lib.hid hF
  clear hF c0 c1 c2
  have b0 : w1.cell? ⟨b, 0, none⟩ = some (.slice (some ⟨g, 0, none⟩) l.length c) := blk_cell H1.blk 0
  have f0 := blk_frozen hn 0
  have f1 := blk_frozen hn 1
  have f2 := blk_frozen hn 2
  have e0 : w1.cell? ⟨gn, 0, none⟩ = some (.int .i64 0) := blk_cell hn 0
  have e1 : w1.cell? ⟨gn, 1, none⟩ = some (.int .i64 0) := blk_cell hn 1
  have e2 : w1.cell? ⟨gn, 2, none⟩ = some (.string ⟨#[]⟩) := blk_cell hn 2
  go_wp2
  have hb3 := set3 (x := .int .i64 m.fr) (y := .int .i64 m.rc) (z := .string m.text) hn
  have hF3 := ((HFr.out.setCell (p := ⟨gn, 0, none⟩) (.inl (Nat.le_of_eq Hg.out)) (.int .i64 m.fr)).setCell (p := ⟨gn, 1, none⟩) (.inl (Nat.le_of_eq Hg.out)) (.int .i64 m.rc)).setCell (p := ⟨gn, 2, none⟩) (.inl (Nat.le_of_eq Hg.out)) (.string m.text)
  generalize ((w1.setCell ⟨gn, 0, none⟩ (.int .i64 m.fr)).setCell ⟨gn, 1, none⟩ (.int .i64 m.rc)).setCell ⟨gn, 2, none⟩ (.string m.text) = w2 at *
  have r0 : w2.cell? ⟨gn, 0, none⟩ = some (.int .i64 m.fr) := blk_cell hb3 0
  have r1 : w2.cell? ⟨gn, 1, none⟩ = some (.int .i64 m.rc) := blk_cell hb3 1
  have r2 : w2.cell? ⟨gn, 2, none⟩ = some (.string m.text) := blk_cell hb3 2
  exact bodyPost_ret (v := .tuple #[m.val, .int .i64 0]) (by simp [results, Try.results24, go_sem, r0, r1, r2, Mail.val]) rfl ⟨rfl, hF3⟩
end Go.Proofs.Ytedmhhllkkgbjaa
