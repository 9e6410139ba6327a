/- Take, Lose, Twin. -/
import Derived.Test.YtedmhhllkkgbjaaNet5
namespace Go.Proofs.Ytedmhhllkkgbjaa
open Go.RowKit

def zmail : Mail := ⟨0, 0, ⟨#[]⟩⟩
def takeE (l : List Mail) (i : Int) : Int := if inl l i then 0 else 5
def takeM (l : List Mail) (i : Int) : Mail := if inl l i then l.getD i.toNat zmail else zmail
def takeL (l : List Mail) (i : Int) : List Mail := if inl l i then l.eraseIdx i.toNat else l

theorem at_any {w : World} {b : Nat} {v : Value} {l : List Mail} (h : NetAt w b v l) (i : Int) :
    Calls Try.prog 24 #[.pointer (some ⟨b, 0, none⟩), .int .i64 i] w (Told w (.tuple #[(takeM l i).val, .int .i64 (takeE l i)]) (fun _ => False)) := by
  cases hi : inl l i
  · refine (at_no h i hi).mono fun e w' hh => ?_
    simp only [takeM, takeE, hi]
    exact hh
  · have hh := (inl_iff l i).1 hi
    obtain ⟨n, rfl⟩ := Int.eq_ofNat_of_zero_le hh.1
    have hn : n < l.length := by omega
    have hg : l[n]? = some (l.getD n zmail) := by simp [List.getD, hn]
    refine (at_yes h n _ hg).mono fun e w' hh => ?_
    simp only [takeM, takeE, hi, if_true, Int.toNat_natCast]
    exact hh

def TakePost (w : World) (b : Nat) (v : Value) (l : List Mail) (i : Int) : Ending → World → Prop :=
  NetPost w b v (.tuple #[(takeM l i).val, .int .i64 (takeE l i)]) (takeL l i)

set_option maxHeartbeats 400000 in
theorem take_no {w : World} {b : Nat} {v : Value} {l : List Mail} (h : NetAt w b v l) (i : Int) (hi : inl l i = false) :
    Calls Try.prog 18 #[.pointer (some ⟨b, 0, none⟩), .int .i64 i] w (TakePost w b v l i) := by
  go_enter Try.func18, Try.ntmps18
  go_wp2_with fail
  refine (there_no (h.alloc _) i hi).mono ?_
  rintro e w' ⟨rfl, rfl⟩
  go_wp2
  exact bodyPost_ret (v := .tuple #[zmail.val, .int .i64 5]) (by simp [results, Try.results18, go_sem, zmail, Mail.val]) rfl (NetPost.same' (h.alloc _) ((Fr.refl _ _).alloc _) (by simp [takeM, takeE, hi]) (by simp [takeL, hi]))

set_option maxHeartbeats 400000 in
theorem take_yes {w : World} {b : Nat} {v : Value} {l : List Mail} (h : NetAt w b v l) (i : Nat) (m : Mail) (hm : l[i]? = some m) (hl : l.length < 1000000) :
    Calls Try.prog 18 #[.pointer (some ⟨b, 0, none⟩), .int .i64 i] w (TakePost w b v l i) := by
  have hil : i < l.length := (List.getElem?_eq_some_iff.1 hm).1
  have hin : inl l i = true := by rw [inl_iff]; omega
  obtain ⟨g, c, rfl, hc, hcm, _⟩ := own_row h.own (by omega)
  go_enter Try.func18, Try.ntmps18
  go_wp2_with fail
  refine (there_yes (h.alloc _) i hin).mono ?_
  rintro e w' ⟨rfl, rfl⟩
  obtain ⟨w1, he, hn1, hF, hsz⟩ := alloc1 w (.cells #[.int .i64 0, .int .i64 0, .string ⟨#[]⟩] 29)
  rw [he]
  have H1 := h.kept hF (fun _ _ x => x)
  have HF := Lib.hid hF
  have HZ := Lib.hid hsz
  have Hm := Lib.hid hm
  clear hF he hsz hm
  go_wp2_with fail
  refine (out_mail H1.blk H1.own Hm.out hl).mono ?_
  rintro e w2 ⟨rfl, v2, hb2, ho2, hF2, g2, hg2, hgs⟩
  have hbw : w.heap.size ≠ b := by have := blk_lt h.blk; omega
  have hn2 := hF2.blk hn1 hbw
  have H2 : NetAt w2 b v2 (l.eraseIdx i) := ⟨hb2, ho2⟩
  have HG := Lib.hid hg2
  have HF2 := Lib.hid hF2
  have y0 : w2.cell? ⟨w.heap.size, 0, none⟩ = some (.int .i64 0) := blk_cell hn2 0
  have y1 : w2.cell? ⟨w.heap.size, 1, none⟩ = some (.int .i64 0) := blk_cell hn2 1
  have y2 : w2.cell? ⟨w.heap.size, 2, none⟩ = some (.string ⟨#[]⟩) := blk_cell hn2 2
  have z0 := blk_frozen hn2 0
  have z1 := blk_frozen hn2 1
  have z2 := blk_frozen hn2 2
  clear hg2 hF2 hin
  unfold Mail.val
  go_wp2
  have hn3 := set3 (x := .int .i64 m.fr) (y := .int .i64 m.rc) (z := .string m.text) hn2
  have hF3 := ((((Fr.refl (fun k => k = w.heap.size) w2).setCell (p := ⟨w.heap.size, 0, none⟩) (.inr rfl) (.int .i64 m.fr)).setCell (p := ⟨w.heap.size, 1, none⟩) (.inr rfl) (.int .i64 m.rc)).setCell (p := ⟨w.heap.size, 2, none⟩) (.inr rfl) (.string m.text))
  generalize ((w2.setCell ⟨w.heap.size, 0, none⟩ (.int .i64 m.fr)).setCell ⟨w.heap.size, 1, none⟩ (.int .i64 m.rc)).setCell ⟨w.heap.size, 2, none⟩ (.string m.text) = w3 at *
  have r0 : w3.cell? ⟨w.heap.size, 0, none⟩ = some (.int .i64 m.fr) := blk_cell hn3 0
  have r1 : w3.cell? ⟨w.heap.size, 1, none⟩ = some (.int .i64 m.rc) := blk_cell hn3 1
  have r2 : w3.cell? ⟨w.heap.size, 2, none⟩ = some (.string m.text) := blk_cell hn3 2
  have hin : inl l i = true := by rw [inl_iff]; omega
  have hgm : l.getD i zmail = m := by simp [List.getD, Hm.out]
  refine bodyPost_ret (v := .tuple #[m.val, .int .i64 0]) (by simp [results, Try.results18, go_sem, r0, r1, r2, Mail.val]) rfl ⟨by simp only [takeM, takeE, hin, if_true, Int.toNat_natCast]; rw [hgm], v2, ?_, ?_, ?_⟩
  · simp only [takeL, hin, if_true, Int.toNat_natCast]
    refine H2.kept hF3 (fun k hk e => ?_)
    have hz := HZ.out
    rcases hk with rfl | hk
    · exact hbw e.symm
    · rw [HG.out, Option.some.injEq] at hk; omega
  · exact ((HF.out.none.trans HF2.out (fun q _ e => .inl e)).trans hF3 (fun q hq e => by omega))
  · exact .inr ⟨g2, HG.out, by have := HZ.out; omega⟩

theorem take_any {w : World} {b : Nat} {v : Value} {l : List Mail} (h : NetAt w b v l) (i : Int) (hl : l.length < 1000000) :
    Calls Try.prog 18 #[.pointer (some ⟨b, 0, none⟩), .int .i64 i] w (TakePost w b v l i) := by
  cases hi : inl l i
  · exact take_no h i hi
  · have hh := (inl_iff l i).1 hi
    obtain ⟨n, rfl⟩ := Int.eq_ofNat_of_zero_le hh.1
    have hn : n < l.length := by omega
    exact take_yes h n (l.getD n zmail) (by simp [List.getD, hn]) hl

theorem lose_any {w : World} {b : Nat} {v : Value} {l : List Mail} (h : NetAt w b v l) (i : Int) (hl : l.length < 1000000) :
    Calls Try.prog 22 #[.pointer (some ⟨b, 0, none⟩), .int .i64 i] w (NetPost w b v (.int .i64 (takeE l i)) (takeL l i)) := by
  go_enter Try.func22, Try.ntmps22
  go_wp2_with fail
  refine (take_any h i hl).mono ?_
  rintro e w2 ⟨rfl, v2, H2, hF2, hm2⟩
  have HF2 := Lib.hid hF2
  have HM := Lib.hid hm2
  clear hF2 hm2
  unfold Mail.val
  generalize takeM l i = m
  go_wp2
  go_ret
  refine ⟨rfl, v2, H2.alloc _, HF2.out.alloc _, HM.out⟩

set_option maxRecDepth 100000 in
set_option maxHeartbeats 400000 in
theorem twin_no {w : World} {b : Nat} {v : Value} {l : List Mail} (h : NetAt w b v l) (i : Int) (hi : inl l i = false) :
    Calls Try.prog 17 #[.pointer (some ⟨b, 0, none⟩), .int .i64 i] w (NetPost w b v (.int .i64 5) l) := by
  have HI := Lib.hid hi
  clear hi
  go_enter Try.func17, Try.ntmps17
  go_wp2_with fail
  refine (at_no h i HI.out).mono ?_
  rintro e w2 ⟨rfl, hF2⟩
  have H2 := h.kept hF2 (fun _ _ x => x)
  have HF2 := Lib.hid hF2
  clear hF2
  go_wp2
  go_ret
  exact NetPost.same (H2.alloc _) (HF2.out.none.alloc _)

set_option maxRecDepth 100000 in
set_option maxHeartbeats 400000 in
theorem twin_full {w : World} {b : Nat} {v : Value} {l : List Mail} (h : NetAt w b v l) (i : Nat) (m : Mail) (hm : l[i]? = some m) (hl : (256 : Int) ≤ (l.length : Int)) :
    Calls Try.prog 17 #[.pointer (some ⟨b, 0, none⟩), .int .i64 i] w (NetPost w b v (.int .i64 3) l) := by
  have Hm := Lib.hid hm
  clear hm
  go_enter Try.func17, Try.ntmps17
  go_wp2_with fail
  refine (at_yes h i m Hm.out).mono ?_
  rintro e w2 ⟨rfl, hF2⟩
  have H2 := h.kept hF2 (fun _ _ x => x)
  have HF2 := Lib.hid hF2
  clear hF2
  unfold Mail.val
  go_wp2_with fail
  refine (len_any (H2.alloc _)).mono ?_
  rintro e w' ⟨rfl, rfl⟩
  go_wp2
  go_ret
  exact NetPost.same (H2.alloc _) (HF2.out.none.alloc _)

set_option maxRecDepth 100000 in
set_option maxHeartbeats 1000000 in
theorem twin_put {w : World} {b : Nat} {v : Value} {l : List Mail} (h : NetAt w b v l) (i : Nat) (m : Mail) (hm : l[i]? = some m) (hl : (l.length : Int) < 256) :
    Calls Try.prog 17 #[.pointer (some ⟨b, 0, none⟩), .int .i64 i] w (NetPost w b v (.int .i64 0) (l ++ [m])) := by
  have Hm := Lib.hid hm
  clear hm
  go_enter Try.func17, Try.ntmps17
  go_wp2_with fail
  refine (at_yes h i m Hm.out).mono ?_
  rintro e w2 ⟨rfl, hF2⟩
  have H2 := h.kept hF2 (fun _ _ x => x)
  have HF2 := Lib.hid hF2
  clear hF2
  unfold Mail.val
  go_wp2_with fail
  refine (len_any (H2.alloc _)).mono ?_
  rintro e w' ⟨rfl, rfl⟩
  go_wp2_with fail
  obtain ⟨w3, he, hn, hF3, hsz⟩ := alloc1 w2 (.cells #[.int .i64 m.fr, .int .i64 m.rc, .string m.text] 29)
  rw [he]
  have H3 := H2.kept hF3 (fun _ _ x => x)
  have HF3 := Lib.hid hF3
  clear he hsz hF3
  generalize w2.heap.size = g at hn ⊢
  have hc0 : w3.cell? ⟨g, 0, none⟩ = some (.int .i64 m.fr) := blk_cell hn 0
  have hc1 : w3.cell? ⟨g, 1, none⟩ = some (.int .i64 m.rc) := blk_cell hn 1
  have hc2 : w3.cell? ⟨g, 2, none⟩ = some (.string m.text) := blk_cell hn 2
  go_region_with (go_at_call 51; refine (put_mail _ b v l m (.bool true) H3.drew.blk H3.drew.own (by omega)).mono ?_; rintro e w4 ⟨rfl, v4, hb4, ho4, hF4, hm4⟩)
  have HF4 := Lib.hid hF4
  have HM4 := Lib.hid hm4
  clear hF4 hm4
  go_wp2
  go_ret
  have hs1 := HF2.out.size
  have hs2 := HF3.out.size
  exact ⟨rfl, v4, ⟨hb4, ho4⟩, ((HF2.out.none.trans HF3.out.none (fun _ _ x => x)).drew.trans HF4.out (fun _ _ x => x)), Moved.trans (Moved.refl w v) HM4.out (by show w.heap.size ≤ w3.drew.heap.size; exact Nat.le_trans hs1 hs2)⟩

def twinE (l : List Mail) (i : Int) : Int := if inl l i then (if 256 ≤ l.length then 3 else 0) else 5
def twinL (l : List Mail) (i : Int) : List Mail := if inl l i then (if 256 ≤ l.length then l else l ++ [l.getD i.toNat zmail]) else l

theorem twin_any {w : World} {b : Nat} {v : Value} {l : List Mail} (h : NetAt w b v l) (i : Int) :
    Calls Try.prog 17 #[.pointer (some ⟨b, 0, none⟩), .int .i64 i] w (NetPost w b v (.int .i64 (twinE l i)) (twinL l i)) := by
  cases hi : inl l i
  · simpa [twinE, twinL, hi] using twin_no h i hi
  · have hh := (inl_iff l i).1 hi
    obtain ⟨n, rfl⟩ := Int.eq_ofNat_of_zero_le hh.1
    have hn : n < l.length := by omega
    have hg : l[n]? = some (l.getD n zmail) := by simp [List.getD, hn]
    by_cases hl : 256 ≤ l.length
    · simpa [twinE, twinL, hi, hl] using twin_full h n _ hg (by omega)
    · simpa only [twinE, twinL, hi, hl, if_true, if_false, Int.toNat_natCast] using twin_put h n _ hg (by omega)
end Go.Proofs.Ytedmhhllkkgbjaa
