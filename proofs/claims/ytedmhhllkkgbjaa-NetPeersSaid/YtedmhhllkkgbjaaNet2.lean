/- Send: its ways. -/
import Derived.Test.YtedmhhllkkgbjaaNet1
import Derived.Deep.RegionWith
namespace Go.Proofs.Ytedmhhllkkgbjaa
open Go.RowKit

set_option maxHeartbeats 400000 in
theorem send_b1 {w : World} {b : Nat} {v : Value} {l : List Mail} (h : NetAt w b v l) (m : Mail) (hk1 : known m.fr = false) (hbad : Hid (badMail m = true)) :
    Calls Try.prog 16 #[.pointer (some ⟨b, 0, none⟩), .agg #[.int .i64 m.fr, .int .i64 m.rc, .string m.text]] w (SendPost w b v l m) := by
  go_enter Try.func16, Try.ntmps16
  go_wp2_with fail
  refine (none_no _ _ (blk_cell (h.alloc _).blk 1)).mono ?_
  rintro e w' ⟨rfl, rfl⟩
  go_wp2_with fail
  refine (known_any _ _).mono ?_
  rintro e w' ⟨rfl, rfl⟩
  go_wp2
  go_ret
  exact SendPost.bad (h.alloc _) ((Fr.refl _ _).alloc _) hbad.out

set_option maxHeartbeats 400000 in
theorem send_b2 {w : World} {b : Nat} {v : Value} {l : List Mail} (h : NetAt w b v l) (m : Mail) (hk1 : known m.fr = true) (hk2 : known m.rc = false) (hbad : Hid (badMail m = true)) :
    Calls Try.prog 16 #[.pointer (some ⟨b, 0, none⟩), .agg #[.int .i64 m.fr, .int .i64 m.rc, .string m.text]] w (SendPost w b v l m) := by
  go_enter Try.func16, Try.ntmps16
  go_wp2_with fail
  refine (none_no _ _ (blk_cell (h.alloc _).blk 1)).mono ?_
  rintro e w' ⟨rfl, rfl⟩
  go_wp2_with fail
  refine (known_any _ _).mono ?_
  rintro e w' ⟨rfl, rfl⟩
  go_wp2_with fail
  refine (known_any _ _).mono ?_
  rintro e w' ⟨rfl, rfl⟩
  go_wp2
  go_ret
  exact SendPost.bad (h.alloc _) ((Fr.refl _ _).alloc _) hbad.out

set_option maxHeartbeats 400000 in
theorem send_b3 {w : World} {b : Nat} {v : Value} {l : List Mail} (h : NetAt w b v l) (m : Mail) (hk1 : known m.fr = true) (hk2 : known m.rc = true) (hq : (m.fr == m.rc) = true) (hbad : Hid (badMail m = true)) :
    Calls Try.prog 16 #[.pointer (some ⟨b, 0, none⟩), .agg #[.int .i64 m.fr, .int .i64 m.rc, .string m.text]] w (SendPost w b v l m) := by
  go_enter Try.func16, Try.ntmps16
  go_wp2_with fail
  refine (none_no _ _ (blk_cell (h.alloc _).blk 1)).mono ?_
  rintro e w' ⟨rfl, rfl⟩
  go_wp2_with fail
  refine (known_any _ _).mono ?_
  rintro e w' ⟨rfl, rfl⟩
  go_wp2_with fail
  refine (known_any _ _).mono ?_
  rintro e w' ⟨rfl, rfl⟩
  go_wp2
  go_ret
  exact SendPost.bad (h.alloc _) ((Fr.refl _ _).alloc _) hbad.out

set_option maxHeartbeats 400000 in
theorem send_b4 {w : World} {b : Nat} {v : Value} {l : List Mail} (h : NetAt w b v l) (m : Mail) (hk1 : known m.fr = true) (hk2 : known m.rc = true) (hq : (m.fr == m.rc) = false) (hs : (4096 : Int) < (m.text.size : Int)) (hbad : Hid (badMail m = true)) :
    Calls Try.prog 16 #[.pointer (some ⟨b, 0, none⟩), .agg #[.int .i64 m.fr, .int .i64 m.rc, .string m.text]] w (SendPost w b v l m) := by
  go_enter Try.func16, Try.ntmps16
  go_wp2_with fail
  refine (none_no _ _ (blk_cell (h.alloc _).blk 1)).mono ?_
  rintro e w' ⟨rfl, rfl⟩
  go_wp2_with fail
  refine (known_any _ _).mono ?_
  rintro e w' ⟨rfl, rfl⟩
  go_wp2_with fail
  refine (known_any _ _).mono ?_
  rintro e w' ⟨rfl, rfl⟩
  go_wp2
  go_ret
  exact SendPost.bad (h.alloc _) ((Fr.refl _ _).alloc _) hbad.out

set_option maxHeartbeats 400000 in
theorem send_full {w : World} {b : Nat} {v : Value} {l : List Mail} (h : NetAt w b v l) (m : Mail) (hk1 : known m.fr = true) (hk2 : known m.rc = true) (hq : (m.fr == m.rc) = false) (hs : (m.text.size : Int) ≤ 4096) (hbad : Hid (badMail m = false)) (hl : (256 : Int) ≤ (l.length : Int)) :
    Calls Try.prog 16 #[.pointer (some ⟨b, 0, none⟩), .agg #[.int .i64 m.fr, .int .i64 m.rc, .string m.text]] w (SendPost w b v l m) := by
  go_enter Try.func16, Try.ntmps16
  go_wp2_with fail
  refine (none_no _ _ (blk_cell (h.alloc _).blk 1)).mono ?_
  rintro e w' ⟨rfl, rfl⟩
  go_wp2_with fail
  refine (known_any _ _).mono ?_
  rintro e w' ⟨rfl, rfl⟩
  go_wp2_with fail
  refine (known_any _ _).mono ?_
  rintro e w' ⟨rfl, rfl⟩
  go_wp2_with fail
  refine (len_any (h.alloc _)).mono ?_
  rintro e w' ⟨rfl, rfl⟩
  go_wp2
  go_ret
  exact SendPost.full (h.alloc _) ((Fr.refl _ _).alloc _) hbad.out (by omega)

set_option maxRecDepth 100000 in
set_option maxHeartbeats 1000000 in
theorem send_put {w : World} {b : Nat} {v : Value} {l : List Mail} (h : NetAt w b v l) (m : Mail) (hk1 : known m.fr = true) (hk2 : known m.rc = true) (hq : (m.fr == m.rc) = false) (hs : (m.text.size : Int) ≤ 4096) (hbad : Hid (badMail m = false)) (hl : (l.length : Int) < 256) :
    Calls Try.prog 16 #[.pointer (some ⟨b, 0, none⟩), .agg #[.int .i64 m.fr, .int .i64 m.rc, .string m.text]] w (SendPost w b v l m) := by
  go_enter Try.func16, Try.ntmps16
  go_wp2_with fail
  refine (none_no _ _ (blk_cell (h.alloc _).blk 1)).mono ?_
  rintro e w' ⟨rfl, rfl⟩
  go_wp2_with fail
  refine (known_any _ _).mono ?_
  rintro e w' ⟨rfl, rfl⟩
  go_wp2_with fail
  refine (known_any _ _).mono ?_
  rintro e w' ⟨rfl, rfl⟩
  go_wp2_with fail
  refine (len_any (h.alloc _)).mono ?_
  rintro e w' ⟨rfl, rfl⟩
  go_wp2_with fail
  have hn := blk_new w (.cells #[.int .i64 m.fr, .int .i64 m.rc, .string m.text] 29)
  have H1 := h.alloc (.cells #[.int .i64 m.fr, .int .i64 m.rc, .string m.text] 29)
  have hF := (Fr.refl (Foot b v) w).alloc (.cells #[.int .i64 m.fr, .int .i64 m.rc, .string m.text] 29)
  generalize w.alloc (.cells #[.int .i64 m.fr, .int .i64 m.rc, .string m.text] 29) = w1 at *
  generalize w.heap.size = g at hn ⊢
  have hc0 : w1.cell? ⟨g, 0, none⟩ = some (.int .i64 m.fr) := blk_cell hn 0
  have hc1 : w1.cell? ⟨g, 1, none⟩ = some (.int .i64 m.rc) := blk_cell hn 1
  have hc2 : w1.cell? ⟨g, 2, none⟩ = some (.string m.text) := blk_cell hn 2
  go_region_with (go_at_call 51; refine (put_mail _ b v l m (.bool true) H1.drew.blk H1.drew.own (by omega)).mono ?_; rintro e w2 ⟨rfl, v2, hb2, ho2, hF2, hm2⟩)
  go_wp2
  go_ret
  exact SendPost.put ⟨hb2, ho2⟩ (hF.drew.trans hF2 (fun _ _ x => x)) (Moved.trans (Moved.refl w v) hm2 hF.size) hbad.out (by omega)

theorem send_any {w : World} {b : Nat} {v : Value} {l : List Mail} (h : NetAt w b v l) (m : Mail) :
    Calls Try.prog 16 #[.pointer (some ⟨b, 0, none⟩), .agg #[.int .i64 m.fr, .int .i64 m.rc, .string m.text]] w (SendPost w b v l m) := by
  cases hk1 : known m.fr
  · exact send_b1 h m hk1 (by simp [Hid, badMail, hk1])
  cases hk2 : known m.rc
  · exact send_b2 h m hk1 hk2 (by simp [Hid, badMail, hk2])
  cases hq : (m.fr == m.rc)
  case true => exact send_b3 h m hk1 hk2 hq (by simp [Hid, badMail, hq])
  by_cases hs : 4096 < m.text.size
  · exact send_b4 h m hk1 hk2 hq (by omega) (by simp [Hid, badMail, hs])
  have hbad : badMail m = false := by simp [badMail, hk1, hk2, hq, hs]
  by_cases hl : 256 ≤ l.length
  · exact send_full h m hk1 hk2 hq (by omega) hbad (by omega)
  · exact send_put h m hk1 hk2 hq (by omega) hbad (by omega)
end Go.Proofs.Ytedmhhllkkgbjaa
