/- NetMany's walk. -/
import Derived.Test.YtedmhhllkkgbjaaNet7
namespace Go.Proofs.Ytedmhhllkkgbjaa
open Go.RowKit

def msgs (k : Nat) : List Mail := (List.range k).map fun j => ⟨1, 2, ⟨#[UInt8.ofNat j]⟩⟩
theorem msgs_len (k : Nat) : (msgs k).length = k := by simp [msgs]

theorem conv_one (W : World) (x : Nat) : (convert 27 9 (.slice (some ⟨W.heap.size, 0, none⟩) 1 1)).run Try.prog (W.alloc (.cells #[.int .u8 (x : Int)] 5)) = .ok (.string ⟨#[UInt8.ofNat x]⟩) (W.alloc (.cells #[.int .u8 (x : Int)] 5)) := by
  have h := run_convert_bytes_arg (P := Try.prog) (W.alloc (.cells #[.int .u8 (x : Int)] 5)) 27 5 Try.underlying27 Try.underlying5 W.heap.size 0 1 1 [(x : Int)] rfl (fun j hj => by
    have hj0 : j = 0 := by omega
    subst hj0
    exact blk_cell (blk_new W _) 0) 9 Try.underlying9
  exact h

theorem bad_one (x : UInt8) : badMail ⟨1, 2, ⟨#[x]⟩⟩ = false := by simp [badMail, known, ByteArray.size]
theorem bad_none : badMail ⟨1, 2, ⟨#[]⟩⟩ = false := by decide
theorem msgs_succ (k : Nat) : msgs (k + 1) = msgs k ++ [⟨1, 2, ⟨#[UInt8.ofNat k]⟩⟩] := by simp [msgs, List.range_succ]

theorem send_max {w : World} {b : Nat} {v : Value} {l : List Mail} (h : NetAt w b v l) (f r : Int) (t : ByteArray) (hb : badMail ⟨f, r, t⟩ = false) (hl : 256 ≤ l.length) :
    Calls Try.prog 16 #[.pointer (some ⟨b, 0, none⟩), .agg #[.int .i64 f, .int .i64 r, .string t]] w (NetPost w b v (.int .i64 3) l) :=
  (send_raw h f r t).mono fun e w' hh => by
    simp only [SendPost, sendE, sendL, hb, hl, if_false, if_true, Bool.false_eq_true] at hh
    exact hh
theorem many_in (n : Nat) (h : n ≤ 255) : inl (msgs 256) (n : Int) = true := by rw [inl_iff, msgs_len]; omega
theorem twin_E (n : Nat) (h : n ≤ 255) : twinE (msgs 256) (n : Int) = 3 := by
  simp [twinE, many_in n h, msgs_len]
theorem twin_L (n : Nat) (h : n ≤ 255) : twinL (msgs 256) (n : Int) = msgs 256 := by
  simp [twinL, many_in n h, msgs_len]
theorem take_E (n : Nat) (h : n ≤ 255) : takeE (msgs 256) (n : Int) = 0 := by simp [takeE, many_in n h]
theorem take_M (n : Nat) (h : n ≤ 255) : takeM (msgs 256) (n : Int) = ⟨1, 2, ⟨#[UInt8.ofNat n]⟩⟩ := by
  have hn : n < 256 := by omega
  rw [takeM, if_pos (many_in n h)]
  simp [msgs, List.getD, hn]
theorem take_len (n : Nat) (h : n ≤ 255) : (takeL (msgs 256) (n : Int)).length = 255 := by
  simp only [takeL, many_in n h, if_true, Int.toNat_natCast]
  rw [List.length_eraseIdx, if_pos (by rw [msgs_len]; omega), msgs_len]

theorem take_many {w : World} {b : Nat} {v : Value} (h : NetAt w b v (msgs 256)) (n : Nat) (hn : n ≤ 255) :
    Calls Try.prog 18 #[.pointer (some ⟨b, 0, none⟩), .int .i64 n] w (NetPost w b v (.tuple #[.agg #[.int .i64 1, .int .i64 2, .string ⟨#[UInt8.ofNat n]⟩], .int .i64 0]) (takeL (msgs 256) n)) :=
  (take_any h n (by rw [msgs_len]; omega)).mono fun e w' hh => by
    unfold TakePost at hh
    rw [take_E n hn, take_M n hn] at hh
    exact hh
theorem twin_many {w : World} {b : Nat} {v : Value} (h : NetAt w b v (msgs 256)) (n : Nat) (hn : n ≤ 255) :
    Calls Try.prog 17 #[.pointer (some ⟨b, 0, none⟩), .int .i64 n] w (NetPost w b v (.int .i64 3) (msgs 256)) :=
  (twin_any h n).mono fun e w' hh => by
    rw [twin_E n hn, twin_L n hn] at hh
    exact hh

def ManyInv (w : World) (b k : Nat) (wr : World) : Prop :=
  ∃ v, NetAt wr b v (msgs k) ∧ Fr (fun _ => False) w wr ∧ w.heap.size ≤ b ∧ ∀ g, v.ownBlock = some g → w.heap.size ≤ g

def ManyPost (w : World) (e : Ending) (w' : World) : Prop := e = .returned (.bool true) ∧ Below w.heap.size w w'

set_option maxRecDepth 100000 in
set_option maxHeartbeats 2000000 in
theorem netMany_any (i : Int) (hi : 0 ≤ i ∧ i ≤ 255) (twin : Bool) (w : World) : Calls Try.prog 3 #[.int .u8 i, .bool twin] w (ManyPost w) := by
  go_enter Try.func3, Try.ntmps3
  go_wp2_with fail
  refine (net_New w).mono ?_
  rintro e w1 ⟨rfl, rfl⟩
  obtain ⟨w1, he, hn1, hF1, hz1⟩ := alloc1 w (.cells #[.slice none 0 0, .bool true] 96)
  rw [he]
  have H1 : NetAt w1 w.heap.size (.slice none 0 0) [] := ⟨hn1, World.ownsRow_nil _ _ _ _⟩
  have HF1 := Lib.hid hF1
  clear he hn1 hF1 hz1
  generalize hb : w.heap.size = b at H1 ⊢
  have HB := Lib.hid hb
  clear hb
  go_wp2_with fail
  refine (awake_net w1).mono ?_
  rintro e w2 ⟨rfl, hF2⟩
  have H2 := H1.kept hF2 (fun _ _ x => x)
  have I0 : ManyInv w b 0 w2 := ⟨_, H2, HF1.out.trans hF2 (fun _ _ x => x), Nat.le_of_eq HB.out, fun k hk => by simp [Value.ownBlock] at hk⟩
  clear HF1 hF2 H1 H2
  go_wp2_with fail
  go_loopw [6] (fun s wr => ∃ k : Nat, k ≤ 256 ∧ s = .int .i64 k ∧ ManyInv w b k wr) (fun s _ => 256 - (intOf s).toNat)
  case atStart => exact ⟨0, by omega, rfl, I0⟩
  case round =>
    obtain ⟨k, hk, rfl, v, H, hF, hwb, hv⟩ := hrel
    have HF := Lib.hid hF
    have HV := Lib.hid hv
    clear hF hv
    by_cases hlt : k < 256
    · have hcv := conv_one wr k
      have hmk := msgs_succ k
      have HMK := Lib.hid hmk
      clear hmk
      go_wp2_with fail
      have H2 := H.alloc (.cells #[.int .u8 (k : Int)] 5)
      have hF2 := HF.out.alloc (.cells #[.int .u8 (k : Int)] 5)
      generalize wr.alloc (.cells #[.int .u8 (k : Int)] 5) = w3 at *
      refine (send_ok H2 1 2 ⟨#[UInt8.ofNat k]⟩ (bad_one _) (by rw [msgs_len]; omega)).mono ?_
      rintro e w4 ⟨rfl, v4, H4, hF4, hm4⟩
      have I4 : ManyInv w b (k + 1) w4 := by
        obtain ⟨f4, o4⟩ := step_fresh hF2 hwb HV.out hF4 hm4
        exact ⟨v4, by rw [HMK.out]; exact H4, f4, hwb, o4⟩
      clear hF4 hm4 H4 hcv hF2 H2
      go_wp2
      go_roundw
      case rel => exact ⟨k + 1, by omega, by go_num, I4⟩
      case measure => simp [intOf]; omega
    · have hk2 : k = 256 := by omega
      subst hk2
      obtain ⟨n, rfl⟩ := Int.eq_ofNat_of_zero_le hi.1
      have hx : ((n : Nat) : Int) ≤ 255 := hi.2
      have hn : (n : Nat) ≤ 255 := by omega
      clear hi hk hlt
      go_wp2_with fail
      refine (send_max H 1 2 ⟨#[]⟩ bad_none (by rw [msgs_len]; omega)).mono ?_
      rintro e w4 ⟨rfl, v4, H4, hF4, hm4⟩
      obtain ⟨f4, o4⟩ := step_fresh HF.out hwb HV.out hF4 hm4
      have F4 := Lib.hid f4
      have O4 := Lib.hid o4
      clear hF4 hm4 f4 o4 H
      cases twin
      · have f4 := F4.out
        have o4 := O4.out
        have H5 := H4
        have hF5 := Fr.refl (Foot b v4) w4
        have hm5 := Moved.refl w4 v4
        obtain ⟨g5, p5⟩ := step_fresh f4 hwb o4 hF5 hm5
        have F5 := Lib.hid g5
        have P5 := Lib.hid p5
        clear hF5 hm5 g5 p5
        go_wp2_with fail
        refine (take_many H5 n (by omega)).mono ?_
        rintro e w6 ⟨rfl, v6, H6, hF6, hm6⟩
        obtain ⟨g6, p6⟩ := step_fresh F5.out hwb P5.out hF6 hm6
        have F6 := Lib.hid g6
        have P6 := Lib.hid p6
        clear hF6 hm6 g6 p6 H5
        have hl6 := take_len n (by omega)
        obtain ⟨wz, hez⟩ : ∃ wz, wz = w6.alloc (.cells #[.int .i64 1, .int .i64 2, .string ⟨#[UInt8.ofNat n]⟩] 29) := ⟨_, rfl⟩
        have hcz : wz.cell? ⟨w6.heap.size, 2, none⟩ = some (.string ⟨#[UInt8.ofNat n]⟩) := by rw [hez]; exact blk_cell (blk_new _ _) 2
        have Hz := H6.alloc (.cells #[.int .i64 1, .int .i64 2, .string ⟨#[UInt8.ofNat n]⟩] 29)
        have Fz := F6.out.alloc (.cells #[.int .i64 1, .int .i64 2, .string ⟨#[UInt8.ofNat n]⟩] 29)
        rw [← hez] at Hz Fz
        have FZ := Lib.hid Fz
        clear Fz
        have hcv := conv_one wz n
        go_upto_region 13 with (fail)
        rw [← hez]
        clear hez H6
        generalize w6.heap.size = g at hcz ⊢
        go_wp2_with fail
        have Hy := Hz.alloc (.cells #[.int .u8 (n : Int)] 5)
        have Fy := FZ.out.alloc (.cells #[.int .u8 (n : Int)] 5)
        clear hcz hcv Hz
        generalize wz.alloc (.cells #[.int .u8 (n : Int)] 5) = wy at *
        refine (len_any Hy).mono ?_
        rintro e w' ⟨rfl, rfl⟩
        rw [hl6]
        have FY := Lib.hid Fy
        clear Fy
        go_wp2_with fail
        refine (send_ok Hy 1 2 ⟨#[]⟩ bad_none (by rw [hl6]; omega)).mono ?_
        rintro e w7 ⟨rfl, v7, H7, hF7, hm7⟩
        obtain ⟨f7, _⟩ := step_fresh FY.out hwb P6.out hF7 hm7
        have F7 := Lib.hid f7
        clear hF7 hm7 f7
        go_wp2
        go_ret
        exact ⟨rfl, F7.out.below0⟩
      · go_wp2_with fail
        refine (twin_many H4 n (by omega)).mono ?_
        rintro e w5 ⟨rfl, v5, H5, hF5, hm5⟩
        have f4 := F4.out
        have o4 := O4.out
        obtain ⟨g5, p5⟩ := step_fresh f4 hwb o4 hF5 hm5
        have F5 := Lib.hid g5
        have P5 := Lib.hid p5
        clear hF5 hm5 g5 p5
        go_wp2_with fail
        refine (take_many H5 n (by omega)).mono ?_
        rintro e w6 ⟨rfl, v6, H6, hF6, hm6⟩
        obtain ⟨g6, p6⟩ := step_fresh F5.out hwb P5.out hF6 hm6
        have F6 := Lib.hid g6
        have P6 := Lib.hid p6
        clear hF6 hm6 g6 p6 H5
        have hl6 := take_len n (by omega)
        obtain ⟨wz, hez⟩ : ∃ wz, wz = w6.alloc (.cells #[.int .i64 1, .int .i64 2, .string ⟨#[UInt8.ofNat n]⟩] 29) := ⟨_, rfl⟩
        have hcz : wz.cell? ⟨w6.heap.size, 2, none⟩ = some (.string ⟨#[UInt8.ofNat n]⟩) := by rw [hez]; exact blk_cell (blk_new _ _) 2
        have Hz := H6.alloc (.cells #[.int .i64 1, .int .i64 2, .string ⟨#[UInt8.ofNat n]⟩] 29)
        have Fz := F6.out.alloc (.cells #[.int .i64 1, .int .i64 2, .string ⟨#[UInt8.ofNat n]⟩] 29)
        rw [← hez] at Hz Fz
        have FZ := Lib.hid Fz
        clear Fz
        have hcv := conv_one wz n
        go_upto_region 13 with (fail)
        rw [← hez]
        clear hez H6
        generalize w6.heap.size = g at hcz ⊢
        go_wp2_with fail
        have Hy := Hz.alloc (.cells #[.int .u8 (n : Int)] 5)
        have Fy := FZ.out.alloc (.cells #[.int .u8 (n : Int)] 5)
        clear hcz hcv Hz
        generalize wz.alloc (.cells #[.int .u8 (n : Int)] 5) = wy at *
        refine (len_any Hy).mono ?_
        rintro e w' ⟨rfl, rfl⟩
        rw [hl6]
        have FY := Lib.hid Fy
        clear Fy
        go_wp2_with fail
        refine (send_ok Hy 1 2 ⟨#[]⟩ bad_none (by rw [hl6]; omega)).mono ?_
        rintro e w7 ⟨rfl, v7, H7, hF7, hm7⟩
        obtain ⟨f7, _⟩ := step_fresh FY.out hwb P6.out hF7 hm7
        have F7 := Lib.hid f7
        clear hF7 hm7 f7
        go_wp2
        go_ret
        exact ⟨rfl, F7.out.below0⟩
end Go.Proofs.Ytedmhhllkkgbjaa
