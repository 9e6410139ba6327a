/- DiskNobody's walk. -/
import Derived.Test.YtdamegjhdopfaaaD16
namespace Go.Proofs.Ytdamegjhdopfaaa
open Go.RowKit Go.WideShapes
set_option linter.unusedSimpArgs false
set_option linter.unusedVariables false

theorem alloc3 (w : World) (o1 o2 o3 : Obj) : ∃ w2, ((w.alloc o1).alloc o2).alloc o3 = w2 ∧ w2.heap[w.heap.size]? = some o1 ∧ w2.heap[w.heap.size + 1]? = some o2 ∧ w2.heap[w.heap.size + 1 + 1]? = some o3 ∧ Fr (fun _ => False) w w2 ∧ w2.heap.size = w.heap.size + 3 :=
  ⟨_, rfl, blk_alloc (blk_alloc (blk_new w o1) o2) o3, blk_alloc (by simpa using blk_new (w.alloc o1) o2) o3, by simpa using blk_new ((w.alloc o1).alloc o2) o3, (((Fr.refl _ _).alloc o1).alloc o2).alloc o3, by simp⟩
theorem NoDk.fr0 {w w' : World} {p : Value} (h : NoDk w p) (hF : Fr (fun _ => False) w w') : NoDk w' p := by
  rcases h with h | ⟨g, h, hc⟩
  · exact .inl h
  · exact .inr ⟨g, h, hF.cell0 hc⟩

set_option maxRecDepth 100000 in
set_option maxHeartbeats 4000000 in
theorem nobody_any (w : World) (ok at' : Int) (bA : Option Addr) (bn bc : Nat) (wh : Bool) (n pl mk : Int) (fA : Option Addr) (fn fc : Nat) :
    Calls Try.prog 9 #[.agg #[.int .i64 ok, .int .i64 at', .slice bA bn bc, .bool wh, .int .i64 n, .int .i64 pl, .int .u8 mk, .slice fA fn fc]] w (fun e w' => e = .returned (.bool true) ∧ Fr (fun _ => False) w w') := by
  go_enter Try.func9, Try.ntmps9
  go_upto_region 3 with (fail)
  obtain ⟨w3, he, hn1, hn2, hn3, hF3, hs3⟩ := alloc3 w (.cells #[.int .i64 ok, .int .i64 at', .slice bA bn bc, .bool wh, .int .i64 n, .int .i64 pl, .int .u8 mk, .slice fA fn fc] 35) (.cells #[.slice none 0 0, .map none, .int .i64 0, .int .i64 0, .bool false] 74) (.cells #[.pointer none, .pointer (some ⟨w.heap.size + 1, 0, none⟩)] 26)
  rw [he]
  have HN1 := Lib.hid hn1
  have HN2 := Lib.hid hn2
  have HN3 := Lib.hid hn3
  have HF3 := Lib.hid hF3
  have HE : Hid (Fr (fun _ => False) w3 w3) := Fr.refl _ _
  clear he hn1 hn2 hn3 hF3 hs3
  obtain ⟨b0, hb0⟩ : ∃ b0, b0 = w.heap.size := ⟨_, rfl⟩
  rw [← hb0] at HN1 HN2 HN3 ⊢
  clear hb0
  go_wp2_with fail
  go_loopw [15] (fun k wr => ∃ i : Nat, i ≤ 2 ∧ k = .int .i64 i ∧ Hid (Fr (fun _ => False) w3 wr)) (fun k _ => 2 - (intOf k).toNat)
  case atStart => exact ⟨0, by omega, rfl, HE⟩
  case round =>
    clear HE
    obtain ⟨i, hi, rfl, HE⟩ := hrel
    rcases Nat.lt_or_ge i 2 with hlt | hlt
    · have hii : (i : Int) < 2 := by omega
      have hp0 : ∃ p, wr.cell? ⟨b0 + 1 + 1, i, none⟩ = some p ∧ NoDk wr p := by
        have h3 := HE.out.blk0 HN3.out
        rcases Nat.lt_or_ge i 1 with h | h
        · obtain rfl : i = 0 := by omega
          exact ⟨_, blk_cell h3 0, .inl rfl⟩
        · obtain rfl : i = 1 := by omega
          exact ⟨_, blk_cell h3 1, .inr ⟨b0 + 1, rfl, blk_cell (HE.out.blk0 HN2.out) 0⟩⟩
      obtain ⟨p, hp, hno⟩ := hp0
      have HNO := Lib.hid hno
      have h1 := HE.out.blk0 HN1.out
      have x1 : wr.cell? ⟨b0, 1, none⟩ = some (.int .i64 at') := blk_cell h1 1
      have x2 : wr.cell? ⟨b0, 2, none⟩ = some (.slice bA bn bc) := blk_cell h1 2
      have x4 : wr.cell? ⟨b0, 4, none⟩ = some (.int .i64 n) := blk_cell h1 4
      have x5 : wr.cell? ⟨b0, 5, none⟩ = some (.int .i64 pl) := blk_cell h1 5
      have x6 : wr.cell? ⟨b0, 6, none⟩ = some (.int .u8 mk) := blk_cell h1 6
      have x7 : wr.cell? ⟨b0, 7, none⟩ = some (.slice fA fn fc) := blk_cell h1 7
      clear hno h1
      go_wp2_with fail
      refine (read_no HNO.out at').mono ?_
      rintro e w4 ⟨rfl, rfl⟩
      go_wp2_with fail
      refine (crash_no HNO.out fA fn fc).mono ?_
      rintro e w4 ⟨rfl, rfl⟩
      go_wp2_with fail
      refine (write_no HNO.out at' (.slice bA bn bc)).mono ?_
      rintro e w4 ⟨rfl, rfl⟩
      go_wp2_with fail
      refine (flush_no HNO.out).mono ?_
      rintro e w4 ⟨rfl, rfl⟩
      go_wp2_with fail
      refine (fuse_no HNO.out n).mono ?_
      rintro e w4 ⟨rfl, rfl⟩
      go_wp2_with fail
      refine (rot_no HNO.out at' pl mk).mono ?_
      rintro e w4 ⟨rfl, rfl⟩
      go_wp2_with fail
      refine (size_no HNO.out).mono ?_
      rintro e w4 ⟨rfl, rfl⟩
      go_wp2_with fail
      refine (done_no HNO.out).mono ?_
      rintro e w4 ⟨rfl, rfl⟩
      go_wp2_with fail
      refine (loose_no HNO.out).mono ?_
      rintro e w4 ⟨rfl, rfl⟩
      go_wp2_with fail
      refine (down_no HNO.out).mono ?_
      rintro e w4 ⟨rfl, rfl⟩
      go_wp2_with fail
      exact ⟨⟨i + 1, by omega, by go_num, HE⟩, by simp [intOf]; omega⟩
    · have hii : ¬ (i : Int) < 2 := by omega
      go_wp2_with fail
      refine (awake_disk wr).mono ?_
      rintro e w4 ⟨rfl, hF4⟩
      have HF4 := Lib.hid ((HF3.out.trans HE.out (fun _ _ h => h)).trans hF4 (fun _ _ h => h))
      clear hF4
      go_wp2_with fail
      go_ret
      exact ⟨rfl, HF4.out⟩
end Go.Proofs.Ytdamegjhdopfaaa
