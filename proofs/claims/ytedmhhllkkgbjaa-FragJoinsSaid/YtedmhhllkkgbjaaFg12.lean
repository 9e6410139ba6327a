/- awake: a record of 107 bytes. -/
import Derived.Test.YtedmhhllkkgbjaaFg11
namespace Go.Proofs.Ytedmhhllkkgbjaa
open Go.RowKit

def zeros (n : Nat) : List Int := List.replicate n 0
theorem zeros_len (n : Nat) : (zeros n).length = n := List.length_replicate ..
theorem made_zeros (n : Nat) : madeCells #[.int .u8 0] n = (bytes (zeros n)).toArray := by
  apply Array.ext
  · simp [madeCells, zeros, bytes]
  · intro i h1 h2
    simp [madeCells, zeros, bytes, Nat.mod_one]
theorem readB_blk {w : World} {g n : Nat} {x : List Int} (h : w.heap[g]? = some (.cells (bytes x).toArray 5 (0, 0))) (hn : x.length = n) : ReadB w (some ⟨g, 0, none⟩) n x := by
  refine ⟨by omega, fun g' o s e => ?_, fun e => by cases e⟩
  simp only [Option.some.injEq, Addr.mk.injEq] at e
  obtain ⟨rfl, rfl, rfl⟩ := e
  refine ⟨fun _ => rfl, fun j b hb => ?_⟩
  rw [blk_cell h]
  simp [bytes, hb]
theorem readR_one {w : World} {g : Nat} {A : Option Addr} {c : Nat} {x : List Int} (h : w.heap[g]? = some (.cells #[.slice A x.length c] 27 (0, 0))) (hx : ReadB w A c x) : ReadR w (some ⟨g, 0, none⟩) [x] := by
  intro i y hy
  cases i with
  | zero =>
    obtain rfl : x = y := by simpa using hy
    exact ⟨g, 0, A, c, rfl, by rw [blk_cell h]; rfl, hx⟩
  | succ i => simp at hy

theorem cut107 : cutE [zeros 107] = 0 ∧ cutL [zeros 107] = [2 :: 106 :: zeros 106, [4, 1, 0]] := by
  constructor
  · rfl
  · decide
theorem join107 : joinR [2 :: 106 :: zeros 106, [4, 1, 0]] = [zeros 107] ∧ joinN [2 :: 106 :: zeros 106, [4, 1, 0]] = 2 := by decide

theorem range107 : ∀ p ∈ [2 :: 106 :: zeros 106, [4, 1, 0]], p.length ≤ 1000000 ∧ ∀ b ∈ p, (0 : Int) ≤ b ∧ b < 256 := by decide

set_option maxRecDepth 100000 in
set_option maxHeartbeats 2000000 in
theorem awake_yes (w : World) : Calls Try.prog 28 #[] w fun e w' => e = .returned (.bool true) ∧ Fr (fun _ => False) w w' := by
  have hmk : ∀ W : World, (Instr.makeSlice 27 (.int .i64 107) (.int .i64 107)).run Try.prog W = .ok (.slice (some ⟨W.heap.size, 0, none⟩) 107 107) (W.alloc (.cells (bytes (zeros 107)).toArray 5)) := fun W => by
    have := make_u8 W 107 (by omega)
    rw [made_zeros] at this
    exact this
  have HM := Lib.hid hmk
  obtain ⟨zc, hzc⟩ : ∃ zc, zc = (bytes (zeros 107)).toArray := ⟨_, rfl⟩
  rw [← hzc] at hmk
  have HZC := Lib.hid hzc
  clear HM hzc
  go_enter Try.func28, Try.ntmps28
  go_wp2_with fail
  obtain ⟨w1, he, hn1, hn2, hF, hsz⟩ := alloc2 w (.cells zc 5) (.cells #[.slice (some ⟨w.heap.size, 0, none⟩) 107 107] 27)
  rw [he]
  have hR1 : ReadR w1 (some ⟨w.heap.size + 1, 0, none⟩) [zeros 107] := readR_one (c := 107) (A := some ⟨w.heap.size, 0, none⟩) hn2 (readB_blk (by rw [HZC.out] at hn1; exact hn1) rfl)
  have HR1 := Lib.hid hR1
  have HF1 := Lib.hid hF
  clear hR1 hn1 hn2 hF hsz he hmk
  refine (cut_any (some ⟨w.heap.size + 1, 0, none⟩) 1 [zeros 107] w1 (by simp) HR1.out).mono ?_
  rintro e w2 ⟨A, c, rfl, hc, hR, hb⟩
  rw [cut107.2] at hR hc
  rw [cut107.1, cut107.2]
  obtain ⟨L, hL⟩ : ∃ L, L = [2 :: 106 :: zeros 106, [4, 1, 0]] := ⟨_, rfl⟩
  have hj := join107
  have hr := range107
  rw [← hL] at hR hc hj hr ⊢
  have hl2 : (L.length : Int) = 2 := by rw [hL]; rfl
  obtain ⟨g0, o0, P0, c0, hA, q0, _⟩ := hR 0 (2 :: 106 :: zeros 106) (by rw [hL]; rfl)
  obtain ⟨g1, o1, P1, c1, hA1, q1, _⟩ := hR 1 [4, 1, 0] (by rw [hL]; rfl)
  subst hA
  simp only [Option.some.injEq, Addr.mk.injEq] at hA1
  obtain ⟨rfl, rfl, _⟩ := hA1
  rw [Nat.add_zero] at q0
  have hl0 : (2 :: 106 :: zeros 106).length = 108 := rfl
  rw [hl0] at q0
  have HR := Lib.hid hR
  have HJ := Lib.hid hj
  have HRG := Lib.hid hr
  have HB := Lib.hid hb
  have HLL : Hid (L.length ≤ 800000) := by show L.length ≤ 800000; omega
  clear hL hR hj hr hb hc hl0
  go_wp2_with fail
  refine (join_any _ c L w2 HLL.out HR.out (fun p hp => (HRG.out p hp).1) (fun p hp => (HRG.out p hp).2)).mono ?_
  rintro e w3 ⟨A3, c3, rfl, hc3, hR3, hb3⟩
  rw [HJ.out.1] at hR3 hc3
  rw [HJ.out.1, HJ.out.2]
  obtain ⟨g3, o3, P3, pc3, rfl, q3, _⟩ := hR3 0 (zeros 107) rfl
  rw [zeros_len, Nat.add_zero] at q3
  have hF3 : Fr (fun _ => False) w2 w3 := Fr.of_below hb3 _
  have q0' := hF3.cell0 q0
  have q1' := hF3.cell0 q1
  have hl1 : (([zeros 107] : List (List Int)).length) = 1 := rfl
  rw [hl1]
  have HF3 := Lib.hid hF3
  clear q0 q1 hR3 hc3 hb3 hF3 hl1
  have HFT := Lib.hid (((HF1.out.trans (Fr.of_below HB.out (fun _ => False)) (fun _ _ h => h))).trans HF3.out (fun _ _ h => h))
  go_wp2
  go_ret
  exact ⟨rfl, HFT.out⟩

end Go.Proofs.Ytedmhhllkkgbjaa
