/- FragMany's walk. -/
import Derived.Test.YtedmhhllkkgbjaaFg12
namespace Go.Proofs.Ytedmhhllkkgbjaa
open Go.RowKit

theorem made_nils (n : Nat) : madeCells #[.slice none 0 0] n = (List.replicate n (Value.slice none 0 0)).toArray := by
  apply Array.ext
  · simp [madeCells]
  · intro i h1 h2
    simp [madeCells, Nat.mod_one]
theorem make_rows (w : World) (n : Nat) (hn : n ≤ 1000000) : (Instr.makeSlice 47 (.int .i64 n) (.int .i64 n)).run Try.prog w = .ok (.slice (some ⟨w.heap.size, 0, none⟩) n n) (w.alloc (.cells (madeCells #[.slice none 0 0] n) 27)) := by
  obtain ⟨i, hi, hzz⟩ := Option.map_eq_some_iff.1 Try.info27
  simp only [Prod.mk.injEq] at hzz
  obtain ⟨hz0, hz1, hz2⟩ := hzz
  have := run_make (P := Try.prog) w 47 27 i (.slice none 0 0) Try.underlying47 hi hz0 .i64 .i64 n n (by omega) (by omega) (by rw [hz2]; omega) (by omega)
  rw [hz1] at this
  simpa [Value.cells] using this
theorem readR_nils {w : World} {g n : Nat} (h : w.heap[g]? = some (.cells (List.replicate n (Value.slice none 0 0)).toArray 27 (0, 0))) : ReadR w (some ⟨g, 0, none⟩) (List.replicate n []) := by
  intro i x hx
  have hi := (List.getElem?_eq_some_iff.1 hx).1
  simp only [List.length_replicate] at hi
  obtain rfl : [] = x := by simpa [List.getElem?_replicate, hi] using hx
  exact ⟨g, 0, none, 0, rfl, by rw [blk_cell h]; simp [hi], ⟨by simp, fun g o s e => (by cases e), fun _ => rfl⟩⟩
theorem cutE_long (n : Nat) : cutE [zeros n] = if n ≤ 8192 then 0 else 2 := by
  simp [cutE, zeros_len]
theorem cutE_nils (n : Nat) : cutE (List.replicate n []) = if 256 < n then 3 else 0 := by
  simp only [cutE, List.length_replicate]
  congr 1
  rw [if_pos]
  rw [List.all_eq_true]
  intro x hx
  rw [List.eq_of_mem_replicate hx]
  simp

set_option maxRecDepth 100000 in
set_option maxHeartbeats 2000000 in
theorem many_any (a : Int) (ha : 0 ≤ a ∧ a ≤ 255) (long : Bool) (w : World) : Calls Try.prog 5 #[.int .u8 a, .bool long] w fun e w' => e = .returned (.bool true) ∧ Fr (fun _ => False) w w' := by
  obtain ⟨a0, a1⟩ := ha
  obtain ⟨K, hK⟩ : ∃ K : Nat, a % 3 = K := ⟨(a % 3).toNat, by omega⟩
  have hK3 : K < 3 := by omega
  cases long with
  | true =>
    have hmk : ∀ W : World, (Instr.makeSlice 27 (.int .i64 (8191 + (K : Int))) (.int .i64 (8191 + (K : Int)))).run Try.prog W = .ok (.slice (some ⟨W.heap.size, 0, none⟩) (8191 + K) (8191 + K)) (W.alloc (.cells (bytes (zeros (8191 + K))).toArray 5)) := fun W => by
      have := make_u8 W (8191 + K) (by omega)
      rw [made_zeros] at this
      exact this
    obtain ⟨N, hN⟩ : ∃ N, N = 8191 + K := ⟨_, rfl⟩
    rw [← hN] at hmk
    obtain ⟨zc, hzc⟩ : ∃ zc, zc = (bytes (zeros N)).toArray := ⟨_, rfl⟩
    rw [← hzc] at hmk
    have HZC := Lib.hid hzc
    have HN := Lib.hid hN
    clear hzc hN
    go_enter Try.func5, Try.ntmps5
    go_wp2_with fail
    obtain ⟨w1, he, hn1, hn2, hF, hsz⟩ := alloc2 w (.cells zc 5) (.cells #[.slice (some ⟨w.heap.size, 0, none⟩) N N] 27)
    rw [he]
    have hzl := zeros_len N
    have hR1 : ReadR w1 (some ⟨w.heap.size + 1, 0, none⟩) [zeros N] := readR_one (c := N) (A := some ⟨w.heap.size, 0, none⟩) (by rw [hzl]; exact hn2) (readB_blk (by rw [HZC.out] at hn1; exact hn1) hzl)
    have HR1 := Lib.hid hR1
    have HF1 := Lib.hid hF
    clear hR1 hn1 hn2 hF hsz he hmk hzl
    refine (cut_any (some ⟨w.heap.size + 1, 0, none⟩) 1 [zeros N] w1 (by simp) HR1.out).mono ?_
    rintro e w2 ⟨A, c, rfl, hc, hR, hb⟩
    have HB := Lib.hid hb
    have HF2 := Lib.hid (HF1.out.trans (Fr.of_below hb (fun _ => False)) (fun _ _ h => h))
    clear hR hb hc
    by_cases h2 : K < 2
    · have hE : cutE [zeros N] = 0 := by rw [cutE_long, if_pos (by rw [HN.out]; omega)]
      rw [hE]
      generalize (cutL [zeros N]).length = L
      have hb1 : decide ((K : Int) < 2) = true := by simp; omega
      have hb2 : ((K : Int) == 2) = false := by simp; omega
      clear hE
      go_wp2_with fail
      refine (awake_yes w2).mono ?_
      rintro e w3 ⟨rfl, hF3⟩
      have HF3 := Lib.hid hF3
      clear hF3
      go_wp2
      go_ret
      exact ⟨rfl, HF2.out.trans HF3.out (fun _ _ h => h)⟩
    · have hE : cutE [zeros N] = 2 := by rw [cutE_long, if_neg (by rw [HN.out]; omega)]
      have hL : cutL [zeros N] = [] := by simp [cutL, hE]
      rw [hE, hL]
      have hb1 : decide ((K : Int) < 2) = false := by simp; omega
      have hb2 : ((K : Int) == 2) = true := by simp; omega
      clear hE hL
      go_wp2_with fail
      refine (awake_yes w2).mono ?_
      rintro e w3 ⟨rfl, hF3⟩
      have HF3 := Lib.hid hF3
      clear hF3
      go_wp2
      go_ret
      exact ⟨rfl, HF2.out.trans HF3.out (fun _ _ h => h)⟩
  | false =>
    have hmk : ∀ W : World, (Instr.makeSlice 47 (.int .i64 (255 + (K : Int))) (.int .i64 (255 + (K : Int)))).run Try.prog W = .ok (.slice (some ⟨W.heap.size, 0, none⟩) (255 + K) (255 + K)) (W.alloc (.cells (List.replicate (255 + K) (Value.slice none 0 0)).toArray 27)) := fun W => by
      have := make_rows W (255 + K) (by omega)
      rw [made_nils] at this
      exact this
    obtain ⟨N, hN⟩ : ∃ N, N = 255 + K := ⟨_, rfl⟩
    rw [← hN] at hmk
    obtain ⟨zc, hzc⟩ : ∃ zc, zc = (List.replicate N (Value.slice none 0 0)).toArray := ⟨_, rfl⟩
    rw [← hzc] at hmk
    have HZC := Lib.hid hzc
    have HN := Lib.hid hN
    clear hzc hN
    go_enter Try.func5, Try.ntmps5
    go_wp2_with fail
    obtain ⟨w1, he, hn1, hF, hsz⟩ := alloc1 w (.cells zc 27)
    rw [he]
    have hR1 : ReadR w1 (some ⟨w.heap.size, 0, none⟩) (List.replicate N []) := readR_nils (by rw [HZC.out] at hn1; exact hn1)
    have HR1 := Lib.hid hR1
    have HF1 := Lib.hid hF
    clear hR1 hn1 hF hsz he hmk
    have hcut := cut_any (some ⟨w.heap.size, 0, none⟩) N (List.replicate N []) w1 (by rw [List.length_replicate, HN.out]; omega) HR1.out
    rw [List.length_replicate] at hcut
    refine hcut.mono ?_
    rintro e w2 ⟨A, c, rfl, hc, hR, hb⟩
    have HF2 := Lib.hid (HF1.out.trans (Fr.of_below hb (fun _ => False)) (fun _ _ h => h))
    clear hR hb hc hcut
    by_cases h2 : K < 2
    · have hE : cutE (List.replicate N []) = 0 := by rw [cutE_nils, if_neg (by rw [HN.out]; omega)]
      rw [hE]
      generalize (cutL (List.replicate N [])).length = L
      have hb1 : decide ((K : Int) < 2) = true := by simp; omega
      have hb2 : ((K : Int) == 2) = false := by simp; omega
      clear hE
      go_wp2_with fail
      refine (awake_yes w2).mono ?_
      rintro e w3 ⟨rfl, hF3⟩
      have HF3 := Lib.hid hF3
      clear hF3
      go_wp2
      go_ret
      exact ⟨rfl, HF2.out.trans HF3.out (fun _ _ h => h)⟩
    · have hE : cutE (List.replicate N []) = 3 := by rw [cutE_nils, if_pos (by rw [HN.out]; omega)]
      have hL : cutL (List.replicate N []) = [] := by simp [cutL, hE]
      rw [hE, hL]
      have hb1 : decide ((K : Int) < 2) = false := by simp; omega
      have hb2 : ((K : Int) == 2) = true := by simp; omega
      clear hE hL
      go_wp2_with fail
      refine (awake_yes w2).mono ?_
      rintro e w3 ⟨rfl, hF3⟩
      have HF3 := Lib.hid hF3
      clear hF3
      go_wp2
      go_ret
      exact ⟨rfl, HF2.out.trans HF3.out (fun _ _ h => h)⟩

end Go.Proofs.Ytedmhhllkkgbjaa
