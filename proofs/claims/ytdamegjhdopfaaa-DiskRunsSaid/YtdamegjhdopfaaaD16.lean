/- Layer 03's example: awake. -/
import Derived.Test.YtdamegjhdopfaaaD15
import Derived.Lib.SlBytesConst
namespace Go.Proofs.Ytdamegjhdopfaaa
open Go.RowKit Go.WideShapes
set_option linter.unusedSimpArgs false
set_option linter.unusedVariables false

def x5 : List Int := [120, 120, 120, 120, 120]
def y5 : List Int := [121, 121, 121, 121, 121]
theorem write_ok (d : Dk) (i : Int) (b : List Int) (hd : d.down = false) (hi : 0 ≤ i ∧ i < d.F.length) (hb : b.length = 128) (hf : d.fuse ≤ 0) : d.writeE i b.length = 0 ∧ d.write i b = ⟨d.F, fun k => if k = i then d.L k ++ [b] else d.L k, d.done + 1, d.fuse, d.down, d.puts + 1⟩ := by
  have h1 : d.writeE i b.length = 0 := by unfold Dk.writeE; rw [hd, if_neg (by simp), if_pos hi, if_pos hb]
  refine ⟨h1, ?_⟩
  unfold Dk.write
  rw [if_pos h1]
  unfold Dk.tick Dk.wr
  have h2 : ¬ 0 < d.fuse := by omega
  simp only [if_neg h2]
/-- the example's disk -/
def exD (X Y : List Int) : Dk := ⟨List.replicate 2 zeroS, fun k => if k = 0 then [X, Y] else [], 2, -1, false, 2⟩
theorem exD_los (X Y : List Int) : [(⟨0, 2⟩ : Lo)] = losOf (exD X Y) := by
  refine los_same _ ((List.perm_ext_iff_of_nodup (by simp) (nodup_map (los_nodup _))).2 (fun m => ?_)) (by simp)
  rw [mem_los]
  obtain ⟨s, n⟩ := m
  constructor
  · intro h
    simp only [List.mem_singleton, Lo.mk.injEq] at h
    obtain ⟨rfl, rfl⟩ := h
    exact ⟨by simp [exD], by simp [exD]⟩
  · rintro ⟨h1, h2⟩
    simp only [exD] at h1 h2
    split at h1
    · rename_i h0
      rw [if_pos h0] at h2
      simp only [List.mem_singleton, Lo.mk.injEq]
      exact ⟨Fin.ext (by simpa using h0), by simpa using h2⟩
    · simp at h1

set_option maxRecDepth 100000 in
set_option maxHeartbeats 4000000 in
theorem awake_disk (w : World) : Calls Try.prog 15 #[] w (fun e w' => e = .returned (.bool true) ∧ Fr (fun _ => False) w w') := by
  have hnew : Calls Try.prog 16 #[.int .i64 2] w (NewPost w 2) := new_any w 2 (by omega) (by omega)
  have HNEW := Lib.hid hnew
  have kc := fun (w : World) (C : Array Value) (n c : Nat) => Lib.run_convert_bytes_const (P := Try.prog) w 33 5 C n c Try.underlying33 Try.underlying5
  clear hnew
  go_enter Try.func15, Try.ntmps15
  go_wp2_with fail
  refine HNEW.out.mono ?_
  rintro e w1 ⟨g, T, rfl, hat, hF, hg, hT⟩
  have HAT := Lib.hid hat
  have HF := Lib.hid hF
  have HT := Lib.hid hT
  clear hat hF hg hT HNEW
  have hfx : Calls Try.prog 19 #[.slice (some ⟨w1.heap.size, 0, none⟩) 5 5] (w1.alloc (.cells #[.int .u8 120, .int .u8 120, .int .u8 120, .int .u8 120, .int .u8 120] 5 (5, 6))) (FullPost _ x5) := full_any (some ⟨w1.heap.size, 0, none⟩) 5 x5 (readU_row (t := 5) (fr := (5, 6)) (blk_new w1 (.cells (by8 x5).toArray 5 (5, 6))))
  have HFX := Lib.hid hfx
  have HF2 : Hid (Fr (fun _ => False) w1 (w1.alloc (.cells #[.int .u8 120, .int .u8 120, .int .u8 120, .int .u8 120, .int .u8 120] 5 (5, 6)))) := (Fr.refl _ w1).alloc _
  clear hfx
  go_wp2_with fail
  refine HFX.out.mono ?_
  rintro e w3 ⟨k1, rfl, hk1, hF3, hg3⟩
  have hfy : Calls Try.prog 19 #[.slice (some ⟨w3.heap.size, 0, none⟩) 5 5] (w3.alloc (.cells #[.int .u8 121, .int .u8 121, .int .u8 121, .int .u8 121, .int .u8 121] 5 (5, 6))) (FullPost _ y5) := full_any (some ⟨w3.heap.size, 0, none⟩) 5 y5 (readU_row (t := 5) (fr := (5, 6)) (blk_new w3 (.cells (by8 y5).toArray 5 (5, 6))))
  have HFY := Lib.hid hfy
  have HF3 := Lib.hid (HF2.out.trans hF3 (fun _ _ h => h))
  have HF4 : Hid (Fr (fun _ => False) w3 (w3.alloc (.cells #[.int .u8 121, .int .u8 121, .int .u8 121, .int .u8 121, .int .u8 121] 5 (5, 6)))) := (Fr.refl _ w3).alloc _
  have HK1 := Lib.hid hk1
  clear hfy hk1 hF3 hg3 HF2 HFX
  go_wp2_with fail
  refine HFY.out.mono ?_
  rintro e w5 ⟨k2, rfl, hk2, hF5, hg5⟩
  have HF35 := Lib.hid (HF4.out.trans hF5 (fun _ _ h => h))
  have HK1' := Lib.hid (HF35.out.blk0 HK1.out)
  have HF15 := Lib.hid (HF3.out.trans HF35.out (fun _ _ h => h))
  have HAT5 := Lib.hid (HAT.out.fr0 HF15.out)
  have HK2 := Lib.hid hk2
  have HT5 : Hid (∀ k, T k → k < w1.heap.size) := HAT.out.lt
  have HG5 : Hid (w3.heap.size ≤ k2) := (by have := HF4.out.size; omega : w3.heap.size ≤ k2)
  clear kc hk2 hF5 hg5 HF4 HFY HK1
  obtain ⟨X, hX⟩ : ∃ X, X = fullS x5 := ⟨_, rfl⟩
  obtain ⟨Y, hY⟩ : ∃ Y, Y = fullS y5 := ⟨_, rfl⟩
  have hsX : Sec X := by rw [hX]; exact full_sec x5 (fun x hx => by simp [x5] at hx; omega)
  have hsY : Sec Y := by rw [hY]; exact full_sec y5 (fun x hx => by simp [y5] at hx; omega)
  rw [← hX] at HK1'
  rw [← hY] at HK2
  have hw1 := write_any HAT5.out 0 (some ⟨k1, 0, none⟩) 128 X (readU_row HK1'.out) hsX.2 (by simp [newDk]) (by simp [newDk])
  obtain ⟨e1, e2⟩ := write_ok (newDk (List.replicate 2 zeroS)) 0 X rfl (by simp [newDk]) hsX.1 (by simp [newDk])
  rw [e1, e2, hsX.1] at hw1
  have HW1 := Lib.hid hw1
  have HX := Lib.hid hX
  have HY := Lib.hid hY
  have HSX := Lib.hid hsX
  have HSY := Lib.hid hsY
  clear hw1 e1 e2 hX hY hsX hsY
  go_wp2_with fail
  refine HW1.out.mono ?_
  rintro e w6 ⟨rfl, T6, hat6, hF6, hT6⟩
  have hk2T : ¬ T k2 := fun h => by have := HT5.out k2 h; have := HF3.out.size; have := HG5.out; omega
  have HK2' := Lib.hid (hF6.blk HK2.out hk2T)
  have hw2 := write_any hat6 0 (some ⟨k2, 0, none⟩) 128 Y (readU_row HK2'.out) HSY.out.2 (by simp [newDk]) (by simp [newDk])
  obtain ⟨e1, e2⟩ := write_ok ⟨(newDk (List.replicate 2 zeroS)).F, fun k => if k = 0 then (newDk (List.replicate 2 zeroS)).L k ++ [X] else (newDk (List.replicate 2 zeroS)).L k, (newDk (List.replicate 2 zeroS)).done + 1, (newDk (List.replicate 2 zeroS)).fuse, (newDk (List.replicate 2 zeroS)).down, (newDk (List.replicate 2 zeroS)).puts + 1⟩ 0 Y rfl (by simp [newDk]) HSY.out.1 (by simp [newDk])
  rw [e1, e2, HSY.out.1] at hw2
  have e3 : (⟨(newDk (List.replicate 2 zeroS)).F, fun k => if k = 0 then (if k = 0 then (newDk (List.replicate 2 zeroS)).L k ++ [X] else (newDk (List.replicate 2 zeroS)).L k) ++ [Y] else if k = 0 then (newDk (List.replicate 2 zeroS)).L k ++ [X] else (newDk (List.replicate 2 zeroS)).L k, (newDk (List.replicate 2 zeroS)).done + 1 + 1, (newDk (List.replicate 2 zeroS)).fuse, (newDk (List.replicate 2 zeroS)).down, (newDk (List.replicate 2 zeroS)).puts + 1 + 1⟩ : Dk) = exD X Y := by
    unfold exD newDk
    simp only [Dk.mk.injEq, true_and, and_true]
    refine ⟨funext fun k => ?_, by omega⟩
    by_cases hk : k = 0 <;> simp [hk]
  have HW2 : Hid (Calls Try.prog 18 #[.pointer (some ⟨g, 0, none⟩), .int .i64 0, .slice (some ⟨k2, 0, none⟩) 128 128] w6 (WritePost w6 g T6 (exD X Y) 0)) := by rw [← e3]; exact hw2
  have HF6 := Lib.hid (HF15.out.none.trans (S := T) hF6 (fun _ _ h => h))
  have HT6 : Hid (∀ k, T6 k → w1.heap.size ≤ k ∨ T k) := fun k hk => by
    rcases hT6 k hk with h | h
    · exact .inr h
    · have := HF15.out.size; exact .inl (by omega)
  clear hw2 e1 e2 e3 hat6 hF6 hT6 hk2T HK2 HW1 HAT5 HK1'
  go_wp2_with fail
  refine HW2.out.mono ?_
  rintro e w7 ⟨rfl, T7, hat7, hF7, hT7⟩
  have HAT7 := Lib.hid hat7
  have HF7 : Hid (Fr (fun k => w.heap.size ≤ k) w w7) := by
    have h0 : Fr (fun k => w.heap.size ≤ k) w w6 := HF.out.none.trans HF6.out (fun k _ hk => HT.out k hk)
    refine h0.trans hF7 (fun k hk h => ?_)
    rcases HT6.out k h with h | h
    · have := HF.out.size; omega
    · exact HT.out k h
  clear hat7 hF7 hT7 HK2' HW2 HF6 HT6
  have hlo := loose_any HAT7.out
  rw [← exD_los X Y] at hlo
  have HLO := Lib.hid hlo
  clear hlo
  go_wp2_with fail
  refine HLO.out.mono ?_
  rintro e w8 ⟨v8, rfl, ho8, hF8⟩
  obtain ⟨LA, lc, rfl⟩ := own_slice ho8
  have ho8' : w8.ownsRow w7.heap.size 48 2 (.slice LA 1 lc) 1 ([(⟨0, 2⟩ : Lo)].flatMap Lo.cells) := ho8
  have HO8 := Lib.hid ho8'
  have HAT8 := Lib.hid (HAT7.out.fr0 hF8)
  have HF8 := Lib.hid (HF7.out.trans hF8 (fun _ _ h => h.elim))
  clear ho8 ho8' hF8 HLO HAT7 HF7
  have hcr := crash_any (HAT8.out.fr0 ((Fr.refl (fun _ => False) w8).alloc (.cells #[.int .i64 1, .int .i64 3] 43))) (some ⟨w8.heap.size, 0, none⟩) 1 [⟨1, 3⟩] (by simp [maxLen]) (fun i f hf => by
    cases i with
    | succ i => simp at hf
    | zero =>
      simp at hf
      subst hf
      refine ⟨w8.heap.size, 0, rfl, fun j u hu => ?_⟩
      rw [Nat.zero_add, blk_cell (blk_new w8 (.cells #[.int .i64 1, .int .i64 3] 43))]
      simpa [Ft.cells] using hu) [⟨0, 2⟩] (exD_los X Y)
  have HCR : Hid (Calls Try.prog 23 #[.pointer (some ⟨g, 0, none⟩), .slice (some ⟨w8.heap.size, 0, none⟩) 1 1] (w8.alloc (.cells #[.int .i64 1, .int .i64 3] 43)) (CrashAll (w8.alloc (.cells #[.int .i64 1, .int .i64 3] 43)) (exD X Y) [⟨0, 2⟩] [⟨1, 3⟩])) := hcr
  have HF9 : Hid (Fr (fun _ => False) w8 (w8.alloc (.cells #[.int .i64 1, .int .i64 3] 43))) := (Fr.refl _ w8).alloc _
  clear hcr
  go_wp2_with fail
  refine HCR.out.mono ?_
  rintro e w10 hcr
  have hce : crashE [(⟨0, 2⟩ : Lo)] [(⟨1, 3⟩ : Ft)] = 0 := by simp [crashE, fitsF, mayB]
  rcases hcr with ⟨h1, _⟩ | ⟨_, g10, T10, rfl, hat10, hF10, hg10, hT10⟩
  · exact absurd hce h1
  have hcf : crashF (exD X Y) [(⟨0, 2⟩ : Lo)] [(⟨1, 3⟩ : Ft)] = [Y.take 3 ++ X.drop 3, zeroS] := by
    simp [crashF, crash1, afterS, exD]
  rw [hcf] at hat10
  have HAT10 := Lib.hid hat10
  have HF10 := Lib.hid (HF9.out.trans hF10 (fun _ _ h => h))
  have HAT8' := Lib.hid (HAT8.out.fr0 HF10.out)
  have HO10 := Lib.hid (HF10.out.own0 HO8.out)
  clear hce hcf hat10 hF10 hg10 hT10 HCR HF9 HAT8
  have hrd := read_any HAT10.out 0
  have e4 : (newDk [Y.take 3 ++ X.drop 3, zeroS]).readE 0 = 0 := by simp [Dk.readE, newDk]
  have e5 : (newDk [Y.take 3 ++ X.drop 3, zeroS]).readB 0 = Y.take 3 ++ X.drop 3 := by simp [Dk.readB, Dk.at, newDk]
  rw [e4, e5] at hrd
  obtain ⟨Z, hZ⟩ : ∃ Z, Z = Y.take 3 ++ X.drop 3 := ⟨_, rfl⟩
  rw [← hZ] at hrd
  have hzl : Z.length = 128 := by rw [hZ, List.length_append, List.length_take, List.length_drop, HSX.out.1, HSY.out.1]; omega
  have hz6 : Z.take 6 = [121, 121, 121, 120, 120, 0] := by rw [hZ, HX.out, HY.out]; rfl
  have HZL := Lib.hid hzl
  have HZ6 := Lib.hid hz6
  have HRD := Lib.hid hrd
  clear hrd e4 e5 hZ hzl hz6
  go_wp2_with fail
  refine HRD.out.mono ?_
  rintro e w11 ⟨v11, rfl, ho11, hF11⟩
  obtain ⟨RA, rc, rfl⟩ := own_slice ho11
  rw [HZL.out] at ho11 ⊢
  obtain ⟨rg, hrg⟩ := own_some ho11 (by omega)
  subst hrg
  obtain ⟨lg, hlg⟩ := own_some HO10.out (by omega)
  subst hlg
  have hread : ReadU w11 (some ⟨rg, 0, none⟩) (Z.take 6) := fun i x hx => by
    refine ⟨rg, 0, rfl, ?_⟩
    have hx2 : Z[i]? = some x := by
      rw [List.getElem?_take] at hx
      split at hx
      · exact hx
      · cases hx
    have := (own_news ho11).1 _ rfl i (.int .u8 x) (by unfold by8; rw [List.getElem?_map, hx2]; rfl)
    rw [add_some] at this
    exact this
  have hcv : (convert 33 9 (.slice (some ⟨rg, 0, none⟩) 6 rc)).run Try.prog w11 = .ok (.string ⟨#[121, 121, 121, 120, 120, 0]⟩) w11 := by
    have h6 := str_of (c := rc) hread (by rw [HZ6.out]; simp)
    rw [HZ6.out] at h6
    exact h6
  have hl := (own_news (hF11.own0 HO10.out)).1 _ rfl
  have l0 := hl 0 _ rfl
  have l1 := hl 1 _ rfl
  rw [add_some] at l0 l1
  simp only [Nat.add_zero, Nat.zero_add] at l0 l1
  have hl0 : w11.cell? ⟨lg, 0, none⟩ = some (.int .i64 0) := l0
  have hl1 : w11.cell? ⟨lg, 1, none⟩ = some (.int .i64 2) := l1
  have HAT11 := Lib.hid (HAT8'.out.fr0 hF11)
  have hrc : (6 : Int) ≤ rc := by have := own_cap ho11; omega
  have HF11 : Hid (Fr (fun k => w.heap.size ≤ k) w w11) := HF8.out.trans (HF10.out.trans hF11 (fun _ _ h => h)) (fun _ _ h => h.elim)
  clear hread l0 l1 hl ho11 hF11 HO8 HO10 HRD HAT8' HAT10
  go_wp2_with fail
  refine (done_any HAT11.out).mono ?_
  rintro e w12 ⟨rfl, rfl⟩
  simp only [exD]
  go_wp2_with fail
  go_ret
  have hb : Below w.heap.size w w12 := HF11.out.below (Nat.le_refl _) (fun _ h => h)
  exact ⟨by simp, Fr.of_below hb _⟩
end Go.Proofs.Ytdamegjhdopfaaa
