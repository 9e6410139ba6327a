/- DiskOwn's walk. -/
import Derived.Test.YtdamegjhdopfaaaD25
namespace Go.Proofs.Ytdamegjhdopfaaa
open Go.RowKit Go.WideShapes
set_option linter.unusedSimpArgs false
set_option linter.unusedVariables false

/-- two sectors, one write of the second one -/
def ownD (F : List (List Int)) (S : List Int) : Dk := ⟨F, fun k => if k = 1 then [S] else [], 1, -1, false, 1⟩
theorem ownD_los (F : List (List Int)) (S : List Int) : [(⟨1, 1⟩ : Lo)] = losOf (ownD F S) := by
  refine los_same _ ((List.perm_ext_iff_of_nodup (by simp) (nodup_map (los_nodup _))).2 (fun m => ?_)) (by simp)
  rw [mem_los]
  obtain ⟨s, n⟩ := m
  constructor
  · intro h
    simp only [List.mem_singleton, Lo.mk.injEq] at h
    obtain ⟨rfl, rfl⟩ := h
    exact ⟨by simp [ownD], by simp [ownD]⟩
  · rintro ⟨h1, h2⟩
    simp only [ownD] at h1 h2
    split at h1
    · rename_i h0
      rw [if_pos h0] at h2
      simp only [List.mem_singleton, Lo.mk.injEq]
      exact ⟨Fin.ext (by have : (s.val : Int) = 1 := h0; show s.val = 1; omega), by simpa using h2⟩
    · simp at h1
theorem by8_set (B : List Int) (i : Nat) (v : Int) : (by8 B).toArray.setIfInBounds i (.int .u8 v) = (by8 (B.set i v)).toArray := by
  unfold by8
  rw [List.map_set]
  simp
/-- bytes of one's own, whatever they are -/
def Bytes (w : World) (k : Nat) : Prop := ∃ B, Sec B ∧ w.heap[k]? = some (.cells (by8 B).toArray 5 (0, 0))
theorem bytes_set {w : World} {k i : Nat} {B : List Int} (h : w.heap[k]? = some (.cells (by8 B).toArray 5 (0, 0))) (hB : Sec B) {v : Int} (hv : B[i]? = some v) : Bytes (w.setCell ⟨k, i, none⟩ (.int .u8 (bits BinOp.xor IntKind.u8 v 255))) k := by
  refine ⟨B.set i (bend v 255), ⟨by rw [List.length_set]; exact hB.1, fun x hx => ?_⟩, ?_⟩
  · rcases List.mem_or_eq_of_mem_set hx with hx | rfl
    · exact hB.2 x hx
    · exact bend_byte v 255 (hB.2 v (List.mem_of_getElem? hv)) (by omega)
  · rw [blk_set h, by8_set]
    rfl
theorem bytes_row {w : World} {B0 rg rc : Nat} {s : List Int} (h : w.ownsRow B0 5 1 (.slice (some ⟨rg, 0, none⟩) 128 rc) 128 (by8 s)) (hs : Sec s) : ∃ cur : List Value, w.heap[rg]? = some (.cells cur.toArray 5 (0, 0)) ∧ 128 ≤ cur.length ∧ ∀ i v, cur[i]? = some v → i < 128 → ∃ x : Int, v = .int .u8 x := by
  obtain ⟨cur, hc, hl⟩ := own_cur h
  have hcap := own_cap h
  refine ⟨cur, hc, by omega, fun i v hv hi => ?_⟩
  obtain ⟨x, hx⟩ : ∃ x, s[i]? = some x := ⟨_, List.getElem?_eq_getElem (by rw [hs.1]; exact hi)⟩
  have h1 := (own_news h).1 _ rfl i (.int .u8 x) (by unfold by8; rw [List.getElem?_map, hx]; rfl)
  rw [add_some, Nat.zero_add, blk_cell hc] at h1
  rw [List.getElem?_toArray, hv] at h1
  exact ⟨x, Option.some.inj h1⟩
/-- the first 128 cells are bytes -/
def Octets (w : World) (k : Nat) : Prop := ∃ cur : List Value, w.heap[k]? = some (.cells cur.toArray 5 (0, 0)) ∧ 128 ≤ cur.length ∧ ∀ i v, cur[i]? = some v → i < 128 → ∃ x : Int, v = .int .u8 x
theorem octets_set {w : World} {k i : Nat} (h : Octets w k) (u : Int) : Octets (w.setCell ⟨k, i, none⟩ (.int .u8 u)) k := by
  obtain ⟨cur, h1, h2, h3⟩ := h
  refine ⟨cur.set i (.int .u8 u), by rw [blk_set h1]; simp, by simpa using h2, fun j v hv hj => ?_⟩
  rw [List.getElem?_set] at hv
  split at hv
  · split at hv
    · exact ⟨u, (Option.some.inj hv).symm⟩
    · cases hv
  · exact h3 j v hv hj

set_option maxRecDepth 100000 in
set_option maxHeartbeats 4000000 in
theorem owns_any (bA : Option Addr) (bc : Nat) (b : List Int) (fA : Option Addr) (fn fc : Nat) (w : World) (hb : ReadU w bA b) (hbb : ∀ y ∈ b, 0 ≤ y ∧ y < 256) :
    Calls Try.prog 4 #[.slice bA b.length bc, .slice fA fn fc] w (fun e w' => e = .returned (.bool true) ∧ Fr (fun _ => False) w w') := by
  have HBY := Lib.hid hb
  have HSX := Lib.hid (full_sec b hbb)
  clear hb hbb
  go_enter Try.func4, Try.ntmps4
  go_wp2_with fail
  refine (awake_disk w).mono ?_
  rintro e w1 ⟨rfl, hF1⟩
  have HF1 := Lib.hid hF1
  clear hF1
  have hnew : Calls Try.prog 16 #[.int .i64 2] w1 (NewPost w1 2) := new_any w1 2 (by omega) (by omega)
  have HNEW := Lib.hid hnew
  clear hnew
  go_wp2_with fail
  refine HNEW.out.mono ?_
  rintro e w2 ⟨g, T0, rfl, hat, hF2, hg, hT0⟩
  have HAT := Lib.hid hat
  have HF2 := Lib.hid (HF1.out.trans hF2 (fun _ _ h => h))
  have HT0 : Hid (∀ q, T0 q → w.heap.size ≤ q) := fun q hq => by have := hT0 q hq; have := HF1.out.size; omega
  have HBY2 := Lib.hid (HBY.out.fr HF2.out (fun _ _ _ h => h))
  clear hat hF2 hg hT0 HNEW HBY HF1
  go_wp2_with fail
  refine (full_any bA bc b HBY2.out).mono ?_
  rintro e w3 ⟨ks, rfl, hks, hF3, hg3⟩
  obtain ⟨S, hS⟩ : ∃ S, S = fullS b := ⟨_, rfl⟩
  rw [← hS] at HSX hks
  have hstr : (convert 33 9 (.slice (some ⟨ks, 0, none⟩) 128 128)).run Try.prog w3 = .ok (.string (strOfNums S)) w3 := by
    have := str_of (c := 128) (readU_row hks) (by rw [HSX.out.1]; omega)
    rw [HSX.out.1] at this
    exact this
  obtain ⟨t, ht⟩ : ∃ t, t = strOfNums S := ⟨_, rfl⟩
  rw [← ht] at hstr
  have HTT := Lib.hid ht
  have hw := write_any (HAT.out.fr0 hF3) 1 (some ⟨ks, 0, none⟩) 128 S (readU_row hks) HSX.out.2 (by simp [newDk]) (by simp [newDk])
  obtain ⟨e1, e2⟩ := write_ok (newDk (List.replicate 2 zeroS)) 1 S rfl (by simp [newDk]) HSX.out.1 (by simp [newDk])
  have e3 : (⟨(newDk (List.replicate 2 zeroS)).F, fun k => if k = 1 then (newDk (List.replicate 2 zeroS)).L k ++ [S] else (newDk (List.replicate 2 zeroS)).L k, (newDk (List.replicate 2 zeroS)).done + 1, (newDk (List.replicate 2 zeroS)).fuse, (newDk (List.replicate 2 zeroS)).down, (newDk (List.replicate 2 zeroS)).puts + 1⟩ : Dk) = ownD (List.replicate 2 zeroS) S := by
    unfold ownD newDk
    simp
  rw [e1, e2, e3, HSX.out.1] at hw
  have HW := Lib.hid hw
  have HKS := Lib.hid hks
  have HKT : Hid (¬ T0 ks) := fun h => by have := HAT.out.lt ks h; omega
  have HF3 := Lib.hid (HF2.out.trans hF3 (fun _ _ h => h))
  have HKW : Hid (w.heap.size ≤ ks) := (by have := HF2.out.size; omega : w.heap.size ≤ ks)
  clear hS hks hF3 hg3 ht hw e1 e2 e3 HAT HBY2 HF2
  go_wp2_with fail
  refine HW.out.mono ?_
  rintro e w4 ⟨rfl, T, hat, hF4, hT⟩
  have HAT := Lib.hid hat
  have HT : Hid (∀ q, T q → w.heap.size ≤ q) := fun q hq => by
    rcases hT q hq with h | h
    · exact HT0.out q h
    · have := HF3.out.size; omega
  have HNT : Hid (¬ T ks) := fun h => by
    rcases hT ks h with h | h
    · exact HKT.out h
    · have := blk_lt HKS.out; omega
  have HFW : Hid (Fr (fun q => w.heap.size ≤ q) w w4) := HF3.out.none.trans hF4 (fun q _ h => HT0.out q h)
  have HBS : Hid (Bytes w4 ks) := ⟨S, HSX.out, hF4.blk HKS.out HKT.out⟩
  have HE0 : Hid (Fr (fun k => k = ks) w4 w4) := Fr.refl _ _
  clear hat hF4 hT hstr HW HKS HKT HF3 HT0
  go_upto_block 0 with (fail)
  go_cut [] (fun wd => Hid (Bytes wd ks) ∧ Hid (Fr (fun k => k = ks) w4 wd))
  case first =>
    go_wp2_with fail
    go_loopw [9] (fun k wr => ∃ i : Nat, i ≤ 128 ∧ k = .int .i64 i ∧ Hid (Bytes wr ks) ∧ Hid (Fr (fun k => k = ks) w4 wr)) (fun k _ => 128 - (intOf k).toNat)
    case atStart => exact ⟨0, by omega, rfl, HBS, HE0⟩
    case round =>
      clear HBS HE0
      obtain ⟨i, hi, rfl, HBS, HE⟩ := hrel
      rcases Nat.lt_or_ge i 128 with hlt | hlt
      · have hii : (i : Int) < 128 := by omega
        obtain ⟨B, hB, hblk⟩ := HBS.out
        obtain ⟨v, hv⟩ : ∃ v, B[i]? = some v := ⟨_, List.getElem?_eq_getElem (by rw [hB.1]; exact hlt)⟩
        have c0 : wr.cell? ⟨ks, i, none⟩ = some (.int .u8 v) := by rw [blk_cell hblk]; simp [by8, hv]
        have f0 := blk_frozen hblk i
        have HNX := Lib.hid (bytes_set hblk hB hv)
        have HEX := Lib.hid (setg_fr HE.out i (.int .u8 (bits BinOp.xor IntKind.u8 v 255)))
        clear hB hblk hv HBS HE
        go_wp2_with fail
        exact ⟨⟨i + 1, by omega, by go_num, HNX, HEX⟩, by simp [intOf]; omega⟩
      · have hii : ¬ (i : Int) < 128 := by omega
        go_wp2
        go_meet
        case rel => exact ⟨HBS, HE⟩
  case rest =>
    clear HBS HE0
    obtain ⟨HBS, HE⟩ := hcut
    have HAT5 := Lib.hid (HAT.out.fr HE.out (fun k hk e => HNT.out (e ▸ hk)))
    have HFW5 : Hid (Fr (fun q => w.heap.size ≤ q) w wc) := HFW.out.trans HE.out (fun q _ e => by show w.heap.size ≤ q; rw [e]; exact HKW.out)
    have hrd := read_any HAT5.out 1
    have e4 : (ownD (List.replicate 2 zeroS) S).readE 1 = 0 := by simp [Dk.readE, ownD]
    have e5 : (ownD (List.replicate 2 zeroS) S).readB 1 = S := by simp [Dk.readB, Dk.at, ownD]
    rw [e4, e5] at hrd
    have HRD := Lib.hid hrd
    clear hrd e4 e5 HAT HFW HE
    go_wp2_with fail
    refine HRD.out.mono ?_
    rintro e w6 ⟨v6, rfl, ho6, hF6⟩
    rw [HSX.out.1] at ho6
    obtain ⟨RA, rc, rfl⟩ := own_slice ho6
    obtain ⟨kx, hkx⟩ := own_some ho6 (by omega)
    subst hkx
    have hkxB := (ho6.lt kx rfl).1
    have HOC : Hid (Octets w6 kx) := bytes_row ho6 HSX.out
    have hsz := HFW5.out.size
    have HKX : Hid (wc.heap.size ≤ kx) := hkxB
    have HFW6 := Lib.hid (HFW5.out.trans hF6 (fun _ _ h => h.elim))
    have HAT6 := Lib.hid (HAT5.out.fr0 hF6)
    have HBS6 : Hid (Bytes w6 ks) := (by obtain ⟨B, h1, h2⟩ := HBS.out; exact ⟨B, h1, hF6.blk0 h2⟩ : Bytes w6 ks)
    have HKS : Hid (ks ≠ kx) := (by obtain ⟨B, h1, h2⟩ := HBS.out; have := blk_lt h2; omega : ks ≠ kx)
    have HXT : Hid (¬ T kx) := fun h => by have := HAT5.out.lt kx h; omega
    have HXW : Hid (w.heap.size ≤ kx) := (by omega : w.heap.size ≤ kx)
    have HE0 : Hid (Fr (fun k => k = kx) w6 w6) := Fr.refl _ _
    clear ho6 hF6 hkxB hsz HRD HFW5 HAT5 HBS HKX
    go_upto_block 2 with (fail)
    go_cut [] (fun wd => Hid (Fr (fun k => k = kx) w6 wd))
    case first =>
      go_wp2_with fail
      go_loopw [12] (fun k wr => ∃ i : Nat, i ≤ 128 ∧ k = .int .i64 i ∧ Hid (Octets wr kx) ∧ Hid (Fr (fun k => k = kx) w6 wr)) (fun k _ => 128 - (intOf k).toNat)
      case atStart => exact ⟨0, by omega, rfl, HOC, HE0⟩
      case round =>
        clear HOC HE0
        obtain ⟨i, hi, rfl, HOC, HE⟩ := hrel
        rcases Nat.lt_or_ge i 128 with hlt | hlt
        · have hii : (i : Int) < 128 := by omega
          obtain ⟨cur, hblk, hcl, hcv⟩ := HOC.out
          obtain ⟨u, hu⟩ : ∃ u, cur[i]? = some u := ⟨_, List.getElem?_eq_getElem (by omega)⟩
          obtain ⟨v, rfl⟩ := hcv i u hu hlt
          have c0 : wr.cell? ⟨kx, i, none⟩ = some (.int .u8 v) := by rw [blk_cell hblk]; simp [hu]
          have f0 := blk_frozen hblk i
          have HNX := Lib.hid (octets_set (i := i) HOC.out (bits BinOp.xor IntKind.u8 v 255))
          have HEX := Lib.hid (setg_fr HE.out i (.int .u8 (bits BinOp.xor IntKind.u8 v 255)))
          clear hblk hcl hcv hu HOC HE
          go_wp2_with fail
          exact ⟨⟨i + 1, by omega, by go_num, HNX, HEX⟩, by simp [intOf]; omega⟩
        · have hii : ¬ (i : Int) < 128 := by omega
          go_wp2
          go_meet
          case rel => exact HE
    case rest =>
      clear HOC HE0
      have hE := hcut.out
      have HAT7 := Lib.hid (HAT6.out.fr hE (fun k hk e => HXT.out (e ▸ hk)))
      have HBS7 : Hid (Bytes wc ks) := (by obtain ⟨B, h1, h2⟩ := HBS6.out; exact ⟨B, h1, hE.blk h2 HKS.out⟩ : Bytes wc ks)
      have HFW7 : Hid (Fr (fun q => w.heap.size ≤ q) w wc) := HFW6.out.trans hE (fun q _ e => by show w.heap.size ≤ q; rw [e]; exact HXW.out)
      clear hE hcut HAT6 HBS6 HFW6
      have hcr := crash_any (HAT7.out.fr0 ((Fr.refl (fun _ => False) wc).alloc (.cells #[.int .i64 1, .int .i64 0] 43))) (some ⟨wc.heap.size, 0, none⟩) 1 [⟨1, 0⟩] (by simp [maxLen]) (fun i f hf => by
        cases i with
        | succ i => simp at hf
        | zero =>
          simp at hf
          subst hf
          refine ⟨wc.heap.size, 0, rfl, fun j u hu => ?_⟩
          rw [Nat.zero_add, blk_cell (blk_new wc (.cells #[.int .i64 1, .int .i64 0] 43))]
          simpa [Ft.cells] using hu) [⟨1, 1⟩] (ownD_los _ S)
      have HCR : Hid (Calls Try.prog 23 #[.pointer (some ⟨g, 0, none⟩), .slice (some ⟨wc.heap.size, 0, none⟩) 1 1] (wc.alloc (.cells #[.int .i64 1, .int .i64 0] 43)) (CrashAll (wc.alloc (.cells #[.int .i64 1, .int .i64 0] 43)) (ownD (List.replicate 2 zeroS) S) [⟨1, 1⟩] [⟨1, 0⟩])) := hcr
      have HF7 : Hid (Fr (fun _ => False) wc (wc.alloc (.cells #[.int .i64 1, .int .i64 0] 43))) := (Fr.refl _ wc).alloc _
      clear hcr
      go_wp2_with fail
      refine HCR.out.mono ?_
      rintro e w8 hcr
      have hce : crashE [(⟨1, 1⟩ : Lo)] [(⟨1, 0⟩ : Ft)] = 0 := by simp [crashE, fitsF, mayB]
      rcases hcr with ⟨h1, _⟩ | ⟨_, g8, T8, rfl, hat8, hF8, hg8, hT8⟩
      · exact absurd hce h1
      have hcf : crashF (ownD (List.replicate 2 zeroS) S) [(⟨1, 1⟩ : Lo)] [(⟨1, 0⟩ : Ft)] = [zeroS, S] := by
        simp [crashF, crash1, afterS, ownD, List.replicate, Dk.L]
      rw [hcf] at hat8
      have hF78 := HF7.out.trans hF8 (fun _ _ h => h)
      have hTT : ∀ q, T8 q → ¬ T q := fun q h1 h2 => by have := hT8 q h1; have := HAT7.out.lt q h2; have := HF7.out.size; omega
      have HDJ := Lib.hid hTT
      have HT8 : Hid (∀ q, T8 q → w.heap.size ≤ q) := fun q h1 => by have := hT8 q h1; have := HF7.out.size; have := HFW7.out.size; omega
      obtain ⟨B, hB, hblk⟩ := HBS7.out
      have hw9 := write_any hat8 1 (some ⟨ks, 0, none⟩) 128 B (readU_row (hF78.blk0 hblk)) hB.2 (by simp [newDk]) (by simp [newDk])
      have e6 : (newDk [zeroS, S]).writeE 1 B.length = 0 := by rw [hB.1]; simp [Dk.writeE, newDk]
      rw [e6, hB.1] at hw9
      have HW9 := Lib.hid hw9
      have HAT8 := Lib.hid (HAT7.out.fr0 hF78)
      have HFW8 := Lib.hid (HFW7.out.trans hF78 (fun _ _ h => h.elim))
      clear hce hcf hat8 hF8 hg8 hT8 hF78 hTT hB hblk hw9 e6 HCR HF7 HAT7 HFW7 HBS7
      go_wp2_with fail
      refine HW9.out.mono ?_
      rintro e w9 ⟨rfl, T9, _, hF9, _⟩
      have HAT9 := Lib.hid (HAT8.out.fr hF9 (fun q h1 h2 => HDJ.out q h2 h1))
      have HFW9 : Hid (Fr (fun q => w.heap.size ≤ q) w w9) := HFW8.out.trans hF9 (fun q _ h => HT8.out q h)
      have hrot : Calls Try.prog 26 #[.pointer (some ⟨g, 0, none⟩), .int .i64 1, .int .i64 0, .int .u8 1] w9 (RotPost w9 g T { ownD (List.replicate 2 zeroS) S with F := rotF (ownD (List.replicate 2 zeroS) S).F 1 0 1 } 0) := rot_ok HAT9.out 1 0 1 (by omega) (by simp [ownD]) (by omega)
      have HROT := Lib.hid hrot
      clear hF9 hrot HW9 HAT8 HFW8
      go_wp2_with fail
      refine HROT.out.mono ?_
      rintro e w10 ⟨rfl, hat10, hF10⟩
      obtain ⟨F2, hF2⟩ : ∃ F2, F2 = rotF (ownD (List.replicate 2 zeroS) S).F 1 0 1 := ⟨_, rfl⟩
      have hF2l : F2.length = 2 := by rw [hF2]; simp [rotF, ownD]
      rw [← hF2] at hat10
      have HAT10 : Hid (DkAt w10 g T (ownD F2 S)) := hat10
      have HFW10 : Hid (Fr (fun q => w.heap.size ≤ q) w w10) := HFW9.out.trans hF10 (fun q _ h => HT.out q h)
      have hrd := read_any HAT10.out 1
      have e4 : (ownD F2 S).readE 1 = 0 := by simp [Dk.readE, ownD, hF2l]
      have e5 : (ownD F2 S).readB 1 = S := by simp [Dk.readB, Dk.at, ownD, hF2l]
      rw [e4, e5] at hrd
      have HRD := Lib.hid hrd
      clear hat10 hF10 hF2 hF2l hrd e4 e5 HROT HAT9 HFW9
      go_wp2_with fail
      refine HRD.out.mono ?_
      rintro e w11 ⟨v11, rfl, ho11, hF11⟩
      rw [HSX.out.1] at ho11
      obtain ⟨YA, yc, rfl⟩ := own_slice ho11
      obtain ⟨ky, hky⟩ := own_some ho11 (by omega)
      subst hky
      have HY := Lib.hid ho11
      have HAT11 := Lib.hid (HAT10.out.fr0 hF11)
      have HFW11 := Lib.hid (HFW10.out.trans hF11 (fun _ _ h => h.elim))
      have hlo := loose_any HAT11.out
      rw [← ownD_los F2 S] at hlo
      have HLO := Lib.hid hlo
      clear ho11 hF11 hlo HRD HAT10 HFW10
      go_wp2_with fail
      refine HLO.out.mono ?_
      rintro e w12 ⟨v12, rfl, ho12, hF12⟩
      obtain ⟨LA, lc, rfl⟩ := own_slice ho12
      have ho12' : w12.ownsRow w11.heap.size 48 2 (.slice LA 1 lc) 1 ([(⟨1, 1⟩ : Lo)].flatMap Lo.cells) := ho12
      obtain ⟨kl, hkl⟩ := own_some ho12' (by omega)
      subst hkl
      simp only [List.length_cons, List.length_nil, Nat.zero_add]
      obtain ⟨cur, hcur, hcl⟩ := own_cur ho12'
      have hlcap := own_cap ho12'
      have hklB := (ho12'.lt kl rfl).1
      have hky11 := own_lt HY.out ky rfl
      have c0 : ∃ u, w12.cell? ⟨kl, 0, none⟩ = some u := ⟨_, (own_news ho12').1 _ rfl 0 _ rfl⟩
      obtain ⟨u0, c0⟩ := c0
      have f0 := blk_frozen hcur 0
      have hFs := setg_fr (Fr.refl (fun k => k = kl) w12) 0 (.int .i64 0)
      have HAT12 := Lib.hid ((HAT11.out.fr0 hF12).fr hFs (fun k hk e => by have := HAT11.out.lt k hk; omega))
      have HY12 := Lib.hid (hFs.own (hF12.own0 HY.out) (fun k hk e => by have : ky = k := Option.some.inj hk; omega))
      have HFW12 : Hid (Fr (fun q => w.heap.size ≤ q) w (w12.setCell ⟨kl, 0, none⟩ (.int .i64 0))) := (HFW11.out.trans hF12 (fun _ _ h => h.elim)).trans hFs (fun q _ e => by show w.heap.size ≤ q; have := HFW11.out.size; omega)
      clear ho12 ho12' hF12 hcur hcl hlcap hklB hky11 hFs HLO HAT11 HY HFW11
      go_upto_region 27 with (fail)
      generalize w12.setCell ⟨kl, 0, none⟩ (.int .i64 0) = w13 at *
      clear c0 f0
      have hcv := str_own HY12.out HSX.out.1
      rw [← HTT.out] at hcv
      have hlo := fun (W : World) (hW : Fr (fun _ => False) w13 W) => loose_any (HAT12.out.fr0 hW)
      simp only [← ownD_los F2 S] at hlo
      have HLO := Lib.hid hlo
      clear hlo HY12
      go_wp2_with fail
      refine (HLO.out _ (Fr.refl _ _)).mono ?_
      rintro e w14 ⟨v14, rfl, ho14, hF14⟩
      obtain ⟨LB, lb, rfl⟩ := own_slice ho14
      simp only [List.length_cons, List.length_nil, Nat.zero_add]
      have HF14 := Lib.hid hF14
      clear ho14 hF14 hcv
      go_wp2_with fail
      refine (HLO.out _ HF14.out).mono ?_
      rintro e w15 ⟨v15, rfl, ho15, hF15⟩
      obtain ⟨LC, lcc, rfl⟩ := own_slice ho15
      have ho15' : w15.ownsRow w14.heap.size 48 2 (.slice LC 1 lcc) 1 ([(⟨1, 1⟩ : Lo)].flatMap Lo.cells) := ho15
      obtain ⟨k15, hk15⟩ := own_some ho15' (by omega)
      subst hk15
      simp only [List.length_cons, List.length_nil, Nat.zero_add]
      have d0 := (own_news ho15').1 _ rfl 0 _ rfl
      rw [add_some] at d0
      simp only [Nat.add_zero, Nat.zero_add] at d0
      have d0' : w15.cell? ⟨k15, 0, none⟩ = some (.int .i64 1) := d0
      have HFIN : Hid (Fr (fun _ => False) w w15) := (HFW12.out.trans (HF14.out.trans hF15 (fun _ _ h => h)) (fun _ _ h => h.elim)).toBelow
      clear ho15 ho15' hF15 d0
      go_wp2_with fail
      go_ret
      exact ⟨by simp, HFIN.out⟩
end Go.Proofs.Ytdamegjhdopfaaa
