/- DiskReads' walk. -/
import Derived.Test.YtdamegjhdopfaaaD22
namespace Go.Proofs.Ytdamegjhdopfaaa
open Go.RowKit Go.WideShapes
set_option linter.unusedSimpArgs false
set_option linter.unusedVariables false

open Go.ChangeShapes Go.Deep in
theorem bytes_of {H : Type} {enc : TypeId × Value → H} {W : World} {held : Bool} {a : Option Addr} {len cap : Nat} {d : DataW H} {p : List MemPlace} (h : DataW.Trod enc Try.prog W 0 (fun _ => true) held 33 (.slice a len cap) d p) :
    ∃ xs : List Int, xs.length = len ∧ len ≤ maxLen ∧ ReadU W a xs ∧ ∀ x ∈ xs, 0 ≤ x ∧ x < 256 := by
  obtain ⟨fuel, hf⟩ := h
  obtain ⟨a', c', xs, hv, h1, h2, h3⟩ := bytes_in (v := .slice a len cap) hf
  simp only [Value.slice.injEq] at hv
  obtain ⟨rfl, rfl, rfl⟩ := hv
  exact ⟨xs, rfl, h1, h2, h3⟩

/-- a block that is none of the disk's stands as it did -/
def Kept (w : World) (T : Nat → Prop) (kb : Nat) (s : List Int) : Prop := w.heap[kb]? = some (.cells (by8 s).toArray 5 (0, 0)) ∧ ¬ T kb
def DKWrite2 (w0 w : World) (g k : Nat) (T : Nat → Prop) (d : Dk) (i : Int) (b : List Int) (e : Ending) (w' : World) : Prop :=
  ∃ T', e = .returned (.int .i64 (d.writeE i 128)) ∧ DK w0 w' g (k + 1) T' (d.write i b) ∧ ∀ kb s, Kept w T kb s → Kept w' T' kb s
theorem DK.write2 {w0 w : World} {g k : Nat} {T : Nat → Prop} {d : Dk} (h : DK w0 w g k T d) (hk : k ≤ 1000) (i : Int) (k1 : Nat) (b : List Int) (hr : w.heap[k1]? = some (.cells (by8 b).toArray 5 (0, 0))) (hb : Sec b) :
    Calls Try.prog 18 #[.pointer (some ⟨g, 0, none⟩), .int .i64 i, .slice (some ⟨k1, 0, none⟩) 128 128] w (DKWrite2 w0 w g k T d i b) := by
  have hd := h.done
  have hp := h.puts
  have hw := write_any h.dk i (some ⟨k1, 0, none⟩) 128 b (readU_row hr) hb.2 (by omega) (by omega)
  rw [hb.1] at hw
  refine hw.mono ?_
  rintro e w' ⟨rfl, T', hat, hF, hT⟩
  have hbig : ∀ q, T' q → w0.heap.size ≤ q := fun q hq => by
    rcases hT q hq with h1 | h1
    · exact h.big q h1
    · have := h.fr.size; omega
  have hfr : Fr (fun q => w0.heap.size ≤ q) w0 w' := h.fr.trans hF (fun q _ hq => h.big q hq)
  have hkp : ∀ kb s, Kept w T kb s → Kept w' T' kb s := fun kb s hks => ⟨hF.blk hks.1 hks.2, fun ht => by
    rcases hT kb ht with h1 | h1
    · exact hks.2 h1
    · have := blk_lt hks.1; omega⟩
  refine ⟨T', rfl, ?_, hkp⟩
  by_cases hi : 0 ≤ i ∧ i < 12
  · obtain ⟨_, e2⟩ := h.wr_in i hi b hb.1
    rw [e2] at hat ⊢
    exact ⟨hat, h.len, h.up, h.nofuse, by show d.done + 1 ≤ ((k + 1 : Nat) : Int); omega, by show d.puts + 1 ≤ k + 1; omega, hbig, hfr⟩
  · obtain ⟨_, e2⟩ := h.wr_out i hi b hb.1
    rw [e2] at hat ⊢
    exact ⟨hat, h.len, h.up, h.nofuse, by omega, by omega, hbig, hfr⟩
def DKFlush2 (w0 w : World) (g k : Nat) (T : Nat → Prop) (d : Dk) (e : Ending) (w' : World) : Prop := e = .returned (.int .i64 0) ∧ DK w0 w' g (k + 1) T d.flushed.tick ∧ ∀ kb s, Kept w T kb s → Kept w' T kb s
theorem DK.flush2 {w0 w : World} {g k : Nat} {T : Nat → Prop} {d : Dk} (h : DK w0 w g k T d) (hk : k ≤ 1000) : Calls Try.prog 28 #[.pointer (some ⟨g, 0, none⟩)] w (DKFlush2 w0 w g k T d) := by
  have hd := h.done
  have hp := h.puts
  refine (flush_any h.dk (by omega) (by omega)).mono ?_
  rintro e w' ⟨rfl, hat, hF⟩
  have e1 : d.flushE = 0 := by unfold Dk.flushE; rw [h.up]; simp
  have e2 : d.flush = d.flushed.tick := by unfold Dk.flush; rw [h.up]; simp
  have e3 : ¬ 0 < d.flushed.fuse := by show ¬ 0 < d.fuse; rw [h.nofuse]; omega
  rw [e2] at hat
  refine ⟨by rw [e1], ⟨hat, ?_, ?_, ?_, ?_, ?_, h.big, h.fr.trans hF (fun q _ hq => h.big q hq)⟩, fun kb s hks => ⟨hF.blk hks.1 hks.2, hks.2⟩⟩
  · simp [Dk.tick, Dk.flushed, h.len]
  · unfold Dk.tick; simp only [if_neg e3]; exact h.up
  · unfold Dk.tick; simp only [if_neg e3]; exact h.nofuse
  · show d.done + 1 ≤ ((k + 1 : Nat) : Int); omega
  · show d.puts ≤ k + 1; omega
theorem at_write {w0 w : World} {g k : Nat} {T : Nat → Prop} {d : Dk} (h : DK w0 w g k T d) (i : Int) (b : List Int) (hb : b.length = 128) (ow : Nat) (ho : i ≠ ow) : (d.write i b).at ow = d.at ow := by
  by_cases hi : 0 ≤ i ∧ i < 12
  · rw [(h.wr_in i hi b hb).2]
    unfold Dk.at
    simp only [if_neg (fun e : (ow : Int) = i => ho e.symm)]
  · rw [(h.wr_out i hi b hb).2]
theorem at_own {w0 w : World} {g k : Nat} {T : Nat → Prop} {d : Dk} (h : DK w0 w g k T d) (b : List Int) (hb : b.length = 128) (ow : Nat) (ho : ow < 12) : d.writeE ow 128 = 0 ∧ (d.write ow b).at ow = b := by
  obtain ⟨e1, e2⟩ := h.wr_in ow (by omega) b hb
  refine ⟨e1, ?_⟩
  rw [e2]
  unfold Dk.at
  simp
theorem at_flush (d : Dk) (ow : Nat) (ho : ow < d.F.length) : (d.flushed.tick).at ow = d.at ow := by
  show ((([] : List (List Int)).getLast?).getD (((List.range d.F.length).map d.at).getD ow [])) = d.at ow
  simp [ho]
theorem read_own {w0 w : World} {g k : Nat} {T : Nat → Prop} {d : Dk} (h : DK w0 w g k T d) (ow : Nat) (ho : ow < 12) : Calls Try.prog 24 #[.pointer (some ⟨g, 0, none⟩), .int .i64 ow] w (ReadPost w (d.at ow) 0) := by
  have hil : (0 : Int) ≤ ow ∧ (ow : Int) < d.F.length := by rw [h.len]; omega
  have r1 := read_any h.dk (ow : Int)
  have e1 : d.readE ow = 0 := by unfold Dk.readE; rw [h.up, if_neg (by simp), if_pos hil]
  have e2 : d.readB ow = d.at ow := by unfold Dk.readB; rw [h.up, if_neg (by simp), if_pos hil]; simp
  rw [e1, e2] at r1
  exact r1
def RdInv (w0 w : World) (g k ow kb : Nat) (s : List Int) : Prop := ∃ T d, DK w0 w g k T d ∧ d.at ow = s ∧ Kept w T kb s
theorem RdInv.mono {w0 w : World} {g k k' ow kb : Nat} {s : List Int} (h : RdInv w0 w g k ow kb s) (hk : k ≤ k') : RdInv w0 w g k' ow kb s := by
  obtain ⟨T, d, h1, h2, h3⟩ := h
  exact ⟨T, d, h1.mono hk, h2, h3⟩
theorem RdInv.fr0 {w0 w w' : World} {g k ow kb : Nat} {s : List Int} (h : RdInv w0 w g k ow kb s) (hF : Fr (fun _ => False) w w') : RdInv w0 w' g k ow kb s := by
  obtain ⟨T, d, h1, h2, h3⟩ := h
  exact ⟨T, d, h1.fr0 hF, h2, hF.blk0 h3.1, h3.2⟩
theorem RdInv.read {w0 w : World} {g k ow kb : Nat} {s : List Int} (h : RdInv w0 w g k ow kb s) (ho : ow < 12) : Calls Try.prog 24 #[.pointer (some ⟨g, 0, none⟩), .int .i64 ow] w (ReadPost w s 0) := by
  obtain ⟨T, d, h1, h2, h3⟩ := h
  have := read_own h1 ow ho
  rw [h2] at this
  exact this
theorem RdInv.str {w0 w : World} {g k ow kb : Nat} {s : List Int} (h : RdInv w0 w g k ow kb s) (hs : s.length = 128) : (convert 33 9 (.slice (some ⟨kb, 0, none⟩) 128 128)).run Try.prog w = .ok (.string (strOfNums s)) w := by
  obtain ⟨T, d, h1, h2, h3⟩ := h
  have := str_of (c := 128) (readU_row h3.1) (by omega)
  rw [hs] at this
  exact this

set_option maxRecDepth 100000 in
set_option maxHeartbeats 4000000 in
theorem reads_any (x : Int) (hx0 : 0 ≤ x) (hx1 : x ≤ 18446744073709551615) (bA : Option Addr) (bc : Nat) (b : List Int) (A : Option Addr) (c : Nat) (os : List OpD) (w : World) (hb : ReadU w bA b) (hbb : ∀ y ∈ b, 0 ≤ y ∧ y < 256) (hl : os.length ≤ maxLen) (hR : ReadOps w A os) :
    Calls Try.prog 5 #[.int .u64 x, .slice bA b.length bc, .slice A os.length c] w (fun e w' => e = .returned (.bool true) ∧ Fr (fun _ => False) w w') := by
  have HR := Lib.hid hR
  have HBY := Lib.hid hb
  have HSX := Lib.hid (full_sec b hbb)
  obtain ⟨ow, how⟩ : ∃ ow : Nat, x % 12 = (ow : Int) := ⟨(x % 12).toNat, by omega⟩
  have how12 : ow < 12 := by omega
  clear hR hb hbb
  go_enter Try.func5, Try.ntmps5
  go_wp2_with fail
  refine (awake_disk w).mono ?_
  rintro e w1 ⟨rfl, hF1⟩
  have HF1 := Lib.hid hF1
  clear hF1
  have hnew : Calls Try.prog 16 #[.int .i64 12] w1 (NewPost w1 12) := new_any w1 12 (by omega) (by omega)
  have HNEW := Lib.hid hnew
  clear hnew
  go_wp2_with fail
  refine HNEW.out.mono ?_
  rintro e w2 hnp
  obtain ⟨g, T0, rfl, hdk⟩ := dk_new HF1.out hnp
  have HDK := Lib.hid hdk
  have HBY2 := Lib.hid (HBY.out.fr hdk.fr.toBelow (fun _ _ _ h => h))
  clear hnp hdk HNEW HBY
  go_wp2_with fail
  refine (full_any bA bc b HBY2.out).mono ?_
  rintro e w3 ⟨k2, rfl, hk2, hF3, hg2⟩
  have hkept : Kept w3 T0 k2 (fullS b) := ⟨hk2, fun ht => by have := HDK.out.dk.lt k2 ht; omega⟩
  have HKEPT := Lib.hid hkept
  have HDK3 := Lib.hid (HDK.out.fr0 hF3)
  have hwr := HDK3.out.write2 (by omega) (ow : Int) k2 (fullS b) hk2 HSX.out
  have HWR := Lib.hid hwr
  have hao := at_own HDK3.out (fullS b) HSX.out.1 ow how12
  have HAO := Lib.hid hao
  have hae := hao.1
  clear hk2 hF3 hg2 hkept hwr hao HDK HBY2
  obtain ⟨s, hs⟩ : ∃ s, s = fullS b := ⟨_, rfl⟩
  rw [← hs] at HKEPT HWR HAO HSX
  clear hs
  go_wp2_with fail
  refine HWR.out.mono ?_
  rintro e w4 ⟨T4, rfl, hdk4, hkp4⟩
  rw [hae]
  have I0 : Hid (RdInv w w4 g 1 ow k2 s) := ⟨T4, _, hdk4, HAO.out.2, hkp4 _ _ HKEPT.out⟩
  have HS1 : Hid (s.length = 128) := HSX.out.1
  clear hdk4 hkp4 hae HAO HWR HKEPT HDK3 HSX
  go_wp2_with fail
  go_loopw [11] (fun k wr => ∃ i : Nat, i ≤ os.length ∧ i ≤ 40 ∧ k = .int .i64 i ∧ Hid (RdInv w wr g (i + 1) ow k2 s)) (fun k _ => 40 - (intOf k).toNat)
  case atStart => exact ⟨0, by omega, by omega, rfl, I0⟩
  case round =>
    clear I0
    obtain ⟨i, hi, hi40, rfl, HI⟩ := hrel
    by_cases hlt : i < os.length ∧ i < 40
    · obtain ⟨hlt, hlt4⟩ := hlt
      have hii : (i : Int) < os.length := by omega
      have hi4 : (i : Int) < 40 := by omega
      obtain ⟨o, ho⟩ : ∃ o, os[i]? = some o := ⟨_, List.getElem?_eq_getElem hlt⟩
      obtain ⟨qg, qf, rfl, z0, z1, z2, hob, hobb⟩ := readOps_at HR.out ho
      obtain ⟨T, d, hdk, hat, hke⟩ := HI.out
      have hfw := hdk.fr.toBelow
      have y0 := hfw.cell0 z0
      have y1 := hfw.cell0 z1
      have y2 := hfw.cell0 z2
      have HB := Lib.hid (hob.fr hfw (fun _ _ _ h => h))
      have HSY := Lib.hid (full_sec o.b hobb)
      have HDK := Lib.hid hdk
      have HAT := Lib.hid hat
      have HKE := Lib.hid hke
      obtain ⟨ok, oat, obA, obc, ob', _, _, _, _, _, _, _⟩ := o
      simp only at y0 y1 y2 HB HSY
      have HZ : Hid (w.cell? ⟨qg, qf + i * 8, none⟩ = some (.int .i64 ok) ∧ w.cell? ⟨qg, qf + i * 8 + 1, none⟩ = some (.int .i64 oat) ∧ w.cell? ⟨qg, qf + i * 8 + 2, none⟩ = some (.slice obA ob'.length obc)) := ⟨z0, z1, z2⟩
      have hN1 : RdInv w wr g (i + 1 + 1) ow k2 s := HI.out.mono (by omega)
      have HN1 := Lib.hid hN1
      clear ho z0 z1 z2 hob hobb hdk hat hke hfw HI hN1
      by_cases hk : ok = 1
      · have hk1 : (ok == 1) = true := by simp [hk]
        have hk2' : (ok == 2) = false := by simp [hk]
        by_cases ha : oat = (ow : Int)
        · have ha1 : (oat != (ow : Int)) = false := by simp [ha]
          clear hk ha
          have HNX := HN1
          go_wp2_with fail
          refine (HNX.out.read how12).mono ?_
          rintro e w8 ⟨v8, rfl, ho8, hF8⟩
          rw [HS1.out] at ho8
          obtain ⟨RA, rc, rfl⟩ := own_slice ho8
          obtain ⟨rg, hrg⟩ := own_some ho8 (by omega)
          subst hrg
          have k1' := str_own ho8 HS1.out
          have HNY := Lib.hid (HNX.out.fr0 hF8)
          have k2' := HNY.out.str HS1.out
          generalize strOfNums s = t at k1' k2'
          clear ho8 hF8 HNX
          go_wp2_with fail
          exact ⟨⟨i + 1, by omega, by omega, by go_num, HNY⟩, by simp [intOf]; omega⟩
        · have ha1 : (oat != (ow : Int)) = true := by simp [ha]
          have hS : ∀ W : World, Fr (fun _ => False) wr W → W.cell? ⟨qg, qf + i * 8 + 1, none⟩ = some (.int .i64 oat) ∧ W.cell? ⟨qg, qf + i * 8 + 2, none⟩ = some (.slice obA ob'.length obc) := fun W hW => ⟨hW.cell0 y1, hW.cell0 y2⟩
          have HS := Lib.hid hS
          have HS2 : Hid (∀ W : World, Fr (fun q => w.heap.size ≤ q) w W → W.cell? ⟨qg, qf + i * 8 + 1, none⟩ = some (.int .i64 oat) ∧ W.cell? ⟨qg, qf + i * 8 + 2, none⟩ = some (.slice obA ob'.length obc)) := fun W hW => ⟨hW.toBelow.cell0 HZ.out.2.1, hW.toBelow.cell0 HZ.out.2.2⟩
          have HFUL : Hid (∀ W : World, Fr (fun _ => False) wr W → Calls Try.prog 19 #[.slice obA ob'.length obc] W (FullPost W ob')) := fun W hW => full_any obA obc ob' (HB.out.fr hW (fun _ _ _ h => h))
          have HWRI : Hid (∀ (W : World) (k1 : Nat), Fr (fun _ => False) wr W → W.heap[k1]? = some (.cells (by8 (fullS ob')).toArray 5 (0, 0)) → Calls Try.prog 18 #[.pointer (some ⟨g, 0, none⟩), .int .i64 oat, .slice (some ⟨k1, 0, none⟩) 128 128] W (fun e w' => ∃ r, e = .returned (.int .i64 r) ∧ RdInv w w' g (i + 1 + 1) ow k2 s)) := fun W k1 hW hr => by
            refine ((HDK.out.fr0 hW).write2 (by omega) oat k1 (fullS ob') hr HSY.out).mono ?_
            rintro e w' ⟨T', rfl, h1, h2⟩
            exact ⟨_, rfl, T', _, h1, by rw [at_write HDK.out oat _ HSY.out.1 ow ha]; exact HAT.out, h2 _ _ ⟨hW.blk0 HKE.out.1, HKE.out.2⟩⟩
          have HF : Hid (Fr (fun _ => False) wr wr) := Fr.refl _ _
          have HFRN : Hid (∀ W, RdInv w W g (i + 1 + 1) ow k2 s → Fr (fun q => w.heap.size ≤ q) w W) := fun W h => by obtain ⟨T, d, h1, _⟩ := h; exact h1.fr
          clear hk ha hS HB HSY HN1
          go_upto_region 14 with (fail)
          clear y0 y1 y2
          go_region_held3 (fun W => W.cell? ⟨qg, qf + i * 8 + 1, none⟩ = some (.int .i64 oat) ∧ W.cell? ⟨qg, qf + i * 8 + 2, none⟩ = some (.slice obA ob'.length obc))
            (first | exact HS2.out _ (HFRN.out _ HNX.out) | exact HS.out _ HF.out | exact HS.out _ HF.out.drew)
            (first
              | (go_at_call 19; refine (HFUL.out _ (by first | exact HF.out | exact HF.out.drew)).mono ?_; rintro e wn ⟨k1, rfl, hkk, hf, hg1⟩; have HF : Hid (Fr (fun _ => False) wr wn) := (by first | exact HF.out.trans hf (fun _ _ h => h) | exact HF.out.drew.trans hf (fun _ _ h => h)); have HK1 := Lib.hid hkk; clear hkk hf hg1)
              | (go_at_call 18; refine (HWRI.out _ k1 HF.out HK1.out).mono ?_; rintro e wn ⟨rN, rfl, hnx⟩; have HNX := Lib.hid hnx; clear hnx))
          clear HWRI HFUL HK1 HF HS HS2
          go_wp2_with fail
          refine (HNX.out.read how12).mono ?_
          rintro e w8 ⟨v8, rfl, ho8, hF8⟩
          rw [HS1.out] at ho8
          obtain ⟨RA, rc, rfl⟩ := own_slice ho8
          obtain ⟨rg, hrg⟩ := own_some ho8 (by omega)
          subst hrg
          have k1' := str_own ho8 HS1.out
          have HNY := Lib.hid (HNX.out.fr0 hF8)
          have k2' := HNY.out.str HS1.out
          generalize strOfNums s = t at k1' k2'
          clear ho8 hF8 HNX
          go_wp2_with fail
          exact ⟨⟨i + 1, by omega, by omega, by go_num, HNY⟩, by simp [intOf]; omega⟩
      · have hk1 : (ok == 1) = false := by simp [hk]
        by_cases hk2 : ok = 2
        · have hk2' : (ok == 2) = true := by simp [hk2]
          have HFLU := Lib.hid (HDK.out.flush2 (by omega))
          have HLEN : Hid (d.F.length = 12) := HDK.out.len
          clear hk hk2 HN1 HDK
          go_wp2_with fail
          refine HFLU.out.mono ?_
          rintro e w7 ⟨rfl, hdk7, hkp7⟩
          have HNX : Hid (RdInv w w7 g (i + 1 + 1) ow k2 s) := ⟨T, _, hdk7, by rw [at_flush d ow (by rw [HLEN.out]; exact how12)]; exact HAT.out, hkp7 _ _ HKE.out⟩
          clear hdk7 hkp7 HFLU
          go_wp2_with fail
          refine (HNX.out.read how12).mono ?_
          rintro e w8 ⟨v8, rfl, ho8, hF8⟩
          rw [HS1.out] at ho8
          obtain ⟨RA, rc, rfl⟩ := own_slice ho8
          obtain ⟨rg, hrg⟩ := own_some ho8 (by omega)
          subst hrg
          have k1' := str_own ho8 HS1.out
          have HNY := Lib.hid (HNX.out.fr0 hF8)
          have k2' := HNY.out.str HS1.out
          generalize strOfNums s = t at k1' k2'
          clear ho8 hF8 HNX
          go_wp2_with fail
          exact ⟨⟨i + 1, by omega, by omega, by go_num, HNY⟩, by simp [intOf]; omega⟩
        · have hk2' : (ok == 2) = false := by simp [hk2]
          have HNX := HN1
          clear hk hk2 HN1
          go_wp2_with fail
          refine (HNX.out.read how12).mono ?_
          rintro e w8 ⟨v8, rfl, ho8, hF8⟩
          rw [HS1.out] at ho8
          obtain ⟨RA, rc, rfl⟩ := own_slice ho8
          obtain ⟨rg, hrg⟩ := own_some ho8 (by omega)
          subst hrg
          have k1' := str_own ho8 HS1.out
          have HNY := Lib.hid (HNX.out.fr0 hF8)
          have k2' := HNY.out.str HS1.out
          generalize strOfNums s = t at k1' k2'
          clear ho8 hF8 HNX
          go_wp2_with fail
          exact ⟨⟨i + 1, by omega, by omega, by go_num, HNY⟩, by simp [intOf]; omega⟩
    · have hfin : Fr (fun _ => False) w wr := (by obtain ⟨T, d, h, _⟩ := HI.out; exact h.fr.toBelow)
      have HFIN := Lib.hid hfin
      clear hfin
      rcases Nat.lt_or_ge i os.length with h1 | h1
      · have h1i : (i : Int) < os.length := by omega
        have h2i : ¬ (i : Int) < 40 := by omega
        go_wp2
        go_ret
        exact ⟨rfl, HFIN.out⟩
      · have h1i : ¬ (i : Int) < os.length := by omega
        go_wp2
        go_ret
        exact ⟨rfl, HFIN.out⟩
end Go.Proofs.Ytdamegjhdopfaaa
