/- DiskFuse's walk. -/
import Derived.Test.YtdamegjhdopfaaaD23
namespace Go.Proofs.Ytdamegjhdopfaaa
open Go.RowKit Go.WideShapes
set_option linter.unusedSimpArgs false
set_option linter.unusedVariables false

/-- a disk whose fuse has so many calls left -/
structure DFu (w0 w : World) (g k : Nat) (T : Nat → Prop) (d : Dk) (left : Nat) : Prop where
  dk : DkAt w g T d
  len : d.F.length = 12
  up : d.down = decide (left = 0)
  fuse : d.fuse = left
  few : left ≤ 20
  done : d.done ≤ k
  puts : d.puts ≤ k
  big : ∀ q, T q → w0.heap.size ≤ q
  fr : Fr (fun q => w0.heap.size ≤ q) w0 w
section
variable {w0 w w' : World} {g k left : Nat} {T : Nat → Prop} {d : Dk}
theorem DFu.fr0 (h : DFu w0 w g k T d left) (hF : Fr (fun _ => False) w w') : DFu w0 w' g k T d left :=
  ⟨h.dk.fr0 hF, h.len, h.up, h.fuse, h.few, h.done, h.puts, h.big, h.fr.trans hF (fun _ _ h => h.elim)⟩
theorem DFu.mono (h : DFu w0 w g k T d left) {k' : Nat} (hk : k ≤ k') : DFu w0 w g k' T d left :=
  ⟨h.dk, h.len, h.up, h.fuse, h.few, by have := h.done; omega, by have := h.puts; omega, h.big, h.fr⟩
def fuR (left : Nat) : Int := if 0 < left then 0 else 30
def FuPost (w0 : World) (g k left : Nat) (e : Ending) (w' : World) : Prop := e = .returned (.int .i64 (fuR left)) ∧ ∃ T' d', DFu w0 w' g (k + 1) T' d' (left - 1)
theorem DFu.write (h : DFu w0 w g k T d left) (hk : k ≤ 1000) (i : Int) (hi : 0 ≤ i ∧ i < 12) (k1 : Nat) (b : List Int) (hr : w.heap[k1]? = some (.cells (by8 b).toArray 5 (0, 0))) (hb : Sec b) :
    Calls Try.prog 18 #[.pointer (some ⟨g, 0, none⟩), .int .i64 i, .slice (some ⟨k1, 0, none⟩) 128 128] w (FuPost w0 g k left) := by
  have hd := h.done
  have hp := h.puts
  have hw := write_any h.dk i (some ⟨k1, 0, none⟩) 128 b (readU_row hr) hb.2 (by omega) (by omega)
  rw [hb.1] at hw
  refine hw.mono ?_
  rintro e w' ⟨rfl, T', hat, hF, hT⟩
  have hbig : ∀ q, T' q → w0.heap.size ≤ q := fun q hq => by
    rcases hT q hq with h1 | h1
    · exact h.big q h1
    · have := h.fr.size; omega
  have hfr : Fr (fun q => w0.heap.size ≤ q) w0 w' := h.fr.trans hF (fun q _ hq => h.big q hq)
  by_cases hl : 0 < left
  · have hdn : d.down = false := by rw [h.up]; simp; omega
    have e1 : d.writeE i 128 = 0 := by unfold Dk.writeE; rw [hdn, if_neg (by simp), if_pos (by rw [h.len]; exact hi), if_pos rfl]
    have e2 : d.write i b = (d.wr i b).tick := by unfold Dk.write; rw [hb.1, if_pos e1]
    have e3 : 0 < (d.wr i b).fuse := by show 0 < d.fuse; rw [h.fuse]; omega
    rw [e2] at hat
    refine ⟨by rw [e1, fuR, if_pos hl], T', _, hat, h.len, ?_, ?_, by have := h.few; omega, by show d.done + 1 ≤ ((k + 1 : Nat) : Int); omega, by show d.puts + 1 ≤ k + 1; omega, hbig, hfr⟩
    · unfold Dk.tick
      simp only [if_pos e3]
      show decide (d.fuse = 1) = decide (left - 1 = 0)
      rw [h.fuse]
      by_cases h1 : left = 1
      · simp [h1]
      · rw [decide_eq_false (show ¬ (left : Int) = 1 by omega), decide_eq_false (show ¬ left - 1 = 0 by omega)]
    · unfold Dk.tick
      simp only [if_pos e3]
      show d.fuse - 1 = ((left - 1 : Nat) : Int)
      rw [h.fuse]; omega
  · have hdn : d.down = true := by rw [h.up]; simp; omega
    have e1 : d.writeE i 128 = 30 := by unfold Dk.writeE; rw [if_pos hdn]
    have e2 : d.write i b = d := by unfold Dk.write; rw [hb.1, e1, if_neg (by omega)]
    rw [e2] at hat
    exact ⟨by rw [e1, fuR, if_neg hl], T', d, hat, h.len, by rw [h.up]; congr 1; simp; omega, by rw [h.fuse]; omega, by have := h.few; omega, by omega, by omega, hbig, hfr⟩
theorem DFu.flush (h : DFu w0 w g k T d left) (hk : k ≤ 1000) : Calls Try.prog 28 #[.pointer (some ⟨g, 0, none⟩)] w (FuPost w0 g k left) := by
  have hd := h.done
  have hp := h.puts
  refine (flush_any h.dk (by omega) (by omega)).mono ?_
  rintro e w' ⟨rfl, hat, hF⟩
  have hfr : Fr (fun q => w0.heap.size ≤ q) w0 w' := h.fr.trans hF (fun q _ hq => h.big q hq)
  by_cases hl : 0 < left
  · have hdn : d.down = false := by rw [h.up]; simp; omega
    have e1 : d.flushE = 0 := by unfold Dk.flushE; rw [hdn]; simp
    have e2 : d.flush = d.flushed.tick := by unfold Dk.flush; rw [hdn]; simp
    have e3 : 0 < d.flushed.fuse := by show 0 < d.fuse; rw [h.fuse]; omega
    rw [e2] at hat
    refine ⟨by rw [e1, fuR, if_pos hl], T, _, hat, ?_, ?_, ?_, by have := h.few; omega, by show d.done + 1 ≤ ((k + 1 : Nat) : Int); omega, by show d.puts ≤ k + 1; omega, h.big, hfr⟩
    · simp [Dk.tick, Dk.flushed, h.len]
    · unfold Dk.tick
      simp only [if_pos e3]
      show decide (d.fuse = 1) = decide (left - 1 = 0)
      rw [h.fuse]
      by_cases h1 : left = 1
      · simp [h1]
      · rw [decide_eq_false (show ¬ (left : Int) = 1 by omega), decide_eq_false (show ¬ left - 1 = 0 by omega)]
    · unfold Dk.tick
      simp only [if_pos e3]
      show d.fuse - 1 = ((left - 1 : Nat) : Int)
      rw [h.fuse]; omega
  · have hdn : d.down = true := by rw [h.up]; simp; omega
    have e1 : d.flushE = 30 := by unfold Dk.flushE; rw [hdn]; simp
    have e2 : d.flush = d := by unfold Dk.flush; rw [if_pos hdn]
    rw [e2] at hat
    exact ⟨by rw [e1, fuR, if_neg hl], T, d, hat, h.len, by rw [h.up]; congr 1; simp; omega, by rw [h.fuse]; omega, by have := h.few; omega, by omega, by omega, h.big, hfr⟩
end
def FuInv (w0 w : World) (g k left : Nat) : Prop := ∃ T d, DFu w0 w g k T d left

set_option maxRecDepth 100000 in
set_option maxHeartbeats 4000000 in
theorem fuses_any (x : Int) (hx0 : 0 ≤ x) (hx1 : x ≤ 255) (A : Option Addr) (c : Nat) (os : List OpD) (w : World) (hl : os.length ≤ maxLen) (hR : ReadOps w A os) :
    Calls Try.prog 7 #[.int .u8 x, .slice A os.length c] w (fun e w' => e = .returned (.bool true) ∧ Fr (fun _ => False) w w') := by
  have HR := Lib.hid hR
  obtain ⟨n0, hn0⟩ : ∃ n0 : Nat, x % 20 = (n0 : Int) := ⟨(x % 20).toNat, by omega⟩
  have hnt : x.tmod 20 = (n0 : Int) := by rw [Int.tmod_eq_emod_of_nonneg hx0]; exact hn0
  have hn20 : n0 < 20 := by omega
  clear hR
  go_enter Try.func7, Try.ntmps7
  go_wp2_with fail
  refine (awake_disk w).mono ?_
  rintro e w1 ⟨rfl, hF1⟩
  have HF1 := Lib.hid hF1
  clear hF1
  have hnew : Calls Try.prog 16 #[.int .i64 12] w1 (NewPost w1 12) := new_any w1 12 (by omega) (by omega)
  have HNEW := Lib.hid hnew
  clear hnew
  go_wp2_with fail
  refine HNEW.out.mono ?_
  rintro e w2 hnp
  obtain ⟨g, T0, rfl, hdk⟩ := dk_new HF1.out hnp
  have HDK := Lib.hid hdk
  have hfu := fuse_any hdk.dk (n0 : Int)
  have hfe : (newDk (List.replicate 12 zeroS)).fuseE n0 = 0 := by unfold Dk.fuseE; rw [if_neg (by simp [newDk]), if_neg (by omega)]
  have hfs : (newDk (List.replicate 12 zeroS)).setFuse n0 = { newDk (List.replicate 12 zeroS) with fuse := (n0 : Int), down := decide ((n0 : Int) = 0) } := by unfold Dk.setFuse; rw [if_pos hfe]
  rw [hfe, hfs] at hfu
  have HFU := Lib.hid hfu
  clear hnp hdk HNEW hfu hfe hfs
  go_wp2_with fail
  refine HFU.out.mono ?_
  rintro e w3 ⟨rfl, hat3, hF3⟩
  have hgB : w.heap.size ≤ g := by have := HDK.out.big; obtain ⟨FA, fc, bm, km, Dm, hd, _, h2, _⟩ := HDK.out.dk; exact this g (h2 g (.inl rfl))
  have I0 : Hid (FuInv w w3 g 0 n0) := ⟨T0, _, hat3, HDK.out.len, by show decide ((n0 : Int) = 0) = decide (n0 = 0); by_cases h0 : n0 = 0 <;> simp [h0], rfl, by omega, HDK.out.done, HDK.out.puts, HDK.out.big, HDK.out.fr.trans hF3 (fun q _ e => by rw [e]; exact hgB)⟩
  clear hat3 hF3 hgB HFU HDK
  go_upto_block 0 with (fail)
  go_cut [7] (fun lv wd => ∃ left : Nat, left ≤ 20 ∧ lv = .int .i64 left ∧ Hid (FuInv w wd g 40 left))
  case first =>
    go_wp2_with fail
    go_loopw [7, 8] (fun lv k wr => ∃ i left : Nat, i ≤ os.length ∧ i ≤ 40 ∧ left ≤ 20 ∧ lv = .int .i64 left ∧ k = .int .i64 i ∧ Hid (FuInv w wr g i left)) (fun _ k _ => 40 - (intOf k).toNat)
    case atStart => exact ⟨0, n0, by omega, by omega, by omega, rfl, rfl, I0⟩
    case round =>
      clear I0
      obtain ⟨i, left, hi, hi40, hl20, rfl, rfl, HI⟩ := hrel
      by_cases hlt : i < os.length ∧ i < 40
      · obtain ⟨hlt, hlt4⟩ := hlt
        have hii : (i : Int) < os.length := by omega
        have hi4 : (i : Int) < 40 := by omega
        obtain ⟨o, ho⟩ : ∃ o, os[i]? = some o := ⟨_, List.getElem?_eq_getElem hlt⟩
        obtain ⟨qg, qf, rfl, z0, z1, z2, hob, hobb⟩ := readOps_at HR.out ho
        obtain ⟨T, d, hdk⟩ := HI.out
        have hfw := hdk.fr.toBelow
        have y0 := hfw.cell0 z0
        have y1 := hfw.cell0 z1
        have y2 := hfw.cell0 z2
        have HB := Lib.hid (hob.fr hfw (fun _ _ _ h => h))
        have HSY := Lib.hid (full_sec o.b hobb)
        have HDK := Lib.hid hdk
        obtain ⟨ok, oat, obA, obc, ob', _, _, _, _, _, _, _⟩ := o
        simp only at y0 y1 y2 HB HSY
        have HZ : Hid (w.cell? ⟨qg, qf + i * 8 + 1, none⟩ = some (.int .i64 oat) ∧ w.cell? ⟨qg, qf + i * 8 + 2, none⟩ = some (.slice obA ob'.length obc)) := ⟨z1, z2⟩
        have hN1 : FuInv w wr g (i + 1) left := ⟨T, d, hdk.mono (by omega)⟩
        have HN1 := Lib.hid hN1
        have hfr : fuR left = if 0 < left then 0 else 30 := rfl
        clear ho z0 z1 z2 hob hobb hdk hfw HI hN1
        by_cases hk : ok = 1
        · have hk1 : (ok == 1) = true := by simp [hk]
          have hk2' : (ok == 2) = false := by simp [hk]
          by_cases ha0 : 0 ≤ oat
          · by_cases ha12 : oat < 12
            · have hS : ∀ W : World, Fr (fun _ => False) wr W → W.cell? ⟨qg, qf + i * 8 + 1, none⟩ = some (.int .i64 oat) ∧ W.cell? ⟨qg, qf + i * 8 + 2, none⟩ = some (.slice obA ob'.length obc) := fun W hW => ⟨hW.cell0 y1, hW.cell0 y2⟩
              have HS := Lib.hid hS
              have HS2 : Hid (∀ W : World, Fr (fun q => w.heap.size ≤ q) w W → W.cell? ⟨qg, qf + i * 8 + 1, none⟩ = some (.int .i64 oat) ∧ W.cell? ⟨qg, qf + i * 8 + 2, none⟩ = some (.slice obA ob'.length obc)) := fun W hW => ⟨hW.toBelow.cell0 HZ.out.1, hW.toBelow.cell0 HZ.out.2⟩
              have HFUL : Hid (∀ W : World, Fr (fun _ => False) wr W → Calls Try.prog 19 #[.slice obA ob'.length obc] W (FullPost W ob')) := fun W hW => full_any obA obc ob' (HB.out.fr hW (fun _ _ _ h => h))
              obtain ⟨rv, hrv⟩ : ∃ rv, rv = fuR left := ⟨_, rfl⟩
              have HWRI : Hid (∀ (W : World) (k1 : Nat), Fr (fun _ => False) wr W → W.heap[k1]? = some (.cells (by8 (fullS ob')).toArray 5 (0, 0)) → Calls Try.prog 18 #[.pointer (some ⟨g, 0, none⟩), .int .i64 oat, .slice (some ⟨k1, 0, none⟩) 128 128] W (fun e w' => e = .returned (.int .i64 rv) ∧ FuInv w w' g (i + 1) (left - 1))) := fun W k1 hW hr => by
                refine ((HDK.out.fr0 hW).write (by omega) oat ⟨ha0, ha12⟩ k1 (fullS ob') hr HSY.out).mono ?_
                rintro e w' ⟨rfl, T', d', h1⟩
                exact ⟨by rw [hrv], T', d', h1⟩
              have HF : Hid (Fr (fun _ => False) wr wr) := Fr.refl _ _
              have HFRN : Hid (∀ W, FuInv w W g (i + 1) (left - 1) → Fr (fun q => w.heap.size ≤ q) w W) := fun W h => by obtain ⟨T, d, h1⟩ := h; exact h1.fr
              have HRV := Lib.hid hrv
              clear hk hS HB HSY HN1 hrv hfr
              go_upto_region 12 with (fail)
              clear y0 y1 y2
              go_region_held3 (fun W => W.cell? ⟨qg, qf + i * 8 + 1, none⟩ = some (.int .i64 oat) ∧ W.cell? ⟨qg, qf + i * 8 + 2, none⟩ = some (.slice obA ob'.length obc))
                (first | exact HS2.out _ (HFRN.out _ HNX.out) | exact HS.out _ HF.out | exact HS.out _ HF.out.drew)
                (first
                  | (go_at_call 19; refine (HFUL.out _ (by first | exact HF.out | exact HF.out.drew)).mono ?_; rintro e wn ⟨k1, rfl, hkk, hf, hg1⟩; have HF : Hid (Fr (fun _ => False) wr wn) := (by first | exact HF.out.trans hf (fun _ _ h => h) | exact HF.out.drew.trans hf (fun _ _ h => h)); have HK1 := Lib.hid hkk; clear hkk hf hg1)
                  | (go_at_call 18; refine (HWRI.out _ k1 HF.out HK1.out).mono ?_; rintro e wn ⟨rfl, hnx⟩; have HNX := Lib.hid hnx; clear hnx))
              clear HWRI HFUL HK1 HF HS HS2
              rcases Nat.eq_zero_or_pos left with h0 | h0
              · subst h0
                have hrv : rv = 30 := by rw [HRV.out]; rfl
                subst hrv
                go_wp2_with fail
                exact ⟨⟨i + 1, 0, by omega, by omega, by omega, by go_num, by go_num, HNX⟩, by simp [intOf]; omega⟩
              · have hrv : rv = 0 := by rw [HRV.out, fuR, if_pos h0]
                subst hrv
                obtain ⟨lm, rfl⟩ : ∃ lm, left = lm + 1 := ⟨left - 1, by omega⟩
                go_wp2_with fail
                exact ⟨⟨i + 1, lm, by omega, by omega, by omega, by go_num, by go_num, HNX⟩, by simp [intOf]; omega⟩
            · clear hk hfr
              go_wp2_with fail
              exact ⟨⟨i + 1, left, by omega, by omega, by omega, rfl, by go_num, HN1⟩, by simp [intOf]; omega⟩
          · clear hk hfr
            go_wp2_with fail
            exact ⟨⟨i + 1, left, by omega, by omega, by omega, rfl, by go_num, HN1⟩, by simp [intOf]; omega⟩
        · have hk1 : (ok == 1) = false := by simp [hk]
          by_cases hk2 : ok = 2
          · have hk2' : (ok == 2) = true := by simp [hk2]
            obtain ⟨rv, hrv⟩ : ∃ rv, rv = fuR left := ⟨_, rfl⟩
            have HFLU : Hid (Calls Try.prog 28 #[.pointer (some ⟨g, 0, none⟩)] wr (fun e w' => e = .returned (.int .i64 rv) ∧ FuInv w w' g (i + 1) (left - 1))) := by
              refine (HDK.out.flush (by omega)).mono ?_
              rintro e w' ⟨rfl, T', d', h1⟩
              exact ⟨by rw [hrv], T', d', h1⟩
            have HRV := Lib.hid hrv
            clear hk hk2 HN1 HDK hrv hfr
            go_wp2_with fail
            refine HFLU.out.mono ?_
            rintro e w7 ⟨rfl, hnx⟩
            have HNX := Lib.hid hnx
            clear hnx HFLU
            rcases Nat.eq_zero_or_pos left with h0 | h0
            · subst h0
              have hrv : rv = 30 := by rw [HRV.out]; rfl
              subst hrv
              go_wp2_with fail
              exact ⟨⟨i + 1, 0, by omega, by omega, by omega, by go_num, by go_num, HNX⟩, by simp [intOf]; omega⟩
            · have hrv : rv = 0 := by rw [HRV.out, fuR, if_pos h0]
              subst hrv
              obtain ⟨lm, rfl⟩ : ∃ lm, left = lm + 1 := ⟨left - 1, by omega⟩
              go_wp2_with fail
              exact ⟨⟨i + 1, lm, by omega, by omega, by omega, by go_num, by go_num, HNX⟩, by simp [intOf]; omega⟩
          · have hk2' : (ok == 2) = false := by simp [hk2]
            clear hk hk2 hfr
            go_wp2_with fail
            exact ⟨⟨i + 1, left, by omega, by omega, by omega, rfl, by go_num, HN1⟩, by simp [intOf]; omega⟩
      · have HN : Hid (FuInv w wr g 40 left) := (by obtain ⟨T, d, h⟩ := HI.out; exact ⟨T, d, h.mono (by omega)⟩ : FuInv w wr g 40 left)
        rcases Nat.lt_or_ge i os.length with h1 | h1
        · have h1i : (i : Int) < os.length := by omega
          have h2i : ¬ (i : Int) < 40 := by omega
          go_wp2
          go_meet
          case rel => exact ⟨left, hl20, rfl, HN⟩
        · have h1i : ¬ (i : Int) < os.length := by omega
          go_wp2
          go_meet
          case rel => exact ⟨left, hl20, rfl, HN⟩
  case rest =>
    clear I0
    obtain ⟨left, hl20, rfl, HI⟩ := hcut
    rcases Nat.eq_zero_or_pos left with h0 | h0
    · subst h0
      obtain ⟨T, d, hdk⟩ := HI.out
      have HDK := Lib.hid hdk
      have hup : d.down = true := by rw [hdk.up]; simp; try omega
      have r1 := read_any hdk.dk 0
      have e1 : d.readE 0 = 30 := by
        unfold Dk.readE
        rw [hup]
        have : (0 : Int) ≤ 0 ∧ (0 : Int) < d.F.length := by rw [hdk.len]; omega
        rw [if_pos this]
        simp
      rw [e1] at r1
      have R1 := Lib.hid r1
      have HUP := Lib.hid hup
      clear hdk hup r1 e1 HI
      go_wp2_with fail
      refine R1.out.mono ?_
      rintro e w5 ⟨v5, rfl, ho5, hF5⟩
      have HDK5 := Lib.hid (HDK.out.fr0 hF5)
      obtain ⟨l, hl'⟩ : ∃ l, l = losOf d := ⟨_, rfl⟩
      have hcr := crash_any HDK5.out.dk none 0 [] (by simp [maxLen]) (fun i f hf => by simp at hf) l hl'
      have HCR : Hid (Calls Try.prog 23 #[.pointer (some ⟨g, 0, none⟩), .slice none 0 0] w5 (CrashAll w5 d l [])) := hcr
      clear ho5 hF5 hcr R1 hl' HDK
      go_wp2_with fail
      refine HCR.out.mono ?_
      rintro e w7 hca
      rcases hca with ⟨h1, _⟩ | ⟨_, g7, T7, rfl, hat7, hF7, _, _⟩
      · exact absurd (by simp [crashE, fitsF]) h1
      have HAT7 := Lib.hid hat7
      have HDK7 := Lib.hid (HDK5.out.fr0 hF7)
      clear hat7 hF7 HCR HDK5
      go_wp2_with fail
      refine (down_any HDK7.out.dk).mono ?_
      rintro e w8 ⟨rfl, rfl⟩
      rw [HUP.out]
      have HFIN := Lib.hid HDK7.out.fr.toBelow
      clear HDK7
      go_wp2_with fail
      refine (down_any HAT7.out).mono ?_
      rintro e w9 ⟨rfl, rfl⟩
      simp only [newDk]
      go_wp2_with fail
      refine (done_any HAT7.out).mono ?_
      rintro e w9 ⟨rfl, rfl⟩
      simp only [newDk]
      go_wp2_with fail
      go_ret
      exact ⟨by simp, HFIN.out⟩
    · have hlb : ((left : Int) == 0) = false := by simp; omega
      obtain ⟨T, d, hdk⟩ := HI.out
      have HDK := Lib.hid hdk
      have hup : d.down = false := by rw [hdk.up]; simp; try omega
      have r1 := read_any hdk.dk 0
      have e1 : d.readE 0 = 0 := by
        unfold Dk.readE
        rw [hup]
        have : (0 : Int) ≤ 0 ∧ (0 : Int) < d.F.length := by rw [hdk.len]; omega
        rw [if_pos this]
        simp
      rw [e1] at r1
      have R1 := Lib.hid r1
      have HUP := Lib.hid hup
      clear hdk hup r1 e1 HI
      go_wp2_with fail
      refine R1.out.mono ?_
      rintro e w5 ⟨v5, rfl, ho5, hF5⟩
      have HDK5 := Lib.hid (HDK.out.fr0 hF5)
      obtain ⟨l, hl'⟩ : ∃ l, l = losOf d := ⟨_, rfl⟩
      have hcr := crash_any HDK5.out.dk none 0 [] (by simp [maxLen]) (fun i f hf => by simp at hf) l hl'
      have HCR : Hid (Calls Try.prog 23 #[.pointer (some ⟨g, 0, none⟩), .slice none 0 0] w5 (CrashAll w5 d l [])) := hcr
      clear ho5 hF5 hcr R1 hl' HDK
      go_wp2_with fail
      refine HCR.out.mono ?_
      rintro e w7 hca
      rcases hca with ⟨h1, _⟩ | ⟨_, g7, T7, rfl, hat7, hF7, _, _⟩
      · exact absurd (by simp [crashE, fitsF]) h1
      have HAT7 := Lib.hid hat7
      have HDK7 := Lib.hid (HDK5.out.fr0 hF7)
      clear hat7 hF7 HCR HDK5
      go_wp2_with fail
      refine (down_any HDK7.out.dk).mono ?_
      rintro e w8 ⟨rfl, rfl⟩
      rw [HUP.out]
      have HFIN := Lib.hid HDK7.out.fr.toBelow
      clear HDK7
      go_wp2_with fail
      refine (down_any HAT7.out).mono ?_
      rintro e w9 ⟨rfl, rfl⟩
      simp only [newDk]
      go_wp2_with fail
      refine (done_any HAT7.out).mono ?_
      rintro e w9 ⟨rfl, rfl⟩
      simp only [newDk]
      go_wp2_with fail
      go_ret
      exact ⟨by simp, HFIN.out⟩
end Go.Proofs.Ytdamegjhdopfaaa
