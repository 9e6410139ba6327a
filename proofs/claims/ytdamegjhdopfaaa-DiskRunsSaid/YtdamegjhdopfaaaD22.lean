/- A disk of twelve sectors, call by call; DiskFlushed's walk. -/
import Derived.Test.YtdamegjhdopfaaaD21
namespace Go.Proofs.Ytdamegjhdopfaaa
open Go.RowKit Go.WideShapes
set_option linter.unusedSimpArgs false
set_option linter.unusedVariables false

structure DK (w0 w : World) (g k : Nat) (T : Nat → Prop) (d : Dk) : Prop where
  dk : DkAt w g T d
  len : d.F.length = 12
  up : d.down = false
  nofuse : d.fuse = -1
  done : d.done ≤ k
  puts : d.puts ≤ k
  big : ∀ q, T q → w0.heap.size ≤ q
  fr : Fr (fun q => w0.heap.size ≤ q) w0 w
section
variable {w0 w w' : World} {g k : Nat} {T : Nat → Prop} {d : Dk}
theorem DK.fr0 (h : DK w0 w g k T d) (hF : Fr (fun _ => False) w w') : DK w0 w' g k T d :=
  ⟨h.dk.fr0 hF, h.len, h.up, h.nofuse, h.done, h.puts, h.big, h.fr.trans hF (fun _ _ h => h.elim)⟩
theorem DK.mono (h : DK w0 w g k T d) {k' : Nat} (hk : k ≤ k') : DK w0 w g k' T d :=
  ⟨h.dk, h.len, h.up, h.nofuse, by have := h.done; omega, by have := h.puts; omega, h.big, h.fr⟩
/-- Write in range, and beyond -/
theorem DK.wr_in (h : DK w0 w g k T d) (i : Int) (hi : 0 ≤ i ∧ i < 12) (b : List Int) (hb : b.length = 128) : d.writeE i 128 = 0 ∧ d.write i b = ⟨d.F, fun q => if q = i then d.L q ++ [b] else d.L q, d.done + 1, d.fuse, d.down, d.puts + 1⟩ := by
  have := write_ok d i b h.up (by rw [h.len]; exact hi) hb (by rw [h.nofuse]; omega)
  rw [hb] at this
  exact this
theorem DK.wr_out (h : DK w0 w g k T d) (i : Int) (hi : ¬ (0 ≤ i ∧ i < 12)) (b : List Int) (hb : b.length = 128) : d.writeE i 128 = 5 ∧ d.write i b = d := by
  have h1 : d.writeE i 128 = 5 := by unfold Dk.writeE; rw [h.up, if_neg (by simp), if_neg (by rw [h.len]; exact hi)]
  refine ⟨h1, ?_⟩
  unfold Dk.write
  rw [hb, h1, if_neg (by omega)]
def DKWrite (w0 w : World) (g k : Nat) (d : Dk) (i : Int) (b : List Int) (e : Ending) (w' : World) : Prop :=
  ∃ T', e = .returned (.int .i64 (d.writeE i 128)) ∧ DK w0 w' g (k + 1) T' (d.write i b)
theorem DK.write (h : DK w0 w g k T d) (hk : k ≤ 1000) (i : Int) (k1 : Nat) (b : List Int) (hr : w.heap[k1]? = some (.cells (by8 b).toArray 5 (0, 0))) (hb : Sec b) :
    Calls Try.prog 18 #[.pointer (some ⟨g, 0, none⟩), .int .i64 i, .slice (some ⟨k1, 0, none⟩) 128 128] w (DKWrite w0 w g k d i b) := by
  have hd := h.done
  have hp := h.puts
  have hw := write_any h.dk i (some ⟨k1, 0, none⟩) 128 b (readU_row hr) hb.2 (by omega) (by omega)
  rw [hb.1] at hw
  refine hw.mono ?_
  rintro e w' ⟨rfl, T', hat, hF, hT⟩
  have hbig : ∀ q, T' q → w0.heap.size ≤ q := fun q hq => by
    rcases hT q hq with h1 | h1
    · exact h.big q h1
    · have := h.fr.size; omega
  have hfr : Fr (fun q => w0.heap.size ≤ q) w0 w' := h.fr.trans hF (fun q _ hq => h.big q hq)
  refine ⟨T', rfl, ?_⟩
  by_cases hi : 0 ≤ i ∧ i < 12
  · obtain ⟨_, e2⟩ := h.wr_in i hi b hb.1
    rw [e2] at hat ⊢
    exact ⟨hat, h.len, h.up, h.nofuse, by show d.done + 1 ≤ ((k + 1 : Nat) : Int); omega, by show d.puts + 1 ≤ k + 1; omega, hbig, hfr⟩
  · obtain ⟨_, e2⟩ := h.wr_out i hi b hb.1
    rw [e2] at hat ⊢
    exact ⟨hat, h.len, h.up, h.nofuse, by omega, by omega, hbig, hfr⟩
def DKFlush (w0 : World) (g k : Nat) (T : Nat → Prop) (d : Dk) (e : Ending) (w' : World) : Prop := e = .returned (.int .i64 0) ∧ DK w0 w' g (k + 1) T d.flushed.tick
theorem DK.flush (h : DK w0 w g k T d) (hk : k ≤ 1000) : Calls Try.prog 28 #[.pointer (some ⟨g, 0, none⟩)] w (DKFlush w0 g k T d) := by
  have hd := h.done
  have hp := h.puts
  refine (flush_any h.dk (by omega) (by omega)).mono ?_
  rintro e w' ⟨rfl, hat, hF⟩
  have e1 : d.flushE = 0 := by unfold Dk.flushE; rw [h.up]; simp
  have e2 : d.flush = d.flushed.tick := by unfold Dk.flush; rw [h.up]; simp
  have e3 : ¬ 0 < d.flushed.fuse := by show ¬ 0 < d.fuse; rw [h.nofuse]; omega
  rw [e2] at hat
  refine ⟨by rw [e1], hat, ?_, ?_, ?_, ?_, ?_, h.big, h.fr.trans hF (fun q _ hq => h.big q hq)⟩
  · simp [Dk.tick, Dk.flushed, h.len]
  · unfold Dk.tick; simp only [if_neg e3]; exact h.up
  · unfold Dk.tick; simp only [if_neg e3]; exact h.nofuse
  · show d.done + 1 ≤ ((k + 1 : Nat) : Int); omega
  · show d.puts ≤ k + 1; omega
end
theorem dk_new {w0 w w' : World} {e : Ending} (hF0 : Fr (fun _ => False) w0 w) (h : NewPost w 12 e w') : ∃ g T, e = .returned (.tuple #[.pointer (some ⟨g, 0, none⟩), .int .i64 0]) ∧ DK w0 w' g 0 T (newDk (List.replicate 12 zeroS)) := by
  obtain ⟨g, T, rfl, hat, hF, hg, hT⟩ := h
  have := hF0.size
  exact ⟨g, T, rfl, hat, by simp [newDk], rfl, rfl, by simp [newDk], by simp [newDk], fun q hq => by have := hT q hq; omega, (hF0.trans hF (fun _ _ h => h)).none⟩
theorem los_nil (d : Dk) (h : ∀ i, d.L i = []) : ([] : List Lo) = losOf d := by
  refine los_same d ?_ List.Pairwise.nil
  have : losOf d = [] := by
    cases hc : losOf d with
    | nil => rfl
    | cons m r =>
      have := ((mem_los d m).1 (by rw [hc]; simp)).1
      rw [h] at this
      simp at this
  rw [this]
theorem readOps_at {w : World} {A : Option Addr} {os : List OpD} (h : ReadOps w A os) {i : Nat} {o : OpD} (ho : os[i]? = some o) : ∃ g f, A = some ⟨g, f, none⟩ ∧ w.cell? ⟨g, f + i * 8, none⟩ = some (.int .i64 o.kind) ∧ w.cell? ⟨g, f + i * 8 + 1, none⟩ = some (.int .i64 o.at') ∧ w.cell? ⟨g, f + i * 8 + 2, none⟩ = some (.slice o.bA o.b.length o.bc) ∧ ReadU w o.bA o.b ∧ ∀ x ∈ o.b, 0 ≤ x ∧ x < 256 := by
  obtain ⟨⟨g, f, e, hc⟩, h1, h2⟩ := h i o ho
  exact ⟨g, f, e, hc 0 _ rfl, hc 1 _ rfl, hc 2 _ rfl, h1, h2⟩
theorem str_own {w : World} {B rg rc : Nat} {s : List Int} (h : w.ownsRow B 5 1 (.slice (some ⟨rg, 0, none⟩) 128 rc) 128 (by8 s)) (hs : s.length = 128) : (convert 33 9 (.slice (some ⟨rg, 0, none⟩) 128 rc)).run Try.prog w = .ok (.string (strOfNums s)) w := by
  have hr : ReadU w (some ⟨rg, 0, none⟩) s := fun i x hx => by
    refine ⟨rg, 0, rfl, ?_⟩
    have := (own_news h).1 _ rfl i (.int .u8 x) (by unfold by8; rw [List.getElem?_map, hx]; rfl)
    rw [add_some] at this
    exact this
  have := str_of (c := rc) hr (by omega)
  rw [hs] at this
  exact this
theorem Fr.toBelow {w w' : World} (h : Fr (fun q => w.heap.size ≤ q) w w') : Fr (fun _ => False) w w' := Fr.of_below (h.below (Nat.le_refl _) (fun _ h => h)) _

set_option maxRecDepth 100000 in
set_option maxHeartbeats 4000000 in
theorem flushed_any (A : Option Addr) (c : Nat) (os : List OpD) (w : World) (hl : os.length ≤ maxLen) (hR : ReadOps w A os) :
    Calls Try.prog 6 #[.slice A os.length c] w (fun e w' => e = .returned (.bool true) ∧ Fr (fun _ => False) w w') := by
  have HR := Lib.hid hR
  clear hR
  go_enter Try.func6, Try.ntmps6
  go_wp2_with fail
  refine (awake_disk w).mono ?_
  rintro e w1 ⟨rfl, hF1⟩
  have HF1 := Lib.hid hF1
  clear hF1
  have hnew : Calls Try.prog 16 #[.int .i64 12] w1 (NewPost w1 12) := new_any w1 12 (by omega) (by omega)
  have HNEW := Lib.hid hnew
  clear hnew
  go_wp2_with fail
  refine HNEW.out.mono ?_
  rintro e w2 hnp
  obtain ⟨g, T0, rfl, hdk⟩ := dk_new HF1.out hnp
  have I0 : Hid (∃ T d, DK w w2 g 0 T d) := ⟨T0, _, hdk⟩
  clear hnp hdk HNEW
  go_upto_block 0 with (fail)
  go_cut [] (fun wd => Hid (∃ T d, DK w wd g 40 T d))
  case first =>
    go_wp2_with fail
    go_loopw [5] (fun k wr => ∃ i : Nat, i ≤ os.length ∧ i ≤ 40 ∧ k = .int .i64 i ∧ Hid (∃ T d, DK w wr g i T d)) (fun k _ => 40 - (intOf k).toNat)
    case atStart => exact ⟨0, by omega, by omega, rfl, I0⟩
    case round =>
      clear I0
      obtain ⟨i, hi, hi40, rfl, HI⟩ := hrel
      by_cases hlt : i < os.length ∧ i < 40
      · obtain ⟨hlt, hlt4⟩ := hlt
        have hii : (i : Int) < os.length := by omega
        have hi4 : (i : Int) < 40 := by omega
        obtain ⟨o, ho⟩ : ∃ o, os[i]? = some o := ⟨_, List.getElem?_eq_getElem hlt⟩
        obtain ⟨qg, qf, rfl, z0, z1, z2, hb, hbb⟩ := readOps_at HR.out ho
        obtain ⟨T, d, hdk⟩ := HI.out
        have hfw := hdk.fr.toBelow
        have y0 := hfw.cell0 z0
        have y1 := hfw.cell0 z1
        have y2 := hfw.cell0 z2
        have HB := Lib.hid (hb.fr hfw (fun _ _ _ h => h))
        have HSX := Lib.hid (full_sec o.b hbb)
        have HDK := Lib.hid hdk
        obtain ⟨ok, oat, obA, obc, ob', _, _, _, _, _, _, _⟩ := o
        simp only at y0 y1 y2 HB HSX
        have HZ : Hid (w.cell? ⟨qg, qf + i * 8 + 1, none⟩ = some (.int .i64 oat) ∧ w.cell? ⟨qg, qf + i * 8 + 2, none⟩ = some (.slice obA ob'.length obc)) := ⟨z1, z2⟩
        clear ho z0 z1 z2 hb hbb hdk hfw HI
        by_cases hk : ok = 1
        · have hk1 : (ok == 1) = true := by simp [hk]
          have hS : ∀ W : World, Fr (fun _ => False) wr W → W.cell? ⟨qg, qf + i * 8 + 1, none⟩ = some (.int .i64 oat) ∧ W.cell? ⟨qg, qf + i * 8 + 2, none⟩ = some (.slice obA ob'.length obc) := fun W hW => ⟨hW.cell0 y1, hW.cell0 y2⟩
          have HS := Lib.hid hS
          have HS2 : Hid (∀ W : World, Fr (fun q => w.heap.size ≤ q) w W → W.cell? ⟨qg, qf + i * 8 + 1, none⟩ = some (.int .i64 oat) ∧ W.cell? ⟨qg, qf + i * 8 + 2, none⟩ = some (.slice obA ob'.length obc)) := fun W hW => ⟨hW.toBelow.cell0 HZ.out.1, hW.toBelow.cell0 HZ.out.2⟩
          have HFUL : Hid (∀ W : World, Fr (fun _ => False) wr W → Calls Try.prog 19 #[.slice obA ob'.length obc] W (FullPost W ob')) := fun W hW => full_any obA obc ob' (HB.out.fr hW (fun _ _ _ h => h))
          have hs128 : (fullS ob').length = 128 := HSX.out.1
          have HWRI : Hid (∀ (W : World) (k1 : Nat), Fr (fun _ => False) wr W → W.heap[k1]? = some (.cells (by8 (fullS ob')).toArray 5 (0, 0)) → Calls Try.prog 18 #[.pointer (some ⟨g, 0, none⟩), .int .i64 oat, .slice (some ⟨k1, 0, none⟩) 128 128] W (DKWrite w W g i d oat (fullS ob'))) := fun W k1 hW hr => (HDK.out.fr0 hW).write (by omega) oat k1 (fullS ob') hr HSX.out
          have HF : Hid (Fr (fun _ => False) wr wr) := Fr.refl _ _
          clear hk hS hs128 HZ HSX HB
          go_upto_region 10 with (fail)
          clear y0 y1 y2
          go_region_held3 (fun W => W.cell? ⟨qg, qf + i * 8 + 1, none⟩ = some (.int .i64 oat) ∧ W.cell? ⟨qg, qf + i * 8 + 2, none⟩ = some (.slice obA ob'.length obc))
            (first | exact HS2.out _ HDKN.out.fr | exact HS.out _ HF.out | exact HS.out _ HF.out.drew)
            (first
              | (go_at_call 19; refine (HFUL.out _ (by first | exact HF.out | exact HF.out.drew)).mono ?_; rintro e wn ⟨k1, rfl, hk1, hf, hg1⟩; have HF : Hid (Fr (fun _ => False) wr wn) := (by first | exact HF.out.trans hf (fun _ _ h => h) | exact HF.out.drew.trans hf (fun _ _ h => h)); have HK1 := Lib.hid hk1; clear hk1 hf hg1)
              | (go_at_call 18; refine (HWRI.out _ k1 HF.out HK1.out).mono ?_; rintro e wn ⟨TN, rfl, hdkn⟩; have HDKN := Lib.hid hdkn; clear hdkn))
          have HN : Hid (∃ T d, DK w wn g (i + 1) T d) := ⟨_, _, HDKN.out⟩
          go_wp2_with fail
          exact ⟨⟨i + 1, by omega, by omega, by go_num, HN⟩, by simp [intOf]; omega⟩
        · have hk1 : (ok == 1) = false := by simp [hk]
          have HN : Hid (∃ T d, DK w wr g (i + 1) T d) := ⟨T, d, HDK.out.mono (by omega)⟩
          clear hk
          go_wp2_with fail
          exact ⟨⟨i + 1, by omega, by omega, by go_num, HN⟩, by simp [intOf]; omega⟩
      · have HN : Hid (∃ T d, DK w wr g 40 T d) := (by obtain ⟨T, d, h⟩ := HI.out; exact ⟨T, d, h.mono (by omega)⟩ : ∃ T d, DK w wr g 40 T d)
        rcases Nat.lt_or_ge i os.length with h1 | h1
        · have h1i : (i : Int) < os.length := by omega
          have h2i : ¬ (i : Int) < 40 := by omega
          go_wp2
          go_meet
          case rel => exact HN
        · have h1i : ¬ (i : Int) < os.length := by omega
          go_wp2
          go_meet
          case rel => exact HN
  case rest =>
    clear I0
    obtain ⟨T, d, hdk⟩ := hcut.out
    have HFLU := Lib.hid (hdk.flush (by omega))
    clear hdk hcut
    go_wp2_with fail
    refine HFLU.out.mono ?_
    rintro e w5 ⟨rfl, hdk5⟩
    obtain ⟨d5, hd5⟩ : ∃ d5, d5 = d.flushed.tick := ⟨_, rfl⟩
    have hL5 : ∀ i, d5.L i = [] := fun i => by rw [hd5]; rfl
    rw [← hd5] at hdk5
    have HDK5 := Lib.hid hdk5
    have HL5 := Lib.hid hL5
    have hlo := loose_any hdk5.dk
    rw [← los_nil d5 hL5] at hlo
    have HLO := Lib.hid hlo
    clear hd5 hL5 hdk5 hlo HFLU
    go_wp2_with fail
    refine HLO.out.mono ?_
    rintro e w6 ⟨v6, rfl, ho6, hF6⟩
    obtain ⟨LA, lc, rfl⟩ := own_slice ho6
    have HDK6 := Lib.hid (HDK5.out.fr0 hF6)
    simp only [List.length_nil]
    have hcr := crash_any HDK6.out.dk none 0 [] (by simp [maxLen]) (fun i f hf => by simp at hf) [] (los_nil d5 HL5.out)
    have HCR : Hid (Calls Try.prog 23 #[.pointer (some ⟨g, 0, none⟩), .slice none 0 0] w6 (CrashAll w6 d5 [] [])) := hcr
    clear ho6 hF6 hcr HLO HDK5
    go_wp2_with fail
    refine HCR.out.mono ?_
    rintro e w7 hca
    rcases hca with ⟨h1, _⟩ | ⟨_, g7, T7, rfl, hat7, hF7, _, _⟩
    · exact absurd (by simp [crashE, fitsF]) h1
    have hcf : crashF d5 [] [] = d5.F := rfl
    rw [hcf] at hat7
    have HAT7 := Lib.hid hat7
    have HDK7 := Lib.hid (HDK6.out.fr0 hF7)
    have HF0 : Hid (Fr (fun _ => False) w7 w7) := Fr.refl _ _
    clear hcf hat7 hF7 HCR HDK6
    go_wp2_with fail
    go_loopw [8] (fun k wr => ∃ i : Nat, i ≤ 12 ∧ k = .int .i64 i ∧ Hid (Fr (fun _ => False) w7 wr)) (fun k _ => 12 - (intOf k).toNat)
    case atStart => exact ⟨0, by omega, rfl, HF0⟩
    case round =>
      clear HF0
      obtain ⟨i, hi, rfl, HF⟩ := hrel
      rcases Nat.lt_or_ge i 12 with hlt | hlt
      · have hii : (i : Int) < 12 := by omega
        have hil : (0 : Int) ≤ i ∧ (i : Int) < d5.F.length := by rw [HDK7.out.len]; omega
        have hat := HDK7.out.dk.fr0 HF.out
        have hs := at_len hat i (by omega)
        have h5 : d5.at i = d5.F.getD i [] := by unfold Dk.at; rw [HL5.out]; rfl
        have r1 := read_any hat (i : Int)
        have e1 : d5.readE i = 0 := by unfold Dk.readE; rw [HDK7.out.up, if_neg (by simp), if_pos hil]
        have e2 : d5.readB i = d5.at i := by unfold Dk.readB; rw [HDK7.out.up, if_neg (by simp), if_pos hil]; simp
        rw [e1, e2] at r1
        have r2 := fun (W : World) (hW : Fr (fun _ => False) w7 W) => read_any (HAT7.out.fr0 hW) (i : Int)
        have e3 : (newDk d5.F).readE i = 0 := by unfold Dk.readE; rw [if_neg (by simp [newDk])]; exact if_pos hil
        have e4 : (newDk d5.F).readB i = d5.at i := by unfold Dk.readB; rw [if_neg (by simp [newDk])]; rw [h5]; exact if_pos hil
        simp only [e3, e4] at r2
        obtain ⟨s, hss⟩ : ∃ s, s = d5.at i := ⟨_, rfl⟩
        rw [← hss] at hs r1 r2
        have R1 := Lib.hid r1
        have R2 := Lib.hid r2
        have HSE := Lib.hid hs
        clear hil hat hs h5 r1 e1 e2 r2 e3 e4 hss
        go_wp2_with fail
        refine R1.out.mono ?_
        rintro e w8 ⟨v8, rfl, ho8, hF8⟩
        rw [HSE.out.1] at ho8
        obtain ⟨RA, rc, rfl⟩ := own_slice ho8
        obtain ⟨rg, hrg⟩ := own_some ho8 (by omega)
        subst hrg
        have HF8 := Lib.hid (HF.out.trans hF8 (fun _ _ h => h))
        have HO8 := Lib.hid ho8
        clear ho8 hF8
        go_wp2_with fail
        refine (R2.out w8 HF8.out).mono ?_
        rintro e w9 ⟨v9, rfl, ho9, hF9⟩
        rw [HSE.out.1] at ho9
        obtain ⟨QA, qc, rfl⟩ := own_slice ho9
        obtain ⟨qg, hqg⟩ := own_some ho9 (by omega)
        subst hqg
        have k1 := str_own (hF9.own0 HO8.out) HSE.out.1
        have k2 := str_own ho9 HSE.out.1
        have HF9 := Lib.hid (HF8.out.trans hF9 (fun _ _ h => h))
        generalize strOfNums s = t at k1 k2
        clear ho9 hF9 HF8 HO8
        go_wp2_with fail
        exact ⟨⟨i + 1, by omega, by go_num, HF9⟩, by simp [intOf]; omega⟩
      · have hii : ¬ (i : Int) < 12 := by omega
        have hfin := HDK7.out.fr.trans HF.out (fun _ _ h => h.elim)
        have HFIN := Lib.hid hfin.toBelow
        clear hfin
        go_wp2_with fail
        go_ret
        exact ⟨rfl, HFIN.out⟩
end Go.Proofs.Ytdamegjhdopfaaa
