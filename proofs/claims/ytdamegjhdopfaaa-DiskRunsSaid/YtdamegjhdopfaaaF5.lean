/- Both disks stand alike: SameLoose, same. -/
import Derived.Test.YtdamegjhdopfaaaF4
import Derived.BigQuiet
namespace Go.Proofs.Ytdamegjhdopfaaa
open Go.RowKit Go.WideShapes
set_option linter.unusedSimpArgs false
set_option linter.unusedVariables false

theorem str_any {w : World} {B c : Nat} {A : Option Addr} {b : List Int} (h : w.ownsRow B 5 1 (.slice A b.length c) b.length (by8 b)) : (convert 33 9 (.slice A b.length c)).run Try.prog w = .ok (.string (strOfNums b)) w := by
  cases A with
  | none =>
    have h0 : b = [] := by
      rcases h.2 with ⟨_, h0⟩ | ⟨g, c2, cur, hv, _⟩
      · exact List.eq_nil_of_length_eq_zero h0
      · cases hv
    subst h0
    exact run_convert_bytes_nil w 33 5 Try.underlying33 Try.underlying5 _ _ 9 Try.underlying9
  | some a =>
    have hn := (own_news h).1 a rfl
    have ha : a = ⟨a.block, 0, none⟩ := by
      rcases h.2 with ⟨hv, _⟩ | ⟨g, c2, cur, hv, _⟩
      · cases hv
      · simp only [Value.slice.injEq, Option.some.injEq] at hv
        rw [hv.1]
    rw [ha]
    refine run_convert_bytes_arg w 33 5 Try.underlying33 Try.underlying5 a.block 0 b.length c b rfl (fun i hi => ?_) 9 Try.underlying9
    have := hn i (.int .u8 b[i]) (by unfold by8; rw [List.getElem?_map, List.getElem?_eq_getElem hi]; rfl)
    rw [ha, add_some] at this
    rw [this]
    simp [List.getD, List.getElem?_eq_getElem hi]

set_option maxRecDepth 100000 in
theorem sameLoose_any {w : World} {A B : Option Addr} {c e : Nat} {l : List Lo} (h1 : w.ownsRow 0 48 2 (.slice A l.length c) l.length (l.flatMap Lo.cells)) (h2 : w.ownsRow 0 48 2 (.slice B l.length e) l.length (l.flatMap Lo.cells)) (hl : l.length ≤ 4096) :
    Calls Try.prog 69 #[.slice A l.length c, .slice B l.length e] w (fun e w' => e = .returned (.bool true) ∧ Fr (fun _ => False) w w') := by
  have H1 := Lib.hid h1
  have H2 := Lib.hid h2
  have F0 : Hid (Fr (fun _ => False) w w) := Fr.refl _ _
  clear h1 h2
  go_enter Try.func69, Try.ntmps69
  go_wp2_with fail
  go_loopw [5] (fun k wr => ∃ i : Nat, i ≤ l.length ∧ k = .int .i64 i ∧ Hid (Fr (fun _ => False) w wr)) (fun k _ => l.length - (intOf k).toNat)
  case atStart => exact ⟨0, by omega, rfl, F0⟩
  case round =>
    clear F0
    obtain ⟨i, hi, rfl, F⟩ := hrel
    rcases Nat.lt_or_ge i l.length with hlt | hlt
    · have hii : (i : Int) < l.length := by omega
      obtain ⟨m, hm⟩ : ∃ m, l[i]? = some m := ⟨_, List.getElem?_eq_getElem hlt⟩
      obtain ⟨ga, rfl, a0, a1⟩ := readLo_own (F.out.own0 H1.out) hm
      obtain ⟨gb, rfl, b0, b1⟩ := readLo_own (F.out.own0 H2.out) hm
      clear hm
      go_upto_region 6 with fail
      go_quiet (fail)
      go_wp2_with fail
      exact ⟨⟨i + 1, by omega, by go_num, F.out.drewN _⟩, by simp [intOf]; omega⟩
    · have hii : ¬ (i : Int) < l.length := by omega
      go_wp2_with fail
      go_ret
      exact ⟨rfl, F.out⟩

set_option maxRecDepth 100000 in
set_option maxHeartbeats 4000000 in
theorem same_any {w : World} {g gr : Nat} {T TR : Nat → Prop} {d : Dk} (ha : DkAt w g T d) (hb : RdAt w gr TR d) (hputs : d.puts ≤ 1000000) :
    Calls Try.prog 33 #[.pointer (some ⟨g, 0, none⟩), .pointer (some ⟨gr, 0, none⟩)] w (fun e w' => e = .returned (.bool true) ∧ Fr (fun _ => False) w w') := by
  have HA := Lib.hid ha
  have HB := Lib.hid hb
  obtain ⟨sb, U, hs, hin, _⟩ := hb
  have c0 : w.cell? ⟨gr, 0, none⟩ = some (.slice (some ⟨sb, 0, none⟩) d.F.length d.F.length) := blk_cell hin.box 0
  have c3 : w.cell? ⟨gr, 3, none⟩ = some (.int .i64 d.done) := blk_cell hin.box 3
  have hfew := hin.pure.few
  obtain ⟨l, hl⟩ : ∃ l, l = losOf d := ⟨_, rfl⟩
  have HLL : Hid (l.length ≤ 4096) := (by rw [hl]; exact los_len d : l.length ≤ 4096)
  have HS : Hid (∀ W : World, Fr (fun _ => False) w W → W.cell? ⟨gr, 0, none⟩ = some (.slice (some ⟨sb, 0, none⟩) d.F.length d.F.length) ∧ W.cell? ⟨gr, 3, none⟩ = some (.int .i64 d.done)) := fun W hW => ⟨hW.cell0 c0, hW.cell0 c3⟩
  have HSZ : Hid (∀ W : World, Fr (fun _ => False) w W → Calls Try.prog 34 #[.pointer (some ⟨g, 0, none⟩)] W (fun e w' => e = .returned (.int .i64 d.F.length) ∧ w' = W)) := fun W hW => size_any (HA.out.fr0 hW)
  have HDN : Hid (∀ W : World, Fr (fun _ => False) w W → Calls Try.prog 30 #[.pointer (some ⟨g, 0, none⟩)] W (fun e w' => e = .returned (.bool d.down) ∧ w' = W)) := fun W hW => down_any (HA.out.fr0 hW)
  have HRN : Hid (∀ W : World, Fr (fun _ => False) w W → Calls Try.prog 54 #[.pointer (some ⟨gr, 0, none⟩)] W (fun e w' => e = .returned (.bool d.down) ∧ w' = W)) := fun W hW => rdown_any (HB.out.fr0 hW)
  have HDO : Hid (∀ W : World, Fr (fun _ => False) w W → Calls Try.prog 31 #[.pointer (some ⟨g, 0, none⟩)] W (fun e w' => e = .returned (.int .i64 d.done) ∧ w' = W)) := fun W hW => done_any (HA.out.fr0 hW)
  have HLO : Hid (∀ W : World, Fr (fun _ => False) w W → Calls Try.prog 27 #[.pointer (some ⟨g, 0, none⟩)] W (LoosePost W l)) := fun W hW => by rw [hl]; exact loose_any (HA.out.fr0 hW)
  have HLR : Hid (∀ W : World, Fr (fun _ => False) w W → Calls Try.prog 21 #[.pointer (some ⟨gr, 0, none⟩)] W (LoosePost W l)) := fun W hW => rloose_any (HB.out.fr0 hW) hputs l hl
  have HRD : Hid (∀ W : World, Fr (fun _ => False) w W → ∀ i : Int, Calls Try.prog 24 #[.pointer (some ⟨g, 0, none⟩), .int .i64 i] W (ReadPost W (d.readB i) (d.readE i))) := fun W hW i => read_any (HA.out.fr0 hW) i
  have HRR : Hid (∀ W : World, Fr (fun _ => False) w W → ∀ i : Int, Calls Try.prog 70 #[.pointer (some ⟨gr, 0, none⟩), .int .i64 i] W (ReadPost W (d.readB i) (d.readE i))) := fun W hW i => rread_any (HB.out.fr0 hW) hputs i
  have HF : Hid (Fr (fun _ => False) w w) := Fr.refl _ _
  have HC : Hid (w.cell? ⟨gr, 0, none⟩ = some (.slice (some ⟨sb, 0, none⟩) d.F.length d.F.length)) := c0
  clear ha hin hl hputs HA HB
  obtain ⟨n, hn⟩ : ∃ n, d.F.length = n := ⟨_, rfl⟩
  rw [hn] at HS HSZ HC c0 hfew
  obtain ⟨dn, hdn⟩ : ∃ dn, d.down = dn := ⟨_, rfl⟩
  rw [hdn] at HDN HRN
  obtain ⟨nd, hnd⟩ : ∃ nd, d.done = nd := ⟨_, rfl⟩
  rw [hnd] at HS HDO c3
  clear hn hdn hnd
  go_enter Try.func33, Try.ntmps33
  go_upto_region 1 with fail
  clear c0 c3
  go_region_held3 (fun W => W.cell? ⟨gr, 0, none⟩ = some (.slice (some ⟨sb, 0, none⟩) n n) ∧ W.cell? ⟨gr, 3, none⟩ = some (.int .i64 nd))
    (first | exact HS.out _ HF.out | exact HS.out _ HF.out.drew)
    (first
      | (go_at_call 34; refine (HSZ.out _ (by first | exact HF.out | exact HF.out.drew)).mono ?_; rintro e wn ⟨rfl, hw⟩; have HF : Hid (Fr (fun _ => False) w wn) := (by rw [hw]; first | exact HF.out | exact HF.out.drew); clear hw)
      | (go_at_call 30; refine (HDN.out _ (by first | exact HF.out | exact HF.out.drew)).mono ?_; rintro e wn ⟨rfl, hw⟩; have HF : Hid (Fr (fun _ => False) w wn) := (by rw [hw]; first | exact HF.out | exact HF.out.drew); clear hw)
      | (go_at_call 54; refine (HRN.out _ (by first | exact HF.out | exact HF.out.drew)).mono ?_; rintro e wn ⟨rfl, hw⟩; have HF : Hid (Fr (fun _ => False) w wn) := (by rw [hw]; first | exact HF.out | exact HF.out.drew); clear hw)
      | (go_at_call 31; refine (HDO.out _ (by first | exact HF.out | exact HF.out.drew)).mono ?_; rintro e wn ⟨rfl, hw⟩; have HF : Hid (Fr (fun _ => False) w wn) := (by rw [hw]; first | exact HF.out | exact HF.out.drew); clear hw)
      | (go_at_call 27; refine (HLO.out _ (by first | exact HF.out | exact HF.out.drew)).mono ?_; rintro e wn ⟨vl, rfl, hol, hf⟩; obtain ⟨AL, cl, rfl⟩ := own_slice hol; have HF : Hid (Fr (fun _ => False) w wn) := (by first | exact HF.out.trans hf (fun _ _ h => h) | exact HF.out.drew.trans hf (fun _ _ h => h)); have HOL : Hid (∀ W : World, Fr (fun _ => False) wn W → W.ownsRow 0 48 2 (.slice AL l.length cl) l.length (l.flatMap Lo.cells)) := (fun W hW => own_base (hW.own0 hol)); clear hol hf)
      | (go_at_call 21; refine (HLR.out _ (by first | exact HF.out | exact HF.out.drew)).mono ?_; rintro e wm ⟨vm, rfl, hom, hf⟩; obtain ⟨AM, cm, rfl⟩ := own_slice hom; have HOL1 := HOL.out wm hf; have HOM := own_base hom; have HSL := Lib.hid (sameLoose_any HOL1 HOM HLL.out); have HF : Hid (Fr (fun _ => False) w wm) := (by first | exact HF.out.trans hf (fun _ _ h => h) | exact HF.out.drew.trans hf (fun _ _ h => h)); clear hom hf HOL1 HOM)
      | (go_at_call 69; refine HSL.out.mono ?_; rintro e wn ⟨rfl, hf⟩; have HF : Hid (Fr (fun _ => False) w wn) := (by first | exact HF.out.trans hf (fun _ _ h => h) | exact HF.out.drew.trans hf (fun _ _ h => h)); clear hf))
  clear HSZ HDN HRN HDO HLO HLR HS HLL
  go_wp2_with fail
  go_loopw [5] (fun k wr => ∃ i : Int, -1 ≤ i ∧ i ≤ n + 1 ∧ k = .int .i64 i ∧ Hid (Fr (fun _ => False) w wr)) (fun k _ => ((n : Int) + 1 - intOf k).toNat)
  case atStart => exact ⟨-1, by omega, by omega, rfl, HF.out.drewN 0⟩
  case round =>
    clear HF
    obtain ⟨i, hi1, hi2, rfl, HF⟩ := hrel
    have c0 := HF.out.cell0 HC.out
    by_cases hlt : i ≤ n
    · obtain ⟨b, hb⟩ : ∃ b, d.readB i = b := ⟨_, rfl⟩
      obtain ⟨r, hr⟩ : ∃ r, d.readE i = r := ⟨_, rfl⟩
      have r1 := HRD.out wr HF.out i
      have r2 := fun (W : World) (hW : Fr (fun _ => False) wr W) => HRR.out W (HF.out.trans hW (fun _ _ h => h)) i
      rw [hb, hr] at r1
      simp only [hb, hr] at r2
      have R1 := Lib.hid r1
      have R2 := Lib.hid r2
      clear r1 r2 hb hr
      go_wp2_with fail
      refine R1.out.mono ?_
      rintro e w8 ⟨v8, rfl, ho8, hF8⟩
      obtain ⟨RA, rc, rfl⟩ := own_slice ho8
      have HO8 := Lib.hid ho8
      have HF8 := Lib.hid hF8
      clear ho8 hF8
      go_wp2_with fail
      refine (R2.out w8 HF8.out).mono ?_
      rintro e w9 ⟨v9, rfl, ho9, hF9⟩
      obtain ⟨QA, qc, rfl⟩ := own_slice ho9
      have k1 := str_any (hF9.own0 HO8.out)
      have k2 := str_any ho9
      have HF9 := Lib.hid ((HF.out.trans HF8.out (fun _ _ h => h)).trans hF9 (fun _ _ h => h))
      generalize strOfNums b = t at k1 k2
      generalize b.length = bl at *
      clear ho9 hF9 HF8 HO8
      go_wp2_with fail
      exact ⟨⟨i + 1, by omega, by omega, by go_num, HF9⟩, by simp [intOf]; omega⟩
    · have hii : ¬ i ≤ (n : Int) := hlt
      go_wp2_with fail
      go_ret
      exact ⟨rfl, HF.out⟩
end Go.Proofs.Ytdamegjhdopfaaa
