/- The document's disk: Flush. -/
import Derived.Test.YtdamegjhdopfaaaF1
import Derived.BigRegion
namespace Go.Proofs.Ytdamegjhdopfaaa
open Go.RowKit Go.WideShapes
set_option linter.unusedSimpArgs false
set_option linter.unusedVariables false

def RFlushPost (w : World) (g : Nat) (T : Nat → Prop) (d' : Dk) (r : Int) (e : Ending) (w' : World) : Prop :=
  e = .returned (.int .i64 r) ∧ RdAt w' g T d' ∧ Fr T w w'
/-- so much is flushed -/
def RFl (w : World) (g sb : Nat) (U : Nat → Prop) (d : Dk) (i : Nat) (wr : World) : Prop :=
  ∃ ps hs, (∀ x : Int, x ∈ ps ↔ (0 ≤ x ∧ x < i ∧ d.L x ≠ [])) ∧ RdIn wr g sb U hs (d.part ps) ∧ Fr (fun q => q = sb) w wr
theorem RFl.drew {w wr : World} {g sb : Nat} {U : Nat → Prop} {d : Dk} {i : Nat} (h : RFl w g sb U d i wr) : RFl w g sb U d i wr.drew := by
  obtain ⟨ps, hs, h1, h2, h3⟩ := h
  exact ⟨ps, hs, h1, h2.fr ((Fr.refl (fun _ => False) wr).drew) (fun h => h) (fun h => h) (fun _ _ h => h), h3.drew⟩
theorem RFl.skip {w wr : World} {g sb : Nat} {U : Nat → Prop} {d : Dk} {i : Nat} (h : RFl w g sb U d i wr) (h0 : d.L (i : Int) = []) : RFl w g sb U d (i + 1) wr := by
  obtain ⟨ps, hs, h1, h2, h3⟩ := h
  refine ⟨ps, hs, fun x => (h1 x).trans ⟨fun hx => ⟨hx.1, by have := hx.2.1; omega, hx.2.2⟩, fun hx => ⟨hx.1, ?_, hx.2.2⟩⟩, h2, h3⟩
  have h4 := hx.2.1
  rcases Int.lt_or_le x (i : Int) with h5 | h5
  · exact h5
  · have : x = (i : Int) := by omega
    rw [this] at hx
    exact absurd h0 hx.2.2
theorem RFl.step {w wr : World} {g sb : Nat} {U : Nat → Prop} {d : Dk} {i : Nat} {ps : List Int} {hs : List Oh} (h1 : ∀ x : Int, x ∈ ps ↔ (0 ≤ x ∧ x < i ∧ d.L x ≠ [])) (h2 : RdIn wr g sb U hs (d.part ps)) (h3 : Fr (fun q => q = sb) w wr) (hi : i < d.F.length) {o : Oh} (ho : hs[i]? = some o)
    {PA : Option Addr} {pc : Nat} (hL : d.L (i : Int) ≠ []) (hr : ReadV U wr PA (d.at i)) :
    RFl w g sb U d (i + 1) ((wr.setCell ⟨sb, i * 2, none⟩ (.slice PA 128 pc)).setCell ⟨sb, i * 2 + 1, none⟩ (.slice none 0 0)) := by
  have hni : (i : Int) ∉ ps := fun h => by have := ((h1 _).1 h).2.1; omega
  have hF : Fr (fun q => q = sb) wr ((wr.setCell ⟨sb, i * 2, none⟩ (.slice PA 128 pc)).setCell ⟨sb, i * 2 + 1, none⟩ (.slice none 0 0)) := setg_fr (setg_fr (Fr.refl _ _) _ _) _ _
  have hi' : i < (d.part ps).F.length := by rw [part_len]; exact hi
  have hil : i < hs.length := by rw [h2.len]; exact hi'
  have hrow1 := sb_set0 h2.row ho PA 128 pc
  have hrow2 := sb_set1 hrow1 (o := { o with fa := PA, fn := 128, fc := pc }) (List.getElem?_set_self hil) none 0 0
  rw [List.set_set] at hrow2
  refine ⟨ps ++ [(i : Int)], hs.set i ⟨PA, 128, pc, none, 0, 0⟩, fun x => ?_, ?_, h3.trans hF (fun _ _ h => h)⟩
  · rw [List.mem_append, List.mem_singleton, h1]
    constructor
    · rintro (hx | rfl)
      · exact ⟨hx.1, by have := hx.2.1; omega, hx.2.2⟩
      · exact ⟨by omega, by omega, hL⟩
    · intro hx
      by_cases e : x = (i : Int)
      · exact .inr e
      · exact .inl ⟨hx.1, by have := hx.2.1; omega, hx.2.2⟩
  · have hp := h2.pure
    have hq : (d.part (ps ++ [(i : Int)])).Pure := by
      rw [← part_step d ps i hni hi]
      have hat : Sec (d.at i) := by
        rw [← part_at d ps i hni hi]
        exact hp.at i hi'
      refine ⟨fun s hs => ?_, by simp; exact hp.pos, by simp; exact hp.few, fun k s hs => ?_, fun k hk => ?_, fun k => ?_, hp.dones, hp.fuses, hp.dw⟩
      · rcases List.mem_or_eq_of_mem_set hs with h | h
        · exact hp.secs s h
        · rw [h]; exact hat
      · have hs' : s ∈ (if k = (i : Int) then [] else (d.part ps).L k) := hs
        split at hs'
        · cases hs'
        · exact hp.lsecs k s hs'
      · have hk' : (if k = (i : Int) then [] else (d.part ps).L k) ≠ [] := hk
        split at hk'
        · exact absurd rfl hk'
        · simpa using hp.within k hk'
      · show (if k = (i : Int) then [] else (d.part ps).L k).length ≤ _
        split
        · exact Nat.zero_le _
        · exact hp.lens k
    refine h2.put hi' _ _ hF hrow2 (by rw [part_len, part_len]) rfl rfl (fun j hj => ?_) ?_ (fun _ h => h) h2.ug h2.us hq
    · rw [← part_step d ps i hni hi]
      have hj' : ¬ (j : Int) = (i : Int) := by omega
      exact ⟨by simp [List.getD, List.getElem?_set_ne (Ne.symm hj)], by simp [hj']⟩
    · rw [← part_step d ps i hni hi]
      refine ⟨rfl, by simp, ?_, by simpa using ReadVV.nil⟩
      have e1 : ((d.part ps).F.set i (d.at i)).getD i [] = d.at i := by simp [List.getD, List.getElem?_set_self hi']
      show ReadV U _ PA (((d.part ps).F.set i (d.at i)).getD i [])
      rw [e1]
      exact hr.fr hF (fun k hk e => h2.us (by rw [← e]; exact hk))

set_option maxRecDepth 100000 in
set_option maxHeartbeats 2000000 in
theorem rflush_any {w : World} {g : Nat} {T : Nat → Prop} {d : Dk} (h : RdAt w g T d) (hdone : d.done ≤ 1000000000) (hputs : d.puts ≤ 1000000) : Calls Try.prog 65 #[.pointer (some ⟨g, 0, none⟩)] w (RFlushPost w g T d.flush d.flushE) := by
  have H := Lib.hid h
  obtain ⟨sb, U, hs0, h1, h2, h3, h4, h5⟩ := h
  have HP := Lib.hid h1.pure
  have J0 : Hid (RFl w g sb U d 0 w) := ⟨[], hs0, fun x => ⟨fun h => (by cases h), fun h => absurd h.2.1 (by have := h.1; omega)⟩, by rw [part_nil]; exact h1, Fr.refl _ _⟩
  have H4 := Lib.hid h4
  have H5 := Lib.hid h5
  have HG := Lib.hid h2
  have HS := Lib.hid h3
  have HDO := Lib.hid hdone
  have HPU := Lib.hid hputs
  have hne := h1.ne
  clear h1 h2 h3 h4 h5 hdone hputs
  go_enter Try.func65, Try.ntmps65
  go_wp2_with fail
  refine (rdown_any H.out).mono ?_
  rintro e w1 ⟨rfl, rfl⟩
  cases hdn : d.down with
  | true =>
    have HE : Hid (RFlushPost w1 g T d.flush d.flushE (.returned (.int .i64 30)) w1) := by
      unfold Dk.flush Dk.flushE
      rw [hdn]
      exact ⟨rfl, H.out, Fr.refl _ _⟩
    clear hdn
    go_wp2_with fail
    go_ret
    exact HE.out
  | false =>
    have HFE : Hid (d.flushE = 0 ∧ d.flush = d.flushed.tick ∧ d.down = false) := (by unfold Dk.flush Dk.flushE; rw [hdn]; exact ⟨rfl, rfl, rfl⟩ : d.flushE = 0 ∧ d.flush = d.flushed.tick ∧ d.down = false)
    clear hdn
    go_wp2_with fail
    go_loopw [3] (fun k wr => ∃ i : Nat, i ≤ d.F.length ∧ k = .int .i64 i ∧ Hid (RFl w1 g sb U d i wr)) (fun k _ => d.F.length - (intOf k).toNat)
    case atStart => exact ⟨0, by omega, rfl, J0⟩
    case round =>
      clear J0
      obtain ⟨i, hi, rfl, J⟩ := hrel
      obtain ⟨ps, hs, hps, hin, hfr⟩ := J.out
      have hfew := HP.out.few
      have hpl := part_len d ps
      have c0 : wr.cell? ⟨g, 0, none⟩ = some (.slice (some ⟨sb, 0, none⟩) d.F.length d.F.length) := by have := blk_cell hin.box 0; rw [hpl] at this; exact this
      rcases Nat.lt_or_ge i d.F.length with hlt | hlt
      · have hii : (i : Int) < d.F.length := by omega
        have hni : (i : Int) ∉ ps := fun h => by have := ((hps _).1 h).2.1; omega
        have hLi : (d.part ps).L (i : Int) = d.L (i : Int) := if_neg hni
        obtain ⟨o, ho, his, z0, z1⟩ := hin.cells (i := i) (by rw [hpl]; exact hlt)
        rw [hLi] at z1
        have f0 := blk_frozen hin.row (i * 2)
        have f1 := blk_frozen hin.row (i * 2 + 1)
        cases hL : d.L (i : Int) with
        | nil =>
          have HN := Lib.hid (J.out.skip hL)
          rw [hL] at z1
          simp only [List.length_nil] at z1
          clear hps hin hfr hpl hni hLi ho his z0 f0 f1 hL
          go_wp2_with fail
          exact ⟨⟨i + 1, by omega, by go_num, HN⟩, by simp [intOf]; omega⟩
        | cons x0 r0 =>
          obtain ⟨m, hm⟩ : ∃ m, (d.L (i : Int)).length = m + 1 := ⟨r0.length, by rw [hL]; simp⟩
          obtain ⟨x, hx⟩ : ∃ x, (d.L (i : Int))[m]? = some x := ⟨_, List.getElem?_eq_getElem (by omega)⟩
          have hml : m + 1 ≤ 1000000 := by have := HP.out.lens (i : Int); have := HPU.out; omega
          have hat : d.at i = x := by
            unfold Dk.at
            rw [List.getLast?_eq_getElem?, hm, Nat.add_sub_cancel, hx]
            rfl
          have hv := his.2.2.2
          rw [hLi] at hv
          obtain ⟨lg, lo, PA, pc, hla, hlu, hpc, hpr⟩ := hv m x hx
          rw [hla] at z1
          rw [hm] at z1
          have HN := Lib.hid (RFl.step hps hin hfr hlt ho (PA := PA) (pc := pc) (by rw [hL]; simp) (by rw [hat]; exact hpr))
          have hm0 : (0 : Int) < ((m + 1 : Nat) : Int) := by omega
          have hm1 : ((m + 1 : Nat) : Int) - 1 = m := by omega
          have hm2 : (m : Int) < ((m + 1 : Nat) : Int) := by omega
          clear hps hin hfr hpl hni hLi ho his hL hat hv hla hlu hpr hx hm J
          go_upto_region 10 with fail
          go_region
          go_wp2_with fail
          exact ⟨⟨i + 1, by omega, by go_num, HN.out.drew⟩, by simp [intOf]; omega⟩
      · have hii : ¬ (i : Int) < d.F.length := by omega
        obtain rfl : i = d.F.length := by omega
        rw [part_all d ps (fun x => (hps x).trans ⟨fun hx => hx.2.2, fun hx => by have := HP.out.within x hx; exact ⟨this.1, this.2, hx⟩⟩)] at hin
        have HAT : Hid (RdAt wr g T d.flushed) := ⟨sb, U, hs, hin, HG.out, HS.out, H4.out, fun k hk => Nat.lt_of_lt_of_le (H5.out k hk) hfr.size⟩
        have HFR : Hid (Fr T w1 wr) := hfr.mono (fun k _ e => by rw [e]; exact HS.out)
        clear hps hin hfr hpl J
        go_wp2_with fail
        refine (rdone_any HAT.out HFE.out.2.2 HDO.out).mono ?_
        rintro e w8 ⟨rfl, hat8, hF8⟩
        have HE : Hid (RFlushPost w1 g T d.flush d.flushE (.returned (.int .i64 0)) w8) := by
          rw [HFE.out.1, HFE.out.2.1]
          exact ⟨rfl, hat8, HFR.out.trans hF8 (fun k _ e => by rw [e]; exact HG.out)⟩
        clear hat8 hF8
        go_wp2_with fail
        go_ret
        exact HE.out
end Go.Proofs.Ytdamegjhdopfaaa
