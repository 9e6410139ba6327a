/- A disk: Flush's walk. -/
import Derived.Test.YtdamegjhdopfaaaD19
namespace Go.Proofs.Ytdamegjhdopfaaa
open Go.RowKit Go.WideShapes
set_option linter.unusedSimpArgs false
set_option linter.unusedVariables false

def Dk.flushE (d : Dk) : Int := if d.down then 30 else 0
def Dk.flush (d : Dk) : Dk := if d.down then d else d.flushed.tick
def FlushPost (w : World) (g : Nat) (T : Nat → Prop) (d' : Dk) (r : Int) (e : Ending) (w' : World) : Prop :=
  e = .returned (.int .i64 r) ∧ DkAt w' g T d' ∧ Fr T w w'
def FlInv (w0 : World) (g : Nat) (FA : Option Addr) (fc bm km : Nat) (hd : Int → Hd) (d : Dk) (T : Nat → Prop) (ss : List Int) (j : Nat) (wr : World) : Prop :=
  ∃ Dj hdj, DkIn wr g FA fc bm km Dj hdj (d.part (ss.take j)) ∧ (∀ i k, (hdj i).v.ownBlock = some k → (hd i).v.ownBlock = some k) ∧ Fr T w0 wr

set_option maxRecDepth 100000 in
set_option maxHeartbeats 4000000 in
theorem flush_any {w : World} {g : Nat} {T : Nat → Prop} {d : Dk} (h : DkAt w g T d) (hdone : d.done ≤ 1000000000) (hputs : d.puts ≤ 1000000) : Calls Try.prog 28 #[.pointer (some ⟨g, 0, none⟩)] w (FlushPost w g T d.flush d.flushE) := by
  have H := Lib.hid h
  have HDO := Lib.hid hdone
  have HPU := Lib.hid hputs
  clear h hdone hputs
  go_enter Try.func28, Try.ntmps28
  go_wp2_with fail
  refine (up_any H.out).mono ?_
  rintro e w1 ⟨rfl, rfl⟩
  cases hdn : d.down with
  | true =>
    have hup : d.up = 30 := by simp [Dk.up, hdn]
    have HE : Hid (FlushPost w1 g T d.flush d.flushE (.returned (.int .i64 30)) w1) := ⟨by simp [Dk.flushE, hdn], by unfold Dk.flush; rw [if_pos hdn]; exact H.out, Fr.refl _ _⟩
    rw [hup]
    clear hdn hup
    go_wp2_with fail
    go_ret
    exact HE.out
  | false =>
    have hup : d.up = 0 := by simp [Dk.up, hdn]
    have hfl : d.flush = d.flushed.tick := by unfold Dk.flush; rw [hdn]; simp
    have hfe : d.flushE = 0 := by unfold Dk.flushE; rw [hdn]; simp
    rw [hup]
    have HFL := Lib.hid hfl
    have HFE := Lib.hid hfe
    clear hup hdn hfl hfe
    obtain ⟨FA, fc, bm, km, Dm, hd, h1, h2, h3⟩ := H.out
    have H1 := Lib.hid h1
    have H2 := Lib.hid h2
    have H3 := Lib.hid h3
    have c1 : w1.cell? ⟨g, 1, none⟩ = some (.map (some bm)) := blk_cell h1.box 1
    obtain ⟨fg, hfg⟩ := own_some h1.row h1.pos
    have HFG := Lib.hid hfg
    have hsz : Maps.size Dm ≤ 1000000 := by have := h1.map.size_le; have := h1.kms; have := HPU.out; omega
    have hco := collect_any h1.map hsz
    have HCO := Lib.hid hco
    clear h1 h2 h3 hfg hsz hco
    go_wp2_with fail
    refine (keys_any bm w1).mono ?_
    rintro e w2 ⟨rfl, rfl⟩
    go_wp2_with fail
    refine HCO.out.mono ?_
    rintro e w3 ⟨v, ss, rfl, hp, hrow, hF3⟩
    obtain ⟨SA, sc, rfl⟩ := own_slice hrow
    obtain ⟨hnd, hmem⟩ := key_facts H1.out hp
    have HF3 : Hid (Fr (fun _ => False) w1 w3) := ((Fr.refl (fun _ => False) w1).alloc _).trans hF3 (fun _ _ h => h)
    have HND := Lib.hid hnd
    have HMEM := Lib.hid hmem
    have HROW := Lib.hid hrow
    have hsb : ∀ k, (Value.slice SA ss.length sc).ownBlock = some k → ¬ T k := fun k hk ht => by
      have h1 := (hrow.lt k hk).1
      have h2 := H3.out k ht
      simp at h1
      omega
    have HSB := Lib.hid hsb
    have hsl : (ss.length : Int) ≤ 1000000 := by
      have h1 := hp.length_eq
      have h2 : (Go.intKeys Dm).length = Maps.size Dm := by
        obtain ⟨es, e, _⟩ := H1.out.map.entries Try.intKeyed
        subst e
        simp [Go.intKeys, Maps.size]
      have := H1.out.map.size_le
      have := H1.out.kms
      have := HPU.out
      omega
    have HI : Hid (FlInv w3 g FA fc bm km hd d T ss 0 w3) := ⟨Dm, hd, by rw [List.take_zero, part_nil]; exact H1.out.fr0 HF3.out, fun i k hk => hk, Fr.refl _ _⟩
    clear hp hrow hF3 hnd hmem hsb HCO c1
    go_wp2_with fail
    go_loopw [18] (fun k wr => ∃ j : Nat, j ≤ ss.length ∧ k = .int .i64 j ∧ Hid (FlInv w3 g FA fc bm km hd d T ss j wr)) (fun k _ => ss.length - (intOf k).toNat)
    case atStart => exact ⟨0, by omega, rfl, HI⟩
    case round =>
      clear HI
      obtain ⟨j, hj, rfl, HI⟩ := hrel
      rcases Nat.lt_or_ge j ss.length with hlt | hlt
      · have hji : (j : Int) < ss.length := by omega
        obtain ⟨x, hx⟩ : ∃ x, ss[j]? = some x := ⟨_, List.getElem?_eq_getElem hlt⟩
        have hxm : x ∈ ss := List.mem_of_getElem? hx
        obtain ⟨hx0, hxl⟩ := H1.out.within x ((HMEM.out x).1 hxm)
        obtain ⟨p, rfl⟩ := Int.eq_ofNat_of_zero_le hx0
        have hpl : p < d.F.length := by omega
        have hpn : (p : Int) ∉ ss.take j := fun hin => by
          obtain ⟨i, hi⟩ := List.getElem?_of_mem hin
          have hij : i < j := by have := (List.getElem?_eq_some_iff.1 hi).1; simp at this; omega
          rw [List.getElem?_take_of_lt hij] at hi
          have := (List.getElem?_inj (by omega) HND.out).1 (hi.trans hx.symm)
          omega
        have htk : ss.take (j + 1) = ss.take j ++ [(p : Int)] := by rw [List.take_add_one, hx]; rfl
        obtain ⟨Dj, hdj, hin, hfo, hFr⟩ := HI.out
        obtain ⟨sg, hsg⟩ := own_some HROW.out (by omega)
        subst hsg
        have y0 : wr.cell? ⟨sg, j, none⟩ = some (.int .i64 (p : Int)) := by
          have h0 := (own_news HROW.out).1 _ rfl j (.int .i64 (p : Int)) (by rw [List.getElem?_map, hx]; rfl)
          rw [add_some, Nat.zero_add] at h0
          exact hFr.cell h0 (HSB.out sg rfl)
        have hat : DkAt wr g T (d.part (ss.take j)) := ⟨FA, fc, bm, km, Dj, hdj, hin, fun k hk => by
          rcases hk with hk | hk | hk | ⟨i, hk⟩
          · exact H2.out k (.inl hk)
          · exact H2.out k (.inr (.inl hk))
          · exact H2.out k (.inr (.inr (.inl hk)))
          · exact H2.out k (.inr (.inr (.inr ⟨i, hfo i k hk⟩))), fun k hk => by have := H3.out k hk; have := HF3.out.size; have := hFr.size; omega⟩
        have hplen := part_len d (ss.take j)
        have hc0 : wr.cell? ⟨g, 0, none⟩ = some (.slice (some ⟨fg, 0, none⟩) d.F.length fc) := by have := blk_cell hin.box 0; rw [hplen, HFG.out] at this; exact this
        have hsec := at_len hat p (by rw [hplen]; exact hpl)
        have hpa := part_at d (ss.take j) p hpn hpl
        have hst : ∀ W : World, Fr (fun _ => False) wr W → Calls Try.prog 60 #[.pointer (some ⟨g, 0, none⟩), .int .i64 (p : Int)] W (fun e w' => e = .returned (.agg (by8 (d.at p)).toArray) ∧ Fr (fun _ => False) W w') := fun W hW => by
          have := stands_any (hat.fr0 hW) p (by rw [hplen]; exact hpl)
          rw [hpa] at this
          exact this
        rw [hpa] at hsec
        obtain ⟨cur, hcur, hcl⟩ := own_cur (show wr.ownsRow 0 106 128 (.slice (some ⟨fg, 0, none⟩) (d.part (ss.take j)).F.length fc) _ _ from HFG.out ▸ hin.row)
        have hfit : p * 128 + (by8 (d.at p)).length ≤ cur.length := by
          rw [by8_len, hsec.1, hcl]
          have := own_cap hin.row
          have : (p + 1) * 128 ≤ fc * 128 := Nat.mul_le_mul_right _ (by omega)
          omega
        have hth : ∀ W : World, Fr (fun _ => False) wr W → W.there fg (p * 128) (by8 (d.at p)).length := fun W hW => there_blk (hW.blk0 hcur) hfit
        have hgf : g ≠ fg := fun e => own_ne hin.row hin.box (by decide) (by rw [HFG.out, e]; rfl)
        have HS : Hid (∀ W : World, Fr (fun k => k = fg) wr W → W.cell? ⟨g, 0, none⟩ = some (.slice (some ⟨fg, 0, none⟩) d.F.length fc)) := fun W hW => hW.cell hc0 hgf
        have HST := Lib.hid hst
        have HTH := Lib.hid hth
        have HSEC := Lib.hid hsec
        have HCUR := Lib.hid hcur
        have HFIT := Lib.hid hfit
        have HIN := Lib.hid hin
        have HFO := Lib.hid hfo
        have HFR := Lib.hid hFr
        have HPN := Lib.hid hpn
        have HTK := Lib.hid htk
        have HF : Hid (Fr (fun _ => False) wr wr) := Fr.refl _ _
        obtain ⟨s, hs⟩ : ∃ s, s = d.at p := ⟨_, rfl⟩
        rw [← hs] at HST HTH HSEC HFIT
        have HSS := Lib.hid hs
        clear hx hxm hx0 hxl hpn htk hin hfo hFr hat hplen hc0 hsec hpa hst hcur hcl hfit hth hgf hs HI
        obtain ⟨nF, hnF⟩ : ∃ nF, d.F.length = nF := ⟨_, rfl⟩
        have HNF := Lib.hid hnF
        rw [hnF] at HS hpl
        clear hnF
        go_upto_region 7 with (fail)
        clear y0
        have hone := by8_one s
        have hinf : (Try.prog.info? 106).map (·.size) = some (by8 s).length := by rw [sec_info, by8_len, HSEC.out.1]
        go_region_held_law (fun W => W.cell? ⟨g, 0, none⟩ = some (.slice (some ⟨fg, 0, none⟩) nF fc))
          (first | exact HS.out _ HF.out.none | exact HS.out _ HF.out.drew.none | exact HS.out _ (HF.out.none.trans (setCells_fr _ _ _ _) (fun _ _ h => h)))
          (first | (go_at_call 60; refine (HST.out _ (by first | exact HF.out | exact HF.out.drew)).mono ?_; rintro e wn ⟨rfl, hf⟩; have HF : Hid (Fr (fun _ => False) wr wn) := (by first | exact HF.out.trans hf (fun _ _ h => h) | exact HF.out.drew.trans hf (fun _ _ h => h)); have hth := HTH.out wn HF.out; clear hf))
        have hwn := HF.out
        have hFs := setCells_fr fg (by8 s) (p * 128) wn
        have hcur6 := setCells_blk (by8 s) (p * 128) wn fg cur 106 (hwn.blk0 HCUR.out) HFIT.out
        generalize wn.setCells fg (p * 128) (by8 s) = w6 at *
        have hF6 : Fr (fun k => k = fg) wr w6 := hwn.none.trans hFs (fun _ _ h => h)
        have hdpl : (d.part (ss.take j)).F.length = nF := (part_len d _).trans HNF.out
        obtain ⟨s0, hs0⟩ : ∃ s0, (d.part (ss.take j)).F[p]? = some s0 := ⟨_, List.getElem?_eq_getElem (by rw [hdpl]; exact hpl)⟩
        have hrow := HIN.out.row
        rw [HFG.out] at hrow
        have ho6 := own_splice (w' := w6) (hwn.own0 hrow) rfl (fun x hx => (HIN.out.secs x hx).1) (hwn.blk0 HCUR.out) hs0 (t := s) (by rw [HSEC.out.1]; omega) hcur6
        rw [List.drop_eq_nil_of_le (by rw [HSEC.out.1, (HIN.out.secs s0 (List.mem_of_getElem? hs0)).1]; omega), List.append_nil] at ho6
        have hin6 := HIN.out.fixedAt HFG.out (i := p) s HSEC.out hF6 (by rw [HFG.out]; exact ho6)
        have hwf : (Lit.int .i64 (p : Int)).wf = true := by have := HIN.out.few; simp [Lit.wf, show IntKind.i64.min = -9223372036854775808 from rfl, show IntKind.i64.max = 9223372036854775807 from rfl]; omega
        obtain ⟨w7, hdrop, hown7, hturn⟩ := hin6.map.drop Try.intKeyed Try.underlying72 (key_int hwf) 0
        have hin7 := hin6.dropped (p : Int) hown7 (fr_turned hturn)
        have c1 : w6.cell? ⟨g, 1, none⟩ = some (.map (some bm)) := blk_cell hin6.box 1
        have hF7 : Fr T w3 w7 := (HFR.out.trans hF6 (fun k _ e => by rw [e]; exact H2.out fg (.inr (.inr (.inl (by rw [HFG.out]; rfl)))))).trans (fr_turned hturn) (fun k _ e => by rw [e]; exact H2.out bm (.inr (.inl rfl)))
        have hstep := part_step d (ss.take j) p HPN.out (by rw [HNF.out]; exact hpl)
        rw [← HSS.out] at hstep
        have hend : FlInv w3 g FA fc bm km hd d T ss (j + 1) w7 := ⟨_, _, by rw [HTK.out, ← hstep]; exact hin7, fun i k hk => by
          unfold setHd at hk
          split at hk
          · cases hk
          · exact HFO.out i k hk, hF7⟩
        have HEND := Lib.hid hend
        clear hwn hFs hcur6 hF6 hdpl hs0 hrow ho6 hin6 hown7 hturn hin7 hF7 hstep hend hone hinf hwf hth
        go_wp2_with fail
        exact ⟨⟨j + 1, by omega, by go_num, HEND⟩, by simp [intOf]; omega⟩
      · have hji : ¬ (j : Int) < ss.length := by omega
        have hje : j = ss.length := by omega
        obtain ⟨Dj, hdj, hin, hfo, hFr⟩ := HI.out
        rw [hje, List.take_length, part_all d ss HMEM.out] at hin
        have hat : DkAt wr g T d.flushed := ⟨FA, fc, bm, km, Dj, hdj, hin, fun k hk => by
          rcases hk with hk | hk | hk | ⟨i, hk⟩
          · exact H2.out k (.inl hk)
          · exact H2.out k (.inr (.inl hk))
          · exact H2.out k (.inr (.inr (.inl hk)))
          · exact H2.out k (.inr (.inr (.inr ⟨i, hfo i k hk⟩))), fun k hk => by have := H3.out k hk; have := HF3.out.size; have := hFr.size; omega⟩
        have HAT := Lib.hid hat
        have HFR : Hid (Fr T w1 wr) := HF3.out.none.trans hFr (fun _ _ h => h)
        have HTG : Hid (T g) := H2.out g (.inl rfl)
        clear hje hin hfo hFr hat HI
        go_wp2_with fail
        refine (told_any HAT.out HDO.out).mono ?_
        rintro e w8 ⟨rfl, hat8, hF8⟩
        have HAT8 := Lib.hid hat8
        have HF8 := Lib.hid hF8
        clear hat8 hF8
        go_wp2_with fail
        go_ret
        show FlushPost w1 g T d.flush d.flushE _ _
        rw [HFL.out, HFE.out]
        exact ⟨rfl, HAT8.out, HFR.out.trans HF8.out (fun k _ e => by rw [e]; exact HTG.out)⟩
end Go.Proofs.Ytdamegjhdopfaaa
