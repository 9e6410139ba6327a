/- A disk: Write's walk. -/
import Derived.Test.YtdamegjhdopfaaaD5
namespace Go.Proofs.Ytdamegjhdopfaaa
open Go.RowKit Go.WideShapes
set_option linter.unusedSimpArgs false

def Dk.writeE (d : Dk) (i : Int) (n : Nat) : Int := if d.down then 30 else if 0 ≤ i ∧ i < d.F.length then (if n = 128 then 0 else 1) else 5
def Dk.write (d : Dk) (i : Int) (b : List Int) : Dk := if d.writeE i b.length = 0 then (d.wr i b).tick else d
def WritePost (w : World) (g : Nat) (T : Nat → Prop) (d' : Dk) (r : Int) (e : Ending) (w' : World) : Prop :=
  e = .returned (.int .i64 r) ∧ ∃ T', DkAt w' g T' d' ∧ Fr T w w' ∧ ∀ k, T' k → T k ∨ w.heap.size ≤ k

set_option maxRecDepth 100000 in
set_option maxHeartbeats 2000000 in
theorem write_any {w : World} {g : Nat} {T : Nat → Prop} {d : Dk} (h : DkAt w g T d) (i : Int) (A : Option Addr) (c : Nat) (b : List Int) (hR : ReadU w A b) (hb : ∀ x ∈ b, 0 ≤ x ∧ x < 256) (hdone : d.done ≤ 1000000000) (hputs : d.puts ≤ 1000000) :
    Calls Try.prog 18 #[.pointer (some ⟨g, 0, none⟩), .int .i64 i, .slice A b.length c] w (WritePost w g T (d.write i b) (d.writeE i b.length)) := by
  have H := Lib.hid h
  have HR := Lib.hid hR
  have HBB := Lib.hid hb
  have HDO := Lib.hid hdone
  have HPU := Lib.hid hputs
  have hsame : ∀ r : Int, d.writeE i b.length = r → r ≠ 0 → WritePost w g T (d.write i b) (d.writeE i b.length) (.returned (.int .i64 r)) w := fun r h1 h2 => by
    unfold Dk.write
    rw [h1, if_neg h2]
    exact ⟨rfl, T, h, Fr.refl _ _, fun k hk => .inl hk⟩
  have HSAME := Lib.hid hsame
  clear h hR hb hdone hputs hsame
  go_enter Try.func18, Try.ntmps18
  go_wp2_with fail
  refine (up_any H.out).mono ?_
  rintro e w1 ⟨rfl, rfl⟩
  cases hdn : d.down with
  | true =>
    have hup : d.up = 30 := by simp [Dk.up, hdn]
    have HE := Lib.hid (HSAME.out 30 (by simp [Dk.writeE, hdn]) (by omega))
    rw [hup]
    clear hdn hup
    go_wp2_with fail
    go_ret
    exact HE.out
  | false =>
    have hup : d.up = 0 := by simp [Dk.up, hdn]
    rw [hup]
    have HDN := Lib.hid hdn
    clear hup hdn
    go_wp2_with fail
    refine (has_any H.out i).mono ?_
    rintro e w1 ⟨rfl, rfl⟩
    by_cases hi : 0 ≤ i ∧ i < d.F.length
    · have hbb : (decide (0 ≤ i) && decide (i < d.F.length)) = true := by simp; omega
      rw [hbb]
      have HI := Lib.hid hi
      clear hbb hi
      by_cases hn : b.length = 128
      · have hni : (b.length : Int) = 128 := by omega
        have hre : d.writeE i b.length = 0 := by unfold Dk.writeE; rw [HDN.out, if_neg (by simp), if_pos HI.out, if_pos hn]
        have hrw : d.write i b = (d.wr i b).tick := by unfold Dk.write; rw [if_pos hre]
        have HRE := Lib.hid hre
        have HRW := Lib.hid hrw
        have HN := Lib.hid hn
        clear hn hre hrw HSAME
        obtain ⟨bn, hbn⟩ : ∃ bn, bn = b.length := ⟨_, rfl⟩
        rw [← hbn] at hni ⊢
        have HN : Hid (b.length = 128 ∧ bn = 128) := ⟨HN.out, hbn.trans HN.out⟩
        clear hbn
--BEGIN
        go_upto_region 9 with (fail)
        obtain ⟨w2, he, hn2, hF2, hs2⟩ := alloc1 w1 (.cells Try.zeroCells106 106)
        rw [he]
        rw [zero_cells] at hn2
        have HN2 := Lib.hid hn2
        have HF2 := Lib.hid hF2
        have HB := Lib.hid hF2.below0
        have HLN : Hid ((by8 b).length = Nat.min bn 128) := (by rw [by8_len, HN.out.1, HN.out.2]; rfl : (by8 b).length = Nat.min bn 128)
        have HFT : Hid (0 + (by8 b).length ≤ (by8 zeroS).length) := (by rw [by8_len, HN.out.1, zero_len]; omega : 0 + (by8 b).length ≤ (by8 zeroS).length)
        have HSRC : Hid (∃ ad, A = some ad ∧ ∀ j v, (by8 b)[j]? = some v → w2.cell? (ad.add j) = some v) := (HR.out.fr hF2 (fun _ _ _ h => h)).news (by rw [HN.out.1]; omega)
        clear he hn2 hF2 hs2
        go_upto_region 10 with (refine wpList_copy_splice rfl _ _ 33 33 rfl 5 Try.underlying33 sec_type _ _ 128 128 bn c rfl rfl w1.heap.size 0 (by8 zeroS) 106 HN2.out (by8 b) HLN.out (fun _ => ⟨rfl, HSRC.out⟩) HFT.out (by8_one b) w1.heap.size w1 HB.out (Nat.le_refl _) ?_; intro w3 hn3 hb3)
        have hn3' := hn3.out
        rw [splice_all _ _ (by rw [zero_len, by8_len, HN.out.1])] at hn3'
        have HF3 : Hid (Fr (fun _ => False) w1 w3) := Fr.of_below hb3 _
        obtain ⟨FA, fc, bm, km, Dm, hd, h1, h2, h3⟩ := H.out
        have H1 := Lib.hid (h1.fr0 HF3.out)
        have H2 := Lib.hid h2
        have H3 := Lib.hid h3
        obtain ⟨r, hr⟩ : ∃ r, r = w1.heap.size := ⟨_, rfl⟩
        have hgr : g ≠ r := by have := h3 g (h2 g (.inl rfl)); omega
        have hmr : bm ≠ r := by have := h3 bm (h2 bm (.inr (.inl rfl))); omega
        have hir : ∀ k, (hd i).v.ownBlock = some k → k ≠ r := fun k hk => by have := h3 k (h2 k (.inr (.inr (.inr ⟨i, hk⟩)))); omega
        rw [← hr] at hn3' ⊢
        have hwf : (Lit.int .i64 i).wf = true := by have := HI.out; have := h1.few; simp [Lit.wf, show IntKind.i64.min = -9223372036854775808 from rfl, show IntKind.i64.max = 9223372036854775807 from rfl]; omega
        have hlook := hd_look H1.out.map H1.out.heads hwf
        have hc1 : w3.cell? ⟨g, 1, none⟩ = some (.map (some bm)) := blk_cell H1.out.box 1
        have hrg : w3.rangeAt r 0 (by8 b) := fun j v hv => by have := cell_row hn3' j v hv; rw [add_some] at this; exact this
        obtain ⟨V, hV⟩ : ∃ V, V = (hd i).v := ⟨_, rfl⟩
        rw [← hV] at hlook
        have hSS : ∀ W : World, Fr (fun k => V.ownBlock = some k) w3 W → W.cell? ⟨g, 1, none⟩ = some (.map (some bm)) ∧ (Instr.lookup 72 (.map (some bm)) (.int .i64 i) false).run Try.prog W = .ok V W ∧ W.rangeAt r 0 (by8 b) := fun W hW =>
          ⟨hW.cell hc1 (fun e => own_ne (H1.out.rows i) H1.out.box (by decide) (by rw [← hV]; exact e.symm)), hlook W (hW.block _ H1.out.map.lt (fun e => own_map (H1.out.rows i) H1.out.map _ (by rw [← hV]; exact e) rfl)), fun j v hv => hW.cell (hrg j v hv) (fun e => hir r (by rw [← hV]; exact e) rfl)⟩
        have HS := Lib.hid hSS
        have HROW : Hid (w3.ownsRow 0 106 128 V (d.L i).length ((d.L i).flatMap by8)) := (by rw [hV]; exact H1.out.rows i : w3.ownsRow 0 106 128 V (d.L i).length ((d.L i).flatMap by8))
        have HV := Lib.hid hV
        have HWF := Lib.hid hwf
        have HLE : Hid ((d.L i).length ≤ 1000000) := Nat.le_trans (h1.lens i) HPU.out
        have HKM : Hid (km < maxLen) := (by have := h1.kms; have := HPU.out; simp [maxLen]; omega : km < maxLen)
        have HSI : Hid ((Try.prog.info? 106).map (·.size) = some (by8 b).length) := (by rw [sec_info, by8_len, HN.out.1] : (Try.prog.info? 106).map (·.size) = some (by8 b).length)
        have HR0 := Lib.hid hr
        clear hn3 hn3' hb3 h1 h2 h3 hr hgr hmr hir hwf hlook hc1 hrg hV hSS HB HF2 HN2 HLN HFT HSRC
        refine wp_region_noPanic ?_
        refine wp_region_T (fun W => W.cell? ⟨g, 1, none⟩ = some (.map (some bm)) ∧ (Instr.lookup 72 (.map (some bm)) (.int .i64 i) false).run Try.prog W = .ok V W ∧ W.rangeAt r 0 (by8 b)) 14 (by kernel_rfl) (HS.out _ (Fr.refl _ _).drew) (fun hS0 => ?_)
        refine wpAnyT_taked (i := 0) (d := 24) (v := ?_) rfl rfl (by kernel_rfl) (by kernel_rfl) (by kernel_rfl) (by kernel_rfl) rfl (fun _ _ _ h => h) (Or.inl ⟨by rfl, ?_⟩) (by assumption) ?_
        rotate_left 1
        · rintro w' ⟨hs0, hs1, hs2⟩
          go_simp
          try (with_reducible rfl)
        try simp only [Act.put, List.setIfInBounds_toArray, List.set_cons_zero, List.set_cons_succ]
        refine wpAnyT_taked (i := 1) (d := 25) (v := ?_) rfl rfl (by kernel_rfl) (by kernel_rfl) (by kernel_rfl) (by kernel_rfl) rfl (fun _ _ _ h => h) (Or.inl ⟨by rfl, ?_⟩) (by assumption) ?_
        rotate_left 1
        · rintro w' ⟨hs0, hs1, hs2⟩
          go_simp
          try (with_reducible rfl)
        try simp only [Act.put, List.setIfInBounds_toArray, List.set_cons_zero, List.set_cons_succ]
        refine wpAnyT_taked (i := 2) (d := 26) (v := ?_) rfl rfl (by kernel_rfl) (by kernel_rfl) (by kernel_rfl) (by kernel_rfl) rfl (fun _ _ _ h => h) (Or.inl ⟨by rfl, ?_⟩) (by assumption) ?_
        rotate_left 1
        · rintro w' ⟨hs0, hs1, hs2⟩
          go_simp
          try (with_reducible rfl)
        try simp only [Act.put, List.setIfInBounds_toArray, List.set_cons_zero, List.set_cons_succ]
        refine wpAnyT_taked (i := 3) (d := 27) (v := ?_) rfl rfl (by kernel_rfl) (by kernel_rfl) (by kernel_rfl) (by kernel_rfl) rfl (fun _ _ _ h => h) (Or.inl ⟨by rfl, ?_⟩) (by assumption) ?_
        rotate_left 1
        · rintro w' ⟨hs0, hs1, hs2⟩
          go_simp
          try (with_reducible rfl)
        try simp only [Act.put, List.setIfInBounds_toArray, List.set_cons_zero, List.set_cons_succ]
        refine wpAnyT_taked (i := 4) (d := 28) (v := ?_) rfl rfl (by kernel_rfl) (by kernel_rfl) (by kernel_rfl) (by kernel_rfl) rfl (fun _ _ _ h => h) (Or.inl ⟨by rfl, ?_⟩) (by assumption) ?_
        rotate_left 1
        · rintro w' ⟨hs0, hs1, hs2⟩
          go_simp
          try (with_reducible rfl)
        try simp only [Act.put, List.setIfInBounds_toArray, List.set_cons_zero, List.set_cons_succ]
        refine wpAnyT_taked (i := 5) (d := 29) (v := ?_) rfl rfl (by kernel_rfl) (by kernel_rfl) (by kernel_rfl) (by kernel_rfl) rfl (fun _ _ _ h => h) (Or.inl ⟨by rfl, ?_⟩) (by assumption) ?_
        rotate_left 1
        · rintro w' ⟨hs0, hs1, hs2⟩
          go_simp
          try (with_reducible rfl)
        try simp only [Act.put, List.setIfInBounds_toArray, List.set_cons_zero, List.set_cons_succ]
        refine wpAnyT_taked (i := 6) (d := 30) (v := ?_) rfl rfl (by kernel_rfl) (by kernel_rfl) (by kernel_rfl) (by kernel_rfl) rfl (fun _ _ _ h => h) (Or.inl ⟨by rfl, ?_⟩) (by assumption) ?_
        rotate_left 1
        · rintro w' ⟨hs0, hs1, hs2⟩
          go_simp
          try (with_reducible rfl)
        try simp only [Act.put, List.setIfInBounds_toArray, List.set_cons_zero, List.set_cons_succ]
        refine wpAnyT_taked (i := 7) (d := 31) (v := ?_) rfl rfl (by kernel_rfl) (by kernel_rfl) (by kernel_rfl) (by kernel_rfl) rfl (fun _ _ _ h => h) (Or.inl ⟨by rfl, ?_⟩) (by assumption) ?_
        rotate_left 1
        · rintro w' ⟨hs0, hs1, hs2⟩
          go_simp
          try (with_reducible rfl)
        try simp only [Act.put, List.setIfInBounds_toArray, List.set_cons_zero, List.set_cons_succ]
        refine wpAnyT_taked (i := 8) (d := 32) (v := ?_) rfl rfl (by kernel_rfl) (by kernel_rfl) (by kernel_rfl) (by kernel_rfl) rfl (fun _ _ _ h => h) (Or.inl ⟨by rfl, ?_⟩) (by assumption) ?_
        rotate_left 1
        · rintro w' ⟨hs0, hs1, hs2⟩
          go_simp
          try (with_reducible rfl)
        try simp only [Act.put, List.setIfInBounds_toArray, List.set_cons_zero, List.set_cons_succ]
        refine wpAnyT_taked (i := 9) (d := 33) (v := ?_) rfl rfl (by kernel_rfl) (by kernel_rfl) (by kernel_rfl) (by kernel_rfl) rfl (fun _ _ _ h => h) (Or.inl ⟨by rfl, ?_⟩) (by assumption) ?_
        rotate_left 1
        · rintro w' ⟨hs0, hs1, hs2⟩
          go_simp
          try (with_reducible rfl)
        try simp only [Act.put, List.setIfInBounds_toArray, List.set_cons_zero, List.set_cons_succ]
        refine wpAnyT_taked (i := 10) (d := 34) (v := ?_) rfl rfl (by kernel_rfl) (by kernel_rfl) (by kernel_rfl) (by kernel_rfl) rfl (fun _ _ _ h => h) (Or.inl ⟨by rfl, ?_⟩) (by assumption) ?_
        rotate_left 1
        · rintro w' ⟨hs0, hs1, hs2⟩
          go_simp
          try (with_reducible rfl)
        try simp only [Act.put, List.setIfInBounds_toArray, List.set_cons_zero, List.set_cons_succ]
        refine wpAnyT_taked (i := 11) (d := 35) (v := .agg (by8 b).toArray) rfl rfl (by kernel_rfl) (by kernel_rfl) (by kernel_rfl) (by kernel_rfl) rfl (fun _ _ _ h => h) (yieldsIf_load_mid (by rfl) 106 (.tmp 8) rfl r 0 rfl (by8 b) _ (fun w h => h.2.2) Try.underlying106 rfl HSI.out) (by assumption) ?_
        try simp only [Act.put, List.setIfInBounds_toArray, List.set_cons_zero, List.set_cons_succ]
        refine wpAnyT_one (i := 12) (by kernel_rfl) rfl rfl (fun K hK => ?_)
        refine step_lit1 rfl (.tmp 35) rfl b HN.out.1 (by simp [Act.eval]) ?_
        have hF4 : Fr (fun k => V.ownBlock = some k) w3 (w3.drew.alloc (.cells (by8 b).toArray 106)) := (Fr.refl _ w3).drew.alloc _
        refine hK.out _ _ (HS.out _ hF4) ?_
        clear hK K
        try simp only [Act.put, List.setIfInBounds_toArray, List.set_cons_zero, List.set_cons_succ]
        refine wpAnyT_one (i := 13) (by kernel_rfl) rfl rfl (fun K hK => ?_)
        refine step_app rfl (.tmp 34) (.tmp 36) 71 rfl 0 106 _ 128 128 Try.underlying71 sec_infos (by simp [Value.cells, zero_len]) (by decide) V (d.L i).length ((d.L i).flatMap by8) (by simp [Act.eval]) (HROW.out.drew.alloc _) ⟨w3.heap.size, 0, none⟩ 1 1 (by8 b) (by simp [Act.eval]) (by rw [by8_len, HN.out.1]) (news_of (t := 106) (fr := (0, 0)) (blk_new w3.drew (.cells (by8 b).toArray 106))) (by8_one b) (by have := HLE.out; simp [maxLen]; omega) (by have := HLE.out; omega) (Nat.zero_le _) ?_
        intro v6 w6 ho6 hg6 hm6
        obtain ⟨A6, c6, rfl⟩ := own_slice ho6
        have hF6 : Fr (fun k => V.ownBlock = some k) w3 w6 := hF4.grown hg6 (fun k hk => .inr hk)
        refine hK.out _ _ (HS.out _ hF6) ?_
        clear hK K
        try simp only [Act.put, List.setIfInBounds_toArray, List.set_cons_zero, List.set_cons_succ]
        have hm6' : w6.ownsMap Try.prog 3 hdR bm km Dm := owns_blk H1.out.map (hF6.block _ H1.out.map.lt (fun e => own_map HROW.out H1.out.map _ e rfl))
        obtain ⟨w7, hup, hown7, hg7⟩ := hm6'.update Try.intKeyed Try.underlying72 HKM.out (val := (⟨A6, (d.L i).length + 1, c6⟩ : Hd).v) (key_int HWF.out) (hdR_mk _)
        simp only [Hd.v] at hup
        refine wpAnyT_last (by kernel_rfl) rfl (by kernel_rfl) (fun K hK => ?_)
        go_simp
        refine hK.out _ _ ?_
        clear hK K
        refine NoPanic.normal ?_
        have hF7 : Fr (fun k => k = bm) w6 w7 := (Fr.refl _ w6).grown hg7 (fun k hk => .inr (Option.some.inj hk).symm)
        have hin := H1.out.written i HI.out b ⟨HN.out.1, HBB.out⟩ A6 c6 (by rw [← HV.out]; exact hF6) (by rw [List.flatMap_append]; simpa using ho6) (by rw [← HV.out]; exact hm6.imp (fun e => e) (fun e => ⟨_, e, by simp⟩)) hown7 hF7
        have hF17 : Fr T w1 w7 := by
          refine (HF3.out.none.trans (S := T) hF6 (fun k hk e => ?_)).trans hF7 (fun k hk e => ?_)
          · exact H2.out k (.inr (.inr (.inr ⟨i, by rw [← HV.out]; exact e⟩)))
          · exact H2.out k (.inr (.inl e))
        have hat : DkAt w7 g (fun k => (T k ∨ w1.heap.size ≤ k) ∧ k < w7.heap.size) (d.wr i b) := by
          refine ⟨FA, fc, bm, km + 1, _, _, hin, fun k hk => ⟨?_, hin.lt k hk⟩, fun k hk => hk.2⟩
          rcases hk with hk | hk | hk | ⟨q, hk⟩
          · exact .inl (H2.out k (.inl hk))
          · exact .inl (H2.out k (.inr (.inl hk)))
          · exact .inl (H2.out k (.inr (.inr (.inl hk))))
          · by_cases hq : q = i
            · rw [hq, setHd, if_pos rfl] at hk
              rcases hm6 with e | e
              · exact .inl (H2.out k (.inr (.inr (.inr ⟨i, by rw [← HV.out, ← e]; exact hk⟩))))
              · have e2 := Option.some.inj (hk.symm.trans e)
                simp at e2
                have := HF3.out.size
                exact .inr (by omega)
            · rw [setHd, if_neg hq] at hk
              exact .inl (H2.out k (.inr (.inr (.inr ⟨q, hk⟩))))
        have HAT := Lib.hid hat
        have HF17 := Lib.hid hF17
        have HTG : Hid (T g) := H2.out g (.inl rfl)
        have HDO2 : Hid ((d.wr i b).done ≤ 1000000000) := HDO.out
        clear hup hown7 hg7 hF7 hin hF17 hat hm6' ho6 hg6 hm6 hF6 hF4 HS hS0 HROW H1 H2 H3
        go_wp2_with fail
        refine (told_any HAT.out HDO2.out).mono ?_
        rintro e w8 ⟨rfl, hat8, hF8⟩
        have HAT8 := Lib.hid hat8
        have HF8 := Lib.hid hF8
        clear hat8 hF8
        go_wp2_with fail
        go_ret
        show WritePost w1 g T (d.write i b) (d.writeE i b.length) _ _
        rw [HRW.out, HRE.out]
        exact ⟨rfl, _, HAT8.out, HF17.out.trans HF8.out (fun k _ e => by rw [e]; exact HTG.out), fun k hk => hk.1⟩
--END
      · have hni : ¬ (b.length : Int) = 128 := by omega
        have HE := Lib.hid (HSAME.out 1 (by unfold Dk.writeE; rw [HDN.out, if_neg (by simp), if_pos HI.out, if_neg hn]) (by omega))
        clear hn
        go_wp2_with fail
        go_ret
        exact HE.out
    · have hbb : (decide (0 ≤ i) && decide (i < d.F.length)) = false := by simp; omega
      rw [hbb]
      have HE := Lib.hid (HSAME.out 5 (by unfold Dk.writeE; rw [HDN.out, if_neg (by simp), if_neg hi]) (by omega))
      clear hi hbb
      go_wp2_with fail
      go_ret
      exact HE.out
end Go.Proofs.Ytdamegjhdopfaaa
