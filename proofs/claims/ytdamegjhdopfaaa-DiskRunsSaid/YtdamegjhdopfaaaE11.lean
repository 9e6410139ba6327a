/- DiskApart's walk. PRINTED by genE11.py out of E11.body. -/
import Derived.Test.YtdamegjhdopfaaaE10
namespace Go.Proofs.Ytdamegjhdopfaaa
open Go.RowKit Go.WideShapes
set_option linter.unusedSimpArgs false
set_option linter.unusedVariables false

def InI64 (fs : List Ft) : Prop := ∀ f ∈ fs, (-9223372036854775808 ≤ f.keep ∧ f.keep ≤ 9223372036854775807) ∧ (-9223372036854775808 ≤ f.cut ∧ f.cut ≤ 9223372036854775807)
theorem InI64.zeros {fs : List Ft} (h : InI64 fs) (k : Nat) : InI64 (fs ++ List.replicate k (⟨0, 0⟩ : Ft)) := fun f hf => by
  rcases List.mem_append.1 hf with h1 | h1
  · exact h f h1
  · rw [List.eq_of_mem_replicate h1]
    simp only
    omega
/-- the two are one disk, of twelve sectors -/
def DBU (w0 w : World) (g gr k : Nat) : Prop := ∃ T TR d, DB w0 w g gr k T TR d d ∧ Up12 d

set_option maxRecDepth 100000 in
set_option maxHeartbeats 8000000 in
theorem aparts_any (A : Option Addr) (c : Nat) (os : List OpD) (aA : Option Addr) (ac : Nat) (fa : List Ft) (bA : Option Addr) (bc : Nat) (fb : List Ft) (x : Int) (hx0 : 0 ≤ x) (hx1 : x ≤ 18446744073709551615) (w : World) (hl : os.length ≤ maxLen) (hR : ReadOps w A os)
    (ha : ReadFt w aA fa) (hal : fa.length ≤ 8796093021952) (hai : InI64 fa) (hb : ReadFt w bA fb) (hbl : fb.length ≤ 8796093021952) (hbi : InI64 fb) :
    Calls Try.prog 3 #[.slice A os.length c, .slice aA fa.length ac, .slice bA fb.length bc, .int .u64 x] w (fun e w' => e = .returned (.bool true) ∧ Fr (fun _ => False) w w') := by
  have HR := Lib.hid hR
  have HA := Lib.hid ha
  have HAI := Lib.hid hai
  have HAL := Lib.hid hal
  have HB := Lib.hid hb
  have HBI := Lib.hid hbi
  have HBL := Lib.hid hbl
  have HX : Hid (0 ≤ x ∧ x ≤ 18446744073709551615) := ⟨hx0, hx1⟩
  clear hR ha hai hal hb hbi hbl hx0 hx1
  go_enter Try.func3, Try.ntmps3
  go_wp2_with fail
  refine (awake_disk w).mono ?_
  rintro e w1 ⟨rfl, hF1⟩
  have HF1 := Lib.hid hF1
  clear hF1
  have hnew : Calls Try.prog 16 #[.int .i64 12] w1 (NewPost w1 12) := new_any w1 12 (by omega) (by omega)
  have HNEW := Lib.hid hnew
  clear hnew
  go_wp2_with fail
  refine HNEW.out.mono ?_
  rintro e w2 ⟨g, T0, rfl, hat, hF2, hg, hT0⟩
  have hnew : Calls Try.prog 17 #[.int .i64 12] w2 (RNewPost w2 12) := rnew_any w2 12 (by omega) (by omega)
  have HNEW := Lib.hid hnew
  have HAT := Lib.hid hat
  have HF2 := Lib.hid hF2
  have HT0 := Lib.hid hT0
  clear hnew hat hF2 hg hT0
  go_wp2_with fail
  refine HNEW.out.mono ?_
  rintro e w3 ⟨gr, TR0, rfl, hat3, hF3, hg3, hT3⟩
  have I0 : Hid (DBU w w3 g gr 0) := ⟨T0, TR0, _, db_new HF1.out HF2.out HAT.out HT0.out hat3 hF3 hT3, by simp [newDk], rfl, rfl⟩
  clear hat3 hF3 hg3 hT3 HAT HF2 HT0 HNEW HF1
  go_upto_block 0 with (fail)
  go_cut [] (fun wd => Hid (DBU w wd g gr 80))
  case first =>
    go_wp2_with fail
    go_loopw [13] (fun k wr => ∃ i : Nat, i ≤ os.length ∧ i ≤ 40 ∧ k = .int .i64 i ∧ Hid (DBU w wr g gr (2 * i))) (fun k _ => 40 - (intOf k).toNat)
    case atStart => exact ⟨0, by omega, by omega, rfl, I0⟩
    case round =>
      clear I0
      obtain ⟨i, hi, hi40, rfl, HI⟩ := hrel
      by_cases hlt : i < os.length ∧ i < 40
      · obtain ⟨hlt, hlt4⟩ := hlt
        have hii : (i : Int) < os.length := by omega
        have hi4 : (i : Int) < 40 := by omega
        obtain ⟨o, ho⟩ : ∃ o, os[i]? = some o := ⟨_, List.getElem?_eq_getElem hlt⟩
        obtain ⟨qg, qf, rfl, z0, z1, z2, hb, hbb⟩ := readOps_at HR.out ho
        obtain ⟨T, TR, d, hdb, hup⟩ := HI.out
        have hfw := hdb.fr.toBelow
        have y0 := hfw.cell0 z0
        have y1 := hfw.cell0 z1
        have y2 := hfw.cell0 z2
        have HBY : Hid (∀ W : World, Fr (fun q => w.heap.size ≤ q) w W → ReadU W o.bA o.b) := fun W hW => hb.fr hW.toBelow (fun _ _ _ h => h)
        have HSX := Lib.hid (full_sec o.b hbb)
        have HDB := Lib.hid hdb
        have HUP := Lib.hid hup
        obtain ⟨ok, oat, obA, obc, ob', _, _, _, _, _, _, _⟩ := o
        simp only at y0 y1 y2 HBY HSX
        have HZ : Hid (w.cell? ⟨qg, qf + i * 8 + 1, none⟩ = some (.int .i64 oat) ∧ w.cell? ⟨qg, qf + i * 8 + 2, none⟩ = some (.slice obA ob'.length obc)) := ⟨z1, z2⟩
        clear ho z0 z1 z2 hb hbb hdb hup hfw HI
        by_cases hk : ok = 1
        · have hk1 : (ok == 1) = true := by simp [hk]
          have HS2 : Hid (∀ W : World, Fr (fun q => w.heap.size ≤ q) w W → W.cell? ⟨qg, qf + i * 8 + 1, none⟩ = some (.int .i64 oat) ∧ W.cell? ⟨qg, qf + i * 8 + 2, none⟩ = some (.slice obA ob'.length obc)) := fun W hW => ⟨hW.toBelow.cell0 HZ.out.1, hW.toBelow.cell0 HZ.out.2⟩
          have hs128 : (fullS ob').length = 128 := HSX.out.1
          have HFW : Hid (Fr (fun q => w.heap.size ≤ q) w wr) := HDB.out.fr
          have HFUL : Hid (∀ W : World, Fr (fun q => w.heap.size ≤ q) w W → Calls Try.prog 19 #[.slice obA ob'.length obc] W (FullPost W ob')) := fun W hW => full_any obA obc ob' (HBY.out W hW)
          have HWRI : Hid (∀ (W : World) (k1 : Nat), Fr (fun _ => False) wr W → W.heap[k1]? = some (.cells (by8 (fullS ob')).toArray 5 (0, 0)) → Calls Try.prog 18 #[.pointer (some ⟨g, 0, none⟩), .int .i64 oat, .slice (some ⟨k1, 0, none⟩) 128 128] W (DBW1 w g gr (2 * i) TR d d oat (fullS ob'))) := fun W k1 hW hr => (HDB.out.fr0 hW).write1f (by omega) oat k1 (fullS ob') hr HSX.out
          have HF : Hid (Fr (fun _ => False) wr wr) := Fr.refl _ _
          clear hk hs128 HZ HBY
          go_upto_region 11 with (fail)
          clear y0 y1 y2
          go_region_held3 (fun W => W.cell? ⟨qg, qf + i * 8 + 1, none⟩ = some (.int .i64 oat) ∧ W.cell? ⟨qg, qf + i * 8 + 2, none⟩ = some (.slice obA ob'.length obc))
            (first | exact HS2.out _ HDN.out.fr | exact HS2.out _ (HFW.out.trans HF.out (fun _ _ h => h.elim)) | exact HS2.out _ (HFW.out.trans HF.out.drew (fun _ _ h => h.elim)))
            (first
              | (go_at_call 19; refine (HFUL.out _ (by first | exact HFW.out.trans HF.out (fun _ _ h => h.elim) | exact HFW.out.trans HF.out.drew (fun _ _ h => h.elim))).mono ?_; rintro e wn ⟨k1, rfl, hk1, hf, hg1⟩; have HF : Hid (Fr (fun _ => False) wr wn) := (by first | exact HF.out.trans hf (fun _ _ h => h) | exact HF.out.drew.trans hf (fun _ _ h => h)); have HK1 := Lib.hid hk1; clear hk1 hf hg1)
              | (go_at_call 18; refine (HWRI.out _ k1 HF.out HK1.out).mono ?_; rintro e wn ⟨TN, rfl, hdn⟩; have HDN := Lib.hid hdn; clear hdn))
          obtain ⟨d1, hd1⟩ : ∃ d1, d1 = d.write oat (fullS ob') := ⟨_, rfl⟩
          have HD1 := Lib.hid hd1
          have hUP1 : Up12 d1 := by rw [hd1]; exact HUP.out.wr _ _
          have HUP1 := Lib.hid hUP1
          have hDN : DB w wn g gr (2 * i + 1) TN TR d1 d := by rw [hd1]; exact HDN.out
          have HDN1 := Lib.hid hDN
          clear hd1 hUP1 hDN HDN HF HFW HWRI HUP
          obtain ⟨y1, y2⟩ := HS2.out _ HDN1.out.fr
          have HFW : Hid (Fr (fun q => w.heap.size ≤ q) w wn) := HDN1.out.fr
          have HWRI : Hid (∀ (W : World) (k1 : Nat), Fr (fun _ => False) wn W → W.heap[k1]? = some (.cells (by8 (fullS ob')).toArray 5 (0, 0)) → Calls Try.prog 20 #[.pointer (some ⟨gr, 0, none⟩), .int .i64 oat, .slice (some ⟨k1, 0, none⟩) 128 128] W (DBW2 w g gr (2 * i + 1) TN d1 d oat (fullS ob'))) := fun W k1 hW hr => (HDN1.out.fr0 hW).write2f (by omega) oat k1 (fullS ob') hr HSX.out
          have HF : Hid (Fr (fun _ => False) wn wn) := Fr.refl _ _
          clear HDN1 HDB
          go_upto_region 12 with (fail)
          clear y1 y2
          go_region_held3 (fun W => W.cell? ⟨qg, qf + i * 8 + 1, none⟩ = some (.int .i64 oat) ∧ W.cell? ⟨qg, qf + i * 8 + 2, none⟩ = some (.slice obA ob'.length obc))
            (first | exact HS2.out _ HDN.out.fr | exact HS2.out _ (HFW.out.trans HF.out (fun _ _ h => h.elim)) | exact HS2.out _ (HFW.out.trans HF.out.drew (fun _ _ h => h.elim)))
            (first
              | (go_at_call 19; refine (HFUL.out _ (by first | exact HFW.out.trans HF.out (fun _ _ h => h.elim) | exact HFW.out.trans HF.out.drew (fun _ _ h => h.elim))).mono ?_; rintro e wm ⟨k1, rfl, hk1, hf, hg1⟩; have HF : Hid (Fr (fun _ => False) wn wm) := (by first | exact HF.out.trans hf (fun _ _ h => h) | exact HF.out.drew.trans hf (fun _ _ h => h)); have HK1 := Lib.hid hk1; clear hk1 hf hg1)
              | (go_at_call 20; refine (HWRI.out _ k1 HF.out HK1.out).mono ?_; rintro e wm ⟨TM, rfl, hdn⟩; have HDN := Lib.hid hdn; clear hdn))
          have HN : Hid (DBU w wm g gr (2 * (i + 1))) := ⟨_, _, _, (by have := HDN.out; rw [← HD1.out] at this; exact this), HUP1.out⟩
          go_wp2_with fail
          exact ⟨⟨i + 1, by omega, by omega, by go_num, HN⟩, by simp [intOf]; omega⟩
        · have hk1 : (ok == 1) = false := by simp [hk]
          have HN : Hid (DBU w wr g gr (2 * (i + 1))) := ⟨_, _, _, HDB.out.mono (by omega), HUP.out⟩
          clear hk
          go_wp2_with fail
          exact ⟨⟨i + 1, by omega, by omega, by go_num, HN⟩, by simp [intOf]; omega⟩
      · have HE : Hid (DBU w wr g gr 80) := (by obtain ⟨T, TR, d, h1, h2⟩ := HI.out; exact ⟨T, TR, d, h1.mono (by omega), h2⟩ : DBU w wr g gr 80)
        by_cases hl1 : i < os.length
        · have hl2 : (i : Int) < os.length := by omega
          have hl3 : ¬ (i : Int) < 40 := by omega
          go_wp2
          go_meet
          case rel => exact HE
        · have hl2 : ¬ (i : Int) < os.length := by omega
          go_wp2
          go_meet
          case rel => exact HE
  case rest =>
    clear I0
    obtain ⟨T, TR, d, hdb, hup⟩ := hcut.out
    obtain ⟨l, hll⟩ : ∃ l, l = losOf d := ⟨_, rfl⟩
    have hlo := rloose_any hdb.b (by have := hdb.putsR; omega) l hll
    have HLO := Lib.hid hlo
    have HML : Hid (∀ m ∈ l, m.many ≤ 1000000 ∧ m.s.val < 12 ∧ m.many = (d.L (m.s.val : Int)).length) := fun m hm => by
      rw [hll] at hm
      obtain ⟨h1, h2⟩ := (mem_los d m).1 hm
      have h3 := hdb.b.pure.lens (m.s.val : Int)
      have h4 := hdb.b.pure.within (m.s.val : Int) (fun e => by rw [e] at h1; exact absurd h1 (Nat.lt_irrefl _))
      have h5 := hdb.puts
      have h6 := hup.1
      exact ⟨by omega, by omega, h2⟩
    have HLN : Hid (l.length ≤ 12) := by
      have h1 := los_rise d
      rw [← hll] at h1
      have h2 : (l.map (fun m => m.s.val)).Nodup := List.pairwise_map.2 (h1.imp (fun h => Nat.ne_of_lt h))
      have h3 := nodup_len h2 (l2 := List.range 12) (fun y hy => by
        obtain ⟨m, hm, rfl⟩ := List.mem_map.1 hy
        exact List.mem_range.2 (HML.out m hm).2.1)
      have h4 : l.length ≤ 12 := by simpa using h3
      exact h4
    have HDB := Lib.hid hdb
    have HUP := Lib.hid hup
    have HLL := Lib.hid hll
    clear hdb hup hcut hlo hll
    go_wp2_with fail
    refine HLO.out.mono ?_
    rintro e w5 ⟨v5, rfl, ho5, hF5⟩
    obtain ⟨LA, lc, rfl⟩ := own_slice ho5
    have HO5 := Lib.hid ho5
    have HF5 := Lib.hid hF5
    have HFW5 : Hid (Fr (fun q => w.heap.size ≤ q) w w5) := HDB.out.fr.trans hF5 (fun _ _ h => h.elim)
    clear ho5 hF5 HLO
    by_cases hn : l.length = 0
    · have hn0 : ((l.length : Int) == 0) = true := by simp [hn]
      clear hn
      go_wp2_with fail
      go_ret
      exact ⟨rfl, HFW5.out.toBelow⟩
    · have hn0 : ((l.length : Int) == 0) = false := beq_eq_false_iff_ne.2 (by omega)
      have hnp : 0 < l.length := by omega
      have hln : l.length ≤ 12 := HLN.out
      obtain ⟨kn, hkn, hkl⟩ : ∃ kn : Nat, wrap64 (x.tmod l.length) = kn ∧ kn < l.length := by
        have h1 := HX.out.1
        rw [Int.tmod_eq_emod_of_nonneg h1]
        have h2 := Int.emod_nonneg x (b := (l.length : Int)) (by omega)
        have h3 := Int.emod_lt_of_pos x (b := (l.length : Int)) (by omega)
        have h4 : wrap64 (x % (l.length : Int)) = x % (l.length : Int) := by unfold wrap64; omega
        rw [h4]
        exact ⟨(x % (l.length : Int)).toNat, by omega, by omega⟩
      go_upto_region 17 with fail
      rw [hkn]
      have HKL := Lib.hid hkl
      -- fates made to fit
      have HFIT : Hid (∀ (fs : List Ft) (n : Nat) (W : World) (B : Nat) (A' : Option Addr) (c' : Nat), n = fs.length + l.length → InI64 fs → fs.length ≤ 8796093021952 → Fr (fun _ => False) w5 W → W.ownsRow B 43 2 (.slice A' n c') n ((fs ++ List.replicate l.length (⟨0, 0⟩ : Ft)).flatMap Ft.cells) →
          Calls Try.prog 22 #[.slice LA l.length lc, .slice A' n c'] W (FitPost W (fitAll l (fs ++ List.replicate l.length (⟨0, 0⟩ : Ft))))) := fun fs n W B A' c' hn hi hfl hW ho => by
        have h1 := fit_any (l := l) (fs := fs ++ List.replicate l.length (⟨0, 0⟩ : Ft)) (c := c') (own_base (hW.own0 HO5.out)) (readFt_own ho) (by rw [List.length_append, List.length_replicate]; simp only [maxLen]; omega) (by omega) (fun m hm => (HML.out m hm).1) (hi.zeros _)
        rw [List.length_append, List.length_replicate, ← hn] at h1
        exact h1
      obtain ⟨p, hp⟩ : ∃ p, p = fitAll l (fa ++ List.replicate l.length (⟨0, 0⟩ : Ft)) := ⟨_, rfl⟩
      obtain ⟨q, hq⟩ : ∃ q, q = fitAll l (fb ++ List.replicate l.length (⟨0, 0⟩ : Ft)) := ⟨_, rfl⟩
      have HPL : Hid (p.length = l.length) := (by rw [hp]; exact fitAll_len _ _ (by simp) : p.length = l.length)
      have HQL : Hid (q.length = l.length) := (by rw [hq]; exact fitAll_len _ _ (by simp) : q.length = l.length)
      have HPE := Lib.hid hp
      have HQE := Lib.hid hq
      have hFa : Fr (fun _ => False) w5 (w5.alloc (.cells #[] 43)) := (Fr.refl _ w5).alloc _
      have HFA := Lib.hid hFa
      have HNA : Hid (ReadFt (w5.alloc (.cells #[] 43)) aA fa) := HA.out.fr (HFW5.out.toBelow.trans hFa (fun _ _ h => h)) (fun _ _ _ h => h)
      have HAL' : Hid (fa.length ≤ 8796093021952) := HAL.out
      have hal : fa.length ≤ 8796093021952 := HAL.out
      have HFa1 := hFa.size
      clear hkn hFa hp hq
      go_upto_region 18 with
        (first
          | (at_builtin; refine wpl_appx rfl (.tmp 100) (.tmp 101) 23 rfl w5.heap.size 43 _ 2 16 Try.underlying23 fit_info rfl (by decide) (.slice (some ⟨w5.heap.size, 0, none⟩) 0 0) 0 [] rfl (own_up (own_empty 2 (blk_new _ _) rfl) (fun k hk => Nat.le_of_eq (Option.some.inj hk))) aA fa.length ac (fa.flatMap Ft.cells) rfl (ft_len _) HNA.out.news HNA.out.none (ft_one _) (by simp only [maxLen]; omega) (by omega) HFa1 ?_; intro v6 w6 ho6 hg6 hm6; obtain ⟨A6, c6, rfl⟩ := own_slice ho6; rw [Nat.zero_add, List.nil_append] at ho6; have HF6 : Hid (Fr (fun _ => False) w5 w6) := HFA.out.grown hg6 (fun k hk => .inl (Nat.le_of_eq (Option.some.inj hk))); have HO6 := Lib.hid ho6; rw [Nat.zero_add]; clear ho6 hg6 hm6)
          | (at_builtin; obtain ⟨A7, c7, w7, hr7, ho7, hg7⟩ := run_zeros_ft w6 A6 fa.length c6 w5.heap.size fa .i64 HO6.out l.length (by omega) (by simp only [maxLen]; omega) (by omega) HF6.out.size; refine Lib.wpList_append_run _ rfl (.tmp 102) (.tmp 104) 23 3 rfl _ _ rfl rfl _ _ hr7 ?_; have HF7 : Hid (Fr (fun _ => False) w5 w7) := HF6.out.grown hg7 (fun k hk => .inl (HO6.out.lt k hk).1); have HO7 := Lib.hid ho7; clear hr7 ho7 hg7))
      refine (HFIT.out fa _ w7 _ A7 c7 rfl HAI.out HAL.out HF7.out HO7.out).mono ?_
      rintro e w8 ⟨v8, rfl, ho8, hF8⟩
      rw [← HPE.out] at ho8
      rw [HPL.out] at ho8
      obtain ⟨PA, pc, rfl⟩ := own_slice ho8
      obtain ⟨pg, hpg⟩ := own_some ho8 hnp
      subst hpg
      have HF8 : Hid (Fr (fun _ => False) w5 w8) := HF7.out.trans hF8 (fun _ _ h => h)
      have HP8 := Lib.hid ho8
      have HPB : Hid (w5.heap.size ≤ pg) := (by have := (ho8.lt pg rfl).1; have := HF7.out.size; omega : w5.heap.size ≤ pg)
      have HPM := own_max ho8
      clear ho8 hF8 HFA HNA HF6 HO6 HF7 HO7 HFa1 hal HAL'
      have hFa : Fr (fun _ => False) w8 (w8.alloc (.cells #[] 43)) := (Fr.refl _ w8).alloc _
      have HFA := Lib.hid hFa
      have HNA : Hid (ReadFt (w8.alloc (.cells #[] 43)) bA fb) := HB.out.fr ((HFW5.out.toBelow.trans HF8.out (fun _ _ h => h)).trans hFa (fun _ _ h => h)) (fun _ _ _ h => h)
      have HAL' : Hid (fb.length ≤ 8796093021952) := HBL.out
      have hal : fb.length ≤ 8796093021952 := HBL.out
      have HFa1 := hFa.size
      clear hFa
      go_upto_region 19 with
        (first
          | (at_builtin; refine wpl_appx rfl (.tmp 108) (.tmp 109) 23 rfl w8.heap.size 43 _ 2 16 Try.underlying23 fit_info rfl (by decide) (.slice (some ⟨w8.heap.size, 0, none⟩) 0 0) 0 [] rfl (own_up (own_empty 2 (blk_new _ _) rfl) (fun k hk => Nat.le_of_eq (Option.some.inj hk))) bA fb.length bc (fb.flatMap Ft.cells) rfl (ft_len _) HNA.out.news HNA.out.none (ft_one _) (by simp only [maxLen]; omega) (by omega) HFa1 ?_; intro v6 w6 ho6 hg6 hm6; obtain ⟨A6, c6, rfl⟩ := own_slice ho6; rw [Nat.zero_add, List.nil_append] at ho6; have HF6 : Hid (Fr (fun _ => False) w8 w6) := HFA.out.grown hg6 (fun k hk => .inl (Nat.le_of_eq (Option.some.inj hk))); have HO6 := Lib.hid ho6; rw [Nat.zero_add]; clear ho6 hg6 hm6)
          | (at_builtin; obtain ⟨A7, c7, w7, hr7, ho7, hg7⟩ := run_zeros_ft w6 A6 fb.length c6 w8.heap.size fb .i64 HO6.out l.length (by omega) (by simp only [maxLen]; omega) (by omega) HF6.out.size; refine Lib.wpList_append_run _ rfl (.tmp 110) (.tmp 112) 23 3 rfl _ _ rfl rfl _ _ hr7 ?_; have HF7 : Hid (Fr (fun _ => False) w8 w7) := HF6.out.grown hg7 (fun k hk => .inl (HO6.out.lt k hk).1); have HO7 := Lib.hid ho7; clear hr7 ho7 hg7))
      refine (HFIT.out fb _ w7 _ A7 c7 rfl HBI.out HBL.out (HF8.out.trans HF7.out (fun _ _ h => h)) HO7.out).mono ?_
      rintro e w9 ⟨v9, rfl, ho9, hF9⟩
      rw [← HQE.out] at ho9
      rw [HQL.out] at ho9
      obtain ⟨QA, qc, rfl⟩ := own_slice ho9
      obtain ⟨qg, hqg⟩ := own_some ho9 hnp
      subst hqg
      have hF89 : Fr (fun _ => False) w8 w9 := HF7.out.trans hF9 (fun _ _ h => h)
      have HF9 : Hid (Fr (fun _ => False) w5 w9) := HF8.out.trans hF89 (fun _ _ h => h)
      have HP9 := Lib.hid (hF89.own0 HP8.out)
      have HQ9 := Lib.hid ho9
      have HQB : Hid (w5.heap.size ≤ qg ∧ pg ≠ qg) := (by have := (ho9.lt qg rfl).1; have := HF7.out.size; have := HF8.out.size; have := own_lt HP8.out pg rfl; exact ⟨by omega, by omega⟩ : w5.heap.size ≤ qg ∧ pg ≠ qg)
      -- the fate that both have
      obtain ⟨f, hf⟩ : ∃ f, p[kn]? = some f := ⟨_, List.getElem?_eq_getElem (by rw [HPL.out]; exact hkl)⟩
      obtain ⟨m, hm⟩ : ∃ m, l[kn]? = some m := ⟨_, List.getElem?_eq_getElem hkl⟩
      have hfm := fitAll_may l (fun m hm => (HML.out m hm).1) _ hm (by rw [← HPE.out]; exact hf)
      have hlaw := apart_law d l HLL.out (fun m hm => (HML.out m hm).1) (fun m hm => by rw [HUP.out.1]; exact (HML.out m hm).2.1) p q HPL.out HQL.out (fun k f m h1 h2 => fitAll_may l (fun m hm => (HML.out m hm).1) _ h2 (by rw [← HPE.out]; exact h1)) (fun k f m h1 h2 => fitAll_may l (fun m hm => (HML.out m hm).1) _ h2 (by rw [← HQE.out]; exact h1)) kn m f hm hf
      have q0 : w9.cell? ⟨pg, kn * 2, none⟩ = some (.int .i64 f.keep) := by
        have := (own_news HP9.out).1 _ rfl _ _ (flat_at (f := Ft.cells) (s := 2) (fun _ => rfl) p kn 0 f _ hf rfl)
        rw [add_some] at this
        simpa using this
      have q1 : w9.cell? ⟨pg, kn * 2 + 1, none⟩ = some (.int .i64 f.cut) := by
        have := (own_news HP9.out).1 _ rfl _ _ (flat_at (f := Ft.cells) (s := 2) (fun _ => rfl) p kn 1 f _ hf rfl)
        rw [add_some] at this
        simpa using this
      obtain ⟨cur, hcur, hcl⟩ := own_cur ho9
      have hcap := own_cap ho9
      have f0 : w9.frozen? ⟨qg, kn * 2, none⟩ = false := blk_frozen hcur _
      have f1 : w9.frozen? ⟨qg, kn * 2 + 1, none⟩ = false := blk_frozen hcur _
      obtain ⟨u0, r0⟩ : ∃ u, w9.cell? ⟨qg, kn * 2, none⟩ = some u := ⟨_, by rw [blk_cell hcur]; simpa using List.getElem?_eq_getElem (l := cur) (i := kn * 2) (by omega)⟩
      obtain ⟨u1, r1⟩ : ∃ u, w9.cell? ⟨qg, kn * 2 + 1, none⟩ = some u := ⟨_, by rw [blk_cell hcur]; simpa using List.getElem?_eq_getElem (l := cur) (i := kn * 2 + 1) (by omega)⟩
      have hset := own_set (own_set ho9 (i := kn * 2) (by omega) (.int .i64 f.keep)) (i := kn * 2 + 1) (by omega) (.int .i64 f.cut)
      rw [ft_set] at hset
      have hF10 : Fr (fun k => k = qg) w9 ((w9.setCell ⟨qg, kn * 2, none⟩ (.int .i64 f.keep)).setCell ⟨qg, kn * 2 + 1, none⟩ (.int .i64 f.cut)) := setg_fr (setg_fr (Fr.refl _ _) _ _) _ _
      have hkli : (kn : Int) < l.length := by omega
      have HFM := Lib.hid hfm
      have HMK := Lib.hid hm
      have HFK := Lib.hid hf
      have HLAW := Lib.hid hlaw
      have HQX := Lib.hid hset
      have HF10 := Lib.hid hF10
      have hqq : pg ≠ qg := HQB.out.2
      clear ho9 hF9 hF89 HFA HNA HF6 HO6 HF7 HO7 HFa1 hal HAL' HF8 HP8 HFIT hf hm hfm hlaw hcur hcl hcap hset hF10
      obtain ⟨fk, fcut⟩ := f
      simp only at q0 q1 HQX HF10
      go_upto_region 22 with fail
      generalize (w9.setCell ⟨qg, kn * 2, none⟩ (.int .i64 fk)).setCell ⟨qg, kn * 2 + 1, none⟩ (.int .i64 fcut) = w10 at *
      obtain ⟨⟨sN, hsN⟩, mm⟩ := m
      simp only at HFM HMK HLAW
      have HMM := Lib.hid (HML.out _ (List.mem_of_getElem? HMK.out))
      simp only at HMM
      have HTQ : Hid (∀ k, k < wc.heap.size → ¬ k = qg) := fun k hk e => by have := HF5.out.size; have := HQB.out.1; omega
      have hdb9 := HDB.out.fr0 (HF5.out.trans HF9.out (fun _ _ h => h))
      have hat10 := hdb9.a.fr HF10.out (fun k hk => HTQ.out k (HDB.out.a.lt k hk))
      have HRAT := Lib.hid (hdb9.b.fr HF10.out (fun k hk => HTQ.out k (HDB.out.b.lt k hk)))
      have HL10 := Lib.hid (HF10.out.own (HF9.out.own0 HO5.out) (fun k hk e => by have := own_lt HO5.out k hk; have := HQB.out.1; omega))
      have HP10 := Lib.hid (HF10.out.own HP9.out (fun k hk e => HQB.out.2 ((Option.some.inj hk).trans e)))
      have HFW10 : Hid (Fr (fun q => w.heap.size ≤ q) w w10) := (HFW5.out.trans HF9.out (fun _ _ h => h.elim)).trans HF10.out (fun k _ e => by show w.heap.size ≤ k; have := HFW5.out.size; have := HQB.out.1; omega)
      have hc1 := crash_any hat10 (some ⟨pg, 0, none⟩) pc p (by rw [HPL.out]; simp only [maxLen]; omega) (readFt_own HP10.out) l HLL.out
      rw [HPL.out] at hc1
      have hc2 : ∀ W : World, Fr (fun _ => False) w10 W → Calls Try.prog 23 #[.pointer (some ⟨g, 0, none⟩), .slice (some ⟨qg, 0, none⟩) l.length qc] W (CrashAll W d l (q.set kn ⟨fk, fcut⟩)) := fun W hW => by
        have := crash_any (hat10.fr0 hW) (some ⟨qg, 0, none⟩) qc (q.set kn ⟨fk, fcut⟩) (by rw [List.length_set, HQL.out]; simp only [maxLen]; omega) (readFt_own (hW.own0 HQX.out)) l HLL.out
        rw [List.length_set, HQL.out] at this
        exact this
      have HC1 := Lib.hid hc1
      have HC2 := Lib.hid hc2
      clear hdb9 hat10 hc1 hc2 q0 q1 f0 f1 r0 r1 HF10 HQX HP9 HQ9
      go_wp2_with fail
      refine HC1.out.mono ?_
      rintro e w11 hcr
      rcases hcr with ⟨h1, _⟩ | ⟨_, g1, T1, rfl, hat11, hF11, hg1, hT1⟩
      · exact absurd HLAW.out.1 h1
      obtain ⟨S, hS⟩ : ∃ S, S = afterS (d.F.getD sN []) (d.L (sN : Int)) ⟨fk, fcut⟩ := ⟨_, rfl⟩
      have HSE := Lib.hid hS
      have h3 := HLAW.out.2.2.1
      have h5 := HLAW.out.2.2.2.2.1
      rw [HUP.out.1] at h3
      generalize crashF d l p = F1 at hat11 h3 h5
      rw [← hS] at h5
      have H1F : Hid (F1.length = 12 ∧ F1.getD sN [] = S) := ⟨h3, h5⟩
      have HAT1 := Lib.hid hat11
      have HF11 := Lib.hid hF11
      clear hat11 hF11 hg1 hT1 h3 h5 HC1
      go_wp2_with fail
      refine (HC2.out w11 HF11.out).mono ?_
      rintro e w12 hcr
      rcases hcr with ⟨h1, _⟩ | ⟨_, g2, T2, rfl, hat12, hF12, hg2, hT2⟩
      · exact absurd HLAW.out.2.1 h1
      have h4 := HLAW.out.2.2.2.1
      have h6 := HLAW.out.2.2.2.2.2
      rw [HUP.out.1] at h4
      generalize crashF d l (q.set kn ⟨fk, fcut⟩) = F2 at hat12 h4 h6
      rw [← hS] at h6
      have HF12 : Hid (Fr (fun _ => False) w10 w12) := HF11.out.trans hF12 (fun _ _ h => h)
      -- the reads
      have hrd : ∀ (W : World) (gx : Nat) (Tx : Nat → Prop) (Fx : List (List Int)), DkAt W gx Tx (newDk Fx) → Fx.length = 12 → Fx.getD sN [] = S → Sec S ∧ Calls Try.prog 24 #[.pointer (some ⟨gx, 0, none⟩), .int .i64 (sN : Int)] W (ReadPost W S 0) := fun W gx Tx Fx hx hl hg => by
        have hlt := HMM.out.2.1
        have r1 := read_any hx (sN : Int)
        have e1 : (newDk Fx).readE sN = 0 := by unfold Dk.readE; rw [if_neg (by simp [newDk])]; exact if_pos (by show (0 : Int) ≤ sN ∧ (sN : Int) < Fx.length; omega)
        have e2 : (newDk Fx).readB sN = Fx.getD sN [] := by unfold Dk.readB; rw [if_neg (by simp [newDk])]; exact if_pos (by show (0 : Int) ≤ sN ∧ (sN : Int) < Fx.length; omega)
        rw [e1, e2, hg] at r1
        have h7 := at_len hx sN (by show sN < Fx.length; omega)
        have h8 : (newDk Fx).at sN = Fx.getD sN [] := rfl
        rw [h8, hg] at h7
        exact ⟨h7, r1⟩
      have HR1 := Lib.hid (hrd w12 g1 T1 F1 (HAT1.out.fr0 hF12) H1F.out.1 H1F.out.2)
      have HR2 : Hid (∀ W : World, Fr (fun _ => False) w12 W → Calls Try.prog 24 #[.pointer (some ⟨g2, 0, none⟩), .int .i64 (sN : Int)] W (ReadPost W S 0)) := fun W hW => (hrd W g2 T2 F2 (hat12.fr0 hW) h4 h6).2
      obtain ⟨lg, rfl, hl0, _⟩ := readLo_own (HF12.out.own0 HL10.out) HMK.out
      simp only at hl0
      have HL0 := Lib.hid hl0
      clear hS hat12 hF12 hg2 hT2 h4 h6 hrd HAT1 HF11 HC2
      go_upto_region 26 with fail
      go_wp2_with fail
      refine HR1.out.2.mono ?_
      rintro e w13 ⟨v13, rfl, ho13, hF13⟩
      rw [HR1.out.1.1] at ho13
      obtain ⟨RA, rc, rfl⟩ := own_slice ho13
      obtain ⟨rg, hrg⟩ := own_some ho13 (by omega)
      subst hrg
      have HO13 := Lib.hid ho13
      have HF13 := Lib.hid hF13
      have hl0 := hF13.cell0 HL0.out
      clear ho13 hF13
      go_wp2_with fail
      refine (HR2.out w13 HF13.out).mono ?_
      rintro e w14 ⟨v14, rfl, ho14, hF14⟩
      rw [HR1.out.1.1] at ho14
      obtain ⟨QB, qd, rfl⟩ := own_slice ho14
      obtain ⟨rq, hrq⟩ := own_some ho14 (by omega)
      subst hrq
      have HF14 : Hid (Fr (fun _ => False) w12 w14) := HF13.out.trans hF14 (fun _ _ h => h)
      have HO13' := Lib.hid (hF14.own0 HO13.out)
      have HO14 := Lib.hid ho14
      have HF1014 : Hid (Fr (fun _ => False) w10 w14) := HF12.out.trans HF14.out (fun _ _ h => h)
      clear ho14 hF14 hl0 HR2 HO13
      have hrat := HRAT.out.fr0 HF1014.out
      obtain ⟨sb, U, hs, hin, _⟩ := hrat
      have hlen := HUP.out.1
      have hsN12 := HMM.out.2.1
      have hpu := HDB.out.puts
      obtain ⟨o, ho, his, z0, z1⟩ := hin.cells (i := sN) (by rw [hlen]; exact hsN12)
      have z2 := blk_cell hin.box 0
      have hsec : Sec (d.F.getD sN []) := by
        obtain ⟨y, hy⟩ : ∃ y, d.F[sN]? = some y := ⟨_, List.getElem?_eq_getElem (by rw [hlen]; exact hsN12)⟩
        have : d.F.getD sN [] = y := by simp [List.getD, hy]
        rw [this]
        exact hin.pure.secs y (List.mem_of_getElem? hy)
      have haft : ∀ W : World, Fr (fun _ => False) w14 W → Calls Try.prog 25 #[.agg #[.slice o.fa 128 o.fc, .slice o.la (d.L (sN : Int)).length o.lc], .agg #[.int .i64 fk, .int .i64 fcut]] W (AfterPost W S) := fun W hW => by
        have h1 := after_any (f := ⟨fk, fcut⟩) (his.2.2.1.u.fr hW (fun _ _ _ h => h)) (fc := o.fc) (lc := o.lc) (his.2.2.2.fr hW (fun _ _ h => h)) hsec (hin.pure.lsecs _) (by have := hin.pure.lens (sN : Int); omega) (by rw [← HMM.out.2.2]; exact HFM.out)
        rw [← HSE.out] at h1
        exact h1
      rw [hlen] at z2
      have c1 : w14.cell? ⟨gr, 0, none⟩ = some (.slice (some ⟨sb, 0, none⟩) 12 12) := z2
      have c2 := HF14.out.cell0 HL0.out
      have hp14 := HF1014.out.own0 HP10.out
      have c3 : w14.cell? ⟨pg, kn * 2, none⟩ = some (.int .i64 fk) := by
        have := (own_news hp14).1 _ rfl _ _ (flat_at (f := Ft.cells) (s := 2) (fun _ => rfl) p kn 0 _ _ HFK.out rfl)
        rw [add_some] at this
        simpa using this
      have c4 : w14.cell? ⟨pg, kn * 2 + 1, none⟩ = some (.int .i64 fcut) := by
        have := (own_news hp14).1 _ rfl _ _ (flat_at (f := Ft.cells) (s := 2) (fun _ => rfl) p kn 1 _ _ HFK.out rfl)
        rw [add_some] at this
        simpa using this
      have hs128 := HR1.out.1.1
      have HST : Hid (∀ (W : World) (B ag ac : Nat), W.ownsRow B 5 1 (.slice (some ⟨ag, 0, none⟩) 128 ac) 128 (by8 S) → (convert 33 9 (.slice (some ⟨ag, 0, none⟩) 128 ac)).run Try.prog W = .ok (.string (strOfNums S)) W) := fun W B ag ac h => str_own h hs128
      obtain ⟨t, ht⟩ : ∃ t, t = strOfNums S := ⟨_, rfl⟩
      rw [← ht] at HST
      obtain ⟨nL, hnL⟩ : ∃ nL, (d.L (sN : Int)).length = nL := ⟨_, rfl⟩
      rw [hnL] at haft z1
      obtain ⟨oa, on, oc, ola, oll, olc⟩ := o
      simp only at haft z0 z1
      have HAFT := Lib.hid haft
      have HS3 : Hid (∀ W : World, Fr (fun _ => False) w14 W → W.cell? ⟨gr, 0, none⟩ = some (.slice (some ⟨sb, 0, none⟩) 12 12) ∧ W.cell? ⟨lg, kn * 2, none⟩ = some (.int .i64 (sN : Int)) ∧ W.cell? ⟨sb, sN * 2, none⟩ = some (.slice oa 128 oc) ∧ W.cell? ⟨sb, sN * 2 + 1, none⟩ = some (.slice ola nL olc) ∧ W.cell? ⟨pg, kn * 2, none⟩ = some (.int .i64 fk) ∧ W.cell? ⟨pg, kn * 2 + 1, none⟩ = some (.int .i64 fcut) ∧
          (convert 33 9 (.slice (some ⟨rg, 0, none⟩) 128 rc)).run Try.prog W = .ok (.string t) W ∧ (convert 33 9 (.slice (some ⟨rq, 0, none⟩) 128 qd)).run Try.prog W = .ok (.string t) W) := fun W hW =>
        ⟨hW.cell0 c1, hW.cell0 c2, hW.cell0 z0, hW.cell0 z1, hW.cell0 c3, hW.cell0 c4, HST.out W _ _ _ (hW.own0 HO13'.out), HST.out W _ _ _ (hW.own0 HO14.out)⟩
      have HF : Hid (Fr (fun _ => False) w14 w14) := Fr.refl _ _
      have hsNi : (sN : Int) < 12 := by omega
      have HFW14 : Hid (Fr (fun q => w.heap.size ≤ q) w w14) := HFW10.out.trans HF1014.out (fun _ _ h => h.elim)
      clear hin hlen hpu ho his hsec haft c1 c2 c3 c4 z0 z1 z2 hp14 hs128 ht hnL HO13' HO14 HL0 HRAT
      obtain ⟨q0, q1, q2, q3, q4, q5, q6, q7⟩ := HS3.out w14 (Fr.refl _ _)
      go_upto_region 28 with fail
      clear q0 q1 q2 q3 q4 q5 q6 q7
      refine wp_region_noPanic ?_
      refine wp_region_T (fun W => W.cell? ⟨gr, 0, none⟩ = some (.slice (some ⟨sb, 0, none⟩) 12 12) ∧ W.cell? ⟨lg, kn * 2, none⟩ = some (.int .i64 (sN : Int)) ∧ W.cell? ⟨sb, sN * 2, none⟩ = some (.slice oa 128 oc) ∧ W.cell? ⟨sb, sN * 2 + 1, none⟩ = some (.slice ola nL olc) ∧ W.cell? ⟨pg, kn * 2, none⟩ = some (.int .i64 fk) ∧ W.cell? ⟨pg, kn * 2 + 1, none⟩ = some (.int .i64 fcut) ∧ (convert 33 9 (.slice (some ⟨rg, 0, none⟩) 128 rc)).run Try.prog W = .ok (.string t) W ∧ (convert 33 9 (.slice (some ⟨rq, 0, none⟩) 128 qd)).run Try.prog W = .ok (.string t) W) 35 (by kernel_rfl) (HS3.out _ (Fr.refl _ _).drew) (fun hS0 => ?_)
      obtain ⟨wz, hwz⟩ : ∃ wz, wz = w14.drew := ⟨_, rfl⟩
      rw [← hwz] at hS0 ⊢
      have HFZ : Hid (Fr (fun _ => False) w14 wz) := (by rw [hwz]; exact (Fr.refl _ _).drew : Fr (fun _ => False) w14 wz)
      clear hwz HF
      refine wpAnyT_taked (i := 0) (d := 180) (v := ?_) rfl rfl (by kernel_rfl) (by kernel_rfl) (by kernel_rfl) (by kernel_rfl) rfl (fun _ _ _ h => h) (Or.inl ⟨by rfl, ?_⟩) (by assumption) ?_
      rotate_left 1
      · rintro w' ⟨hs0, hs1, hs2, hs3, hs4, hs5, hs6, hs7⟩
        go_simp
        try (with_reducible rfl)
      try simp only [Act.put, List.setIfInBounds_toArray, List.set_cons_zero, List.set_cons_succ]
      refine wpAnyT_taked (i := 1) (d := 181) (v := ?_) rfl rfl (by kernel_rfl) (by kernel_rfl) (by kernel_rfl) (by kernel_rfl) rfl (fun _ _ _ h => h) (Or.inl ⟨by rfl, ?_⟩) (by assumption) ?_
      rotate_left 1
      · rintro w' ⟨hs0, hs1, hs2, hs3, hs4, hs5, hs6, hs7⟩
        go_simp
        try (with_reducible rfl)
      try simp only [Act.put, List.setIfInBounds_toArray, List.set_cons_zero, List.set_cons_succ]
      refine wpAnyT_taked (i := 2) (d := 182) (v := ?_) rfl rfl (by kernel_rfl) (by kernel_rfl) (by kernel_rfl) (by kernel_rfl) rfl (fun _ _ _ h => h) (Or.inl ⟨by rfl, ?_⟩) (by assumption) ?_
      rotate_left 1
      · rintro w' ⟨hs0, hs1, hs2, hs3, hs4, hs5, hs6, hs7⟩
        go_simp
        try (with_reducible rfl)
      try simp only [Act.put, List.setIfInBounds_toArray, List.set_cons_zero, List.set_cons_succ]
      refine wpAnyT_taked (i := 3) (d := 183) (v := ?_) rfl rfl (by kernel_rfl) (by kernel_rfl) (by kernel_rfl) (by kernel_rfl) rfl (fun _ _ _ h => h) (Or.inl ⟨by rfl, ?_⟩) (by assumption) ?_
      rotate_left 1
      · rintro w' ⟨hs0, hs1, hs2, hs3, hs4, hs5, hs6, hs7⟩
        go_simp
        try (with_reducible rfl)
      try simp only [Act.put, List.setIfInBounds_toArray, List.set_cons_zero, List.set_cons_succ]
      refine wpAnyT_taked (i := 4) (d := 184) (v := ?_) rfl rfl (by kernel_rfl) (by kernel_rfl) (by kernel_rfl) (by kernel_rfl) rfl (fun _ _ _ h => h) (Or.inl ⟨by rfl, ?_⟩) (by assumption) ?_
      rotate_left 1
      · rintro w' ⟨hs0, hs1, hs2, hs3, hs4, hs5, hs6, hs7⟩
        go_simp
        try (with_reducible rfl)
      try simp only [Act.put, List.setIfInBounds_toArray, List.set_cons_zero, List.set_cons_succ]
      refine wpAnyT_taked (i := 5) (d := 185) (v := ?_) rfl rfl (by kernel_rfl) (by kernel_rfl) (by kernel_rfl) (by kernel_rfl) rfl (fun _ _ _ h => h) (Or.inl ⟨by rfl, ?_⟩) (by assumption) ?_
      rotate_left 1
      · rintro w' ⟨hs0, hs1, hs2, hs3, hs4, hs5, hs6, hs7⟩
        go_simp
        try (with_reducible rfl)
      try simp only [Act.put, List.setIfInBounds_toArray, List.set_cons_zero, List.set_cons_succ]
      refine wpAnyT_taked (i := 6) (d := 186) (v := ?_) rfl rfl (by kernel_rfl) (by kernel_rfl) (by kernel_rfl) (by kernel_rfl) rfl (fun _ _ _ h => h) (Or.inl ⟨by rfl, ?_⟩) (by assumption) ?_
      rotate_left 1
      · rintro w' ⟨hs0, hs1, hs2, hs3, hs4, hs5, hs6, hs7⟩
        go_simp
        try (with_reducible rfl)
      try simp only [Act.put, List.setIfInBounds_toArray, List.set_cons_zero, List.set_cons_succ]
      refine wpAnyT_taked (i := 7) (d := 187) (v := ?_) rfl rfl (by kernel_rfl) (by kernel_rfl) (by kernel_rfl) (by kernel_rfl) rfl (fun _ _ _ h => h) (Or.inl ⟨by rfl, ?_⟩) (by assumption) ?_
      rotate_left 1
      · rintro w' ⟨hs0, hs1, hs2, hs3, hs4, hs5, hs6, hs7⟩
        go_simp
        try (with_reducible rfl)
      try simp only [Act.put, List.setIfInBounds_toArray, List.set_cons_zero, List.set_cons_succ]
      refine wpAnyT_taked (i := 8) (d := 188) (v := ?_) rfl rfl (by kernel_rfl) (by kernel_rfl) (by kernel_rfl) (by kernel_rfl) rfl (fun _ _ _ h => h) (Or.inl ⟨by rfl, ?_⟩) (by assumption) ?_
      rotate_left 1
      · rintro w' ⟨hs0, hs1, hs2, hs3, hs4, hs5, hs6, hs7⟩
        go_simp
        try (with_reducible rfl)
      try simp only [Act.put, List.setIfInBounds_toArray, List.set_cons_zero, List.set_cons_succ]
      refine wpAnyT_taked (i := 9) (d := 189) (v := ?_) rfl rfl (by kernel_rfl) (by kernel_rfl) (by kernel_rfl) (by kernel_rfl) rfl (fun _ _ _ h => h) (Or.inl ⟨by rfl, ?_⟩) (by assumption) ?_
      rotate_left 1
      · rintro w' ⟨hs0, hs1, hs2, hs3, hs4, hs5, hs6, hs7⟩
        go_simp
        try (with_reducible rfl)
      try simp only [Act.put, List.setIfInBounds_toArray, List.set_cons_zero, List.set_cons_succ]
      refine wpAnyT_taked (i := 10) (d := 190) (v := ?_) rfl rfl (by kernel_rfl) (by kernel_rfl) (by kernel_rfl) (by kernel_rfl) rfl (fun _ _ _ h => h) (Or.inl ⟨by rfl, ?_⟩) (by assumption) ?_
      rotate_left 1
      · rintro w' ⟨hs0, hs1, hs2, hs3, hs4, hs5, hs6, hs7⟩
        go_simp
        try (with_reducible rfl)
      try simp only [Act.put, List.setIfInBounds_toArray, List.set_cons_zero, List.set_cons_succ]
      refine wpAnyT_taked (i := 11) (d := 191) (v := ?_) rfl rfl (by kernel_rfl) (by kernel_rfl) (by kernel_rfl) (by kernel_rfl) rfl (fun _ _ _ h => h) (Or.inl ⟨by rfl, ?_⟩) (by assumption) ?_
      rotate_left 1
      · rintro w' ⟨hs0, hs1, hs2, hs3, hs4, hs5, hs6, hs7⟩
        go_simp
        try (with_reducible rfl)
      try simp only [Act.put, List.setIfInBounds_toArray, List.set_cons_zero, List.set_cons_succ]
      refine wpAnyT_taked (i := 12) (d := 192) (v := ?_) rfl rfl (by kernel_rfl) (by kernel_rfl) (by kernel_rfl) (by kernel_rfl) rfl (fun _ _ _ h => h) (Or.inl ⟨by rfl, ?_⟩) (by assumption) ?_
      rotate_left 1
      · rintro w' ⟨hs0, hs1, hs2, hs3, hs4, hs5, hs6, hs7⟩
        go_simp
        try (with_reducible rfl)
      try simp only [Act.put, List.setIfInBounds_toArray, List.set_cons_zero, List.set_cons_succ]
      refine wpAnyT_taked (i := 13) (d := 193) (v := ?_) rfl rfl (by kernel_rfl) (by kernel_rfl) (by kernel_rfl) (by kernel_rfl) rfl (fun _ _ _ h => h) (Or.inl ⟨by rfl, ?_⟩) (by assumption) ?_
      rotate_left 1
      · rintro w' ⟨hs0, hs1, hs2, hs3, hs4, hs5, hs6, hs7⟩
        go_simp
        try (with_reducible rfl)
      try simp only [Act.put, List.setIfInBounds_toArray, List.set_cons_zero, List.set_cons_succ]
      refine wpAnyT_taked (i := 14) (d := 194) (v := ?_) rfl rfl (by kernel_rfl) (by kernel_rfl) (by kernel_rfl) (by kernel_rfl) rfl (fun _ _ _ h => h) (Or.inl ⟨by rfl, ?_⟩) (by assumption) ?_
      rotate_left 1
      · rintro w' ⟨hs0, hs1, hs2, hs3, hs4, hs5, hs6, hs7⟩
        go_simp
        try (with_reducible rfl)
      try simp only [Act.put, List.setIfInBounds_toArray, List.set_cons_zero, List.set_cons_succ]
      refine wpAnyT_taked (i := 15) (d := 195) (v := ?_) rfl rfl (by kernel_rfl) (by kernel_rfl) (by kernel_rfl) (by kernel_rfl) rfl (fun _ _ _ h => h) (Or.inl ⟨by rfl, ?_⟩) (by assumption) ?_
      rotate_left 1
      · rintro w' ⟨hs0, hs1, hs2, hs3, hs4, hs5, hs6, hs7⟩
        go_simp
        try (with_reducible rfl)
      try simp only [Act.put, List.setIfInBounds_toArray, List.set_cons_zero, List.set_cons_succ]
      refine wpAnyT_taked (i := 16) (d := 196) (v := ?_) rfl rfl (by kernel_rfl) (by kernel_rfl) (by kernel_rfl) (by kernel_rfl) rfl (fun _ _ _ h => h) (Or.inl ⟨by rfl, ?_⟩) (by assumption) ?_
      rotate_left 1
      · rintro w' ⟨hs0, hs1, hs2, hs3, hs4, hs5, hs6, hs7⟩
        go_simp
        try (with_reducible rfl)
      try simp only [Act.put, List.setIfInBounds_toArray, List.set_cons_zero, List.set_cons_succ]
      refine wpAnyT_taked (i := 17) (d := 197) (v := ?_) rfl rfl (by kernel_rfl) (by kernel_rfl) (by kernel_rfl) (by kernel_rfl) rfl (fun _ _ _ h => h) (Or.inl ⟨by rfl, ?_⟩) (by assumption) ?_
      rotate_left 1
      · rintro w' ⟨hs0, hs1, hs2, hs3, hs4, hs5, hs6, hs7⟩
        go_simp
        try (with_reducible rfl)
      try simp only [Act.put, List.setIfInBounds_toArray, List.set_cons_zero, List.set_cons_succ]
      refine wpAnyT_taked (i := 18) (d := 198) (v := ?_) rfl rfl (by kernel_rfl) (by kernel_rfl) (by kernel_rfl) (by kernel_rfl) rfl (fun _ _ _ h => h) (Or.inl ⟨by rfl, ?_⟩) (by assumption) ?_
      rotate_left 1
      · rintro w' ⟨hs0, hs1, hs2, hs3, hs4, hs5, hs6, hs7⟩
        go_simp
        try (with_reducible rfl)
      try simp only [Act.put, List.setIfInBounds_toArray, List.set_cons_zero, List.set_cons_succ]
      refine wpAnyT_taked (i := 19) (d := 199) (v := ?_) rfl rfl (by kernel_rfl) (by kernel_rfl) (by kernel_rfl) (by kernel_rfl) rfl (fun _ _ _ h => h) (Or.inl ⟨by rfl, ?_⟩) (by assumption) ?_
      rotate_left 1
      · rintro w' ⟨hs0, hs1, hs2, hs3, hs4, hs5, hs6, hs7⟩
        go_simp
        try (with_reducible rfl)
      try simp only [Act.put, List.setIfInBounds_toArray, List.set_cons_zero, List.set_cons_succ]
      refine wpAnyT_taked (i := 20) (d := 200) (v := ?_) rfl rfl (by kernel_rfl) (by kernel_rfl) (by kernel_rfl) (by kernel_rfl) rfl (fun _ _ _ h => h) (Or.inl ⟨by rfl, ?_⟩) (by assumption) ?_
      rotate_left 1
      · rintro w' ⟨hs0, hs1, hs2, hs3, hs4, hs5, hs6, hs7⟩
        go_simp
        try (with_reducible rfl)
      try simp only [Act.put, List.setIfInBounds_toArray, List.set_cons_zero, List.set_cons_succ]
      refine wpAnyT_taked (i := 21) (d := 201) (v := ?_) rfl rfl (by kernel_rfl) (by kernel_rfl) (by kernel_rfl) (by kernel_rfl) rfl (fun _ _ _ h => h) (Or.inl ⟨by rfl, ?_⟩) (by assumption) ?_
      rotate_left 1
      · rintro w' ⟨hs0, hs1, hs2, hs3, hs4, hs5, hs6, hs7⟩
        go_simp
        try (with_reducible rfl)
      try simp only [Act.put, List.setIfInBounds_toArray, List.set_cons_zero, List.set_cons_succ]
      refine wpAnyT_taked (i := 22) (d := 202) (v := ?_) rfl rfl (by kernel_rfl) (by kernel_rfl) (by kernel_rfl) (by kernel_rfl) rfl (fun _ _ _ h => h) (Or.inl ⟨by rfl, ?_⟩) (by assumption) ?_
      rotate_left 1
      · rintro w' ⟨hs0, hs1, hs2, hs3, hs4, hs5, hs6, hs7⟩
        go_simp
        try (with_reducible rfl)
      try simp only [Act.put, List.setIfInBounds_toArray, List.set_cons_zero, List.set_cons_succ]
      refine wpAnyT_taked (i := 23) (d := 203) (v := ?_) rfl rfl (by kernel_rfl) (by kernel_rfl) (by kernel_rfl) (by kernel_rfl) rfl (fun _ _ _ h => h) (Or.inl ⟨by rfl, ?_⟩) (by assumption) ?_
      rotate_left 1
      · rintro w' ⟨hs0, hs1, hs2, hs3, hs4, hs5, hs6, hs7⟩
        go_simp
        try (with_reducible rfl)
      try simp only [Act.put, List.setIfInBounds_toArray, List.set_cons_zero, List.set_cons_succ]
      refine wpAnyT_taked (i := 24) (d := 204) (v := ?_) rfl rfl (by kernel_rfl) (by kernel_rfl) (by kernel_rfl) (by kernel_rfl) rfl (fun _ _ _ h => h) (Or.inl ⟨by rfl, ?_⟩) (by assumption) ?_
      rotate_left 1
      · rintro w' ⟨hs0, hs1, hs2, hs3, hs4, hs5, hs6, hs7⟩
        go_simp
        try (with_reducible rfl)
      try simp only [Act.put, List.setIfInBounds_toArray, List.set_cons_zero, List.set_cons_succ]
      refine wpAnyT_taked (i := 25) (d := 205) (v := ?_) rfl rfl (by kernel_rfl) (by kernel_rfl) (by kernel_rfl) (by kernel_rfl) rfl (fun _ _ _ h => h) (Or.inl ⟨by rfl, ?_⟩) (by assumption) ?_
      rotate_left 1
      · rintro w' ⟨hs0, hs1, hs2, hs3, hs4, hs5, hs6, hs7⟩
        go_simp
        try (with_reducible rfl)
      try simp only [Act.put, List.setIfInBounds_toArray, List.set_cons_zero, List.set_cons_succ]
      refine wpAnyT_taked (i := 26) (d := 206) (v := ?_) rfl rfl (by kernel_rfl) (by kernel_rfl) (by kernel_rfl) (by kernel_rfl) rfl (fun _ _ _ h => h) (Or.inl ⟨by rfl, ?_⟩) (by assumption) ?_
      rotate_left 1
      · rintro w' ⟨hs0, hs1, hs2, hs3, hs4, hs5, hs6, hs7⟩
        go_simp
        try (with_reducible rfl)
      try simp only [Act.put, List.setIfInBounds_toArray, List.set_cons_zero, List.set_cons_succ]
      refine wpAnyT_taked (i := 27) (d := 207) (v := ?_) rfl rfl (by kernel_rfl) (by kernel_rfl) (by kernel_rfl) (by kernel_rfl) rfl (fun _ _ _ h => h) (Or.inl ⟨by rfl, ?_⟩) (by assumption) ?_
      rotate_left 1
      · rintro w' ⟨hs0, hs1, hs2, hs3, hs4, hs5, hs6, hs7⟩
        go_simp
        try (with_reducible rfl)
      try simp only [Act.put, List.setIfInBounds_toArray, List.set_cons_zero, List.set_cons_succ]
      refine wpAnyT_taked (i := 28) (d := 208) (v := ?_) rfl rfl (by kernel_rfl) (by kernel_rfl) (by kernel_rfl) (by kernel_rfl) rfl (fun _ _ _ h => h) (Or.inl ⟨by rfl, ?_⟩) (by assumption) ?_
      rotate_left 1
      · rintro w' ⟨hs0, hs1, hs2, hs3, hs4, hs5, hs6, hs7⟩
        go_simp
        try (with_reducible rfl)
      try simp only [Act.put, List.setIfInBounds_toArray, List.set_cons_zero, List.set_cons_succ]
      refine wpAnyT_taked (i := 29) (d := 209) (v := ?_) rfl rfl (by kernel_rfl) (by kernel_rfl) (by kernel_rfl) (by kernel_rfl) rfl (fun _ _ _ h => h) (Or.inl ⟨by rfl, ?_⟩) (by assumption) ?_
      rotate_left 1
      · rintro w' ⟨hs0, hs1, hs2, hs3, hs4, hs5, hs6, hs7⟩
        go_simp
        try (with_reducible rfl)
      try simp only [Act.put, List.setIfInBounds_toArray, List.set_cons_zero, List.set_cons_succ]
      refine wpAnyT_taked (i := 30) (d := 210) (v := ?_) rfl rfl (by kernel_rfl) (by kernel_rfl) (by kernel_rfl) (by kernel_rfl) rfl (fun _ _ _ h => h) (Or.inl ⟨by rfl, ?_⟩) (by assumption) ?_
      rotate_left 1
      · rintro w' ⟨hs0, hs1, hs2, hs3, hs4, hs5, hs6, hs7⟩
        go_simp
        try (with_reducible rfl)
      try simp only [Act.put, List.setIfInBounds_toArray, List.set_cons_zero, List.set_cons_succ]
      refine wpAnyT_one (i := 31) (by kernel_rfl) rfl rfl (fun K hK => ?_)
      go_simp
      refine (HAFT.out _ HFZ.out).mono ?_
      rintro e wn ⟨A5, c5, rfl, ho5, hf⟩
      obtain ⟨ag, hag⟩ := own_some ho5 (by omega)
      subst hag
      have hk0 := HST.out wn _ _ _ ho5
      have HFN : Hid (Fr (fun _ => False) w14 wn) := HFZ.out.trans hf (fun _ _ h => h)
      have hSN := HS3.out wn HFN.out
      clear ho5 hf hS0
      go_wp2_with fail
      refine hK.out _ _ hSN ?_
      clear hK K
      try simp only [Act.put, List.setIfInBounds_toArray, List.set_cons_zero, List.set_cons_succ]
      refine wpAnyT_one (i := 32) (by kernel_rfl) rfl rfl (fun K hK => ?_)
      go_simp
      refine hK.out _ _ hSN ?_
      clear hK K
      try simp only [Act.put, List.setIfInBounds_toArray, List.set_cons_zero, List.set_cons_succ]
      refine wpAnyT_one (i := 33) (by kernel_rfl) rfl rfl (fun K hK => ?_)
      go_simp
      refine hK.out _ _ hSN ?_
      clear hK K
      try simp only [Act.put, List.setIfInBounds_toArray, List.set_cons_zero, List.set_cons_succ]
      refine wpAnyT_one (i := 34) (by kernel_rfl) rfl rfl (fun K hK => ?_)
      go_simp
      refine hK.out _ _ hSN ?_
      clear hK K
      try simp only [Act.put, List.setIfInBounds_toArray, List.set_cons_zero, List.set_cons_succ]
      refine wpAnyT_last (by kernel_rfl) rfl (by kernel_rfl) (fun K hK => ?_)
      go_simp
      refine hK.out _ _ ?_
      clear hK K hSN hk0
      refine NoPanic.normal ?_
      have HFIN : Hid (Fr (fun _ => False) w wn) := (HFW14.out.trans HFN.out (fun _ _ h => h.elim)).toBelow
      go_wp2_with fail
      go_ret
      exact ⟨rfl, HFIN.out⟩
end Go.Proofs.Ytdamegjhdopfaaa
