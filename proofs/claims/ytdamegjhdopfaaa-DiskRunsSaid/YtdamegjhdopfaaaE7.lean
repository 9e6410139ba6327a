/- The document's disk: After. -/
import Derived.Test.YtdamegjhdopfaaaE6
namespace Go.Proofs.Ytdamegjhdopfaaa
open Go.RowKit Go.WideShapes
set_option linter.unusedSimpArgs false
set_option linter.unusedVariables false

theorem own_set {w : World} {B g n c i size : Nat} {e : TypeId} {xs : List Value} (h : w.ownsRow B e size (.slice (some ⟨g, 0, none⟩) n c) n xs) (hi : i < n * size) (u : Value) : (w.setCell ⟨g, i, none⟩ u).ownsRow B e size (.slice (some ⟨g, 0, none⟩) n c) n (xs.set i u) := by
  refine ⟨by rw [List.length_set]; exact h.1, ?_⟩
  rcases h.2 with ⟨hv, _⟩ | ⟨g2, c2, cur, hv, h1, h2, h3, h4, h5, h6⟩
  · cases hv
  · simp only [Value.slice.injEq, Option.some.injEq, Addr.mk.injEq, and_true, true_and] at hv
    obtain ⟨rfl, rfl⟩ := hv
    refine .inr ⟨g, c, cur.setIfInBounds i u, rfl, h1, by rw [blk_set h2], h3, h4, by simpa using h5, ?_⟩
    rw [← h6, Array.toList_setIfInBounds, List.take_set]
theorem set_walk {α : Type} (src base : List α) (i : Nat) (x : α) (hx : src[i]? = some x) (hb : i < base.length) : (src.take i ++ base.drop i).set i x = src.take (i + 1) ++ base.drop (i + 1) := by
  have hi := (List.getElem?_eq_some_iff.1 hx).1
  have hl : (src.take i).length = i := by rw [List.length_take]; omega
  obtain ⟨y, hy⟩ : ∃ y, base[i]? = some y := ⟨_, List.getElem?_eq_getElem hb⟩
  have hd : base.drop i = y :: base.drop (i + 1) := by
    rw [List.drop_eq_getElem_cons hb]
    congr 1
    rw [List.getElem?_eq_getElem hb] at hy
    exact Option.some.inj hy
  rw [List.set_append_right _ _ (by omega), hl, Nat.sub_self, hd, List.set_cons_zero, List.take_add_one, hx]
  simp
theorem cell_lt' {w : World} {a : Addr} {v : Value} (h : w.cell? a = some v) : a.block < w.heap.size := World.block_lt_of_cell? _ _ h
def AfterPost (w : World) (b : List Int) (e : Ending) (w' : World) : Prop :=
  ∃ A c, e = .returned (.slice A 128 c) ∧ w'.ownsRow w.heap.size 5 1 (.slice A 128 c) 128 (by8 b) ∧ Fr (fun _ => False) w w'

set_option maxRecDepth 100000 in
set_option maxHeartbeats 4000000 in
theorem after_any {w : World} {FA LA : Option Addr} {fc lc : Nat} {s : List Int} {L : List (List Int)} {U : Nat → Prop} (hR : ReadU w FA s) (hV : ReadVV U w LA L) (hs : Sec s) (hL : ∀ x ∈ L, Sec x) (hLl : L.length ≤ 1000000) (f : Ft) (hm : mayB f.keep f.cut L.length = true) :
    Calls Try.prog 25 #[.agg #[.slice FA 128 fc, .slice LA L.length lc], .agg #[.int .i64 f.keep, .int .i64 f.cut]] w (AfterPost w (afterS s L f)) := by
  have hm1 : 0 ≤ f.keep ∧ f.keep ≤ L.length ∧ 0 ≤ f.cut ∧ f.cut < 128 ∧ (f.cut = 0 ∨ f.keep < L.length) := by
    unfold mayB at hm
    simp at hm
    exact ⟨hm.1.1.1.1, hm.1.1.1.2, hm.1.1.2, hm.1.2, hm.2⟩
  obtain ⟨fk, fcut⟩ := f
  simp only at hm1 ⊢
  obtain ⟨m1, m2, m3, m4, m5⟩ := hm1
  obtain ⟨kp, rfl⟩ := Int.eq_ofNat_of_zero_le m1
  obtain ⟨ct, rfl⟩ := Int.eq_ofNat_of_zero_le m3
  have HR := Lib.hid hR
  have HV := Lib.hid hV
  have HS := Lib.hid hs
  have HL := Lib.hid hL
  have M5 := Lib.hid m5
  obtain ⟨base, hbase⟩ : ∃ base, base = if 0 < kp then L.getD (kp - 1) [] else s := ⟨_, rfl⟩
  obtain ⟨src, hsrc⟩ : ∃ src, src = L.getD kp [] := ⟨_, rfl⟩
  have haft : afterS s L ⟨(kp : Int), (ct : Int)⟩ = src.take ct ++ base.drop ct := by
    unfold afterS
    rw [hsrc, hbase]
    simp only [Int.toNat_natCast]
    by_cases h0 : 0 < ct
    · rw [if_pos (by omega)]
      by_cases h1 : 0 < kp
      · rw [if_pos (by omega), if_pos h1]
      · rw [if_neg (by omega), if_neg h1]
    · rw [if_neg (by omega)]
      obtain rfl : ct = 0 := by omega
      by_cases h1 : 0 < kp
      · rw [if_pos (by omega), if_pos h1]; simp
      · rw [if_neg (by omega), if_neg h1]; simp
  rw [haft]
  have HBASE := Lib.hid hbase
  have HSRC := Lib.hid hsrc
  have hlen := hLl
  clear hR hV hs hL hm m1 m3 m5 haft hbase hsrc hLl
  obtain ⟨n, hn⟩ : ∃ n, n = L.length := ⟨_, rfl⟩
  rw [← hn] at m2 M5 hlen ⊢
  have HN := Lib.hid hn
  clear hn
  go_enter Try.func25, Try.ntmps25
  go_upto_region 1 with fail
  obtain ⟨w1, he, hn1, hF1, hs1⟩ := alloc1 w (.cells #[.slice FA 128 fc, .slice LA n lc] 52)
  rw [he]
  obtain ⟨w2, he2, hn2, hF2, hs2⟩ := alloc1 w1 (.cells #[.int .i64 kp, .int .i64 ct] 43)
  rw [he2]
  rw [hs1] at hn2 hs2
  have hb1 := hF2.blk0 hn1
  have HF2 := Lib.hid (hF1.trans hF2 (fun _ _ h => h))
  have HS2 := Lib.hid hs2
  have HB1 := Lib.hid hb1
  have HB2 := Lib.hid hn2
  obtain ⟨b1, hq1⟩ : ∃ b1, b1 = w.heap.size := ⟨_, rfl⟩
  obtain ⟨b2, hq2⟩ : ∃ b2, b2 = w.heap.size + 1 := ⟨_, rfl⟩
  rw [← hq1] at HB1
  rw [← hq2] at HB2
  rw [← hq2, ← hq1]
  have HQ : Hid (b1 = w.heap.size ∧ b2 = w.heap.size + 1) := ⟨hq1, hq2⟩
  have y0 : w2.cell? ⟨b1, 0, none⟩ = some (.slice FA 128 fc) := blk_cell HB1.out 0
  have y1 : w2.cell? ⟨b1, 1, none⟩ = some (.slice LA n lc) := blk_cell HB1.out 1
  have y2 : w2.cell? ⟨b2, 0, none⟩ = some (.int .i64 kp) := blk_cell HB2.out 0
  have y3 : w2.cell? ⟨b2, 1, none⟩ = some (.int .i64 ct) := blk_cell HB2.out 1
  clear he he2 hn1 hn2 hF1 hF2 hs1 hs2 hb1 hq1 hq2
  have hFa : Fr (fun _ => False) w2 (w2.alloc (.cells #[] 5)) := (Fr.refl _ _).alloc _
  have y0' := hFa.cell0 y0
  have HRA : Hid (ReadU (w2.alloc (.cells #[] 5)) FA s) := (HR.out.fr HF2.out (fun _ _ _ h => h)).fr hFa (fun _ _ _ h => h)
  have HFA := Lib.hid hFa
  clear hFa
  go_upto_region 2 with (at_builtin; refine wpl_copy8 rfl (.tmp 7) (.tmp 9) rfl w2.heap.size rfl (blk_new _ _) FA 128 fc s rfl HS.out.1.symm HRA.out (by rw [HS.out.1]; omega) (by rw [HS.out.1]; omega) ?_; intro A4 c4 w4 ho4 hF4 hm4)
  have HF4 : Hid (Fr (fun _ => False) w2 w4) := HFA.out.trans' hF4 (fun _ _ h => h) (fun q hq e => by omega)
  rw [HS.out.1] at ho4 ⊢
  have HO4 : Hid (w4.ownsRow w.heap.size 5 1 (.slice A4 128 c4) 128 (by8 s)) := own_up (own_base ho4) (fun q hq => by have := (ho4.lt q hq).1; have := HS2.out; omega)
  have y1 := HF4.out.cell0 y1
  have y2 := HF4.out.cell0 y2
  have y3 := HF4.out.cell0 y3
  clear ho4 hF4 hm4 y0 y0' HRA HFA
  go_upto_if 13 with fail
  go_cut [5] (fun v wd => ∃ A5 c5, v = .slice A5 128 c5 ∧ Hid (wd.ownsRow w.heap.size 5 1 (.slice A5 128 c5) 128 (by8 base)) ∧ Hid (Sec base) ∧ Hid (Fr (fun _ => False) w4 wd))
  case first =>
    by_cases hk : 0 < kp
    · have hki : (0 : Int) < kp := by omega
      obtain ⟨q, rfl⟩ : ∃ q, kp = q + 1 := ⟨kp - 1, by omega⟩
      have hql : q < L.length := by have := HN.out; omega
      obtain ⟨x, hx⟩ : ∃ x, L[q]? = some x := ⟨_, List.getElem?_eq_getElem hql⟩
      have hbx : base = x := by rw [HBASE.out, if_pos hk]; simp [List.getD, hx]
      obtain ⟨pg, po, PA, pc, rfl, _, hpc, hpr⟩ := HV.out q x hx
      have hq1 : ((q + 1 : Nat) : Int) - 1 = q := by omega
      have hqn : (q : Int) < n := by omega
      have hqn' : q < n := by omega
      have hsx := HL.out x (List.mem_of_getElem? hx)
      have HF24 := Lib.hid (HF2.out.trans HF4.out (fun _ _ h => h))
      have hFa : Fr (fun _ => False) w4 (w4.alloc (.cells #[] 5)) := (Fr.refl _ _).alloc _
      have y1' := hFa.cell0 y1
      have y2' := hFa.cell0 y2
      have z1 := hFa.cell0 (HF24.out.cell0 hpc)
      have HRA : Hid (ReadU (w4.alloc (.cells #[] 5)) PA x) := (hpr.u.fr HF24.out (fun _ _ _ h => h)).fr hFa (fun _ _ _ h => h)
      have HSX := Lib.hid hsx
      have HBX := Lib.hid hbx
      have HFA := Lib.hid hFa
      clear hFa hsx hbx hpc hpr hx hql
      go_wp2_with (at_builtin; refine wpl_copy8 rfl (.tmp 14) (.tmp 21) rfl w4.heap.size rfl (blk_new _ _) PA 128 pc x rfl HSX.out.1.symm HRA.out (by rw [HSX.out.1]; omega) (by rw [HSX.out.1]; omega) ?_; intro A6 c6 w6 ho6 hF6 hm6)
      rw [HSX.out.1] at ho6 ⊢
      have HE : Hid (∃ A5 c5, (Value.slice A6 128 c6) = .slice A5 128 c5 ∧ Hid (w6.ownsRow w.heap.size 5 1 (.slice A5 128 c5) 128 (by8 base)) ∧ Hid (Sec base) ∧ Hid (Fr (fun _ => False) w4 w6)) :=
        ⟨A6, c6, rfl, by rw [HBX.out]; exact own_up (own_base ho6) (fun q hq => by have := (ho6.lt q hq).1; have := HF24.out.size; omega), by rw [HBX.out]; exact HSX.out, HFA.out.trans' hF6 (fun _ _ h => h) (fun q hq e => by omega)⟩
      clear ho6 hF6 hm6
      go_meet
      case rel => exact HE.out
    · obtain rfl : kp = 0 := by omega
      have hbs : base = s := by rw [HBASE.out, if_neg hk]
      have HE : Hid (∃ A5 c5, (Value.slice A4 128 c4) = .slice A5 128 c5 ∧ Hid (w4.ownsRow w.heap.size 5 1 (.slice A5 128 c5) 128 (by8 base)) ∧ Hid (Sec base) ∧ Hid (Fr (fun _ => False) w4 w4)) :=
        ⟨A4, c4, rfl, by rw [hbs]; exact HO4.out, by rw [hbs]; exact HS.out, Fr.refl _ _⟩
      clear hbs hk
      go_wp2
      go_meet
      case rel => exact HE.out
  case rest =>
    obtain ⟨A5, c5, rfl, KO, KS, KF⟩ := hcut
    obtain ⟨bg, hbg⟩ := own_some KO.out (by omega)
    subst hbg
    have HF2C := Lib.hid (HF4.out.trans KF.out (fun _ _ h => h))
    have HFC := Lib.hid (HF2.out.trans HF2C.out (fun _ _ h => h))
    have hb1 := HF2C.out.blk0 HB1.out
    have hb2 := HF2C.out.blk0 HB2.out
    have hn1 : b1 ≠ bg := fun e => own_ne KO.out hb1 (by decide) (congrArg some e)
    have hn2 : b2 ≠ bg := fun e => own_ne KO.out hb2 (by decide) (congrArg some e)
    have HBG : Hid (w.heap.size ≤ bg) := (KO.out.lt bg rfl).1
    have y1 := KF.out.cell0 y1
    have y2 := KF.out.cell0 y2
    have y3 := KF.out.cell0 y3
    have KO0 : Hid (wc.ownsRow w.heap.size 5 1 (.slice (some ⟨bg, 0, none⟩) 128 c5) 128 (by8 (src.take 0 ++ base.drop 0))) := KO.out
    have KF0 : Hid (Fr (fun k => k = bg) wc wc) := Fr.refl _ _
    clear KO KF hb1 hb2 HB1 HB2 HO4 HF4 HF2 HF2C HQ
    go_wp2_with fail
    go_loopw [6] (fun k wr => ∃ i : Nat, i ≤ ct ∧ k = .int .i64 i ∧ Hid (wr.ownsRow w.heap.size 5 1 (.slice (some ⟨bg, 0, none⟩) 128 c5) 128 (by8 (src.take i ++ base.drop i))) ∧ Hid (Fr (fun k => k = bg) wc wr)) (fun k _ => ct - (intOf k).toNat)
    case atStart => exact ⟨0, by omega, rfl, KO0, KF0⟩
    case round =>
      clear KO0 KF0
      obtain ⟨i, hi, rfl, O, F⟩ := hrel
      have y1 := F.out.cell y1 hn1
      have y2 := F.out.cell y2 hn2
      have y3 := F.out.cell y3 hn2
      rcases Nat.lt_or_ge i ct with hlt | hlt
      · have hii : (i : Int) < ct := by omega
        have hkn : kp < n := by have := M5.out; omega
        have hkni : (kp : Int) < n := by omega
        obtain ⟨x, hx⟩ : ∃ x, L[kp]? = some x := ⟨_, List.getElem?_eq_getElem (by have := HN.out; omega)⟩
        have hsx : src = x := by rw [HSRC.out]; simp [List.getD, hx]
        have hsec := HL.out x (List.mem_of_getElem? hx)
        obtain ⟨pg, po, PA, pc, rfl, _, hpc, hpr⟩ := HV.out kp x hx
        obtain ⟨y, hy⟩ : ∃ y, x[i]? = some y := ⟨_, List.getElem?_eq_getElem (by rw [hsec.1]; omega)⟩
        obtain ⟨qg, qo, rfl, _, hqc⟩ := hpr i y hy
        have np : pg ≠ bg := fun e => by have h1 : pg < w.heap.size := cell_lt' hpc; have := HBG.out; omega
        have nq : qg ≠ bg := fun e => by have h1 : qg < w.heap.size := cell_lt' hqc; have := HBG.out; omega
        have z1 := F.out.cell (HFC.out.cell0 hpc) np
        have z2 := F.out.cell (HFC.out.cell0 hqc) nq
        have hi128 : (i : Int) < 128 := by omega
        have hi128' : i < 128 := by omega
        obtain ⟨cur, hcur, hcl⟩ := own_cur O.out
        have hcap := own_cap O.out
        obtain ⟨v0, hv0⟩ : ∃ v0, cur[i]? = some v0 := ⟨_, List.getElem?_eq_getElem (by omega)⟩
        have z3 : wr.cell? ⟨bg, i, none⟩ = some v0 := by rw [blk_cell hcur]; simpa using hv0
        have z4 : wr.frozen? ⟨bg, i, none⟩ = false := blk_frozen hcur i
        have hset := own_set O.out (i := i) (by omega) (.int .u8 y)
        have hw : (by8 (src.take i ++ base.drop i)).set i (.int .u8 y) = by8 (src.take (i + 1) ++ base.drop (i + 1)) := by
          unfold by8
          rw [← set_walk src base i y (by rw [hsx]; exact hy) (by rw [KS.out.1]; omega), List.map_set]
        rw [hw] at hset
        have HSET := Lib.hid hset
        clear hsx hsec hpc hpr hqc hcur hcl hcap hv0 hset hw hx hy
        go_wp2_with fail
        exact ⟨⟨i + 1, by omega, by go_num, HSET.out, setg_fr F.out _ _⟩, by simp [intOf]; omega⟩
      · have hii : ¬ (i : Int) < ct := by omega
        obtain rfl : i = ct := by omega
        have HE : Hid (AfterPost w (src.take i ++ base.drop i) (.returned (.slice (some ⟨bg, 0, none⟩) 128 c5)) wr) := ⟨_, _, rfl, O.out, HFC.out.trans' F.out (fun _ _ h => h) (fun q hq e => by have := HBG.out; omega)⟩
        go_wp2_with fail
        go_ret
        exact HE.out
end Go.Proofs.Ytdamegjhdopfaaa
