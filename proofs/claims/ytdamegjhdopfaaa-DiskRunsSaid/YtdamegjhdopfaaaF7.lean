/- Step: a call of both disks, that do not part. PRINTED by genF7.py. -/
import Derived.Test.YtdamegjhdopfaaaF6
namespace Go.Proofs.Ytdamegjhdopfaaa
open Go.RowKit Go.WideShapes
set_option linter.unusedSimpArgs false
set_option linter.unusedVariables false

def Bx (w0 w : World) (x k : Nat) : Prop := ∃ g gr T TR d, DB w0 w g gr k T TR d d ∧ w.heap[x]? = some (.cells #[.pointer (some ⟨g, 0, none⟩), .pointer (some ⟨gr, 0, none⟩)] 67 (0, 0)) ∧ ¬ T x ∧ ¬ TR x ∧ w0.heap.size ≤ x
theorem Bx.mono {w0 w : World} {x k k' : Nat} (h : Bx w0 w x k) (hk : k ≤ k') : Bx w0 w x k' := by
  obtain ⟨g, gr, T, TR, d, h1, h2⟩ := h
  exact ⟨g, gr, T, TR, d, h1.mono hk, h2⟩
theorem Bx.fr0 {w0 w w' : World} {x k : Nat} (h : Bx w0 w x k) (hF : Fr (fun _ => False) w w') : Bx w0 w' x k := by
  obtain ⟨g, gr, T, TR, d, h1, h2, h3⟩ := h
  exact ⟨g, gr, T, TR, d, h1.fr0 hF, hF.blk0 h2, h3⟩
def StepPost (w0 : World) (x k : Nat) (e : Ending) (w' : World) : Prop := e = .returned (.bool true) ∧ Bx w0 w' x (k + 2)
/-- the box and the call stand as they did -/
def Kp (x xb g gr : Nat) (cs : List Value) (W : World) : Prop := W.heap[x]? = some (.cells #[.pointer (some ⟨g, 0, none⟩), .pointer (some ⟨gr, 0, none⟩)] 67 (0, 0)) ∧ W.heap[xb]? = some (.cells cs.toArray 35 (0, 0))
theorem Kp.fr {x xb g gr : Nat} {cs : List Value} {S : Nat → Prop} {w w' : World} (h : Kp x xb g gr cs w) (hF : Fr S w w') (h1 : ¬ S x) (h2 : ¬ S xb) : Kp x xb g gr cs w' := ⟨hF.blk h.1 h1, hF.blk h.2 h2⟩

set_option maxRecDepth 100000 in
set_option maxHeartbeats 8000000 in
theorem step_any {w0 w : World} {x k : Nat} (h : Bx w0 w x k) (hk : k ≤ 900) (o : OpD) (ho : o.Whole w0) :
    Calls Try.prog 32 #[.pointer (some ⟨x, 0, none⟩), .agg o.cells.toArray] w (StepPost w0 x k) := by
  obtain ⟨g, gr, T, TR, d, hdb, hbox, hx1, hx2, hx3⟩ := h
  obtain ⟨w1, he, hn1, hF1, hs1⟩ := alloc1 w (.cells o.cells.toArray 35)
  have HDB := Lib.hid (hdb.fr0 hF1)
  have hx4 : x < w.heap.size := blk_lt hbox
  obtain ⟨xb, hxb⟩ : ∃ xb, xb = w.heap.size := ⟨_, rfl⟩
  rw [← hxb] at hn1
  have HX : Hid (¬ T x ∧ ¬ TR x ∧ w0.heap.size ≤ x ∧ x < w1.heap.size) := ⟨hx1, hx2, hx3, by omega⟩
  have HXB : Hid (¬ T xb ∧ ¬ TR xb ∧ w0.heap.size ≤ xb ∧ xb < w1.heap.size) := ⟨fun h => by have := hdb.a.lt xb h; omega, fun h => by have := hdb.b.lt xb h; omega, by have := hdb.fr.size; omega, by omega⟩
  have HK : Hid (Kp x xb g gr o.cells w1) := ⟨hF1.blk0 hbox, hn1⟩
  have HWH := Lib.hid ho
  have HK900 : Hid (k ≤ 900) := hk
  have hargs : o.cells = [.int .i64 o.kind, .int .i64 o.at', .slice o.bA o.b.length o.bc, .bool o.wh, .int .i64 o.n, .int .i64 o.pl, .int .u8 o.mask, .slice o.fA o.fn o.fc] := rfl
  have HS : Hid (∀ W : World, Kp x xb g gr o.cells W → W.cell? ⟨x, 0, none⟩ = some (.pointer (some ⟨g, 0, none⟩)) ∧ W.cell? ⟨x, 1, none⟩ = some (.pointer (some ⟨gr, 0, none⟩)) ∧ W.cell? ⟨xb, 0, none⟩ = some (.int .i64 o.kind) ∧ W.cell? ⟨xb, 1, none⟩ = some (.int .i64 o.at') ∧ W.cell? ⟨xb, 2, none⟩ = some (.slice o.bA o.b.length o.bc) ∧ W.cell? ⟨xb, 3, none⟩ = some (.bool o.wh) ∧ W.cell? ⟨xb, 4, none⟩ = some (.int .i64 o.n) ∧ W.cell? ⟨xb, 5, none⟩ = some (.int .i64 o.pl) ∧ W.cell? ⟨xb, 6, none⟩ = some (.int .u8 o.mask) ∧ W.cell? ⟨xb, 7, none⟩ = some (.slice o.fA o.fn o.fc)) := fun W hW => by
    obtain ⟨h1, h2⟩ := hW
    exact ⟨blk_cell h1 0, blk_cell h1 1, blk_cell h2 0, blk_cell h2 1, blk_cell h2 2, blk_cell h2 3, blk_cell h2 4, blk_cell h2 5, blk_cell h2 6, blk_cell h2 7⟩
  obtain ⟨ok, oat, obA, obc, ob, owh, onn, opl, omk, ofA, ofn, ofc⟩ := o
  simp only at hargs HS
  rw [hargs] at he ⊢
  generalize (OpD.cells ⟨ok, oat, obA, obc, ob, owh, onn, opl, omk, ofA, ofn, ofc⟩) = cs at *
  obtain ⟨x0, x1, y0, y1, y2, y3, y4, y5, y6, y7⟩ := HS.out _ HK.out
  clear hdb hbox hx1 hx2 hx3 hx4 hF1 hs1 hn1 hargs ho hk
  go_enter Try.func32, Try.ntmps32
  go_upto_region 1 with fail
  try rw [he]
  rw [← hxb]
  clear he hxb
  by_cases hk1 : ok = 1
  · have hkb1 : (ok == 1) = true := by simp [hk1]
    clear hk1
    have hcap := HWH.out.cap
    simp only at hcap
    obtain ⟨hcap1, hcap2⟩ := hcap
    have hlm : ob.length ≤ 9223372036854775807 := by simp only [maxLen] at hcap2; omega
    have hm1 : (0 : Int) ≤ min (ob.length : Int) 300 := by omega
    have hm2 : min (ob.length : Int) 300 ≤ obc := by omega
    have hbl : (min (ob.length : Int) 300).toNat = (ob.take 300).length := by rw [List.length_take]; omega
    have HRB : Hid (∀ W : World, Fr T w1 W → ReadU W obA (ob.take 300)) := fun W hW i y hy => by
      have h1 := (HDB.out.fr.trans hW (fun q _ hq => HDB.out.big q hq)).toBelow
      have hy' : ob[i]? = some y := by
        rw [List.getElem?_take] at hy
        split at hy
        · exact hy
        · cases hy
      exact HWH.out.read.fr h1 (fun _ _ _ h => h) i y hy'
    have HBB : Hid (∀ y ∈ ob.take 300, 0 ≤ y ∧ y < 256) := fun y hy => HWH.out.byte y (List.mem_of_mem_take hy)
    have HBL : Hid ((min (ob.length : Int) 300).toNat = (ob.take 300).length) := hbl
    clear hbl
    go_upto_if 23 with fail
    rw [HBL.out]
    generalize ob.take 300 = b at *
    clear HBL hm1 hm2 hlm hcap1 hcap2
    go_cut [5] (fun v wd => ∃ (A : Option Addr) (c : Nat) (b : List Int), v = .slice A b.length c ∧ Hid (∀ W : World, Fr T wd W → ReadU W A b) ∧ Hid (∀ y ∈ b, 0 ≤ y ∧ y < 256) ∧ Hid (Fr (fun _ => False) w1 wd))
    case first =>
      cases owh with
      | true =>
        go_wp2_with fail
        refine (full_any obA obc b (HRB.out w1 (Fr.refl _ _))).mono ?_
        rintro e w2 ⟨k1, rfl, hk1, hF2, hg2⟩
        have hsec := full_sec b HBB.out
        have HE : Hid (∃ (A : Option Addr) (c : Nat) (b : List Int), (Value.slice (some ⟨k1, 0, none⟩) 128 128) = .slice A b.length c ∧ Hid (∀ W : World, Fr T w2 W → ReadU W A b) ∧ Hid (∀ y ∈ b, 0 ≤ y ∧ y < 256) ∧ Hid (Fr (fun _ => False) w1 w2)) :=
          ⟨_, 128, fullS b, by rw [hsec.1], fun W hW => readU_row (hW.blk hk1 (fun ht => by have := HDB.out.a.lt k1 ht; omega)), hsec.2, hF2⟩
        clear hk1 hF2 hg2 hsec
        go_wp2_with fail
        go_meet
        case rel => exact HE.out
      | false =>
        have HE : Hid (∃ (A : Option Addr) (c : Nat) (b' : List Int), (Value.slice obA b.length obc) = .slice A b'.length c ∧ Hid (∀ W : World, Fr T w1 W → ReadU W A b') ∧ Hid (∀ y ∈ b', 0 ≤ y ∧ y < 256) ∧ Hid (Fr (fun _ => False) w1 w1)) := ⟨obA, obc, b, rfl, HRB.out, HBB.out, Fr.refl _ _⟩
        go_wp2
        go_meet
        case rel => exact HE.out
    case rest =>
      obtain ⟨A5, c5, b5, rfl, HR5, HB5, HF5⟩ := hcut
      have HDBW := Lib.hid (HDB.out.fr0 HF5.out)
      have HKW := Lib.hid (HK.out.fr HF5.out (fun h => h) (fun h => h))
      clear y0 y1 y2 y3 y4 y5 y6 y7 x0 x1 HRB HBB
      obtain ⟨x0, x1, y0, y1, y2, y3, y4, y5, y6, y7⟩ := HS.out _ HKW.out
      have HF : Hid (Fr (fun _ => False) wc wc) := Fr.refl _ _
      go_upto_region 7 with fail
      clear y0 y1 y2 y3 y4 y5 y6 y7 x0 x1
      go_region_held3 (fun W => W.cell? ⟨x, 0, none⟩ = some (.pointer (some ⟨g, 0, none⟩)) ∧ W.cell? ⟨x, 1, none⟩ = some (.pointer (some ⟨gr, 0, none⟩)) ∧ W.cell? ⟨xb, 0, none⟩ = some (.int .i64 ok) ∧ W.cell? ⟨xb, 1, none⟩ = some (.int .i64 oat) ∧ W.cell? ⟨xb, 2, none⟩ = some (.slice obA ob.length obc) ∧ W.cell? ⟨xb, 3, none⟩ = some (.bool owh) ∧ W.cell? ⟨xb, 4, none⟩ = some (.int .i64 onn) ∧ W.cell? ⟨xb, 5, none⟩ = some (.int .i64 opl) ∧ W.cell? ⟨xb, 6, none⟩ = some (.int .u8 omk) ∧ W.cell? ⟨xb, 7, none⟩ = some (.slice ofA ofn ofc))
        (first | exact HS.out _ HKM.out | exact HS.out _ HKN.out | exact HS.out _ HKW.out)
        (first
          | (go_at_call 18; refine ((HDBW.out.fr0 (by first | exact HF.out | exact HF.out.drew)).w1 (by have := HK900.out; omega) oat A5 c5 b5 (HR5.out _ (by first | exact HF.out.none | exact HF.out.drew.none)) HB5.out).mono ?_; rintro e wn ⟨TN, rfl, hdn, hfn, hkn⟩; have HDN := Lib.hid hdn; have HFN : Hid (Fr T wc wn) := (by first | exact HF.out.none.trans hfn (fun _ _ h => h) | exact HF.out.drew.none.trans hfn (fun _ _ h => h)); have HKN : Hid (Kp x xb g gr cs wn) := HKW.out.fr HFN.out HX.out.1 HXB.out.1; have HTN : Hid (¬ TN x) := hkn x (blk_lt HKW.out.1) HX.out.1; clear hdn hfn hkn)
          | (go_at_call 20; refine ((HDN.out.fr0 (by first | exact Fr.refl _ _ | exact (Fr.refl _ _).drew)).w2 (by have := HK900.out; omega) oat A5 c5 b5 (HR5.out _ (by first | exact HFN.out | exact HFN.out.drew)) HB5.out).mono ?_; rintro e wm ⟨TM, rfl, hdm, hfm, hkm⟩; have HDM := Lib.hid hdm; have HFM : Hid (Fr TR wn wm) := (by first | exact hfm | exact (Fr.refl _ _).drew.trans hfm (fun _ _ h => h)); have HKM : Hid (Kp x xb g gr cs wm) := HKN.out.fr HFM.out HX.out.2.1 HXB.out.2.1; have HTM : Hid (¬ TM x) := hkm x (blk_lt HKN.out.1) HX.out.2.1; clear hdm hfm hkm))
      have HE : Hid (Bx w0 wm x (k + 2)) := ⟨_, _, _, _, _, HDM.out, HKM.out.1, HTN.out, HTM.out, HX.out.2.2.1⟩
      clear HDM HDN HKM HKN HTN HTM HFN HFM HF
      go_wp2_with fail
      go_ret
      exact ⟨rfl, HE.out⟩
  · have hkb1 : (ok == 1) = false := by simp [hk1]
    clear hk1
    by_cases hk2 : ok = 2
    · have hkb2 : (ok == 2) = true := by simp [hk2]
      clear hk2
      have HDBW := HDB
      have HKW := HK
      have HF : Hid (Fr (fun _ => False) w1 w1) := Fr.refl _ _
      go_upto_region 9 with fail
      clear y0 y1 y2 y3 y4 y5 y6 y7 x0 x1
      go_region_held3 (fun W => W.cell? ⟨x, 0, none⟩ = some (.pointer (some ⟨g, 0, none⟩)) ∧ W.cell? ⟨x, 1, none⟩ = some (.pointer (some ⟨gr, 0, none⟩)) ∧ W.cell? ⟨xb, 0, none⟩ = some (.int .i64 ok) ∧ W.cell? ⟨xb, 1, none⟩ = some (.int .i64 oat) ∧ W.cell? ⟨xb, 2, none⟩ = some (.slice obA ob.length obc) ∧ W.cell? ⟨xb, 3, none⟩ = some (.bool owh) ∧ W.cell? ⟨xb, 4, none⟩ = some (.int .i64 onn) ∧ W.cell? ⟨xb, 5, none⟩ = some (.int .i64 opl) ∧ W.cell? ⟨xb, 6, none⟩ = some (.int .u8 omk) ∧ W.cell? ⟨xb, 7, none⟩ = some (.slice ofA ofn ofc))
        (first | exact HS.out _ HKM.out | exact HS.out _ HKN.out | exact HS.out _ HKW.out)
        (first
          | (go_at_call 28; refine ((HDBW.out.fr0 (by first | exact HF.out | exact HF.out.drew)).f1 (by have := HK900.out; omega)).mono ?_; rintro e wn ⟨TN, rfl, hdn, hfn, hkn⟩; have HDN := Lib.hid hdn; have HFN : Hid (Fr T w1 wn) := (by first | exact HF.out.none.trans hfn (fun _ _ h => h) | exact HF.out.drew.none.trans hfn (fun _ _ h => h)); have HKN : Hid (Kp x xb g gr cs wn) := HKW.out.fr HFN.out HX.out.1 HXB.out.1; have HTN : Hid (¬ TN x) := hkn x (blk_lt HKW.out.1) HX.out.1; clear hdn hfn hkn)
          | (go_at_call 65; refine ((HDN.out.fr0 (by first | exact Fr.refl _ _ | exact (Fr.refl _ _).drew)).f2 (by have := HK900.out; omega)).mono ?_; rintro e wm ⟨TM, rfl, hdm, hfm, hkm⟩; have HDM := Lib.hid hdm; have HFM : Hid (Fr TR wn wm) := (by first | exact hfm | exact (Fr.refl _ _).drew.trans hfm (fun _ _ h => h)); have HKM : Hid (Kp x xb g gr cs wm) := HKN.out.fr HFM.out HX.out.2.1 HXB.out.2.1; have HTM : Hid (¬ TM x) := hkm x (blk_lt HKN.out.1) HX.out.2.1; clear hdm hfm hkm))
      have HE : Hid (Bx w0 wm x (k + 2)) := ⟨_, _, _, _, _, HDM.out, HKM.out.1, HTN.out, HTM.out, HX.out.2.2.1⟩
      clear HDM HDN HKM HKN HTN HTM HFN HFM HF
      go_wp2_with fail
      go_ret
      exact ⟨rfl, HE.out⟩
    · have hkb2 : (ok == 2) = false := by simp [hk2]
      clear hk2
      by_cases hk3 : ok = 3
      · have hkb3 : (ok == 3) = true := by simp [hk3]
        clear hk3
        have HDBW := HDB
        have HKW := HK
        have HF : Hid (Fr (fun _ => False) w1 w1) := Fr.refl _ _
        go_upto_region 11 with fail
        clear y0 y1 y2 y3 y4 y5 y6 y7 x0 x1
        go_region_held3 (fun W => W.cell? ⟨x, 0, none⟩ = some (.pointer (some ⟨g, 0, none⟩)) ∧ W.cell? ⟨x, 1, none⟩ = some (.pointer (some ⟨gr, 0, none⟩)) ∧ W.cell? ⟨xb, 0, none⟩ = some (.int .i64 ok) ∧ W.cell? ⟨xb, 1, none⟩ = some (.int .i64 oat) ∧ W.cell? ⟨xb, 2, none⟩ = some (.slice obA ob.length obc) ∧ W.cell? ⟨xb, 3, none⟩ = some (.bool owh) ∧ W.cell? ⟨xb, 4, none⟩ = some (.int .i64 onn) ∧ W.cell? ⟨xb, 5, none⟩ = some (.int .i64 opl) ∧ W.cell? ⟨xb, 6, none⟩ = some (.int .u8 omk) ∧ W.cell? ⟨xb, 7, none⟩ = some (.slice ofA ofn ofc))
          (first | exact HS.out _ HKM.out | exact HS.out _ HKN.out | exact HS.out _ HKW.out)
          (first
            | (go_at_call 29; refine ((HDBW.out.fr0 (by first | exact HF.out | exact HF.out.drew)).u1 onn).mono ?_; rintro e wn ⟨TN, rfl, hdn, hfn, hkn⟩; have HDN := Lib.hid hdn; have HFN : Hid (Fr T w1 wn) := (by first | exact HF.out.none.trans hfn (fun _ _ h => h) | exact HF.out.drew.none.trans hfn (fun _ _ h => h)); have HKN : Hid (Kp x xb g gr cs wn) := HKW.out.fr HFN.out HX.out.1 HXB.out.1; have HTN : Hid (¬ TN x) := hkn x (blk_lt HKW.out.1) HX.out.1; clear hdn hfn hkn)
            | (go_at_call 66; refine ((HDN.out.fr0 (by first | exact Fr.refl _ _ | exact (Fr.refl _ _).drew)).u2 onn).mono ?_; rintro e wm ⟨TM, rfl, hdm, hfm, hkm⟩; have HDM := Lib.hid hdm; have HFM : Hid (Fr TR wn wm) := (by first | exact hfm | exact (Fr.refl _ _).drew.trans hfm (fun _ _ h => h)); have HKM : Hid (Kp x xb g gr cs wm) := HKN.out.fr HFM.out HX.out.2.1 HXB.out.2.1; have HTM : Hid (¬ TM x) := hkm x (blk_lt HKN.out.1) HX.out.2.1; clear hdm hfm hkm))
        have HE : Hid (Bx w0 wm x (k + 2)) := ⟨_, _, _, _, _, HDM.out, HKM.out.1, HTN.out, HTM.out, HX.out.2.2.1⟩
        clear HDM HDN HKM HKN HTN HTM HFN HFM HF
        go_wp2_with fail
        go_ret
        exact ⟨rfl, HE.out⟩
      · have hkb3 : (ok == 3) = false := by simp [hk3]
        clear hk3
        by_cases hk4 : ok = 4
        · have hkb4 : (ok == 4) = true := by simp [hk4]
          clear hk4
          have HDBW := HDB
          have HKW := HK
          have HMK : Hid (0 ≤ omk ∧ omk < 256) := HWH.out.mask
          have HF : Hid (Fr (fun _ => False) w1 w1) := Fr.refl _ _
          go_upto_region 13 with fail
          clear y0 y1 y2 y3 y4 y5 y6 y7 x0 x1
          go_region_held3 (fun W => W.cell? ⟨x, 0, none⟩ = some (.pointer (some ⟨g, 0, none⟩)) ∧ W.cell? ⟨x, 1, none⟩ = some (.pointer (some ⟨gr, 0, none⟩)) ∧ W.cell? ⟨xb, 0, none⟩ = some (.int .i64 ok) ∧ W.cell? ⟨xb, 1, none⟩ = some (.int .i64 oat) ∧ W.cell? ⟨xb, 2, none⟩ = some (.slice obA ob.length obc) ∧ W.cell? ⟨xb, 3, none⟩ = some (.bool owh) ∧ W.cell? ⟨xb, 4, none⟩ = some (.int .i64 onn) ∧ W.cell? ⟨xb, 5, none⟩ = some (.int .i64 opl) ∧ W.cell? ⟨xb, 6, none⟩ = some (.int .u8 omk) ∧ W.cell? ⟨xb, 7, none⟩ = some (.slice ofA ofn ofc))
            (first | exact HS.out _ HKM.out | exact HS.out _ HKN.out | exact HS.out _ HKW.out)
            (first
              | (go_at_call 26; refine ((HDBW.out.fr0 (by first | exact HF.out | exact HF.out.drew)).r1 oat opl omk HMK.out).mono ?_; rintro e wn ⟨TN, rfl, hdn, hfn, hkn⟩; have HDN := Lib.hid hdn; have HFN : Hid (Fr T w1 wn) := (by first | exact HF.out.none.trans hfn (fun _ _ h => h) | exact HF.out.drew.none.trans hfn (fun _ _ h => h)); have HKN : Hid (Kp x xb g gr cs wn) := HKW.out.fr HFN.out HX.out.1 HXB.out.1; have HTN : Hid (¬ TN x) := hkn x (blk_lt HKW.out.1) HX.out.1; clear hdn hfn hkn)
              | (go_at_call 67; refine ((HDN.out.fr0 (by first | exact Fr.refl _ _ | exact (Fr.refl _ _).drew)).r2 oat opl omk HMK.out).mono ?_; rintro e wm ⟨TM, rfl, hdm, hfm, hkm⟩; have HDM := Lib.hid hdm; have HFM : Hid (Fr TR wn wm) := (by first | exact hfm | exact (Fr.refl _ _).drew.trans hfm (fun _ _ h => h)); have HKM : Hid (Kp x xb g gr cs wm) := HKN.out.fr HFM.out HX.out.2.1 HXB.out.2.1; have HTM : Hid (¬ TM x) := hkm x (blk_lt HKN.out.1) HX.out.2.1; clear hdm hfm hkm))
          have HE : Hid (Bx w0 wm x (k + 2)) := ⟨_, _, _, _, _, HDM.out, HKM.out.1, HTN.out, HTM.out, HX.out.2.2.1⟩
          clear HDM HDN HKM HKN HTN HTM HFN HFM HF
          go_wp2_with fail
          go_ret
          exact ⟨rfl, HE.out⟩
        · have hkb4 : (ok == 4) = false := by simp [hk4]
          clear hk4
          by_cases hk5 : ok = 5
          · have hkb5 : (ok == 5) = true := by simp [hk5]
            clear hk5
            obtain ⟨fs, hfs, hfm, hfr, hfi⟩ := HWH.out.fates
            simp only at hfs hfm hfr
            have hpu := HDB.out.puts
            have HPU : Hid (d.puts ≤ 1000000) := (by have := HK900.out; omega : d.puts ≤ 1000000)
            obtain ⟨l, hl⟩ : ∃ l, l = losOf d := ⟨_, rfl⟩
            have HL := Lib.hid hl
            have HLL : Hid (l.length ≤ 4096) := (by rw [hl]; exact los_len d : l.length ≤ 4096)
            have HML : Hid (∀ m ∈ l, m.many ≤ 1000000) := fun m hm => by
              rw [hl] at hm
              obtain ⟨h1, h2⟩ := (mem_los d m).1 hm
              have h3 := HDB.out.b.pure.lens (m.s.val : Int)
              have := HPU.out
              omega
            have HFR : Hid (∀ W : World, Fr (fun _ => False) w1 W → ReadFt W ofA fs) := fun W hW => hfr.fr (HDB.out.fr.toBelow.trans hW (fun _ _ h => h)) (fun _ _ _ h => h)
            have HFI := Lib.hid hfi
            have HFM : Hid (fs.length ≤ maxLen) := (by rw [hfs]; exact hfm : fs.length ≤ maxLen)
            have HLO := Lib.hid (rloose_any HDB.out.b HPU.out l hl)
            have HE0 : Hid (∃ (A : Option Addr) (c : Nat) (fs' : List Ft), (Value.slice ofA ofn ofc) = .slice A fs'.length c ∧ Hid (ReadFt w1 A fs') ∧ Hid (fs'.length ≤ maxLen) ∧ Hid (Fr (fun _ => False) w1 w1)) := ⟨ofA, ofc, fs, by rw [hfs], HFR.out _ (Fr.refl _ _), HFM.out, Fr.refl _ _⟩
            have HFS : Hid (ofn = fs.length) := hfs.symm
            clear hfs hfm hfr hfi hl hpu
            go_upto_if 105 with fail
            go_cut [6] (fun v wd => ∃ (A : Option Addr) (c : Nat) (fs' : List Ft), v = .slice A fs'.length c ∧ Hid (ReadFt wd A fs') ∧ Hid (fs'.length ≤ maxLen) ∧ Hid (Fr (fun _ => False) w1 wd))
            case first =>
              go_wp2
              go_meet
              case rel => exact HE0.out
            case rest =>
              obtain ⟨A5, c5, fs5, rfl, HR5, HL5, HF5⟩ := hcut
              have HDBW := Lib.hid (HDB.out.fr0 HF5.out)
              have HKW := Lib.hid (HK.out.fr HF5.out (fun h => h) (fun h => h))
              clear y0 y1 y2 y3 y4 y5 y6 y7 x0 x1
              obtain ⟨x0, x1, y0, y1, y2, y3, y4, y5, y6, y7⟩ := HS.out _ HKW.out
              have HC1 := Lib.hid (crash_any HDBW.out.a A5 c5 fs5 HL5.out HR5.out l HL.out)
              have HC2 : Hid (∀ W : World, Fr (fun _ => False) wc W → Calls Try.prog 68 #[.pointer (some ⟨gr, 0, none⟩), .slice A5 fs5.length c5] W (RCrashAll W d l fs5)) := fun W hW => rcrash_any (HDBW.out.b.fr0 hW) HPU.out A5 c5 fs5 HL5.out (HR5.out.fr hW (fun _ _ _ h => h)) l HL.out
              go_upto_region 19 with fail
              go_wp2_with fail
              refine HC1.out.mono ?_
              rintro e w2 hc1
              by_cases hce : crashE l fs5 = 0
              · rcases hc1 with ⟨h1, _⟩ | ⟨_, g1, T1, rfl, hat1, hF1, hg1, hT1⟩
                · exact absurd hce h1
                have HCE := Lib.hid hce
                have HAT1 := Lib.hid hat1
                have HF1 := Lib.hid hF1
                have HT1 := Lib.hid hT1
                clear hce hat1 hF1 hg1 hT1 y0 y1 y2 y3 y4 y5 y6 y7 x0 x1 HC1
                obtain ⟨x0, x1, y0, y1, y2, y3, y4, y5, y6, y7⟩ := HS.out _ (HKW.out.fr HF1.out (fun h => h) (fun h => h))
                go_wp2_with fail
                refine (HC2.out w2 HF1.out).mono ?_
                rintro e w3 hc2
                rcases hc2 with ⟨h1, _⟩ | ⟨_, g2, T2, rfl, hat2, hF2, hg2, hT2⟩
                · exact absurd HCE.out h1
                have HAT2 := Lib.hid hat2
                have HF2 := Lib.hid hF2
                have HT2 := Lib.hid hT2
                have HFX : Hid (Fr (fun _ => False) wc w3) := HF1.out.trans hF2 (fun _ _ h => h)
                clear hat2 hF2 hg2 hT2 y0 y1 y2 y3 y4 y5 y6 y7 x0 x1 HC2
                have HSA : Hid (∀ W : World, Fr (fun _ => False) w3 W → Calls Try.prog 33 #[.pointer (some ⟨g, 0, none⟩), .pointer (some ⟨gr, 0, none⟩)] W (fun e w' => e = .returned (.bool true) ∧ Fr (fun _ => False) W w')) := fun W hW => same_any (HDBW.out.a.fr0 (HFX.out.trans hW (fun _ _ h => h))) (HDBW.out.b.fr0 (HFX.out.trans hW (fun _ _ h => h))) HPU.out
                have HF : Hid (Fr (fun _ => False) w3 w3) := Fr.refl _ _
                have HKX := Lib.hid (HKW.out.fr HFX.out (fun h => h) (fun h => h))
                have HSX : Hid (∀ W : World, Fr (fun _ => False) w3 W → W.cell? ⟨x, 0, none⟩ = some (.pointer (some ⟨g, 0, none⟩)) ∧ W.cell? ⟨x, 1, none⟩ = some (.pointer (some ⟨gr, 0, none⟩)) ∧ W.cell? ⟨xb, 0, none⟩ = some (.int .i64 ok) ∧ W.cell? ⟨xb, 1, none⟩ = some (.int .i64 oat) ∧ W.cell? ⟨xb, 2, none⟩ = some (.slice obA ob.length obc) ∧ W.cell? ⟨xb, 3, none⟩ = some (.bool owh) ∧ W.cell? ⟨xb, 4, none⟩ = some (.int .i64 onn) ∧ W.cell? ⟨xb, 5, none⟩ = some (.int .i64 opl) ∧ W.cell? ⟨xb, 6, none⟩ = some (.int .u8 omk) ∧ W.cell? ⟨xb, 7, none⟩ = some (.slice ofA ofn ofc)) := fun W hW => HS.out _ (HKX.out.fr hW (fun h => h) (fun h => h))
                obtain ⟨x0, x1, y0, y1, y2, y3, y4, y5, y6, y7⟩ := HS.out _ HKX.out
                go_upto_region 21 with fail
                clear y0 y1 y2 y3 y4 y5 y6 y7 x0 x1
                go_region_held3 (fun W => W.cell? ⟨x, 0, none⟩ = some (.pointer (some ⟨g, 0, none⟩)) ∧ W.cell? ⟨x, 1, none⟩ = some (.pointer (some ⟨gr, 0, none⟩)) ∧ W.cell? ⟨xb, 0, none⟩ = some (.int .i64 ok) ∧ W.cell? ⟨xb, 1, none⟩ = some (.int .i64 oat) ∧ W.cell? ⟨xb, 2, none⟩ = some (.slice obA ob.length obc) ∧ W.cell? ⟨xb, 3, none⟩ = some (.bool owh) ∧ W.cell? ⟨xb, 4, none⟩ = some (.int .i64 onn) ∧ W.cell? ⟨xb, 5, none⟩ = some (.int .i64 opl) ∧ W.cell? ⟨xb, 6, none⟩ = some (.int .u8 omk) ∧ W.cell? ⟨xb, 7, none⟩ = some (.slice ofA ofn ofc))
                  (first | exact HSX.out _ HF.out | exact HSX.out _ HF.out.drew)
                  (first
                    | (go_at_call 33; refine (HSA.out _ (by first | exact HF.out | exact HF.out.drew)).mono ?_; rintro e wn ⟨rfl, hf⟩; have HF : Hid (Fr (fun _ => False) w3 wn) := (by first | exact HF.out.trans hf (fun _ _ h => h) | exact HF.out.drew.trans hf (fun _ _ h => h)); clear hf))
                have hblk := (HKX.out.fr HF.out (fun h => h) (fun h => h)).1
                have x0 : wn.cell? ⟨x, 0, none⟩ = some (.pointer (some ⟨g, 0, none⟩)) := blk_cell hblk 0
                have x1 : wn.cell? ⟨x, 1, none⟩ = some (.pointer (some ⟨gr, 0, none⟩)) := blk_cell hblk 1
                have z0 : wn.frozen? ⟨x, 0, none⟩ = false := blk_frozen hblk 0
                have z1 : wn.frozen? ⟨x, 1, none⟩ = false := blk_frozen hblk 1
                have HE : Hid (Bx w0 ((wn.setCell ⟨x, 0, none⟩ (.pointer (some ⟨g1, 0, none⟩))).setCell ⟨x, 1, none⟩ (.pointer (some ⟨g2, 0, none⟩))) x (k + 2)) := by
                  have hFs : Fr (fun q => q = x) wn ((wn.setCell ⟨x, 0, none⟩ (.pointer (some ⟨g1, 0, none⟩))).setCell ⟨x, 1, none⟩ (.pointer (some ⟨g2, 0, none⟩))) := setg_fr (setg_fr (Fr.refl _ _) _ _) _ _
                  have hs1 := HF5.out.size
                  have hs2 := HF1.out.size
                  have hs3 := HF2.out.size
                  have hs4 := HDB.out.fr.size
                  have hx := HX.out.2.2.2
                  have hn1 : ∀ q, T1 q → ¬ q = x := fun q hq e => by have := HT1.out q hq; omega
                  have hn2 : ∀ q, T2 q → ¬ q = x := fun q hq e => by have := HT2.out q hq; omega
                  refine ⟨g1, g2, T1, T2, newDk (crashF d l fs5), ⟨((HAT1.out.fr0 HF2.out).fr0 HF.out).fr hFs hn1, (HAT2.out.fr0 HF.out).fr hFs hn2, by simp [newDk]; omega, by simp [newDk], by simp [newDk]; omega, by simp [newDk], fun q hq => by have := HT1.out q hq; omega, fun q hq => by have := HT2.out q hq; omega, fun q h1 h2 => by have := HAT1.out.lt q h1; have := HT2.out q h2; omega,
                    (HDBW.out.fr.trans (HFX.out.trans HF.out (fun _ _ h => h)) (fun _ _ h => h.elim)).trans hFs (fun q _ e => by show w0.heap.size ≤ q; rw [e]; exact HX.out.2.2.1)⟩, ?_, fun h => hn1 x h rfl, fun h => hn2 x h rfl, HX.out.2.2.1⟩
                  have := blk_set (blk_set hblk 0 (.pointer (some ⟨g1, 0, none⟩))) 1 (.pointer (some ⟨g2, 0, none⟩))
                  simpa using this
                clear hblk HSA HSX HF
                go_wp2_with fail
                go_ret
                exact ⟨rfl, HE.out⟩
              · rcases hc1 with ⟨_, rfl, hF1⟩ | ⟨h1, _⟩
                rotate_left 1
                · exact absurd h1 hce
                have HCE := Lib.hid hce
                obtain ⟨r, hr⟩ : ∃ r, r = crashE l fs5 := ⟨_, rfl⟩
                rw [← hr]
                have HRE := Lib.hid hr
                have HF1 := Lib.hid hF1
                clear hce hF1 hr y0 y1 y2 y3 y4 y5 y6 y7 x0 x1 HC1
                obtain ⟨x0, x1, y0, y1, y2, y3, y4, y5, y6, y7⟩ := HS.out _ (HKW.out.fr HF1.out (fun h => h) (fun h => h))
                go_wp2_with fail
                refine (HC2.out w2 HF1.out).mono ?_
                rintro e w3 hc2
                rcases hc2 with ⟨_, rfl, hF2⟩ | ⟨h1, _⟩
                rotate_left 1
                · exact absurd h1 HCE.out
                rw [← HRE.out]
                have HFX : Hid (Fr (fun _ => False) wc w3) := HF1.out.trans hF2 (fun _ _ h => h)
                clear hF2 y0 y1 y2 y3 y4 y5 y6 y7 x0 x1 HC2
                have HSA : Hid (∀ W : World, Fr (fun _ => False) w3 W → Calls Try.prog 33 #[.pointer (some ⟨g, 0, none⟩), .pointer (some ⟨gr, 0, none⟩)] W (fun e w' => e = .returned (.bool true) ∧ Fr (fun _ => False) W w')) := fun W hW => same_any (HDBW.out.a.fr0 (HFX.out.trans hW (fun _ _ h => h))) (HDBW.out.b.fr0 (HFX.out.trans hW (fun _ _ h => h))) HPU.out
                have HF : Hid (Fr (fun _ => False) w3 w3) := Fr.refl _ _
                have HKX := Lib.hid (HKW.out.fr HFX.out (fun h => h) (fun h => h))
                have HSX : Hid (∀ W : World, Fr (fun _ => False) w3 W → W.cell? ⟨x, 0, none⟩ = some (.pointer (some ⟨g, 0, none⟩)) ∧ W.cell? ⟨x, 1, none⟩ = some (.pointer (some ⟨gr, 0, none⟩)) ∧ W.cell? ⟨xb, 0, none⟩ = some (.int .i64 ok) ∧ W.cell? ⟨xb, 1, none⟩ = some (.int .i64 oat) ∧ W.cell? ⟨xb, 2, none⟩ = some (.slice obA ob.length obc) ∧ W.cell? ⟨xb, 3, none⟩ = some (.bool owh) ∧ W.cell? ⟨xb, 4, none⟩ = some (.int .i64 onn) ∧ W.cell? ⟨xb, 5, none⟩ = some (.int .i64 opl) ∧ W.cell? ⟨xb, 6, none⟩ = some (.int .u8 omk) ∧ W.cell? ⟨xb, 7, none⟩ = some (.slice ofA ofn ofc)) := fun W hW => HS.out _ (HKX.out.fr hW (fun h => h) (fun h => h))
                obtain ⟨x0, x1, y0, y1, y2, y3, y4, y5, y6, y7⟩ := HS.out _ HKX.out
                go_upto_region 21 with fail
                clear y0 y1 y2 y3 y4 y5 y6 y7 x0 x1
                go_region_held3 (fun W => W.cell? ⟨x, 0, none⟩ = some (.pointer (some ⟨g, 0, none⟩)) ∧ W.cell? ⟨x, 1, none⟩ = some (.pointer (some ⟨gr, 0, none⟩)) ∧ W.cell? ⟨xb, 0, none⟩ = some (.int .i64 ok) ∧ W.cell? ⟨xb, 1, none⟩ = some (.int .i64 oat) ∧ W.cell? ⟨xb, 2, none⟩ = some (.slice obA ob.length obc) ∧ W.cell? ⟨xb, 3, none⟩ = some (.bool owh) ∧ W.cell? ⟨xb, 4, none⟩ = some (.int .i64 onn) ∧ W.cell? ⟨xb, 5, none⟩ = some (.int .i64 opl) ∧ W.cell? ⟨xb, 6, none⟩ = some (.int .u8 omk) ∧ W.cell? ⟨xb, 7, none⟩ = some (.slice ofA ofn ofc))
                  (first | exact HSX.out _ HF.out | exact HSX.out _ HF.out.drew)
                  (first
                    | (go_at_call 33; refine (HSA.out _ (by first | exact HF.out | exact HF.out.drew)).mono ?_; rintro e wn ⟨rfl, hf⟩; have HF : Hid (Fr (fun _ => False) w3 wn) := (by first | exact HF.out.trans hf (fun _ _ h => h) | exact HF.out.drew.trans hf (fun _ _ h => h)); clear hf))
                have HE : Hid (Bx w0 wn x (k + 2)) := ⟨g, gr, T, TR, d, (HDBW.out.fr0 (HFX.out.trans HF.out (fun _ _ h => h))).mono (by omega), (HKX.out.fr HF.out (fun h => h) (fun h => h)).1, HX.out.1, HX.out.2.1, HX.out.2.2.1⟩
                clear HSA HSX HF
                go_wp2_with fail
                go_ret
                exact ⟨rfl, HE.out⟩
          · have hkb5 : (ok == 5) = false := by simp [hk5]
            clear hk5
            by_cases hk6 : ok = 6
            · have hkb6 : (ok == 6) = true := by simp [hk6]
              clear hk6
              obtain ⟨fs, hfs, hfm, hfr, hfi⟩ := HWH.out.fates
              simp only at hfs hfm hfr
              have hpu := HDB.out.puts
              have HPU : Hid (d.puts ≤ 1000000) := (by have := HK900.out; omega : d.puts ≤ 1000000)
              obtain ⟨l, hl⟩ : ∃ l, l = losOf d := ⟨_, rfl⟩
              have HL := Lib.hid hl
              have HLL : Hid (l.length ≤ 4096) := (by rw [hl]; exact los_len d : l.length ≤ 4096)
              have HML : Hid (∀ m ∈ l, m.many ≤ 1000000) := fun m hm => by
                rw [hl] at hm
                obtain ⟨h1, h2⟩ := (mem_los d m).1 hm
                have h3 := HDB.out.b.pure.lens (m.s.val : Int)
                have := HPU.out
                omega
              have HFR : Hid (∀ W : World, Fr (fun _ => False) w1 W → ReadFt W ofA fs) := fun W hW => hfr.fr (HDB.out.fr.toBelow.trans hW (fun _ _ h => h)) (fun _ _ _ h => h)
              have HFI := Lib.hid hfi
              have HFM : Hid (fs.length ≤ maxLen) := (by rw [hfs]; exact hfm : fs.length ≤ maxLen)
              have HLO := Lib.hid (rloose_any HDB.out.b HPU.out l hl)
              have HE0 : Hid (∃ (A : Option Addr) (c : Nat) (fs' : List Ft), (Value.slice ofA ofn ofc) = .slice A fs'.length c ∧ Hid (ReadFt w1 A fs') ∧ Hid (fs'.length ≤ maxLen) ∧ Hid (Fr (fun _ => False) w1 w1)) := ⟨ofA, ofc, fs, by rw [hfs], HFR.out _ (Fr.refl _ _), HFM.out, Fr.refl _ _⟩
              have HFS : Hid (ofn = fs.length) := hfs.symm
              clear hfs hfm hfr hfi hl hpu
              go_upto_if 105 with fail
              go_cut [6] (fun v wd => ∃ (A : Option Addr) (c : Nat) (fs' : List Ft), v = .slice A fs'.length c ∧ Hid (ReadFt wd A fs') ∧ Hid (fs'.length ≤ maxLen) ∧ Hid (Fr (fun _ => False) w1 wd))
              case first =>
                clear HE0
                go_wp2_with fail
                refine HLO.out.mono ?_
                rintro e w2 ⟨v2, rfl, ho2, hF2⟩
                obtain ⟨LA, lc, rfl⟩ := own_slice ho2
                have hfit := fit_any (c := ofc) (own_base ho2) (HFR.out w2 hF2) HFM.out HLL.out HML.out HFI.out
                rw [← HFS.out] at hfit
                have HFIT := Lib.hid hfit
                have HF2 := Lib.hid hF2
                clear hfit ho2 hF2
                go_wp2_with fail
                refine HFIT.out.mono ?_
                rintro e w3 ⟨v3, rfl, ho3, hF3⟩
                have hlen : (fitAll l fs).length ≤ fs.length := by simp [fitAll]; omega
                obtain ⟨p, hp⟩ : ∃ p, p = fitAll l fs := ⟨_, rfl⟩
                have hfl : fs.length = ofn := HFS.out.symm
                have HPL : Hid (p.length ≤ maxLen) := (by rw [hp]; exact Nat.le_trans hlen HFM.out : p.length ≤ maxLen)
                rw [← hp] at ho3
                obtain ⟨PA, pc, rfl⟩ := own_slice ho3
                have HE : Hid (∃ (A : Option Addr) (c : Nat) (fs' : List Ft), (Value.slice PA p.length pc) = .slice A fs'.length c ∧ Hid (ReadFt w3 A fs') ∧ Hid (fs'.length ≤ maxLen) ∧ Hid (Fr (fun _ => False) w1 w3)) := ⟨PA, pc, p, rfl, readFt_own ho3, HPL.out, HF2.out.trans hF3 (fun _ _ h => h)⟩
                clear ho3 hF3 hlen hp hfl
                go_wp2_with fail
                go_meet
                case rel => exact HE.out
              case rest =>
                obtain ⟨A5, c5, fs5, rfl, HR5, HL5, HF5⟩ := hcut
                have HDBW := Lib.hid (HDB.out.fr0 HF5.out)
                have HKW := Lib.hid (HK.out.fr HF5.out (fun h => h) (fun h => h))
                clear y0 y1 y2 y3 y4 y5 y6 y7 x0 x1
                obtain ⟨x0, x1, y0, y1, y2, y3, y4, y5, y6, y7⟩ := HS.out _ HKW.out
                have HC1 := Lib.hid (crash_any HDBW.out.a A5 c5 fs5 HL5.out HR5.out l HL.out)
                have HC2 : Hid (∀ W : World, Fr (fun _ => False) wc W → Calls Try.prog 68 #[.pointer (some ⟨gr, 0, none⟩), .slice A5 fs5.length c5] W (RCrashAll W d l fs5)) := fun W hW => rcrash_any (HDBW.out.b.fr0 hW) HPU.out A5 c5 fs5 HL5.out (HR5.out.fr hW (fun _ _ _ h => h)) l HL.out
                go_upto_region 19 with fail
                go_wp2_with fail
                refine HC1.out.mono ?_
                rintro e w2 hc1
                by_cases hce : crashE l fs5 = 0
                · rcases hc1 with ⟨h1, _⟩ | ⟨_, g1, T1, rfl, hat1, hF1, hg1, hT1⟩
                  · exact absurd hce h1
                  have HCE := Lib.hid hce
                  have HAT1 := Lib.hid hat1
                  have HF1 := Lib.hid hF1
                  have HT1 := Lib.hid hT1
                  clear hce hat1 hF1 hg1 hT1 y0 y1 y2 y3 y4 y5 y6 y7 x0 x1 HC1
                  obtain ⟨x0, x1, y0, y1, y2, y3, y4, y5, y6, y7⟩ := HS.out _ (HKW.out.fr HF1.out (fun h => h) (fun h => h))
                  go_wp2_with fail
                  refine (HC2.out w2 HF1.out).mono ?_
                  rintro e w3 hc2
                  rcases hc2 with ⟨h1, _⟩ | ⟨_, g2, T2, rfl, hat2, hF2, hg2, hT2⟩
                  · exact absurd HCE.out h1
                  have HAT2 := Lib.hid hat2
                  have HF2 := Lib.hid hF2
                  have HT2 := Lib.hid hT2
                  have HFX : Hid (Fr (fun _ => False) wc w3) := HF1.out.trans hF2 (fun _ _ h => h)
                  clear hat2 hF2 hg2 hT2 y0 y1 y2 y3 y4 y5 y6 y7 x0 x1 HC2
                  have HSA : Hid (∀ W : World, Fr (fun _ => False) w3 W → Calls Try.prog 33 #[.pointer (some ⟨g, 0, none⟩), .pointer (some ⟨gr, 0, none⟩)] W (fun e w' => e = .returned (.bool true) ∧ Fr (fun _ => False) W w')) := fun W hW => same_any (HDBW.out.a.fr0 (HFX.out.trans hW (fun _ _ h => h))) (HDBW.out.b.fr0 (HFX.out.trans hW (fun _ _ h => h))) HPU.out
                  have HF : Hid (Fr (fun _ => False) w3 w3) := Fr.refl _ _
                  have HKX := Lib.hid (HKW.out.fr HFX.out (fun h => h) (fun h => h))
                  have HSX : Hid (∀ W : World, Fr (fun _ => False) w3 W → W.cell? ⟨x, 0, none⟩ = some (.pointer (some ⟨g, 0, none⟩)) ∧ W.cell? ⟨x, 1, none⟩ = some (.pointer (some ⟨gr, 0, none⟩)) ∧ W.cell? ⟨xb, 0, none⟩ = some (.int .i64 ok) ∧ W.cell? ⟨xb, 1, none⟩ = some (.int .i64 oat) ∧ W.cell? ⟨xb, 2, none⟩ = some (.slice obA ob.length obc) ∧ W.cell? ⟨xb, 3, none⟩ = some (.bool owh) ∧ W.cell? ⟨xb, 4, none⟩ = some (.int .i64 onn) ∧ W.cell? ⟨xb, 5, none⟩ = some (.int .i64 opl) ∧ W.cell? ⟨xb, 6, none⟩ = some (.int .u8 omk) ∧ W.cell? ⟨xb, 7, none⟩ = some (.slice ofA ofn ofc)) := fun W hW => HS.out _ (HKX.out.fr hW (fun h => h) (fun h => h))
                  obtain ⟨x0, x1, y0, y1, y2, y3, y4, y5, y6, y7⟩ := HS.out _ HKX.out
                  go_upto_region 21 with fail
                  clear y0 y1 y2 y3 y4 y5 y6 y7 x0 x1
                  go_region_held3 (fun W => W.cell? ⟨x, 0, none⟩ = some (.pointer (some ⟨g, 0, none⟩)) ∧ W.cell? ⟨x, 1, none⟩ = some (.pointer (some ⟨gr, 0, none⟩)) ∧ W.cell? ⟨xb, 0, none⟩ = some (.int .i64 ok) ∧ W.cell? ⟨xb, 1, none⟩ = some (.int .i64 oat) ∧ W.cell? ⟨xb, 2, none⟩ = some (.slice obA ob.length obc) ∧ W.cell? ⟨xb, 3, none⟩ = some (.bool owh) ∧ W.cell? ⟨xb, 4, none⟩ = some (.int .i64 onn) ∧ W.cell? ⟨xb, 5, none⟩ = some (.int .i64 opl) ∧ W.cell? ⟨xb, 6, none⟩ = some (.int .u8 omk) ∧ W.cell? ⟨xb, 7, none⟩ = some (.slice ofA ofn ofc))
                    (first | exact HSX.out _ HF.out | exact HSX.out _ HF.out.drew)
                    (first
                      | (go_at_call 33; refine (HSA.out _ (by first | exact HF.out | exact HF.out.drew)).mono ?_; rintro e wn ⟨rfl, hf⟩; have HF : Hid (Fr (fun _ => False) w3 wn) := (by first | exact HF.out.trans hf (fun _ _ h => h) | exact HF.out.drew.trans hf (fun _ _ h => h)); clear hf))
                  have hblk := (HKX.out.fr HF.out (fun h => h) (fun h => h)).1
                  have x0 : wn.cell? ⟨x, 0, none⟩ = some (.pointer (some ⟨g, 0, none⟩)) := blk_cell hblk 0
                  have x1 : wn.cell? ⟨x, 1, none⟩ = some (.pointer (some ⟨gr, 0, none⟩)) := blk_cell hblk 1
                  have z0 : wn.frozen? ⟨x, 0, none⟩ = false := blk_frozen hblk 0
                  have z1 : wn.frozen? ⟨x, 1, none⟩ = false := blk_frozen hblk 1
                  have HE : Hid (Bx w0 ((wn.setCell ⟨x, 0, none⟩ (.pointer (some ⟨g1, 0, none⟩))).setCell ⟨x, 1, none⟩ (.pointer (some ⟨g2, 0, none⟩))) x (k + 2)) := by
                    have hFs : Fr (fun q => q = x) wn ((wn.setCell ⟨x, 0, none⟩ (.pointer (some ⟨g1, 0, none⟩))).setCell ⟨x, 1, none⟩ (.pointer (some ⟨g2, 0, none⟩))) := setg_fr (setg_fr (Fr.refl _ _) _ _) _ _
                    have hs1 := HF5.out.size
                    have hs2 := HF1.out.size
                    have hs3 := HF2.out.size
                    have hs4 := HDB.out.fr.size
                    have hx := HX.out.2.2.2
                    have hn1 : ∀ q, T1 q → ¬ q = x := fun q hq e => by have := HT1.out q hq; omega
                    have hn2 : ∀ q, T2 q → ¬ q = x := fun q hq e => by have := HT2.out q hq; omega
                    refine ⟨g1, g2, T1, T2, newDk (crashF d l fs5), ⟨((HAT1.out.fr0 HF2.out).fr0 HF.out).fr hFs hn1, (HAT2.out.fr0 HF.out).fr hFs hn2, by simp [newDk]; omega, by simp [newDk], by simp [newDk]; omega, by simp [newDk], fun q hq => by have := HT1.out q hq; omega, fun q hq => by have := HT2.out q hq; omega, fun q h1 h2 => by have := HAT1.out.lt q h1; have := HT2.out q h2; omega,
                      (HDBW.out.fr.trans (HFX.out.trans HF.out (fun _ _ h => h)) (fun _ _ h => h.elim)).trans hFs (fun q _ e => by show w0.heap.size ≤ q; rw [e]; exact HX.out.2.2.1)⟩, ?_, fun h => hn1 x h rfl, fun h => hn2 x h rfl, HX.out.2.2.1⟩
                    have := blk_set (blk_set hblk 0 (.pointer (some ⟨g1, 0, none⟩))) 1 (.pointer (some ⟨g2, 0, none⟩))
                    simpa using this
                  clear hblk HSA HSX HF
                  go_wp2_with fail
                  go_ret
                  exact ⟨rfl, HE.out⟩
                · rcases hc1 with ⟨_, rfl, hF1⟩ | ⟨h1, _⟩
                  rotate_left 1
                  · exact absurd h1 hce
                  have HCE := Lib.hid hce
                  obtain ⟨r, hr⟩ : ∃ r, r = crashE l fs5 := ⟨_, rfl⟩
                  rw [← hr]
                  have HRE := Lib.hid hr
                  have HF1 := Lib.hid hF1
                  clear hce hF1 hr y0 y1 y2 y3 y4 y5 y6 y7 x0 x1 HC1
                  obtain ⟨x0, x1, y0, y1, y2, y3, y4, y5, y6, y7⟩ := HS.out _ (HKW.out.fr HF1.out (fun h => h) (fun h => h))
                  go_wp2_with fail
                  refine (HC2.out w2 HF1.out).mono ?_
                  rintro e w3 hc2
                  rcases hc2 with ⟨_, rfl, hF2⟩ | ⟨h1, _⟩
                  rotate_left 1
                  · exact absurd h1 HCE.out
                  rw [← HRE.out]
                  have HFX : Hid (Fr (fun _ => False) wc w3) := HF1.out.trans hF2 (fun _ _ h => h)
                  clear hF2 y0 y1 y2 y3 y4 y5 y6 y7 x0 x1 HC2
                  have HSA : Hid (∀ W : World, Fr (fun _ => False) w3 W → Calls Try.prog 33 #[.pointer (some ⟨g, 0, none⟩), .pointer (some ⟨gr, 0, none⟩)] W (fun e w' => e = .returned (.bool true) ∧ Fr (fun _ => False) W w')) := fun W hW => same_any (HDBW.out.a.fr0 (HFX.out.trans hW (fun _ _ h => h))) (HDBW.out.b.fr0 (HFX.out.trans hW (fun _ _ h => h))) HPU.out
                  have HF : Hid (Fr (fun _ => False) w3 w3) := Fr.refl _ _
                  have HKX := Lib.hid (HKW.out.fr HFX.out (fun h => h) (fun h => h))
                  have HSX : Hid (∀ W : World, Fr (fun _ => False) w3 W → W.cell? ⟨x, 0, none⟩ = some (.pointer (some ⟨g, 0, none⟩)) ∧ W.cell? ⟨x, 1, none⟩ = some (.pointer (some ⟨gr, 0, none⟩)) ∧ W.cell? ⟨xb, 0, none⟩ = some (.int .i64 ok) ∧ W.cell? ⟨xb, 1, none⟩ = some (.int .i64 oat) ∧ W.cell? ⟨xb, 2, none⟩ = some (.slice obA ob.length obc) ∧ W.cell? ⟨xb, 3, none⟩ = some (.bool owh) ∧ W.cell? ⟨xb, 4, none⟩ = some (.int .i64 onn) ∧ W.cell? ⟨xb, 5, none⟩ = some (.int .i64 opl) ∧ W.cell? ⟨xb, 6, none⟩ = some (.int .u8 omk) ∧ W.cell? ⟨xb, 7, none⟩ = some (.slice ofA ofn ofc)) := fun W hW => HS.out _ (HKX.out.fr hW (fun h => h) (fun h => h))
                  obtain ⟨x0, x1, y0, y1, y2, y3, y4, y5, y6, y7⟩ := HS.out _ HKX.out
                  go_upto_region 21 with fail
                  clear y0 y1 y2 y3 y4 y5 y6 y7 x0 x1
                  go_region_held3 (fun W => W.cell? ⟨x, 0, none⟩ = some (.pointer (some ⟨g, 0, none⟩)) ∧ W.cell? ⟨x, 1, none⟩ = some (.pointer (some ⟨gr, 0, none⟩)) ∧ W.cell? ⟨xb, 0, none⟩ = some (.int .i64 ok) ∧ W.cell? ⟨xb, 1, none⟩ = some (.int .i64 oat) ∧ W.cell? ⟨xb, 2, none⟩ = some (.slice obA ob.length obc) ∧ W.cell? ⟨xb, 3, none⟩ = some (.bool owh) ∧ W.cell? ⟨xb, 4, none⟩ = some (.int .i64 onn) ∧ W.cell? ⟨xb, 5, none⟩ = some (.int .i64 opl) ∧ W.cell? ⟨xb, 6, none⟩ = some (.int .u8 omk) ∧ W.cell? ⟨xb, 7, none⟩ = some (.slice ofA ofn ofc))
                    (first | exact HSX.out _ HF.out | exact HSX.out _ HF.out.drew)
                    (first
                      | (go_at_call 33; refine (HSA.out _ (by first | exact HF.out | exact HF.out.drew)).mono ?_; rintro e wn ⟨rfl, hf⟩; have HF : Hid (Fr (fun _ => False) w3 wn) := (by first | exact HF.out.trans hf (fun _ _ h => h) | exact HF.out.drew.trans hf (fun _ _ h => h)); clear hf))
                  have HE : Hid (Bx w0 wn x (k + 2)) := ⟨g, gr, T, TR, d, (HDBW.out.fr0 (HFX.out.trans HF.out (fun _ _ h => h))).mono (by omega), (HKX.out.fr HF.out (fun h => h) (fun h => h)).1, HX.out.1, HX.out.2.1, HX.out.2.2.1⟩
                  clear HSA HSX HF
                  go_wp2_with fail
                  go_ret
                  exact ⟨rfl, HE.out⟩
            · have hkb6 : (ok == 6) = false := by simp [hk6]
              clear hk6
              have HE : Hid (Bx w0 w1 x (k + 2)) := ⟨g, gr, T, TR, d, HDB.out.mono (by omega), HK.out.1, HX.out.1, HX.out.2.1, HX.out.2.2.1⟩
              go_wp2_with fail
              go_ret
              exact ⟨rfl, HE.out⟩
end Go.Proofs.Ytdamegjhdopfaaa
