/- NetPeers' walk. -/
import Derived.Test.YtedmhhllkkgbjaaPe24
namespace Go.Proofs.Ytedmhhllkkgbjaa
open Go.RowKit Go.WideShapes
set_option linter.unusedSimpArgs false
set_option linter.unusedVariables false

def PInv (w0 : World) (g bw bg b7 : Nat) (n : Int) (i : Nat) (wr : World) : Prop :=
  ∃ SA sc kw kg Dw Dg LA lc GA gc L G, Both w0.heap.size wr g bw bg b7 n SA sc kw kg Dw Dg LA lc GA gc L G ∧ kw ≤ i ∧ kg ≤ i ∧ L.length ≤ i ∧ G.length ≤ i ∧ Fr (fun k => w0.heap.size ≤ k) w0 wr
theorem PInv.fr0 {w0 : World} {g bw bg b7 : Nat} {n : Int} {i : Nat} {wr w' : World} (h : PInv w0 g bw bg b7 n i wr) (hF : Fr (fun _ => False) wr w') : PInv w0 g bw bg b7 n i w' := by
  obtain ⟨SA, sc, kw, kg, Dw, Dg, LA, lc, GA, gc, L, G, h1, h2, h3, h4, h5, h6⟩ := h
  exact ⟨SA, sc, kw, kg, Dw, Dg, LA, lc, GA, gc, L, G, h1.fr0 hF, h2, h3, h4, h5, h6.trans hF (fun _ _ h => h.elim)⟩
theorem PInv.up {w0 : World} {g bw bg b7 : Nat} {n : Int} {i j : Nat} {wr : World} (h : PInv w0 g bw bg b7 n i wr) (hj : i ≤ j) : PInv w0 g bw bg b7 n j wr := by
  obtain ⟨SA, sc, kw, kg, Dw, Dg, LA, lc, GA, gc, L, G, h1, h2, h3, h4, h5, h6⟩ := h
  exact ⟨SA, sc, kw, kg, Dw, Dg, LA, lc, GA, gc, L, G, h1, by omega, by omega, by omega, by omega, h6⟩
theorem offerOf_len {n : Int} {key : ByteArray} {x : Int} {L L' : List (Msg × Bool)} {m : Msg} {r : Int} (h : offerOf n key x L = (m, r, L')) : L'.length ≤ L.length + 1 := by
  unfold offerOf at h
  split at h
  · simp only [Prod.mk.injEq] at h; rw [← h.2.2]; omega
  · split at h
    · simp only [Prod.mk.injEq] at h; rw [← h.2.2]; omega
    · simp only [Prod.mk.injEq] at h; rw [← h.2.2, List.length_append]; simp
theorem hearOf_len {n : Int} {x : Msg} {L L' : List (Msg × Bool)} {m : Msg} {b : Bool} (h : hearOf n x L = (m, b, L')) : L'.length = L.length := by
  unfold hearOf at h
  split at h
  · simp only [Prod.mk.injEq] at h; rw [← h.2.2]
  · split at h
    · simp only [Prod.mk.injEq] at h; rw [← h.2.2, ack_len]
    · simp only [Prod.mk.injEq] at h; rw [← h.2.2]
theorem insG_len (G : List Msg) (m : Msg) (b : Bool) : (insG G m b).length ≤ G.length + 1 := by
  unfold insG
  split
  · rw [List.length_append]; simp
  · omega
theorem deed_fresh {wr : World} {gm : Nat} {g : Nat} {n : Int} {bw bg : Nat} {SA : Option Addr} {sc kw kg : Nat} {Dw Dg : DataW Msg} {L : List (Msg × Bool)} {G : List Msg} (h : PS wr g n bw bg SA sc kw kg Dw Dg L G) (hg : wr.heap.size ≤ gm) : ¬ Touch g bw bg SA gm := fun hk => by
  have := h.lt gm hk; omega
theorem Both.three {B : Nat} {w W : World} {g bw bg b7 : Nat} {n : Int} {SA : Option Addr} {sc kw kg : Nat} {Dw Dg : DataW Msg} {LA : Option Addr} {lc : Nat} {GA : Option Addr} {gc : Nat} {L : List (Msg × Bool)} {G : List Msg} (h : Both B w g bw bg b7 n SA sc kw kg Dw Dg LA lc GA gc L G) (hF : Fr (fun _ => False) w W) :
    W.cell? ⟨b7, 0, none⟩ = some (.int .i64 n) ∧ W.cell? ⟨b7, 1, none⟩ = some (.slice LA L.length lc) ∧ W.cell? ⟨b7, 2, none⟩ = some (.slice GA G.length gc) :=
  ⟨blk_cell (hF.blk0 h.box) 0, blk_cell (hF.blk0 h.box) 1, blk_cell (hF.blk0 h.box) 2⟩

set_option maxRecDepth 100000 in
set_option maxHeartbeats 8000000 in
theorem peers_bad (A : Option Addr) (c : Nat) (l : Nat) (n : Int) (w : World) (hb : n < 1 ∨ 15 < n) :
    Calls Try.prog 12 #[.int .i64 n, .slice A l c] w (fun e w' => e = .returned (.bool true) ∧ Below w.heap.size w w') := by
  have HB := Lib.hid hb
  clear hb
  go_enter Try.func12, Try.ntmps12
  go_wp2_with fail
  refine (newPeer_bad w n HB.out).mono ?_
  rintro e w1 ⟨rfl, hF1⟩
  have HF1 := Lib.hid hF1
  clear hF1
  go_wp2_with fail
  refine (rnew_bad w1 n HB.out).mono ?_
  rintro e w2 ⟨rfl, hF2⟩
  simp only [rpeer]
  have HF2 := Lib.hid (HF1.out.trans hF2 (fun _ _ h => h))
  clear hF2
  go_wp2_with fail
  refine (awake_net _).mono ?_
  rintro e w3 ⟨rfl, hF3⟩
  have HF3 := Lib.hid ((HF2.out.alloc _).trans hF3 (fun _ _ h => h))
  clear hF3
  go_wp2
  go_ret
  exact ⟨rfl, HF3.out.below0⟩

set_option maxRecDepth 100000 in
set_option maxHeartbeats 16000000 in
theorem peers_any (A : Option Addr) (c : Nat) (ds : List Deed) (n : Int) (w : World) (hl : ds.length ≤ maxLen) (hR : ReadD w A ds) (hwf : ∀ d ∈ ds, (Lit.int .i64 d.m.seq).wf = true ∧ 0 ≤ d.kind ∧ d.kind ≤ 255) :
    Calls Try.prog 12 #[.int .i64 n, .slice A ds.length c] w (fun e w' => e = .returned (.bool true) ∧ Below w.heap.size w w') := by
  by_cases hb : n < 1 ∨ 15 < n
  · exact peers_bad A c ds.length n w hb
  have HR := Lib.hid hR
  have HWF := Lib.hid hwf
  have hn1 : 1 ≤ n := by omega
  have hn15 : n ≤ 15 := by omega
  have hn0 : n ≠ 0 := by omega
  have HN0 := Lib.hid hn0
  clear hR hwf hb hn0
  go_enter Try.func12, Try.ntmps12
  go_wp2_with fail
  refine (newPeer_any w n hn1 hn15).mono ?_
  rintro e w1 ⟨g, bw, bg, rfl, hP, hF1, hg, hbw, hbg⟩
  have HP := Lib.hid hP
  have HF1 := Lib.hid hF1
  clear hP hF1
  go_wp2_with fail
  refine (rnew_ok w1 n hn1 hn15).mono ?_
  rintro e w2 ⟨rfl, hF2⟩
  simp only [rpeer]
  have HP2 : Hid (PS w2 g n bw bg none 0 0 0 (.map []) (.map []) [] []) := ⟨HP.out.fr0 hF2, ⟨by simp [firsts], .inl ⟨rfl, rfl⟩⟩, WaitIs.nil, MapIs.nil, fun i x h => by simp at h⟩
  have HF2 := Lib.hid (HF1.out.trans hF2 (fun _ _ h => h))
  clear HP HF1 hF2
  go_upto_region 3 with (fail)
  obtain ⟨w3, he, hn3, hF3, hs3⟩ := alloc1 w2 (.cells #[.int .i64 n, .slice none 0 0, .slice none 0 0] 79)
  rw [he]
  obtain ⟨b7, hb7⟩ : ∃ b, b = w2.heap.size := ⟨_, rfl⟩
  rw [← hb7] at hn3 ⊢
  have hI3 : PInv w g bw bg b7 n 0 w3 := by
    have hT : ∀ k, Touch g bw bg none k → w.heap.size ≤ k := by
      rintro k (hk | hk | hk | hk)
      · omega
      · cases hk
      · omega
      · omega
    refine ⟨none, 0, 0, 0, _, _, none, 0, none, 0, [], [], ⟨HP2.out.fr0 hF3, hn3, fun i x h => by simp at h, fun i x h => by simp at h, List.Pairwise.nil, hT, ?_, fun a o e => (by cases e), fun a o e => (by cases e), deed_fresh HP2.out (Nat.le_of_eq hb7.symm)⟩, by omega, by omega, by simp, by simp, (HF2.out.trans hF3 (fun _ _ h => h)).none⟩
    rw [hb7]; exact HF2.out.size
  have I3 := Lib.hid hI3
  clear he hn3 hF3 hs3 hb7 hI3 HP2 HF2
  go_wp2_with fail
  refine (awake_net w3).mono ?_
  rintro e w4 ⟨rfl, hF4⟩
  have I4 := Lib.hid (I3.out.fr0 hF4)
  clear I3 hF4
  go_wp2_with fail
  go_loopw [9] (fun k wr => ∃ i : Nat, i ≤ ds.length ∧ i ≤ 100 ∧ k = .int .i64 i ∧ Hid (PInv w g bw bg b7 n i wr)) (fun k _ => 100 - (intOf k).toNat)
  case atStart => exact ⟨0, by omega, by omega, rfl, I4⟩
  case round =>
    clear I4
    obtain ⟨i, hi, hi100, rfl, HI⟩ := hrel
    by_cases hlt : i < ds.length ∧ i < 100
    · obtain ⟨hlt, hlt1⟩ := hlt
      obtain ⟨d, hd⟩ : ∃ d, ds[i]? = some d := ⟨_, List.getElem?_eq_getElem hlt⟩
      obtain ⟨qg, qo, rfl, hq⟩ := HR.out i d hd
      obtain ⟨SA, sc, kw, kg, Dw, Dg, LA, lc, GA, gc, L, G, hB, hkw, hkg, hLl, hGl, hF⟩ := HI.out
      have hbel : Below w.heap.size w wr := hF.below (Nat.le_refl _) (fun _ h => h)
      have hqq := fun (j : Nat) (u : Value) (hu : d.cells[j]? = some u) => (Fr.of_below hbel (fun _ => False)).cell0 (hq j u hu)
      obtain ⟨hw, hk0, hk255⟩ := HWF.out d (List.mem_of_getElem? hd)
      obtain ⟨dk, dkey, dn, ⟨mk, mp, msq, mt, mn⟩⟩ := d
      have q0 := hqq 0 _ rfl
      have q1 := hqq 1 _ rfl
      have q2 := hqq 2 _ rfl
      have q3 := hqq 3 _ rfl
      have q4 := hqq 4 _ rfl
      have q5 := hqq 5 _ rfl
      have q6 := hqq 6 _ rfl
      have q7 := hqq 7 _ rfl
      simp only [Nat.add_zero] at q0
      simp only at hw hk0 hk255
      have hii : (i : Int) < ds.length := by omega
      have hi1 : (i : Int) < 100 := by omega
      have HW := Lib.hid hw
      have HB0 := Lib.hid hB
      have HF0 := Lib.hid hF
      clear hd hq hbel hqq hw hB hF
      go_upto_region 11 with (fail)
      obtain ⟨wx, he, hnx, hFx, hszx⟩ := alloc1 wr (.cells #[.int .u8 dk, .string dkey, .int .i64 dn, .int .i64 mk, .int .i64 mp, .int .i64 msq, .string mt, .int .i64 mn] 83)
      rw [he]
      obtain ⟨gm, hgm⟩ : ∃ gm, gm = wr.heap.size := ⟨_, rfl⟩
      rw [← hgm] at hnx ⊢
      have HGT : Hid (¬ Touch g bw bg SA gm) := deed_fresh HB0.out.ps (Nat.le_of_eq hgm.symm)
      have HNX := Lib.hid hnx
      have HB := Lib.hid (HB0.out.fr0 hFx)
      have HF : Hid (Fr (fun k => w.heap.size ≤ k) w wx) := HF0.out.trans hFx (fun _ _ h => h.elim)
      have HNEXT : Hid (PInv w g bw bg b7 n (i + 1) wx) := (HI.out.fr0 hFx).up (by omega)
      have x0 : wx.cell? ⟨gm, 0, none⟩ = some (.int .u8 dk) := blk_cell hnx 0
      have x1 : wx.cell? ⟨gm, 1, none⟩ = some (.string dkey) := blk_cell hnx 1
      have x2 : wx.cell? ⟨gm, 2, none⟩ = some (.int .i64 dn) := blk_cell hnx 2
      have x3 : wx.cell? ⟨gm, 3, none⟩ = some (.int .i64 mk) := blk_cell hnx 3
      have x4 : wx.cell? ⟨gm, 4, none⟩ = some (.int .i64 mp) := blk_cell hnx 4
      have x5 : wx.cell? ⟨gm, 5, none⟩ = some (.int .i64 msq) := blk_cell hnx 5
      have x6 : wx.cell? ⟨gm, 6, none⟩ = some (.string mt) := blk_cell hnx 6
      have x7 : wx.cell? ⟨gm, 7, none⟩ = some (.int .i64 mn) := blk_cell hnx 7
      clear he hnx hFx hszx hgm q0 q1 q2 q3 q4 q5 q6 q7 HB0 HF0 HI
      rcases Nat.lt_or_ge 100 dkey.size with h1 | h1
      · have h1i : (100 : Int) < (dkey.size : Int) := by omega
        go_wp2_with fail
        exact ⟨⟨i + 1, by omega, by omega, by go_num, HNEXT⟩, by simp [intOf]; omega⟩
      have h1i : ¬ (100 : Int) < (dkey.size : Int) := by omega
      rcases Nat.lt_or_ge 100 mt.size with h2 | h2
      · have h2i : (100 : Int) < (mt.size : Int) := by omega
        go_wp2_with fail
        exact ⟨⟨i + 1, by omega, by omega, by go_num, HNEXT⟩, by simp [intOf]; omega⟩
      have h2i : ¬ (100 : Int) < (mt.size : Int) := by omega
      clear HNEXT h1 h2
      have hwx : w.heap.size ≤ wx.heap.size := HF.out.size
      have hkwm : kw < maxLen := by simp [maxLen]; omega
      have hkgm : kg < maxLen := by simp [maxLen]; omega
      have hLm : L.length ≤ 1000000 := by omega
      have hGm : G.length ≤ 1000000 := by omega
      go_upto_if 70 with (fail)
      go_cut [] (fun wd => Hid (PInv w g bw bg b7 n (i + 1) wd))
      case first =>
        by_cases hq : dk % 2 = 0
        · have b0 : (dk % 2 == 0) = true := by simp [hq]
          clear hq
          obtain ⟨⟨⟨ok, op, os, ot, on⟩, r, L'⟩, ho⟩ : ∃ o, offerOf n dkey dn L = o := ⟨_, rfl⟩
          have HO := Lib.hid ho
          clear ho
          go_wp2_with fail
          refine (offer_all HB.out.ps HN0.out dkey dn hkwm (by omega) HO.out).mono ?_
          rintro e w1' ⟨SA', sc', kw', Dw', rfl, hP1, hkw', hF1, hM1⟩
          simp only [Msg.v]
          obtain ⟨hb1, hrl1, hrg1⟩ := HB.out.mid hF1
          have hn1' := hF1.blk HNX.out HGT.out
          have HP1 := Lib.hid hP1
          have HF1 := Lib.hid hF1
          have HM1 := Lib.hid hM1
          have HBX1 := Lib.hid hb1
          have HRL1 := Lib.hid hrl1
          have HRG1 := Lib.hid hrg1
          clear hP1 hF1 hM1 hb1 hrl1 hrg1 x0 x1 x2 x3 x4 x5 x6 x7
          go_upto_region 14 with (fail)
          obtain ⟨w2', he2, hn2, hF2, hs2⟩ := alloc1 w1' (.cells #[.int .i64 ok, .int .i64 op, .int .i64 os, .string ot, .int .i64 on] 71)
          rw [he2]
          have y1 : w2'.cell? ⟨gm, 1, none⟩ = some (.string dkey) := blk_cell (hF2.blk0 hn1') 1
          have y2 : w2'.cell? ⟨gm, 2, none⟩ = some (.int .i64 dn) := blk_cell (hF2.blk0 hn1') 2
          have z0 : w2'.cell? ⟨b7, 0, none⟩ = some (.int .i64 n) := blk_cell (hF2.blk0 HBX1.out) 0
          have z1 : w2'.cell? ⟨b7, 1, none⟩ = some (.slice LA L.length lc) := blk_cell (hF2.blk0 HBX1.out) 1
          have z2 : w2'.cell? ⟨b7, 2, none⟩ = some (.slice GA G.length gc) := blk_cell (hF2.blk0 HBX1.out) 2
          have HF2 := Lib.hid hF2
          have HN2 := Lib.hid hn2
          clear he2 hn1' hn2 hF2 hs2
          go_wp2_with fail
          refine (roffer_all w2' n LA GA lc G.length gc L dkey dn hLm (HRL1.out.fr HF2.out (fun _ _ _ h => h)) HO.out).mono ?_
          rintro e w3' ⟨A2, c2, rfl, hr3, hF3, hA3⟩
          simp only [rpeer, Msg.v]
          have HR3 := Lib.hid hr3
          have HF3 := Lib.hid hF3
          have HA3 := Lib.hid hA3
          clear y1 y2 z0 z1 z2 hr3 hF3 hA3
          go_upto_region 15 with (fail)
          obtain ⟨w4', he4, hn4, hn5, hF4, hs4⟩ := alloc2 w3' (.cells #[.int .i64 n, .slice A2 L'.length c2, .slice GA G.length gc] 79) (.cells #[.int .i64 ok, .int .i64 op, .int .i64 os, .string ot, .int .i64 on] 71)
          rw [he4]
          have hn6 := hF4.blk0 (HF3.out.blk0 HN2.out)
          have HF14 := Lib.hid ((HF2.out.trans HF3.out (fun _ _ h => h)).trans hF4 (fun _ _ h => h))
          have hb4 := HF14.out.blk0 HBX1.out
          have u0 : w4'.cell? ⟨w3'.heap.size, 0, none⟩ = some (.int .i64 n) := blk_cell hn4 0
          have u1 : w4'.cell? ⟨w3'.heap.size, 1, none⟩ = some (.slice A2 L'.length c2) := blk_cell hn4 1
          have u2 : w4'.cell? ⟨w3'.heap.size, 2, none⟩ = some (.slice GA G.length gc) := blk_cell hn4 2
          have v0 : w4'.cell? ⟨w3'.heap.size + 1, 0, none⟩ = some (.int .i64 ok) := blk_cell hn5 0
          have v1 : w4'.cell? ⟨w3'.heap.size + 1, 1, none⟩ = some (.int .i64 op) := blk_cell hn5 1
          have v2 : w4'.cell? ⟨w3'.heap.size + 1, 2, none⟩ = some (.int .i64 os) := blk_cell hn5 2
          have v3 : w4'.cell? ⟨w3'.heap.size + 1, 3, none⟩ = some (.string ot) := blk_cell hn5 3
          have v4 : w4'.cell? ⟨w3'.heap.size + 1, 4, none⟩ = some (.int .i64 on) := blk_cell hn5 4
          have t0 : w4'.cell? ⟨w1'.heap.size, 0, none⟩ = some (.int .i64 ok) := blk_cell hn6 0
          have t1 : w4'.cell? ⟨w1'.heap.size, 1, none⟩ = some (.int .i64 op) := blk_cell hn6 1
          have t2 : w4'.cell? ⟨w1'.heap.size, 2, none⟩ = some (.int .i64 os) := blk_cell hn6 2
          have t3 : w4'.cell? ⟨w1'.heap.size, 3, none⟩ = some (.string ot) := blk_cell hn6 3
          have t4 : w4'.cell? ⟨w1'.heap.size, 4, none⟩ = some (.int .i64 on) := blk_cell hn6 4
          have z0 : w4'.cell? ⟨b7, 0, none⟩ = some (.int .i64 n) := blk_cell hb4 0
          have z1 : w4'.cell? ⟨b7, 1, none⟩ = some (.slice LA L.length lc) := blk_cell hb4 1
          have z2 : w4'.cell? ⟨b7, 2, none⟩ = some (.slice GA G.length gc) := blk_cell hb4 2
          have f0 := blk_frozen hb4 0
          have f1 := blk_frozen hb4 1
          have f2 := blk_frozen hb4 2
          have hr4 := HR3.out.fr hF4 (fun _ _ _ h => h)
          have hstep := HB.out.step HF1.out HP1.out HM1.out hwx HF14.out hr4 (HRG1.out.fr HF14.out (fun _ _ _ h => h)) (List.Perm.refl _) HB.out.rise
            (lc' := c2) (gc' := gc) (HA3.out.imp (fun e => e) (fun ⟨h1, h2⟩ => ⟨h1, fun a o e => Nat.le_trans HF2.out.size (h2 a o e)⟩)) (.inl rfl)
          have hlen := offerOf_len HO.out
          have hend : PInv w g bw bg b7 n (i + 1) (((w4'.setCell ⟨b7, 0, none⟩ (.int .i64 n)).setCell ⟨b7, 1, none⟩ (.slice A2 L'.length c2)).setCell ⟨b7, 2, none⟩ (.slice GA G.length gc)) :=
            ⟨SA', sc', kw', kg, Dw', Dg, A2, c2, GA, gc, L', G, hstep.1, by omega, by omega, by omega, by omega, HF.out.trans hstep.2 (fun _ _ h => h)⟩
          have HEND := Lib.hid hend
          clear he4 hn4 hn5 hF4 hs4 hn6 hb4 hr4 hstep hlen hend
          go_wp2_with fail
          go_meet
          case rel => exact HEND
        · have b0 : (dk % 2 == 0) = false := by simp [hq]
          clear hq
          obtain ⟨⟨⟨ok, op, os, ot, on⟩, r, L'⟩, ho⟩ : ∃ o, hearOf n ⟨mk, mp, msq, mt, mn⟩ L = o := ⟨_, rfl⟩
          have HO := Lib.hid ho
          clear ho
          go_wp2_with fail
          refine (hear_all HB.out.ps HN0.out ⟨mk, mp, msq, mt, mn⟩ HW.out hkgm HO.out).mono ?_
          rintro e w1' ⟨kg', Dw', Dg', rfl, hP1, hkg', hF1⟩
          simp only [Msg.v]
          obtain ⟨hb1, hrl1, hrg1⟩ := HB.out.mid hF1
          have hn1' := hF1.blk HNX.out HGT.out
          have HP1 := Lib.hid hP1
          have HF1 := Lib.hid hF1
          have HBX1 := Lib.hid hb1
          have HRL1 := Lib.hid hrl1
          have HRG1 := Lib.hid hrg1
          clear hP1 hF1 hb1 hrl1 hrg1 x0 x1 x2 x3 x4 x5 x6 x7
          go_upto_region 19 with (fail)
          obtain ⟨w2', he2, hn2, hF2, hs2⟩ := alloc1 w1' (.cells #[.int .i64 ok, .int .i64 op, .int .i64 os, .string ot, .int .i64 on] 71)
          rw [he2]
          have y3 : w2'.cell? ⟨gm, 3, none⟩ = some (.int .i64 mk) := blk_cell (hF2.blk0 hn1') 3
          have y4 : w2'.cell? ⟨gm, 4, none⟩ = some (.int .i64 mp) := blk_cell (hF2.blk0 hn1') 4
          have y5 : w2'.cell? ⟨gm, 5, none⟩ = some (.int .i64 msq) := blk_cell (hF2.blk0 hn1') 5
          have y6 : w2'.cell? ⟨gm, 6, none⟩ = some (.string mt) := blk_cell (hF2.blk0 hn1') 6
          have y7 : w2'.cell? ⟨gm, 7, none⟩ = some (.int .i64 mn) := blk_cell (hF2.blk0 hn1') 7
          have z0 : w2'.cell? ⟨b7, 0, none⟩ = some (.int .i64 n) := blk_cell (hF2.blk0 HBX1.out) 0
          have z1 : w2'.cell? ⟨b7, 1, none⟩ = some (.slice LA L.length lc) := blk_cell (hF2.blk0 HBX1.out) 1
          have z2 : w2'.cell? ⟨b7, 2, none⟩ = some (.slice GA G.length gc) := blk_cell (hF2.blk0 HBX1.out) 2
          have HF2 := Lib.hid hF2
          have HN2 := Lib.hid hn2
          clear he2 hn1' hn2 hF2 hs2
          go_wp2_with fail
          refine (rhear_all w2' n LA GA lc gc L G ⟨mk, mp, msq, mt, mn⟩ hLm hGm (HRL1.out.fr HF2.out (fun _ _ _ h => h)) (HRG1.out.fr HF2.out (fun _ _ _ h => h)) HO.out).mono ?_
          rintro e w3' ⟨A2, c2, A3, c3, G', rfl, hr3, hm3, hF3, hpm, hri, hA3, hA4⟩
          simp only [rpeer, Msg.v]
          have HR3 := Lib.hid hr3
          have HM3 := Lib.hid hm3
          have HF3 := Lib.hid hF3
          have HPM := Lib.hid hpm
          have HRI := Lib.hid hri
          have HA3 := Lib.hid hA3
          have HA4 := Lib.hid hA4
          clear y3 y4 y5 y6 y7 z0 z1 z2 hr3 hm3 hF3 hpm hri hA3 hA4
          go_upto_region 20 with (fail)
          obtain ⟨w4', he4, hn4, hn5, hF4, hs4⟩ := alloc2 w3' (.cells #[.int .i64 n, .slice A2 L'.length c2, .slice A3 G'.length c3] 79) (.cells #[.int .i64 ok, .int .i64 op, .int .i64 os, .string ot, .int .i64 on] 71)
          rw [he4]
          have hn6 := hF4.blk0 (HF3.out.blk0 HN2.out)
          have HF14 := Lib.hid ((HF2.out.trans HF3.out (fun _ _ h => h)).trans hF4 (fun _ _ h => h))
          have hb4 := HF14.out.blk0 HBX1.out
          have u0 : w4'.cell? ⟨w3'.heap.size, 0, none⟩ = some (.int .i64 n) := blk_cell hn4 0
          have u1 : w4'.cell? ⟨w3'.heap.size, 1, none⟩ = some (.slice A2 L'.length c2) := blk_cell hn4 1
          have u2 : w4'.cell? ⟨w3'.heap.size, 2, none⟩ = some (.slice A3 G'.length c3) := blk_cell hn4 2
          have v0 : w4'.cell? ⟨w3'.heap.size + 1, 0, none⟩ = some (.int .i64 ok) := blk_cell hn5 0
          have v1 : w4'.cell? ⟨w3'.heap.size + 1, 1, none⟩ = some (.int .i64 op) := blk_cell hn5 1
          have v2 : w4'.cell? ⟨w3'.heap.size + 1, 2, none⟩ = some (.int .i64 os) := blk_cell hn5 2
          have v3 : w4'.cell? ⟨w3'.heap.size + 1, 3, none⟩ = some (.string ot) := blk_cell hn5 3
          have v4 : w4'.cell? ⟨w3'.heap.size + 1, 4, none⟩ = some (.int .i64 on) := blk_cell hn5 4
          have t0 : w4'.cell? ⟨w1'.heap.size, 0, none⟩ = some (.int .i64 ok) := blk_cell hn6 0
          have t1 : w4'.cell? ⟨w1'.heap.size, 1, none⟩ = some (.int .i64 op) := blk_cell hn6 1
          have t2 : w4'.cell? ⟨w1'.heap.size, 2, none⟩ = some (.int .i64 os) := blk_cell hn6 2
          have t3 : w4'.cell? ⟨w1'.heap.size, 3, none⟩ = some (.string ot) := blk_cell hn6 3
          have t4 : w4'.cell? ⟨w1'.heap.size, 4, none⟩ = some (.int .i64 on) := blk_cell hn6 4
          have z0 : w4'.cell? ⟨b7, 0, none⟩ = some (.int .i64 n) := blk_cell hb4 0
          have z1 : w4'.cell? ⟨b7, 1, none⟩ = some (.slice LA L.length lc) := blk_cell hb4 1
          have z2 : w4'.cell? ⟨b7, 2, none⟩ = some (.slice GA G.length gc) := blk_cell hb4 2
          have f0 := blk_frozen hb4 0
          have f1 := blk_frozen hb4 1
          have f2 := blk_frozen hb4 2
          have hstep := HB.out.step HF1.out HP1.out (Moved.refl _ _) hwx HF14.out (HR3.out.fr hF4 (fun _ _ _ h => h)) (HM3.out.fr hF4 (fun _ _ _ h => h)) HPM.out (HRI.out HB.out.rise)
            (lc' := c2) (gc' := c3) (HA3.out.imp (fun e => e) (fun ⟨h1, h2⟩ => ⟨h1, fun a o e => Nat.le_trans HF2.out.size (h2 a o e)⟩)) (HA4.out.imp (fun e => e) (fun ⟨h1, h2⟩ => ⟨h1, fun a o e => Nat.le_trans HF2.out.size (h2 a o e)⟩))
          have hlen := hearOf_len HO.out
          have hlen2 := HPM.out.length_eq
          have hlen3 := insG_len G ⟨mk, mp, msq, mt, mn⟩ r
          have hend : PInv w g bw bg b7 n (i + 1) (((w4'.setCell ⟨b7, 0, none⟩ (.int .i64 n)).setCell ⟨b7, 1, none⟩ (.slice A2 L'.length c2)).setCell ⟨b7, 2, none⟩ (.slice A3 G'.length c3)) :=
            ⟨SA, sc, kw, kg', Dw', Dg', A2, c2, A3, c3, L', G', hstep.1, by omega, by omega, by omega, by omega, HF.out.trans hstep.2 (fun _ _ h => h)⟩
          have HEND := Lib.hid hend
          clear he4 hn4 hn5 hF4 hs4 hn6 hb4 hstep hlen hlen2 hlen3 hend
          go_wp2_with fail
          go_meet
          case rel => exact HEND
      case rest =>
        clear HB HF HNX HGT hLl hGl hkw hkg hkwm hkgm hLm hGm x0 x1 x2 x3 x4 x5 x6 x7 hwx
        obtain ⟨SA, sc, kw, kg, Dw, Dg, LA, lc, GA, gc, L, G, hB, hkw, hkg, hLl, hGl, hF⟩ := hcut.out
        have hLm : L.length ≤ 1000000 := by omega
        have hGm : G.length ≤ 1000000 := by omega
        obtain ⟨X, hX⟩ : ∃ X, X = undone L := ⟨_, rfl⟩
        obtain ⟨Y, hY⟩ : ∃ Y, Y = firsts L := ⟨_, rfl⟩
        have hXl : X.length ≤ 1000000000 := by rw [hX]; have := undone_le L; omega
        have hYl : Y.length ≤ 1000000000 := by rw [hY, firsts_len]; omega
        have hGl9 : G.length ≤ 1000000000 := by omega
        have C45 : Hid (∀ W, Fr (fun _ => False) wc W → Calls Try.prog 45 #[.pointer (some ⟨g, 0, none⟩)] W (MsgsPost W X)) := fun W hW => by rw [hX]; exact hB.again hW HN0.out hLm
        have C46 : Hid (∀ W, Fr (fun _ => False) wc W → Calls Try.prog 46 #[.agg #[.int .i64 n, .slice LA L.length lc, .slice GA G.length gc]] W (MsgsPost W X)) := fun W hW => by rw [hX]; exact hB.ragain hW hLm
        have C47 : Hid (∀ W, Fr (fun _ => False) wc W → Calls Try.prog 47 #[.pointer (some ⟨g, 0, none⟩)] W (MsgsPost W Y)) := fun W hW => by rw [hY]; exact hB.sent hW HN0.out hLm
        have C48 : Hid (∀ W, Fr (fun _ => False) wc W → Calls Try.prog 48 #[.agg #[.int .i64 n, .slice LA L.length lc, .slice GA G.length gc]] W (MsgsPost W Y)) := fun W hW => by rw [hY]; exact hB.rsent hW hLm
        have C39 : Hid (∀ W, Fr (fun _ => False) wc W → Calls Try.prog 39 #[.pointer (some ⟨g, 0, none⟩)] W (MsgsPost W G)) := fun W hW => hB.got hW HN0.out hGm
        have CRG : Hid (∀ W, Fr (fun _ => False) wc W → ReadM W GA G) := fun W hW => (hB.fr0 hW).rg
        have CS : Hid (∀ W, Fr (fun _ => False) wc W → W.cell? ⟨b7, 0, none⟩ = some (.int .i64 n) ∧ W.cell? ⟨b7, 1, none⟩ = some (.slice LA L.length lc) ∧ W.cell? ⟨b7, 2, none⟩ = some (.slice GA G.length gc)) := fun W hW => hB.three hW
        have HNEXT : Hid (∀ W, Fr (fun _ => False) wc W → PInv w g bw bg b7 n (i + 1) W) := fun W hW => hcut.out.fr0 hW
        have HF : Hid (Fr (fun _ => False) wc wc) := Fr.refl _ _
        clear hB hF hLl hGl hkw hkg hX hY hcut
        generalize L.length = nl at *
        go_upto_region 23 with (fail)
        go_region_held3 (fun W => W.cell? ⟨b7, 0, none⟩ = some (.int .i64 n) ∧ W.cell? ⟨b7, 1, none⟩ = some (.slice LA nl lc) ∧ W.cell? ⟨b7, 2, none⟩ = some (.slice GA G.length gc))
          (first | exact CS.out _ HF.out | exact CS.out _ HF.out.drew)
          (first
            | (go_at_call 45; refine (C45.out _ (by first | exact HF.out | exact HF.out.drew)).mono ?_; rintro e wn ⟨A1, c1, rfl, hr, hf, -⟩; have HA := Lib.hid hr; have HL := Lib.hid hf; have HF : Hid (Fr (fun _ => False) wc wn) := (by first | exact HF.out.trans hf (fun _ _ h => h) | exact HF.out.drew.trans hf (fun _ _ h => h)); clear hr hf)
            | (go_at_call 46; refine (C46.out _ (by first | exact HF.out | exact HF.out.drew)).mono ?_; rintro e wn ⟨A2, c2, rfl, hr, hf, -⟩; have HB := Lib.hid hr; have HL := Lib.hid hf; have HF : Hid (Fr (fun _ => False) wc wn) := (by first | exact HF.out.trans hf (fun _ _ h => h) | exact HF.out.drew.trans hf (fun _ _ h => h)); clear hr hf)
            | (go_at_call 39; refine (C39.out _ (by first | exact HF.out | exact HF.out.drew)).mono ?_; rintro e wn ⟨A3, c3, rfl, hr, hf, -⟩; have HC := Lib.hid hr; have HL := Lib.hid hf; have HF : Hid (Fr (fun _ => False) wc wn) := (by first | exact HF.out.trans hf (fun _ _ h => h) | exact HF.out.drew.trans hf (fun _ _ h => h)); clear hr hf)
            | (go_at_call 47; refine (C47.out _ (by first | exact HF.out | exact HF.out.drew)).mono ?_; rintro e wn ⟨A5, c5, rfl, hr, hf, -⟩; have HD := Lib.hid hr; have HL := Lib.hid hf; have HF : Hid (Fr (fun _ => False) wc wn) := (by first | exact HF.out.trans hf (fun _ _ h => h) | exact HF.out.drew.trans hf (fun _ _ h => h)); clear hr hf)
            | (go_at_call 48; refine (C48.out _ (by first | exact HF.out | exact HF.out.drew)).mono ?_; rintro e wn ⟨A6, c6, rfl, hr, hf, -⟩; have HE := Lib.hid hr; have HL := Lib.hid hf; have HF : Hid (Fr (fun _ => False) wc wn) := (by first | exact HF.out.trans hf (fun _ _ h => h) | exact HF.out.drew.trans hf (fun _ _ h => h)); clear hr hf)
            | (go_at_call 44; refine (sames_any A5 A6 c5 c6 Y _ hYl ?_ ?_).mono ?_;
                (first | exact HD.out | exact HD.out.fr HL.out (fun _ _ _ h => h));
                (first | exact HE.out | exact HE.out.fr HL.out (fun _ _ _ h => h));
                rintro e wn ⟨rfl, hf⟩; have HF : Hid (Fr (fun _ => False) wc wn) := HF.out.trans hf (fun _ _ h => h); clear hf)
            | (go_at_call 44; refine (sames_any A3 GA c3 gc G _ hGl9 HC.out (CRG.out _ HF.out)).mono ?_;
                rintro e wn ⟨rfl, hf⟩; have HF : Hid (Fr (fun _ => False) wc wn) := HF.out.trans hf (fun _ _ h => h); clear hf)
            | (go_at_call 44; refine (sames_any A1 A2 c1 c2 X _ hXl ?_ ?_).mono ?_;
                (first | exact HA.out | exact HA.out.fr HL.out (fun _ _ _ h => h));
                (first | exact HB.out | exact HB.out.fr HL.out (fun _ _ _ h => h));
                rintro e wn ⟨rfl, hf⟩; have HF : Hid (Fr (fun _ => False) wc wn) := HF.out.trans hf (fun _ _ h => h); clear hf))
        all_goals (go_wp2_with fail; exact ⟨⟨i + 1, by omega, by omega, by go_num, HNEXT.out _ HF.out⟩, by simp [intOf]; omega⟩)
    · obtain ⟨SA, sc, kw, kg, Dw, Dg, LA, lc, GA, gc, L, G, hB, hkw, hkg, hLl, hGl, hF⟩ := HI.out
      have hGm : G.length ≤ 1000000 := by omega
      have C39 : Hid (∀ W, Fr (fun _ => False) wr W → Calls Try.prog 39 #[.pointer (some ⟨g, 0, none⟩)] W (MsgsPost W G)) := fun W hW => hB.got hW HN0.out hGm
      have CS : Hid (∀ W, Fr (fun _ => False) wr W → W.cell? ⟨b7, 2, none⟩ = some (.slice GA G.length gc)) := fun W hW => (hB.three hW).2.2
      have CB : Hid (∀ W, Fr (fun _ => False) wr W → Below w.heap.size w W) := fun W hW => (hF.trans hW (fun _ _ h => h.elim)).below (Nat.le_refl _) (fun _ h => h)
      have HF : Hid (Fr (fun _ => False) wr wr) := Fr.refl _ _
      clear hB hF hLl hGl hkw hkg HI
      rcases Nat.lt_or_ge i ds.length with h1 | h1
      · have h1i : (i : Int) < ds.length := by omega
        have h2i : ¬ (i : Int) < 100 := by omega
        go_upto_region 25 with (fail)
        go_region_held3 (fun W => W.cell? ⟨b7, 2, none⟩ = some (.slice GA G.length gc))
          (first | exact CS.out _ HF.out | exact CS.out _ HF.out.drew)
          (first
            | (go_at_call 39; refine (C39.out _ (by first | exact HF.out | exact HF.out.drew)).mono ?_; rintro e wn ⟨A3, c3, rfl, hr, hf, -⟩; have HF : Hid (Fr (fun _ => False) wr wn) := (by first | exact HF.out.trans hf (fun _ _ h => h) | exact HF.out.drew.trans hf (fun _ _ h => h)); clear hr hf))
        all_goals (go_wp2_with fail; go_ret; exact ⟨by simp, CB.out _ HF.out⟩)
      · have h1i : ¬ (i : Int) < ds.length := by omega
        go_upto_region 25 with (fail)
        go_region_held3 (fun W => W.cell? ⟨b7, 2, none⟩ = some (.slice GA G.length gc))
          (first | exact CS.out _ HF.out | exact CS.out _ HF.out.drew)
          (first
            | (go_at_call 39; refine (C39.out _ (by first | exact HF.out | exact HF.out.drew)).mono ?_; rintro e wn ⟨A3, c3, rfl, hr, hf, -⟩; have HF : Hid (Fr (fun _ => False) wr wn) := (by first | exact HF.out.trans hf (fun _ _ h => h) | exact HF.out.drew.trans hf (fun _ _ h => h)); clear hr hf))
        all_goals (go_wp2_with fail; go_ret; exact ⟨by simp, CB.out _ HF.out⟩)
end Go.Proofs.Ytedmhhllkkgbjaa
