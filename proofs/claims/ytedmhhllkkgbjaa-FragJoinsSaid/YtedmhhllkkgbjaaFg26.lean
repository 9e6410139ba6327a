/- lienref08.Join; FragJoins' walk. -/
import Derived.Test.YtedmhhllkkgbjaaFg25
import Derived.Test.YtedmhhllkkgbjaaFg21
namespace Go.Proofs.Ytedmhhllkkgbjaa
open Go.RowKit
set_option linter.unusedSimpArgs false
set_option linter.unusedVariables false

theorem jstep_opn {j j' : J} {k : Int} {b : List Int} (h : jstep j k b = some j') (hb : b.length ≤ 106) (hj : j.opn.length ≤ 8192) : j'.opn.length ≤ 8192 ∧ j'.recs.length ≤ j.recs.length + 1 := by
  refine ⟨?_, jstep_len h⟩
  unfold jstep at h
  split at h
  · cases h; simp
  · split at h
    · cases h; show b.length ≤ 8192; omega
    · split at h
      · split at h
        · cases h
        · rename_i hn
          split at h
          · cases h; simp
          · cases h
            simp only [not_or] at hn
            show (j.opn ++ b).length ≤ 8192
            rw [List.length_append]
            omega
      · cases h
theorem payF_len : ∀ (l : List (Int × List Int)) (j j' : J), Parts l → j.opn.length ≤ 8192 → payF j l = some j' → j'.opn.length ≤ 8192 ∧ j'.recs.length ≤ j.recs.length + l.length
  | [], j, j', _, hj, h => by cases h; exact ⟨hj, Nat.le_refl _⟩
  | x :: l, j, j', hp, hj, h => by
    obtain ⟨j2, h1, h2⟩ := Option.bind_eq_some_iff.1 h
    obtain ⟨h3, h4⟩ := jstep_opn h1 (hp x List.mem_cons_self).2.2 hj
    obtain ⟨h5, h6⟩ := payF_len l j2 j' (fun y hy => hp y (List.mem_cons_of_mem _ hy)) h3 h2
    exact ⟨h5, by simp only [List.length_cons]; omega⟩

def RJInv (w0 : World) (g : Nat) (i : Nat) (ps : List (List Int)) (wr : World) : Prop :=
  ∃ (j : J) (RA : Option Addr) (rc : Nat) (OA : Option Addr) (oc : Nat), wr.heap[g]? = some (.cells #[.slice RA j.recs.length rc, .bool j.begun, .slice OA j.opn.length oc] 118 (0, 0)) ∧ joins j i (ps.drop i) = joins ⟨[], [], false⟩ 0 ps ∧
    j.recs.length ≤ rc ∧ ReadRN (fun k => k = g) wr RA j.recs ∧ ReadBN (fun k => k = g) wr OA oc j.opn ∧ j.opn.length ≤ 8192 ∧ j.recs.length ≤ i * 108 ∧ Below w0.heap.size w0 wr

set_option maxRecDepth 100000 in
set_option maxHeartbeats 4000000 in
theorem rjoin_any (A : Option Addr) (c : Nat) (ps : List (List Int)) (w : World) (hl : ps.length ≤ 800000) (hR : ReadR w A ps) (hpl : ∀ p ∈ ps, p.length ≤ 1000000) (hpb : ∀ p ∈ ps, ∀ b ∈ p, 0 ≤ b ∧ b < 256) :
    Calls Try.prog 31 #[.slice A ps.length c] w (JoinPost w ps) := by
  have HR := Lib.hid hR
  have HPL := Lib.hid hpl
  have HPB := Lib.hid hpb
  clear hR hpl hpb
  go_enter Try.func31, Try.ntmps31
  go_wp2_with fail
  obtain ⟨w1, he, hn1, hF1, hsz⟩ := alloc1 w (.cells #[.slice none 0 0, .bool false, .slice none 0 0] 118)
  rw [he]
  have I0 : RJInv w w.heap.size 0 ps w1 := ⟨⟨[], [], false⟩, none, 0, none, 0, hn1, rfl, Nat.le_refl _, ReadRN.nil _ _ _, ReadBN.nil _ _, by simp, by simp, hF1.below0⟩
  clear hn1 hF1 hsz he
  generalize hg : w.heap.size = g at I0 ⊢
  have HG := Lib.hid hg
  clear hg
  go_loopw [5] (fun k wr => ∃ i : Nat, i ≤ ps.length ∧ k = .int .i64 i ∧ RJInv w g i ps wr) (fun k _ => ps.length - (intOf k).toNat)
  case atStart => exact ⟨0, by omega, rfl, I0⟩
  case round =>
    clear I0
    obtain ⟨i, hi, rfl, j, RA, rc, OA, oc, hbx, hjn, hrc, hRR, hOO, hol, hjl, hbel⟩ := hrel
    have b0 : wr.cell? ⟨g, 0, none⟩ = some (.slice RA j.recs.length rc) := blk_cell hbx 0
    have HBX := Lib.hid hbx
    have HJN := Lib.hid hjn
    have HRR := Lib.hid hRR
    have HOO := Lib.hid hOO
    have HBEL := Lib.hid hbel
    clear hbx hjn hRR hOO hbel
    by_cases hlt : i < ps.length
    · obtain ⟨p, hp⟩ : ∃ p, ps[i]? = some p := ⟨_, List.getElem?_eq_getElem hlt⟩
      have HRw : ReadR wr A ps := HR.out.below HBEL.out
      obtain ⟨gq, oq, PA, pc, rfl, hq, hpb⟩ := HRw i p hp
      have hgw : g < wr.heap.size := blk_lt HBX.out
      have hdr : ps.drop i = p :: ps.drop (i + 1) := by
        rw [List.drop_eq_getElem_cons hlt]
        congr 1
        exact Option.some.inj ((List.getElem?_eq_getElem hlt).symm.trans hp)
      have HDR := Lib.hid hdr
      have HPB1 := Lib.hid hpb
      have hii : (i : Int) < ps.length := by omega
      have hm := List.mem_of_getElem? hp
      have HPL1 := Lib.hid (HPL.out p hm)
      have HPBB := Lib.hid (HPB.out p hm)
      have hjl2 : j.recs.length ≤ 90000000 := by omega
      have HJR := Lib.hid (jpay_row j p)
      clear hp hdr hpb HRw hm b0
      go_wp2_with fail
      refine (row_any PA pc p wr HPL1.out HPB1.out HPBB.out).mono ?_
      rintro e w2 ⟨hb2, hrow⟩
      have HB2 := Lib.hid hb2
      have HBX2 := Lib.hid ((Fr.of_below hb2 (fun _ => False)).blk0 HBX.out)
      have b0 : w2.cell? ⟨g, 0, none⟩ = some (.slice RA j.recs.length rc) := blk_cell HBX2.out 0
      have b1 : w2.cell? ⟨g, 1, none⟩ = some (.bool j.begun) := blk_cell HBX2.out 1
      have b2 : w2.cell? ⟨g, 2, none⟩ = some (.slice OA j.opn.length oc) := blk_cell HBX2.out 2
      have HRR2 := Lib.hid (HRR.out.fr (Fr.of_below hb2 (fun k => k = g)))
      have HOO2 := Lib.hid (HOO.out.fr (Fr.of_below hb2 (fun k => k = g)))
      clear hb2 hq
      rcases hrow with ⟨hrl, rfl⟩ | ⟨l, LA, lc, hrl, rfl, hlp⟩
      · have hj : jpay j p = none := by rw [HJR.out, hrl]; rfl
        have hjv : joins ⟨[], [], false⟩ 0 ps = (j, i) := by rw [← HJN.out, HDR.out, joins_none j i p _ hj]
        have HJV := Lib.hid hjv
        clear hjv hj hrl
        go_wp2
        go_ret2
        have hjr : joinR ps = j.recs := by unfold joinR; rw [HJV.out]
        have hjn : joinN ps = i := by unfold joinN; rw [HJV.out]
        exact ⟨RA, rc, by rw [hjr, hjn]; rfl, by rw [hjr]; exact hrc, by rw [hjr]; exact HRR2.out.near, below2 HBEL.out HB2.out⟩
      · obtain ⟨hpa, hll⟩ := rowL_parts hrl
        have hj : jpay j p = payF j l := by rw [HJR.out, hrl]; rfl
        have HJ := Lib.hid hj
        have HPA := Lib.hid hpa
        have HLP := Lib.hid hlp
        have hgw2 : g < w2.heap.size := blk_lt HBX2.out
        clear hj hpa hlp hrl
        go_wp2_with fail
        refine (rpay_any (fun k => k = g) w2 j RA rc OA oc l LA lc HRR2.out HOO2.out hol (fun k hk => by subst hk; exact hgw2) HPA.out hll HLP.out hjl2).mono ?_
        rintro e w3 ⟨hb3, hpay⟩
        have HB3 := Lib.hid hb3
        have HBX3 := Lib.hid ((Fr.of_below hb3 (fun _ => False)).blk0 HBX2.out)
        have HRR3 := Lib.hid (HRR2.out.fr (Fr.of_below hb3 (fun k => k = g)))
        clear hb3 b0 b1 b2
        rcases hpay with ⟨hpn, rfl⟩ | ⟨j', RA2, rc2, OA2, oc2, hpn, rfl, h4, h7, h8⟩
        · have hjv : joins ⟨[], [], false⟩ 0 ps = (j, i) := by rw [← HJN.out, HDR.out, joins_none j i p _ (HJ.out.trans hpn)]
          have HJV := Lib.hid hjv
          clear hjv hpn
          go_upto_region 9 with (fail)
          obtain ⟨w4, he, hn4, hF4, hs4⟩ := alloc1 w3 (.cells #[.slice none 0 0, .bool false, .slice none 0 0] 118)
          rw [he]
          have HF4 := Lib.hid hF4
          have b0 : w4.cell? ⟨g, 0, none⟩ = some (.slice RA j.recs.length rc) := blk_cell (hF4.blk0 HBX3.out) 0
          clear hn4 hF4 hs4 he
          go_wp2
          go_ret2
          have hjr : joinR ps = j.recs := by unfold joinR; rw [HJV.out]
          have hjn : joinN ps = i := by unfold joinN; rw [HJV.out]
          exact ⟨RA, rc, by rw [hjr, hjn]; rfl, by rw [hjr]; exact hrc, by rw [hjr]; exact HRR3.out.near.below HF4.out.below0, below2 (below2 (below2 HBEL.out HB2.out) HB3.out) HF4.out.below0⟩
        · have hjv : joins j' (i + 1) (ps.drop (i + 1)) = joins ⟨[], [], false⟩ 0 ps := by rw [← HJN.out, HDR.out, joins_some j j' i p _ (HJ.out.trans hpn)]
          have HJV := Lib.hid hjv
          obtain ⟨h6, h9⟩ := payF_len l j j' HPA.out hol hpn
          have H7 := Lib.hid h7
          have H8 := Lib.hid h8
          clear hjv hpn h7 h8
          go_upto_region 9 with (fail)
          obtain ⟨w4, he, hn4, hF4, hs4⟩ := alloc1 w3 (.cells #[.slice RA2 j'.recs.length rc2, .bool j'.begun, .slice OA2 j'.opn.length oc2] 118)
          rw [he]
          have hbx4 := hF4.blk0 HBX3.out
          have z0 := blk_frozen hbx4 0
          have z1 := blk_frozen hbx4 1
          have z2 := blk_frozen hbx4 2
          have m0 : w4.cell? ⟨w3.heap.size, 0, none⟩ = some (.slice RA2 j'.recs.length rc2) := blk_cell hn4 0
          have m1 : w4.cell? ⟨w3.heap.size, 1, none⟩ = some (.bool j'.begun) := blk_cell hn4 1
          have m2 : w4.cell? ⟨w3.heap.size, 2, none⟩ = some (.slice OA2 j'.opn.length oc2) := blk_cell hn4 2
          have o0 : w4.cell? ⟨g, 0, none⟩ = some (.slice RA j.recs.length rc) := blk_cell hbx4 0
          have o1 : w4.cell? ⟨g, 1, none⟩ = some (.bool j.begun) := blk_cell hbx4 1
          have o2 : w4.cell? ⟨g, 2, none⟩ = some (.slice OA j.opn.length oc) := blk_cell hbx4 2
          have HF4 := Lib.hid hF4
          have HBX4 := Lib.hid hbx4
          clear hn4 hF4 hs4 he hbx4
          go_wp2
          have hF5 := done3_fr w4 g (.slice RA2 j'.recs.length rc2) (.bool j'.begun) (.slice OA2 j'.opn.length oc2)
          have hb5 := done3_blk HBX4.out (x := .slice RA2 j'.recs.length rc2) (y := .bool j'.begun) (z := .slice OA2 j'.opn.length oc2)
          have hbel4 : Below w.heap.size w w4 := below2 (below2 (below2 HBEL.out HB2.out) HB3.out) HF4.out.below0
          exact ⟨⟨i + 1, by omega, by go_num, j', RA2, rc2, OA2, oc2, hb5, HJV.out, h4, (H7.out.fr HF4.out.none).fr hF5, (H8.out.fr HF4.out.none).fr hF5, h6, by omega, hbel4.trans (hF5.below hbel4.size (fun k hk => by subst hk; exact Nat.le_of_eq HG.out))⟩, by simp [intOf]; omega⟩
    · have hie : i = ps.length := by omega
      subst hie
      have hjv := HJN.out
      rw [List.drop_length] at hjv
      have hjv2 : joins ⟨[], [], false⟩ 0 ps = (j, ps.length) := hjv.symm
      have HJV := Lib.hid hjv2
      clear hjv hjv2
      go_wp2
      go_ret2
      have hjr : joinR ps = j.recs := by unfold joinR; rw [HJV.out]
      have hjn : joinN ps = ps.length := by unfold joinN; rw [HJV.out]
      exact ⟨RA, rc, by rw [hjr, hjn]; rfl, by rw [hjr]; exact hrc, by rw [hjr]; exact HRR.out.near, HBEL.out⟩

theorem joinR_small (ps : List (List Int)) (hl : ps.length ≤ 40) : (joinR ps).length ≤ 1000000000 := by
  have key : ∀ (ps : List (List Int)) (j : J) (i : Nat), (joins j i ps).1.recs.length ≤ j.recs.length + ps.length * 108 := by
    intro ps
    induction ps with
    | nil => intro j i; simp [joins]
    | cons p ps ih =>
      intro j i
      cases h : jpay j p with
      | none => rw [joins_none j i p ps h]; exact Nat.le_add_right _ _
      | some j' =>
        rw [joins_some j j' i p ps h]
        have h1 := ih j' (i + 1)
        have h2 := jpay_len h
        simp only [List.length_cons]
        omega
  have := key ps ⟨[], [], false⟩ 0
  unfold joinR
  simp at this
  omega

set_option maxRecDepth 100000 in
set_option maxHeartbeats 4000000 in
theorem joinsrow_any (A : Option Addr) (c : Nat) (xs : List (List Int)) (w : World) (hl : xs.length ≤ maxLen) (hR : ReadR w A xs) (hB : Bs xs) :
    Calls Try.prog 6 #[.slice A xs.length c] w (fun e w' => e = .returned (.bool true) ∧ Below w.heap.size w w') := by
  have HR := Lib.hid hR
  have hf4 := few_len xs
  have hBf := hB.few
  have hf9 : ∀ p ∈ fewL xs, p.length ≤ 1000000 := by
    intro p hp
    obtain ⟨y, hy, rfl⟩ := List.mem_map.1 hp
    rw [List.length_take]
    omega
  clear hR hB
  go_enter Try.func6, Try.ntmps6
  go_wp2_with fail
  refine (few_any A c xs w hl HR.out).mono ?_
  rintro e w1 ⟨A1, c1, rfl, hc1, hr1, hb1⟩
  generalize fewL xs = ps at hf4 hBf hf9 hc1 hr1 ⊢
  have HR1 := Lib.hid hr1
  have HB1 := Lib.hid hb1
  have HBF := Lib.hid hBf
  have HF9 := Lib.hid hf9
  have hsm := joinR_small ps hf4
  clear hr1 hb1 hBf hf9 HR
  go_wp2_with fail
  refine (join_any A1 c1 ps w1 (by omega) HR1.out HF9.out HBF.out).mono ?_
  rintro e w2 ⟨A2, c2, rfl, hc2, hr2, hb2⟩
  have HR2 := Lib.hid hr2
  have HB2 := Lib.hid hb2
  clear hr2 hb2
  go_wp2_with fail
  refine (rjoin_any A1 c1 ps w2 (by omega) (HR1.out.below HB2.out) HF9.out HBF.out).mono ?_
  rintro e w3 ⟨A3, c3, rfl, hc3, hr3, hb3⟩
  have HR3 := Lib.hid hr3
  have HB3 := Lib.hid hb3
  have HR23 := Lib.hid (HR2.out.below HB3.out)
  clear hr3 hb3 HR2
  generalize joinR ps = q at hsm hc2 hc3 HR3 HR23 ⊢
  generalize joinN ps = n
  go_wp2_with fail
  refine (same_any A2 A3 c2 c3 q w3 hsm HR23.out HR3.out).mono ?_
  rintro e w4 ⟨rfl, hF4⟩
  have HF4 := Lib.hid hF4
  clear hF4
  dsimp only
  go_wp2_with fail
  refine (awake_yes w4).mono ?_
  rintro e w5 ⟨rfl, hF5⟩
  have HF5 := Lib.hid hF5
  clear hF5
  dsimp only
  go_wp2
  go_ret
  exact ⟨rfl, below2 (below2 (below2 (below2 HB1.out HB2.out) HB3.out) HF4.out.below0) HF5.out.below0⟩
end Go.Proofs.Ytedmhhllkkgbjaa
