/- frag.Join. -/
import Derived.Test.YtedmhhllkkgbjaaFg10
namespace Go.Proofs.Ytedmhhllkkgbjaa
open Go.RowKit

/-- how far one comes, and with what -/
def joins : J → Nat → List (List Int) → J × Nat
  | j, i, [] => (j, i)
  | j, i, p :: ps => match jpay j p with
    | none => (j, i)
    | some j' => joins j' (i + 1) ps
def joinR (ps : List (List Int)) : List (List Int) := (joins ⟨[], [], false⟩ 0 ps).1.recs
def joinN (ps : List (List Int)) : Nat := (joins ⟨[], [], false⟩ 0 ps).2
theorem joins_none (j : J) (i : Nat) (p : List Int) (ps : List (List Int)) (h : jpay j p = none) : joins j i (p :: ps) = (j, i) := by simp [joins, h]
theorem joins_some (j j' : J) (i : Nat) (p : List Int) (ps : List (List Int)) (h : jpay j p = some j') : joins j i (p :: ps) = joins j' (i + 1) ps := by simp [joins, h]
theorem jstep_len {j j' : J} {k : Int} {b : List Int} (h : jstep j k b = some j') : j'.recs.length ≤ j.recs.length + 1 := by
  unfold jstep at h
  split at h
  · cases h; simp
  · split at h
    · cases h; simp
    · split at h
      · split at h
        · cases h
        · split at h
          · cases h; simp
          · cases h; simp
      · cases h
theorem jrun_len : ∀ (f : Nat) (j j' : J) (p : List Int), jrun f j p = some j' → j'.recs.length ≤ j.recs.length + f
  | 0, j, j', p, h => by cases h; exact Nat.le_refl _
  | f + 1, j, j', [], h => by cases h; omega
  | f + 1, j, j', [_], h => by cases h
  | f + 1, j, j', k :: n :: p, h => by
    simp only [jrun] at h
    split at h
    · cases h
    · obtain ⟨j2, h1, h2⟩ := Option.bind_eq_some_iff.1 h
      have := jstep_len h1
      have := jrun_len f j2 j' _ h2
      omega
theorem jpay_len {j j' : J} {p : List Int} (h : jpay j p = some j') : j'.recs.length ≤ j.recs.length + 108 := by
  unfold jpay at h
  split at h
  · cases h
  · have := jrun_len _ _ _ _ h
    omega

def JoinPost (w : World) (ps : List (List Int)) (e : Ending) (w' : World) : Prop :=
  ∃ A c, e = .returned (.tuple #[.slice A (joinR ps).length c, .int .i64 (joinN ps : Int)]) ∧ (joinR ps).length ≤ c ∧ ReadR w' A (joinR ps) ∧ Below w.heap.size w w'

def JoinInv (w0 : World) (g : Nat) (i : Nat) (ps : List (List Int)) (wr : World) : Prop :=
  ∃ (j : J) (RA : Option Addr) (rc : Nat) (OA : Option Addr) (oc : Nat), wr.heap[g]? = some (.cells #[.slice RA j.recs.length rc, .slice OA j.opn.length oc, .bool j.begun] 114 (0, 0)) ∧ joins j i (ps.drop i) = joins ⟨[], [], false⟩ 0 ps ∧
    j.recs.length ≤ rc ∧ (RA = none → rc = 0) ∧ ReadRN (fun k => k = g) wr RA j.recs ∧ ReadBN (fun k => k = g) wr OA oc j.opn ∧ j.opn.length ≤ 8192 ∧ j.recs.length ≤ i * 108 ∧ Below w0.heap.size w0 wr

set_option maxRecDepth 100000 in
set_option maxHeartbeats 4000000 in
theorem join_any (A : Option Addr) (c : Nat) (ps : List (List Int)) (w : World) (hl : ps.length ≤ 800000) (hR : ReadR w A ps) (hpl : ∀ p ∈ ps, p.length ≤ 1000000) (hpb : ∀ p ∈ ps, ∀ b ∈ p, 0 ≤ b ∧ b < 256) :
    Calls Try.prog 30 #[.slice A ps.length c] w (JoinPost w ps) := by
  have HR := Lib.hid hR
  have HPL := Lib.hid hpl
  have HPB := Lib.hid hpb
  clear hR hpl hpb
  go_enter Try.func30, Try.ntmps30
  go_wp2_with fail
  obtain ⟨w1, he, hn1, hF1, hsz⟩ := alloc1 w (.cells #[.slice none 0 0, .slice none 0 0, .bool false] 114)
  rw [he]
  have I0 : JoinInv w w.heap.size 0 ps w1 := ⟨⟨[], [], false⟩, none, 0, none, 0, hn1, rfl, Nat.le_refl _, fun _ => rfl, ReadRN.nil _ _ _, ReadBN.nil _ _, by simp, by simp, hF1.below0⟩
  clear hn1 hF1 hsz he
  generalize hg : w.heap.size = g at I0 ⊢
  have HG := Lib.hid hg
  clear hg
  go_loopw [12] (fun k wr => ∃ i : Nat, i ≤ ps.length ∧ k = .int .i64 i ∧ JoinInv w g i ps wr) (fun k _ => ps.length - (intOf k).toNat)
  case atStart => exact ⟨0, by omega, rfl, I0⟩
  case round =>
    clear I0
    obtain ⟨i, hi, rfl, j, RA, rc, OA, oc, hbx, hjn, hrc, hrn, hRR, hOO, hol, hjl, hbel⟩ := hrel
    have b0 : wr.cell? ⟨g, 0, none⟩ = some (.slice RA j.recs.length rc) := blk_cell hbx 0
    have b1 : wr.cell? ⟨g, 1, none⟩ = some (.slice OA j.opn.length oc) := blk_cell hbx 1
    have b2 : wr.cell? ⟨g, 2, none⟩ = some (.bool j.begun) := blk_cell hbx 2
    have HBX := Lib.hid hbx
    have HJN := Lib.hid hjn
    have HRR := Lib.hid hRR
    have HOO := Lib.hid hOO
    have HBEL := Lib.hid hbel
    have HRN := Lib.hid hrn
    clear hbx hjn hRR hOO hbel hrn
    by_cases hlt : i < ps.length
    · obtain ⟨p, hp⟩ : ∃ p, ps[i]? = some p := ⟨_, List.getElem?_eq_getElem hlt⟩
      have HRw : ReadR wr A ps := HR.out.below HBEL.out
      obtain ⟨gq, oq, PA, pc, rfl, hq, hpb⟩ := HRw i p hp
      have hgw : g < wr.heap.size := blk_lt HBX.out
      have hdr : ps.drop i = p :: ps.drop (i + 1) := by
        rw [List.drop_eq_getElem_cons hlt]
        congr 1
        exact Option.some.inj ((List.getElem?_eq_getElem hlt).symm.trans hp)
      have HPR : Hid (ReadBN (fun k => k = g) wr PA pc p) := by
        obtain ⟨_, _, PA0, pc0, e0, hq0, hpb0⟩ := HR.out i p hp
        have hq1 := (Fr.of_below HBEL.out (fun _ => False)).cell0 hq0
        simp only [Option.some.injEq, Addr.mk.injEq] at e0
        obtain ⟨rfl, rfl, _⟩ := e0
        rw [hq1] at hq
        simp only [Option.some.injEq, Value.slice.injEq] at hq
        obtain ⟨rfl, _, rfl⟩ := hq
        exact (hpb0.far (S := fun k => k = g) (fun k hk => by subst hk; exact Nat.le_of_eq HG.out)).fr ((Fr.of_below HBEL.out (fun k => k = g)))
      have HP := Lib.hid hp
      have HDR := Lib.hid hdr
      have hii : (i : Int) < ps.length := by omega
      have hm := List.mem_of_getElem? hp
      have hpl := HPL.out p hm
      have HPBB := Lib.hid (HPB.out p hm)
      have hjl2 : j.recs.length ≤ 90000000 := by omega
      clear hp hdr hpb HRw hm
      go_wp2_with fail
      refine (payload_any (fun k => k = g) wr j RA rc OA oc p PA pc HRR.out hrc HRN.out HOO.out hol HPR.out (fun k hk => by subst hk; exact hgw) HPBB.out hjl2 hpl).mono ?_
      rintro e w2 ⟨hb2, RA2, rn2, rc2, OA2, on2, oc2, bb2, rfl, hsome⟩
      have HB2 := Lib.hid hb2
      have HS := Lib.hid hsome
      have hbx2 := (Fr.of_below hb2 (fun _ => False)).blk0 HBX.out
      have b0' : w2.cell? ⟨g, 0, none⟩ = some (.slice RA j.recs.length rc) := blk_cell hbx2 0
      have HBX2 := Lib.hid hbx2
      clear b0 b1 b2 hb2 hsome hbx2 hq
      cases hj : jpay j p with
      | none =>
        rw [hj] at HS
        have hjv : joins ⟨[], [], false⟩ 0 ps = (j, i) := by rw [← HJN.out, HDR.out, joins_none j i p _ hj]
        have HJV := Lib.hid hjv
        clear hjv hj
        simp only [Option.isSome_none]
        go_upto_region 6 with (fail)
        obtain ⟨w3, he, hn3, hF3, hs3⟩ := alloc1 w2 (.cells #[.slice RA2 rn2 rc2, .slice OA2 on2 oc2, .bool bb2] 114)
        rw [he]
        have e0 := hF3.cell0 b0'
        have HF3 := Lib.hid hF3
        clear hn3 hF3 hs3 he b0'
        go_wp2
        go_ret2
        have hjr : joinR ps = j.recs := by unfold joinR; rw [HJV.out]
        have hjn : joinN ps = i := by unfold joinN; rw [HJV.out]
        have hb3 : Below wr.heap.size wr w3 := HB2.out.trans (HF3.out.below HB2.out.size (fun _ h => h.elim))
        refine ⟨RA, rc, by rw [hjr, hjn]; rfl, by rw [hjr]; exact hrc, by rw [hjr]; exact HRR.out.near.below hb3, HBEL.out.trans (hb3.mono HBEL.out.size)⟩
      | some j' =>
        rw [hj] at HS
        have hjv : joins j' (i + 1) (ps.drop (i + 1)) = joins ⟨[], [], false⟩ 0 ps := by rw [← HJN.out, HDR.out, joins_some j j' i p _ hj]
        have HJV := Lib.hid hjv
        obtain ⟨rfl, rfl, rfl, h4, h5, h6, h7, h8⟩ := HS.out j' rfl
        have hlen := jpay_len hj
        have H5 := Lib.hid h5
        have H7 := Lib.hid h7
        have H8 := Lib.hid h8
        clear hjv hj HS h5 h7 h8
        simp only [Option.isSome_some]
        go_upto_region 6 with (fail)
        obtain ⟨w3, he, hn3, hF3, hs3⟩ := alloc1 w2 (.cells #[.slice RA2 j'.recs.length rc2, .slice OA2 j'.opn.length oc2, .bool j'.begun] 114)
        rw [he]
        have hbx3 := hF3.blk0 HBX2.out
        have z0 := blk_frozen hbx3 0
        have z1 := blk_frozen hbx3 1
        have z2 := blk_frozen hbx3 2
        have m0 : w3.cell? ⟨w2.heap.size, 0, none⟩ = some (.slice RA2 j'.recs.length rc2) := blk_cell hn3 0
        have m1 : w3.cell? ⟨w2.heap.size, 1, none⟩ = some (.slice OA2 j'.opn.length oc2) := blk_cell hn3 1
        have m2 : w3.cell? ⟨w2.heap.size, 2, none⟩ = some (.bool j'.begun) := blk_cell hn3 2
        have o0 : w3.cell? ⟨g, 0, none⟩ = some (.slice RA j.recs.length rc) := blk_cell hbx3 0
        have o1 : w3.cell? ⟨g, 1, none⟩ = some (.slice OA j.opn.length oc) := blk_cell hbx3 1
        have o2 : w3.cell? ⟨g, 2, none⟩ = some (.bool j.begun) := blk_cell hbx3 2
        have HF3 := Lib.hid hF3
        have HBX3 := Lib.hid hbx3
        clear hn3 hF3 hs3 he b0' hbx3
        go_wp2
        go_roundw
        case rel =>
          have hF4 := done3_fr w3 g (.slice RA2 j'.recs.length rc2) (.slice OA2 j'.opn.length oc2) (.bool j'.begun)
          have hb4 := done3_blk HBX3.out (x := .slice RA2 j'.recs.length rc2) (y := .slice OA2 j'.opn.length oc2) (z := .bool j'.begun)
          have hb3 : Below wr.heap.size wr w3 := HB2.out.trans (HF3.out.below HB2.out.size (fun _ h => h.elim))
          have hbel3 : Below w.heap.size w w3 := HBEL.out.trans (hb3.mono HBEL.out.size)
          exact ⟨i + 1, by omega, by go_num, j', RA2, rc2, OA2, oc2, hb4, HJV.out, h4, H5.out, (H7.out.fr HF3.out.none).fr hF4, (H8.out.fr HF3.out.none).fr hF4, h6, by omega, hbel3.trans (hF4.below hbel3.size (fun k hk => by subst hk; exact Nat.le_of_eq HG.out))⟩
        case measure => simp [intOf]; omega
    · have hie : i = ps.length := by omega
      subst hie
      have hjv : joins ⟨[], [], false⟩ 0 ps = (j, ps.length) := by rw [← HJN.out, List.drop_length]; rfl
      have HJV := Lib.hid hjv
      clear hjv
      go_wp2
      go_ret2
      have hjr : joinR ps = j.recs := by unfold joinR; rw [HJV.out]
      have hjn : joinN ps = ps.length := by unfold joinN; rw [HJV.out]
      exact ⟨RA, rc, by rw [hjr, hjn]; rfl, by rw [hjr]; exact hrc, by rw [hjr]; exact HRR.out.near, HBEL.out⟩

end Go.Proofs.Ytedmhhllkkgbjaa
