/- frag.Cut's callback: a fragment is put onto the payloads. -/
import Derived.Test.YtedmhhllkkgbjaaFg5
import Derived.Deep.RegionHeld3
import Derived.Test.YtedmhhllkkgbjaaRt
namespace Go.Proofs.Ytedmhhllkkgbjaa
open Go.RowKit
set_option linter.unusedSimpArgs false
set_option linter.unusedVariables false

/-- what a fragment turns the payloads into -/
def piece (recs : List (List Int)) (e : Ev) : List Int := ((recs.getD e.rc []).drop e.at_).take e.n
def cutStep (recs : List (List Int)) (out : List (List Int)) (e : Ev) : List (List Int) :=
  let o := if e.fresh then out ++ [[]] else out
  o.dropLast ++ [o.getLastD [] ++ [e.kind, (e.n : Int)] ++ piece recs e]

def CutPost (B : Nat) (w : World) (g gr : Nat) (RA : Option Addr) (rn rc : Nat) (out : List (List Int)) (r : Ending) (w' : World) : Prop :=
  r = .returned (.tuple #[]) ∧ OutAt B w' g out ∧ w'.heap[gr]? = some (.cells #[.slice RA rn rc] 47 (0, 0)) ∧ Below B w w'

set_option maxRecDepth 100000 in
set_option maxHeartbeats 4000000 in
theorem cut1_any {B : Nat} {w0 w : World} {g gr : Nat} {RA : Option Addr} {rn rc : Nat} {recs out : List (List Int)} (e : Ev)
    (hB : w0.heap.size = B) (hb : Below B w0 w) (hR : ReadR w0 RA recs) (hrn : rn = recs.length) (hO : OutAt B w g out) (hgB : B ≤ g) (hgr : w.heap[gr]? = some (.cells #[.slice RA rn rc] 47 (0, 0))) (hgne : g ≠ gr)
    (hen : e.n < 256) (hrc : e.rc < recs.length) (hat : e.at_ + e.n ≤ (recs.getD e.rc []).length) (hfr : e.fresh = false → out ≠ []) (hol : out.length ≤ 100000000) (hll : ∀ x ∈ out, x.length ≤ 500000000) (hr0 : recs.length ≤ 1000000) (hr1 : ∀ x ∈ recs, x.length ≤ 1000000) :
    Calls Try.prog 55 (e.args ++ #[.pointer (some ⟨g, 0, none⟩), .pointer (some ⟨gr, 0, none⟩)]) w (CutPost B w g gr RA rn rc (cutStep recs out e)) := by
  obtain ⟨erc, eat, en, ek, ef⟩ := e
  unfold Ev.args
  simp only [List.append_toArray, List.cons_append, List.nil_append]
  simp only at hen hrc hat hfr
  obtain ⟨v, vs, hO⟩ := hO
  have cg := blk_cell hO.cell 0
  have fg := blk_frozen hO.cell 0
  obtain ⟨A0, c0, rfl⟩ := own_slice hO.row
  have HOO := Lib.hid hO
  have HR := Lib.hid hR
  have HGR := Lib.hid hgr
  have HR1 := Lib.hid hr1
  have HLL := Lib.hid hll
  have HAT := Lib.hid hat
  have HFR := Lib.hid hfr
  have HB := Lib.hid hb
  clear hO hR hgr hr1 hll hat hfr hb
  go_enter Try.func55, Try.ntmps55
  go_upto_if 13 with (fail)
  go_cut [] (fun wc => Fr (fun k => B ≤ k) w wc ∧ OutAt B wc g (if ef then out ++ [[]] else out) ∧ wc.heap[gr]? = some (.cells #[.slice RA rn rc] 47 (0, 0)))
  case first =>
    cases ef
    · go_wp2
      go_meet
      case rel => exact ⟨Fr.refl _ _, ⟨_, _, HOO.out⟩, HGR.out⟩
    · simp only [List.getElem?_toArray, List.getElem?_cons_zero] at cg
      have hbw : B ≤ w.heap.size := by rw [← hB]; exact HB.out.size
      have HF1 : Hid (Fr (fun _ => False) w (w.alloc (.cells #[.slice none 0 0] 27))) := (Fr.refl (fun _ => False) w).alloc _
      go_wp2_with (at_builtin; refine wpl_app rfl (.tmp 14) (.tmp 15) 47 rfl B 27 _ 1 24 Try.underlying47 Try.info27 rfl (by decide) (.slice A0 out.length c0) out.length vs rfl (HF1.out.own0 HOO.out.row) ⟨w.heap.size, 0, none⟩ 1 1 [.slice none 0 0] rfl rfl (news_of (blk_new _ _)) (by simp [Value.oneCell']) (by simp [maxLen]; omega) (by omega) (Nat.le_trans hbw HF1.out.size) ?_; intro v2 w2 ho2 hg2 hm2; obtain ⟨A2, c2, rfl⟩ := own_slice ho2; have hn2 : some g ≠ (Value.slice A0 out.length c0).ownBlock := own_ne HOO.out.row HOO.out.cell (by decide); have cg2 := grown_cell hg2 (HF1.out.cell0 cg) hn2; have fg2 := blk_frozen (blk_grown (HF1.out.blk0 HOO.out.cell) hg2 hn2) 0)
      go_meet
      case rel => 
        have F2 : Fr (fun k => some k = (Value.slice A0 out.length c0).ownBlock) w w2 := HF1.out.none.grown hg2 (fun k hk => .inr hk.symm)
        have hO2 := HOO.out.push F2 ho2 (fun k hk e => by
          subst e
          exact own_ne ho2 (F2.blk HOO.out.cell hn2) (by decide) hk.symm)
        have hgr2 : some gr ≠ (Value.slice A0 out.length c0).ownBlock := own_ne HOO.out.row HGR.out (by decide)
        refine ⟨?_, ⟨_, _, by simpa using hO2⟩, blk_far (F2.blk HGR.out hgr2) hgne.symm _⟩
        exact (F2.mono (fun k _ hk => (HOO.out.row.lt k hk.symm).1)).setCell (.inr hgB) _
  case rest => 
    clear cg fg
    obtain ⟨hF, hO, hgr⟩ := hcut
    obtain ⟨front, last, ho⟩ : ∃ front last, (if ef = true then out ++ [[]] else out) = front ++ [last] := by
      cases ef
      · have h0 := HFR.out rfl
        exact ⟨out.dropLast, out.getLast h0, by simp [List.dropLast_concat_getLast]⟩
      · exact ⟨out, [], by simp⟩
    have hstep : cutStep recs out ⟨erc, eat, en, ek, ef⟩ = front ++ [last ++ [ek, (en : Int)] ++ piece recs ⟨erc, eat, en, ek, ef⟩] := by
      simp only [cutStep]
      rw [ho]
      simp
    have HST := Lib.hid hstep
    rw [ho] at hO
    have hfl : front.length ≤ 100000000 ∧ last.length ≤ 500000000 := by
      have h1 := congrArg List.length ho
      have hm : last ∈ (if ef = true then out ++ [[]] else out) := by rw [ho]; simp
      cases ef
      · simp at h1 hm
        exact ⟨by omega, HLL.out _ hm⟩
      · simp at h1 hm
        rcases hm with hm | rfl
        · exact ⟨by omega, HLL.out _ hm⟩
        · exact ⟨by omega, by simp⟩
    clear hstep ho
    have hbc : Below B w0 wc := HB.out.trans (hF.below (by rw [← hB]; exact HB.out.size) (fun _ h => h))
    have HBW := Lib.hid (hF.below (by rw [← hB]; exact HB.out.size) (fun _ h => h) : Below B w wc)
    have hBc : B ≤ wc.heap.size := by rw [← hB]; exact hbc.size
    clear hF HB HOO HGR
    obtain ⟨v, vs2, hO⟩ := hO
    obtain ⟨gv, c, vs1, u, rfl, rfl, hl1, hu⟩ := hO.split
    obtain ⟨N, hN⟩ : ∃ N, N = front.length + 1 := ⟨_, rfl⟩
    rw [← hN] at hO
    have cg := blk_cell hO.cell 0
    have hne := hO.ne
    obtain ⟨blkv, hbv⟩ := own_typed' hO.row
    have cu : wc.cell? ⟨gv, front.length, none⟩ = some u := by
      have := (own_news (n := N) (by simpa [hN] using hO.row)).1 _ rfl front.length u (by rw [← hl1]; simp)
      rwa [add_plain] at this
    have fu := blk_frozen hbv front.length
    have hkN : (front.length : Int) < (N : Int) := by omega
    have hk1 : (N : Int) - 1 = (front.length : Int) := by omega
    have hkb : (N : Int) < 4611686018427387904 := by omega
    have HGU := own_ne hu hO.cell (by decide)
    have HVU := own_ne hu hbv (by decide)
    have HRU := own_ne hu hgr (by decide)
    have HO := Lib.hid hO
    have HU := Lib.hid hu
    have HG := Lib.hid hO.cell
    have HV := Lib.hid hbv
    have HGR := Lib.hid hgr
    have HBC := Lib.hid hbc
    have HL1 := Lib.hid hl1
    have HNN := Lib.hid hN
    have HFL := Lib.hid hfl
    clear hO hu hbv hgr hbc hl1 hN hfl HLL HFR
    generalize hkk : front.length = k at cu fu hkN hk1
    have ng := World.new_ne wc _ cg
    have nu := World.new_ne wc _ cu
    have hk0 : (0 : Int) ≤ (k : Int) := by omega
    have hwr : IntKind.u64.wrap (en : Int) = en := by rw [IntKind.wrap_u64]; omega
    have HBB : Hid (B ≤ (wc.alloc (Obj.cells #[Value.int IntKind.u8 ek] 5)).drew.heap.size) := Nat.le_trans hBc ((Fr.refl (fun _ => False) wc).alloc (Obj.cells #[Value.int IntKind.u8 ek] 5)).size
    have HLa : Hid (last.length + 1 ≤ 1000000000) := by have := HFL.out.2; show last.length + 1 ≤ 1000000000; omega
    have HLb : Hid (last.length + 1 + 1 ≤ 1000000000) := by have := HFL.out.2; show last.length + 1 + 1 ≤ 1000000000; omega
    have h0 : (wc.alloc (Obj.cells #[Value.int IntKind.u8 ek] 5)).cell? ⟨g, 0, none⟩ = some (.slice (some ⟨gv, 0, none⟩) N c) := ((Fr.refl _ wc).alloc _).cell0 cg
    have h1 : (wc.alloc (Obj.cells #[Value.int IntKind.u8 ek] 5)).cell? ⟨gv, k, none⟩ = some u := ((Fr.refl _ wc).alloc _).cell0 cu
    go_upto_region 3 with (fail)
    go_cut [] (fun wd => ∃ u2, OW B wd g (.slice (some ⟨gv, 0, none⟩) N c) (vs1 ++ [u2]) (front ++ [last ++ [ek, (en : Int)]]) ∧ wd.heap[gr]? = some (.cells #[.slice RA rn rc] 47 (0, 0)) ∧ Below B wc wd)
    case first =>
      refine wp_region_noPanic ?_
      refine wp_region_T (fun w' => w'.cell? ⟨g, 0, none⟩ = some (.slice (some ⟨gv, 0, none⟩) N c) ∧ w'.cell? ⟨gv, k, none⟩ = some u) 14 (by kernel_rfl) ⟨cg, cu⟩ (fun hS0 => ?_)
      refine wpAnyT_taked (i := 0) (d := 20) (v := ?_) rfl rfl (by kernel_rfl) (by kernel_rfl) (by kernel_rfl) (by kernel_rfl) rfl (fun _ _ _ h => h) (Or.inl ⟨by rfl, ?_⟩) (by assumption) ?_
      rotate_left 1
      · rintro w' ⟨hs0, hs1⟩
        go_simp
        try (with_reducible rfl)
      try simp only [Act.put, List.setIfInBounds_toArray, List.set_cons_zero, List.set_cons_succ]
      refine wpAnyT_taked (i := 1) (d := 21) (v := ?_) rfl rfl (by kernel_rfl) (by kernel_rfl) (by kernel_rfl) (by kernel_rfl) rfl (fun _ _ _ h => h) (Or.inl ⟨by rfl, ?_⟩) (by assumption) ?_
      rotate_left 1
      · rintro w' ⟨hs0, hs1⟩
        go_simp
        try (with_reducible rfl)
      try simp only [Act.put, List.setIfInBounds_toArray, List.set_cons_zero, List.set_cons_succ]
      refine wpAnyT_taked (i := 2) (d := 22) (v := ?_) rfl rfl (by kernel_rfl) (by kernel_rfl) (by kernel_rfl) (by kernel_rfl) rfl (fun _ _ _ h => h) (Or.inl ⟨by rfl, ?_⟩) (by assumption) ?_
      rotate_left 1
      · rintro w' ⟨hs0, hs1⟩
        go_simp
        try (with_reducible rfl)
      try simp only [Act.put, List.setIfInBounds_toArray, List.set_cons_zero, List.set_cons_succ]
      refine wpAnyT_taked (i := 3) (d := 23) (v := ?_) rfl rfl (by kernel_rfl) (by kernel_rfl) (by kernel_rfl) (by kernel_rfl) rfl (fun _ _ _ h => h) (Or.inl ⟨by rfl, ?_⟩) (by assumption) ?_
      rotate_left 1
      · rintro w' ⟨hs0, hs1⟩
        go_simp
        try (with_reducible rfl)
      try simp only [Act.put, List.setIfInBounds_toArray, List.set_cons_zero, List.set_cons_succ]
      refine wpAnyT_taked (i := 4) (d := 24) (v := ?_) rfl rfl (by kernel_rfl) (by kernel_rfl) (by kernel_rfl) (by kernel_rfl) rfl (fun _ _ _ h => h) (Or.inl ⟨by rfl, ?_⟩) (by assumption) ?_
      rotate_left 1
      · rintro w' ⟨hs0, hs1⟩
        go_simp
        try (with_reducible rfl)
      try simp only [Act.put, List.setIfInBounds_toArray, List.set_cons_zero, List.set_cons_succ]
      refine wpAnyT_taked (i := 5) (d := 25) (v := ?_) rfl rfl (by kernel_rfl) (by kernel_rfl) (by kernel_rfl) (by kernel_rfl) rfl (fun _ _ _ h => h) (Or.inl ⟨by rfl, ?_⟩) (by assumption) ?_
      rotate_left 1
      · rintro w' ⟨hs0, hs1⟩
        go_simp
        try (with_reducible rfl)
      try simp only [Act.put, List.setIfInBounds_toArray, List.set_cons_zero, List.set_cons_succ]
      refine wpAnyT_taked (i := 6) (d := 26) (v := ?_) rfl rfl (by kernel_rfl) (by kernel_rfl) (by kernel_rfl) (by kernel_rfl) rfl (fun _ _ _ h => h) (Or.inl ⟨by rfl, ?_⟩) (by assumption) ?_
      rotate_left 1
      · rintro w' ⟨hs0, hs1⟩
        go_simp
        try (with_reducible rfl)
      try simp only [Act.put, List.setIfInBounds_toArray, List.set_cons_zero, List.set_cons_succ]
      refine wpAnyT_taked (i := 9) (d := 29) (v := ?_) rfl rfl (by kernel_rfl) (by kernel_rfl) (by kernel_rfl) (by kernel_rfl) rfl (fun _ _ _ h => h) (Or.inl ⟨by rfl, ?_⟩) (by assumption) ?_
      rotate_left 1
      · rintro w' ⟨hs0, hs1⟩
        go_simp
        try (with_reducible rfl)
      try simp only [Act.put, List.setIfInBounds_toArray, List.set_cons_zero, List.set_cons_succ]
      refine wpAnyT_taked (i := 10) (d := 30) (v := ?_) rfl rfl (by kernel_rfl) (by kernel_rfl) (by kernel_rfl) (by kernel_rfl) rfl (fun _ _ _ h => h) (Or.inl ⟨by rfl, ?_⟩) (by assumption) ?_
      rotate_left 1
      · rintro w' ⟨hs0, hs1⟩
        go_simp
        try (with_reducible rfl)
      try simp only [Act.put, List.setIfInBounds_toArray, List.set_cons_zero, List.set_cons_succ]
      refine wpAnyT_one (i := 7) (by kernel_rfl) rfl rfl (fun K hK => ?_)
      go_simp
      refine hK.out _ _ ⟨h0, h1⟩ ?_
      clear hK K
      try simp only [Act.put, List.setIfInBounds_toArray, List.set_cons_zero, List.set_cons_succ]
      refine wpAnyT_one (i := 8) (by kernel_rfl) rfl rfl (fun K hK => ?_)
      refine app_u8 (by rfl) (.tmp 25) (.tmp 27) (by rfl) B u last.length (bytes last) (by rfl) (own_drew (HU.out.alloc _)) wc.heap.size 1 1 [.int .u8 ek] (by rfl) (blk_drew (blk_new _ _)) rfl (bytes_one [ek]) HLa.out HBB.out ?_
      intro u1 w1 hu1 hg1 hm1
      have k1 := grown_cell hg1 h0 HGU
      have k2 := grown_cell hg1 h1 HVU
      have F1 : Fr (fun k => some k = u.ownBlock) wc w1 := (((Fr.refl _ wc).alloc _).drew).grown hg1 (fun k hk => .inr hk.symm)
      have hS1 := And.intro k1 k2
      refine hK.out _ _ hS1 ?_
      clear hK K hS0
      try simp only [Act.put, List.setIfInBounds_toArray, List.set_cons_zero, List.set_cons_succ]
      refine wpAnyT_one (i := 11) (by kernel_rfl) rfl rfl (fun K hK => ?_)
      go_simp
      refine (fixed1 _ en hen).mono ?_
      rintro e w5 ⟨g5, rfl, hg5, hb5, hF5⟩
      have k3 := hF5.cell0 k1
      have k4 := hF5.cell0 k2
      have F5 := F1.trans hF5 (fun _ _ x => x.elim)
      have HB2 := Lib.hid (Nat.le_trans hBc F5.size)
      have G5 := F5.blk HG.out HGU
      have V5 := F5.blk HV.out HVU
      have o5 := hF5.own0 hu1
      have hS5 := And.intro k3 k4
      refine hK.out _ _ hS5 ?_
      clear hK K hS1
      try simp only [Act.put, List.setIfInBounds_toArray, List.set_cons_zero, List.set_cons_succ]
      refine wpAnyT_one (i := 12) (by kernel_rfl) rfl rfl (fun K hK => ?_)
      refine app_u8 (by rfl) (.tmp 28) (.tmp 31) (by rfl) B u1 (last.length + 1) _ (by rfl) o5 g5 1 1 [.int .u8 en] (by rfl) hb5 rfl (bytes_one [(en : Int)]) HLb.out HB2.out ?_
      intro u2 w2 hu2 hg2 hm2
      have k5 := grown_cell hg2 k3 (own_ne o5 G5 (by decide))
      have k6 := grown_cell hg2 k4 (own_ne o5 V5 (by decide))
      have V6 := blk_grown V5 hg2 (own_ne o5 V5 (by decide))
      have z6 := blk_frozen V6 k
      obtain ⟨A2, c2, rfl⟩ := own_slice hu2
      have hS6 := And.intro k5 k6
      refine hK.out _ _ hS6 ?_
      clear hK K hS5
      try simp only [Act.put, List.setIfInBounds_toArray, List.set_cons_zero, List.set_cons_succ]
      refine wpAnyT_taked (i := 13) (d := 33) (v := ?_) rfl rfl (by kernel_rfl) (by kernel_rfl) (by kernel_rfl) (by kernel_rfl) rfl (fun _ _ _ h => h) (Or.inl ⟨by rfl, ?_⟩) (by assumption) ?_
      rotate_left 1
      · rintro w' ⟨hs0, hs1⟩
        go_simp
        try (with_reducible rfl)
      try simp only [Act.put, List.setIfInBounds_toArray, List.set_cons_zero, List.set_cons_succ]
      clear hS6
      refine wpAnyT_last (by kernel_rfl) rfl (by kernel_rfl) (fun K hK => ?_)
      go_simp
      refine hK.out _ _ ?_
      clear hK K
      refine NoPanic.normal ?_
      all_goals
        go_wp2
        go_meet
        case rel => 
          have F6 : Fr (fun k => some k = u.ownBlock) wc w2 := F5.trans' ((Fr.refl (fun k => some k = u1.ownBlock) w5).grown hg2 (fun k hk => .inr hk.symm)) (fun _ _ h => h) (fun i hi h => by
            rcases hm1 with hm1 | hm1
            · exact h.trans hm1
            · have e := Option.some.inj (h.trans hm1)
              have := ((Fr.refl (fun _ => False) wc).alloc (Obj.cells #[Value.int IntKind.u8 ek] 5)).size
              have e' : i = (wc.alloc (Obj.cells #[Value.int IntKind.u8 ek] 5)).heap.size := e
              omega)
          have hmm : (Value.slice A2 (last.length + 1 + 1) c2).ownBlock = u.ownBlock ∨ ∃ b, (Value.slice A2 (last.length + 1 + 1) c2).ownBlock = some b ∧ wc.heap.size ≤ b := by
            rcases hm2 with hm2 | hm2
            · rcases hm1 with hm1 | hm1
              · exact .inl (hm2.trans hm1)
              · exact .inr ⟨_, hm2.trans hm1, ((Fr.refl (fun _ => False) wc).alloc (Obj.cells #[Value.int IntKind.u8 ek] 5)).size⟩
            · exact .inr ⟨_, hm2, F5.size⟩
          have ho2 : w2.ownsRow B 5 1 (.slice A2 (last.length + 1 + 1) c2) (last ++ [ek, (en : Int)]).length (bytes (last ++ [ek, (en : Int)])) := by
            have e : bytes (last ++ [ek, (en : Int)]) = bytes last ++ [Value.int IntKind.u8 ek] ++ [Value.int IntKind.u8 ↑en] := by simp [bytes]
            rw [e, List.length_append]
            exact hu2
          have hT := HO.out.turn F6 ho2 hmm
          rw [HL1.out, hkk] at hT
          have hgr2 := F6.blk HGR.out HRU
          have hgv : gr ≠ gv := fun e => by
            rw [e] at hgr2
            cases hgr2.symm.trans V6
          have hgvB : B ≤ gv := (HO.out.row.lt gv rfl).1
          exact ⟨_, hT, blk_far hgr2 hgv _, ((F6.mono (S' := fun k => B ≤ k) (fun k _ hk => (HU.out.lt k hk.symm).1)).setCell (p := ⟨gv, k, none⟩) (.inr hgvB) _).below hBc (fun _ h => h)⟩
    case rest =>
      have HBW2 := HBW.out
      have HBC2 := HBC.out
      clear cg cu fu HO HU HG HV HGR HBC HBW HL1 ng nu HBB HLa HLb h0 h1 HGU HVU HRU hwr
      obtain ⟨u2, hO, hgr, hb2⟩ := hcut
      have hu := hO.split
      obtain ⟨gv', c', vs', u', e1, e2, hl1, hu⟩ := hu
      obtain ⟨rfl, e3⟩ := List.append_inj' e2 rfl
      obtain rfl : u2 = u' := by simpa using e3
      clear e1 e2 e3 gv' c'
      have hb0 : Below B w0 wc := HBC2.trans hb2
      have hbw : Below B w wc := HBW2.trans hb2
      have hBc2 : B ≤ wc.heap.size := Nat.le_trans hBc hb2.size
      clear hb2 HBW2 HBC2 hBc
      obtain ⟨rec, hrec⟩ : ∃ rec, recs[erc]? = some rec := ⟨_, List.getElem?_eq_getElem hrc⟩
      have hgd : recs.getD erc [] = rec := by rw [List.getD_eq_getElem?_getD, hrec]; rfl
      have hat : eat + en ≤ rec.length := by rw [← hgd]; exact HAT.out
      have hp : piece recs ⟨erc, eat, en, ek, ef⟩ = (rec.drop eat).take en := by simp only [piece, hgd]
      have hrl := HR1.out rec (List.mem_of_getElem? hrec)
      obtain ⟨gq, oq, PA, pc, rfl, hq0, hpb0⟩ := HR.out erc rec hrec
      have hgq : gq < B := by rw [← hB]; exact cell_lt hq0
      have hq := (Fr.of_below (hB ▸ hb0) (fun _ => False)).cell0 hq0
      have hpb := hpb0.below (hB ▸ hb0)
      have cg : wc.cell? ⟨g, 0, none⟩ = some (.slice (some ⟨gv, 0, none⟩) N c) := blk_cell hO.cell 0
      have cr : wc.cell? ⟨gr, 0, none⟩ = some (.slice (some ⟨gq, oq, none⟩) rn rc) := blk_cell hgr 0
      obtain ⟨blkw, hbv⟩ := own_typed' hO.row
      have cu : wc.cell? ⟨gv, k, none⟩ = some u2 := by
        have := (own_news (n := N) (by simpa [HNN.out] using hO.row)).1 _ rfl k u2 (by rw [← hkk, ← hl1]; simp)
        rwa [add_plain] at this
      have fu := blk_frozen hbv k
      have HGU := own_ne hu hO.cell (by decide)
      have HVU := own_ne hu hbv (by decide)
      have HRU := own_ne hu hgr (by decide)
      have HQU : some gq ≠ u2.ownBlock := fun e => by have := (hu.lt gq e.symm).1; omega
      have hgrv : gr ≠ gv := fun e => by
        rw [e] at hgr
        cases hgr.symm.trans hbv
      have hgvB : B ≤ gv := (hO.row.lt gv rfl).1
      have hgqv : gq ≠ gv := by omega
      have HLL : Hid ((last ++ [ek, (en : Int)]).length + en ≤ 1000000000) := by show (last ++ [ek, (en : Int)]).length + en ≤ 1000000000; have := HFL.out.2; simp; omega
      have HLn : Hid (((rec.drop eat).take en).length = en) := by show ((rec.drop eat).take en).length = en; rw [List.length_take, List.length_drop]; omega
      have HO := Lib.hid hO
      have HU := Lib.hid hu
      have HGR := Lib.hid hgr
      have HBW := Lib.hid hbw
      have HV := Lib.hid hbv
      have HP := Lib.hid hp
      have HPB := Lib.hid hpb
      have HL1 := Lib.hid hl1
      clear hO hu hgr hbw hb0 hbv hp hpb hpb0 hq0 hl1 hrec hgd HAT HR HR1
      have i1 : (erc : Int) < (rn : Int) := by omega
      have i2 : (0 : Int) ≤ (erc : Int) := by omega
      have i3 : (0 : Int) ≤ (eat : Int) := by omega
      have i4 : (eat : Int) ≤ (eat : Int) + (en : Int) := by omega
      have i5 : (eat : Int) + (en : Int) ≤ (pc : Int) := by have := HPB.out.cap; omega
      have i6 : (eat : Int) + (en : Int) ≤ 1000000 := by omega
      have iw : IntKind.i64.wrap ((eat : Int) + (en : Int)) = (eat : Int) + (en : Int) := by rw [IntKind.wrap_i64]; omega
      have hsl : ∀ W : World, (Instr.slice 27 (.slice PA rec.length pc) (some (.int .i64 eat)) (some (.int .i64 ((eat : Int) + (en : Int)))) none).run Try.prog W = .ok (.slice (cutA PA pc eat) en (pc - eat)) W := fun W => by
        have := cutB PA rec.length pc eat (eat + en) (by omega) (by have := HPB.out.cap; omega) W _ ((eat : Int) + (en : Int)) rfl (by omega)
        rwa [Nat.add_sub_cancel_left] at this
      have HCB : Hid (ReadB wc (cutA PA pc eat) (pc - eat) ((rec.drop eat).take en)) := by
        have := cutA_read HPB.out eat (eat + en) (by omega) hat
        rwa [Nat.add_sub_cancel_left] at this
      have HEM : Hid (cutA PA pc eat = none → en = 0) := fun e => by have := HCB.out.empty e; have h2 := HLn.out; rw [this] at h2; simpa using h2.symm
      go_upto_region 4 with (fail)
      refine wp_region_noPanic ?_
      refine wp_region_T (fun w' => (w'.cell? ⟨g, 0, none⟩ = some (.slice (some ⟨gv, 0, none⟩) N c) ∧ w'.cell? ⟨gv, k, none⟩ = some u2) ∧ w'.cell? ⟨gr, 0, none⟩ = some (.slice (some ⟨gq, oq, none⟩) rn rc) ∧ w'.cell? ⟨gq, oq + erc, none⟩ = some (.slice PA rec.length pc)) 17 (by kernel_rfl) ⟨⟨cg, cu⟩, cr, hq⟩ (fun hS0 => ?_)
      refine wpAnyT_taked (i := 0) (d := 34) (v := ?_) rfl rfl (by kernel_rfl) (by kernel_rfl) (by kernel_rfl) (by kernel_rfl) rfl (fun _ _ _ h => h) (Or.inl ⟨by rfl, ?_⟩) (by assumption) ?_
      rotate_left 1
      · rintro w' ⟨⟨hs0, hs1⟩, hs2, hs3⟩
        go_simp
        try (with_reducible rfl)
      try simp only [Act.put, List.setIfInBounds_toArray, List.set_cons_zero, List.set_cons_succ]
      refine wpAnyT_taked (i := 1) (d := 35) (v := ?_) rfl rfl (by kernel_rfl) (by kernel_rfl) (by kernel_rfl) (by kernel_rfl) rfl (fun _ _ _ h => h) (Or.inl ⟨by rfl, ?_⟩) (by assumption) ?_
      rotate_left 1
      · rintro w' ⟨⟨hs0, hs1⟩, hs2, hs3⟩
        go_simp
        try (with_reducible rfl)
      try simp only [Act.put, List.setIfInBounds_toArray, List.set_cons_zero, List.set_cons_succ]
      refine wpAnyT_taked (i := 2) (d := 36) (v := ?_) rfl rfl (by kernel_rfl) (by kernel_rfl) (by kernel_rfl) (by kernel_rfl) rfl (fun _ _ _ h => h) (Or.inl ⟨by rfl, ?_⟩) (by assumption) ?_
      rotate_left 1
      · rintro w' ⟨⟨hs0, hs1⟩, hs2, hs3⟩
        go_simp
        try (with_reducible rfl)
      try simp only [Act.put, List.setIfInBounds_toArray, List.set_cons_zero, List.set_cons_succ]
      refine wpAnyT_taked (i := 3) (d := 37) (v := ?_) rfl rfl (by kernel_rfl) (by kernel_rfl) (by kernel_rfl) (by kernel_rfl) rfl (fun _ _ _ h => h) (Or.inl ⟨by rfl, ?_⟩) (by assumption) ?_
      rotate_left 1
      · rintro w' ⟨⟨hs0, hs1⟩, hs2, hs3⟩
        go_simp
        try (with_reducible rfl)
      try simp only [Act.put, List.setIfInBounds_toArray, List.set_cons_zero, List.set_cons_succ]
      refine wpAnyT_taked (i := 4) (d := 38) (v := ?_) rfl rfl (by kernel_rfl) (by kernel_rfl) (by kernel_rfl) (by kernel_rfl) rfl (fun _ _ _ h => h) (Or.inl ⟨by rfl, ?_⟩) (by assumption) ?_
      rotate_left 1
      · rintro w' ⟨⟨hs0, hs1⟩, hs2, hs3⟩
        go_simp
        try (with_reducible rfl)
      try simp only [Act.put, List.setIfInBounds_toArray, List.set_cons_zero, List.set_cons_succ]
      refine wpAnyT_taked (i := 5) (d := 39) (v := ?_) rfl rfl (by kernel_rfl) (by kernel_rfl) (by kernel_rfl) (by kernel_rfl) rfl (fun _ _ _ h => h) (Or.inl ⟨by rfl, ?_⟩) (by assumption) ?_
      rotate_left 1
      · rintro w' ⟨⟨hs0, hs1⟩, hs2, hs3⟩
        go_simp
        try (with_reducible rfl)
      try simp only [Act.put, List.setIfInBounds_toArray, List.set_cons_zero, List.set_cons_succ]
      refine wpAnyT_taked (i := 6) (d := 40) (v := ?_) rfl rfl (by kernel_rfl) (by kernel_rfl) (by kernel_rfl) (by kernel_rfl) rfl (fun _ _ _ h => h) (Or.inl ⟨by rfl, ?_⟩) (by assumption) ?_
      rotate_left 1
      · rintro w' ⟨⟨hs0, hs1⟩, hs2, hs3⟩
        go_simp
        try (with_reducible rfl)
      try simp only [Act.put, List.setIfInBounds_toArray, List.set_cons_zero, List.set_cons_succ]
      refine wpAnyT_taked (i := 7) (d := 41) (v := ?_) rfl rfl (by kernel_rfl) (by kernel_rfl) (by kernel_rfl) (by kernel_rfl) rfl (fun _ _ _ h => h) (Or.inl ⟨by rfl, ?_⟩) (by assumption) ?_
      rotate_left 1
      · rintro w' ⟨⟨hs0, hs1⟩, hs2, hs3⟩
        go_simp
        try (with_reducible rfl)
      try simp only [Act.put, List.setIfInBounds_toArray, List.set_cons_zero, List.set_cons_succ]
      refine wpAnyT_taked (i := 8) (d := 42) (v := ?_) rfl rfl (by kernel_rfl) (by kernel_rfl) (by kernel_rfl) (by kernel_rfl) rfl (fun _ _ _ h => h) (Or.inl ⟨by rfl, ?_⟩) (by assumption) ?_
      rotate_left 1
      · rintro w' ⟨⟨hs0, hs1⟩, hs2, hs3⟩
        go_simp
        try (with_reducible rfl)
      try simp only [Act.put, List.setIfInBounds_toArray, List.set_cons_zero, List.set_cons_succ]
      refine wpAnyT_taked (i := 9) (d := 43) (v := ?_) rfl rfl (by kernel_rfl) (by kernel_rfl) (by kernel_rfl) (by kernel_rfl) rfl (fun _ _ _ h => h) (Or.inl ⟨by rfl, ?_⟩) (by assumption) ?_
      rotate_left 1
      · rintro w' ⟨⟨hs0, hs1⟩, hs2, hs3⟩
        go_simp
        try (with_reducible rfl)
      try simp only [Act.put, List.setIfInBounds_toArray, List.set_cons_zero, List.set_cons_succ]
      refine wpAnyT_taked (i := 10) (d := 44) (v := ?_) rfl rfl (by kernel_rfl) (by kernel_rfl) (by kernel_rfl) (by kernel_rfl) rfl (fun _ _ _ h => h) (Or.inl ⟨by rfl, ?_⟩) (by assumption) ?_
      rotate_left 1
      · rintro w' ⟨⟨hs0, hs1⟩, hs2, hs3⟩
        go_simp
        try (with_reducible rfl)
      try simp only [Act.put, List.setIfInBounds_toArray, List.set_cons_zero, List.set_cons_succ]
      refine wpAnyT_taked (i := 11) (d := 45) (v := ?_) rfl rfl (by kernel_rfl) (by kernel_rfl) (by kernel_rfl) (by kernel_rfl) rfl (fun _ _ _ h => h) (Or.inl ⟨by rfl, ?_⟩) (by assumption) ?_
      rotate_left 1
      · rintro w' ⟨⟨hs0, hs1⟩, hs2, hs3⟩
        go_simp
        try (with_reducible rfl)
      try simp only [Act.put, List.setIfInBounds_toArray, List.set_cons_zero, List.set_cons_succ]
      refine wpAnyT_taked (i := 12) (d := 46) (v := ?_) rfl rfl (by kernel_rfl) (by kernel_rfl) (by kernel_rfl) (by kernel_rfl) rfl (fun _ _ _ h => h) (Or.inl ⟨by rfl, ?_⟩) (by assumption) ?_
      rotate_left 1
      · rintro w' ⟨⟨hs0, hs1⟩, hs2, hs3⟩
        go_simp
        try (with_reducible rfl)
      try simp only [Act.put, List.setIfInBounds_toArray, List.set_cons_zero, List.set_cons_succ]
      refine wpAnyT_taked (i := 13) (d := 47) (v := ?_) rfl rfl (by kernel_rfl) (by kernel_rfl) (by kernel_rfl) (by kernel_rfl) rfl (fun _ _ _ h => h) (Or.inl ⟨by rfl, ?_⟩) (by assumption) ?_
      rotate_left 1
      · rintro w' ⟨⟨hs0, hs1⟩, hs2, hs3⟩
        go_simp
        try (with_reducible rfl)
      try simp only [Act.put, List.setIfInBounds_toArray, List.set_cons_zero, List.set_cons_succ]
      refine wpAnyT_taked (i := 14) (d := 48) (v := ?_) rfl rfl (by kernel_rfl) (by kernel_rfl) (by kernel_rfl) (by kernel_rfl) rfl (fun _ _ _ h => h) (Or.inl ⟨by rfl, ?_⟩) (by assumption) ?_
      rotate_left 1
      · rintro w' ⟨⟨hs0, hs1⟩, hs2, hs3⟩
        go_simp
        try (with_reducible rfl)
      try simp only [Act.put, List.setIfInBounds_toArray, List.set_cons_zero, List.set_cons_succ]
      refine wpAnyT_one (i := 15) (by kernel_rfl) rfl rfl (fun K hK => ?_)
      refine app_u8x (by rfl) (.tmp 39) (.tmp 48) (by rfl) B u2 _ _ (by rfl) (own_drew HU.out) (cutA PA pc eat) en (pc - eat) ((rec.drop eat).take en) (by rfl) HCB.out.news HEM.out HLn.out HLL.out hBc2 ?_
      intro u3 w3 hu3 hg3 hm3
      have V3 := blk_grown (blk_drew HV.out) hg3 HVU
      have z3 := blk_frozen V3 k
      have cv3 := grown_cell hg3 cu HVU
      have hS3 := And.intro (And.intro (grown_cell hg3 cg HGU) cv3) (And.intro (grown_cell hg3 cr HRU) (grown_cell hg3 hq HQU))
      obtain ⟨A3, c3, rfl⟩ := own_slice hu3
      refine hK.out _ _ hS3 ?_
      clear hK K hS0
      try simp only [Act.put, List.setIfInBounds_toArray, List.set_cons_zero, List.set_cons_succ]
      refine wpAnyT_taked (i := 16) (d := 50) (v := ?_) rfl rfl (by kernel_rfl) (by kernel_rfl) (by kernel_rfl) (by kernel_rfl) rfl (fun _ _ _ h => h) (Or.inl ⟨by rfl, ?_⟩) (by assumption) ?_
      rotate_left 1
      · rintro w' ⟨⟨hs0, hs1⟩, hs2, hs3⟩
        go_simp
        try (with_reducible rfl)
      try simp only [Act.put, List.setIfInBounds_toArray, List.set_cons_zero, List.set_cons_succ]
      refine wpAnyT_last (by kernel_rfl) rfl (by kernel_rfl) (fun K hK => ?_)
      go_simp
      refine hK.out _ _ ?_
      clear hK K
      refine NoPanic.normal ?_
      go_wp2
      all_goals
        go_end0
        have F3 : Fr (fun k => some k = u2.ownBlock) wc w3 := ((Fr.refl _ wc).drew).grown hg3 (fun k hk => .inr hk.symm)
        have hmm : (Value.slice A3 ((last ++ [ek, (en : Int)]).length + en) c3).ownBlock = u2.ownBlock ∨ ∃ b, (Value.slice A3 ((last ++ [ek, (en : Int)]).length + en) c3).ownBlock = some b ∧ wc.heap.size ≤ b := by
          rcases hm3 with hm3 | hm3
          · exact .inl hm3
          · exact .inr ⟨_, hm3, Nat.le_refl _⟩
        have ho3 : w3.ownsRow B 5 1 (.slice A3 ((last ++ [ek, (en : Int)]).length + en) c3) (last ++ [ek, (en : Int)] ++ (rec.drop eat).take en).length (bytes (last ++ [ek, (en : Int)] ++ (rec.drop eat).take en)) := by
          have e : (last ++ [ek, (en : Int)] ++ (rec.drop eat).take en).length = (last ++ [ek, (en : Int)]).length + en := by rw [List.length_append, HLn.out]
          rw [bytes_app, e]
          exact hu3
        have hT := HO.out.turn F3 ho3 hmm
        rw [HL1.out, hkk] at hT
        refine ⟨rfl, ?_, blk_far (F3.blk HGR.out HRU) hgrv _, HBW.out.trans (((F3.mono (S' := fun k => B ≤ k) (fun k _ hk => (HU.out.lt k hk.symm).1)).setCell (p := ⟨gv, k, none⟩) (.inr hgvB) _).below hBc2 (fun _ h => h))⟩
        rw [HST.out, HP.out, show last.length + 2 + en = (last ++ [ek, (en : Int)]).length + en from by simp]
        exact ⟨_, _, hT⟩

end Go.Proofs.Ytedmhhllkkgbjaa
