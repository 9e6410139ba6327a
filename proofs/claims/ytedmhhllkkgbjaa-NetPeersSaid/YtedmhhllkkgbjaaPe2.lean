/- net.Peer.Hear of a transfer. -/
import Derived.Test.YtedmhhllkkgbjaaPe1
import Derived.Test.YtedmhhllkkgbjaaRt
namespace Go.Proofs.Ytedmhhllkkgbjaa
open Go.RowKit Go.WideShapes
set_option linter.unusedSimpArgs false
set_option linter.unusedVariables false

def ack (n s : Int) : Msg := ⟨2, n, s, ⟨#[]⟩, 0⟩
def HearPost (w : World) (g : Nat) (n : Int) (S : Value) (bw bg kw kg : Nat) (Dw Dg : DataW Msg) (m : Msg) (e : Ending) (w' : World) : Prop :=
  e = .returned (.tuple #[(ack n m.seq).v, .bool true]) ∧ PeerAt w' g n S bw bg kw (kg + 1) Dw (if Maps.has Dg (.int .i64 m.seq) then Dg else Dg.put (.int .i64 m.seq) (.held m)) ∧ Fr (fun k => k = bg) w w'

set_option maxRecDepth 100000 in
set_option maxHeartbeats 4000000 in
theorem hear_take {w : World} {g : Nat} {n : Int} {S : Value} {bw bg kw kg : Nat} {Dw Dg : DataW Msg} (h : PeerAt w g n S bw bg kw kg Dw Dg) (hn : n ≠ 0) (m : Msg) (hk : m.kind = 1) (hp : m.peer = n) (hs : 0 ≤ m.seq) (hw : (Lit.int .i64 m.seq).wf = true) (hkg : kg < maxLen) :
    Calls Try.prog 38 #[.pointer (some ⟨g, 0, none⟩), .agg #[.int .i64 m.kind, .int .i64 m.peer, .int .i64 m.seq, .string m.key, .int .i64 m.n]] w (HearPost w g n S bw bg kw kg Dw Dg m) := by
  obtain ⟨mk, mp, ms, mt, mn⟩ := m
  simp only at hk hp hs hw
  subst hk hp
  have HH := Lib.hid h
  have HW := Lib.hid hw
  clear h hw
  go_enter Try.func38, Try.ntmps38
  go_wp2
  obtain ⟨w2, he, hn1, hn2, hF, hsz⟩ := alloc2 w (.cells #[.int .i64 1, .int .i64 mp, .int .i64 ms, .string mt, .int .i64 mn] 71) (.cells #[.int .i64 0, .int .i64 0, .int .i64 0, .string ⟨#[]⟩, .int .i64 0] 71)
  rw [he]
  have H2 := Lib.hid (HH.out.fr0 hF)
  have HF := Lib.hid hF
  have HSZ := Lib.hid hsz
  have hgl : g < w.heap.size := blk_lt HH.out.box
  clear he hF hsz
  generalize hg2 : w.heap.size + 1 = g2 at hn2 ⊢
  have HG2 := Lib.hid hg2
  clear hg2
  generalize hg1 : w.heap.size = g1 at hn1 hgl ⊢
  have HG1 := Lib.hid hg1
  clear hg1
  have c1 : w2.cell? ⟨g1, 1, none⟩ = some (.int .i64 mp) := blk_cell hn1 1
  have c2 : w2.cell? ⟨g1, 2, none⟩ = some (.int .i64 ms) := blk_cell hn1 2
  have d0 : w2.cell? ⟨g, 0, none⟩ = some (.int .i64 mp) := blk_cell H2.out.box 0
  have d3 : w2.cell? ⟨g, 3, none⟩ = some (.map (some bg)) := blk_cell H2.out.box 3
  have HN1 := Lib.hid hn1
  have HN2 := Lib.hid hn2
  clear hn1 hn2
  go_quiet ((go_at_call 61; exact Calls.quiet_of_same (peer_some (((Fr.refl (fun _ => False) w2).drewN _).blk0 H2.out.box) hn)))
  have H3 := Lib.hid (H2.out.fr0 ((Fr.refl (fun _ => False) w2).drewN nq))
  have HF3 : Hid (Fr (fun _ => False) w (w2.drewN nq)) := HF.out.drewN nq
  have HN13 : Hid ((w2.drewN nq).heap[g1]? = some (.cells #[.int .i64 1, .int .i64 mp, .int .i64 ms, .string mt, .int .i64 mn] 71 (0, 0))) := HN1.out
  have HN23 : Hid ((w2.drewN nq).heap[g2]? = some (.cells #[.int .i64 0, .int .i64 0, .int .i64 0, .string ⟨#[]⟩, .int .i64 0] 71 (0, 0))) := HN2.out
  generalize w2.drewN nq = w3 at H3 HF3 HN13 HN23 ⊢
  clear c1 c2 d0 d3 H2 HN1 HN2 HF HSZ
  have c0 : w3.cell? ⟨g1, 0, none⟩ = some (.int .i64 1) := blk_cell HN13.out 0
  have c1 : w3.cell? ⟨g1, 1, none⟩ = some (.int .i64 mp) := blk_cell HN13.out 1
  have c2 : w3.cell? ⟨g1, 2, none⟩ = some (.int .i64 ms) := blk_cell HN13.out 2
  have c3 : w3.cell? ⟨g1, 3, none⟩ = some (.string mt) := blk_cell HN13.out 3
  have c4 : w3.cell? ⟨g1, 4, none⟩ = some (.int .i64 mn) := blk_cell HN13.out 4
  have d0 : w3.cell? ⟨g, 0, none⟩ = some (.int .i64 mp) := blk_cell H3.out.box 0
  have d3 : w3.cell? ⟨g, 3, none⟩ = some (.map (some bg)) := blk_cell H3.out.box 3
  obtain ⟨⟨zk, zp, zs, zt, zn⟩, hlook⟩ := look_all H3.out.got HW.out
  simp only [Msg.v] at hlook
  obtain ⟨has, hhas⟩ : ∃ has, has = Maps.has Dg (.int .i64 ms) := ⟨_, rfl⟩
  rw [← hhas] at hlook
  have HHAS := Lib.hid hhas
  have hS : ∀ W : World, Fr (fun _ => False) w3 W → W.cell? ⟨g1, 2, none⟩ = some (.int .i64 ms) ∧ W.cell? ⟨g, 3, none⟩ = some (.map (some bg)) ∧ (Instr.lookup 101 (.map (some bg)) (.int .i64 ms) true).run Try.prog W = .ok (.tuple #[.agg #[.int .i64 zk, .int .i64 zp, .int .i64 zs, .string zt, .int .i64 zn], .bool has]) W :=
    fun W hF => ⟨hF.cell0 c2, hF.cell0 d3, hlook W (hF.block _ H3.out.got.lt (fun h => h))⟩
  have HS := Lib.hid hS
  clear hhas hlook hS
  go_upto_region 8 with (fail)
  go_region_held3 (fun w' => w'.cell? ⟨g1, 2, none⟩ = some (.int .i64 ms) ∧ w'.cell? ⟨g, 3, none⟩ = some (.map (some bg)) ∧ (Instr.lookup 101 (.map (some bg)) (.int .i64 ms) true).run Try.prog w' = .ok (.tuple #[.agg #[.int .i64 zk, .int .i64 zp, .int .i64 zs, .string zt, .int .i64 zn], .bool has]) w') (first | exact HS.out _ (Fr.refl _ _).drew | exact HS.out _ (((Fr.refl _ _).alloc _).drew) | exact HS.out _ ((Fr.refl _ _).alloc _) | exact HS.out _ ((Fr.refl _ _).drew.alloc _)) (fail)
  all_goals
    obtain ⟨w4, he4, hF4⟩ : ∃ w4, (w3.alloc (Obj.cells #[.int .i64 zk, .int .i64 zp, .int .i64 zs, .string zt, .int .i64 zn] 71)).drew = w4 ∧ Fr (fun _ => False) w3 w4 := ⟨_, rfl, ((Fr.refl _ w3).alloc _).drew⟩
    rw [he4]
    have H4 := Lib.hid (H3.out.fr0 hF4)
    have HF4 : Hid (Fr (fun _ => False) w w4) := HF3.out.trans hF4 (fun _ _ h => h)
    have HN14 := Lib.hid (hF4.blk0 HN13.out)
    have HN24 := Lib.hid (hF4.blk0 HN23.out)
    clear he4 hF4 c0 c1 c2 c3 c4 d0 d3 HS
    have hg1g : g1 ≠ g := by omega
    have hg2g : g2 ≠ g := by have := HG2.out; have := HG1.out; omega
    have hg12 : g1 ≠ g2 := by have := HG2.out; have := HG1.out; omega
    have c0 : w4.cell? ⟨g1, 0, none⟩ = some (.int .i64 1) := blk_cell HN14.out 0
    have c1 : w4.cell? ⟨g1, 1, none⟩ = some (.int .i64 mp) := blk_cell HN14.out 1
    have c2 : w4.cell? ⟨g1, 2, none⟩ = some (.int .i64 ms) := blk_cell HN14.out 2
    have c3 : w4.cell? ⟨g1, 3, none⟩ = some (.string mt) := blk_cell HN14.out 3
    have c4 : w4.cell? ⟨g1, 4, none⟩ = some (.int .i64 mn) := blk_cell HN14.out 4
    have d3 : w4.cell? ⟨g, 3, none⟩ = some (.map (some bg)) := blk_cell H4.out.box 3
    cases has with
    | false =>
      have H4d : PeerAt w4.drew g mp S bw bg kw kg Dw Dg := H4.out.fr0 (Fr.refl (fun _ => False) w4).drew
      obtain ⟨w5, hupd, hown, hgr⟩ := H4d.got.update Try.intKeyed Try.underlying101 hkg (val := .agg #[.int .i64 1, .int .i64 mp, .int .i64 ms, .string mt, .int .i64 mn]) (d := .held ⟨1, mp, ms, mt, mn⟩) (ps := []) (key_int HW.out) rfl
      have hF5 : Fr (fun k => k = bg) w4.drew w5 := (Fr.refl _ _).grown hgr (fun k hk => .inr (Option.some.inj hk).symm)
      have hgb := H4.out.gbw
      have hg1b : g1 ≠ bg := fun e => by obtain ⟨_, _, h2, _⟩ := H4.out.got; rw [← e] at h2; have := HN14.out.symm.trans h2; cases this
      have hg2b : g2 ≠ bg := fun e => by obtain ⟨_, _, h2, _⟩ := H4.out.got; rw [← e] at h2; have := HN24.out.symm.trans h2; cases this
      have hS0 : w4.drew.cell? ⟨g, 3, none⟩ = some (.map (some bg)) ∧ w4.drew.cell? ⟨g1, 0, none⟩ = some (.int .i64 1) ∧ w4.drew.cell? ⟨g1, 1, none⟩ = some (.int .i64 mp) ∧ w4.drew.cell? ⟨g1, 2, none⟩ = some (.int .i64 ms) ∧ w4.drew.cell? ⟨g1, 3, none⟩ = some (.string mt) ∧ w4.drew.cell? ⟨g1, 4, none⟩ = some (.int .i64 mn) := ⟨d3, c0, c1, c2, c3, c4⟩
      have hS1 : w5.cell? ⟨g, 3, none⟩ = some (.map (some bg)) ∧ w5.cell? ⟨g1, 0, none⟩ = some (.int .i64 1) ∧ w5.cell? ⟨g1, 1, none⟩ = some (.int .i64 mp) ∧ w5.cell? ⟨g1, 2, none⟩ = some (.int .i64 ms) ∧ w5.cell? ⟨g1, 3, none⟩ = some (.string mt) ∧ w5.cell? ⟨g1, 4, none⟩ = some (.int .i64 mn) :=
        ⟨hF5.cell hS0.1 hgb.2, hF5.cell hS0.2.1 hg1b, hF5.cell hS0.2.2.1 hg1b, hF5.cell hS0.2.2.2.1 hg1b, hF5.cell hS0.2.2.2.2.1 hg1b, hF5.cell hS0.2.2.2.2.2 hg1b⟩
      have H5 : Hid (PeerAt w5 g mp S bw bg kw (kg + 1) Dw (Dg.put (.int .i64 ms) (.held ⟨1, mp, ms, mt, mn⟩))) :=
        ⟨hF5.blk H4d.box hgb.2, owns_blk H4d.waits (hF5.block _ H4d.waits.lt H4d.ne), hown, H4d.ne⟩
      have HF5 : Hid (Fr (fun k => k = bg) w w5) := (HF4.out.drew.none (S := fun k => k = bg)).trans hF5 (fun _ _ h => h)
      have HN15 : Hid (w5.heap[g1]? = some (.cells #[.int .i64 1, .int .i64 mp, .int .i64 ms, .string mt, .int .i64 mn] 71 (0, 0))) := hF5.blk HN14.out hg1b
      have HN25 : Hid (w5.heap[g2]? = some (.cells #[.int .i64 0, .int .i64 0, .int .i64 0, .string ⟨#[]⟩, .int .i64 0] 71 (0, 0))) := hF5.blk HN24.out hg2b
      clear hown hgr hF5 H4d hgb hg1b hg2b c0 c1 c2 c3 c4 d3 HN14 HN24 H4 HF4
      go_upto_region 10 with (fail)
      go_region_held3 (fun w' => w'.cell? ⟨g, 3, none⟩ = some (.map (some bg)) ∧ w'.cell? ⟨g1, 0, none⟩ = some (.int .i64 1) ∧ w'.cell? ⟨g1, 1, none⟩ = some (.int .i64 mp) ∧ w'.cell? ⟨g1, 2, none⟩ = some (.int .i64 ms) ∧ w'.cell? ⟨g1, 3, none⟩ = some (.string mt) ∧ w'.cell? ⟨g1, 4, none⟩ = some (.int .i64 mn)) (first | exact hS0 | exact hS1) (fail)
      all_goals
        have e0 : w5.cell? ⟨g, 0, none⟩ = some (.int .i64 mp) := blk_cell H5.out.box 0
        have e2 : w5.cell? ⟨g1, 2, none⟩ = some (.int .i64 ms) := blk_cell HN15.out 2
        have z0 := blk_frozen HN25.out 0
        have z1 := blk_frozen HN25.out 1
        have z2 := blk_frozen HN25.out 2
        have z3 := blk_frozen HN25.out 3
        have z4 := blk_frozen HN25.out 4
        have q0 : w5.cell? ⟨g2, 0, none⟩ = some (.int .i64 0) := blk_cell HN25.out 0
        have q1 : w5.cell? ⟨g2, 1, none⟩ = some (.int .i64 0) := blk_cell HN25.out 1
        have q2 : w5.cell? ⟨g2, 2, none⟩ = some (.int .i64 0) := blk_cell HN25.out 2
        have q3 : w5.cell? ⟨g2, 3, none⟩ = some (.string ⟨#[]⟩) := blk_cell HN25.out 3
        have q4 : w5.cell? ⟨g2, 4, none⟩ = some (.int .i64 0) := blk_cell HN25.out 4
        have hS2 : ∀ W : World, Fr (fun k => k = g2) w5.drew W → W.cell? ⟨g, 0, none⟩ = some (.int .i64 mp) ∧ W.cell? ⟨g1, 2, none⟩ = some (.int .i64 ms) := fun W hF => ⟨hF.cell (w := w5.drew) e0 (fun e => hg2g e.symm), hF.cell (w := w5.drew) e2 hg12⟩
        have HS2 := Lib.hid hS2
        clear hS2
        go_upto_region 11 with (fail)
        refine wp_region_noPanic ?_
        refine wp_region_T (fun w' => w'.cell? ⟨g, 0, none⟩ = some (.int .i64 mp) ∧ w'.cell? ⟨g1, 2, none⟩ = some (.int .i64 ms)) 8 (by kernel_rfl) ⟨e0, e2⟩ (fun hS0 => ?_)
        refine wpAnyT_taked (i := 0) (d := 57) (v := ?_) rfl rfl (by kernel_rfl) (by kernel_rfl) (by kernel_rfl) (by kernel_rfl) rfl (fun _ _ _ h => h) (Or.inl ⟨by rfl, ?_⟩) (by assumption) ?_
        rotate_left 1
        · rintro w' ⟨hs0, hs1⟩
          go_simp
          try (with_reducible rfl)
        try simp only [Act.put, List.setIfInBounds_toArray, List.set_cons_zero, List.set_cons_succ]
        refine wpAnyT_taked (i := 1) (d := 58) (v := ?_) rfl rfl (by kernel_rfl) (by kernel_rfl) (by kernel_rfl) (by kernel_rfl) rfl (fun _ _ _ h => h) (Or.inl ⟨by rfl, ?_⟩) (by assumption) ?_
        rotate_left 1
        · rintro w' ⟨hs0, hs1⟩
          go_simp
          try (with_reducible rfl)
        try simp only [Act.put, List.setIfInBounds_toArray, List.set_cons_zero, List.set_cons_succ]
        refine wpAnyT_taked (i := 2) (d := 59) (v := ?_) rfl rfl (by kernel_rfl) (by kernel_rfl) (by kernel_rfl) (by kernel_rfl) rfl (fun _ _ _ h => h) (Or.inl ⟨by rfl, ?_⟩) (by assumption) ?_
        rotate_left 1
        · rintro w' ⟨hs0, hs1⟩
          go_simp
          try (with_reducible rfl)
        try simp only [Act.put, List.setIfInBounds_toArray, List.set_cons_zero, List.set_cons_succ]
        refine wpAnyT_taked (i := 3) (d := 60) (v := ?_) rfl rfl (by kernel_rfl) (by kernel_rfl) (by kernel_rfl) (by kernel_rfl) rfl (fun _ _ _ h => h) (Or.inl ⟨by rfl, ?_⟩) (by assumption) ?_
        rotate_left 1
        · rintro w' ⟨hs0, hs1⟩
          go_simp
          try (with_reducible rfl)
        try simp only [Act.put, List.setIfInBounds_toArray, List.set_cons_zero, List.set_cons_succ]
        refine wpAnyT_taked (i := 4) (d := 61) (v := ?_) rfl rfl (by kernel_rfl) (by kernel_rfl) (by kernel_rfl) (by kernel_rfl) rfl (fun _ _ _ h => h) (Or.inl ⟨by rfl, ?_⟩) (by assumption) ?_
        rotate_left 1
        · rintro w' ⟨hs0, hs1⟩
          go_simp
          try (with_reducible rfl)
        try simp only [Act.put, List.setIfInBounds_toArray, List.set_cons_zero, List.set_cons_succ]
        refine wpAnyT_taked (i := 5) (d := 62) (v := ?_) rfl rfl (by kernel_rfl) (by kernel_rfl) (by kernel_rfl) (by kernel_rfl) rfl (fun _ _ _ h => h) (Or.inl ⟨by rfl, ?_⟩) (by assumption) ?_
        rotate_left 1
        · rintro w' ⟨hs0, hs1⟩
          go_simp
          try (with_reducible rfl)
        try simp only [Act.put, List.setIfInBounds_toArray, List.set_cons_zero, List.set_cons_succ]
        refine wpAnyT_taked (i := 6) (d := 63) (v := ?_) rfl rfl (by kernel_rfl) (by kernel_rfl) (by kernel_rfl) (by kernel_rfl) rfl (fun _ _ _ h => h) (Or.inl ⟨by rfl, ?_⟩) (by assumption) ?_
        rotate_left 1
        · rintro w' ⟨hs0, hs1⟩
          go_simp
          try (with_reducible rfl)
        try simp only [Act.put, List.setIfInBounds_toArray, List.set_cons_zero, List.set_cons_succ]
        have hS7 := HS2.out _ (set5_fr w5.drew g2 (.int .i64 2) (.int .i64 mp) (.int .i64 ms) (.string ⟨#[]⟩) (.int .i64 0))
        refine wpAnyT_one (i := 7) (by kernel_rfl) rfl rfl (fun K hK => ?_)
        refine step_store5 (by rfl) (.tmp 4) (.tmp 63) (by rfl) g2 (.int .i64 0) (.int .i64 0) (.int .i64 0) (.string ⟨#[]⟩) (.int .i64 0) 2 mp ms 0 ⟨#[]⟩ (by rfl) (by rfl) HN25.out ?_
        refine hK.out _ _ hS7 ?_
        clear hK K hS0
        try simp only [Act.put, List.setIfInBounds_toArray, List.set_cons_zero, List.set_cons_succ]
        refine wpAnyT_last (by kernel_rfl) rfl (by kernel_rfl) (fun K hK => ?_)
        go_simp
        refine hK.out _ _ ?_
        clear hK K
        refine NoPanic.normal ?_
        go_wp2
        have hn6' := set5 (a := .int .i64 2) (b := .int .i64 mp) (c := .int .i64 ms) (d := .string ⟨#[]⟩) (e := .int .i64 0) (w := w5) HN25.out
        have hF6 := (set5_fr w5 g2 (.int .i64 2) (.int .i64 mp) (.int .i64 ms) (.string ⟨#[]⟩) (.int .i64 0)).drew
        have hgb := H5.out.gbw
        have hg2w : ¬ g2 = bw := fun e => by obtain ⟨_, _, h2, _⟩ := H5.out.waits; rw [← e] at h2; have := HN25.out.symm.trans h2; cases this
        have hg2b : ¬ g2 = bg := fun e => by obtain ⟨_, _, h2, _⟩ := H5.out.got; rw [← e] at h2; have := HN25.out.symm.trans h2; cases this
        have H6 := H5.out.fr hF6 (fun e => hg2g e.symm) (fun e => hg2w e.symm) (fun e => hg2b e.symm)
        have HF6 : Fr (fun k => k = bg) w _ := HF5.out.trans' hF6 (fun _ _ h => h) (fun k hk e => by have := HG2.out; have := HG1.out; omega)
        clear hF6 hgb hg2w hg2b
        have hn6 := blk_drew hn6'
        clear hn6'
        generalize (((((w5.setCell ⟨g2, 0, none⟩ (.int .i64 2)).setCell ⟨g2, 1, none⟩ (.int .i64 mp)).setCell ⟨g2, 2, none⟩ (.int .i64 ms)).setCell ⟨g2, 3, none⟩ (.string ⟨#[]⟩)).setCell ⟨g2, 4, none⟩ (.int .i64 0)).drew = w6 at hn6 H6 HF6 ⊢
        have r0 : w6.cell? ⟨g2, 0, none⟩ = some (.int .i64 2) := blk_cell hn6 0
        have r1 : w6.cell? ⟨g2, 1, none⟩ = some (.int .i64 mp) := blk_cell hn6 1
        have r2 : w6.cell? ⟨g2, 2, none⟩ = some (.int .i64 ms) := blk_cell hn6 2
        have r3 : w6.cell? ⟨g2, 3, none⟩ = some (.string ⟨#[]⟩) := blk_cell hn6 3
        have r4 : w6.cell? ⟨g2, 4, none⟩ = some (.int .i64 0) := blk_cell hn6 4
        exact bodyPost_ret (v := .tuple #[.agg #[.int .i64 2, .int .i64 mp, .int .i64 ms, .string ⟨#[]⟩, .int .i64 0], .bool true]) (by simp [results, Try.results38, go_sem, r0, r1, r2, r3, r4]) rfl ⟨rfl, by rw [← HHAS.out]; exact H6, HF6⟩
    | true =>
      have H5 : Hid (PeerAt w4 g mp S bw bg kw (kg + 1) Dw Dg) := ⟨H4.out.box, H4.out.waits, H4.out.got.mono (Nat.le_succ _), H4.out.ne⟩
      have HF5 : Hid (Fr (fun k => k = bg) w w4) := HF4.out.none
      have HN15 := HN14
      have HN25 := HN24
      clear HN14 HN24 c0 c1 c2 c3 c4 d3 H4 HF4
      have e0 : w4.cell? ⟨g, 0, none⟩ = some (.int .i64 mp) := blk_cell H5.out.box 0
      have e2 : w4.cell? ⟨g1, 2, none⟩ = some (.int .i64 ms) := blk_cell HN15.out 2
      have z0 := blk_frozen HN25.out 0
      have z1 := blk_frozen HN25.out 1
      have z2 := blk_frozen HN25.out 2
      have z3 := blk_frozen HN25.out 3
      have z4 := blk_frozen HN25.out 4
      have q0 : w4.cell? ⟨g2, 0, none⟩ = some (.int .i64 0) := blk_cell HN25.out 0
      have q1 : w4.cell? ⟨g2, 1, none⟩ = some (.int .i64 0) := blk_cell HN25.out 1
      have q2 : w4.cell? ⟨g2, 2, none⟩ = some (.int .i64 0) := blk_cell HN25.out 2
      have q3 : w4.cell? ⟨g2, 3, none⟩ = some (.string ⟨#[]⟩) := blk_cell HN25.out 3
      have q4 : w4.cell? ⟨g2, 4, none⟩ = some (.int .i64 0) := blk_cell HN25.out 4
      have hS2 : ∀ W : World, Fr (fun k => k = g2) w4.drew W → W.cell? ⟨g, 0, none⟩ = some (.int .i64 mp) ∧ W.cell? ⟨g1, 2, none⟩ = some (.int .i64 ms) := fun W hF => ⟨hF.cell (w := w4.drew) e0 (fun e => hg2g e.symm), hF.cell (w := w4.drew) e2 hg12⟩
      have HS2 := Lib.hid hS2
      clear hS2
      go_upto_region 11 with (fail)
      refine wp_region_noPanic ?_
      refine wp_region_T (fun w' => w'.cell? ⟨g, 0, none⟩ = some (.int .i64 mp) ∧ w'.cell? ⟨g1, 2, none⟩ = some (.int .i64 ms)) 8 (by kernel_rfl) ⟨e0, e2⟩ (fun hS0 => ?_)
      refine wpAnyT_taked (i := 0) (d := 57) (v := ?_) rfl rfl (by kernel_rfl) (by kernel_rfl) (by kernel_rfl) (by kernel_rfl) rfl (fun _ _ _ h => h) (Or.inl ⟨by rfl, ?_⟩) (by assumption) ?_
      rotate_left 1
      · rintro w' ⟨hs0, hs1⟩
        go_simp
        try (with_reducible rfl)
      try simp only [Act.put, List.setIfInBounds_toArray, List.set_cons_zero, List.set_cons_succ]
      refine wpAnyT_taked (i := 1) (d := 58) (v := ?_) rfl rfl (by kernel_rfl) (by kernel_rfl) (by kernel_rfl) (by kernel_rfl) rfl (fun _ _ _ h => h) (Or.inl ⟨by rfl, ?_⟩) (by assumption) ?_
      rotate_left 1
      · rintro w' ⟨hs0, hs1⟩
        go_simp
        try (with_reducible rfl)
      try simp only [Act.put, List.setIfInBounds_toArray, List.set_cons_zero, List.set_cons_succ]
      refine wpAnyT_taked (i := 2) (d := 59) (v := ?_) rfl rfl (by kernel_rfl) (by kernel_rfl) (by kernel_rfl) (by kernel_rfl) rfl (fun _ _ _ h => h) (Or.inl ⟨by rfl, ?_⟩) (by assumption) ?_
      rotate_left 1
      · rintro w' ⟨hs0, hs1⟩
        go_simp
        try (with_reducible rfl)
      try simp only [Act.put, List.setIfInBounds_toArray, List.set_cons_zero, List.set_cons_succ]
      refine wpAnyT_taked (i := 3) (d := 60) (v := ?_) rfl rfl (by kernel_rfl) (by kernel_rfl) (by kernel_rfl) (by kernel_rfl) rfl (fun _ _ _ h => h) (Or.inl ⟨by rfl, ?_⟩) (by assumption) ?_
      rotate_left 1
      · rintro w' ⟨hs0, hs1⟩
        go_simp
        try (with_reducible rfl)
      try simp only [Act.put, List.setIfInBounds_toArray, List.set_cons_zero, List.set_cons_succ]
      refine wpAnyT_taked (i := 4) (d := 61) (v := ?_) rfl rfl (by kernel_rfl) (by kernel_rfl) (by kernel_rfl) (by kernel_rfl) rfl (fun _ _ _ h => h) (Or.inl ⟨by rfl, ?_⟩) (by assumption) ?_
      rotate_left 1
      · rintro w' ⟨hs0, hs1⟩
        go_simp
        try (with_reducible rfl)
      try simp only [Act.put, List.setIfInBounds_toArray, List.set_cons_zero, List.set_cons_succ]
      refine wpAnyT_taked (i := 5) (d := 62) (v := ?_) rfl rfl (by kernel_rfl) (by kernel_rfl) (by kernel_rfl) (by kernel_rfl) rfl (fun _ _ _ h => h) (Or.inl ⟨by rfl, ?_⟩) (by assumption) ?_
      rotate_left 1
      · rintro w' ⟨hs0, hs1⟩
        go_simp
        try (with_reducible rfl)
      try simp only [Act.put, List.setIfInBounds_toArray, List.set_cons_zero, List.set_cons_succ]
      refine wpAnyT_taked (i := 6) (d := 63) (v := ?_) rfl rfl (by kernel_rfl) (by kernel_rfl) (by kernel_rfl) (by kernel_rfl) rfl (fun _ _ _ h => h) (Or.inl ⟨by rfl, ?_⟩) (by assumption) ?_
      rotate_left 1
      · rintro w' ⟨hs0, hs1⟩
        go_simp
        try (with_reducible rfl)
      try simp only [Act.put, List.setIfInBounds_toArray, List.set_cons_zero, List.set_cons_succ]
      have hS7 := HS2.out _ (set5_fr w4.drew g2 (.int .i64 2) (.int .i64 mp) (.int .i64 ms) (.string ⟨#[]⟩) (.int .i64 0))
      refine wpAnyT_one (i := 7) (by kernel_rfl) rfl rfl (fun K hK => ?_)
      refine step_store5 (by rfl) (.tmp 4) (.tmp 63) (by rfl) g2 (.int .i64 0) (.int .i64 0) (.int .i64 0) (.string ⟨#[]⟩) (.int .i64 0) 2 mp ms 0 ⟨#[]⟩ (by rfl) (by rfl) HN25.out ?_
      refine hK.out _ _ hS7 ?_
      clear hK K hS0
      try simp only [Act.put, List.setIfInBounds_toArray, List.set_cons_zero, List.set_cons_succ]
      refine wpAnyT_last (by kernel_rfl) rfl (by kernel_rfl) (fun K hK => ?_)
      go_simp
      refine hK.out _ _ ?_
      clear hK K
      refine NoPanic.normal ?_
      go_wp2
      have hn6' := set5 (a := .int .i64 2) (b := .int .i64 mp) (c := .int .i64 ms) (d := .string ⟨#[]⟩) (e := .int .i64 0) (w := w4) HN25.out
      have hF6 := (set5_fr w4 g2 (.int .i64 2) (.int .i64 mp) (.int .i64 ms) (.string ⟨#[]⟩) (.int .i64 0)).drew
      have hgb := H5.out.gbw
      have hg2w : ¬ g2 = bw := fun e => by obtain ⟨_, _, h2, _⟩ := H5.out.waits; rw [← e] at h2; have := HN25.out.symm.trans h2; cases this
      have hg2b : ¬ g2 = bg := fun e => by obtain ⟨_, _, h2, _⟩ := H5.out.got; rw [← e] at h2; have := HN25.out.symm.trans h2; cases this
      have H6 := H5.out.fr hF6 (fun e => hg2g e.symm) (fun e => hg2w e.symm) (fun e => hg2b e.symm)
      have HF6 : Fr (fun k => k = bg) w _ := HF5.out.trans' hF6 (fun _ _ h => h) (fun k hk e => by have := HG2.out; have := HG1.out; omega)
      clear hF6 hgb hg2w hg2b
      have hn6 := blk_drew hn6'
      clear hn6'
      generalize (((((w4.setCell ⟨g2, 0, none⟩ (.int .i64 2)).setCell ⟨g2, 1, none⟩ (.int .i64 mp)).setCell ⟨g2, 2, none⟩ (.int .i64 ms)).setCell ⟨g2, 3, none⟩ (.string ⟨#[]⟩)).setCell ⟨g2, 4, none⟩ (.int .i64 0)).drew = w6 at hn6 H6 HF6 ⊢
      have r0 : w6.cell? ⟨g2, 0, none⟩ = some (.int .i64 2) := blk_cell hn6 0
      have r1 : w6.cell? ⟨g2, 1, none⟩ = some (.int .i64 mp) := blk_cell hn6 1
      have r2 : w6.cell? ⟨g2, 2, none⟩ = some (.int .i64 ms) := blk_cell hn6 2
      have r3 : w6.cell? ⟨g2, 3, none⟩ = some (.string ⟨#[]⟩) := blk_cell hn6 3
      have r4 : w6.cell? ⟨g2, 4, none⟩ = some (.int .i64 0) := blk_cell hn6 4
      exact bodyPost_ret (v := .tuple #[.agg #[.int .i64 2, .int .i64 mp, .int .i64 ms, .string ⟨#[]⟩, .int .i64 0], .bool true]) (by simp [results, Try.results38, go_sem, r0, r1, r2, r3, r4]) rfl ⟨rfl, by rw [← HHAS.out]; exact H6, HF6⟩
end Go.Proofs.Ytedmhhllkkgbjaa
