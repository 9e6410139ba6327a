/- DiskRuns' walk. PRINTED by genF8.py. -/
import Derived.Test.YtdamegjhdopfaaaF7
namespace Go.Proofs.Ytdamegjhdopfaaa
open Go.RowKit Go.WideShapes
set_option linter.unusedSimpArgs false
set_option linter.unusedVariables false

section
variable {P : Program} {ops : Array Oper} {Q : Exit → Act → World → Prop} {md : Region.Mode} {S S2 : World → Prop}
theorem wpAnyH_mono (hS : ∀ w, S2 w → S w) : ∀ (fuel : Nat) (listed : Array Bool) (a : Act) (w : World), wpAnyH P md ops Q S2 fuel listed a w → wpAnyH P md ops Q S fuel listed a w
  | 0, _, _, _, h => h
  | fuel + 1, _, _, _, h => ⟨h.1, fun i hi => wpOp_mono (fun a' w' h' => ⟨hS _ h'.1, wpAnyH_mono hS fuel _ _ _ h'.2⟩) (h.2 i hi)⟩
theorem wpAnyH_one {i : Nat} {o : Oper} {fuel : Nat} {listed : Array Bool} {a : Act} {w : World} (hr : Region.ready md ops listed = [i]) (ho : ops[i]? = some o)
    (h : ∀ K' : Act → World → Prop, Shut (∀ a w, S w → wpAnyH P md ops Q S fuel (listed.setIfInBounds i true) a w → K' a w) → if Region.wanted o (yielded ops a.tmps) = true then Oper.wp P o a w K' Q else K' (a.put o.dst undef) w) :
    wpAnyH P md ops Q S (fuel + 1) listed a w := by
  refine ⟨fun h0 => absurd (hr.symm.trans h0) (by simp), fun j hj => ?_⟩
  rw [hr] at hj
  obtain rfl := List.mem_singleton.1 hj
  exact wpOp_step ho (fun K' hK => h K' (fun a w hS hW => hK a w ⟨hS, hW⟩))
theorem wpAnyH_taked {i d : Nat} {oi : Oper} {v : Value} {fuel : Nat} {listed : Array Bool} {a : Act} {w : World} (hi : ops[i]? = some oi) (hd : oi.dst = some d)
    (hs : Region.noSelect ops = true) (hf : Region.free md ops listed i = true) (hr : (Region.ready md ops listed).contains i = true)
    (hQ : ∀ c a w, Q (.panic c) (a.put (some d) v) w → Q (.panic c) a w) (hy : YieldsIf P ops S oi v a) (hS : S w)
    (h : wpAnyH P md ops Q S fuel (listed.setIfInBounds i true) (a.put (some d) v) w) : wpAnyH P md ops Q S (fuel + 1) listed a w :=
  wpAnyH_take hi hs hf hr (fun c a w => by rw [hd]; exact hQ c a w) hy hS (by rw [hd]; exact h)
end

set_option maxRecDepth 100000 in
set_option maxHeartbeats 8000000 in
theorem runs_any (n : Int) (A : Option Addr) (c : Nat) (os : List OpD) (w : World) (hl : os.length ≤ maxLen) (hR : ReadOps2 w A os) :
    Calls Try.prog 8 #[.int .i64 n, .slice A os.length c] w (fun e w' => e = .returned (.bool true) ∧ Fr (fun _ => False) w w') := by
  have HR := Lib.hid hR
  clear hR
  go_enter Try.func8, Try.ntmps8
  go_wp2_with fail
  refine (awake_disk w).mono ?_
  rintro e w1 ⟨rfl, hF1⟩
  have HF1 := Lib.hid hF1
  clear hF1
  by_cases h12 : 12 < n
  · by_cases h96 : n ≤ 4096
    · have hnew : Calls Try.prog 16 #[.int .i64 (12 : Nat)] w1 (NewPost w1 12) := new_any w1 12 (by omega) (by omega)
      have HNEW := Lib.hid hnew
      have HRN : Hid (∀ W : World, Calls Try.prog 17 #[.int .i64 (12 : Nat)] W (RNewPost W 12)) := fun W => rnew_any W 12 (by omega) (by omega)
      clear hnew
      go_wp2_with fail
      refine HNEW.out.mono ?_
      rintro e w2 ⟨g, T0, rfl, hat, hF2, hg, hT0⟩
      have HAT := Lib.hid hat
      have HF2 := Lib.hid hF2
      have HT0 := Lib.hid hT0
      clear hat hF2 hg hT0
      go_wp2_with fail
      refine (HRN.out w2).mono ?_
      rintro e w3 ⟨gr, TR0, rfl, hat3, hF3, hg3, hT3⟩
      have hdb := db_new HF1.out HF2.out HAT.out HT0.out hat3 hF3 hT3
      obtain ⟨w4, he, hn4, hF4, hs4⟩ := alloc1 w3 (.cells #[.pointer (some ⟨g, 0, none⟩), .pointer (some ⟨gr, 0, none⟩)] 67)
      obtain ⟨x, hx⟩ : ∃ x, x = w3.heap.size := ⟨_, rfl⟩
      rw [← hx] at hn4
      have I0 : Hid (Bx w w4 x 0) := ⟨g, gr, T0, TR0, _, hdb.fr0 hF4, hn4, fun h => by have := hdb.a.lt x h; omega, fun h => by have := hdb.b.lt x h; omega, by have := hdb.fr.size; omega⟩
      clear hat3 hF3 hg3 hT3 HAT HF2 HT0 HNEW HRN HF1 hdb hn4 hF4 hs4
      go_upto_region 12 with fail
      try rw [he]
      rw [← hx]
      clear he hx
      go_wp2_with fail
      go_loopw [10] (fun k wr => ∃ i : Nat, i ≤ os.length ∧ i ≤ 40 ∧ k = .int .i64 i ∧ Hid (Bx w wr x (2 * i))) (fun k _ => 40 - (intOf k).toNat)
      case atStart => exact ⟨0, by omega, by omega, rfl, I0⟩
      case round =>
        clear I0
        obtain ⟨i, hi, hi40, rfl, HI⟩ := hrel
        by_cases hlt : i < os.length ∧ i < 40
        · obtain ⟨hlt, hlt4⟩ := hlt
          have hii : (i : Int) < os.length := by omega
          have hi4 : (i : Int) < 40 := by omega
          obtain ⟨o, ho⟩ : ∃ o, os[i]? = some o := ⟨_, List.getElem?_eq_getElem hlt⟩
          obtain ⟨⟨qg, qf, rfl, hoc⟩, how⟩ := HR.out i o ho
          have hst := fun (W : World) (hW : Fr (fun _ => False) wr W) => step_any (HI.out.fr0 hW) (by omega) o how
          have hz : ∀ W : World, Fr (fun q => w.heap.size ≤ q) w W → W.cell? ⟨qg, qf + i * 8, none⟩ = some (.int .i64 o.kind) ∧ W.cell? ⟨qg, qf + i * 8 + 1, none⟩ = some (.int .i64 o.at') ∧ W.cell? ⟨qg, qf + i * 8 + 2, none⟩ = some (.slice o.bA o.b.length o.bc) ∧ W.cell? ⟨qg, qf + i * 8 + 3, none⟩ = some (.bool o.wh) ∧ W.cell? ⟨qg, qf + i * 8 + 4, none⟩ = some (.int .i64 o.n) ∧ W.cell? ⟨qg, qf + i * 8 + 5, none⟩ = some (.int .i64 o.pl) ∧ W.cell? ⟨qg, qf + i * 8 + 6, none⟩ = some (.int .u8 o.mask) ∧ W.cell? ⟨qg, qf + i * 8 + 7, none⟩ = some (.slice o.fA o.fn o.fc) := fun W hW => by
            have h := hW.toBelow
            exact ⟨h.cell0 (hoc 0 _ rfl), h.cell0 (hoc 1 _ rfl), h.cell0 (hoc 2 _ rfl), h.cell0 (hoc 3 _ rfl), h.cell0 (hoc 4 _ rfl), h.cell0 (hoc 5 _ rfl), h.cell0 (hoc 6 _ rfl), h.cell0 (hoc 7 _ rfl)⟩
          have hargs : o.cells.toArray = #[.int .i64 o.kind, .int .i64 o.at', .slice o.bA o.b.length o.bc, .bool o.wh, .int .i64 o.n, .int .i64 o.pl, .int .u8 o.mask, .slice o.fA o.fn o.fc] := rfl
          simp only [hargs] at hst
          obtain ⟨ok, oat, obA, obc, ob, owh, onn, opl, omk, ofA, ofn, ofc⟩ := o
          simp only at hst hz
          have HST := Lib.hid hst
          have HZ := Lib.hid hz
          have HS : Hid (∀ W : World, Fr (fun _ => False) wr W → W.cell? ⟨qg, qf + i * 8, none⟩ = some (.int .i64 ok) ∧ W.cell? ⟨qg, qf + i * 8 + 1, none⟩ = some (.int .i64 oat) ∧ W.cell? ⟨qg, qf + i * 8 + 2, none⟩ = some (.slice obA ob.length obc) ∧ W.cell? ⟨qg, qf + i * 8 + 3, none⟩ = some (.bool owh) ∧ W.cell? ⟨qg, qf + i * 8 + 4, none⟩ = some (.int .i64 onn) ∧ W.cell? ⟨qg, qf + i * 8 + 5, none⟩ = some (.int .i64 opl) ∧ W.cell? ⟨qg, qf + i * 8 + 6, none⟩ = some (.int .u8 omk) ∧ W.cell? ⟨qg, qf + i * 8 + 7, none⟩ = some (.slice ofA ofn ofc)) := fun W hW => by
            obtain ⟨g0, gr0, T0, TR0, d0, hdb0, _⟩ := HI.out
            exact HZ.out W (hdb0.fr.trans hW (fun _ _ h => h.elim))
          clear ho hoc how hst hz hargs
          go_upto_region 15 with (fail)
          refine wp_region_held_drew (S := fun W => W.cell? ⟨qg, qf + i * 8, none⟩ = some (.int .i64 ok) ∧ W.cell? ⟨qg, qf + i * 8 + 1, none⟩ = some (.int .i64 oat) ∧ W.cell? ⟨qg, qf + i * 8 + 2, none⟩ = some (.slice obA ob.length obc) ∧ W.cell? ⟨qg, qf + i * 8 + 3, none⟩ = some (.bool owh) ∧ W.cell? ⟨qg, qf + i * 8 + 4, none⟩ = some (.int .i64 onn) ∧ W.cell? ⟨qg, qf + i * 8 + 5, none⟩ = some (.int .i64 opl) ∧ W.cell? ⟨qg, qf + i * 8 + 6, none⟩ = some (.int .u8 omk) ∧ W.cell? ⟨qg, qf + i * 8 + 7, none⟩ = some (.slice ofA ofn ofc)) (by kernel_rfl) (HS.out _ (Fr.refl _ _).drew) (fun hS0 => ?_)
          refine wpAnyH_taked (i := 0) (d := 55) (v := ?_) rfl rfl (by kernel_rfl) (by kernel_rfl) (by kernel_rfl) (fun _ _ _ h => h) (Or.inl ⟨by rfl, ?_⟩) (by assumption) ?_
          rotate_left 1
          · rintro w' ⟨hs0, hs1, hs2, hs3, hs4, hs5, hs6, hs7⟩
            go_simp
            try (with_reducible rfl)
          try simp only [Act.put, List.setIfInBounds_toArray, List.set_cons_zero, List.set_cons_succ]
          refine wpAnyH_taked (i := 1) (d := 56) (v := ?_) rfl rfl (by kernel_rfl) (by kernel_rfl) (by kernel_rfl) (fun _ _ _ h => h) (Or.inl ⟨by rfl, ?_⟩) (by assumption) ?_
          rotate_left 1
          · rintro w' ⟨hs0, hs1, hs2, hs3, hs4, hs5, hs6, hs7⟩
            go_simp
            try (with_reducible rfl)
          try simp only [Act.put, List.setIfInBounds_toArray, List.set_cons_zero, List.set_cons_succ]
          refine wpAnyH_taked (i := 2) (d := 57) (v := ?_) rfl rfl (by kernel_rfl) (by kernel_rfl) (by kernel_rfl) (fun _ _ _ h => h) (Or.inl ⟨by rfl, ?_⟩) (by assumption) ?_
          rotate_left 1
          · rintro w' ⟨hs0, hs1, hs2, hs3, hs4, hs5, hs6, hs7⟩
            go_simp
            try (with_reducible rfl)
          try simp only [Act.put, List.setIfInBounds_toArray, List.set_cons_zero, List.set_cons_succ]
          refine wpAnyH_taked (i := 3) (d := 58) (v := ?_) rfl rfl (by kernel_rfl) (by kernel_rfl) (by kernel_rfl) (fun _ _ _ h => h) (Or.inl ⟨by rfl, ?_⟩) (by assumption) ?_
          rotate_left 1
          · rintro w' ⟨hs0, hs1, hs2, hs3, hs4, hs5, hs6, hs7⟩
            go_simp
            try (with_reducible rfl)
          try simp only [Act.put, List.setIfInBounds_toArray, List.set_cons_zero, List.set_cons_succ]
          refine wpAnyH_taked (i := 4) (d := 59) (v := ?_) rfl rfl (by kernel_rfl) (by kernel_rfl) (by kernel_rfl) (fun _ _ _ h => h) (Or.inl ⟨by rfl, ?_⟩) (by assumption) ?_
          rotate_left 1
          · rintro w' ⟨hs0, hs1, hs2, hs3, hs4, hs5, hs6, hs7⟩
            go_simp
            try (with_reducible rfl)
          try simp only [Act.put, List.setIfInBounds_toArray, List.set_cons_zero, List.set_cons_succ]
          refine wpAnyH_one (i := 5) (by kernel_rfl) rfl (fun K hK => ?_)
          go_simp
          refine (HST.out _ (Fr.refl _ _).drew).mono ?_
          rintro e wn ⟨rfl, hbx⟩
          obtain ⟨g2, gr2, T2, TR2, d2, hdb2, hbox2, hx2⟩ := hbx
          have hz := HZ.out _ hdb2.fr
          have x0 : wn.cell? ⟨x, 0, none⟩ = some (.pointer (some ⟨g2, 0, none⟩)) := blk_cell hbox2 0
          have x1 : wn.cell? ⟨x, 1, none⟩ = some (.pointer (some ⟨gr2, 0, none⟩)) := blk_cell hbox2 1
          have hS2 : (fun W : World => W.cell? ⟨x, 0, none⟩ = some (.pointer (some ⟨g2, 0, none⟩)) ∧ W.cell? ⟨x, 1, none⟩ = some (.pointer (some ⟨gr2, 0, none⟩)) ∧ W.cell? ⟨qg, qf + i * 8, none⟩ = some (.int .i64 ok) ∧ W.cell? ⟨qg, qf + i * 8 + 1, none⟩ = some (.int .i64 oat) ∧ W.cell? ⟨qg, qf + i * 8 + 2, none⟩ = some (.slice obA ob.length obc) ∧ W.cell? ⟨qg, qf + i * 8 + 3, none⟩ = some (.bool owh) ∧ W.cell? ⟨qg, qf + i * 8 + 4, none⟩ = some (.int .i64 onn) ∧ W.cell? ⟨qg, qf + i * 8 + 5, none⟩ = some (.int .i64 opl) ∧ W.cell? ⟨qg, qf + i * 8 + 6, none⟩ = some (.int .u8 omk) ∧ W.cell? ⟨qg, qf + i * 8 + 7, none⟩ = some (.slice ofA ofn ofc)) wn := ⟨x0, x1, hz⟩
          have HS2 : Hid (∀ W : World, Fr (fun _ => False) wn W → W.cell? ⟨x, 0, none⟩ = some (.pointer (some ⟨g2, 0, none⟩)) ∧ W.cell? ⟨x, 1, none⟩ = some (.pointer (some ⟨gr2, 0, none⟩)) ∧ W.cell? ⟨qg, qf + i * 8, none⟩ = some (.int .i64 ok) ∧ W.cell? ⟨qg, qf + i * 8 + 1, none⟩ = some (.int .i64 oat) ∧ W.cell? ⟨qg, qf + i * 8 + 2, none⟩ = some (.slice obA ob.length obc) ∧ W.cell? ⟨qg, qf + i * 8 + 3, none⟩ = some (.bool owh) ∧ W.cell? ⟨qg, qf + i * 8 + 4, none⟩ = some (.int .i64 onn) ∧ W.cell? ⟨qg, qf + i * 8 + 5, none⟩ = some (.int .i64 opl) ∧ W.cell? ⟨qg, qf + i * 8 + 6, none⟩ = some (.int .u8 omk) ∧ W.cell? ⟨qg, qf + i * 8 + 7, none⟩ = some (.slice ofA ofn ofc)) := fun W hW => ⟨hW.cell0 x0, hW.cell0 x1, HZ.out _ (hdb2.fr.trans hW (fun _ _ h => h.elim))⟩
          have HDB2 := Lib.hid hdb2
          have HBX2 : Hid (Bx w wn x (2 * i + 2)) := ⟨g2, gr2, T2, TR2, d2, hdb2, hbox2, hx2⟩
          clear hdb2 hbox2 hx2 hS0 x0 x1
          go_wp2_with fail
          refine hK.out _ _ hz ?_
          clear hK K hz
          try simp only [Act.put, List.setIfInBounds_toArray, List.set_cons_zero, List.set_cons_succ]
          refine wpAnyH_mono (S2 := fun W => W.cell? ⟨x, 0, none⟩ = some (.pointer (some ⟨g2, 0, none⟩)) ∧ W.cell? ⟨x, 1, none⟩ = some (.pointer (some ⟨gr2, 0, none⟩)) ∧ W.cell? ⟨qg, qf + i * 8, none⟩ = some (.int .i64 ok) ∧ W.cell? ⟨qg, qf + i * 8 + 1, none⟩ = some (.int .i64 oat) ∧ W.cell? ⟨qg, qf + i * 8 + 2, none⟩ = some (.slice obA ob.length obc) ∧ W.cell? ⟨qg, qf + i * 8 + 3, none⟩ = some (.bool owh) ∧ W.cell? ⟨qg, qf + i * 8 + 4, none⟩ = some (.int .i64 onn) ∧ W.cell? ⟨qg, qf + i * 8 + 5, none⟩ = some (.int .i64 opl) ∧ W.cell? ⟨qg, qf + i * 8 + 6, none⟩ = some (.int .u8 omk) ∧ W.cell? ⟨qg, qf + i * 8 + 7, none⟩ = some (.slice ofA ofn ofc)) (fun W h => h.2.2) _ _ _ _ ?_
          refine wpAnyH_taked (i := 6) (d := 61) (v := ?_) rfl rfl (by kernel_rfl) (by kernel_rfl) (by kernel_rfl) (fun _ _ _ h => h) (Or.inl ⟨by rfl, ?_⟩) (by assumption) ?_
          rotate_left 1
          · rintro w' ⟨hx0, hx1, hs0, hs1, hs2, hs3, hs4, hs5, hs6, hs7⟩
            go_simp
            try (with_reducible rfl)
          try simp only [Act.put, List.setIfInBounds_toArray, List.set_cons_zero, List.set_cons_succ]
          refine wpAnyH_taked (i := 7) (d := 62) (v := ?_) rfl rfl (by kernel_rfl) (by kernel_rfl) (by kernel_rfl) (fun _ _ _ h => h) (Or.inl ⟨by rfl, ?_⟩) (by assumption) ?_
          rotate_left 1
          · rintro w' ⟨hx0, hx1, hs0, hs1, hs2, hs3, hs4, hs5, hs6, hs7⟩
            go_simp
            try (with_reducible rfl)
          try simp only [Act.put, List.setIfInBounds_toArray, List.set_cons_zero, List.set_cons_succ]
          refine wpAnyH_taked (i := 8) (d := 63) (v := ?_) rfl rfl (by kernel_rfl) (by kernel_rfl) (by kernel_rfl) (fun _ _ _ h => h) (Or.inl ⟨by rfl, ?_⟩) (by assumption) ?_
          rotate_left 1
          · rintro w' ⟨hx0, hx1, hs0, hs1, hs2, hs3, hs4, hs5, hs6, hs7⟩
            go_simp
            try (with_reducible rfl)
          try simp only [Act.put, List.setIfInBounds_toArray, List.set_cons_zero, List.set_cons_succ]
          refine wpAnyH_taked (i := 9) (d := 64) (v := ?_) rfl rfl (by kernel_rfl) (by kernel_rfl) (by kernel_rfl) (fun _ _ _ h => h) (Or.inl ⟨by rfl, ?_⟩) (by assumption) ?_
          rotate_left 1
          · rintro w' ⟨hx0, hx1, hs0, hs1, hs2, hs3, hs4, hs5, hs6, hs7⟩
            go_simp
            try (with_reducible rfl)
          try simp only [Act.put, List.setIfInBounds_toArray, List.set_cons_zero, List.set_cons_succ]
          refine wpAnyH_taked (i := 10) (d := 65) (v := ?_) rfl rfl (by kernel_rfl) (by kernel_rfl) (by kernel_rfl) (fun _ _ _ h => h) (Or.inl ⟨by rfl, ?_⟩) (by assumption) ?_
          rotate_left 1
          · rintro w' ⟨hx0, hx1, hs0, hs1, hs2, hs3, hs4, hs5, hs6, hs7⟩
            go_simp
            try (with_reducible rfl)
          try simp only [Act.put, List.setIfInBounds_toArray, List.set_cons_zero, List.set_cons_succ]
          refine wpAnyH_taked (i := 11) (d := 66) (v := ?_) rfl rfl (by kernel_rfl) (by kernel_rfl) (by kernel_rfl) (fun _ _ _ h => h) (Or.inl ⟨by rfl, ?_⟩) (by assumption) ?_
          rotate_left 1
          · rintro w' ⟨hx0, hx1, hs0, hs1, hs2, hs3, hs4, hs5, hs6, hs7⟩
            go_simp
            try (with_reducible rfl)
          try simp only [Act.put, List.setIfInBounds_toArray, List.set_cons_zero, List.set_cons_succ]
          refine wpAnyH_taked (i := 12) (d := 67) (v := ?_) rfl rfl (by kernel_rfl) (by kernel_rfl) (by kernel_rfl) (fun _ _ _ h => h) (Or.inl ⟨by rfl, ?_⟩) (by assumption) ?_
          rotate_left 1
          · rintro w' ⟨hx0, hx1, hs0, hs1, hs2, hs3, hs4, hs5, hs6, hs7⟩
            go_simp
            try (with_reducible rfl)
          try simp only [Act.put, List.setIfInBounds_toArray, List.set_cons_zero, List.set_cons_succ]
          refine wpAnyH_taked (i := 13) (d := 68) (v := ?_) rfl rfl (by kernel_rfl) (by kernel_rfl) (by kernel_rfl) (fun _ _ _ h => h) (Or.inl ⟨by rfl, ?_⟩) (by assumption) ?_
          rotate_left 1
          · rintro w' ⟨hx0, hx1, hs0, hs1, hs2, hs3, hs4, hs5, hs6, hs7⟩
            go_simp
            try (with_reducible rfl)
          try simp only [Act.put, List.setIfInBounds_toArray, List.set_cons_zero, List.set_cons_succ]
          refine wpAnyH_taked (i := 14) (d := 69) (v := ?_) rfl rfl (by kernel_rfl) (by kernel_rfl) (by kernel_rfl) (fun _ _ _ h => h) (Or.inl ⟨by rfl, ?_⟩) (by assumption) ?_
          rotate_left 1
          · rintro w' ⟨hx0, hx1, hs0, hs1, hs2, hs3, hs4, hs5, hs6, hs7⟩
            go_simp
            try (with_reducible rfl)
          try simp only [Act.put, List.setIfInBounds_toArray, List.set_cons_zero, List.set_cons_succ]
          refine wpAnyH_taked (i := 15) (d := 70) (v := ?_) rfl rfl (by kernel_rfl) (by kernel_rfl) (by kernel_rfl) (fun _ _ _ h => h) (Or.inl ⟨by rfl, ?_⟩) (by assumption) ?_
          rotate_left 1
          · rintro w' ⟨hx0, hx1, hs0, hs1, hs2, hs3, hs4, hs5, hs6, hs7⟩
            go_simp
            try (with_reducible rfl)
          try simp only [Act.put, List.setIfInBounds_toArray, List.set_cons_zero, List.set_cons_succ]
          refine wpAnyH_one (i := 16) (by kernel_rfl) rfl (fun K hK => ?_)
          go_simp
          refine (same_any HDB2.out.a HDB2.out.b (by have := HDB2.out.puts; omega)).mono ?_
          rintro e wm ⟨rfl, hf⟩
          have hS3 := HS2.out wm hf
          have HBX3 := Lib.hid (HBX2.out.fr0 hf)
          clear hf hS2
          go_wp2_with fail
          refine hK.out _ _ hS3 ?_
          clear hK K
          try simp only [Act.put, List.setIfInBounds_toArray, List.set_cons_zero, List.set_cons_succ]
          refine wpAnyH_taked (i := 17) (d := 72) (v := ?_) rfl rfl (by kernel_rfl) (by kernel_rfl) (by kernel_rfl) (fun _ _ _ h => h) (Or.inl ⟨by rfl, ?_⟩) (by assumption) ?_
          rotate_left 1
          · rintro w' ⟨hx0, hx1, hs0, hs1, hs2, hs3, hs4, hs5, hs6, hs7⟩
            go_simp
            try (with_reducible rfl)
          try simp only [Act.put, List.setIfInBounds_toArray, List.set_cons_zero, List.set_cons_succ]
          refine wpAnyH_taked (i := 18) (d := 73) (v := ?_) rfl rfl (by kernel_rfl) (by kernel_rfl) (by kernel_rfl) (fun _ _ _ h => h) (Or.inl ⟨by rfl, ?_⟩) (by assumption) ?_
          rotate_left 1
          · rintro w' ⟨hx0, hx1, hs0, hs1, hs2, hs3, hs4, hs5, hs6, hs7⟩
            go_simp
            try (with_reducible rfl)
          try simp only [Act.put, List.setIfInBounds_toArray, List.set_cons_zero, List.set_cons_succ]
          refine wpAnyH_done (by kernel_rfl) ?_ _
          clear hS3
          have HN : Hid (Bx w wm x (2 * (i + 1))) := HBX3.out.mono (by omega)
          go_wp2_with fail
          exact ⟨⟨i + 1, by omega, by omega, by go_num, HN⟩, by simp [intOf]; omega⟩
        · have HE : Hid (Fr (fun _ => False) w wr) := (by obtain ⟨g0, gr0, T0, TR0, d0, hdb0, _⟩ := HI.out; exact hdb0.fr.toBelow : Fr (fun _ => False) w wr)
          by_cases hl1 : i < os.length
          · have hl2 : (i : Int) < os.length := by omega
            have hl3 : ¬ (i : Int) < 40 := by omega
            go_wp2_with fail
            go_ret
            exact ⟨rfl, HE.out⟩
          · have hl2 : ¬ (i : Int) < os.length := by omega
            go_wp2_with fail
            go_ret
            exact ⟨rfl, HE.out⟩
    · have HNB : n < 1 ∨ 4096 < n := .inr (by omega)
      have HNEW := Lib.hid (new_bad w1 n HNB)
      have HRN := Lib.hid (rnew_bad w1 n HNB)
      clear HNB
      go_wp2_with fail
      refine HNEW.out.mono ?_
      rintro e w2 ⟨rfl, rfl⟩
      go_wp2_with fail
      refine HRN.out.mono ?_
      rintro e w3 ⟨rfl, rfl⟩
      go_wp2_with fail
      go_ret
      exact ⟨rfl, HF1.out⟩
  · by_cases h1 : n < 1
    · have HNB : n < 1 ∨ 4096 < n := .inl h1
      have HNEW := Lib.hid (new_bad w1 n HNB)
      have HRN := Lib.hid (rnew_bad w1 n HNB)
      clear HNB
      go_wp2_with fail
      refine HNEW.out.mono ?_
      rintro e w2 ⟨rfl, rfl⟩
      go_wp2_with fail
      refine HRN.out.mono ?_
      rintro e w3 ⟨rfl, rfl⟩
      go_wp2_with fail
      go_ret
      exact ⟨rfl, HF1.out⟩
    · obtain ⟨m, rfl⟩ := Int.eq_ofNat_of_zero_le (show 0 ≤ n by omega)
      have hm1 : 1 ≤ m := by omega
      have hm2 : m ≤ 4096 := by omega
      have hnew : Calls Try.prog 16 #[.int .i64 (m : Nat)] w1 (NewPost w1 m) := new_any w1 m (by omega) (by omega)
      have HNEW := Lib.hid hnew
      have HRN : Hid (∀ W : World, Calls Try.prog 17 #[.int .i64 (m : Nat)] W (RNewPost W m)) := fun W => rnew_any W m (by omega) (by omega)
      clear hnew
      go_wp2_with fail
      refine HNEW.out.mono ?_
      rintro e w2 ⟨g, T0, rfl, hat, hF2, hg, hT0⟩
      have HAT := Lib.hid hat
      have HF2 := Lib.hid hF2
      have HT0 := Lib.hid hT0
      clear hat hF2 hg hT0
      go_wp2_with fail
      refine (HRN.out w2).mono ?_
      rintro e w3 ⟨gr, TR0, rfl, hat3, hF3, hg3, hT3⟩
      have hdb := db_new HF1.out HF2.out HAT.out HT0.out hat3 hF3 hT3
      obtain ⟨w4, he, hn4, hF4, hs4⟩ := alloc1 w3 (.cells #[.pointer (some ⟨g, 0, none⟩), .pointer (some ⟨gr, 0, none⟩)] 67)
      obtain ⟨x, hx⟩ : ∃ x, x = w3.heap.size := ⟨_, rfl⟩
      rw [← hx] at hn4
      have I0 : Hid (Bx w w4 x 0) := ⟨g, gr, T0, TR0, _, hdb.fr0 hF4, hn4, fun h => by have := hdb.a.lt x h; omega, fun h => by have := hdb.b.lt x h; omega, by have := hdb.fr.size; omega⟩
      clear hat3 hF3 hg3 hT3 HAT HF2 HT0 HNEW HRN HF1 hdb hn4 hF4 hs4
      go_upto_region 12 with fail
      try rw [he]
      rw [← hx]
      clear he hx
      go_wp2_with fail
      go_loopw [10] (fun k wr => ∃ i : Nat, i ≤ os.length ∧ i ≤ 40 ∧ k = .int .i64 i ∧ Hid (Bx w wr x (2 * i))) (fun k _ => 40 - (intOf k).toNat)
      case atStart => exact ⟨0, by omega, by omega, rfl, I0⟩
      case round =>
        clear I0
        obtain ⟨i, hi, hi40, rfl, HI⟩ := hrel
        by_cases hlt : i < os.length ∧ i < 40
        · obtain ⟨hlt, hlt4⟩ := hlt
          have hii : (i : Int) < os.length := by omega
          have hi4 : (i : Int) < 40 := by omega
          obtain ⟨o, ho⟩ : ∃ o, os[i]? = some o := ⟨_, List.getElem?_eq_getElem hlt⟩
          obtain ⟨⟨qg, qf, rfl, hoc⟩, how⟩ := HR.out i o ho
          have hst := fun (W : World) (hW : Fr (fun _ => False) wr W) => step_any (HI.out.fr0 hW) (by omega) o how
          have hz : ∀ W : World, Fr (fun q => w.heap.size ≤ q) w W → W.cell? ⟨qg, qf + i * 8, none⟩ = some (.int .i64 o.kind) ∧ W.cell? ⟨qg, qf + i * 8 + 1, none⟩ = some (.int .i64 o.at') ∧ W.cell? ⟨qg, qf + i * 8 + 2, none⟩ = some (.slice o.bA o.b.length o.bc) ∧ W.cell? ⟨qg, qf + i * 8 + 3, none⟩ = some (.bool o.wh) ∧ W.cell? ⟨qg, qf + i * 8 + 4, none⟩ = some (.int .i64 o.n) ∧ W.cell? ⟨qg, qf + i * 8 + 5, none⟩ = some (.int .i64 o.pl) ∧ W.cell? ⟨qg, qf + i * 8 + 6, none⟩ = some (.int .u8 o.mask) ∧ W.cell? ⟨qg, qf + i * 8 + 7, none⟩ = some (.slice o.fA o.fn o.fc) := fun W hW => by
            have h := hW.toBelow
            exact ⟨h.cell0 (hoc 0 _ rfl), h.cell0 (hoc 1 _ rfl), h.cell0 (hoc 2 _ rfl), h.cell0 (hoc 3 _ rfl), h.cell0 (hoc 4 _ rfl), h.cell0 (hoc 5 _ rfl), h.cell0 (hoc 6 _ rfl), h.cell0 (hoc 7 _ rfl)⟩
          have hargs : o.cells.toArray = #[.int .i64 o.kind, .int .i64 o.at', .slice o.bA o.b.length o.bc, .bool o.wh, .int .i64 o.n, .int .i64 o.pl, .int .u8 o.mask, .slice o.fA o.fn o.fc] := rfl
          simp only [hargs] at hst
          obtain ⟨ok, oat, obA, obc, ob, owh, onn, opl, omk, ofA, ofn, ofc⟩ := o
          simp only at hst hz
          have HST := Lib.hid hst
          have HZ := Lib.hid hz
          have HS : Hid (∀ W : World, Fr (fun _ => False) wr W → W.cell? ⟨qg, qf + i * 8, none⟩ = some (.int .i64 ok) ∧ W.cell? ⟨qg, qf + i * 8 + 1, none⟩ = some (.int .i64 oat) ∧ W.cell? ⟨qg, qf + i * 8 + 2, none⟩ = some (.slice obA ob.length obc) ∧ W.cell? ⟨qg, qf + i * 8 + 3, none⟩ = some (.bool owh) ∧ W.cell? ⟨qg, qf + i * 8 + 4, none⟩ = some (.int .i64 onn) ∧ W.cell? ⟨qg, qf + i * 8 + 5, none⟩ = some (.int .i64 opl) ∧ W.cell? ⟨qg, qf + i * 8 + 6, none⟩ = some (.int .u8 omk) ∧ W.cell? ⟨qg, qf + i * 8 + 7, none⟩ = some (.slice ofA ofn ofc)) := fun W hW => by
            obtain ⟨g0, gr0, T0, TR0, d0, hdb0, _⟩ := HI.out
            exact HZ.out W (hdb0.fr.trans hW (fun _ _ h => h.elim))
          clear ho hoc how hst hz hargs
          go_upto_region 15 with (fail)
          refine wp_region_held_drew (S := fun W => W.cell? ⟨qg, qf + i * 8, none⟩ = some (.int .i64 ok) ∧ W.cell? ⟨qg, qf + i * 8 + 1, none⟩ = some (.int .i64 oat) ∧ W.cell? ⟨qg, qf + i * 8 + 2, none⟩ = some (.slice obA ob.length obc) ∧ W.cell? ⟨qg, qf + i * 8 + 3, none⟩ = some (.bool owh) ∧ W.cell? ⟨qg, qf + i * 8 + 4, none⟩ = some (.int .i64 onn) ∧ W.cell? ⟨qg, qf + i * 8 + 5, none⟩ = some (.int .i64 opl) ∧ W.cell? ⟨qg, qf + i * 8 + 6, none⟩ = some (.int .u8 omk) ∧ W.cell? ⟨qg, qf + i * 8 + 7, none⟩ = some (.slice ofA ofn ofc)) (by kernel_rfl) (HS.out _ (Fr.refl _ _).drew) (fun hS0 => ?_)
          refine wpAnyH_taked (i := 0) (d := 55) (v := ?_) rfl rfl (by kernel_rfl) (by kernel_rfl) (by kernel_rfl) (fun _ _ _ h => h) (Or.inl ⟨by rfl, ?_⟩) (by assumption) ?_
          rotate_left 1
          · rintro w' ⟨hs0, hs1, hs2, hs3, hs4, hs5, hs6, hs7⟩
            go_simp
            try (with_reducible rfl)
          try simp only [Act.put, List.setIfInBounds_toArray, List.set_cons_zero, List.set_cons_succ]
          refine wpAnyH_taked (i := 1) (d := 56) (v := ?_) rfl rfl (by kernel_rfl) (by kernel_rfl) (by kernel_rfl) (fun _ _ _ h => h) (Or.inl ⟨by rfl, ?_⟩) (by assumption) ?_
          rotate_left 1
          · rintro w' ⟨hs0, hs1, hs2, hs3, hs4, hs5, hs6, hs7⟩
            go_simp
            try (with_reducible rfl)
          try simp only [Act.put, List.setIfInBounds_toArray, List.set_cons_zero, List.set_cons_succ]
          refine wpAnyH_taked (i := 2) (d := 57) (v := ?_) rfl rfl (by kernel_rfl) (by kernel_rfl) (by kernel_rfl) (fun _ _ _ h => h) (Or.inl ⟨by rfl, ?_⟩) (by assumption) ?_
          rotate_left 1
          · rintro w' ⟨hs0, hs1, hs2, hs3, hs4, hs5, hs6, hs7⟩
            go_simp
            try (with_reducible rfl)
          try simp only [Act.put, List.setIfInBounds_toArray, List.set_cons_zero, List.set_cons_succ]
          refine wpAnyH_taked (i := 3) (d := 58) (v := ?_) rfl rfl (by kernel_rfl) (by kernel_rfl) (by kernel_rfl) (fun _ _ _ h => h) (Or.inl ⟨by rfl, ?_⟩) (by assumption) ?_
          rotate_left 1
          · rintro w' ⟨hs0, hs1, hs2, hs3, hs4, hs5, hs6, hs7⟩
            go_simp
            try (with_reducible rfl)
          try simp only [Act.put, List.setIfInBounds_toArray, List.set_cons_zero, List.set_cons_succ]
          refine wpAnyH_taked (i := 4) (d := 59) (v := ?_) rfl rfl (by kernel_rfl) (by kernel_rfl) (by kernel_rfl) (fun _ _ _ h => h) (Or.inl ⟨by rfl, ?_⟩) (by assumption) ?_
          rotate_left 1
          · rintro w' ⟨hs0, hs1, hs2, hs3, hs4, hs5, hs6, hs7⟩
            go_simp
            try (with_reducible rfl)
          try simp only [Act.put, List.setIfInBounds_toArray, List.set_cons_zero, List.set_cons_succ]
          refine wpAnyH_one (i := 5) (by kernel_rfl) rfl (fun K hK => ?_)
          go_simp
          refine (HST.out _ (Fr.refl _ _).drew).mono ?_
          rintro e wn ⟨rfl, hbx⟩
          obtain ⟨g2, gr2, T2, TR2, d2, hdb2, hbox2, hx2⟩ := hbx
          have hz := HZ.out _ hdb2.fr
          have x0 : wn.cell? ⟨x, 0, none⟩ = some (.pointer (some ⟨g2, 0, none⟩)) := blk_cell hbox2 0
          have x1 : wn.cell? ⟨x, 1, none⟩ = some (.pointer (some ⟨gr2, 0, none⟩)) := blk_cell hbox2 1
          have hS2 : (fun W : World => W.cell? ⟨x, 0, none⟩ = some (.pointer (some ⟨g2, 0, none⟩)) ∧ W.cell? ⟨x, 1, none⟩ = some (.pointer (some ⟨gr2, 0, none⟩)) ∧ W.cell? ⟨qg, qf + i * 8, none⟩ = some (.int .i64 ok) ∧ W.cell? ⟨qg, qf + i * 8 + 1, none⟩ = some (.int .i64 oat) ∧ W.cell? ⟨qg, qf + i * 8 + 2, none⟩ = some (.slice obA ob.length obc) ∧ W.cell? ⟨qg, qf + i * 8 + 3, none⟩ = some (.bool owh) ∧ W.cell? ⟨qg, qf + i * 8 + 4, none⟩ = some (.int .i64 onn) ∧ W.cell? ⟨qg, qf + i * 8 + 5, none⟩ = some (.int .i64 opl) ∧ W.cell? ⟨qg, qf + i * 8 + 6, none⟩ = some (.int .u8 omk) ∧ W.cell? ⟨qg, qf + i * 8 + 7, none⟩ = some (.slice ofA ofn ofc)) wn := ⟨x0, x1, hz⟩
          have HS2 : Hid (∀ W : World, Fr (fun _ => False) wn W → W.cell? ⟨x, 0, none⟩ = some (.pointer (some ⟨g2, 0, none⟩)) ∧ W.cell? ⟨x, 1, none⟩ = some (.pointer (some ⟨gr2, 0, none⟩)) ∧ W.cell? ⟨qg, qf + i * 8, none⟩ = some (.int .i64 ok) ∧ W.cell? ⟨qg, qf + i * 8 + 1, none⟩ = some (.int .i64 oat) ∧ W.cell? ⟨qg, qf + i * 8 + 2, none⟩ = some (.slice obA ob.length obc) ∧ W.cell? ⟨qg, qf + i * 8 + 3, none⟩ = some (.bool owh) ∧ W.cell? ⟨qg, qf + i * 8 + 4, none⟩ = some (.int .i64 onn) ∧ W.cell? ⟨qg, qf + i * 8 + 5, none⟩ = some (.int .i64 opl) ∧ W.cell? ⟨qg, qf + i * 8 + 6, none⟩ = some (.int .u8 omk) ∧ W.cell? ⟨qg, qf + i * 8 + 7, none⟩ = some (.slice ofA ofn ofc)) := fun W hW => ⟨hW.cell0 x0, hW.cell0 x1, HZ.out _ (hdb2.fr.trans hW (fun _ _ h => h.elim))⟩
          have HDB2 := Lib.hid hdb2
          have HBX2 : Hid (Bx w wn x (2 * i + 2)) := ⟨g2, gr2, T2, TR2, d2, hdb2, hbox2, hx2⟩
          clear hdb2 hbox2 hx2 hS0 x0 x1
          go_wp2_with fail
          refine hK.out _ _ hz ?_
          clear hK K hz
          try simp only [Act.put, List.setIfInBounds_toArray, List.set_cons_zero, List.set_cons_succ]
          refine wpAnyH_mono (S2 := fun W => W.cell? ⟨x, 0, none⟩ = some (.pointer (some ⟨g2, 0, none⟩)) ∧ W.cell? ⟨x, 1, none⟩ = some (.pointer (some ⟨gr2, 0, none⟩)) ∧ W.cell? ⟨qg, qf + i * 8, none⟩ = some (.int .i64 ok) ∧ W.cell? ⟨qg, qf + i * 8 + 1, none⟩ = some (.int .i64 oat) ∧ W.cell? ⟨qg, qf + i * 8 + 2, none⟩ = some (.slice obA ob.length obc) ∧ W.cell? ⟨qg, qf + i * 8 + 3, none⟩ = some (.bool owh) ∧ W.cell? ⟨qg, qf + i * 8 + 4, none⟩ = some (.int .i64 onn) ∧ W.cell? ⟨qg, qf + i * 8 + 5, none⟩ = some (.int .i64 opl) ∧ W.cell? ⟨qg, qf + i * 8 + 6, none⟩ = some (.int .u8 omk) ∧ W.cell? ⟨qg, qf + i * 8 + 7, none⟩ = some (.slice ofA ofn ofc)) (fun W h => h.2.2) _ _ _ _ ?_
          refine wpAnyH_taked (i := 6) (d := 61) (v := ?_) rfl rfl (by kernel_rfl) (by kernel_rfl) (by kernel_rfl) (fun _ _ _ h => h) (Or.inl ⟨by rfl, ?_⟩) (by assumption) ?_
          rotate_left 1
          · rintro w' ⟨hx0, hx1, hs0, hs1, hs2, hs3, hs4, hs5, hs6, hs7⟩
            go_simp
            try (with_reducible rfl)
          try simp only [Act.put, List.setIfInBounds_toArray, List.set_cons_zero, List.set_cons_succ]
          refine wpAnyH_taked (i := 7) (d := 62) (v := ?_) rfl rfl (by kernel_rfl) (by kernel_rfl) (by kernel_rfl) (fun _ _ _ h => h) (Or.inl ⟨by rfl, ?_⟩) (by assumption) ?_
          rotate_left 1
          · rintro w' ⟨hx0, hx1, hs0, hs1, hs2, hs3, hs4, hs5, hs6, hs7⟩
            go_simp
            try (with_reducible rfl)
          try simp only [Act.put, List.setIfInBounds_toArray, List.set_cons_zero, List.set_cons_succ]
          refine wpAnyH_taked (i := 8) (d := 63) (v := ?_) rfl rfl (by kernel_rfl) (by kernel_rfl) (by kernel_rfl) (fun _ _ _ h => h) (Or.inl ⟨by rfl, ?_⟩) (by assumption) ?_
          rotate_left 1
          · rintro w' ⟨hx0, hx1, hs0, hs1, hs2, hs3, hs4, hs5, hs6, hs7⟩
            go_simp
            try (with_reducible rfl)
          try simp only [Act.put, List.setIfInBounds_toArray, List.set_cons_zero, List.set_cons_succ]
          refine wpAnyH_taked (i := 9) (d := 64) (v := ?_) rfl rfl (by kernel_rfl) (by kernel_rfl) (by kernel_rfl) (fun _ _ _ h => h) (Or.inl ⟨by rfl, ?_⟩) (by assumption) ?_
          rotate_left 1
          · rintro w' ⟨hx0, hx1, hs0, hs1, hs2, hs3, hs4, hs5, hs6, hs7⟩
            go_simp
            try (with_reducible rfl)
          try simp only [Act.put, List.setIfInBounds_toArray, List.set_cons_zero, List.set_cons_succ]
          refine wpAnyH_taked (i := 10) (d := 65) (v := ?_) rfl rfl (by kernel_rfl) (by kernel_rfl) (by kernel_rfl) (fun _ _ _ h => h) (Or.inl ⟨by rfl, ?_⟩) (by assumption) ?_
          rotate_left 1
          · rintro w' ⟨hx0, hx1, hs0, hs1, hs2, hs3, hs4, hs5, hs6, hs7⟩
            go_simp
            try (with_reducible rfl)
          try simp only [Act.put, List.setIfInBounds_toArray, List.set_cons_zero, List.set_cons_succ]
          refine wpAnyH_taked (i := 11) (d := 66) (v := ?_) rfl rfl (by kernel_rfl) (by kernel_rfl) (by kernel_rfl) (fun _ _ _ h => h) (Or.inl ⟨by rfl, ?_⟩) (by assumption) ?_
          rotate_left 1
          · rintro w' ⟨hx0, hx1, hs0, hs1, hs2, hs3, hs4, hs5, hs6, hs7⟩
            go_simp
            try (with_reducible rfl)
          try simp only [Act.put, List.setIfInBounds_toArray, List.set_cons_zero, List.set_cons_succ]
          refine wpAnyH_taked (i := 12) (d := 67) (v := ?_) rfl rfl (by kernel_rfl) (by kernel_rfl) (by kernel_rfl) (fun _ _ _ h => h) (Or.inl ⟨by rfl, ?_⟩) (by assumption) ?_
          rotate_left 1
          · rintro w' ⟨hx0, hx1, hs0, hs1, hs2, hs3, hs4, hs5, hs6, hs7⟩
            go_simp
            try (with_reducible rfl)
          try simp only [Act.put, List.setIfInBounds_toArray, List.set_cons_zero, List.set_cons_succ]
          refine wpAnyH_taked (i := 13) (d := 68) (v := ?_) rfl rfl (by kernel_rfl) (by kernel_rfl) (by kernel_rfl) (fun _ _ _ h => h) (Or.inl ⟨by rfl, ?_⟩) (by assumption) ?_
          rotate_left 1
          · rintro w' ⟨hx0, hx1, hs0, hs1, hs2, hs3, hs4, hs5, hs6, hs7⟩
            go_simp
            try (with_reducible rfl)
          try simp only [Act.put, List.setIfInBounds_toArray, List.set_cons_zero, List.set_cons_succ]
          refine wpAnyH_taked (i := 14) (d := 69) (v := ?_) rfl rfl (by kernel_rfl) (by kernel_rfl) (by kernel_rfl) (fun _ _ _ h => h) (Or.inl ⟨by rfl, ?_⟩) (by assumption) ?_
          rotate_left 1
          · rintro w' ⟨hx0, hx1, hs0, hs1, hs2, hs3, hs4, hs5, hs6, hs7⟩
            go_simp
            try (with_reducible rfl)
          try simp only [Act.put, List.setIfInBounds_toArray, List.set_cons_zero, List.set_cons_succ]
          refine wpAnyH_taked (i := 15) (d := 70) (v := ?_) rfl rfl (by kernel_rfl) (by kernel_rfl) (by kernel_rfl) (fun _ _ _ h => h) (Or.inl ⟨by rfl, ?_⟩) (by assumption) ?_
          rotate_left 1
          · rintro w' ⟨hx0, hx1, hs0, hs1, hs2, hs3, hs4, hs5, hs6, hs7⟩
            go_simp
            try (with_reducible rfl)
          try simp only [Act.put, List.setIfInBounds_toArray, List.set_cons_zero, List.set_cons_succ]
          refine wpAnyH_one (i := 16) (by kernel_rfl) rfl (fun K hK => ?_)
          go_simp
          refine (same_any HDB2.out.a HDB2.out.b (by have := HDB2.out.puts; omega)).mono ?_
          rintro e wm ⟨rfl, hf⟩
          have hS3 := HS2.out wm hf
          have HBX3 := Lib.hid (HBX2.out.fr0 hf)
          clear hf hS2
          go_wp2_with fail
          refine hK.out _ _ hS3 ?_
          clear hK K
          try simp only [Act.put, List.setIfInBounds_toArray, List.set_cons_zero, List.set_cons_succ]
          refine wpAnyH_taked (i := 17) (d := 72) (v := ?_) rfl rfl (by kernel_rfl) (by kernel_rfl) (by kernel_rfl) (fun _ _ _ h => h) (Or.inl ⟨by rfl, ?_⟩) (by assumption) ?_
          rotate_left 1
          · rintro w' ⟨hx0, hx1, hs0, hs1, hs2, hs3, hs4, hs5, hs6, hs7⟩
            go_simp
            try (with_reducible rfl)
          try simp only [Act.put, List.setIfInBounds_toArray, List.set_cons_zero, List.set_cons_succ]
          refine wpAnyH_taked (i := 18) (d := 73) (v := ?_) rfl rfl (by kernel_rfl) (by kernel_rfl) (by kernel_rfl) (fun _ _ _ h => h) (Or.inl ⟨by rfl, ?_⟩) (by assumption) ?_
          rotate_left 1
          · rintro w' ⟨hx0, hx1, hs0, hs1, hs2, hs3, hs4, hs5, hs6, hs7⟩
            go_simp
            try (with_reducible rfl)
          try simp only [Act.put, List.setIfInBounds_toArray, List.set_cons_zero, List.set_cons_succ]
          refine wpAnyH_done (by kernel_rfl) ?_ _
          clear hS3
          have HN : Hid (Bx w wm x (2 * (i + 1))) := HBX3.out.mono (by omega)
          go_wp2_with fail
          exact ⟨⟨i + 1, by omega, by omega, by go_num, HN⟩, by simp [intOf]; omega⟩
        · have HE : Hid (Fr (fun _ => False) w wr) := (by obtain ⟨g0, gr0, T0, TR0, d0, hdb0, _⟩ := HI.out; exact hdb0.fr.toBelow : Fr (fun _ => False) w wr)
          by_cases hl1 : i < os.length
          · have hl2 : (i : Int) < os.length := by omega
            have hl3 : ¬ (i : Int) < 40 := by omega
            go_wp2_with fail
            go_ret
            exact ⟨rfl, HE.out⟩
          · have hl2 : ¬ (i : Int) < os.length := by omega
            go_wp2_with fail
            go_ret
            exact ⟨rfl, HE.out⟩
end Go.Proofs.Ytdamegjhdopfaaa
