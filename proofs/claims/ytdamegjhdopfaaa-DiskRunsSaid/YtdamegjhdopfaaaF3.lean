/- Rot of both disks, wherever. -/
import Derived.Test.YtdamegjhdopfaaaF2
namespace Go.Proofs.Ytdamegjhdopfaaa
open Go.RowKit Go.WideShapes
set_option linter.unusedSimpArgs false
set_option linter.unusedVariables false

theorem rot_out (d : Dk) (i j m : Int) (h : ¬ (0 ≤ i ∧ i < d.F.length ∧ 0 ≤ j ∧ j < 128)) : d.rotE i j = 5 ∧ d.rot i j m = d := by
  have h1 : d.rotE i j = 5 := if_neg h
  refine ⟨h1, ?_⟩
  unfold Dk.rot
  rw [h1, if_neg (by omega)]
theorem rot_in (d : Dk) (p q : Nat) (m : Int) (hp : p < d.F.length) (hq : q < 128) : d.rotE p q = 0 ∧ d.rot p q m = { d with F := rotF d.F p q m } := by
  have h1 : d.rotE p q = 0 := if_pos (by omega)
  refine ⟨h1, ?_⟩
  unfold Dk.rot
  rw [h1, if_pos rfl]
  simp
set_option maxRecDepth 100000 in
set_option maxHeartbeats 2000000 in
theorem rot_all {w : World} {g : Nat} {T : Nat → Prop} {d : Dk} (h : DkAt w g T d) (i j m : Int) (hm : 0 ≤ m ∧ m < 256) : Calls Try.prog 26 #[.pointer (some ⟨g, 0, none⟩), .int .i64 i, .int .i64 j, .int .u8 m] w (RotPost w g T (d.rot i j m) (d.rotE i j)) := by
  by_cases hin : 0 ≤ i ∧ i < d.F.length ∧ 0 ≤ j ∧ j < 128
  · obtain ⟨p, rfl⟩ := Int.eq_ofNat_of_zero_le hin.1
    obtain ⟨q, rfl⟩ := Int.eq_ofNat_of_zero_le hin.2.2.1
    have hp : p < d.F.length := by omega
    have hq : q < 128 := by omega
    obtain ⟨e1, e2⟩ := rot_in d p q m hp hq
    rw [e1, e2]
    exact rot_ok h p q m hm hp hq
  · obtain ⟨e1, e2⟩ := rot_out d i j m hin
    have HE : Hid (RotPost w g T (d.rot i j m) (d.rotE i j) (.returned (.int .i64 5)) w) := (by rw [e1, e2]; exact ⟨rfl, h, Fr.refl _ _⟩ : RotPost w g T (d.rot i j m) (d.rotE i j) (.returned (.int .i64 5)) w)
    have H := Lib.hid h
    clear h e1 e2
    go_enter Try.func26, Try.ntmps26
    go_wp2_with fail
    refine (made_any H.out).mono ?_
    rintro e w1 ⟨rfl, rfl⟩
    go_wp2_with fail
    refine (has_any H.out i).mono ?_
    rintro e w1 ⟨rfl, rfl⟩
    by_cases h1 : 0 ≤ i ∧ i < d.F.length
    · have hb : (decide (0 ≤ i) && decide (i < (d.F.length : Int))) = true := by simp; exact h1
      rw [hb]
      by_cases h2 : j < 0
      · go_wp2_with fail
        go_ret
        exact HE.out
      · have h3 : (128 : Int) ≤ j := by omega
        go_wp2_with fail
        go_ret
        exact HE.out
    · have hb : (decide (0 ≤ i) && decide (i < (d.F.length : Int))) = false := by simp; omega
      rw [hb]
      go_wp2_with fail
      go_ret
      exact HE.out

theorem Dk.Pure.rot {d : Dk} (h : d.Pure) (p q : Nat) (m : Int) (hm : 0 ≤ m ∧ m < 256) (hp : p < d.F.length) (hq : q < 128) : ({ d with F := rotF d.F p q m } : Dk).Pure := by
  refine ⟨fun s hs => ?_, by simp [rotF]; exact h.pos, by simp [rotF]; exact h.few, h.lsecs, fun i hi => by simp [rotF]; exact h.within i hi, h.lens, h.dones, h.fuses, h.dw⟩
  obtain ⟨x, hx⟩ : ∃ x, d.F[p]? = some x := ⟨_, List.getElem?_eq_getElem hp⟩
  have hsec := h.secs x (List.mem_of_getElem? hx)
  have hget : d.F.getD p [] = x := by simp [List.getD, hx]
  have hs' : s ∈ d.F.set p ((d.F.getD p []).set q (bend ((d.F.getD p []).getD q 0) m)) := hs
  rw [hget] at hs'
  rcases List.mem_or_eq_of_mem_set hs' with h1 | h1
  · exact h.secs s h1
  · rw [h1]
    refine ⟨by rw [List.length_set]; exact hsec.1, fun y hy => ?_⟩
    rcases List.mem_or_eq_of_mem_set hy with h2 | h2
    · exact hsec.2 y h2
    · rw [h2]
      obtain ⟨v, hv⟩ : ∃ v, x[q]? = some v := ⟨_, List.getElem?_eq_getElem (by rw [hsec.1]; exact hq)⟩
      have hv' : x.getD q 0 = v := by simp [List.getD, hv]
      rw [hv']
      exact bend_byte v m (hsec.2 v (List.mem_of_getElem? hv)) hm
def RRotPost (w : World) (g : Nat) (T : Nat → Prop) (d' : Dk) (r : Int) (e : Ending) (w' : World) : Prop :=
  e = .returned (.int .i64 r) ∧ ∃ T', RdAt w' g T' d' ∧ Fr T w w' ∧ ∀ k, T' k → T k ∨ w.heap.size ≤ k
set_option maxRecDepth 100000 in
set_option maxHeartbeats 4000000 in
theorem rrot_any {w : World} {g : Nat} {T : Nat → Prop} {d : Dk} (h : RdAt w g T d) (i j m : Int) (hm : 0 ≤ m ∧ m < 256) : Calls Try.prog 67 #[.pointer (some ⟨g, 0, none⟩), .int .i64 i, .int .i64 j, .int .u8 m] w (RRotPost w g T (d.rot i j m) (d.rotE i j)) := by
  by_cases hin : 0 ≤ i ∧ i < d.F.length ∧ 0 ≤ j ∧ j < 128
  · obtain ⟨p, rfl⟩ := Int.eq_ofNat_of_zero_le hin.1
    obtain ⟨q, rfl⟩ := Int.eq_ofNat_of_zero_le hin.2.2.1
    have hp : p < d.F.length := by omega
    have hq : q < 128 := by omega
    have hpi : (p : Int) < d.F.length := hin.2.1
    have hqi : (q : Int) < 128 := by omega
    obtain ⟨e1, e2⟩ := rot_in d p q m hp hq
    rw [e1, e2]
    clear e1 e2 hin
    have H := Lib.hid h
    have HM := Lib.hid hm
    obtain ⟨sb, U, hs, h1, h2, h3, h4, h5⟩ := h
    obtain ⟨o, ho, his, z0, z1⟩ := h1.cells hp
    obtain ⟨s, hsd⟩ : ∃ s, s = d.F.getD p [] := ⟨_, rfl⟩
    have hsm : d.F[p]? = some s := by rw [hsd, List.getD, List.getElem?_eq_getElem hp]; rfl
    have hsec := h1.pure.secs s (List.mem_of_getElem? hsm)
    have hrv := his.2.2.1
    rw [← hsd] at hrv
    obtain ⟨v, hv⟩ : ∃ v, s[q]? = some v := ⟨_, List.getElem?_eq_getElem (by rw [hsec.1]; exact hq)⟩
    have c0 : w.cell? ⟨g, 0, none⟩ = some (.slice (some ⟨sb, 0, none⟩) d.F.length d.F.length) := blk_cell h1.box 0
    have hb : (decide (0 ≤ (p : Int)) && decide ((p : Int) < d.F.length)) = true := by simp; omega
    have HB := Lib.hid hb
    have hFa : Fr (fun _ => False) w (w.alloc (.cells #[] 5)) := (Fr.refl _ w).alloc _
    have c0a := hFa.cell0 c0
    have z0a := hFa.cell0 z0
    have HRA : Hid (ReadU (w.alloc (.cells #[] 5)) o.fa s) := hrv.u.fr hFa (fun _ _ _ h => h)
    have HFA := Lib.hid hFa
    have H1 := Lib.hid h1
    have H2 := Lib.hid h2
    have H3 := Lib.hid h3
    have H4 := Lib.hid h4
    have H5 := Lib.hid h5
    have HO := Lib.hid ho
    have HIS := Lib.hid his
    have HSD := Lib.hid hsd
    have HSEC := Lib.hid hsec
    have HV := Lib.hid hv
    have HP := Lib.hid (h1.pure.rot p q m hm hp hq)
    have f0 := blk_frozen h1.row (p * 2)
    have HZ : Hid (w.cell? ⟨g, 0, none⟩ = some (.slice (some ⟨sb, 0, none⟩) d.F.length d.F.length) ∧ w.cell? ⟨sb, p * 2, none⟩ = some (.slice o.fa 128 o.fc)) := ⟨c0, z0⟩
    have hfew := h1.pure.few
    clear h1 h2 h3 h4 h5 ho his hsd hsm hsec hrv hv hb hFa z1 hm
    go_enter Try.func67, Try.ntmps67
    go_wp2_with fail
    refine (rhas_any H.out (p : Int)).mono ?_
    rintro e w1 ⟨rfl, rfl⟩
    rw [HB.out]
    go_upto_region 5 with fail
    go_upto_region 6 with (at_builtin; refine wpl_copy8 rfl (.tmp 26) (.tmp 34) rfl w1.heap.size rfl (blk_new _ _) o.fa 128 o.fc s rfl HSEC.out.1.symm HRA.out (by rw [HSEC.out.1]; omega) (by rw [HSEC.out.1]; omega) ?_; intro A4 c4 w4 ho4 hF4 hm4)
    have HF4 : Hid (Fr (fun _ => False) w1 w4) := HFA.out.trans' hF4 (fun _ _ h => h) (fun q hq e => by omega)
    rw [HSEC.out.1] at ho4 ⊢
    obtain ⟨bg, hbg⟩ := own_some ho4 (by omega)
    subst hbg
    obtain ⟨cur, hcur, hcl⟩ := own_cur ho4
    have hcap := own_cap ho4
    have hb0 := (ho4.lt bg rfl).1
    have hb1 := (ho4.lt bg rfl).2
    have c4v : w4.cell? ⟨bg, q, none⟩ = some (.int .u8 v) := by
      have := (own_news ho4).1 _ rfl q (.int .u8 v) (by unfold by8; rw [List.getElem?_map, HV.out]; rfl)
      rw [add_some, Nat.zero_add] at this
      exact this
    have c4f : w4.frozen? ⟨bg, q, none⟩ = false := blk_frozen hcur q
    have hset := own_set ho4 (i := q) (by omega) (.int .u8 (bits BinOp.xor IntKind.u8 v m))
    have hby : (by8 s).set q (.int .u8 (bits BinOp.xor IntKind.u8 v m)) = by8 (s.set q (bend v m)) := by unfold by8 bend; rw [List.map_set]
    rw [hby] at hset
    have hsl := H1.out.row
    have hnsb : bg ≠ sb := fun e => by have := blk_lt H1.out.row; omega
    have hF5 : Fr (fun _ => False) w1 (w4.setCell ⟨bg, q, none⟩ (.int .u8 (bits BinOp.xor IntKind.u8 v m))) := HF4.out.trans' (setg_fr (Fr.refl (fun k => k = bg) w4) _ _) (fun _ _ h => h) (fun k hk e => by omega)
    have HSET := Lib.hid hset
    have HF5 := Lib.hid hF5
    have HB0 : Hid (w1.heap.size ≤ bg ∧ bg < (w4.setCell ⟨bg, q, none⟩ (.int .u8 (bits BinOp.xor IntKind.u8 v m))).heap.size) := ⟨hb0, hset.lt bg rfl |>.2⟩
    clear ho4 hF4 hm4 hcur hcl hset hby hsl hb0 hb1 hF5 c0 z0 c0a z0a HRA HFA
    go_upto_region 7 with fail
    generalize w4.setCell ⟨bg, q, none⟩ (.int .u8 (bits BinOp.xor IntKind.u8 v m)) = w5 at *
    have c0 := HF5.out.cell0 HZ.out.1
    have z0 := HF5.out.cell0 HZ.out.2
    have f0 := blk_frozen (HF5.out.blk0 H1.out.row) (p * 2)
    clear c4v c4f
    have HE : Hid (RRotPost w1 g T { d with F := rotF d.F p q m } 0 (.returned (.int .i64 0)) (w5.setCell ⟨sb, p * 2, none⟩ (.slice (some ⟨bg, 0, none⟩) 128 c4))) := by
      have hrow := sb_set0 (HF5.out.blk0 H1.out.row) HO.out (some ⟨bg, 0, none⟩) 128 c4
      have hFs : Fr (fun k => k = sb) w5 (w5.setCell ⟨sb, p * 2, none⟩ (.slice (some ⟨bg, 0, none⟩) 128 c4)) := setg_fr (Fr.refl _ _) _ _
      have hin5 := H1.out.fr HF5.out (fun h => h) (fun h => h) (fun _ _ h => h)
      have hUlt : ∀ k, U k → k < w1.heap.size := fun k hk => H5.out k (H4.out k hk)
      have hsblt := blk_lt H1.out.row
      have hglt := blk_lt H1.out.box
      have hget : d.F.getD p [] = s := HSD.out.symm
      have hrf : (rotF d.F p q m).getD p [] = s.set q (bend v m) := by
        unfold rotF
        rw [hget]
        have hv' : s.getD q 0 = v := by simp [List.getD, HV.out]
        rw [hv']
        simp [List.getD, List.getElem?_set_self hp]
      have hput := hin5.put (U' := fun k => U k ∨ (w1.heap.size ≤ k ∧ k < w5.heap.size)) hp { o with fa := some ⟨bg, 0, none⟩, fn := 128, fc := c4 } { d with F := rotF d.F p q m } hFs hrow (by simp [rotF]) rfl rfl
        (fun j hj => ⟨by unfold rotF; simp [List.getD, List.getElem?_set_ne (Ne.symm hj)], rfl⟩)
        (by
          refine ⟨rfl, HIS.out.2.1, ?_, ?_⟩
          · show ReadV _ _ _ ((rotF d.F p q m).getD p [])
            rw [hrf]
            have hro := readV_own (w := w1) (l := s.set q (bend v m)) (b := w1.heap.size) (w' := w5) (n := 128) (c := c4) (A := some ⟨bg, 0, none⟩) (by rw [List.length_set, HSEC.out.1]; exact HSET.out) (Nat.le_refl _)
            exact (hro.fr hFs (fun k hk e => by omega)).mono (fun k hk => .inr hk)
          · exact ((HIS.out.2.2.2.fr HF5.out (fun _ _ h => h)).fr hFs (fun k hk e => H1.out.us (by rw [← e]; exact hk))).mono (fun k hk => .inl hk))
        (fun k hk => .inl hk) (fun hk => by
          rcases hk with hk | hk
          · exact H1.out.ug hk
          · omega) (fun hk => by
          rcases hk with hk | hk
          · exact H1.out.us hk
          · omega) HP.out
      refine ⟨rfl, fun k => T k ∨ (w1.heap.size ≤ k ∧ k < w5.heap.size), ⟨sb, _, _, hput, .inl H2.out, .inl H3.out, fun k hk => ?_, fun k hk => ?_⟩, HF5.out.none.trans hFs (fun k _ e => by rw [e]; exact H3.out), fun k hk => ?_⟩
      · rcases hk with hk | hk
        · exact .inl (H4.out k hk)
        · exact .inr hk
      · have hsz : w5.heap.size ≤ (w5.setCell ⟨sb, p * 2, none⟩ (.slice (some ⟨bg, 0, none⟩) 128 c4)).heap.size := hFs.size
        have := HF5.out.size
        rcases hk with hk | hk
        · have := H5.out k hk; omega
        · omega
      · rcases hk with hk | hk
        · exact .inl hk
        · exact .inr hk.1
    clear HSET HF5 HB0
    go_wp2_with fail
    go_ret
    exact HE.out
  · obtain ⟨e1, e2⟩ := rot_out d i j m hin
    have HE : Hid (RRotPost w g T (d.rot i j m) (d.rotE i j) (.returned (.int .i64 5)) w) := (by rw [e1, e2]; exact ⟨rfl, T, h, Fr.refl _ _, fun k hk => .inl hk⟩ : RRotPost w g T (d.rot i j m) (d.rotE i j) (.returned (.int .i64 5)) w)
    have H := Lib.hid h
    clear h e1 e2
    go_enter Try.func67, Try.ntmps67
    go_wp2_with fail
    refine (rhas_any H.out i).mono ?_
    rintro e w1 ⟨rfl, rfl⟩
    by_cases h1 : 0 ≤ i ∧ i < d.F.length
    · have hb : (decide (0 ≤ i) && decide (i < (d.F.length : Int))) = true := by simp; exact h1
      rw [hb]
      by_cases h2 : j < 0
      · go_wp2_with fail
        go_ret
        exact HE.out
      · have h3 : (128 : Int) ≤ j := by omega
        go_wp2_with fail
        go_ret
        exact HE.out
    · have hb : (decide (0 ≤ i) && decide (i < (d.F.length : Int))) = false := by simp; omega
      rw [hb]
      go_wp2_with fail
      go_ret
      exact HE.out
end Go.Proofs.Ytdamegjhdopfaaa
