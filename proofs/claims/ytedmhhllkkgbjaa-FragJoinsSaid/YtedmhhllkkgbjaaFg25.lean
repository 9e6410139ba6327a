/- lienref08.payload's walk. Printed by gen25.py. -/
import Derived.Test.YtedmhhllkkgbjaaFg24
namespace Go.Proofs.Ytedmhhllkkgbjaa
open Go.RowKit
set_option linter.unusedSimpArgs false
set_option linter.unusedVariables false

theorem own_low {w : World} {B B' n : Nat} {e : TypeId} {size : Nat} {v : Value} {xs : List Value} (h : w.ownsRow B' e size v n xs) (hb : B ≤ B') : w.ownsRow B e size v n xs := by
  refine ⟨h.1, ?_⟩
  rcases h.2 with h2 | ⟨g, cap, cur, rfl, hg, r⟩
  · exact .inl h2
  · exact .inr ⟨g, cap, cur, rfl, Nat.le_trans hb hg, r⟩
theorem PK.start {S0 : Nat → Prop} {w w1 w2 : World} {j : J} {RA : Option Addr} {rc : Nat} {OA : Option Addr} {oc : Nat} {v : Value} {olds : List Value} (hs0 : ∀ k, S0 k → k < w.heap.size)
    (hn0 : w1.heap[w.heap.size]? = some (.cells #[.slice RA j.recs.length rc, .bool j.begun, .slice OA j.opn.length oc] 118 (0, 0))) (hn1 : w1.heap[w.heap.size + 1]? = some (.cells #[.slice none 0 0, .bool false, .slice none 0 0] 118 (0, 0))) (hF : Fr (fun _ => False) w w1) (hsz : w1.heap.size = w.heap.size + 2)
    (hO : ReadBN S0 w OA oc j.opn) (hol : olds.length = j.recs.length) (hels : ∀ (i : Nat) (x : List Int), j.recs[i]? = some x → ∃ PA pc, olds[i]? = some (.slice PA x.length pc) ∧ ReadBN S0 w PA pc x)
    (hg : (w1.alloc (.cells #[] 27)).grownBy w2 (some w1.heap.size)) (ho : w2.ownsRow w.heap.size 27 1 v j.recs.length olds) (hm : v.ownBlock = some w1.heap.size ∨ v.ownBlock = some (w1.alloc (.cells #[] 27)).heap.size) :
    PK S0 w w.heap.size (w.heap.size + 1) (w2.setCell ⟨w.heap.size, 0, none⟩ v) j v olds OA oc := by
  have hF1 : Fr (fun k => w.heap.size ≤ k) w w2 := (hF.none.alloc _).grown hg (fun k hk => .inl (by obtain rfl := Option.some.inj hk; omega))
  have hFw : Fr (fun _ => False) w1 w2 := ((Fr.refl (fun _ => False) w1).alloc _).grown hg (fun k hk => .inl (by obtain rfl := Option.some.inj hk; exact Nat.le_refl _))
  have hb := hFw.blk0 hn0
  have hr := hFw.blk0 hn1
  have hF2 : Fr (fun k => w.heap.size ≤ k) w (w2.setCell ⟨w.heap.size, 0, none⟩ v) := hF1.setCell (.inl (Nat.le_refl _)) _
  have far : ∀ {A : Option Addr} {c : Nat} {x : List Int}, ReadBN S0 w A c x → ReadBN (PKS S0 v w.heap.size (w.heap.size + 1)) (w2.setCell ⟨w.heap.size, 0, none⟩ v) A c x := by
    intro A c x h
    have h1 : ReadBN (fun k => S0 k ∨ w.heap.size ≤ k) w A c x := h.more (fun k hk => hk)
    refine (h1.fr (hF2.mono (fun k _ hk => .inr hk))).less (fun k hk => ?_)
    rcases hk with hk | hk | hk | hk
    · exact .inl hk
    · exact .inr (ho.lt k hk.symm).1
    · exact .inr (by omega)
    · exact .inr (by omega)
  refine ⟨by simpa using blk_set hb 0 v, blk_far hr (by show w.heap.size + 1 ≠ w.heap.size; omega) _, own_setCell ho (own_ne ho hb (by decide)) _, hol, fun i x hx => ?_, far hO, hF2, Nat.le_refl _, by omega, by omega, hs0⟩
  obtain ⟨PA, pc, h1, h2⟩ := hels i x hx
  exact ⟨PA, pc, h1, far h2⟩

set_option maxRecDepth 100000 in
set_option maxHeartbeats 8000000 in
theorem rpay_any (S0 : Nat → Prop) (w : World) (j0 : J) (RA : Option Addr) (rc : Nat) (OA : Option Addr) (oc : Nat) (l : List (Int × List Int)) (PA : Option Addr) (pc : Nat) (hR : ReadRN S0 w RA j0.recs) (hO : ReadBN S0 w OA oc j0.opn) (hol : j0.opn.length ≤ 8192) (hs0 : ∀ k, S0 k → k < w.heap.size)
    (hl : Parts l) (hll : l.length ≤ 108) (hP : ReadP w PA l) (hjl : j0.recs.length ≤ 90000000) :
    Calls Try.prog 59 #[.agg #[.slice RA j0.recs.length rc, .bool j0.begun, .slice OA j0.opn.length oc], .slice PA l.length pc] w (RPayPost S0 w (payF j0 l)) := by
  obtain ⟨olds, ol1, ol2, ol3⟩ := hR.olds'
  have ol4 : RA = none → j0.recs.length = 0 := fun e => by
    cases hj : j0.recs with
    | nil => rfl
    | cons y ys =>
      obtain ⟨g, o, _, _, e', _⟩ := hR 0 y (by rw [hj]; rfl)
      rw [e] at e'
      cases e'
  have ol5 : ∀ u ∈ olds, u.oneCell' = true := by
    intro u hu
    obtain ⟨i, hi, rfl⟩ := List.mem_iff_getElem.1 hu
    obtain ⟨PA, pc, hv, _⟩ := ol3 i (j0.recs[i]'(by omega)) (List.getElem?_eq_getElem (by omega))
    rw [List.getElem?_eq_getElem hi] at hv
    rw [Option.some.inj hv]
    rfl
  have HOL := Lib.hid (And.intro ol1 (And.intro ol2 (And.intro ol3 (And.intro ol4 ol5))))
  have HO := Lib.hid hO
  have HS0 := Lib.hid hs0
  have HL := Lib.hid hl
  have HP := Lib.hid hP
  clear hR hO hs0 hl hP ol1 ol2 ol3 ol4 ol5
  go_enter Try.func59, Try.ntmps59
  go_upto_region 1 with (fail)
  obtain ⟨w1, he, hn0, hn1, hF1, hsz⟩ := alloc2 w (.cells #[.slice RA j0.recs.length rc, .bool j0.begun, .slice OA j0.opn.length oc] 118) (.cells #[.slice none 0 0, .bool false, .slice none 0 0] 118)
  rw [he]
  have c0 : w1.cell? ⟨w.heap.size, 0, none⟩ = some (.slice RA j0.recs.length rc) := blk_cell hn0 0
  have f0 := blk_frozen hn0 0
  have c1 : (w1.alloc (.cells #[] 27)).cell? ⟨w.heap.size, 0, none⟩ = some (.slice RA j0.recs.length rc) := ((Fr.refl (fun _ => False) w1).alloc _).cell0 c0
  have HE1 : Hid ((w1.alloc (.cells #[] 27)).heap[w1.heap.size]? = some (.cells #[] 27 (0, 0))) := blk_new _ _
  have HN0 := Lib.hid hn0
  have HN1 := Lib.hid hn1
  have HF1 := Lib.hid hF1
  have HSZ := Lib.hid hsz
  have HFA : Hid (Fr (fun _ => False) w (w1.alloc (.cells #[] 27))) := hF1.alloc _
  have HB1 : Hid (w.heap.size ≤ w1.heap.size) := hF1.size
  clear hn0 hn1 hF1 hsz he
  have hcf : ∀ (v : Value) (W : World), (w1.alloc (.cells #[] 27)).grownBy W (some w1.heap.size) → W.cell? ⟨w.heap.size, 0, none⟩ = some (.slice RA j0.recs.length rc) ∧ W.frozen? ⟨w.heap.size, 0, none⟩ = false := by
    intro v W hg
    have hb := (((Fr.refl (fun _ => False) w1).alloc _).grown hg (fun k hk => .inl (by obtain rfl := Option.some.inj hk; exact Nat.le_refl _))).blk0 HN0.out
    exact ⟨blk_cell hb 0, blk_frozen hb 0⟩
  have HCF := Lib.hid hcf
  clear hcf
  go_wp2_with (at_builtin; refine wpl_appx rfl (.tmp 9) (.tmp 11) 47 rfl w.heap.size 27 _ 1 24 Try.underlying47 Try.info27 rfl (by decide) (.slice (some ⟨w1.heap.size, 0, none⟩) 0 0) 0 [] rfl (own_rebase' (own_empty 1 HE1.out rfl) (fun k hk => by obtain rfl := Option.some.inj hk; exact HB1.out)) RA j0.recs.length rc olds rfl (by rw [HOL.out.1, Nat.mul_one]) (fun ad e j u hu => HFA.out.cell0 (HOL.out.2.1 ad e j u hu)) HOL.out.2.2.2.1 HOL.out.2.2.2.2 (by simp [maxLen]; omega) (by omega) HFA.out.size ?_; intro v2 w2 ho2 hg2 hm2; rw [Nat.zero_add, List.nil_append] at ho2; obtain ⟨A2, c2, rfl⟩ := own_slice ho2; have hk2 := (HCF.out .nilIface w2 hg2).1; have hz2 := (HCF.out .nilIface w2 hg2).2; have HPK := Lib.hid (PK.start HS0.out HN0.out HN1.out HF1.out HSZ.out HO.out HOL.out.1 HOL.out.2.2.1 hg2 ho2 hm2); clear ho2 hg2 hm2)
  clear HE1 HN0 HN1 HF1 HSZ HFA HB1 HCF HOL c0 f0 c1 hk2 hz2
  generalize hw3 : w2.setCell ⟨w.heap.size, 0, none⟩ (.slice A2 j0.recs.length c2) = w3 at HPK ⊢
  clear hw3
  obtain ⟨gs, hgs⟩ : ∃ gs, gs = w.heap.size := ⟨_, rfl⟩
  obtain ⟨gr, hgr⟩ : ∃ gr, gr = w.heap.size + 1 := ⟨_, rfl⟩
  have HPK0 : Hid (PK S0 w gs gr w3 j0 (.slice A2 j0.recs.length c2) olds OA oc) := by rw [hgs, hgr]; exact HPK.out
  rw [← hgr, ← hgs]
  clear HPK hgr hgs
  go_loopw [6] (fun k wr => ∃ (i : Nat) (j : J) (W : Value) (vs : List Value) (OA : Option Addr) (oc : Nat), i ≤ l.length ∧ k = .int .i64 i ∧ Hid (PK S0 w gs gr wr j W vs OA oc) ∧ Hid (payF j0 l = payF j (l.drop i)) ∧ j.opn.length ≤ 8192 ∧ j.recs.length ≤ j0.recs.length + i) (fun k _ => l.length - (intOf k).toNat)
  case atStart => exact ⟨0, j0, _, _, _, _, by omega, rfl, HPK0, by simp [Hid], hol, by omega⟩
  case round =>
    clear HPK0
    obtain ⟨i, j, W, vs, OA, oc, hi, rfl, HPK, HPF, hjo, hjr⟩ := hrel
    by_cases hlt : i < l.length
    · obtain ⟨x, hx⟩ : ∃ x, l[i]? = some x := ⟨_, List.getElem?_eq_getElem hlt⟩
      obtain ⟨qg, qo, BA, bc, rfl, q0, q1, hbr⟩ := HP.out i x hx
      have hbel : Below w.heap.size w wr := HPK.out.fr.below (Nat.le_refl _) (fun _ h => h)
      have d0 := (Fr.of_below hbel (fun _ => False)).cell0 q0
      have d1 := (Fr.of_below hbel (fun _ => False)).cell0 q1
      have hbw := hbr.below hbel
      obtain ⟨x1, x4, x106⟩ := HL.out x (List.mem_of_getElem? hx)
      have hii : (i : Int) < l.length := by omega
      have hdr : l.drop i = x :: l.drop (i + 1) := by
        rw [List.drop_eq_getElem_cons hlt]
        congr 1
        exact Option.some.inj ((List.getElem?_eq_getElem hlt).symm.trans hx)
      have hpf : payF j0 l = (jstep j x.1 x.2).bind (fun j' => payF j' (l.drop (i + 1))) := by rw [HPF.out, hdr]; rfl
      obtain ⟨k, b⟩ := x
      simp only at d0 d1 x1 x4 x106 hpf hbw
      have HPFX := Lib.hid hpf
      have HBB := Lib.hid hbw
      obtain ⟨RA2, rc2, hW, hrc2⟩ : ∃ RA2 rc2, W = .slice RA2 j.recs.length rc2 ∧ True := by
        obtain ⟨A, c, h⟩ := own_slice HPK.out.own
        exact ⟨A, c, h, trivial⟩
      subst hW
      clear hx q0 q1 hbr hbel hdr hpf hbw hrc2
      go_upto_region 6 with (fail)
      obtain ⟨wx, he, hnx, hFx, hszx⟩ := alloc1 wr (.cells #[.int .i64 k, .slice BA b.length bc] 136)
      rw [he]
      have x0 : wx.cell? ⟨wr.heap.size, 0, none⟩ = some (.int .i64 k) := blk_cell hnx 0
      have xb : wx.cell? ⟨wr.heap.size, 1, none⟩ = some (.slice BA b.length bc) := blk_cell hnx 1
      have HX := Lib.hid (HPK.out.fr0 hFx)
      have HBX := Lib.hid (HBB.out.below hFx.below0)
      have s0 : wx.cell? ⟨gs, 0, none⟩ = some (.slice RA2 j.recs.length rc2) := blk_cell HX.out.box 0
      have s1 : wx.cell? ⟨gs, 1, none⟩ = some (.bool j.begun) := blk_cell HX.out.box 1
      have s2 : wx.cell? ⟨gs, 2, none⟩ = some (.slice OA j.opn.length oc) := blk_cell HX.out.box 2
      have fs0 := blk_frozen HX.out.box 0
      have fs1 := blk_frozen HX.out.box 1
      have fs2 := blk_frozen HX.out.box 2
      have fr0 := blk_frozen HX.out.res 0
      have fr1 := blk_frozen HX.out.res 1
      have fr2 := blk_frozen HX.out.res 2
      have HNX := Lib.hid hnx
      have hgx : wr.heap.size < wx.heap.size := by omega
      obtain ⟨gx, hgx2⟩ : ∃ gx, gx = wr.heap.size := ⟨_, rfl⟩
      rw [← hgx2] at x0 xb hgx HNX ⊢
      have HWX : Hid (w.heap.size ≤ wx.heap.size) := HX.out.fr.size
      clear he hnx hFx hszx HPK HBB d0 d1 hgx2
      rcases (show k = 1 ∨ k = 2 ∨ k = 3 ∨ k = 4 by omega) with rfl | rfl | rfl | rfl
      · have HFE : Hid (Fr (fun _ => False) wx (wx.alloc (.cells #[] 5))) := (Fr.refl _ wx).alloc _
        have HE1 : Hid ((wx.alloc (.cells #[] 5)).heap[wx.heap.size]? = some (.cells #[] 5 (0, 0))) := blk_new _ _
        have HBE : Hid (ReadB (wx.alloc (.cells #[] 5)) BA bc b) := HBX.out.below HFE.out.below0
        have xe : (wx.alloc (.cells #[] 5)).cell? ⟨gx, 1, none⟩ = some (.slice BA b.length bc) := HFE.out.cell0 xb
        have hjr9 : j.recs.length ≤ 90000200 := by omega
        have HNX2 : Hid (payF j0 l = payF ⟨j.recs ++ [b], [], false⟩ (l.drop (i + 1))) := by show _ = _; rw [HPFX.out]; simp [jstep]
        go_wp2_with (first
          | (at_builtin; refine wpl_appx rfl (.tmp 38) (.tmp 40) 27 rfl wx.heap.size 5 _ 1 1 Try.underlying27 Try.info5 rfl (by decide) (.slice (some ⟨wx.heap.size, 0, none⟩) 0 0) 0 [] rfl (own_rebase' (own_empty 1 HE1.out rfl) (fun k hk => Nat.le_of_eq (Option.some.inj hk))) BA b.length bc (bytes b) rfl (by rw [bytes_len, Nat.mul_one]) HBE.out.news (fun e => by have h1 := HBE.out.empty e; rw [h1]; rfl) (bytes_one b) (by simp [maxLen]; omega) (by omega) HFE.out.size ?_; intro v3 w3 ho3 hg3 hm3; rw [Nat.zero_add, List.nil_append] at ho3; obtain ⟨A3, c3, rfl⟩ := own_slice ho3; have HF3 : Hid (Fr (fun _ => False) wx w3) := HFE.out.grown hg3 (fun k hk => .inl (Nat.le_of_eq (Option.some.inj hk))); have HO3 := Lib.hid ho3; have HX3 := Lib.hid (HX.out.fr0 HF3.out); have t0 := HF3.out.cell0 s0; have t1 := HF3.out.cell0 s1; have t2 := HF3.out.cell0 s2; have y0 := HF3.out.cell0 x0; have yb := HF3.out.cell0 xb; have ft0 := blk_frozen HX3.out.box 0; have ft1 := blk_frozen HX3.out.box 1; have ft2 := blk_frozen HX3.out.box 2; have e0 := ((Fr.refl (fun _ => False) w3).alloc (.cells #[.slice A3 b.length c3] 27)).cell0 t0; clear ho3 hg3 hm3)
          | (at_builtin; refine wpl_app rfl (.tmp 70) (.tmp 72) 47 rfl w.heap.size 27 _ 1 24 Try.underlying47 Try.info27 rfl (by decide) (.slice RA2 j.recs.length rc2) j.recs.length vs rfl (((Fr.refl (fun _ => False) w3).alloc (.cells #[.slice A3 b.length c3] 27)).own0 HX3.out.own) ⟨w3.heap.size, 0, none⟩ 1 1 [.slice A3 b.length c3] rfl rfl (news_of (blk_new _ _)) (by simp [Value.oneCell']) (by simp [maxLen]; omega) (by omega) (Nat.le_trans HX3.out.fr.size ((Fr.refl (fun _ => False) w3).alloc _).size) ?_; intro v4 w4 ho4 hg4 hm4; obtain ⟨A4, c4, rfl⟩ := own_slice ho4; have HW4 := Lib.hid (HX3.out.whole (b := b) (own_low HO3.out HWX.out) (((Fr.refl (fun _ => False) w3).alloc _).none.grown hg4 (fun k hk => .inr hk.symm)) (by first | exact ho4 | (rw [HLN.out]; exact ho4)) (hm4.imp id (fun h => ⟨_, h, ((Fr.refl (fun _ => False) w3).alloc _).size⟩))); have hb4 := ((((Fr.refl (fun _ => False) w3).alloc (.cells #[.slice A3 b.length c3] 27)).none.grown (S := fun k => some k = (Value.slice RA2 j.recs.length rc2).ownBlock) hg4 (fun k hk => .inr hk.symm)).blk HX3.out.box (own_ne HX3.out.own HX3.out.box (by decide))); have g0 := blk_frozen hb4 0; have g1 := blk_frozen hb4 1; have g2 := blk_frozen hb4 2; have k0 : w4.cell? ⟨gs, 0, none⟩ = some _ := blk_cell hb4 0; have k1 : w4.cell? ⟨gs, 1, none⟩ = some _ := blk_cell hb4 1; have k2 : w4.cell? ⟨gs, 2, none⟩ = some _ := blk_cell hb4 2; clear ho4 hg4 hm4 hb4))
        exact ⟨⟨i + 1, ⟨j.recs ++ [b], [], false⟩, _, _, none, 0, by omega, by go_num, HW4, HNX2, by simp, by simp; omega⟩, by simp [intOf]; omega⟩
      · have HFE : Hid (Fr (fun _ => False) wx (wx.alloc (.cells #[] 5))) := (Fr.refl _ wx).alloc _
        have HE1 : Hid ((wx.alloc (.cells #[] 5)).heap[wx.heap.size]? = some (.cells #[] 5 (0, 0))) := blk_new _ _
        have HBE : Hid (ReadB (wx.alloc (.cells #[] 5)) BA bc b) := HBX.out.below HFE.out.below0
        have xe : (wx.alloc (.cells #[] 5)).cell? ⟨gx, 1, none⟩ = some (.slice BA b.length bc) := HFE.out.cell0 xb
        have hjr9 : j.recs.length ≤ 90000200 := by omega
        have HNX2 : Hid (payF j0 l = payF ⟨j.recs, b, true⟩ (l.drop (i + 1))) := by show _ = _; rw [HPFX.out]; simp [jstep]
        go_wp2_with (at_builtin; refine wpl_appx rfl (.tmp 38) (.tmp 40) 27 rfl wx.heap.size 5 _ 1 1 Try.underlying27 Try.info5 rfl (by decide) (.slice (some ⟨wx.heap.size, 0, none⟩) 0 0) 0 [] rfl (own_rebase' (own_empty 1 HE1.out rfl) (fun k hk => Nat.le_of_eq (Option.some.inj hk))) BA b.length bc (bytes b) rfl (by rw [bytes_len, Nat.mul_one]) HBE.out.news (fun e => by have h1 := HBE.out.empty e; rw [h1]; rfl) (bytes_one b) (by simp [maxLen]; omega) (by omega) HFE.out.size ?_; intro v3 w3 ho3 hg3 hm3; rw [Nat.zero_add, List.nil_append] at ho3; obtain ⟨A3, c3, rfl⟩ := own_slice ho3; have HF3 : Hid (Fr (fun _ => False) wx w3) := HFE.out.grown hg3 (fun k hk => .inl (Nat.le_of_eq (Option.some.inj hk))); have HO3 := Lib.hid ho3; have HX3 := Lib.hid (HX.out.fr0 HF3.out); have t0 := HF3.out.cell0 s0; have t1 := HF3.out.cell0 s1; have t2 := HF3.out.cell0 s2; have y0 := HF3.out.cell0 x0; have yb := HF3.out.cell0 xb; have ft0 := blk_frozen HX3.out.box 0; have ft1 := blk_frozen HX3.out.box 1; have ft2 := blk_frozen HX3.out.box 2; have e0 := ((Fr.refl (fun _ => False) w3).alloc (.cells #[.slice A3 b.length c3] 27)).cell0 t0; clear ho3 hg3 hm3)
        exact ⟨⟨i + 1, ⟨j.recs, b, true⟩, _, _, _, _, by omega, by go_num, Lib.hid (HX3.out.begin (own_low HO3.out HWX.out)), HNX2, by show b.length ≤ 8192; omega, by simp; omega⟩, by simp [intOf]; omega⟩
      · cases hbg : j.begun
        · rw [hbg] at s1
          have HNONE : Hid (payF j0 l = none) := by show _ = _; rw [HPFX.out]; simp [jstep, hbg]
          have rr0 : wx.cell? ⟨gr, 0, none⟩ = some _ := blk_cell HX.out.res 0
          have rr1 : wx.cell? ⟨gr, 1, none⟩ = some _ := blk_cell HX.out.res 1
          have rr2 : wx.cell? ⟨gr, 2, none⟩ = some _ := blk_cell HX.out.res 2
          clear hbg
          go_wp2
          have hb5 := done3_blk HX.out.res (x := .slice none 0 0) (y := .bool false) (z := .slice none 0 0)
          obtain ⟨_, _, _, _, _, _, hbl⟩ := HX.out.done (done3 wx gr (.slice none 0 0) (.bool false) (.slice none 0 0)) (done3_fr _ _ _ _ _)
          have HBL := Lib.hid hbl
          rw [show ((wx.setCell ⟨gr, 0, none⟩ (.slice none 0 0)).setCell ⟨gr, 1, none⟩ (.bool false)).setCell ⟨gr, 2, none⟩ (.slice none 0 0) = done3 wx gr (.slice none 0 0) (.bool false) (.slice none 0 0) from rfl]
          have r0 := blk_cell hb5 0
          have r1 := blk_cell hb5 1
          have r2 := blk_cell hb5 2
          clear hbl hb5
          generalize done3 wx gr (.slice none 0 0) (.bool false) (.slice none 0 0) = w5 at *
          exact bodyPost_ret (v := .tuple #[.agg #[.slice none 0 0, .bool false, .slice none 0 0], .bool false]) (by simp [results, Try.results59, go_sem, r0, r1, r2]) rfl ⟨HBL.out, .inl ⟨HNONE.out, rfl⟩⟩
        · rw [hbg] at s1
          have HBG := Lib.hid hbg
          clear hbg
          have HFE : Hid (Fr (fun _ => False) wx (wx.alloc (.cells #[] 5))) := (Fr.refl _ wx).alloc _
          have HE1 : Hid ((wx.alloc (.cells #[] 5)).heap[wx.heap.size]? = some (.cells #[] 5 (0, 0))) := blk_new _ _
          have HBE : Hid (ReadB (wx.alloc (.cells #[] 5)) BA bc b) := HBX.out.below HFE.out.below0
          have xe : (wx.alloc (.cells #[] 5)).cell? ⟨gx, 1, none⟩ = some (.slice BA b.length bc) := HFE.out.cell0 xb
          have hjr9 : j.recs.length ≤ 90000200 := by omega
          go_upto_region 10 with (at_builtin; refine wpl_appx rfl (.tmp 38) (.tmp 40) 27 rfl wx.heap.size 5 _ 1 1 Try.underlying27 Try.info5 rfl (by decide) (.slice (some ⟨wx.heap.size, 0, none⟩) 0 0) 0 [] rfl (own_rebase' (own_empty 1 HE1.out rfl) (fun k hk => Nat.le_of_eq (Option.some.inj hk))) BA b.length bc (bytes b) rfl (by rw [bytes_len, Nat.mul_one]) HBE.out.news (fun e => by have h1 := HBE.out.empty e; rw [h1]; rfl) (bytes_one b) (by simp [maxLen]; omega) (by omega) HFE.out.size ?_; intro v3 w3 ho3 hg3 hm3; rw [Nat.zero_add, List.nil_append] at ho3; obtain ⟨A3, c3, rfl⟩ := own_slice ho3; have HF3 : Hid (Fr (fun _ => False) wx w3) := HFE.out.grown hg3 (fun k hk => .inl (Nat.le_of_eq (Option.some.inj hk))); have HO3 := Lib.hid ho3; have HX3 := Lib.hid (HX.out.fr0 HF3.out); have t0 := HF3.out.cell0 s0; have t1 := HF3.out.cell0 s1; have t2 := HF3.out.cell0 s2; have y0 := HF3.out.cell0 x0; have yb := HF3.out.cell0 xb; have ft0 := blk_frozen HX3.out.box 0; have ft1 := blk_frozen HX3.out.box 1; have ft2 := blk_frozen HX3.out.box 2; have e0 := ((Fr.refl (fun _ => False) w3).alloc (.cells #[.slice A3 b.length c3] 27)).cell0 t0; clear ho3 hg3 hm3)
          have HG5 : Hid (Fr (fun _ => False) w3 (w3.alloc (.cells #[] 5))) := (Fr.refl _ w3).alloc _
          have HE5 : Hid ((w3.alloc (.cells #[] 5)).heap[w3.heap.size]? = some (.cells #[] 5 (0, 0))) := blk_new _ _
          have p5 : (w3.alloc (.cells #[] 5)).cell? ⟨gs, 2, none⟩ = some (.slice OA j.opn.length oc) := HG5.out.cell0 t2
          have p6 : (w3.alloc (.cells #[] 5)).cell? ⟨gx, 1, none⟩ = some (.slice BA b.length bc) := HG5.out.cell0 yb
          have HOE : Hid (ReadB (w3.alloc (.cells #[] 5)) OA oc j.opn) := HX3.out.opn.read.below HG5.out.below0
          have HON : Hid (OA = none → j.opn.length = 0) := fun e => by have h1 := HOE.out.empty e; rw [h1]; rfl
          have HB3 : Hid (ReadB w3 BA bc b) := HBX.out.below HF3.out.below0
          have HBN : Hid (BA = none → b.length = 0) := fun e => by have h1 := HB3.out.empty e; rw [h1]; rfl
          have HM5 : Hid (0 + j.opn.length ≤ 1000000000) := by show _ ≤ _; omega
          have HM6 : Hid (j.opn.length + b.length ≤ 1000000000) := by show _ ≤ _; omega
          have pp := And.intro p5 p6
          refine wp_region_noPanic ?_
          refine wp_region_T (fun w' => w'.cell? ⟨gs, 2, none⟩ = some (.slice OA j.opn.length oc) ∧ w'.cell? ⟨gx, 1, none⟩ = some (.slice BA b.length bc)) 7 (by kernel_rfl) ⟨t2, yb⟩ (fun hS0 => ?_)
          refine wpAnyT_taked (i := 1) (d := 51) (v := ?_) rfl rfl (by kernel_rfl) (by kernel_rfl) (by kernel_rfl) (by kernel_rfl) rfl (fun _ _ _ h => h) (Or.inl ⟨by rfl, ?_⟩) (by assumption) ?_
          rotate_left 1
          · rintro w' ⟨hs0, hs1⟩
            go_simp
            try (with_reducible rfl)
          try simp only [Act.put, List.setIfInBounds_toArray, List.set_cons_zero, List.set_cons_succ]
          refine wpAnyT_taked (i := 2) (d := 52) (v := ?_) rfl rfl (by kernel_rfl) (by kernel_rfl) (by kernel_rfl) (by kernel_rfl) rfl (fun _ _ _ h => h) (Or.inl ⟨by rfl, ?_⟩) (by assumption) ?_
          rotate_left 1
          · rintro w' ⟨hs0, hs1⟩
            go_simp
            try (with_reducible rfl)
          try simp only [Act.put, List.setIfInBounds_toArray, List.set_cons_zero, List.set_cons_succ]
          refine wpAnyT_taked (i := 4) (d := 54) (v := ?_) rfl rfl (by kernel_rfl) (by kernel_rfl) (by kernel_rfl) (by kernel_rfl) rfl (fun _ _ _ h => h) (Or.inl ⟨by rfl, ?_⟩) (by assumption) ?_
          rotate_left 1
          · rintro w' ⟨hs0, hs1⟩
            go_simp
            try (with_reducible rfl)
          try simp only [Act.put, List.setIfInBounds_toArray, List.set_cons_zero, List.set_cons_succ]
          refine wpAnyT_taked (i := 5) (d := 55) (v := ?_) rfl rfl (by kernel_rfl) (by kernel_rfl) (by kernel_rfl) (by kernel_rfl) rfl (fun _ _ _ h => h) (Or.inl ⟨by rfl, ?_⟩) (by assumption) ?_
          rotate_left 1
          · rintro w' ⟨hs0, hs1⟩
            go_simp
            try (with_reducible rfl)
          try simp only [Act.put, List.setIfInBounds_toArray, List.set_cons_zero, List.set_cons_succ]
          refine wpAnyT_one (i := 0) (by kernel_rfl) rfl rfl (fun K hK => ?_)
          go_simp
          refine hK.out _ _ pp ?_
          clear hK K
          try simp only [Act.put, List.setIfInBounds_toArray, List.set_cons_zero, List.set_cons_succ]
          refine wpAnyT_one (i := 3) (by kernel_rfl) rfl rfl (fun K hK => ?_)
          refine app_u8x (by rfl) (.tmp 50) (.tmp 52) (by rfl) w3.heap.size (.slice (some ⟨w3.heap.size, 0, none⟩) 0 0) 0 [] (by rfl) (own_rebase' (own_empty 1 HE5.out rfl) (fun k hk => Nat.le_of_eq (Option.some.inj hk))) OA j.opn.length oc j.opn (by rfl) HOE.out.news HON.out rfl HM5.out HG5.out.size ?_
          intro v5 w5 ho5 hg5 hm5
          obtain ⟨A5, c5, rfl⟩ := own_slice ho5
          simp only [Nat.zero_add, List.nil_append] at ho5 ⊢
          have HF5 : Hid (Fr (fun _ => False) w3 w5) := (by first | exact HG5.out.grown hg5 (fun k hk => .inl (Nat.le_of_eq (Option.some.inj hk))) | exact HG5.out.drew.grown hg5 (fun k hk => .inl (Nat.le_of_eq (Option.some.inj hk))))
          have HO5 : Hid (w5.ownsRow w3.heap.size 5 1 (.slice A5 j.opn.length c5) j.opn.length (bytes j.opn)) := ho5
          have hS5 : w5.cell? ⟨gs, 2, none⟩ = some (.slice OA j.opn.length oc) ∧ w5.cell? ⟨gx, 1, none⟩ = some (.slice BA b.length bc) := ⟨HF5.out.cell0 t2, HF5.out.cell0 yb⟩
          have HB5 : Hid (ReadB w5 BA bc b) := HB3.out.below HF5.out.below0
          refine hK.out _ _ hS5 ?_
          clear hK K hS0 ho5 hg5 hm5 pp p5 p6
          try simp only [Act.put, List.setIfInBounds_toArray, List.set_cons_zero, List.set_cons_succ]
          refine wpAnyT_one (i := 6) (by kernel_rfl) rfl rfl (fun K hK => ?_)
          refine app_u8x (by rfl) (.tmp 53) (.tmp 55) (by rfl) w3.heap.size (.slice A5 j.opn.length c5) j.opn.length (bytes j.opn) (by rfl) HO5.out BA b.length bc b (by rfl) HB5.out.news HBN.out rfl HM6.out HF5.out.size ?_
          intro v6 w6 ho6 hg6 hm6
          obtain ⟨A6, c6, rfl⟩ := own_slice ho6
          have HF6 : Hid (Fr (fun _ => False) w3 w6) := HF5.out.grown hg6 (fun k hk => .inl (HO5.out.lt k hk).1)
          have HLN : Hid ((j.opn ++ b).length = j.opn.length + b.length) := List.length_append
          have HO6 : Hid (w6.ownsRow wx.heap.size 5 1 (.slice A6 (j.opn ++ b).length c6) (j.opn ++ b).length (bytes (j.opn ++ b))) := by rw [HLN.out, bytes_app]; exact own_low ho6 HF3.out.size
          have HX6 := Lib.hid (HX3.out.fr0 HF6.out)
          have hS6 : w6.cell? ⟨gs, 2, none⟩ = some (.slice OA j.opn.length oc) ∧ w6.cell? ⟨gx, 1, none⟩ = some (.slice BA b.length bc) := ⟨HF6.out.cell0 t2, HF6.out.cell0 yb⟩
          refine hK.out _ _ hS6 ?_
          clear hK K hS5 ho6 hg6 hm6
          try simp only [Act.put, List.setIfInBounds_toArray, List.set_cons_zero, List.set_cons_succ]
          refine wpAnyT_last (by kernel_rfl) rfl (by kernel_rfl) (fun K hK => ?_)
          go_simp
          refine hK.out _ _ ?_
          clear hK K
          refine NoPanic.normal ?_
          have u0 := HF6.out.cell0 t0
          have u1 := HF6.out.cell0 t1
          have u2 := HF6.out.cell0 t2
          have uy := HF6.out.cell0 y0
          have ft0' := blk_frozen HX6.out.box 0
          have ft1' := blk_frozen HX6.out.box 1
          have ft2' := blk_frozen HX6.out.box 2
          have rr0 : w6.cell? ⟨gr, 0, none⟩ = some _ := blk_cell HX6.out.res 0
          have rr1 : w6.cell? ⟨gr, 1, none⟩ = some _ := blk_cell HX6.out.res 1
          have rr2 : w6.cell? ⟨gr, 2, none⟩ = some _ := blk_cell HX6.out.res 2
          have fg0 := blk_frozen HX6.out.res 0
          have fg1 := blk_frozen HX6.out.res 1
          have fg2 := blk_frozen HX6.out.res 2
          have HO6' : Hid (w6.ownsRow wx.heap.size 5 1 (.slice A6 (j.opn.length + b.length) c6) (j.opn.length + b.length) (bytes (j.opn ++ b))) := by have h1 := HO6.out; rw [HLN.out] at h1; exact h1
          have e6 := ((Fr.refl (fun _ => False) w6).alloc (.cells #[.slice A6 (j.opn.length + b.length) c6] 27)).cell0 u0
          by_cases hov : 8192 < j.opn.length + b.length
          · have HNONE : Hid (payF j0 l = none) := by show _ = _; rw [HPFX.out]; simp [jstep, HBG.out, hov]
            have hovi : (8192 : Int) < (j.opn.length : Int) + (b.length : Int) := by omega
            go_wp2
            have hb5 := done3_blk HX6.out.res (x := .slice none 0 0) (y := .bool false) (z := .slice none 0 0)
            obtain ⟨_, _, _, _, _, _, hbl⟩ := HX6.out.done (done3 w6 gr (.slice none 0 0) (.bool false) (.slice none 0 0)) (done3_fr _ _ _ _ _)
            have HBL := Lib.hid hbl
            rw [show ((w6.setCell ⟨gr, 0, none⟩ (.slice none 0 0)).setCell ⟨gr, 1, none⟩ (.bool false)).setCell ⟨gr, 2, none⟩ (.slice none 0 0) = done3 w6 gr (.slice none 0 0) (.bool false) (.slice none 0 0) from rfl]
            have r0 := blk_cell hb5 0
            have r1 := blk_cell hb5 1
            have r2 := blk_cell hb5 2
            clear hbl hb5
            generalize done3 w6 gr (.slice none 0 0) (.bool false) (.slice none 0 0) = w5 at *
            exact bodyPost_ret (v := .tuple #[.agg #[.slice none 0 0, .bool false, .slice none 0 0], .bool false]) (by simp [results, Try.results59, go_sem, r0, r1, r2]) rfl ⟨HBL.out, .inl ⟨HNONE.out, rfl⟩⟩
          · have hovi : ¬ (8192 : Int) < (j.opn.length : Int) + (b.length : Int) := by omega
            have HNX2 : Hid (payF j0 l = payF ⟨j.recs, j.opn ++ b, true⟩ (l.drop (i + 1))) := by show _ = _; rw [HPFX.out]; simp [jstep, HBG.out, hov]
            have hBG : PK S0 w gs gr _ _ _ _ _ _ := HX6.out.begin (b := j.opn ++ b) (own_low HO6.out HWX.out)
            rw [HLN.out] at hBG
            have HBGN := Lib.hid hBG
            clear hBG
            go_wp2
            exact ⟨⟨i + 1, ⟨j.recs, j.opn ++ b, true⟩, _, _, _, _, by omega, by go_num, Lib.hid (HBGN.out), HNX2, by show (j.opn ++ b).length ≤ 8192; rw [HLN.out]; omega, by simp; omega⟩, by simp [intOf]; omega⟩
      · cases hbg : j.begun
        · rw [hbg] at s1
          have HNONE : Hid (payF j0 l = none) := by show _ = _; rw [HPFX.out]; simp [jstep, hbg]
          have rr0 : wx.cell? ⟨gr, 0, none⟩ = some _ := blk_cell HX.out.res 0
          have rr1 : wx.cell? ⟨gr, 1, none⟩ = some _ := blk_cell HX.out.res 1
          have rr2 : wx.cell? ⟨gr, 2, none⟩ = some _ := blk_cell HX.out.res 2
          clear hbg
          go_wp2
          have hb5 := done3_blk HX.out.res (x := .slice none 0 0) (y := .bool false) (z := .slice none 0 0)
          obtain ⟨_, _, _, _, _, _, hbl⟩ := HX.out.done (done3 wx gr (.slice none 0 0) (.bool false) (.slice none 0 0)) (done3_fr _ _ _ _ _)
          have HBL := Lib.hid hbl
          rw [show ((wx.setCell ⟨gr, 0, none⟩ (.slice none 0 0)).setCell ⟨gr, 1, none⟩ (.bool false)).setCell ⟨gr, 2, none⟩ (.slice none 0 0) = done3 wx gr (.slice none 0 0) (.bool false) (.slice none 0 0) from rfl]
          have r0 := blk_cell hb5 0
          have r1 := blk_cell hb5 1
          have r2 := blk_cell hb5 2
          clear hbl hb5
          generalize done3 wx gr (.slice none 0 0) (.bool false) (.slice none 0 0) = w5 at *
          exact bodyPost_ret (v := .tuple #[.agg #[.slice none 0 0, .bool false, .slice none 0 0], .bool false]) (by simp [results, Try.results59, go_sem, r0, r1, r2]) rfl ⟨HBL.out, .inl ⟨HNONE.out, rfl⟩⟩
        · rw [hbg] at s1
          have HBG := Lib.hid hbg
          clear hbg
          have HFE : Hid (Fr (fun _ => False) wx (wx.alloc (.cells #[] 5))) := (Fr.refl _ wx).alloc _
          have HE1 : Hid ((wx.alloc (.cells #[] 5)).heap[wx.heap.size]? = some (.cells #[] 5 (0, 0))) := blk_new _ _
          have HBE : Hid (ReadB (wx.alloc (.cells #[] 5)) BA bc b) := HBX.out.below HFE.out.below0
          have xe : (wx.alloc (.cells #[] 5)).cell? ⟨gx, 1, none⟩ = some (.slice BA b.length bc) := HFE.out.cell0 xb
          have hjr9 : j.recs.length ≤ 90000200 := by omega
          go_upto_region 10 with (at_builtin; refine wpl_appx rfl (.tmp 38) (.tmp 40) 27 rfl wx.heap.size 5 _ 1 1 Try.underlying27 Try.info5 rfl (by decide) (.slice (some ⟨wx.heap.size, 0, none⟩) 0 0) 0 [] rfl (own_rebase' (own_empty 1 HE1.out rfl) (fun k hk => Nat.le_of_eq (Option.some.inj hk))) BA b.length bc (bytes b) rfl (by rw [bytes_len, Nat.mul_one]) HBE.out.news (fun e => by have h1 := HBE.out.empty e; rw [h1]; rfl) (bytes_one b) (by simp [maxLen]; omega) (by omega) HFE.out.size ?_; intro v3 w3 ho3 hg3 hm3; rw [Nat.zero_add, List.nil_append] at ho3; obtain ⟨A3, c3, rfl⟩ := own_slice ho3; have HF3 : Hid (Fr (fun _ => False) wx w3) := HFE.out.grown hg3 (fun k hk => .inl (Nat.le_of_eq (Option.some.inj hk))); have HO3 := Lib.hid ho3; have HX3 := Lib.hid (HX.out.fr0 HF3.out); have t0 := HF3.out.cell0 s0; have t1 := HF3.out.cell0 s1; have t2 := HF3.out.cell0 s2; have y0 := HF3.out.cell0 x0; have yb := HF3.out.cell0 xb; have ft0 := blk_frozen HX3.out.box 0; have ft1 := blk_frozen HX3.out.box 1; have ft2 := blk_frozen HX3.out.box 2; have e0 := ((Fr.refl (fun _ => False) w3).alloc (.cells #[.slice A3 b.length c3] 27)).cell0 t0; clear ho3 hg3 hm3)
          have HG5 : Hid (Fr (fun _ => False) w3 (w3.alloc (.cells #[] 5))) := (Fr.refl _ w3).alloc _
          have HE5 : Hid ((w3.alloc (.cells #[] 5)).heap[w3.heap.size]? = some (.cells #[] 5 (0, 0))) := blk_new _ _
          have p5 : (w3.alloc (.cells #[] 5)).cell? ⟨gs, 2, none⟩ = some (.slice OA j.opn.length oc) := HG5.out.cell0 t2
          have p6 : (w3.alloc (.cells #[] 5)).cell? ⟨gx, 1, none⟩ = some (.slice BA b.length bc) := HG5.out.cell0 yb
          have HOE : Hid (ReadB (w3.alloc (.cells #[] 5)) OA oc j.opn) := HX3.out.opn.read.below HG5.out.below0
          have HON : Hid (OA = none → j.opn.length = 0) := fun e => by have h1 := HOE.out.empty e; rw [h1]; rfl
          have HB3 : Hid (ReadB w3 BA bc b) := HBX.out.below HF3.out.below0
          have HBN : Hid (BA = none → b.length = 0) := fun e => by have h1 := HB3.out.empty e; rw [h1]; rfl
          have HM5 : Hid (0 + j.opn.length ≤ 1000000000) := by show _ ≤ _; omega
          have HM6 : Hid (j.opn.length + b.length ≤ 1000000000) := by show _ ≤ _; omega
          have pp := And.intro p5 p6
          refine wp_region_noPanic ?_
          refine wp_region_T (fun w' => w'.cell? ⟨gs, 2, none⟩ = some (.slice OA j.opn.length oc) ∧ w'.cell? ⟨gx, 1, none⟩ = some (.slice BA b.length bc)) 7 (by kernel_rfl) ⟨t2, yb⟩ (fun hS0 => ?_)
          refine wpAnyT_taked (i := 1) (d := 51) (v := ?_) rfl rfl (by kernel_rfl) (by kernel_rfl) (by kernel_rfl) (by kernel_rfl) rfl (fun _ _ _ h => h) (Or.inl ⟨by rfl, ?_⟩) (by assumption) ?_
          rotate_left 1
          · rintro w' ⟨hs0, hs1⟩
            go_simp
            try (with_reducible rfl)
          try simp only [Act.put, List.setIfInBounds_toArray, List.set_cons_zero, List.set_cons_succ]
          refine wpAnyT_taked (i := 2) (d := 52) (v := ?_) rfl rfl (by kernel_rfl) (by kernel_rfl) (by kernel_rfl) (by kernel_rfl) rfl (fun _ _ _ h => h) (Or.inl ⟨by rfl, ?_⟩) (by assumption) ?_
          rotate_left 1
          · rintro w' ⟨hs0, hs1⟩
            go_simp
            try (with_reducible rfl)
          try simp only [Act.put, List.setIfInBounds_toArray, List.set_cons_zero, List.set_cons_succ]
          refine wpAnyT_taked (i := 4) (d := 54) (v := ?_) rfl rfl (by kernel_rfl) (by kernel_rfl) (by kernel_rfl) (by kernel_rfl) rfl (fun _ _ _ h => h) (Or.inl ⟨by rfl, ?_⟩) (by assumption) ?_
          rotate_left 1
          · rintro w' ⟨hs0, hs1⟩
            go_simp
            try (with_reducible rfl)
          try simp only [Act.put, List.setIfInBounds_toArray, List.set_cons_zero, List.set_cons_succ]
          refine wpAnyT_taked (i := 5) (d := 55) (v := ?_) rfl rfl (by kernel_rfl) (by kernel_rfl) (by kernel_rfl) (by kernel_rfl) rfl (fun _ _ _ h => h) (Or.inl ⟨by rfl, ?_⟩) (by assumption) ?_
          rotate_left 1
          · rintro w' ⟨hs0, hs1⟩
            go_simp
            try (with_reducible rfl)
          try simp only [Act.put, List.setIfInBounds_toArray, List.set_cons_zero, List.set_cons_succ]
          refine wpAnyT_one (i := 0) (by kernel_rfl) rfl rfl (fun K hK => ?_)
          go_simp
          refine hK.out _ _ pp ?_
          clear hK K
          try simp only [Act.put, List.setIfInBounds_toArray, List.set_cons_zero, List.set_cons_succ]
          refine wpAnyT_one (i := 3) (by kernel_rfl) rfl rfl (fun K hK => ?_)
          refine app_u8x (by rfl) (.tmp 50) (.tmp 52) (by rfl) w3.heap.size (.slice (some ⟨w3.heap.size, 0, none⟩) 0 0) 0 [] (by rfl) (own_rebase' (own_empty 1 HE5.out rfl) (fun k hk => Nat.le_of_eq (Option.some.inj hk))) OA j.opn.length oc j.opn (by rfl) HOE.out.news HON.out rfl HM5.out HG5.out.size ?_
          intro v5 w5 ho5 hg5 hm5
          obtain ⟨A5, c5, rfl⟩ := own_slice ho5
          simp only [Nat.zero_add, List.nil_append] at ho5 ⊢
          have HF5 : Hid (Fr (fun _ => False) w3 w5) := (by first | exact HG5.out.grown hg5 (fun k hk => .inl (Nat.le_of_eq (Option.some.inj hk))) | exact HG5.out.drew.grown hg5 (fun k hk => .inl (Nat.le_of_eq (Option.some.inj hk))))
          have HO5 : Hid (w5.ownsRow w3.heap.size 5 1 (.slice A5 j.opn.length c5) j.opn.length (bytes j.opn)) := ho5
          have hS5 : w5.cell? ⟨gs, 2, none⟩ = some (.slice OA j.opn.length oc) ∧ w5.cell? ⟨gx, 1, none⟩ = some (.slice BA b.length bc) := ⟨HF5.out.cell0 t2, HF5.out.cell0 yb⟩
          have HB5 : Hid (ReadB w5 BA bc b) := HB3.out.below HF5.out.below0
          refine hK.out _ _ hS5 ?_
          clear hK K hS0 ho5 hg5 hm5 pp p5 p6
          try simp only [Act.put, List.setIfInBounds_toArray, List.set_cons_zero, List.set_cons_succ]
          refine wpAnyT_one (i := 6) (by kernel_rfl) rfl rfl (fun K hK => ?_)
          refine app_u8x (by rfl) (.tmp 53) (.tmp 55) (by rfl) w3.heap.size (.slice A5 j.opn.length c5) j.opn.length (bytes j.opn) (by rfl) HO5.out BA b.length bc b (by rfl) HB5.out.news HBN.out rfl HM6.out HF5.out.size ?_
          intro v6 w6 ho6 hg6 hm6
          obtain ⟨A6, c6, rfl⟩ := own_slice ho6
          have HF6 : Hid (Fr (fun _ => False) w3 w6) := HF5.out.grown hg6 (fun k hk => .inl (HO5.out.lt k hk).1)
          have HLN : Hid ((j.opn ++ b).length = j.opn.length + b.length) := List.length_append
          have HO6 : Hid (w6.ownsRow wx.heap.size 5 1 (.slice A6 (j.opn ++ b).length c6) (j.opn ++ b).length (bytes (j.opn ++ b))) := by rw [HLN.out, bytes_app]; exact own_low ho6 HF3.out.size
          have HX6 := Lib.hid (HX3.out.fr0 HF6.out)
          have hS6 : w6.cell? ⟨gs, 2, none⟩ = some (.slice OA j.opn.length oc) ∧ w6.cell? ⟨gx, 1, none⟩ = some (.slice BA b.length bc) := ⟨HF6.out.cell0 t2, HF6.out.cell0 yb⟩
          refine hK.out _ _ hS6 ?_
          clear hK K hS5 ho6 hg6 hm6
          try simp only [Act.put, List.setIfInBounds_toArray, List.set_cons_zero, List.set_cons_succ]
          refine wpAnyT_last (by kernel_rfl) rfl (by kernel_rfl) (fun K hK => ?_)
          go_simp
          refine hK.out _ _ ?_
          clear hK K
          refine NoPanic.normal ?_
          have u0 := HF6.out.cell0 t0
          have u1 := HF6.out.cell0 t1
          have u2 := HF6.out.cell0 t2
          have uy := HF6.out.cell0 y0
          have ft0' := blk_frozen HX6.out.box 0
          have ft1' := blk_frozen HX6.out.box 1
          have ft2' := blk_frozen HX6.out.box 2
          have rr0 : w6.cell? ⟨gr, 0, none⟩ = some _ := blk_cell HX6.out.res 0
          have rr1 : w6.cell? ⟨gr, 1, none⟩ = some _ := blk_cell HX6.out.res 1
          have rr2 : w6.cell? ⟨gr, 2, none⟩ = some _ := blk_cell HX6.out.res 2
          have fg0 := blk_frozen HX6.out.res 0
          have fg1 := blk_frozen HX6.out.res 1
          have fg2 := blk_frozen HX6.out.res 2
          have HO6' : Hid (w6.ownsRow wx.heap.size 5 1 (.slice A6 (j.opn.length + b.length) c6) (j.opn.length + b.length) (bytes (j.opn ++ b))) := by have h1 := HO6.out; rw [HLN.out] at h1; exact h1
          have e6 := ((Fr.refl (fun _ => False) w6).alloc (.cells #[.slice A6 (j.opn.length + b.length) c6] 27)).cell0 u0
          by_cases hov : 8192 < j.opn.length + b.length
          · have HNONE : Hid (payF j0 l = none) := by show _ = _; rw [HPFX.out]; simp [jstep, HBG.out, hov]
            have hovi : (8192 : Int) < (j.opn.length : Int) + (b.length : Int) := by omega
            go_wp2
            have hb5 := done3_blk HX6.out.res (x := .slice none 0 0) (y := .bool false) (z := .slice none 0 0)
            obtain ⟨_, _, _, _, _, _, hbl⟩ := HX6.out.done (done3 w6 gr (.slice none 0 0) (.bool false) (.slice none 0 0)) (done3_fr _ _ _ _ _)
            have HBL := Lib.hid hbl
            rw [show ((w6.setCell ⟨gr, 0, none⟩ (.slice none 0 0)).setCell ⟨gr, 1, none⟩ (.bool false)).setCell ⟨gr, 2, none⟩ (.slice none 0 0) = done3 w6 gr (.slice none 0 0) (.bool false) (.slice none 0 0) from rfl]
            have r0 := blk_cell hb5 0
            have r1 := blk_cell hb5 1
            have r2 := blk_cell hb5 2
            clear hbl hb5
            generalize done3 w6 gr (.slice none 0 0) (.bool false) (.slice none 0 0) = w5 at *
            exact bodyPost_ret (v := .tuple #[.agg #[.slice none 0 0, .bool false, .slice none 0 0], .bool false]) (by simp [results, Try.results59, go_sem, r0, r1, r2]) rfl ⟨HBL.out, .inl ⟨HNONE.out, rfl⟩⟩
          · have hovi : ¬ (8192 : Int) < (j.opn.length : Int) + (b.length : Int) := by omega
            have HNX2 : Hid (payF j0 l = payF ⟨j.recs ++ [j.opn ++ b], [], false⟩ (l.drop (i + 1))) := by show _ = _; rw [HPFX.out]; simp [jstep, HBG.out, hov]
            go_wp2_with (at_builtin; refine wpl_app rfl (.tmp 70) (.tmp 72) 47 rfl w.heap.size 27 _ 1 24 Try.underlying47 Try.info27 rfl (by decide) (.slice RA2 j.recs.length rc2) j.recs.length vs rfl (((Fr.refl (fun _ => False) w6).alloc (.cells #[.slice A6 (j.opn.length + b.length) c6] 27)).own0 HX6.out.own) ⟨w6.heap.size, 0, none⟩ 1 1 [.slice A6 (j.opn.length + b.length) c6] rfl rfl (news_of (blk_new _ _)) (by simp [Value.oneCell']) (by simp [maxLen]; omega) (by omega) (Nat.le_trans HX6.out.fr.size ((Fr.refl (fun _ => False) w6).alloc _).size) ?_; intro v4 w4 ho4 hg4 hm4; obtain ⟨A4, c4, rfl⟩ := own_slice ho4; have HW4 := Lib.hid (HX6.out.whole (b := j.opn ++ b) (own_low HO6.out HWX.out) (((Fr.refl (fun _ => False) w6).alloc _).none.grown hg4 (fun k hk => .inr hk.symm)) (by first | exact ho4 | (rw [HLN.out]; exact ho4)) (hm4.imp id (fun h => ⟨_, h, ((Fr.refl (fun _ => False) w6).alloc _).size⟩))); have hb4 := ((((Fr.refl (fun _ => False) w6).alloc (.cells #[.slice A6 (j.opn.length + b.length) c6] 27)).none.grown (S := fun k => some k = (Value.slice RA2 j.recs.length rc2).ownBlock) hg4 (fun k hk => .inr hk.symm)).blk HX6.out.box (own_ne HX6.out.own HX6.out.box (by decide))); have g0 := blk_frozen hb4 0; have g1 := blk_frozen hb4 1; have g2 := blk_frozen hb4 2; have k0 : w4.cell? ⟨gs, 0, none⟩ = some _ := blk_cell hb4 0; have k1 : w4.cell? ⟨gs, 1, none⟩ = some _ := blk_cell hb4 1; have k2 : w4.cell? ⟨gs, 2, none⟩ = some _ := blk_cell hb4 2; clear ho4 hg4 hm4 hb4)
            exact ⟨⟨i + 1, ⟨j.recs ++ [j.opn ++ b], [], false⟩, _, _, none, 0, by omega, by go_num, HW4, HNX2, by simp, by simp; omega⟩, by simp [intOf]; omega⟩
    · have hie : i = l.length := by omega
      subst hie
      have hpf := HPF.out
      rw [List.drop_length] at hpf
      have hpf2 : payF j0 l = some j := hpf
      obtain ⟨RA2, rc2, hW⟩ := own_slice HPK.out.own
      subst hW
      have hb5 := done3_blk HPK.out.res (x := .slice RA2 j.recs.length rc2) (y := .bool j.begun) (z := .slice OA j.opn.length oc)
      obtain ⟨RA3, rc3, e3, hrc3, hrr3, hro3, hbl⟩ := HPK.out.done (done3 wr gr (.slice RA2 j.recs.length rc2) (.bool j.begun) (.slice OA j.opn.length oc)) (done3_fr _ _ _ _ _)
      simp only [Value.slice.injEq] at e3
      obtain ⟨rfl, _, rfl⟩ := e3
      have s0 : wr.cell? ⟨gs, 0, none⟩ = some (.slice RA2 j.recs.length rc2) := blk_cell HPK.out.box 0
      have s1 : wr.cell? ⟨gs, 1, none⟩ = some (.bool j.begun) := blk_cell HPK.out.box 1
      have s2 : wr.cell? ⟨gs, 2, none⟩ = some (.slice OA j.opn.length oc) := blk_cell HPK.out.box 2
      have rr0 : wr.cell? ⟨gr, 0, none⟩ = some _ := blk_cell HPK.out.res 0
      have rr1 : wr.cell? ⟨gr, 1, none⟩ = some _ := blk_cell HPK.out.res 1
      have rr2 : wr.cell? ⟨gr, 2, none⟩ = some _ := blk_cell HPK.out.res 2
      have fg0 := blk_frozen HPK.out.res 0
      have fg1 := blk_frozen HPK.out.res 1
      have fg2 := blk_frozen HPK.out.res 2
      have HBL := Lib.hid hbl
      have HPF2 := Lib.hid hpf2
      have HRR3 := Lib.hid hrr3
      have HRO3 := Lib.hid hro3
      have HRC3 := Lib.hid hrc3
      have HB5 := Lib.hid hb5
      clear hpf hpf2 hbl hrr3 hro3 hrc3 hb5
      go_wp2
      have hb5 := HB5.out
      rw [show ((wr.setCell ⟨gr, 0, none⟩ (.slice RA2 j.recs.length rc2)).setCell ⟨gr, 1, none⟩ (.bool j.begun)).setCell ⟨gr, 2, none⟩ (.slice OA j.opn.length oc) = done3 wr gr (.slice RA2 j.recs.length rc2) (.bool j.begun) (.slice OA j.opn.length oc) from rfl]
      have r0 := blk_cell hb5 0
      have r1 := blk_cell hb5 1
      have r2 := blk_cell hb5 2
      clear hb5
      generalize done3 wr gr (.slice RA2 j.recs.length rc2) (.bool j.begun) (.slice OA j.opn.length oc) = w5 at *
      exact bodyPost_ret (v := .tuple #[.agg #[.slice RA2 j.recs.length rc2, .bool j.begun, .slice OA j.opn.length oc], .bool true]) (by simp [results, Try.results59, go_sem, r0, r1, r2]) rfl ⟨HBL.out, .inr ⟨j, RA2, rc2, OA, oc, HPF2.out, rfl, HRC3.out, HRR3.out, HRO3.out⟩⟩
end Go.Proofs.Ytedmhhllkkgbjaa
