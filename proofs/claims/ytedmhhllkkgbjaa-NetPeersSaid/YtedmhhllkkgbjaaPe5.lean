/- NetOnce's walk. -/
import Derived.Test.YtedmhhllkkgbjaaPe4
import Derived.Test.YtedmhhllkkgbjaaNet7
import Derived.Laws.StructEq
namespace Go.Proofs.Ytedmhhllkkgbjaa
open Go.RowKit Go.WideShapes
set_option linter.unusedSimpArgs false
set_option linter.unusedVariables false

def Fine (m : Msg) : Prop := m.kind = 1 ∧ m.peer = 3 ∧ 0 ≤ m.seq ∧ (Lit.int .i64 m.seq).wf = true
def OnceInv (w0 : World) (g bw bg : Nat) (first : List Msg) (f : Value) (K : Nat) (wr : World) : Prop :=
  ∃ kg D, kg ≤ K ∧ Hid (PeerAt wr g 3 (.slice none 0 0) bw bg 0 kg (.map []) D) ∧ Hid (MapIs D first) ∧ Hid (wr.ownsRow w0.heap.size 71 5 f first.length (first.flatMap Msg.cells)) ∧ Hid (∀ m ∈ first, Fine m) ∧ Hid (Fr (fun k => w0.heap.size ≤ k) w0 wr)
theorem OnceInv.fr0 {w0 : World} {g bw bg : Nat} {first : List Msg} {f : Value} {K : Nat} {wr w' : World} (h : OnceInv w0 g bw bg first f K wr) (hF : Fr (fun _ => False) wr w') : OnceInv w0 g bw bg first f K w' := by
  obtain ⟨kg, D, h1, h2, h3, h4, h5, h6⟩ := h
  exact ⟨kg, D, h1, h2.out.fr0 hF, h3, hF.own0 h4.out, h5, h6.out.trans hF (fun _ _ h => h.elim)⟩
theorem own_notmap {w : World} {B n b k0 : Nat} {e : TypeId} {size : Nat} {v : Value} {xs : List Value} {R : Value → Option (DataW Msg × List MemPlace)} {D : DataW Msg} (h : w.ownsRow B e size v n xs) (hm : w.ownsMap Try.prog 3 R b k0 D) : ∀ k, v.ownBlock = some k → k ≠ b := by
  obtain ⟨es, clock, hb, _⟩ := hm
  exact own_iter h hb (fun _ _ _ e => by cases e)

def ReadU (w : World) (A : Option Addr) (l : List Int) : Prop := ∀ (i : Nat) (x : Int), l[i]? = some x → ∃ g o, A = some ⟨g, o, none⟩ ∧ w.cell? ⟨g, o + i, none⟩ = some (.int .u8 x)

set_option maxRecDepth 100000 in
set_option maxHeartbeats 8000000 in
theorem once_any (A A' : Option Addr) (c c' : Nat) (ms : List Msg) (ag : List Int) (w : World) (hl : ms.length ≤ maxLen) (hl' : ag.length ≤ maxLen) (hR : ReadM w A ms) (hwf : ∀ m ∈ ms, (Lit.int .i64 m.seq).wf = true) (hU : ReadU w A' ag) (hub : ∀ x ∈ ag, 0 ≤ x ∧ x < 256) :
    Calls Try.prog 11 #[.slice A ms.length c, .slice A' ag.length c'] w (fun e w' => e = .returned (.bool true) ∧ Below w.heap.size w w') := by
  have HR := Lib.hid hR
  have HWF := Lib.hid hwf
  have HU := Lib.hid hU
  have HUB := Lib.hid hub
  clear hR hwf hU hub
  go_enter Try.func11, Try.ntmps11
  go_wp2_with fail
  refine (newPeer_any w 3 (by omega) (by omega)).mono ?_
  rintro e w1 ⟨g, bw, bg, rfl, hP, hF1, hg, hbw, hbg⟩
  have HP := Lib.hid hP
  have HF1 := Lib.hid hF1
  clear hP hF1
  go_wp2_with fail
  refine (awake_net w1).mono ?_
  rintro e w2 ⟨rfl, hF2⟩
  have I0 : Hid (OnceInv w g bw bg [] (.slice none 0 0) 0 w2) := ⟨0, .map [], Nat.le_refl _, HP.out.fr0 hF2, MapIs.nil, ⟨by simp, .inl ⟨rfl, rfl⟩⟩, fun m hm => by simp at hm, (HF1.out.none.trans hF2 (fun _ _ h => h.elim))⟩
  clear hF2 HP HF1
  go_upto_block 0 with (fail)
  go_cut [7] (fun f wd => ∃ (first : List Msg) (U : Option Addr) (uc : Nat), f = .slice U first.length uc ∧ first.length ≤ 40 ∧ Hid (OnceInv w g bw bg first f 40 wd))
  case first =>
    go_wp2_with fail
    go_loopw [7, 8] (fun f k wr => ∃ (i : Nat) (first : List Msg) (U : Option Addr) (uc : Nat), i ≤ ms.length ∧ i ≤ 40 ∧ k = .int .i64 i ∧ f = .slice U first.length uc ∧ first.length ≤ i ∧ Hid (OnceInv w g bw bg first f i wr)) (fun _ k _ => 40 - (intOf k).toNat)
    case atStart => exact ⟨0, [], none, 0, by omega, by omega, rfl, rfl, by simp, I0⟩
    case round =>
      clear I0
      obtain ⟨i, first, U, uc, hi, hi4, rfl, rfl, hfi, HI⟩ := hrel
      by_cases hlt : i < ms.length ∧ i < 40
      · obtain ⟨hlt, hlt4⟩ := hlt
        obtain ⟨m, hm⟩ : ∃ m, ms[i]? = some m := ⟨_, List.getElem?_eq_getElem hlt⟩
        obtain ⟨qg, qo, rfl, hq⟩ := HR.out i m hm
        obtain ⟨kg, D, hkg, HP, HM, HO, HFI, HF⟩ := HI.out
        have hbel : Below w.heap.size w wr := HF.out.below (Nat.le_refl _) (fun _ h => h)
        have hqq := fun (j : Nat) (u : Value) (hu : m.cells[j]? = some u) => (Fr.of_below hbel (fun _ => False)).cell0 (hq j u hu)
        have hw := HWF.out m (List.mem_of_getElem? hm)
        obtain ⟨mk, mp, ms', mt, mn⟩ := m
        have q0 := hqq 0 _ rfl
        have q1 := hqq 1 _ rfl
        have q2 := hqq 2 _ rfl
        have q3 := hqq 3 _ rfl
        have q4 := hqq 4 _ rfl
        simp only [Nat.add_zero] at q0
        have hii : (i : Int) < ms.length := by omega
        have hi40 : (i : Int) < 40 := by omega
        have HW := Lib.hid hw
        clear hm hq hbel hqq hw
        go_upto_region 11 with (fail)
        obtain ⟨wx, he, hnx, hFx, hszx⟩ := alloc1 wr (.cells #[.int .i64 1, .int .i64 3, .int .i64 ms', .string mt, .int .i64 mn] 71)
        rw [he]
        have HIX := Lib.hid (HI.out.fr0 hFx)
        have hgx : wr.heap.size < wx.heap.size := by omega
        obtain ⟨gm, hgm⟩ : ∃ gm, gm = wr.heap.size := ⟨_, rfl⟩
        rw [← hgm] at hnx hgx ⊢
        have hgB : w.heap.size ≤ gm := by rw [hgm]; exact HF.out.size
        have HNX := Lib.hid hnx
        have HPX := Lib.hid (HP.out.fr0 hFx)
        have HOX := Lib.hid (hFx.own0 HO.out)
        have HFX : Hid (Fr (fun k => w.heap.size ≤ k) w wx) := HF.out.trans hFx (fun _ _ h => h.elim)
        have x0 : wx.cell? ⟨gm, 0, none⟩ = some (.int .i64 1) := blk_cell hnx 0
        have x1 : wx.cell? ⟨gm, 1, none⟩ = some (.int .i64 3) := blk_cell hnx 1
        have x2 : wx.cell? ⟨gm, 2, none⟩ = some (.int .i64 ms') := blk_cell hnx 2
        have x3 : wx.cell? ⟨gm, 3, none⟩ = some (.string mt) := blk_cell hnx 3
        have x4 : wx.cell? ⟨gm, 4, none⟩ = some (.int .i64 mn) := blk_cell hnx 4
        have hkl : kg < maxLen := by simp [maxLen]; omega
        clear he hnx hFx hszx hgm q0 q1 q2 q3 q4 HP HO HF HI
        have hnext : OnceInv w g bw bg first (.slice U first.length uc) (i + 1) wx := by
          obtain ⟨kg, D, h1, h2⟩ := HIX.out
          exact ⟨kg, D, by omega, h2⟩
        have HNEXT := Lib.hid hnext
        clear hnext
        by_cases hbad : 100 < mt.size ∨ ms' < 0
        · rcases Nat.lt_or_ge 100 mt.size with h1 | h1
          · have h1i : (100 : Int) < (mt.size : Int) := by omega
            go_wp2_with fail
            exact ⟨⟨i + 1, first, U, uc, by omega, by omega, by go_num, rfl, by omega, HNEXT⟩, by simp [intOf]; omega⟩
          · have h1i : ¬ (100 : Int) < (mt.size : Int) := by omega
            have h2i : ms' < 0 := by omega
            go_wp2_with fail
            exact ⟨⟨i + 1, first, U, uc, by omega, by omega, by go_num, rfl, by omega, HNEXT⟩, by simp [intOf]; omega⟩
        · have h1i : ¬ (100 : Int) < (mt.size : Int) := by omega
          have h2i : ¬ ms' < 0 := by omega
          have h3i : 0 ≤ ms' := by omega
          clear hbad
          go_wp2_with fail
          refine (hear_take HPX.out (by omega) ⟨1, 3, ms', mt, mn⟩ rfl rfl h3i HW.out hkl).mono ?_
          rintro e w3 ⟨rfl, hP3, hF3⟩
          simp only [ack, Msg.v]
          have HP3 := Lib.hid hP3
          have hnm : gm ≠ bg := fun e => by obtain ⟨_, _, hb, _⟩ := HPX.out.got; rw [← e] at hb; have := HNX.out.symm.trans hb; cases this
          have HO3 := Lib.hid (hF3.own HOX.out (own_notmap HOX.out HPX.out.got))
          have HN3 := Lib.hid (hF3.blk HNX.out hnm)
          have hbgB : w.heap.size ≤ bg := hbg
          have HF3 : Hid (Fr (fun k => w.heap.size ≤ k) w w3) := HFX.out.trans' hF3 (fun _ _ h => h) (fun k _ hk => by show _ ≤ k; rw [hk]; exact hbgB)
          clear hP3 hF3 hnm x0 x1 x2 x3 x4 HPX HOX HNX HFX HIX HNEXT
          go_upto_region 13 with (fail)
          obtain ⟨w4, he, hn4, hF4, hs4⟩ := alloc1 w3 (.cells #[.int .i64 2, .int .i64 3, .int .i64 ms', .string ⟨#[]⟩, .int .i64 0] 71)
          rw [he]
          have a0 : w4.cell? ⟨w3.heap.size, 0, none⟩ = some (.int .i64 2) := blk_cell hn4 0
          have a1 : w4.cell? ⟨w3.heap.size, 1, none⟩ = some (.int .i64 3) := blk_cell hn4 1
          have a2 : w4.cell? ⟨w3.heap.size, 2, none⟩ = some (.int .i64 ms') := blk_cell hn4 2
          have a3 : w4.cell? ⟨w3.heap.size, 3, none⟩ = some (.string ⟨#[]⟩) := blk_cell hn4 3
          have a4 : w4.cell? ⟨w3.heap.size, 4, none⟩ = some (.int .i64 0) := blk_cell hn4 4
          have HN4 := Lib.hid (hF4.blk0 HN3.out)
          have x2 : w4.cell? ⟨gm, 2, none⟩ = some (.int .i64 ms') := blk_cell HN4.out 2
          have HP4 := Lib.hid (HP3.out.fr0 hF4)
          have HO4 := Lib.hid (hF4.own0 HO3.out)
          have HF4 : Hid (Fr (fun k => w.heap.size ≤ k) w w4) := HF3.out.trans hF4 (fun _ _ h => h.elim)
          clear he hn4 hF4 hs4 HP3 HO3 HN3 HF3
          go_wp2_with fail
          clear a0 a1 a2 a3 a4 x2
          obtain ⟨wo, hwo⟩ : ∃ wo : World, wo = w4 := ⟨_, rfl⟩
          have HP4 : Hid (PeerAt wo g 3 (.slice none 0 0) bw bg 0 (kg + 1) (.map []) (if Maps.has D (.int .i64 ms') then D else D.put (.int .i64 ms') (.held ⟨1, 3, ms', mt, mn⟩))) := by rw [hwo]; exact HP4.out
          have HO4 : Hid (wo.ownsRow w.heap.size 71 5 (.slice U first.length uc) first.length (first.flatMap Msg.cells)) := by rw [hwo]; exact HO4.out
          have HN4 : Hid (wo.heap[gm]? = some (.cells #[.int .i64 1, .int .i64 3, .int .i64 ms', .string mt, .int .i64 mn] 71 (0, 0))) := by rw [hwo]; exact HN4.out
          have HF4 : Hid (Fr (fun k => w.heap.size ≤ k) w wo) := by rw [hwo]; exact HF4.out
          have HE : Hid (Fr (fun _ => False) wo w4) := by rw [hwo]; exact Fr.refl _ _
          clear hwo
          go_loopw [12, 13] (fun t k wr => ∃ k' : Nat, k' ≤ first.length ∧ k = .int .i64 k' ∧ t = .bool ((first.take k').any (fun x => x.seq == ms')) ∧ Hid (Fr (fun _ => False) wo wr)) (fun _ k _ => first.length - (intOf k).toNat)
          case atStart => exact ⟨0, by omega, rfl, rfl, HE⟩
          case round =>
            clear HE
            obtain ⟨k', hk', rfl, rfl, HE⟩ := hrel
            by_cases hkl2 : k' < first.length
            · obtain ⟨x, hx⟩ : ∃ x, first[k']? = some x := ⟨_, List.getElem?_eq_getElem hkl2⟩
              obtain ⟨gu, ou, hU, hxc⟩ := readM_own HO4.out k' x hx
              subst hU
              have hkk : (k' : Int) < (first.length : Int) := by omega
              have y2 := HE.out.cell0 (hxc 2 _ rfl)
              have x2 : wr.cell? ⟨gm, 2, none⟩ = some (.int .i64 ms') := blk_cell (HE.out.blk0 HN4.out) 2
              obtain ⟨tb, htb⟩ : ∃ tb, tb = (first.take k').any (fun x => x.seq == ms') := ⟨_, rfl⟩
              rw [← htb]
              have hnb : (first.take (k' + 1)).any (fun x => x.seq == ms') = (tb || x.seq == ms') := by
                rw [List.take_add_one, hx, List.any_append, htb]
                simp
              have HNB := Lib.hid hnb
              clear hx hxc htb hnb
              go_upto_region 19 with (fail)
              have y2' : wr.drew.cell? _ = some _ := y2
              have x2' : wr.drew.cell? _ = some _ := x2
              have hfin : ∀ wz : World, Fr (fun _ => False) wo wz → ∃ k'' : Nat, k'' ≤ first.length ∧ Value.int .i64 ((k' : Int) + 1) = .int .i64 k'' ∧ Value.bool (tb || x.seq == ms') = .bool ((first.take k'').any (fun x => x.seq == ms')) ∧ Hid (Fr (fun _ => False) wo wz) := fun wz hz => ⟨k' + 1, by omega, by go_num, by rw [HNB.out], hz⟩
              have HFIN := Lib.hid hfin
              clear hfin
              cases tb with
              | true =>
                go_quiet (fail)
                go_wp2
                exact ⟨HFIN.out _ (HE.out.drewN _), by simp [intOf]; omega⟩
              | false =>
                go_quiet (fail)
                go_wp2
                exact ⟨HFIN.out _ (HE.out.drewN _), by simp [intOf]; omega⟩
            · have hke : k' = first.length := by omega
              subst hke
              rw [List.take_length]
              obtain ⟨th, hth⟩ : ∃ th, th = first.any (fun x => x.seq == ms') := ⟨_, rfl⟩
              rw [← hth]
              have hhas := HM.out.has_eq ms'
              rw [← hth] at hhas
              have HTH := Lib.hid hth
              have HHAS := Lib.hid hhas
              clear hth hhas
              cases th with
              | true =>
                have hOI : OnceInv w g bw bg first (.slice U first.length uc) (i + 1) wr := by
                  have hp := HP4.out.fr0 HE.out
                  rw [HHAS.out, if_pos rfl] at hp
                  exact ⟨kg + 1, D, by omega, hp, HM, HE.out.own0 HO4.out, HFI, HF4.out.trans HE.out (fun _ _ h => h.elim)⟩
                have HOI := Lib.hid hOI
                clear hOI
                go_wp2_with fail
                exact ⟨⟨i + 1, first, U, uc, by omega, by omega, by go_num, rfl, by omega, HOI⟩, by simp [intOf]; omega⟩
              | false =>
                have hN5 := HE.out.blk0 HN4.out
                have x0 : wr.cell? ⟨gm, 0, none⟩ = some (.int .i64 1) := blk_cell hN5 0
                have x1 : wr.cell? ⟨gm, 1, none⟩ = some (.int .i64 3) := blk_cell hN5 1
                have x2 : wr.cell? ⟨gm, 2, none⟩ = some (.int .i64 ms') := blk_cell hN5 2
                have x3 : wr.cell? ⟨gm, 3, none⟩ = some (.string mt) := blk_cell hN5 3
                have x4 : wr.cell? ⟨gm, 4, none⟩ = some (.int .i64 mn) := blk_cell hN5 4
                have HA : Hid (Fr (fun _ => False) wr (wr.alloc (.cells #[.int .i64 1, .int .i64 3, .int .i64 ms', .string mt, .int .i64 mn] 71))) := (Fr.refl _ wr).alloc _
                have HO5 := Lib.hid (HA.out.own0 (HE.out.own0 HO4.out))
                have HBw : Hid (w.heap.size ≤ (wr.alloc (.cells #[.int .i64 1, .int .i64 3, .int .i64 ms', .string mt, .int .i64 mn] 71)).heap.size) := Nat.le_trans HF4.out.size (Nat.le_trans HE.out.size HA.out.size)
                clear hN5
                go_wp2_with (at_builtin; refine wpl_app rfl (.tmp 92) (.tmp 94) 65 rfl w.heap.size 71 _ 5 48 Try.underlying65 Try.info71 rfl (by decide) (.slice U first.length uc) first.length (first.flatMap Msg.cells) rfl HO5.out ⟨wr.heap.size, 0, none⟩ 1 1 [.int .i64 1, .int .i64 3, .int .i64 ms', .string mt, .int .i64 mn] rfl rfl (news_of (blk_new _ _)) (by simp [Value.oneCell']) (by simp [maxLen]; omega) (by omega) HBw.out ?_; intro v6 w6 ho6 hg6 hm6; obtain ⟨A6, c6, rfl⟩ := own_slice ho6)
                have hp5 := (HP4.out.fr0 HE.out).fr0 HA.out
                have hF6 : Fr (fun k => some k = (Value.slice U first.length uc).ownBlock) (wr.alloc (.cells #[.int .i64 1, .int .i64 3, .int .i64 ms', .string mt, .int .i64 mn] 71)) w6 := (Fr.refl _ _).grown hg6 (fun k hk => .inr hk.symm)
                have hp6 := hp5.fr hF6 (own_ne HO5.out hp5.box (by decide)) (fun e => own_notmap HO5.out hp5.waits _ e.symm rfl) (fun e => own_notmap HO5.out hp5.got _ e.symm rfl)
                rw [HHAS.out, if_neg (by simp)] at hp6
                have hall := HF4.out.trans (HE.out.trans HA.out (fun _ _ h => h)) (fun _ _ h => h.elim)
                refine ⟨⟨i + 1, first ++ [(⟨1, 3, ms', mt, mn⟩ : Msg)], A6, c6, by omega, by omega, by go_num, by rw [List.length_append]; rfl, by rw [List.length_append]; simp; omega, ⟨kg + 1, _, by omega, hp6, Lib.hid (HM.out.put ⟨1, 3, ms', mt, mn⟩ HTH.out.symm), ?_, fun x hx => ?_, hall.trans' hF6 (fun _ _ h => h) (fun k _ hk => (HO5.out.lt k hk.symm).1)⟩⟩, by simp [intOf]; omega⟩
                · show w6.ownsRow _ _ _ _ _ _
                  rw [List.length_append, List.flatMap_append]
                  simpa [Msg.cells] using ho6
                · rcases List.mem_append.1 hx with hx | hx
                  · exact HFI.out x hx
                  · obtain rfl := List.mem_singleton.1 hx
                    exact ⟨rfl, rfl, h3i, HW.out⟩
      · have HI40 : Hid (OnceInv w g bw bg first (.slice U first.length uc) 40 wr) := by
          obtain ⟨kg, D, h1, h2⟩ := HI.out
          exact ⟨kg, D, by omega, h2⟩
        have hf40 : first.length ≤ 40 := by omega
        clear HI
        rcases Nat.lt_or_ge i ms.length with h1 | h1
        · have h2 : ¬ (i : Int) < 40 := by omega
          have h3 : (i : Int) < ms.length := by omega
          go_wp2
          go_meet
          case rel => exact ⟨first, U, uc, rfl, hf40, HI40⟩
        · have h3 : ¬ (i : Int) < ms.length := by omega
          go_wp2
          go_meet
          case rel => exact ⟨first, U, uc, rfl, hf40, HI40⟩
  case rest =>
    clear I0
    obtain ⟨first, U, uc, rfl, hf40, HI⟩ := hcut
    go_upto_block 4 with (fail)
    go_cut [] (fun wd => Hid (OnceInv w g bw bg first (.slice U first.length uc) 80 wd))
    case first =>
      go_wp2_with fail
      go_loopw [14] (fun k wr => ∃ i : Nat, i ≤ ag.length ∧ i ≤ 40 ∧ k = .int .i64 i ∧ Hid (OnceInv w g bw bg first (.slice U first.length uc) (40 + i) wr)) (fun k _ => 40 - (intOf k).toNat)
      case atStart => exact ⟨0, by omega, by omega, rfl, HI⟩
      case round =>
        clear HI
        obtain ⟨i, hi, hi4, rfl, HI⟩ := hrel
        have HI80 : Hid (OnceInv w g bw bg first (.slice U first.length uc) 80 wr) := by
          obtain ⟨kg, D, h1, h2⟩ := HI.out
          exact ⟨kg, D, by omega, h2⟩
        rcases Nat.lt_or_ge i ag.length with h1 | h1
        · have h1i : (i : Int) < ag.length := by omega
          rcases Nat.lt_or_ge i 40 with h2 | h2
          · have h2i : (i : Int) < 40 := by omega
            rcases Nat.eq_zero_or_pos first.length with h3 | h3
            · have h3i : ¬ (0 : Int) < first.length := by omega
              clear h3
              go_wp2
              go_meet
              case rel => exact HI80
            · have h3i : (0 : Int) < first.length := by omega
              obtain ⟨x, hx⟩ : ∃ x, ag[i]? = some x := ⟨_, List.getElem?_eq_getElem h1⟩
              obtain ⟨qg, qo, rfl, hq⟩ := HU.out i x hx
              obtain ⟨x0, x1⟩ := HUB.out x (List.mem_of_getElem? hx)
              obtain ⟨n, rfl⟩ := Int.eq_ofNat_of_zero_le x0
              obtain ⟨kg, D, hkg, HP, HM, HO, HFI, HF⟩ := HI.out
              have hq2 := (Fr.of_below (HF.out.below (Nat.le_refl _) (fun _ h => h)) (fun _ => False)).cell0 hq
              have hwr : IntKind.i64.wrap (n : Int) = (n : Int) := by rw [IntKind.wrap_i64]; omega
              obtain ⟨k, hk⟩ : ∃ k, k = n % first.length := ⟨_, rfl⟩
              have hrem : (n : Int).tmod (first.length : Int) = (k : Int) := by rw [← Int.ofNat_tmod, hk]
              have hkl : k < first.length := by rw [hk]; exact Nat.mod_lt _ h3
              have hkk : (k : Int) < (first.length : Int) := by omega
              have hk0 : (0 : Int) ≤ (k : Int) := by omega
              have hne0 : ¬ (first.length : Int) = 0 := by omega
              obtain ⟨m, hm⟩ : ∃ m, first[k]? = some m := ⟨_, List.getElem?_eq_getElem hkl⟩
              obtain ⟨gu, ou, hU2, hmc⟩ := readM_own HO.out k m hm
              subst hU2
              obtain ⟨hm1, hm2, hm3, hm4⟩ := HFI.out m (List.mem_of_getElem? hm)
              have hhas := (HM.out.has m (List.mem_of_getElem? hm)).1
              obtain ⟨mk, mp, ms', mt, mn⟩ := m
              simp only at hm1 hm2 hm3 hm4 hhas
              subst hm1 hm2
              have m0 := hmc 0 _ rfl
              have m1 := hmc 1 _ rfl
              have m2 := hmc 2 _ rfl
              have m3 := hmc 3 _ rfl
              have m4 := hmc 4 _ rfl
              simp only [Nat.add_zero] at m0
              have HHAS := Lib.hid hhas
              have HW := Lib.hid hm4
              have hkgm : kg < maxLen := by simp [maxLen]; omega
              clear hx hq hk hm hmc hhas hm4 HI HI80
              go_wp2_with fail
              refine (hear_take HP.out (by omega) ⟨1, 3, ms', mt, mn⟩ rfl rfl hm3 HW.out hkgm).mono ?_
              rintro e w3 ⟨rfl, hP3, hF3⟩
              rw [HHAS.out, if_pos rfl] at hP3
              have hbgB : w.heap.size ≤ bg := hbg
              have hOI : OnceInv w g bw bg first (.slice (some ⟨gu, ou, none⟩) first.length uc) (40 + (i + 1)) w3 :=
                ⟨kg + 1, D, by omega, hP3, HM, hF3.own HO.out (own_notmap HO.out HP.out.got), HFI, HF.out.trans' hF3 (fun _ _ h => h) (fun k _ hk => by show _ ≤ k; rw [hk]; exact hbgB)⟩
              have HOI := Lib.hid hOI
              clear hP3 hF3 hOI
              go_wp2_with fail
              exact ⟨⟨i + 1, by omega, by omega, by go_num, HOI⟩, by simp [intOf]; omega⟩
          · have h2i : ¬ (i : Int) < 40 := by omega
            go_wp2
            go_meet
            case rel => exact HI80
        · have h1i : ¬ (i : Int) < ag.length := by omega
          go_wp2
          go_meet
          case rel => exact HI80
    case rest =>
      obtain ⟨kg, D, hkg, HP, HM, HO, HFI, HF⟩ := hcut
      clear HI
      go_wp2_with fail
      refine (got_any HP.out (by omega) HM.out (by omega)).mono ?_
      rintro e w3 ⟨GA, gc, got, rfl, hperm, hsort, hgr, hF3, hgB⟩
      have hlen : got.length = first.length := hperm.length_eq
      rw [hlen]
      have HPE := Lib.hid hperm
      have HSO := Lib.hid hsort
      have HGR := Lib.hid hgr
      have HLEN := Lib.hid hlen
      have HFE := Lib.hid hF3
      have HO3 := Lib.hid (hF3.own0 HO.out)
      have HFW : Hid (Fr (fun k => w.heap.size ≤ k) w w3) := HF.out.trans hF3 (fun _ _ h => h.elim)
      have H0 : Hid (Fr (fun _ => False) w3 w3) := Fr.refl _ _
      clear hperm hsort hgr hF3 hgB hlen HO HF HP
      go_wp2_with fail
      go_loopw [16] (fun k wr => ∃ i : Nat, i ≤ first.length ∧ k = .int .i64 i ∧ Hid (Fr (fun _ => False) w3 wr)) (fun k _ => first.length - (intOf k).toNat)
      case atStart => exact ⟨0, by omega, rfl, H0⟩
      case round =>
        clear H0
        obtain ⟨i, hi, rfl, HE⟩ := hrel
        rcases Nat.lt_or_ge i first.length with h1 | h1
        · have h1i : (i : Int) < first.length := by omega
          obtain ⟨gm, hgm⟩ : ∃ gm, got[i]? = some gm := ⟨_, List.getElem?_eq_getElem (by rw [HLEN.out]; exact h1)⟩
          obtain ⟨gg, og, rfl, hgc⟩ := HGR.out i gm hgm
          have hin : gm ∈ first := HPE.out.mem_iff.1 (List.mem_of_getElem? hgm)
          obtain ⟨k0, hk0⟩ := List.getElem?_of_mem hin
          have HGM := Lib.hid hgm
          have HK0 := Lib.hid hk0
          have hk0l : k0 < first.length := (List.getElem?_eq_some_iff.1 hk0).1
          obtain ⟨gk, gp, gs, gt, gn⟩ := gm
          have HG0 := Lib.hid hgc
          clear hgm hin hk0 hgc
          go_wp2_with fail
          obtain ⟨wo, hwo⟩ : ∃ wo : World, wo = wr := ⟨_, rfl⟩
          have HE : Hid (Fr (fun _ => False) w3 wo) := by rw [hwo]; exact HE.out
          have HE0 : Hid (Fr (fun _ => False) wo wr) := by rw [hwo]; exact Fr.refl _ _
          clear hwo
          go_loopw [17, 18] (fun t k wr => ∃ (k' : Nat) (tb : Bool), k' ≤ first.length ∧ k = .int .i64 k' ∧ t = .bool tb ∧ (k0 < k' → tb = true) ∧ Hid (Fr (fun _ => False) wo wr)) (fun _ k _ => first.length - (intOf k).toNat)
          case atStart => exact ⟨0, false, by omega, rfl, rfl, fun h => by omega, HE0⟩
          case round =>
            clear HE0
            obtain ⟨k', tb, hk', rfl, rfl, htb, HE2⟩ := hrel
            rcases Nat.lt_or_ge k' first.length with h2 | h2
            · have h2i : (k' : Int) < first.length := by omega
              obtain ⟨x, hx⟩ : ∃ x, first[k']? = some x := ⟨_, List.getElem?_eq_getElem h2⟩
              obtain ⟨gu, ou, hU, hxc⟩ := readM_own HO3.out k' x hx
              subst hU
              obtain ⟨xk, xp, xs, xt, xn⟩ := x
              have hFw := HE.out.trans HE2.out (fun _ _ h => h)
              have y0 := hFw.cell0 (hxc 0 _ rfl)
              have y1 := hFw.cell0 (hxc 1 _ rfl)
              have y2 := hFw.cell0 (hxc 2 _ rfl)
              have y3 := hFw.cell0 (hxc 3 _ rfl)
              have y4 := hFw.cell0 (hxc 4 _ rfl)
              have z0 := hFw.cell0 (HG0.out 0 _ rfl)
              have z1 := hFw.cell0 (HG0.out 1 _ rfl)
              have z2 := hFw.cell0 (HG0.out 2 _ rfl)
              have z3 := hFw.cell0 (HG0.out 3 _ rfl)
              have z4 := hFw.cell0 (HG0.out 4 _ rfl)
              simp only [Nat.add_zero] at y0 z0
              have hsame : k' = k0 → xk = gk ∧ xp = gp ∧ xs = gs ∧ xt = gt ∧ xn = gn := by
                intro e
                subst e
                have h3 := hx.symm.trans HK0.out
                simp only [Option.some.injEq, Msg.mk.injEq] at h3
                exact h3
              have HSAME := Lib.hid hsame
              clear hsame hx hxc hFw
              have HTB := Lib.hid htb
              clear htb
              go_upto_region 36 with (fail)
              cases tb with
              | true =>
                go_quiet (fail)
                go_wp2
                exact ⟨⟨k' + 1, true, by omega, by go_num, rfl, fun _ => rfl, HE2.out.drewN _⟩, by simp [intOf]; omega⟩
              | false =>
                by_cases he : k' = k0
                · obtain ⟨rfl, rfl, rfl, rfl, rfl⟩ := HSAME.out he
                  clear he
                  go_quiet (fail)
                  go_wp2
                  refine ⟨⟨k' + 1, _, by omega, by go_num, rfl, fun _ => ?_, HE2.out.drewN _⟩, by simp [intOf]; omega⟩
                  simp
                · have hq : Hid (k0 < k' + 1 → k0 < k') := fun h => by omega
                  by_cases e_xk : xk = gk
                  case neg =>
                    have f_xk : (xk == gk) = false := by simpa using e_xk
                    go_quiet (fail)
                    go_wp2
                    refine ⟨⟨k' + 1, _, by omega, by go_num, rfl, fun h => ?_, HE2.out.drewN _⟩, by simp [intOf]; omega⟩
                    have h5 := HTB.out (by omega)
                    cases h5
                  subst e_xk
                  by_cases e_xp : xp = gp
                  case neg =>
                    have f_xp : (xp == gp) = false := by simpa using e_xp
                    go_quiet (fail)
                    go_wp2
                    refine ⟨⟨k' + 1, _, by omega, by go_num, rfl, fun h => ?_, HE2.out.drewN _⟩, by simp [intOf]; omega⟩
                    have h5 := HTB.out (by omega)
                    cases h5
                  subst e_xp
                  by_cases e_xs : xs = gs
                  case neg =>
                    have f_xs : (xs == gs) = false := by simpa using e_xs
                    go_quiet (fail)
                    go_wp2
                    refine ⟨⟨k' + 1, _, by omega, by go_num, rfl, fun h => ?_, HE2.out.drewN _⟩, by simp [intOf]; omega⟩
                    have h5 := HTB.out (by omega)
                    cases h5
                  subst e_xs
                  by_cases e_xt : xt = gt
                  case neg =>
                    have f_xt : (xt.toList == gt.toList) = false := by rw [ByteArray.toList_eq, ByteArray.toList_eq]; exact beq_eq_false_iff_ne.2 (fun h => e_xt (ByteArray.ext (Array.ext' h)))
                    go_quiet (fail)
                    go_wp2
                    refine ⟨⟨k' + 1, _, by omega, by go_num, rfl, fun h => ?_, HE2.out.drewN _⟩, by simp [intOf]; omega⟩
                    have h5 := HTB.out (by omega)
                    cases h5
                  subst e_xt
                  by_cases e_xn : xn = gn
                  case neg =>
                    have f_xn : (xn == gn) = false := by simpa using e_xn
                    go_quiet (fail)
                    go_wp2
                    refine ⟨⟨k' + 1, _, by omega, by go_num, rfl, fun h => ?_, HE2.out.drewN _⟩, by simp [intOf]; omega⟩
                    have h5 := HTB.out (by omega)
                    cases h5
                  subst e_xn
                  go_quiet (fail)
                  go_wp2
                  refine ⟨⟨k' + 1, _, by omega, by go_num, rfl, fun h => ?_, HE2.out.drewN _⟩, by simp [intOf]; omega⟩
                  have h5 := HTB.out (by omega)
                  cases h5
            · have hke : k' = first.length := by omega
              subst hke
              obtain rfl : tb = true := htb hk0l
              have HE3 : Hid (Fr (fun _ => False) w3 wr) := HE.out.trans HE2.out (fun _ _ h => h)
              clear htb
              have z2 := HE3.out.cell0 (HG0.out 2 _ rfl)
              cases i with
              | zero =>
                go_upto_region 37 with (fail)
                go_quiet (fail)
                go_wp2
                exact ⟨⟨1, by omega, by go_num, HE3.out.drewN _⟩, by simp [intOf]; omega⟩
              | succ i1 =>
                obtain ⟨pm, hpm⟩ : ∃ pm, got[i1]? = some pm := ⟨_, List.getElem?_eq_getElem (by rw [HLEN.out]; omega)⟩
                obtain ⟨_, _, hge, hpc⟩ := HGR.out i1 pm hpm
                simp only [Option.some.injEq, Addr.mk.injEq] at hge
                obtain ⟨rfl, rfl, _⟩ := hge
                have p2 := HE3.out.cell0 (hpc 2 _ rfl)
                have hsub : ((i1 : Int) + 1) - 1 = (i1 : Int) := by omega
                have hlt : ¬ gs ≤ pm.seq := by
                  have hpw := List.pairwise_iff_getElem.1 HSO.out
                  obtain ⟨ha, hb⟩ := List.getElem?_eq_some_iff.1 hpm
                  obtain ⟨hc, hd⟩ := List.getElem?_eq_some_iff.1 HGM.out
                  have h3 := hpw i1 (i1 + 1) ha hc (by omega)
                  rw [hb, hd] at h3
                  have hnd : (got.map (·.seq)).Nodup := (HPE.out.map _).nodup_iff.2 HM.out.nodup
                  have h4 := List.pairwise_iff_getElem.1 hnd i1 (i1 + 1) (by simpa using ha) (by simpa using hc) (by omega)
                  simp only [List.getElem_map, hb, hd] at h4
                  simp only at h3
                  omega
                have hi1 : (0 : Int) < (i1 : Int) + 1 := by omega
                have hi2 : (i1 : Int) < (first.length : Int) := by omega
                have hi3 : (i1 : Int) + 1 < (first.length : Int) := by omega
                obtain ⟨pk, pp, ps, pt, pn⟩ := pm
                simp only at p2 hlt
                clear hpm hpc
                go_upto_region 37 with (fail)
                go_quiet (fail)
                go_wp2
                exact ⟨⟨i1 + 1 + 1, by omega, by go_num, HE3.out.drewN _⟩, by simp [intOf]; omega⟩
        · have h1i : ¬ (i : Int) < first.length := by omega
          have hbl := HFW.out.trans HE.out (fun _ _ h => h.elim)
          have HBL := Lib.hid (hbl.below (Nat.le_refl _) (fun _ h => h))
          clear hbl
          go_wp2
          go_ret
          exact ⟨rfl, HBL.out⟩
end Go.Proofs.Ytedmhhllkkgbjaa
