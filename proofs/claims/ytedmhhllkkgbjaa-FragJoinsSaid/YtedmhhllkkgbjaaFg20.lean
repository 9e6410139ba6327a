/- lienref08.Need; FragNeeds' walk. -/
import Derived.Test.YtedmhhllkkgbjaaFg19
namespace Go.Proofs.Ytedmhhllkkgbjaa
open Go.RowKit
set_option linter.unusedSimpArgs false
set_option linter.unusedVariables false

/-- numbers that are read -/
def ReadI (w : World) (A : Option Addr) (l : List Int) : Prop := ∀ (i : Nat) (x : Int), l[i]? = some x → ∃ g o, A = some ⟨g, o, none⟩ ∧ w.cell? ⟨g, o + i, none⟩ = some (.int .i64 x)
theorem ReadI.take {w : World} {A : Option Addr} {l : List Int} (h : ReadI w A l) (n : Nat) : ReadI w A (l.take n) := by
  intro i x hx
  rw [List.getElem?_take] at hx
  split at hx
  · exact h i x hx
  · cases hx
theorem ReadI.fr {w w' : World} {A : Option Addr} {l : List Int} (h : ReadI w A l) (hF : Fr (fun _ => False) w w') : ReadI w' A l := fun i x hx => by
  obtain ⟨g, o, e, hc⟩ := h i x hx
  exact ⟨g, o, e, hF.cell0 hc⟩

theorem own_made {w : World} {B g n : Nat} (hB : B ≤ g) (h : w.heap[g]? = some (.cells (bytes (zeros n)).toArray 5 (0, 0))) (hn : n ≤ 1000000) : w.ownsRow B 5 1 (.slice (some ⟨g, 0, none⟩) n n) (zeros n).length (bytes (zeros n)) := by
  have hl : (bytes (zeros n)).length = n := by simp [bytes, zeros]
  have hz := zeros_len n
  refine ⟨by simp [bytes], .inr ⟨g, n, (bytes (zeros n)).toArray, by rw [hz], hB, h, by rw [hz]; exact Nat.le_refl _, by simp [maxLen]; omega, by simp [hl], by simp [bytes, List.take_of_length_le]⟩⟩

def zrows (l : List Int) : List (List Int) := l.map (fun x => zeros x.toNat)
theorem zrows_len (l : List Int) : (zrows l).length = l.length := List.length_map ..
theorem zrows_sizes (l : List Int) : (zrows l).map List.length = l.map Int.toNat := by simp [zrows, zeros]
theorem zrows_8 (l : List Int) (h : badSize l = 0) : ∀ r ∈ zrows l, r.length ≤ 8192 := by
  intro r hr
  obtain ⟨x, hx, rfl⟩ := List.mem_map.1 hr
  have := badSize_zero h x hx
  rw [zeros_len]
  omega

def RNeedPost (w : World) (l : List Int) (e : Ending) (w' : World) : Prop := e = .returned (.tuple #[.int .i64 (needN l : Int), .int .i64 (needE l)]) ∧ Below w.heap.size w w'

set_option maxRecDepth 100000 in
set_option maxHeartbeats 4000000 in
theorem rneed_any (A : Option Addr) (c : Nat) (l : List Int) (w : World) (hl : l.length < 1000000) (hread : ReadI w A l) :
    Calls Try.prog 36 #[.slice A l.length c] w (RNeedPost w l) := by
  by_cases h256 : 256 < l.length
  · have hE : needE l = 3 := by simp [needE, h256]
    have hN : needN l = 0 := by simp [needN, hE]
    have HE := Lib.hid hE
    have HN := Lib.hid hN
    have h2 : (256 : Int) < (l.length : Int) := by omega
    clear hE hN hread
    go_enter Try.func36, Try.ntmps36
    go_wp2
    go_ret2
    exact ⟨by rw [HE.out, HN.out]; rfl, Below.refl _ _⟩
  · have hE : needE l = badSize l := by simp [needE, h256]
    have HE := Lib.hid hE
    have h2 : ¬ (256 : Int) < (l.length : Int) := by omega
    have HR := Lib.hid hread
    clear hE hread
    obtain ⟨B, hB⟩ : ∃ B, B = w.heap.size := ⟨_, rfl⟩
    have HB := Lib.hid hB
    have H0 : Hid (Fr (fun k => B ≤ k) w w) := Fr.refl _ _
    clear hB
    go_enter Try.func36, Try.ntmps36
    go_wp2_with fail
    go_loopw [4, 5] (fun u k wr => ∃ (i : Nat) (vs : List Value) (U : Option Addr) (uc : Nat), i ≤ l.length ∧ k = .int .i64 i ∧ u = .slice U i uc ∧ Hid (badSize (l.take i) = 0) ∧ Hid (RC B wr u vs (zrows (l.take i)) (.slice none 0 0) []) ∧ Hid (Fr (fun k => B ≤ k) w wr)) (fun _ k _ => l.length - (intOf k).toNat)
    case atStart => exact ⟨0, [], none, 0, by omega, rfl, rfl, rfl, RC.nil _ _, H0⟩
    case round =>
      clear H0
      obtain ⟨i, vs, U, uc, hi, rfl, rfl, hb, HRC, HF⟩ := hrel
      have HBw : Hid (B ≤ wr.heap.size) := by rw [HB.out]; exact HF.out.size
      by_cases hlt : i < l.length
      · obtain ⟨x, hx⟩ : ∃ x, l[i]? = some x := ⟨_, List.getElem?_eq_getElem hlt⟩
        obtain ⟨g, o, rfl, hcell0⟩ := HR.out i x hx
        have hcell := (Fr.of_below (HF.out.below (Nat.le_refl _) (fun k h => by rw [← HB.out]; exact h)) (fun _ => False)).cell0 hcell0
        have HX := Lib.hid hx
        clear hx hcell0
        have hii : (i : Int) < l.length := by omega
        by_cases h0 : x < 0
        · have hE2 : badSize l = 1 := by rw [badSize_snoc l i x HX.out hb.out, if_pos h0]
          have HE2 := Lib.hid (HE.out.trans hE2)
          clear hE2
          go_wp2
          go_ret2
          exact ⟨by rw [show needN l = 0 from by simp [needN, HE2.out], HE2.out]; rfl, HF.out.below (Nat.le_refl _) (fun k h => by rw [← HB.out]; exact h)⟩
        · by_cases h1 : 8192 < x
          · have hE2 : badSize l = 2 := by rw [badSize_snoc l i x HX.out hb.out, if_neg h0, if_pos h1]
            have HE2 := Lib.hid (HE.out.trans hE2)
            clear hE2
            go_wp2
            go_ret2
            exact ⟨by rw [show needN l = 0 from by simp [needN, HE2.out], HE2.out]; rfl, HF.out.below (Nat.le_refl _) (fun k h => by rw [← HB.out]; exact h)⟩
          · have hs := badSize_step l i x HX.out hb.out (by omega) (by omega)
            have HS := Lib.hid hs
            clear hs
            obtain ⟨n, rfl⟩ := Int.eq_ofNat_of_zero_le (show 0 ≤ x by omega)
            have hn8 : n ≤ 8192 := by omega
            have h0' : ¬ (n : Int) < 0 := by omega
            have h1' : ¬ (8192 : Int) < (n : Int) := by omega
            have hmk : ∀ W : World, (Instr.makeSlice 27 (.int .i64 n) (.int .i64 n)).run Try.prog W = .ok (.slice (some ⟨W.heap.size, 0, none⟩) n n) (W.alloc (.cells (bytes (zeros n)).toArray 5)) := fun W => by
              have := make_u8 W n (by omega)
              rw [made_zeros] at this
              exact this
            obtain ⟨zc, hzc⟩ : ∃ zc, zc = (bytes (zeros n)).toArray := ⟨_, rfl⟩
            rw [← hzc] at hmk
            have HZC := Lib.hid hzc
            have hlt4 : (zrows (l.take i)).length = i := by rw [zrows_len, List.length_take]; omega
            have HLI := Lib.hid hlt4
            have e1 : zrows (l.take (i + 1)) = zrows (l.take i) ++ [zeros n] := by
              rw [List.take_add_one, HX.out]
              simp [zrows]
            have HE1 := Lib.hid e1
            have HOW : Hid (wr.ownsRow B 27 1 (.slice U i uc) i vs) := by have h1 := HRC.out.out; rw [hlt4] at h1; exact h1
            have HAB : Hid (Fr (fun _ => False) wr ((wr.alloc (.cells zc 5)).alloc (.cells #[.slice (some ⟨wr.heap.size, 0, none⟩) n n] 27))) := ((Fr.refl (fun _ => False) wr).alloc _).alloc _
            clear hzc h0 h1 hlt4 e1
            go_wp2_with (at_builtin; refine wpl_app rfl (.tmp 27) (.tmp 33) 47 rfl B 27 _ 1 24 Try.underlying47 Try.info27 rfl (by decide) (.slice U i uc) i vs rfl (HAB.out.own0 HOW.out) ⟨wr.heap.size + 1, 0, none⟩ 1 1 [.slice (some ⟨wr.heap.size, 0, none⟩) n n] rfl rfl (news_of (blk_new1 _ _ _)) (by simp [Value.oneCell']) (by simp [maxLen]; omega) (by omega) (Nat.le_trans HBw.out HAB.out.size) ?_; intro v2 w2 ho2 hg2 hm2; obtain ⟨A2, c2, rfl⟩ := own_slice ho2)
            have hA : RC B (wr.alloc (.cells zc 5)) (.slice U i uc) vs (zrows (l.take i)) (.slice (some ⟨wr.heap.size, 0, none⟩) n n) (zeros n) := by
              refine HRC.out.grow ((Fr.refl _ wr).alloc _) (own_made HBw.out ?_ (by omega)) (.inr ⟨_, rfl, Nat.le_refl _⟩)
              rw [HZC.out]
              exact blk_new _ _
            have F2 : Fr (fun k => some k = (Value.slice U i uc).ownBlock) (wr.alloc (.cells zc 5)) w2 := ((Fr.refl _ _).alloc _).grown hg2 (fun k hk => .inr hk.symm)
            have hP := hA.push F2 (by rw [HLI.out]; exact ho2) (by
              rcases hm2 with hm2 | hm2
              · exact .inl hm2
              · exact .inr ⟨_, hm2, ((Fr.refl (fun _ => False) (wr.alloc (.cells zc 5))).alloc _).size⟩)
            rw [← HE1.out] at hP
            have HF2 : Hid (Fr (fun k => B ≤ k) w w2) := HF.out.trans' (HAB.out.none.grown (S := fun k => some k = (Value.slice U i uc).ownBlock) hg2 (fun k hk => .inr hk.symm)) (fun _ _ h => h) (fun k _ hk => (HOW.out.lt k hk.symm).1)
            exact ⟨⟨i + 1, _, _, _, by omega, by go_num, rfl, HS, Lib.hid hP, HF2⟩, by simp [intOf]; omega⟩
      · have hie : i = l.length := by omega
        subst hie
        rw [List.take_length] at hb
        have hRC := HRC.out
        rw [List.take_length] at hRC
        obtain ⟨A2, c2, e2, hc2, hr2⟩ := hRC.read
        simp only [Value.slice.injEq] at e2
        obtain ⟨rfl, e3, rfl⟩ := e2
        have h8 := zrows_8 l hb.out
        have HR2 := Lib.hid hr2
        have HFB : Hid (Below w.heap.size w wr) := HF.out.below (Nat.le_refl _) (fun k h => by rw [← HB.out]; exact h)
        have hC := rcut_any U uc (zrows l) wr (by rw [zrows_len]; simp [maxLen]; omega) hr2
        rw [zrows_len] at hC
        have HC := Lib.hid hC
        have H8 := Lib.hid h8
        clear hC h8 hr2 hc2 e3 hRC
        go_wp2_with fail
        refine HC.out.mono ?_
        rintro e w3 ⟨A3, c3, rfl, _, _, hb3⟩
        have hE0 := cutE_ok (zrows l) (by rw [zrows_len]; omega) H8.out
        have hN0 := cutL_len (zrows l) (by rw [zrows_len]; omega) H8.out
        rw [zrows_sizes] at hN0
        have hnE : needE l = 0 := HE.out.trans hb.out
        have hnN : needN l = (cutL (zrows l)).length := by rw [hN0]; simp [needN, hnE]
        rw [hE0]
        have HQ := Lib.hid (And.intro hnE hnN)
        have HB3 := Lib.hid (hb3 : Below wr.heap.size wr w3)
        clear hE0 hN0 hnE hnN hb3
        generalize (cutL (zrows l)).length = q at HQ ⊢
        go_wp2
        go_ret2
        exact ⟨by rw [HQ.out.1, HQ.out.2]; rfl, below2 HFB.out HB3.out⟩

set_option maxRecDepth 100000 in
set_option maxHeartbeats 4000000 in
theorem needs_any (A : Option Addr) (c : Nat) (l0 : List Int) (w : World) (hl : l0.length ≤ maxLen) (hc : l0.length ≤ c) (hread : ReadI w A l0) :
    Calls Try.prog 10 #[.slice A l0.length c] w (fun e w' => e = .returned (.bool true) ∧ Below w.heap.size w w') := by
  have HR := Lib.hid (hread.take 300)
  clear hread
  obtain ⟨l, hl0⟩ : ∃ l, l = l0.take 300 := ⟨_, rfl⟩
  rw [← hl0] at HR
  have hl3 : l.length ≤ 300 := by rw [hl0, List.length_take]; omega
  have HL := Lib.hid hl0
  clear hl0
  go_enter Try.func10, Try.ntmps10
  go_upto_if 9 with (fail)
  go_cut [0] (fun v wd => wd = w ∧ v = .slice A l.length c)
  case first =>
    by_cases h3 : 300 < l0.length
    · have h3i : (300 : Int) < (l0.length : Int) := by omega
      have hci : (300 : Int) ≤ (c : Int) := by omega
      have hll : l.length = 300 := by rw [HL.out, List.length_take]; omega
      have HLL := Lib.hid hll
      clear hll
      go_wp2
      go_meet
      case rel => exact ⟨rfl, by rw [HLL.out]⟩
    · have h3i : ¬ (300 : Int) < (l0.length : Int) := by omega
      have hll : l0.length = l.length := by rw [HL.out, List.length_take]; omega
      rw [hll]
      rw [hll] at h3i
      go_wp2
      go_meet
      case rel => exact ⟨rfl, rfl⟩
  case rest =>
    obtain ⟨rfl, rfl⟩ := hcut
    go_wp2_with fail
    refine (need_any A c l wc (by omega) HR.out).mono ?_
    rintro e w1 ⟨rfl, hF1⟩
    have HF1 := Lib.hid hF1
    clear hF1
    go_wp2_with fail
    refine (rneed_any A c l w1 (by omega) (HR.out.fr HF1.out)).mono ?_
    rintro e w2 ⟨rfl, hb2⟩
    have HB2 := Lib.hid hb2
    clear hb2
    go_wp2_with fail
    refine (awake_yes w2).mono ?_
    rintro e w3 ⟨rfl, hF3⟩
    have HF3 := Lib.hid hF3
    clear hF3
    dsimp only
    go_wp2
    go_ret
    exact ⟨rfl, below2 (below2 HF1.out.below0 HB2.out) HF3.out.below0⟩
end Go.Proofs.Ytedmhhllkkgbjaa
