/- FragCuts' walk. -/
import Derived.Test.YtedmhhllkkgbjaaFg20
namespace Go.Proofs.Ytedmhhllkkgbjaa
open Go.RowKit
set_option linter.unusedSimpArgs false
set_option linter.unusedVariables false

def sizesOf (recs : List (List Int)) : List Int := recs.map (fun r => (r.length : Int))
theorem badSize_of (recs : List (List Int)) : badSize (sizesOf recs) = if recs.all (fun r => decide (r.length ≤ 8192)) = true then 0 else 2 := by
  induction recs with
  | nil => rfl
  | cons r rs ih =>
    simp only [sizesOf, List.map_cons, badSize] at ih ⊢
    rw [ih]
    by_cases h : r.length ≤ 8192
    · simp only [List.all_cons, decide_eq_true h, Bool.true_and]
      rw [if_neg (by omega), if_neg (by omega)]
    · rw [if_neg (by omega), if_pos (by omega)]
      simp [h]
theorem needE_of (recs : List (List Int)) : needE (sizesOf recs) = cutE recs := by
  simp only [needE, cutE, badSize_of]
  rw [show (sizesOf recs).length = recs.length from List.length_map ..]
theorem needN_of (recs : List (List Int)) (hl : recs.length ≤ 256) : needN (sizesOf recs) = (cutL recs).length := by
  unfold needN
  rw [needE_of]
  by_cases h : cutE recs = 0
  · have h8 : ∀ r ∈ recs, r.length ≤ 8192 := by
      intro r hr
      unfold cutE at h
      rw [if_neg (by omega)] at h
      split at h
      · rename_i h1
        have := List.all_eq_true.1 h1 r hr
        simpa using this
      · cases h
    rw [if_pos h, cutL_len recs hl h8]
    congr 2
    simp [sizesOf]
  · rw [if_neg h]
    simp [cutL, h]
theorem cutL_small (recs : List (List Int)) (hl : recs.length ≤ 40) : (cutL recs).length ≤ 400000 := by
  by_cases h : cutE recs = 0
  · refine cutL_many recs hl (fun r hr => ?_)
    unfold cutE at h
    rw [if_neg (by omega)] at h
    split at h
    · rename_i h1
      have := List.all_eq_true.1 h1 r hr
      simpa using this
    · cases h
  · simp [cutL, h]
theorem few_len (xs : List (List Int)) : (fewL xs).length ≤ 40 := by unfold fewL; rw [List.length_map, List.length_take]; omega

set_option maxRecDepth 100000 in
set_option maxHeartbeats 4000000 in
theorem cuts_any (A : Option Addr) (c : Nat) (xs : List (List Int)) (w : World) (hl : xs.length ≤ maxLen) (hR : ReadR w A xs) :
    Calls Try.prog 9 #[.slice A xs.length c] w (fun e w' => e = .returned (.bool true) ∧ Below w.heap.size w w') := by
  have HR := Lib.hid hR
  have hf4 := few_len xs
  clear hR
  go_enter Try.func9, Try.ntmps9
  go_wp2_with fail
  refine (few_any A c xs w hl HR.out).mono ?_
  rintro e w1 ⟨A1, c1, rfl, hc1, hr1, hb1⟩
  generalize fewL xs = recs at hf4 hc1 hr1 ⊢
  have HR1 := Lib.hid hr1
  have HB1 := Lib.hid hb1
  clear hr1 hb1 HR
  go_wp2_with fail
  refine (cut_any A1 c1 recs w1 (by omega) HR1.out).mono ?_
  rintro e w2 ⟨A2, c2, rfl, hc2, hr2, hb2⟩
  have HB2 := Lib.hid (hb2 : Below w1.heap.size w1 w2)
  have HR2 := Lib.hid hr2
  clear hr2 hb2
  go_wp2_with fail
  refine (rcut_any A1 c1 recs w2 (by simp [maxLen]; omega) (HR1.out.below HB2.out)).mono ?_
  rintro e w3 ⟨A3, c3, rfl, hc3, hr3, hb3⟩
  have HB3 := Lib.hid (hb3 : Below w2.heap.size w2 w3)
  have HR3 := Lib.hid hr3
  clear hr3 hb3
  have hE := needE_of recs
  have hN := needN_of recs (by omega)
  have hsm := cutL_small recs hf4
  have HR13 := Lib.hid (HR1.out.below (below2 HB2.out HB3.out))
  have HR23 := Lib.hid (HR2.out.below HB3.out)
  generalize hz : cutE recs = ce at hE ⊢
  generalize hp : cutL recs = p at hN hsm hc2 hc3 HR2 HR3 HR23 ⊢
  have HEN := Lib.hid (And.intro hE hN)
  clear hz hp hE hN HR2
  go_wp2_with fail
  go_loopw [7, 8] (fun u k wr => ∃ (i : Nat) (U : Option Addr) (uc : Nat), i ≤ recs.length ∧ k = .int .i64 i ∧ u = .slice U i uc ∧ Hid (wr.ownsRow w3.heap.size 3 1 u i ((recs.take i).map (fun r => Value.int .i64 (r.length : Int)))) ∧ Hid (Fr (fun k => w3.heap.size ≤ k) w3 wr)) (fun _ k _ => recs.length - (intOf k).toNat)
  case atStart => exact ⟨0, none, 0, by omega, rfl, rfl, ⟨by simp, .inl ⟨rfl, rfl⟩⟩, Fr.refl _ _⟩
  case round =>
    obtain ⟨i, U, uc, hi, rfl, rfl, HO, HF⟩ := hrel
    by_cases hlt : i < recs.length
    · obtain ⟨x, hx⟩ : ∃ x, recs[i]? = some x := ⟨_, List.getElem?_eq_getElem hlt⟩
      obtain ⟨gq, oq, PA, pc, hA1, hq, hpb⟩ := HR13.out i x hx
      subst hA1
      have hq2 := (Fr.of_below (HF.out.below (Nat.le_refl _) (fun _ h => h)) (fun _ => False)).cell0 hq
      have hii : (i : Int) < recs.length := by omega
      have HX := Lib.hid hx
      clear hx hq hpb
      have HA1 : Hid (Fr (fun _ => False) wr (wr.alloc (.cells #[.int .i64 (x.length : Int)] 3))) := (Fr.refl (fun _ => False) wr).alloc _
      go_wp2_with (at_builtin; refine wpl_app rfl (.tmp 29) (.tmp 35) 60 rfl w3.heap.size 3 _ 1 8 Try.underlying60 Try.info3 rfl (by decide) (.slice U i uc) i ((recs.take i).map (fun r => Value.int .i64 (r.length : Int))) rfl (HA1.out.own0 HO.out) ⟨wr.heap.size, 0, none⟩ 1 1 [.int .i64 (x.length : Int)] rfl rfl (news_of (blk_new _ _)) (by simp [Value.oneCell']) (by simp [maxLen]; omega) (by omega) (Nat.le_trans HF.out.size HA1.out.size) ?_; intro v2 w2 ho2 hg2 hm2; obtain ⟨A2, c2, rfl⟩ := own_slice ho2)
      have F2 : Fr (fun k => w3.heap.size ≤ k) w3 w2 := HF.out.trans' ((HA1.out.none (S := fun k => some k = (Value.slice U i uc).ownBlock)).grown hg2 (fun k hk => .inr hk.symm)) (fun _ _ h => h) (fun k _ hk => (HO.out.lt k hk.symm).1)
      refine ⟨⟨i + 1, _, _, by omega, by go_num, rfl, ?_, F2⟩, by simp [intOf]; omega⟩
      rw [List.take_add_one, HX.out, List.map_append]
      exact ho2
    · have hie : i = recs.length := by omega
      subst hie
      have ho := HO.out
      rw [List.take_length] at ho
      have hb : Below w3.heap.size w3 wr := HF.out.below (Nat.le_refl _) (fun _ h => h)
      have hsl : (sizesOf recs).length = recs.length := List.length_map ..
      have hRI : ReadI wr U (sizesOf recs) := by
        intro i x hx
        have hi := (List.getElem?_eq_some_iff.1 hx).1
        have hn := own_news ho
        have hv : (recs.map (fun r => Value.int .i64 (r.length : Int)))[i]? = some (.int .i64 x) := by
          simp only [sizesOf, List.getElem?_map, Option.map_eq_some_iff] at hx ⊢
          obtain ⟨r, h1, rfl⟩ := hx
          exact ⟨r, h1, rfl⟩
        rcases ho.2 with ⟨_, h0⟩ | ⟨g2, c2, cur, hv2, _⟩
        · omega
        · simp only [Value.slice.injEq] at hv2
          obtain ⟨rfl, _, _⟩ := hv2
          have hcell := hn.1 _ rfl i _ hv
          rw [add_some] at hcell
          exact ⟨g2, 0, rfl, hcell⟩
      have hNe := need_any U uc (sizesOf recs) wr (by rw [hsl]; omega) hRI
      rw [hsl] at hNe
      have HNE := Lib.hid hNe
      have HB := Lib.hid hb
      clear ho hb hsl hRI hNe
      go_wp2_with fail
      refine HNE.out.mono ?_
      rintro e w4 ⟨rfl, hF4⟩
      rw [HEN.out.1, HEN.out.2]
      have HB4 : Hid (Below w3.heap.size w3 w4) := below2 HB.out hF4.below0
      clear hF4
      go_wp2_with fail
      refine (same_any A2 A3 c2 c3 p w4 (by omega) (HR23.out.below HB4.out) (HR3.out.below HB4.out)).mono ?_
      rintro e w5 ⟨rfl, hF5⟩
      have HF5 := Lib.hid hF5
      clear hF5
      dsimp only
      go_wp2_with fail
      refine (awake_yes w5).mono ?_
      rintro e w6 ⟨rfl, hF6⟩
      have HF6 := Lib.hid hF6
      clear hF6
      dsimp only
      go_wp2
      go_ret
      exact ⟨rfl, below2 (below2 (below2 (below2 HB1.out (below2 HB2.out HB3.out)) HB4.out) HF5.out.below0) HF6.out.below0⟩
end Go.Proofs.Ytedmhhllkkgbjaa
