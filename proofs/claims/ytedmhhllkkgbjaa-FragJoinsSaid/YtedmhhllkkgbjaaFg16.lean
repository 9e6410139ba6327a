/- FragBack's walk. -/
import Derived.Test.YtedmhhllkkgbjaaFg15
import Derived.Test.YtedmhhllkkgbjaaFg13
namespace Go.Proofs.Ytedmhhllkkgbjaa
open Go.RowKit
set_option linter.unusedSimpArgs false
set_option linter.unusedVariables false

/-- all are bytes -/
def Bs (xs : List (List Int)) : Prop := ∀ x ∈ xs, ∀ b ∈ x, (0 : Int) ≤ b ∧ b < 256
theorem Bs.few {xs : List (List Int)} (h : Bs xs) : Bs (fewL xs) := by
  intro x hx b hb
  obtain ⟨y, hy, rfl⟩ := List.mem_map.1 hx
  exact h y (List.mem_of_mem_take hy) b (List.mem_of_mem_take hb)
theorem Bs.fit {xs : List (List Int)} (h : Bs xs) : Bs (fitL xs) := fun x hx => h.few x (List.mem_filter.1 hx).1
theorem fit_len (xs : List (List Int)) : (fitL xs).length ≤ 40 := by
  refine Nat.le_trans (List.length_filter_le _ _) ?_
  unfold fewL
  rw [List.length_map, List.length_take]
  omega
theorem fit_8 (xs : List (List Int)) : ∀ x ∈ fitL xs, x.length ≤ 8192 := fun x hx => by simpa using (List.mem_filter.1 hx).2
theorem ReadR.take {w : World} {A : Option Addr} {xs : List (List Int)} (h : ReadR w A xs) (n : Nat) : ReadR w A (xs.take n) := by
  intro i x hx
  rw [List.getElem?_take] at hx
  split at hx
  · exact h i x hx
  · cases hx
theorem kind_byte (b e : Bool) : 0 ≤ kindOf b e ∧ kindOf b e < 256 := by cases b <;> cases e <;> decide
theorem frags_kind (i s : Nat) : ∀ f a l, ∀ e ∈ (frags i s f a l).1, 0 ≤ e.kind ∧ e.kind < 256
  | 0, _, _, e, he => by simp [frags] at he
  | f + 1, a, l, e, he => by
    have h0 : 0 ≤ (nextEv i s a l).kind ∧ (nextEv i s a l).kind < 256 := kind_byte _ _
    by_cases hE : a + (nextEv i s a l).n = s
    · rw [frags_end i s f a l hE] at he
      obtain rfl := List.mem_singleton.1 he
      exact h0
    · rw [frags_more i s f a l hE] at he
      rcases List.mem_cons.1 he with rfl | he
      · exact h0
      · exact frags_kind i s f _ _ e he
theorem plan_kind : ∀ (i : Nat) (ss : List Nat) (l : Nat), ∀ e ∈ plan i ss l, 0 ≤ e.kind ∧ e.kind < 256
  | _, [], _, e, he => by simp [plan] at he
  | i, s :: ss, l, e, he => by
    simp only [plan, List.mem_append] at he
    rcases he with he | he
    · exact frags_kind i s (s + 1) 0 l e he
    · exact plan_kind (i + 1) ss _ e he
theorem cutL_bytes (recs : List (List Int)) (hl : recs.length ≤ 256) (h8 : ∀ r ∈ recs, r.length ≤ 8192) (hB : Bs recs) : Bs (cutL recs) := by
  rw [cutL_ok recs hl h8, outOf_packs]
  intro x hx b hb
  obtain ⟨g, hg, rfl⟩ := List.mem_map.1 hx
  obtain ⟨e, he, hb⟩ := List.mem_flatMap.1 hb
  have hm : e ∈ plan 0 (recs.map List.length) 0 := by
    rw [← packs_flat (plan 0 (recs.map List.length) 0)]
    exact List.mem_flatten.2 ⟨g, hg, he⟩
  have h1 := plan_kind 0 _ 0 e hm
  have h2 := plan_pieces recs e hm
  simp only [enc, List.mem_cons] at hb
  rcases hb with rfl | rfl | hb
  · exact h1
  · omega
  · simp only [piece] at hb
    have hb := List.mem_of_mem_drop (List.mem_of_mem_take hb)
    rw [List.getD_eq_getElem?_getD] at hb
    cases hr : recs[e.rc]? with
    | none => rw [hr] at hb; simp at hb
    | some r =>
      rw [hr] at hb
      exact hB r (List.mem_of_getElem? hr) b hb
theorem cutL_108 (recs : List (List Int)) (hl : recs.length ≤ 256) (h8 : ∀ r ∈ recs, r.length ≤ 8192) : ∀ p ∈ cutL recs, p.length ≤ 108 := by
  obtain ⟨_, _, _, _, h⟩ := plan_at recs h8 ⟨[], [], false⟩ (plan 0 (recs.map List.length) 0) [] (by rw [List.append_nil])
  rw [cutL_ok recs hl h8]
  exact h
theorem cutL_many (recs : List (List Int)) (hl : recs.length ≤ 40) (h8 : ∀ r ∈ recs, r.length ≤ 8192) : (cutL recs).length ≤ 400000 := by
  rw [cutL_len recs (by omega) h8]
  have h1 := freshN_le (plan 0 (recs.map List.length) 0)
  have h2 := plan_len2 0 (recs.map List.length) 0 (fun s hs => by obtain ⟨r, hr, rfl⟩ := List.mem_map.1 hs; exact h8 r hr)
  rw [List.length_map] at h2
  have : recs.length * 8193 ≤ 40 * 8193 := Nat.mul_le_mul_right _ hl
  omega

theorem rem_nat (a n : Nat) : (a : Int).tmod ((n : Int) + 1) = ((a % (n + 1) : Nat) : Int) := by
  rw [show ((n : Int) + 1) = ((n + 1 : Nat) : Int) from by omega, ← Int.ofNat_tmod]

set_option maxRecDepth 100000 in
set_option maxHeartbeats 4000000 in
theorem back_any (A : Option Addr) (c : Nat) (xs : List (List Int)) (a : Nat) (w : World) (ha : a ≤ 65535) (hl : xs.length ≤ maxLen) (hR : ReadR w A xs) (hB : Bs xs) :
    Calls Try.prog 7 #[.slice A xs.length c, .int .u16 a] w (fun e w' => e = .returned (.bool true) ∧ Below w.heap.size w w') := by
  have HR := Lib.hid hR
  have hBf := hB.fit
  have hf4 := fit_len xs
  have hf8 := fit_8 xs
  clear hR hB
  go_enter Try.func7, Try.ntmps7
  go_wp2_with fail
  refine (fit_any A c xs w hl HR.out).mono ?_
  rintro e w1 ⟨A1, c1, rfl, hc1, hr1, hb1⟩
  generalize fitL xs = recs at hBf hf4 hf8 hc1 hr1 ⊢
  have HBf := Lib.hid hBf
  have H8 := Lib.hid hf8
  have HR1 := Lib.hid hr1
  have HB1 := Lib.hid hb1
  clear hBf hf8 hr1 hb1 HR
  go_wp2_with fail
  refine (cut_any A1 c1 recs w1 (by omega) HR1.out).mono ?_
  rintro e w2 ⟨A2, c2, rfl, hc2, hr2, hb2⟩
  rw [cutE_ok recs (by omega) H8.out]
  obtain ⟨p, hp⟩ : ∃ p, p = cutL recs := ⟨_, rfl⟩
  have hpl := cutL_many recs hf4 H8.out
  have hp108 := cutL_108 recs (by omega) H8.out
  have hpb := cutL_bytes recs (by omega) H8.out HBf.out
  have hjb := join_back recs (by omega) H8.out
  have hjt := join_torn recs (by omega) H8.out
  rw [← hp] at hc2 hr2 hpl hp108 hpb hjb hjt ⊢
  have HP := Lib.hid hp
  have HR2 := Lib.hid hr2
  have HB2 := Lib.hid (hb2 : Below w1.heap.size w1 w2)
  have H108 := Lib.hid hp108
  have HPB := Lib.hid hpb
  have HJB := Lib.hid hjb
  have HJT := Lib.hid hjt
  clear hp hr2 hb2 hp108 hpb hjb hjt
  go_wp2_with fail
  refine (join_any A2 c2 p w2 (by omega) HR2.out (fun q hq => Nat.le_trans (H108.out q hq) (by omega)) (fun q hq => HPB.out q hq)).mono ?_
  rintro e w3 ⟨A3, c3, rfl, hc3, hr3, hb3⟩
  rw [HJB.out.1] at hc3 hr3
  rw [HJB.out.1, HJB.out.2]
  have HR3 := Lib.hid hr3
  have HB3 := Lib.hid (hb3 : Below w2.heap.size w2 w3)
  have HB13 : Hid (Below w1.heap.size w1 w3) := HB2.out.trans ((Fr.of_below HB3.out (fun _ => False)).below HB2.out.size (fun _ h => h.elim))
  clear hr3 hb3
  go_wp2_with fail
  refine (same_any A3 A1 c3 c1 recs w3 (by omega) HR3.out (HR1.out.below HB13.out)).mono ?_
  rintro e w4 ⟨rfl, hF4⟩
  have HF4 := Lib.hid hF4
  clear hF4
  go_wp2_with fail
  refine (awake_yes w4).mono ?_
  rintro e w5 ⟨rfl, hF5⟩
  have HF5 := Lib.hid hF5
  clear hF5
  obtain ⟨k, hk⟩ : ∃ k, k = a % (p.length + 1) := ⟨_, rfl⟩
  have hrem := rem_nat a p.length
  rw [← hk] at hrem
  have hkp : k ≤ p.length := by have := Nat.mod_lt a (show 0 < p.length + 1 by omega); omega
  have hk0 : (0 : Int) ≤ (k : Int) := by omega
  have hkc : (k : Int) ≤ (c2 : Int) := by omega
  clear hk
  go_wp2_with fail
  obtain ⟨m, hm, hj1, hj2, hmore⟩ := HJT.out k hkp
  have hkl : (p.take k).length = k := by rw [List.length_take]; omega
  have HB25 : Hid (Below w2.heap.size w2 w5) := HB3.out.trans (((HF4.out.trans HF5.out (fun _ _ h => h)).none (S := fun _ => False)).below HB3.out.size (fun _ h => h.elim))
  have hJ := join_any A2 c2 (p.take k) w5 (by omega) ((HR2.out.below HB25.out).take k) (fun q hq => Nat.le_trans (H108.out q (List.mem_of_mem_take hq)) (by omega)) (fun q hq => HPB.out q (List.mem_of_mem_take hq))
  rw [hkl] at hJ
  refine hJ.mono ?_
  clear hJ
  rintro e w6 ⟨A4, c4, rfl, hc4, hr4, hb4⟩
  rw [hj1] at hc4 hr4
  rw [hj1, hj2]
  have hml : (recs.take m).length = m := by rw [List.length_take]; omega
  rw [hml] at hc4 ⊢
  have hb4' : Below w5.heap.size w5 w6 := hb4
  have HB16 : Hid (Below w1.heap.size w1 w6) := HB2.out.trans ((Fr.of_below HB25.out (fun _ => False)).below HB2.out.size (fun _ h => h.elim) |>.trans ((Fr.of_below hb4' (fun _ => False)).below (Nat.le_trans HB2.out.size HB25.out.size) (fun _ h => h.elim)))
  have HR4 := Lib.hid hr4
  have HM := Lib.hid hmore
  have hmi : (m : Int) ≤ (recs.length : Int) := by omega
  have hmc : (m : Int) ≤ (c1 : Int) := by omega
  have hm0 : (0 : Int) ≤ (m : Int) := by omega
  have hmi' : ¬ (recs.length : Int) < (m : Int) := by omega
  clear hj1 hj2 hmore hr4 hb4 hb4' hrem
  go_wp2_with fail
  have hS := same_any A4 A1 c4 c1 (recs.take m) w6 (by omega) HR4.out ((HR1.out.below HB16.out).take m)
  rw [hml] at hS
  refine hS.mono ?_
  clear hS
  rintro e w7 ⟨rfl, hF7⟩
  have HF7 := Lib.hid hF7
  clear hF7
  have HB17 : Hid (Below w1.heap.size w1 w7) := HB16.out.trans (HF7.out.below HB16.out.size (fun _ h => h.elim))
  by_cases hme : m = recs.length
  · have hme' : ((m : Int) == (recs.length : Int)) = true := by simp [hme]
    have hmE : (m : Int) = (recs.length : Int) := by omega
    have HQ := Lib.hid (And.intro hme' hmE)
    clear hme hmE
    go_wp2
    go_ret
    exact ⟨rfl, HB1.out.trans ((Fr.of_below HB17.out (fun _ => False)).below HB1.out.size (fun _ h => h.elim))⟩
  · have hme' : ((m : Int) == (recs.length : Int)) = false := by simp; omega
    have hmE : ¬ (m : Int) = (recs.length : Int) := by omega
    have hm1 : (m : Int) + 1 ≤ (c1 : Int) := by omega
    have hm2 : (0 : Int) ≤ (m : Int) + 1 := by omega
    have hwr : IntKind.i64.wrap ((m : Int) + 1) = (m : Int) + 1 := by rw [IntKind.wrap_i64]; omega
    have hlen1 : (recs.take (m + 1)).length = m + 1 := by rw [List.length_take]; omega
    have HL1 := Lib.hid hlen1
    clear hlen1
    go_wp2_with fail
    have hT8 : ∀ r ∈ recs.take (m + 1), r.length ≤ 8192 := fun r hr => H8.out r (List.mem_of_mem_take hr)
    have hC := cut_any A1 c1 (recs.take (m + 1)) w7 (by rw [HL1.out]; omega) ((HR1.out.below HB17.out).take (m + 1))
    rw [HL1.out] at hC
    refine hC.mono ?_
    clear hC
    rintro e w8 ⟨A5, c5, rfl, _, _, hb5⟩
    rw [cutE_ok _ (by rw [HL1.out]; omega) hT8]
    have hkq := HM.out (by omega)
    generalize (cutL (recs.take (m + 1))).length = q at hkq ⊢
    have hkq' : (k : Int) < (q : Int) := by omega
    have HB18 : Hid (Below w1.heap.size w1 w8) := HB17.out.trans ((Fr.of_below (hb5 : Below w7.heap.size w7 w8) (fun _ => False)).below HB17.out.size (fun _ h => h.elim))
    clear hT8 hb5 hkq
    go_wp2
    go_ret
    exact ⟨rfl, HB1.out.trans ((Fr.of_below HB18.out (fun _ => False)).below HB1.out.size (fun _ h => h.elim))⟩
end Go.Proofs.Ytedmhhllkkgbjaa
