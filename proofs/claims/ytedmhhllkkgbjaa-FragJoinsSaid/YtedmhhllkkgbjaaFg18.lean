/- FragGroups' walk. -/
import Derived.Test.YtedmhhllkkgbjaaFg16
namespace Go.Proofs.Ytedmhhllkkgbjaa
open Go.RowKit
set_option linter.unusedSimpArgs false
set_option linter.unusedVariables false

/-- a row that is read, as the cells that are appended -/
theorem ReadR.news {w : World} {A : Option Addr} {ys : List (List Int)} (h : ReadR w A ys) : ∃ olds : List Value, olds.length = ys.length ∧ (∀ ad, A = some ad → ∀ j u, olds[j]? = some u → w.cell? (ad.add j) = some u) ∧ (A = none → ys.length = 0) ∧ (∀ u ∈ olds, u.oneCell' = true) ∧
    ∀ (i : Nat) (x : List Int), ys[i]? = some x → ∃ PA pc, olds[i]? = some (.slice PA x.length pc) ∧ ReadB w PA pc x := by
  obtain ⟨olds, h1, h2, h3⟩ := (h.far (S := fun _ => False) (fun _ h => h.elim)).olds'
  refine ⟨olds, h1, h2, fun e => ?_, fun u hu => ?_, fun i x hx => ?_⟩
  · cases ys with
    | nil => rfl
    | cons y ys =>
      obtain ⟨g, o, _, _, e', _⟩ := h 0 y rfl
      rw [e] at e'
      cases e'
  · obtain ⟨i, hi, rfl⟩ := List.mem_iff_getElem.1 hu
    obtain ⟨PA, pc, hv, _⟩ := h3 i (ys[i]'(by omega)) (List.getElem?_eq_getElem (by omega))
    rw [List.getElem?_eq_getElem hi] at hv
    rw [Option.some.inj hv]
    rfl
  · obtain ⟨PA, pc, hv, hb⟩ := h3 i x hx
    exact ⟨PA, pc, hv, hb.read⟩
theorem OutR.app {w0 w' : World} {v' : Value} {xs ys : List (List Int)} {vs olds : List Value} (h : w'.ownsRow w0.heap.size 27 1 v' (xs.length + ys.length) (vs ++ olds)) (hl : vs.length = xs.length) (hl' : olds.length = ys.length)
    (hr : ∀ (i : Nat) (x : List Int), xs[i]? = some x → ∃ PA pc, vs[i]? = some (.slice PA x.length pc) ∧ ReadB w0 PA pc x) (hr' : ∀ (i : Nat) (x : List Int), ys[i]? = some x → ∃ PA pc, olds[i]? = some (.slice PA x.length pc) ∧ ReadB w0 PA pc x) :
    OutR w0 w' v' (xs ++ ys) := by
  refine ⟨_, by simpa using h, by simp [hl, hl'], fun i y hy => ?_⟩
  by_cases hi : i < xs.length
  · rw [List.getElem?_append_left hi] at hy
    rw [List.getElem?_append_left (by omega)]
    exact hr i y hy
  · rw [List.getElem?_append_right (by omega)] at hy
    rw [List.getElem?_append_right (by omega), hl]
    exact hr' _ y hy

theorem below2 {a b c : World} (h : Below a.heap.size a b) (k : Below b.heap.size b c) : Below a.heap.size a c :=
  h.trans ⟨k.os, k.tape, k.output, k.size, fun i hi => k.block i (Nat.lt_of_lt_of_le hi h.size)⟩

set_option maxRecDepth 100000 in
set_option maxHeartbeats 4000000 in
theorem groups_any (A A' : Option Addr) (c c' : Nat) (xs ys : List (List Int)) (a : Nat) (w : World) (ha : a ≤ 65535) (hl : xs.length ≤ maxLen) (hR : ReadR w A xs) (hB : Bs xs) (hl' : ys.length ≤ maxLen) (hR' : ReadR w A' ys) (hB' : Bs ys) :
    Calls Try.prog 8 #[.slice A xs.length c, .slice A' ys.length c', .int .u16 a] w (fun e w' => e = .returned (.bool true) ∧ Below w.heap.size w w') := by
  have HR := Lib.hid hR
  have HR' := Lib.hid hR'
  have hBf := hB.fit
  have hf4 := fit_len xs
  have hf8 := fit_8 xs
  have hBf' := hB'.fit
  have hf4' := fit_len ys
  have hf8' := fit_8 ys
  clear hR hB hR' hB'
  go_enter Try.func8, Try.ntmps8
  go_wp2_with fail
  refine (fit_any A c xs w hl HR.out).mono ?_
  rintro e w1 ⟨A1, c1, rfl, hc1, hr1, hb1⟩
  generalize fitL xs = ra at hBf hf4 hf8 hc1 hr1 ⊢
  have HBf := Lib.hid hBf
  have H8 := Lib.hid hf8
  have HR1 := Lib.hid hr1
  have HB1 := Lib.hid hb1
  clear hBf hf8 hr1 hb1 HR
  go_wp2_with fail
  refine (fit_any A' c' ys w1 hl' (HR'.out.below HB1.out)).mono ?_
  rintro e w2 ⟨A2, c2, rfl, hc2, hr2, hb2⟩
  generalize fitL ys = rb at hBf' hf4' hf8' hc2 hr2 ⊢
  have HBf' := Lib.hid hBf'
  have H8' := Lib.hid hf8'
  have HR2 := Lib.hid hr2
  have HB2 := Lib.hid (hb2 : Below w1.heap.size w1 w2)
  clear hBf' hf8' hr2 hb2 HR'
  go_wp2_with fail
  refine (cut_any A1 c1 ra w2 (by omega) (HR1.out.below HB2.out)).mono ?_
  rintro e w3 ⟨A3, c3, rfl, hc3, hr3, hb3⟩
  rw [cutE_ok ra (by omega) H8.out]
  have HB3 := Lib.hid (hb3 : Below w2.heap.size w2 w3)
  have HR3 := Lib.hid hr3
  clear hr3 hb3
  go_wp2_with fail
  refine (cut_any A2 c2 rb w3 (by omega) (HR2.out.below HB3.out)).mono ?_
  rintro e w4 ⟨A4, c4, rfl, hc4, hr4, hb4⟩
  rw [cutE_ok rb (by omega) H8'.out]
  have HB4 := Lib.hid (hb4 : Below w3.heap.size w3 w4)
  have HR4 := Lib.hid hr4
  clear hr4 hb4
  obtain ⟨p, hp⟩ : ∃ p, p = cutL ra := ⟨_, rfl⟩
  obtain ⟨q, hq⟩ : ∃ q, q = cutL rb := ⟨_, rfl⟩
  have hpl := cutL_many ra hf4 H8.out
  have hp108 := cutL_108 ra (by omega) H8.out
  have hpb := cutL_bytes ra (by omega) H8.out HBf.out
  have hql := cutL_many rb hf4' H8'.out
  have hq108 := cutL_108 rb (by omega) H8'.out
  have hqb := cutL_bytes rb (by omega) H8'.out HBf'.out
  have hjt := join_torn ra (by omega) H8.out
  have hjg := join_groups ra rb (by omega) H8.out (by omega) H8'.out
  have HR3 := Lib.hid (HR3.out.below HB4.out)
  have HR4 := HR4
  rw [← hp] at hc3 HR3 hpl hp108 hpb hjt hjg ⊢
  rw [← hq] at hc4 HR4 hql hq108 hqb hjg ⊢
  have HPP : Hid ((∀ x ∈ p, x.length ≤ 108) ∧ Bs p) := ⟨hp108, hpb⟩
  have HQQ : Hid ((∀ x ∈ q, x.length ≤ 108) ∧ Bs q) := ⟨hq108, hqb⟩
  have HJT := Lib.hid hjt
  have HJG := Lib.hid hjg
  clear hp hq hp108 hpb hq108 hqb hjt hjg
  go_wp2_with fail
  refine (awake_yes w4).mono ?_
  rintro e w5 ⟨rfl, hF5⟩
  have HF5 := Lib.hid hF5
  clear hF5
  obtain ⟨k, hk⟩ : ∃ k, k = a % (p.length + 1) := ⟨_, rfl⟩
  have hrem := rem_nat a p.length
  rw [← hk] at hrem
  have hkp : k ≤ p.length := by have := Nat.mod_lt a (show 0 < p.length + 1 by omega); omega
  have hk0 : (0 : Int) ≤ (k : Int) := by omega
  have hkc : (k : Int) ≤ (c3 : Int) := by omega
  clear hk
  go_wp2_with fail
  obtain ⟨m, hm, hj1, hj2, _⟩ := HJT.out k hkp
  have hkl : (p.take k).length = k := by rw [List.length_take]; omega
  have HR5 := Lib.hid ((HR3.out.below HF5.out.below0).take k)
  have HQ5 := Lib.hid (HR4.out.below HF5.out.below0)
  have hJ := join_any A3 c3 (p.take k) w5 (by omega) HR5.out (fun x hx => Nat.le_trans (HPP.out.1 x (List.mem_of_mem_take hx)) (by omega)) (fun x hx => HPP.out.2 x (List.mem_of_mem_take hx))
  rw [hkl] at hJ
  refine hJ.mono ?_
  clear hJ
  rintro e w6 ⟨A6, c6, rfl, hc6, hr6, hb6⟩
  rw [hj2]
  obtain ⟨first, hfirst⟩ : ∃ first, first = joinR (p.take k) := ⟨_, rfl⟩
  have hfl : first.length ≤ 40 := by rw [hfirst, hj1, List.length_take]; omega
  have hjg := HJG.out k hkp
  rw [← hfirst] at hr6 hc6 hjg ⊢
  have HB6 := Lib.hid (hb6 : Below w5.heap.size w5 w6)
  have HR6 := Lib.hid hr6
  have HP6 := Lib.hid (HR5.out.below hb6)
  have HQ6 := Lib.hid (HQ5.out.below hb6)
  have HB36 : Hid (Below w2.heap.size w2 w6) := below2 (below2 (below2 HB3.out HB4.out) HF5.out.below0) hb6
  have HB6a : Hid (Below w1.heap.size w1 w6) := below2 HB2.out HB36.out
  have HRB := Lib.hid (HR2.out.below HB36.out)
  obtain ⟨o1, h11, h12, h13, h14, h15⟩ := HP6.out.news
  obtain ⟨o2, h21, h22, h23, h24, h25⟩ := HQ6.out.news
  rw [hkl] at h11 h13
  have HO1 := Lib.hid (And.intro h11 (And.intro h12 (And.intro h13 (And.intro h14 h15))))
  have HO2 := Lib.hid (And.intro h21 (And.intro h22 (And.intro h23 (And.intro h24 h25))))
  have HJG2 := Lib.hid hjg
  have HKL := Lib.hid hkl
  clear hrem hj1 hj2 hb6 hr6 hfirst h11 h12 h13 h14 h15 h21 h22 h23 h24 h25 hjg HB2 HB3 HB4 HF5 HR1 HR2 HR3 HR4 HR5 HQ5 hkl
  have hN := OutR.nil w6 w6
  obtain ⟨_, hN1, _, _⟩ := hN
  have HN0 : Hid (w6.ownsRow w6.heap.size 27 1 (.slice none 0 0) 0 []) := ⟨by simp, .inl ⟨rfl, rfl⟩⟩
  clear hN1
  go_wp2_with (first
    | (at_builtin; refine wpl_appx rfl (.tmp 55) (.tmp 58) 47 rfl w6.heap.size 27 _ 1 24 Try.underlying47 Try.info27 rfl (by decide) (.slice none 0 0) 0 [] rfl HN0.out A3 k c3 o1 rfl (by rw [HO1.out.1, Nat.mul_one]) HO1.out.2.1 HO1.out.2.2.1 HO1.out.2.2.2.1 (by simp [maxLen]; omega) (by omega) (Nat.le_refl _) ?_; intro v7 w7 ho7 hg7 hm7; rw [Nat.zero_add, List.nil_append] at ho7; obtain ⟨A7, c7, rfl⟩ := own_slice ho7; have HO7 := Lib.hid ho7; have HF7 : Hid (Fr (fun k => w6.heap.size ≤ k) w6 w7) := (Fr.refl (fun k => w6.heap.size ≤ k) w6).grown hg7 (fun k hk => (by cases hk)); have HOB := Lib.hid (HF7.out.below (Nat.le_refl _) (fun _ h => h)); clear ho7 hg7 hm7)
    | (at_builtin; refine wpl_appx rfl (.tmp 60) (.tmp 61) 47 rfl w6.heap.size 27 _ 1 24 Try.underlying47 Try.info27 rfl (by decide) (.slice A7 k c7) k o1 rfl HO7.out A4 q.length c4 o2 rfl (by rw [HO2.out.1, Nat.mul_one]) (fun ad e j u hu => (Fr.of_below HOB.out (fun _ => False)).cell0 (HO2.out.2.1 ad e j u hu)) HO2.out.2.2.1 HO2.out.2.2.2.1 (by simp [maxLen]; omega) (by omega) HF7.out.size ?_; intro v8 w8 ho8 hg8 hm8; obtain ⟨A8, c8, rfl⟩ := own_slice ho8; have HO8 := Lib.hid ho8; have HF8 : Hid (Fr (fun k => w6.heap.size ≤ k) w6 w8) := HF7.out.grown hg8 (fun k hk => .inl (HO7.out.lt k hk).1); clear ho8 hg8 hm8))
  have hb68 : Below w6.heap.size w6 w8 := HF8.out.below (Nat.le_refl _) (fun _ h => h)
  have hall : OutR w6 w8 (.slice A8 (k + q.length) c8) (p.take k ++ q) := OutR.app (xs := p.take k) (ys := q) (by rw [HKL.out]; exact HO8.out) (by rw [HO1.out.1, HKL.out]) HO2.out.1 HO1.out.2.2.2.2 HO2.out.2.2.2.2
  obtain ⟨A9, c9, e9, hc9, hr9⟩ := hall.read hb68
  simp only [Value.slice.injEq] at e9
  obtain ⟨rfl, e9, rfl⟩ := e9
  have hkq : (p.take k ++ q).length = k + q.length := e9.symm
  have HKQ := Lib.hid hkq
  have HB68 := Lib.hid hb68
  have hJ := join_any A8 c8 (p.take k ++ q) w8 (by rw [hkq]; omega) hr9 (fun x hx => by
      rcases List.mem_append.1 hx with hx | hx
      · exact Nat.le_trans (HPP.out.1 x (List.mem_of_mem_take hx)) (by omega)
      · exact Nat.le_trans (HQQ.out.1 x hx) (by omega)) (fun x hx => by
      rcases List.mem_append.1 hx with hx | hx
      · exact HPP.out.2 x (List.mem_of_mem_take hx)
      · exact HQQ.out.2 x hx)
  clear hb68 hall e9 hc9 hr9
  rw [hkq] at hJ
  clear hkq
  refine hJ.mono ?_
  clear hJ
  rintro e w9 ⟨A9, c9, rfl, hc9, hr9, hb9⟩
  rw [HJG2.out.1] at hc9 hr9
  rw [HJG2.out.1, HJG2.out.2, HKQ.out]
  have hwl : (first ++ rb).length = first.length + rb.length := List.length_append
  have HWL := Lib.hid hwl
  have HB9 := Lib.hid (hb9 : Below w8.heap.size w8 w9)
  have HR9 := Lib.hid hr9
  have HB69 : Hid (Below w6.heap.size w6 w9) := below2 HB68.out HB9.out
  obtain ⟨o3, h31, h32, h33, h34, h35⟩ := (HR6.out.below HB69.out).news
  obtain ⟨o4, h41, h42, h43, h44, h45⟩ := (HRB.out.below HB69.out).news
  have HO3 := Lib.hid (And.intro h31 (And.intro h32 (And.intro h33 (And.intro h34 h35))))
  have HO4 := Lib.hid (And.intro h41 (And.intro h42 (And.intro h43 (And.intro h44 h45))))
  have HN9 : Hid (w9.ownsRow w9.heap.size 27 1 (.slice none 0 0) 0 []) := ⟨by simp, .inl ⟨rfl, rfl⟩⟩
  clear h31 h32 h33 h34 h35 h41 h42 h43 h44 h45 hb9 hr9 hc9 hwl HO7 HF7 HOB HO8 HF8
  go_wp2_with (first
    | (at_builtin; refine wpl_appx rfl (.tmp 68) (.tmp 69) 47 rfl w9.heap.size 27 _ 1 24 Try.underlying47 Try.info27 rfl (by decide) (.slice none 0 0) 0 [] rfl HN9.out A6 first.length c6 o3 rfl (by rw [HO3.out.1, Nat.mul_one]) HO3.out.2.1 HO3.out.2.2.1 HO3.out.2.2.2.1 (by simp [maxLen]; omega) (by omega) (Nat.le_refl _) ?_; intro v7 w7 ho7 hg7 hm7; rw [Nat.zero_add, List.nil_append] at ho7; obtain ⟨A7, c7, rfl⟩ := own_slice ho7; have HO7 := Lib.hid ho7; have HF7 : Hid (Fr (fun k => w9.heap.size ≤ k) w9 w7) := (Fr.refl (fun k => w9.heap.size ≤ k) w9).grown hg7 (fun k hk => (by cases hk)); have HOB := Lib.hid (HF7.out.below (Nat.le_refl _) (fun _ h => h)); clear ho7 hg7 hm7)
    | (at_builtin; refine wpl_appx rfl (.tmp 71) (.tmp 72) 47 rfl w9.heap.size 27 _ 1 24 Try.underlying47 Try.info27 rfl (by decide) (.slice A7 first.length c7) first.length o3 rfl HO7.out A2 rb.length c2 o4 rfl (by rw [HO4.out.1, Nat.mul_one]) (fun ad e j u hu => (Fr.of_below HOB.out (fun _ => False)).cell0 (HO4.out.2.1 ad e j u hu)) HO4.out.2.2.1 HO4.out.2.2.2.1 (by simp [maxLen]; omega) (by omega) HF7.out.size ?_; intro vA wA hoA hgA hmA; obtain ⟨AA, cA, rfl⟩ := own_slice hoA; have HOA := Lib.hid hoA; have HFA : Hid (Fr (fun k => w9.heap.size ≤ k) w9 wA) := HF7.out.grown hgA (fun k hk => .inl (HO7.out.lt k hk).1); clear hoA hgA hmA))
  have hb9A : Below w9.heap.size w9 wA := HFA.out.below (Nat.le_refl _) (fun _ h => h)
  have hwant : OutR w9 wA (.slice AA (first.length + rb.length) cA) (first ++ rb) := OutR.app (xs := first) (ys := rb) HOA.out HO3.out.1 HO4.out.1 HO3.out.2.2.2.2 HO4.out.2.2.2.2
  obtain ⟨AB, cB, eB, hcB, hrB⟩ := hwant.read hb9A
  simp only [Value.slice.injEq] at eB
  obtain ⟨rfl, _, rfl⟩ := eB
  have HB9A := Lib.hid hb9A
  have hS := same_any A9 AA c9 cA (first ++ rb) wA (by rw [HWL.out]; omega) (HR9.out.below HB9A.out) hrB
  rw [HWL.out] at hS
  clear hb9A hwant hcB hrB
  refine hS.mono ?_
  clear hS
  rintro e wE ⟨rfl, hFE⟩
  have HFE := Lib.hid hFE
  clear hFE
  dsimp only
  go_wp2
  go_ret
  exact ⟨rfl, below2 (below2 (below2 (below2 HB1.out HB6a.out) HB69.out) HB9A.out) HFE.out.below0⟩
end Go.Proofs.Ytedmhhllkkgbjaa
