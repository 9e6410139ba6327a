/- lienlaw08.few, fit and same: rows that are handed on, and held against one another. -/
import Derived.Test.YtedmhhllkkgbjaaFg14
import Derived.Laws.BytesArg
namespace Go.Proofs.Ytedmhhllkkgbjaa
open Go.RowKit
set_option linter.unusedSimpArgs false
set_option linter.unusedVariables false

/-- a new row of rows that were read ahead of it -/
def OutR (w0 w : World) (v : Value) (xs : List (List Int)) : Prop :=
  ∃ vs, w.ownsRow w0.heap.size 27 1 v xs.length vs ∧ vs.length = xs.length ∧ ∀ (i : Nat) (x : List Int), xs[i]? = some x → ∃ PA pc, vs[i]? = some (.slice PA x.length pc) ∧ ReadB w0 PA pc x
theorem OutR.nil (w0 w : World) : OutR w0 w (.slice none 0 0) [] := ⟨[], ⟨by simp, .inl ⟨rfl, rfl⟩⟩, rfl, fun i x h => by simp at h⟩
theorem OutR.snoc {w0 w' : World} {v' : Value} {xs : List (List Int)} {vs : List Value} {x : List Int} {PA : Option Addr} {pc : Nat} (h : w'.ownsRow w0.heap.size 27 1 v' (xs.length + 1) (vs ++ [.slice PA x.length pc])) (hl : vs.length = xs.length)
    (hr : ∀ (i : Nat) (x : List Int), xs[i]? = some x → ∃ PA pc, vs[i]? = some (.slice PA x.length pc) ∧ ReadB w0 PA pc x) (hx : ReadB w0 PA pc x) : OutR w0 w' v' (xs ++ [x]) := by
  refine ⟨_, by simpa using h, by simp [hl], fun i y hy => ?_⟩
  by_cases hi : i < xs.length
  · rw [List.getElem?_append_left hi] at hy
    rw [List.getElem?_append_left (by omega)]
    exact hr i y hy
  · have : i = xs.length := by
      have := (List.getElem?_eq_some_iff.1 hy).1
      simp at this
      omega
    subst this
    obtain rfl : x = y := by simpa using hy
    exact ⟨PA, pc, by rw [← hl]; simp, hx⟩
theorem OutR.read {w0 w : World} {v : Value} {xs : List (List Int)} (h : OutR w0 w v xs) (hb : Below w0.heap.size w0 w) : ∃ A c, v = .slice A xs.length c ∧ xs.length ≤ c ∧ ReadR w A xs := by
  obtain ⟨vs, ho, hl, hr⟩ := h
  obtain ⟨A, c, rfl⟩ := own_slice ho
  have hn := own_news ho
  refine ⟨A, c, rfl, ?_, fun i x hx => ?_⟩
  · rcases ho.2 with ⟨hv, hx⟩ | ⟨g2, c2, cur, hv, _, _, hc, _⟩
    · rw [hx]; exact Nat.zero_le _
    · simp only [Value.slice.injEq] at hv
      rw [hv.2.2]
      exact hc
  · obtain ⟨PA, pc, h1, h2⟩ := hr i x hx
    have hi := (List.getElem?_eq_some_iff.1 hx).1
    rcases ho.2 with ⟨hv, h0⟩ | ⟨g2, c2, cur, hv, _⟩
    · omega
    · simp only [Value.slice.injEq] at hv
      obtain ⟨rfl, _, _⟩ := hv
      have hcell := hn.1 _ rfl i _ h1
      rw [add_some] at hcell
      exact ⟨g2, 0, PA, pc, rfl, hcell, h2.below hb⟩

/-- a new row is told of -/
def RowsPost (w : World) (ys : List (List Int)) (e : Ending) (w' : World) : Prop :=
  ∃ A c, e = .returned (.slice A ys.length c) ∧ ys.length ≤ c ∧ ReadR w' A ys ∧ Below w.heap.size w w'

def fewL (xs : List (List Int)) : List (List Int) := (xs.take 40).map (fun x => x.take 9000)
def fitL (xs : List (List Int)) : List (List Int) := (fewL xs).filter (fun x => decide (x.length ≤ 8192))

theorem ReadB.take {w : World} {A : Option Addr} {c : Nat} {x : List Int} (h : ReadB w A c x) (n : Nat) : ReadB w A c (x.take n) := by
  refine ⟨by rw [List.length_take]; have := h.cap; omega, fun g o s e => ⟨(h.cells g o s e).1, fun j b hj => ?_⟩, fun e => by rw [h.empty e]; simp⟩
  rw [List.getElem?_take] at hj
  split at hj
  · exact (h.cells g o s e).2 j b hj
  · cases hj

set_option maxRecDepth 100000 in
set_option maxHeartbeats 4000000 in
theorem few_any (A : Option Addr) (c : Nat) (xs : List (List Int)) (w : World) (hl : xs.length ≤ maxLen) (hR : ReadR w A xs) :
    Calls Try.prog 29 #[.slice A xs.length c] w (RowsPost w (fewL xs)) := by
  have HR := Lib.hid hR
  clear hR
  go_enter Try.func29, Try.ntmps29
  go_wp2_with fail
  go_loopw [3, 4] (fun u k wr => ∃ i : Nat, i ≤ xs.length ∧ i ≤ 40 ∧ k = .int .i64 i ∧ (∃ U uc, u = .slice U i uc) ∧ OutR w wr u ((xs.take i).map (fun x => x.take 9000)) ∧ Fr (fun k => w.heap.size ≤ k) w wr) (fun _ k _ => 40 - (intOf k).toNat)
  case atStart => exact ⟨0, by omega, by omega, rfl, ⟨_, _, rfl⟩, OutR.nil _ _, Fr.refl _ _⟩
  case round =>
    obtain ⟨i, hi, hi4, rfl, ⟨U, uc, rfl⟩, hO, hF⟩ := hrel
    by_cases hlt : i < xs.length ∧ i < 40
    · obtain ⟨hlt, hlt4⟩ := hlt
      obtain ⟨x, hx⟩ : ∃ x, xs[i]? = some x := ⟨_, List.getElem?_eq_getElem hlt⟩
      obtain ⟨gq, oq, PA, pc, rfl, hq, hpb⟩ := HR.out i x hx
      have hq2 := (Fr.of_below (hF.below (Nat.le_refl _) (fun _ h => h)) (fun _ => False)).cell0 hq
      have hii : (i : Int) < xs.length := by omega
      have hi40 : (i : Int) < 40 := by omega
      obtain ⟨vs, ho, hvl, hvr⟩ := hO
      have hlen : ((xs.take i).map (fun x => x.take 9000)).length = i := by rw [List.length_map, List.length_take]; omega
      rw [hlen] at ho hvl
      have e1 : (xs.take (i + 1)).map (fun x => x.take 9000) = (xs.take i).map (fun x => x.take 9000) ++ [x.take 9000] := by
        rw [List.take_add_one, hx]
        simp
      have hbw : w.heap.size ≤ wr.heap.size := hF.size
      have HX := Lib.hid hx
      have HF := Lib.hid hF
      have HO := Lib.hid ho
      have HVL := Lib.hid hvl
      have HVR := Lib.hid hvr
      have HE1 := Lib.hid e1
      have HPB := Lib.hid hpb
      have HLEN := Lib.hid hlen
      clear hx hF ho hq hpb hvl hvr e1 hlen
      by_cases h9 : 9000 < x.length
      · have h9i : (9000 : Int) < (x.length : Int) := by omega
        have hcap : (9000 : Int) ≤ (pc : Int) := by have := HPB.out.cap; omega
        have htl : (x.take 9000).length = 9000 := by rw [List.length_take]; omega
        have HTL := Lib.hid htl
        clear htl
        have HA1 : Hid (Fr (fun _ => False) wr (wr.alloc (.cells #[.slice PA 9000 pc] 27))) := (Fr.refl (fun _ => False) wr).alloc _
        go_wp2_with (at_builtin; refine wpl_app rfl (.tmp 25) (.tmp 27) 47 rfl w.heap.size 27 _ 1 24 Try.underlying47 Try.info27 rfl (by decide) (.slice U i uc) i vs rfl (HA1.out.own0 HO.out) ⟨wr.heap.size, 0, none⟩ 1 1 [.slice PA 9000 pc] rfl rfl (news_of (blk_new _ _)) (by simp [Value.oneCell']) (by simp [maxLen]; omega) (by omega) (Nat.le_trans hbw HA1.out.size) ?_; intro v2 w2 ho2 hg2 hm2; obtain ⟨A2, c2, rfl⟩ := own_slice ho2)
        have F2 : Fr (fun k => w.heap.size ≤ k) w w2 := HF.out.trans' ((HA1.out.none (S := fun k => some k = (Value.slice U i uc).ownBlock)).grown hg2 (fun k hk => .inr hk.symm)) (fun _ _ h => h) (fun k _ hk => (HO.out.lt k hk.symm).1)
        refine ⟨⟨i + 1, by omega, by omega, by go_num, ⟨_, _, rfl⟩, ?_, F2⟩, by simp [intOf]; omega⟩
        rw [HE1.out]
        have := HPB.out.take 9000
        refine OutR.snoc (PA := PA) (pc := pc) (vs := vs) (by rw [HLEN.out, HTL.out]; exact ho2) (by rw [HLEN.out]; exact HVL.out) HVR.out this
      · have h9i : ¬ (9000 : Int) < (x.length : Int) := by omega
        have htl : x.take 9000 = x := List.take_of_length_le (by omega)
        have HTL := Lib.hid htl
        clear htl
        have HA1 : Hid (Fr (fun _ => False) wr (wr.alloc (.cells #[.slice PA x.length pc] 27))) := (Fr.refl (fun _ => False) wr).alloc _
        go_wp2_with (at_builtin; refine wpl_app rfl (.tmp 25) (.tmp 27) 47 rfl w.heap.size 27 _ 1 24 Try.underlying47 Try.info27 rfl (by decide) (.slice U i uc) i vs rfl (HA1.out.own0 HO.out) ⟨wr.heap.size, 0, none⟩ 1 1 [.slice PA x.length pc] rfl rfl (news_of (blk_new _ _)) (by simp [Value.oneCell']) (by simp [maxLen]; omega) (by omega) (Nat.le_trans hbw HA1.out.size) ?_; intro v2 w2 ho2 hg2 hm2; obtain ⟨A2, c2, rfl⟩ := own_slice ho2)
        have F2 : Fr (fun k => w.heap.size ≤ k) w w2 := HF.out.trans' ((HA1.out.none (S := fun k => some k = (Value.slice U i uc).ownBlock)).grown hg2 (fun k hk => .inr hk.symm)) (fun _ _ h => h) (fun k _ hk => (HO.out.lt k hk.symm).1)
        refine ⟨⟨i + 1, by omega, by omega, by go_num, ⟨_, _, rfl⟩, ?_, F2⟩, by simp [intOf]; omega⟩
        rw [HE1.out, HTL.out]
        exact OutR.snoc (PA := PA) (pc := pc) (vs := vs) (by rw [HLEN.out]; exact ho2) (by rw [HLEN.out]; exact HVL.out) HVR.out HPB.out
    · have hfe : (xs.take i).map (fun x => x.take 9000) = fewL xs := by
        rcases Nat.lt_or_ge i xs.length with h1 | h1
        · obtain rfl : i = 40 := by omega
          rfl
        · obtain rfl : i = xs.length := by omega
          simp only [fewL]
          rw [List.take_length, List.take_of_length_le (l := xs) (by omega)]
      rw [hfe] at hO
      have hb := hF.below (Nat.le_refl _) (fun _ h => h)
      obtain ⟨A2, c2, e2, hc2, hr2⟩ := hO.read hb
      simp only [Value.slice.injEq] at e2
      obtain ⟨rfl, e3, rfl⟩ := e2
      have HR2 := Lib.hid hr2
      have HC2 := Lib.hid hc2
      have HE3 := Lib.hid e3
      have HB := Lib.hid hb
      clear hr2 hc2 e3 hb hO hF hfe
      rcases Nat.lt_or_ge i xs.length with h1 | h1
      · have h2 : ¬ (i : Int) < 40 := by omega
        have h3 : (i : Int) < xs.length := by omega
        go_wp2
        go_ret
        exact ⟨U, uc, by rw [HE3.out]; rfl, HC2.out, HR2.out, HB.out⟩
      · have h3 : ¬ (i : Int) < xs.length := by omega
        go_wp2
        go_ret
        exact ⟨U, uc, by rw [HE3.out]; rfl, HC2.out, HR2.out, HB.out⟩

set_option maxRecDepth 100000 in
set_option maxHeartbeats 4000000 in
theorem fit_any (A : Option Addr) (c : Nat) (xs : List (List Int)) (w : World) (hl : xs.length ≤ maxLen) (hR : ReadR w A xs) :
    Calls Try.prog 33 #[.slice A xs.length c] w (RowsPost w (fitL xs)) := by
  have HR := Lib.hid hR
  clear hR
  go_enter Try.func33, Try.ntmps33
  go_wp2_with fail
  refine (few_any A c xs w hl HR.out).mono ?_
  rintro e w1 ⟨FA, fc, rfl, hfc, hfr, hfb⟩
  have hfl : fitL xs = (fewL xs).filter (fun x => decide (x.length ≤ 8192)) := rfl
  have hn4 : (fewL xs).length ≤ 40 := by unfold fewL; rw [List.length_map, List.length_take]; omega
  generalize fewL xs = ys at hfc hfr hfl hn4 ⊢
  have HFL := Lib.hid hfl
  have HFB := Lib.hid hfb
  have HFR := Lib.hid hfr
  clear hfl hfb hfr HR hfc
  go_wp2_with fail
  go_loopw [3, 4] (fun u k wr => ∃ i : Nat, i ≤ ys.length ∧ k = .int .i64 i ∧ (∃ U uc, u = .slice U ((ys.take i).filter (fun x => decide (x.length ≤ 8192))).length uc) ∧ OutR w1 wr u ((ys.take i).filter (fun x => decide (x.length ≤ 8192))) ∧ Fr (fun k => w1.heap.size ≤ k) w1 wr) (fun _ k _ => ys.length - (intOf k).toNat)
  case atStart => exact ⟨0, by omega, rfl, ⟨_, _, rfl⟩, OutR.nil _ _, Fr.refl _ _⟩
  case round =>
    obtain ⟨i, hi, rfl, ⟨U, uc, rfl⟩, hO, hF⟩ := hrel
    by_cases hlt : i < ys.length
    · obtain ⟨x, hx⟩ : ∃ x, ys[i]? = some x := ⟨_, List.getElem?_eq_getElem hlt⟩
      obtain ⟨gq, oq, PA, pc, rfl, hq, hpb⟩ := HFR.out i x hx
      have hq2 := (Fr.of_below (hF.below (Nat.le_refl _) (fun _ h => h)) (fun _ => False)).cell0 hq
      have hii : (i : Int) < ys.length := by omega
      have hle : ((ys.take i).filter (fun x => decide (x.length ≤ 8192))).length ≤ i := by
        have h1 := List.length_filter_le (fun x : List Int => decide (x.length ≤ 8192)) (ys.take i)
        rw [List.length_take] at h1
        omega
      have e1 : (ys.take (i + 1)).filter (fun x => decide (x.length ≤ 8192)) = (ys.take i).filter (fun x => decide (x.length ≤ 8192)) ++ (if x.length ≤ 8192 then [x] else []) := by
        rw [List.take_add_one, hx, List.filter_append]
        congr 1
        show List.filter _ [x] = _
        by_cases h : x.length ≤ 8192
        · simp [h]
        · simp [h]
      have hbw : w1.heap.size ≤ wr.heap.size := hF.size
      have HX := Lib.hid hx
      have HF := Lib.hid hF
      have HE1 := Lib.hid e1
      have HPB := Lib.hid hpb
      generalize hz : (ys.take i).filter (fun x => decide (x.length ≤ 8192)) = zs at *
      generalize hzn : zs.length = zn at *
      obtain ⟨vs, ho, hvl, hvr⟩ := hO
      have HO := Lib.hid ho
      have HVL := Lib.hid hvl
      have HVR := Lib.hid hvr
      have HZN := Lib.hid hzn
      clear hx hF ho hq hpb hvl hvr e1 hz hzn
      by_cases h8 : x.length ≤ 8192
      · have h8i : (x.length : Int) ≤ 8192 := by omega
        have HA1 : Hid (Fr (fun _ => False) wr (wr.alloc (.cells #[.slice PA x.length pc] 27))) := (Fr.refl (fun _ => False) wr).alloc _
        go_wp2_with (at_builtin; refine wpl_app rfl (.tmp 19) (.tmp 24) 47 rfl w1.heap.size 27 _ 1 24 Try.underlying47 Try.info27 rfl (by decide) (.slice U zn uc) zn vs rfl (HA1.out.own0 (HZN.out ▸ HO.out)) ⟨wr.heap.size, 0, none⟩ 1 1 [.slice PA x.length pc] rfl rfl (news_of (blk_new _ _)) (by simp [Value.oneCell']) (by simp [maxLen]; omega) (by omega) (Nat.le_trans hbw HA1.out.size) ?_; intro v2 w2 ho2 hg2 hm2; obtain ⟨A2, c2, rfl⟩ := own_slice ho2)
        have F2 : Fr (fun k => w1.heap.size ≤ k) w1 w2 := HF.out.trans' ((HA1.out.none (S := fun k => some k = (Value.slice U zn uc).ownBlock)).grown hg2 (fun k hk => .inr hk.symm)) (fun _ _ h => h) (fun k _ hk => (HO.out.lt k hk.symm).1)
        have hlen1 : ((ys.take (i + 1)).filter (fun x => decide (x.length ≤ 8192))).length = zn + 1 := by rw [HE1.out, if_pos h8, List.length_append, HZN.out]; rfl
        refine ⟨⟨i + 1, by omega, by go_num, ⟨_, _, by rw [hlen1]⟩, ?_, F2⟩, by simp [intOf]; omega⟩
        rw [HE1.out, if_pos h8]
        exact OutR.snoc (PA := PA) (pc := pc) (vs := vs) (by rw [HZN.out]; exact ho2) (by rw [HVL.out]) HVR.out HPB.out
      · have h8i : ¬ (x.length : Int) ≤ 8192 := by omega
        go_wp2_with fail
        have hlen1 : ((ys.take (i + 1)).filter (fun x => decide (x.length ≤ 8192))).length = zn := by rw [HE1.out, if_neg h8, List.append_nil, HZN.out]
        refine ⟨⟨i + 1, by omega, by go_num, ⟨_, _, by rw [hlen1]⟩, ?_, HF.out⟩, by simp [intOf]; omega⟩
        rw [HE1.out, if_neg h8, List.append_nil]
        exact ⟨vs, HZN.out ▸ HO.out, HVL.out, HVR.out⟩
    · have hie : i = ys.length := by omega
      subst hie
      rw [List.take_length, ← HFL.out] at hO
      have hle : (List.length (fitL xs)) ≤ 40 := by rw [HFL.out]; exact Nat.le_trans (List.length_filter_le _ _) hn4
      rw [List.take_length, ← HFL.out]
      have hb := hF.below (Nat.le_refl _) (fun _ h => h)
      obtain ⟨A2, c2, e2, hc2, hr2⟩ := hO.read hb
      simp only [Value.slice.injEq] at e2
      obtain ⟨rfl, _, rfl⟩ := e2
      have HR2 := Lib.hid hr2
      have HC2 := Lib.hid hc2
      have HB : Hid (Below w.heap.size w wr) := HFB.out.trans (hF.below HFB.out.size (fun k h => Nat.le_trans HFB.out.size h))
      clear hr2 hc2 hb hO hF
      go_wp2
      go_ret
      exact ⟨U, uc, rfl, HC2.out, HR2.out, HB.out⟩

theorem str_nil : strOfNums [] = ByteArray.empty := rfl
theorem ReadB.str {w : World} {A : Option Addr} {c : Nat} {x : List Int} (h : ReadB w A c x) : (convert 27 9 (.slice A x.length c)).run Try.prog w = .ok (.string (strOfNums x)) w := by
  cases A with
  | none =>
    rw [h.empty rfl]
    exact run_convert_bytes_nil w 27 5 Try.underlying27 Try.underlying5 _ _ 9 Try.underlying9
  | some a =>
    obtain ⟨g, o, s⟩ := a
    obtain ⟨hs, hc⟩ := h.cells g o s rfl
    rcases Nat.eq_zero_or_pos c with h0 | h0
    · have hx : x = [] := List.eq_nil_of_length_eq_zero (by have := h.cap; omega)
      subst hx
      rw [run_convert_bytes_string w 27 9 5 _ _ c Try.underlying27 Try.underlying5 Try.underlying9, List.length_nil, run_bytesToString w _ 0 c [] (by simpa using run_loadCells_list (P := Try.prog) w ⟨g, o, s⟩ [] (fun j v hj => by simp at hj))]
      rfl
    obtain rfl := hs h0
    exact run_convert_bytes_arg w 27 5 Try.underlying27 Try.underlying5 g o x.length c x rfl (fun i hi => hc i _ (by rw [List.getD_eq_getElem?_getD, List.getElem?_eq_getElem hi]; rfl)) 9 Try.underlying9

set_option maxRecDepth 100000 in
set_option maxHeartbeats 4000000 in
theorem same_any (A A' : Option Addr) (c c' : Nat) (xs : List (List Int)) (w : World) (hl : xs.length ≤ 1000000000) (hR : ReadR w A xs) (hR' : ReadR w A' xs) :
    Calls Try.prog 32 #[.slice A xs.length c, .slice A' xs.length c'] w (fun e w' => e = .returned (.bool true) ∧ Fr (fun _ => False) w w') := by
  have HR := Lib.hid hR
  have HR' := Lib.hid hR'
  clear hR hR'
  go_enter Try.func32, Try.ntmps32
  go_wp2_with fail
  go_loopw [5] (fun k wr => ∃ i : Nat, i ≤ xs.length ∧ k = .int .i64 i ∧ Fr (fun _ => False) w wr) (fun k _ => xs.length - (intOf k).toNat)
  case atStart => exact ⟨0, by omega, rfl, Fr.refl _ _⟩
  case round =>
    obtain ⟨i, hi, rfl, hF⟩ := hrel
    by_cases hlt : i < xs.length
    · obtain ⟨x, hx⟩ : ∃ x, xs[i]? = some x := ⟨_, List.getElem?_eq_getElem hlt⟩
      obtain ⟨gq, oq, PA, pc, rfl, hq, hpb⟩ := HR.out i x hx
      obtain ⟨gq', oq', PA', pc', rfl, hq', hpb'⟩ := HR'.out i x hx
      have hq2 := hF.cell0 hq
      have hq2' := hF.cell0 hq'
      have hii : (i : Int) < xs.length := by omega
      have hs1 := (hpb.below hF.drew.below0).str
      have hs2 := (hpb'.below hF.drew.below0).str
      have hd1 : wr.drew.cell? _ = some _ := hq2
      have hd2 : wr.drew.cell? _ = some _ := hq2'
      have HF := Lib.hid hF
      clear hF hx hpb hpb' hq hq'
      go_upto_region 6 with (fail)
      go_region_held3 (fun w' => w'.cell? ⟨gq, oq + i, none⟩ = some (.slice PA x.length pc) ∧ w'.cell? ⟨gq', oq' + i, none⟩ = some (.slice PA' x.length pc') ∧ (convert 27 9 (.slice PA x.length pc)).run Try.prog w' = .ok (.string (strOfNums x)) w' ∧ (convert 27 9 (.slice PA' x.length pc')).run Try.prog w' = .ok (.string (strOfNums x)) w') (exact ⟨hd1, hd2, hs1, hs2⟩) (fail)
      go_wp2
      refine ⟨⟨i + 1, by omega, by go_num, HF.out.drew⟩, by simp [intOf]; omega⟩
    · have h3 : ¬ (i : Int) < xs.length := by omega
      have HF := Lib.hid hF
      clear hF
      go_wp2
      go_ret
      exact ⟨rfl, HF.out⟩
end Go.Proofs.Ytedmhhllkkgbjaa
