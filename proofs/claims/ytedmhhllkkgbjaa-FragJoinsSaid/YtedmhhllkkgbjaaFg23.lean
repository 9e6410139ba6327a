/- lienref08.Row: the fragments of a payload. Printed by gen23.py (a drawn region's order). -/
import Derived.Test.YtedmhhllkkgbjaaFg19
namespace Go.Proofs.Ytedmhhllkkgbjaa
open Go.RowKit
set_option linter.unusedSimpArgs false
set_option linter.unusedVariables false

theorem Try.info136 : (Try.prog.info? 136).map (fun i => (i.zero, i.size, i.bytes)) = some (some (.agg #[.int .i64 0, .slice none 0 0]), 2, 32) := by kernel_rfl

/-- the fragments of a payload -/
def rowF : Nat → List Int → Option (List (Int × List Int))
  | 0, _ => some []
  | _ + 1, [] => some []
  | _ + 1, [_] => none
  | f + 1, k :: n :: p => if k < 1 ∨ 4 < k ∨ 106 < n ∨ p.length < n.toNat then none else (rowF f (p.drop n.toNat)).map (fun l => (k, p.take n.toNat) :: l)
def rowL (p : List Int) : Option (List (Int × List Int)) := if 108 < p.length then none else rowF p.length p
theorem rowF_fuel : ∀ (f : Nat) (p : List Int), p.length ≤ f → rowF f p = rowF p.length p := by
  intro f
  induction f using Nat.strongRecOn with
  | _ f ih =>
    intro p hp
    match f, p, hp with
    | 0, [], _ => rfl
    | f + 1, [], _ => rfl
    | f + 1, [_], _ => rfl
    | f + 1, k :: n :: p, hp =>
      simp only [List.length_cons] at hp ⊢
      simp only [rowF]
      split
      · rfl
      · have hl : (p.drop n.toNat).length ≤ p.length := by rw [List.length_drop]; omega
        rw [ih f (by omega) _ (by omega), ih (p.length + 1) (by omega) _ (by omega)]

/-- parts that are read -/
def ReadP (w : World) (A : Option Addr) (l : List (Int × List Int)) : Prop :=
  ∀ (i : Nat) (x : Int × List Int), l[i]? = some x → ∃ g o BA bc, A = some ⟨g, o, none⟩ ∧ w.cell? ⟨g, o + i * 2, none⟩ = some (.int .i64 x.1) ∧ w.cell? ⟨g, o + i * 2 + 1, none⟩ = some (.slice BA x.2.length bc) ∧ ReadB w BA bc x.2
theorem ReadP.below {w w' : World} {A : Option Addr} {l : List (Int × List Int)} (h : ReadP w A l) (hb : Below w.heap.size w w') : ReadP w' A l := by
  intro i x hx
  obtain ⟨g, o, BA, bc, e, h1, h2, h3⟩ := h i x hx
  exact ⟨g, o, BA, bc, e, (Fr.of_below hb (fun _ => False)).cell0 h1, (Fr.of_below hb (fun _ => False)).cell0 h2, h3.below hb⟩
structure RP (B : Nat) (w : World) (o : Value) (vs : List Value) (l : List (Int × List Int)) : Prop where
  own : w.ownsRow B 136 2 o l.length vs
  len : vs.length = l.length * 2
  els : ∀ (i : Nat) (x : Int × List Int), l[i]? = some x → vs[i * 2]? = some (.int .i64 x.1) ∧ ∃ BA bc, vs[i * 2 + 1]? = some (.slice BA x.2.length bc) ∧ ReadBN (fun k => some k = o.ownBlock) w BA bc x.2
theorem RP.nil (B : Nat) (w : World) : RP B w (.slice none 0 0) [] [] := ⟨⟨by simp, .inl ⟨rfl, rfl⟩⟩, rfl, fun i x h => by simp at h⟩
theorem RP.push {B : Nat} {w w' : World} {o o' : Value} {vs : List Value} {l : List (Int × List Int)} {k : Int} {b : List Int} {BA : Option Addr} {bc : Nat} (h : RP B w o vs l) (hF : Fr (fun k => some k = o.ownBlock) w w') (ho : w'.ownsRow B 136 2 o' (l.length + 1) (vs ++ [.int .i64 k, .slice BA b.length bc]))
    (hm : o'.ownBlock = o.ownBlock ∨ ∃ g, o'.ownBlock = some g ∧ w.heap.size ≤ g) (hb : ReadBN (fun k => some k = o'.ownBlock) w' BA bc b) : RP B w' o' (vs ++ [.int .i64 k, .slice BA b.length bc]) (l ++ [(k, b)]) := by
  refine ⟨by simpa using ho, by simp [h.len]; omega, fun i x hx => ?_⟩
  by_cases hi : i < l.length
  · rw [List.getElem?_append_left hi] at hx
    rw [List.getElem?_append_left (by rw [h.len]; omega), List.getElem?_append_left (by rw [h.len]; omega)]
    obtain ⟨h1, PA, pc, h2, h3⟩ := h.els i x hx
    refine ⟨h1, PA, pc, h2, h3.turn hF (fun k hk hs => ?_)⟩
    rcases hm with hm | ⟨g, hm, hg⟩
    · exact hs.trans hm
    · rw [hm] at hs
      obtain rfl := Option.some.inj hs
      omega
  · have : i = l.length := by
      have := (List.getElem?_eq_some_iff.1 hx).1
      simp at this
      omega
    subst this
    obtain rfl : (k, b) = x := by simpa using hx
    rw [List.getElem?_append_right (Nat.le_of_eq h.len), List.getElem?_append_right (by rw [h.len]; omega), h.len]
    exact ⟨by simp, BA, bc, by simp, hb⟩
theorem RP.read {B : Nat} {w : World} {o : Value} {vs : List Value} {l : List (Int × List Int)} (h : RP B w o vs l) : ∃ A c, o = .slice A l.length c ∧ ReadP w A l := by
  have ho := h.own
  obtain ⟨A, c, rfl⟩ := own_slice ho
  have hn := own_news ho
  refine ⟨A, c, rfl, fun i x hx => ?_⟩
  obtain ⟨h1, BA, bc, h2, h3⟩ := h.els i x hx
  have hi := (List.getElem?_eq_some_iff.1 hx).1
  rcases ho.2 with ⟨hv, h0⟩ | ⟨g2, c2, cur, hv, _⟩
  · omega
  · simp only [Value.slice.injEq] at hv
    obtain ⟨rfl, _, _⟩ := hv
    have c1 := hn.1 _ rfl _ _ h1
    have c2 := hn.1 _ rfl _ _ h2
    rw [add_some] at c1 c2
    exact ⟨g2, 0, BA, bc, rfl, c1, by rw [Nat.add_assoc]; exact c2, h3.read⟩

def RowPost (w : World) (p : List Int) (e : Ending) (w' : World) : Prop :=
  Below w.heap.size w w' ∧ ((rowL p = none ∧ e = .returned (.tuple #[.slice none 0 0, .bool false])) ∨ ∃ l A c, rowL p = some l ∧ e = .returned (.tuple #[.slice A l.length c, .bool true]) ∧ ReadP w' A l)
theorem RowPost.bad {w w' : World} {p : List Int} (h : rowL p = none) (hb : Below w.heap.size w w') : RowPost w p (.returned (.tuple #[.slice none 0 0, .bool false])) w' := ⟨hb, .inl ⟨h, rfl⟩⟩

set_option maxRecDepth 100000 in
set_option maxHeartbeats 8000000 in
theorem row_any (A : Option Addr) (c : Nat) (p : List Int) (w : World) (hl : p.length ≤ 1000000) (hR : ReadB w A c p) (hb : ∀ b ∈ p, 0 ≤ b ∧ b < 256) :
    Calls Try.prog 58 #[.slice A p.length c] w (RowPost w p) := by
  have HR := Lib.hid hR
  have HB := Lib.hid hb
  clear hR hb
  by_cases h108 : 108 < p.length
  · have hE : rowL p = none := by simp [rowL, h108]
    have HE := Lib.hid hE
    have h2 : (108 : Int) < (p.length : Int) := by omega
    clear hE
    go_enter Try.func58, Try.ntmps58
    go_wp2
    go_ret2
    exact RowPost.bad HE.out (Below.refl _ _)
  · have h2 : ¬ (108 : Int) < (p.length : Int) := by omega
    have HRL : Hid (rowL p = rowF p.length p) := by show rowL p = _; simp [rowL, h108]
    obtain ⟨B, hB⟩ : ∃ B, B = w.heap.size := ⟨_, rfl⟩
    have HBW := Lib.hid hB
    have H0 : Hid (Fr (fun k => B ≤ k) w w) := Fr.refl _ _
    clear hB
    go_enter Try.func58, Try.ntmps58
    go_wp2_with fail
    go_loopw [0, 4] (fun v u wr => ∃ (q : List Int) (QA : Option Addr) (qc : Nat) (done : List (Int × List Int)) (vs : List Value) (U : Option Addr) (uc : Nat), v = .slice QA q.length qc ∧ u = .slice U done.length uc ∧ Hid (ReadB w QA qc q) ∧ Hid (∀ b ∈ q, 0 ≤ b ∧ b < 256) ∧ q.length ≤ 108 ∧ done.length + q.length ≤ 108 ∧
        Hid (rowF p.length p = (rowF q.length q).map (fun l => done ++ l)) ∧ Hid (RP B wr u vs done) ∧ Hid (Fr (fun k => B ≤ k) w wr)) (fun v _ _ => lenOf' v)
    case atStart => exact ⟨p, A, c, [], [], none, 0, rfl, rfl, HR, HB, by omega, by simp; omega, by simp [Hid], RP.nil _ _, H0⟩
    case round =>
      clear H0
      obtain ⟨q, QA, qc, done, vs, U, uc, rfl, rfl, HQ, HQB, hq, hdq, HRF, HRP, HF⟩ := hrel
      have HFB : Hid (Below w.heap.size w wr) := HF.out.below (Nat.le_refl _) (fun k h => by rw [← HBW.out]; exact h)
      match q, HQ, HQB, hq, hdq, HRF with
      | [], HQ, HQB, hq, hdq, HRF =>
        have hE : rowL p = some done := by rw [HRL.out, HRF.out]; simp [rowF]
        obtain ⟨A2, c2, e2, hr2⟩ := HRP.out.read
        simp only [Value.slice.injEq] at e2
        obtain ⟨rfl, _, rfl⟩ := e2
        have HE := Lib.hid hE
        have HR2 := Lib.hid hr2
        clear hE hr2
        simp only [List.length_nil]
        go_wp2
        go_ret2
        exact ⟨HFB.out, .inr ⟨done, U, uc, HE.out, rfl, HR2.out⟩⟩
      | [y], HQ, HQB, hq, hdq, HRF =>
        have hE : rowL p = none := by rw [HRL.out, HRF.out]; simp [rowF]
        have HE := Lib.hid hE
        clear hE
        simp only [List.length_cons, List.length_nil]
        go_wp2
        go_ret2
        exact RowPost.bad HE.out HFB.out
      | k :: n :: r, HQ, HQB, hq, hdq, HRF =>
        obtain ⟨k0, k1⟩ := HQB.out k (by simp)
        obtain ⟨n0, n1⟩ := HQB.out n (by simp)
        obtain ⟨nn, rfl⟩ := Int.eq_ofNat_of_zero_le n0
        rcases QA with _ | ⟨qg, qo, qs0⟩
        · have := HQ.out.empty rfl
          cases this
        obtain ⟨hs0, hcell⟩ := HQ.out.cells qg qo qs0 rfl
        obtain rfl := hs0 (by have := HQ.out.cap; simp only [List.length_cons] at this; omega)
        have HQG : Hid (qg < B) := by rw [HBW.out]; exact cell_lt (hcell 0 k rfl)
        have ck := (Fr.of_below HFB.out (fun _ => False)).cell0 (hcell 0 k rfl)
        have cn := (Fr.of_below HFB.out (fun _ => False)).cell0 (hcell 1 _ rfl)
        rw [Nat.add_zero] at ck
        obtain ⟨N, hN⟩ : ∃ N, N = (k :: ((nn : Nat) : Int) :: r).length := ⟨_, rfl⟩
        have hNs : N = r.length + 2 := by rw [hN]; simp
        have hqc : N ≤ qc := by rw [hN]; exact HQ.out.cap
        rw [← hN] at hq hdq ⊢
        have hN0 : (0 : Int) < (N : Int) := by omega
        have hN2 : ¬ (N : Int) < 2 := by omega
        have hN1 : (1 : Int) < (N : Int) := by omega
        have hNb : (N : Int) ≤ 108 := by omega
        have HNS := Lib.hid hNs
        have HNN := Lib.hid hN
        have hRF := HRF.out
        rw [← hN, hNs] at hRF
        simp only [rowF, Int.toNat_natCast] at hRF
        have HRF2 := Lib.hid hRF
        have hbadl : (k < 1 ∨ 4 < k ∨ 106 < (nn : Int) ∨ r.length < nn) → rowL p = none := by
          intro h
          rw [HRL.out, HRF2.out, if_pos h]
          rfl
        have HBAD := Lib.hid hbadl
        clear hN hNs hRF hbadl hcell n0
        by_cases b1 : k < 1
        · have HE := Lib.hid (HBAD.out (.inl b1))
          clear HBAD
          go_wp2
          go_ret2
          exact RowPost.bad HE.out HFB.out
        by_cases b2 : 4 < k
        · have HE := Lib.hid (HBAD.out (.inr (.inl b2)))
          clear HBAD
          go_wp2
          go_ret2
          exact RowPost.bad HE.out HFB.out
        by_cases b3 : 106 < (nn : Int)
        · have HE := Lib.hid (HBAD.out (.inr (.inr (.inl b3))))
          clear HBAD
          go_wp2
          go_ret2
          exact RowPost.bad HE.out HFB.out
        by_cases b4 : r.length < nn
        · have HE := Lib.hid (HBAD.out (.inr (.inr (.inr b4))))
          have b4i : (N : Int) - 2 < (nn : Int) := by have h1 : N = r.length + 2 := HNS.out; omega
          clear HBAD
          go_wp2
          go_ret2
          exact RowPost.bad HE.out HFB.out
        have hnn2 : nn + 2 ≤ N := by have h1 : N = r.length + 2 := HNS.out; omega
        have b4i : ¬ (N : Int) - 2 < (nn : Int) := by omega
        have hgood : rowF p.length p = (rowF (r.drop nn).length (r.drop nn)).map (fun l => (done ++ [(k, r.take nn)]) ++ l) := by
          rw [HRF2.out, if_neg (by simp only [not_or]; exact ⟨b1, b2, b3, b4⟩), rowF_fuel (r.length + 1) _ (by rw [List.length_drop]; omega), Option.map_map]
          congr 1
          funext l
          simp
        have HG := Lib.hid hgood
        have hwr : IntKind.i64.wrap (2 + (nn : Int)) = 2 + (nn : Int) := by rw [IntKind.wrap_i64]; omega
        have hwk : IntKind.i64.wrap k = k := by rw [IntKind.wrap_i64]; omega
        have hi1 : (2 : Int) ≤ 2 + (nn : Int) := by omega
        have hi2 : 2 + (nn : Int) ≤ (qc : Int) := by omega
        have hi3 : 2 + (nn : Int) ≤ (N : Int) := by omega
        have hsl1 := fun W => cutB (some ⟨qg, qo, none⟩) N qc 2 (2 + nn) (by omega) (by omega) W (2 : Int) (2 + (nn : Int)) rfl (by omega)
        have hsl2 := fun W => cutB_from (some ⟨qg, qo, none⟩) N qc (2 + nn) (by omega) W (2 + (nn : Int)) (by omega)
        rw [Nat.add_sub_cancel_left] at hsl1
        have HCB : Hid (ReadB w (cutA (some ⟨qg, qo, none⟩) qc 2) (qc - 2) (r.take nn)) := by
          have := cutA_read HQ.out 2 (2 + nn) (by omega) (by simp; omega)
          rw [Nat.add_sub_cancel_left] at this
          exact this
        have HCD : Hid (ReadB w (cutA (some ⟨qg, qo, none⟩) qc (2 + nn)) (qc - (2 + nn)) (r.drop nn)) := by
          have := cutA_read HQ.out (2 + nn) N (by omega) (by rw [← HNN.out]; exact Nat.le_refl _)
          rw [List.take_of_length_le (by have h1 : N = r.length + 2 := HNS.out; simp; omega), show 2 + nn = nn + 2 from by omega] at this
          simp only [List.drop_succ_cons] at this
          rw [show nn + 2 = 2 + nn from by omega] at this
          exact this
        have HTL : Hid ((r.take nn).length = nn) := by show _ = _; rw [List.length_take]; omega
        have HDL : Hid ((r.drop nn).length = N - (2 + nn)) := by show _ = _; rw [List.length_drop]; have h1 : N = r.length + 2 := HNS.out; omega
        clear hgood HBAD HRF2
        go_upto_region 8 with (fail)
        have HF1 : Hid (Fr (fun _ => False) wr (wr.alloc (.cells #[] 5))) := (Fr.refl _ wr).alloc _
        have HE1 : Hid ((wr.alloc (.cells #[] 5)).heap[wr.heap.size]? = some (.cells #[] 5 (0, 0))) := blk_new _ _
        have p1 : (wr.alloc (.cells #[] 5)).cell? ⟨qg, qo, none⟩ = some (.int .u8 k) := HF1.out.cell0 ck
        have HCW : Hid (ReadB (wr.alloc (.cells #[] 5)) (cutA (some ⟨qg, qo, none⟩) qc 2) (qc - 2) (r.take nn)) := HCB.out.below (below2 HFB.out HF1.out.below0)
        have HCE : Hid (cutA (some ⟨qg, qo, none⟩) qc 2 = none → nn = 0) := fun e => by have := HCW.out.empty e; have h1 := HTL.out; rw [this] at h1; exact h1.symm
        have HBw : Hid (B ≤ wr.heap.size) := by rw [HBW.out]; exact HF.out.size
        have HBB : Hid (0 + nn ≤ 1000000000) := by show 0 + nn ≤ 1000000000; omega
        refine wp_region_noPanic ?_
        refine wp_region_T (fun w' => w'.cell? ⟨qg, qo, none⟩ = some (.int .u8 k)) 14 (by kernel_rfl) ck (fun hS0 => ?_)
        refine wpAnyT_taked (i := 0) (d := 48) (v := ?_) rfl rfl (by kernel_rfl) (by kernel_rfl) (by kernel_rfl) (by kernel_rfl) rfl (fun _ _ _ h => h) (Or.inl ⟨by rfl, ?_⟩) (by assumption) ?_
        rotate_left 1
        · rintro w' hs0
          go_simp
          try (with_reducible rfl)
        try simp only [Act.put, List.setIfInBounds_toArray, List.set_cons_zero, List.set_cons_succ]
        refine wpAnyT_taked (i := 1) (d := 49) (v := ?_) rfl rfl (by kernel_rfl) (by kernel_rfl) (by kernel_rfl) (by kernel_rfl) rfl (fun _ _ _ h => h) (Or.inl ⟨by rfl, ?_⟩) (by assumption) ?_
        rotate_left 1
        · rintro w' hs0
          go_simp
          try (with_reducible rfl)
        try simp only [Act.put, List.setIfInBounds_toArray, List.set_cons_zero, List.set_cons_succ]
        refine wpAnyT_taked (i := 2) (d := 50) (v := ?_) rfl rfl (by kernel_rfl) (by kernel_rfl) (by kernel_rfl) (by kernel_rfl) rfl (fun _ _ _ h => h) (Or.inl ⟨by rfl, ?_⟩) (by assumption) ?_
        rotate_left 1
        · rintro w' hs0
          go_simp
          try (with_reducible rfl)
        try simp only [Act.put, List.setIfInBounds_toArray, List.set_cons_zero, List.set_cons_succ]
        refine wpAnyT_taked (i := 3) (d := 51) (v := ?_) rfl rfl (by kernel_rfl) (by kernel_rfl) (by kernel_rfl) (by kernel_rfl) rfl (fun _ _ _ h => h) (Or.inl ⟨by rfl, ?_⟩) (by assumption) ?_
        rotate_left 1
        · rintro w' hs0
          go_simp
          try (with_reducible rfl)
        try simp only [Act.put, List.setIfInBounds_toArray, List.set_cons_zero, List.set_cons_succ]
        refine wpAnyT_taked (i := 4) (d := 52) (v := ?_) rfl rfl (by kernel_rfl) (by kernel_rfl) (by kernel_rfl) (by kernel_rfl) rfl (fun _ _ _ h => h) (Or.inl ⟨by rfl, ?_⟩) (by assumption) ?_
        rotate_left 1
        · rintro w' hs0
          go_simp
          try (with_reducible rfl)
        try simp only [Act.put, List.setIfInBounds_toArray, List.set_cons_zero, List.set_cons_succ]
        refine wpAnyT_taked (i := 6) (d := 54) (v := ?_) rfl rfl (by kernel_rfl) (by kernel_rfl) (by kernel_rfl) (by kernel_rfl) rfl (fun _ _ _ h => h) (Or.inl ⟨by rfl, ?_⟩) (by assumption) ?_
        rotate_left 1
        · rintro w' hs0
          go_simp
          try (with_reducible rfl)
        try simp only [Act.put, List.setIfInBounds_toArray, List.set_cons_zero, List.set_cons_succ]
        refine wpAnyT_taked (i := 7) (d := 55) (v := ?_) rfl rfl (by kernel_rfl) (by kernel_rfl) (by kernel_rfl) (by kernel_rfl) rfl (fun _ _ _ h => h) (Or.inl ⟨by rfl, ?_⟩) (by assumption) ?_
        rotate_left 1
        · rintro w' hs0
          go_simp
          try (with_reducible rfl)
        try simp only [Act.put, List.setIfInBounds_toArray, List.set_cons_zero, List.set_cons_succ]
        refine wpAnyT_taked (i := 8) (d := 56) (v := ?_) rfl rfl (by kernel_rfl) (by kernel_rfl) (by kernel_rfl) (by kernel_rfl) rfl (fun _ _ _ h => h) (Or.inl ⟨by rfl, ?_⟩) (by assumption) ?_
        rotate_left 1
        · rintro w' hs0
          go_simp
          try (with_reducible rfl)
        try simp only [Act.put, List.setIfInBounds_toArray, List.set_cons_zero, List.set_cons_succ]
        refine wpAnyT_taked (i := 9) (d := 57) (v := ?_) rfl rfl (by kernel_rfl) (by kernel_rfl) (by kernel_rfl) (by kernel_rfl) rfl (fun _ _ _ h => h) (Or.inl ⟨by rfl, ?_⟩) (by assumption) ?_
        rotate_left 1
        · rintro w' hs0
          go_simp
          try (with_reducible rfl)
        try simp only [Act.put, List.setIfInBounds_toArray, List.set_cons_zero, List.set_cons_succ]
        refine wpAnyT_one (i := 5) (by kernel_rfl) rfl rfl (fun K hK => ?_)
        go_simp
        refine hK.out _ _ p1 ?_
        clear hK K
        try simp only [Act.put, List.setIfInBounds_toArray, List.set_cons_zero, List.set_cons_succ]
        refine wpAnyT_one (i := 10) (by kernel_rfl) rfl rfl (fun K hK => ?_)
        refine app_u8x (by rfl) (.tmp 53) (.tmp 57) (by rfl) wr.heap.size (.slice (some ⟨wr.heap.size, 0, none⟩) 0 0) 0 [] (by rfl) (own_rebase' (own_empty 1 HE1.out rfl) (fun k hk => Nat.le_of_eq (Option.some.inj hk))) (cutA (some ⟨qg, qo, none⟩) qc 2) nn (qc - 2) (r.take nn) (by rfl) HCW.out.news HCE.out HTL.out HBB.out HF1.out.size ?_
        intro v2 w2 ho2 hg2 hm2
        obtain ⟨A2, c2, rfl⟩ := own_slice ho2
        simp only [Nat.zero_add, List.nil_append] at ho2 ⊢
        have HF2 : Hid (Fr (fun _ => False) wr w2) := by first | exact HF1.out.grown hg2 (fun k hk => .inl (Nat.le_of_eq (Option.some.inj hk))) | exact HF1.out.drew.grown hg2 (fun k hk => .inl (Nat.le_of_eq (Option.some.inj hk))) | exact HF1.out.drew.drew.grown hg2 (fun k hk => .inl (Nat.le_of_eq (Option.some.inj hk)))
        have HO2 : Hid (w2.ownsRow wr.heap.size 5 1 (.slice A2 nn c2) nn (bytes (r.take nn))) := ho2
        have hS2 : w2.cell? ⟨qg, qo, none⟩ = some (.int .u8 k) := HF2.out.cell0 ck
        have HF3 : Hid (Fr (fun _ => False) w2 (w2.alloc (.cells #[.int .i64 k, .slice A2 nn c2] 136))) := (Fr.refl _ w2).alloc _
        have p3 := HF3.out.cell0 hS2
        have HOW : Hid ((w2.alloc (.cells #[.int .i64 k, .slice A2 nn c2] 136)).ownsRow B 136 2 (.slice U done.length uc) done.length vs) := HF3.out.own0 (HF2.out.own0 HRP.out.own)
        have HONE : Hid (∀ u ∈ [Value.int .i64 k, Value.slice A2 nn c2], u.oneCell' = true) := by simp [Hid, Value.oneCell']
        have HM1 : Hid (done.length + 1 ≤ maxLen) := by show _ ≤ _; simp [maxLen]; omega
        have HM2 : Hid ((done.length + 1) * 32 ≤ 140737488355328) := by show _ ≤ _; omega
        have HM3 : Hid (B ≤ (w2.alloc (.cells #[.int .i64 k, .slice A2 nn c2] 136)).heap.size) := Nat.le_trans HBw.out (Nat.le_trans HF2.out.size HF3.out.size)
        refine hK.out _ _ hS2 ?_
        clear hK K hS0 ho2 hg2 hm2 p1
        try simp only [Act.put, List.setIfInBounds_toArray, List.set_cons_zero, List.set_cons_succ]
        refine wpAnyT_taked (i := 11) (d := 59) (v := ?_) rfl rfl (by kernel_rfl) (by kernel_rfl) (by kernel_rfl) (by kernel_rfl) rfl (fun _ _ _ h => h) (Or.inl ⟨by rfl, ?_⟩) (by assumption) ?_
        rotate_left 1
        · rintro w' hs0
          go_simp
          try (with_reducible rfl)
        try simp only [Act.put, List.setIfInBounds_toArray, List.set_cons_zero, List.set_cons_succ]
        refine wpAnyT_one (i := 12) (by kernel_rfl) rfl rfl (fun K hK => ?_)
        go_simp
        refine hK.out _ _ p3 ?_
        clear hK K
        try simp only [Act.put, List.setIfInBounds_toArray, List.set_cons_zero, List.set_cons_succ]
        refine wpAnyT_one (i := 13) (by kernel_rfl) rfl rfl (fun K hK => ?_)
        refine step_app (by rfl) (.tmp 48) (.tmp 60) 119 (by rfl) B 136 _ 2 32 Try.underlying119 Try.info136 rfl (by decide) (.slice U done.length uc) done.length vs (by rfl) HOW.out ⟨w2.heap.size, 0, none⟩ 1 1 [.int .i64 k, .slice A2 nn c2] (by rfl) rfl (news_of (fr := (0, 0)) (t := 136) (blk_new w2 (.cells #[.int .i64 k, .slice A2 nn c2] 136))) HONE.out HM1.out HM2.out HM3.out ?_
        intro v4 w4 ho4 hg4 hm4
        obtain ⟨A4, c4, rfl⟩ := own_slice ho4
        have HF4 : Hid (Fr (fun k => some k = (Value.slice U done.length uc).ownBlock) w2 w4) := by first | exact HF3.out.none.grown hg4 (fun k hk => .inr hk.symm) | exact HF3.out.none.drew.grown hg4 (fun k hk => .inr hk.symm)
        have HO4 := Lib.hid ho4
        have HM4 : Hid ((Value.slice A4 (done.length + 1) c4).ownBlock = (Value.slice U done.length uc).ownBlock ∨ ∃ g, (Value.slice A4 (done.length + 1) c4).ownBlock = some g ∧ w2.heap.size ≤ g) := hm4.imp id (fun h => ⟨_, h, by first | exact HF3.out.size | exact HF3.out.drew.size⟩)
        have hS4 : w4.cell? ⟨qg, qo, none⟩ = some (.int .u8 k) := HF4.out.cell hS2 (fun e => Nat.lt_irrefl _ (Nat.lt_of_lt_of_le HQG.out (HRP.out.own.lt qg e.symm).1))
        refine hK.out _ _ hS4 ?_
        clear hK K hS2 p3 ho4 hg4 hm4
        try simp only [Act.put, List.setIfInBounds_toArray, List.set_cons_zero, List.set_cons_succ]
        refine wpAnyT_last (by kernel_rfl) rfl (by kernel_rfl) (fun K hK => ?_)
        go_simp
        refine hK.out _ _ ?_
        clear hK K
        refine NoPanic.normal ?_
        have hO24 : w4.ownsRow wr.heap.size 5 1 (.slice A2 nn c2) (r.take nn).length (bytes (r.take nn)) := by
          rw [HTL.out]
          exact HF4.out.own HO2.out (fun k hk e => own_apart HO2.out (HF2.out.own0 HRP.out.own) (by decide) hk e.symm)
        have hRB : ReadBN (fun k => some k = (Value.slice A4 (done.length + 1) c4).ownBlock) w4 A2 c2 (r.take nn) := by
          refine ⟨readB_own hO24, fun g o2 s e hx hs => ?_⟩
          subst e
          exact own_apart hO24 HO4.out (by decide) (k := g) rfl hs.symm
        have hpush := HRP.out.push (w' := w4) (k := k) (b := r.take nn) (BA := A2) (bc := c2) (HF2.out.none.trans' HF4.out (fun _ _ h => h) (fun _ _ h => h)) (by rw [HTL.out]; exact HO4.out) (HM4.out.imp id (fun ⟨g, h1, h2⟩ => ⟨g, h1, Nat.le_trans HF2.out.size h2⟩)) hRB
        have HFW : Hid (Fr (fun k => B ≤ k) w w4) := HF.out.trans' (HF2.out.none.trans' HF4.out (S'' := fun k => some k = (Value.slice U done.length uc).ownBlock) (fun _ _ h => h) (fun _ _ h => h)) (fun _ _ h => h) (fun k _ hk => (HRP.out.own.lt k hk.symm).1)
        have HPU := Lib.hid hpush
        clear hO24 hRB hpush
        go_wp2
        refine ⟨⟨r.drop nn, _, _, done ++ [(k, r.take nn)], _, A4, c4, by rw [HDL.out], by rw [List.length_append]; rfl, HCD, fun b hb => HQB.out b (List.mem_cons_of_mem _ (List.mem_cons_of_mem _ (List.mem_of_mem_drop hb))), by rw [HDL.out]; omega, by rw [HDL.out, List.length_append]; simp; omega, HG, HPU, HFW⟩, by simp [lenOf']; omega⟩
end Go.Proofs.Ytedmhhllkkgbjaa
