/- The document's Peer: Offer taken. -/
import Derived.Test.YtedmhhllkkgbjaaPe16
namespace Go.Proofs.Ytedmhhllkkgbjaa
open Go.RowKit Go.WideShapes
set_option linter.unusedSimpArgs false
set_option linter.unusedVariables false

theorem Try.info129 : (Try.prog.info? 129).map (fun i => (i.zero, i.size, i.bytes)) = some (some (.agg #[.int .i64 0, .int .i64 0, .int .i64 0, .string ByteArray.empty, .int .i64 0, .bool false]), 6, 56) := by kernel_rfl
theorem ocells_len (l : List (Msg × Bool)) : (l.flatMap ocells).length = l.length * 6 := flat_length (f := ocells) (s := 6) (fun _ => rfl) l
theorem readO_own {w : World} {B n : Nat} {A : Option Addr} {c : Nat} {ms : List (Msg × Bool)} (h : w.ownsRow B 129 6 (.slice A n c) ms.length (ms.flatMap ocells)) : ReadO w A ms := by
  intro i m hm
  have hi := (List.getElem?_eq_some_iff.1 hm).1
  rcases h.2 with ⟨_, h0⟩ | ⟨g2, c2, cur, hv, _⟩
  · omega
  · simp only [Value.slice.injEq] at hv
    obtain ⟨rfl, rfl, rfl⟩ := hv
    refine ⟨g2, 0, rfl, fun j u hu => ?_⟩
    have hj : j < 6 := (List.getElem?_eq_some_iff.1 hu).1
    have := (own_news h).1 _ rfl (i * 6 + j) u (flat_at (f := ocells) (s := 6) (fun _ => rfl) ms i j m u hm hu)
    rwa [add_some, ← Nat.add_assoc] at this
/-- the cells of a row that is read -/
theorem ReadO.news {w : World} {A : Option Addr} {L : List (Msg × Bool)} (h : ReadO w A L) : ∀ ad, A = some ad → ∀ j u, (L.flatMap ocells)[j]? = some u → w.cell? (ad.add j) = some u := by
  intro ad e j u hu
  have hj : j < L.length * 6 := by have := (List.getElem?_eq_some_iff.1 hu).1; rwa [ocells_len] at this
  obtain ⟨m, hm⟩ : ∃ m, L[j / 6]? = some m := ⟨_, List.getElem?_eq_getElem (by omega)⟩
  obtain ⟨g, o, e2, hc⟩ := h (j / 6) m hm
  rw [e] at e2
  cases e2
  have hj5 : j % 6 < 6 := Nat.mod_lt _ (by omega)
  have h1 := flat_at (f := ocells) (s := 6) (fun _ => rfl) L (j / 6) (j % 6) m ((ocells m)[j % 6]'hj5) hm (List.getElem?_eq_getElem hj5)
  rw [show j / 6 * 6 + j % 6 = j from by omega, hu] at h1
  have h2 := hc (j % 6) _ (List.getElem?_eq_getElem hj5)
  rw [Nat.add_assoc, show j / 6 * 6 + j % 6 = j from by omega, ← Option.some.inj h1] at h2
  rw [add_some]
  exact h2
theorem ReadO.nil {w : World} {A : Option Addr} {L : List (Msg × Bool)} (h : ReadO w A L) : A = none → L.length = 0 := by
  intro e
  cases L with
  | nil => rfl
  | cons x r => obtain ⟨g, o, e2, _⟩ := h 0 x rfl; rw [e] at e2; cases e2
theorem ocells_one (L : List (Msg × Bool)) : ∀ u ∈ L.flatMap ocells, u.oneCell' = true := by
  intro u hu
  obtain ⟨m, _, hu⟩ := List.mem_flatMap.1 hu
  simp [ocells] at hu
  rcases hu with rfl | rfl | rfl | rfl | rfl | rfl <;> rfl

/-- Two may come up, neither is the last. -/
theorem wpAnyT_two {P : Program} {ops : Array Oper} {Q : Exit → Act → World → Prop} {md : Region.Mode} {S : World → Prop} {last : Nat} {i j : Nat} {oi oj : Oper} {fuel : Nat} {listed : Array Bool} {a : Act} {w : World} (hr : Region.ready md ops listed = [i, j]) (hoi : ops[i]? = some oi) (hoj : ops[j]? = some oj) (_hil : (i == last) = false) (_hjl : (j == last) = false)
    (hi : ∀ K' : Act → World → Prop, Shut (∀ a w, S w → wpAnyT P md ops Q S last fuel (listed.setIfInBounds i true) a w → K' a w) → if Region.wanted oi (yielded ops a.tmps) = true then Oper.wp P oi a w K' Q else K' (a.put oi.dst undef) w)
    (hj : ∀ K' : Act → World → Prop, Shut (∀ a w, S w → wpAnyT P md ops Q S last fuel (listed.setIfInBounds j true) a w → K' a w) → if Region.wanted oj (yielded ops a.tmps) = true then Oper.wp P oj a w K' Q else K' (a.put oj.dst undef) w) :
    wpAnyT P md ops Q S last (fuel + 1) listed a w := by
  refine ⟨fun h0 => absurd (hr.symm.trans h0) (by simp), fun k hk => ?_⟩
  rw [hr] at hk
  rcases List.mem_cons.1 hk with rfl | hk
  · exact wpOp_step hoi (fun K' hK => hi K' (fun a w hS hW => hK a w ⟨fun _ => hS, hW⟩))
  · obtain rfl := List.mem_singleton.1 hk
    exact wpOp_step hoj (fun K' hK => hj K' (fun a w hS hW => hK a w ⟨fun _ => hS, hW⟩))

theorem roffer_end2 {w4 : World} {b1 b2 : Nat} {n : Int} {LA GA : Option Addr} {ln lc gn gc : Nat} {tmps : Array Value} {r : Int} {m : Msg} {Post : Ending → World → Prop}
    (h1 : w4.heap[b1]? = some (.cells #[.int .i64 n, .slice LA ln lc, .slice GA gn gc] 79 (0, 0))) (h2 : w4.heap[b2]? = some (.cells #[.int .i64 m.kind, .int .i64 m.peer, .int .i64 m.seq, .string m.key, .int .i64 m.n] 71 (0, 0)))
    (ht6 : tmps.getD 6 undef = .pointer (some ⟨b1, 0, none⟩)) (ht7 : tmps.getD 7 undef = .pointer (some ⟨b2, 0, none⟩)) (ht8 : tmps.getD 8 undef = .int .i64 r) (hP : Post (.returned (.tuple #[rpeer n LA ln lc GA gn gc, m.v, .int .i64 r])) w4) :
    bodyPost Try.prog Try.f42 Post .ret ⟨tmps, []⟩ w4 := by
  simp only [Array.getD_eq_getD_getElem?] at ht6 ht7 ht8
  have r0 : w4.cell? ⟨b1, 0, none⟩ = some (.int .i64 n) := blk_cell h1 0
  have r1 : w4.cell? ⟨b1, 1, none⟩ = some (.slice LA ln lc) := blk_cell h1 1
  have r2 : w4.cell? ⟨b1, 2, none⟩ = some (.slice GA gn gc) := blk_cell h1 2
  have q0 : w4.cell? ⟨b2, 0, none⟩ = some (.int .i64 m.kind) := blk_cell h2 0
  have q1 : w4.cell? ⟨b2, 1, none⟩ = some (.int .i64 m.peer) := blk_cell h2 1
  have q2 : w4.cell? ⟨b2, 2, none⟩ = some (.int .i64 m.seq) := blk_cell h2 2
  have q3 : w4.cell? ⟨b2, 3, none⟩ = some (.string m.key) := blk_cell h2 3
  have q4 : w4.cell? ⟨b2, 4, none⟩ = some (.int .i64 m.n) := blk_cell h2 4
  exact bodyPost_ret (v := .tuple #[rpeer n LA ln lc GA gn gc, m.v, .int .i64 r]) (by simp [results, Try.results42, go_sem, ht6, ht7, ht8, r0, r1, r2, q0, q1, q2, q3, q4, rpeer, Msg.v]) rfl hP

def TookR (w4 : World) (b0 : Nat) (n : Int) (G : Value) (L' : List (Msg × Bool)) (wx : World) : Prop :=
  ∃ A c, wx.heap[b0]? = some (.cells #[.int .i64 n, .slice A L'.length c, G] 79 (0, 0)) ∧ ReadO wx A L' ∧ Fr (fun k => k = b0) w4 wx ∧ (∀ g o, A = some ⟨g, o, none⟩ → w4.heap.size ≤ g)
theorem took_end {w4 w6 : World} {b0 k c : Nat} {n : Int} {S G : Value} {A : Option Addr} {L' : List (Msg × Bool)} {xs : List Value} (hF : Fr (fun _ => False) w4 w6) (hb : w4.heap[b0]? = some (.cells #[.int .i64 n, S, G] 79 (0, 0))) (ho : w6.ownsRow w4.heap.size 129 6 (.slice A k c) k xs) (hk : k = L'.length) (hx : xs = L'.flatMap ocells) :
    TookR w4 b0 n G L' (w6.setCell ⟨b0, 1, none⟩ (.slice A k c)) := by
  subst hk hx
  have hlt := blk_lt hb
  have hbk := hF.blk0 hb
  refine ⟨A, c, by simpa using blk_set hbk 1 (.slice A L'.length c), readO_own (own_setCell ho (own_ne ho hbk (by decide)) _), Fr.setCell (S := fun k => k = b0) (p := ⟨b0, 1, none⟩) hF.none (.inr rfl) _, fun g o e => by subst e; exact (ho.lt g rfl).1⟩

set_option maxRecDepth 100000 in
set_option maxHeartbeats 4000000 in
theorem roffer_ok (w : World) (n : Int) (LA GA : Option Addr) (lc gn gc : Nat) (L : List (Msg × Bool)) (key : ByteArray) (x : Int)
    (h1 : ¬ (key.size : Int) < 1) (h2 : ¬ 16 < (key.size : Int)) (h3 : ¬ x < 1) (h4 : ¬ 1125899906842624 < x) (h5 : ¬ 64 ≤ (cnt L : Int)) (hl : L.length ≤ 1000000) (hR : ReadO w LA L) :
    Calls Try.prog 42 #[.agg #[.int .i64 n, .slice LA L.length lc, .slice GA gn gc], .string key, .int .i64 x] w (fun e w' => ∃ A c, ROfferPost w (rpeer n A (L ++ [((⟨1, n, L.length, key, x⟩ : Msg), false)]).length c GA gn gc) (Msg.v ⟨1, n, L.length, key, x⟩) 0 e w' ∧ ReadO w' A (L ++ [(⟨1, n, L.length, key, x⟩, false)]) ∧ (∀ g o, A = some ⟨g, o, none⟩ → w.heap.size ≤ g)) := by
  obtain ⟨w2, he, hn1, hn2, hn3, hF, hsz⟩ := alloc3 w (.cells #[.int .i64 n, .slice LA L.length lc, .slice GA gn gc] 79) (.cells #[.int .i64 0, .slice none 0 0, .slice none 0 0] 79) (.cells #[.int .i64 0, .int .i64 0, .int .i64 0, .string ⟨#[]⟩, .int .i64 0] 71)
  have HE := Lib.hid he
  have HF := Lib.hid hF
  have HN1 := Lib.hid hn1
  have HN2 := Lib.hid hn2
  have HN3 := Lib.hid hn3
  have HSZ := Lib.hid hsz
  have HRO := Lib.hid (hR.fr hF (fun _ _ _ h => h))
  clear he hF hsz hn1 hn2 hn3 hR
  go_enter Try.func42, Try.ntmps42
  go_upto_region 1 with (fail)
  rw [HE.out]
  have c0 : w2.cell? ⟨w.heap.size, 0, none⟩ = some (.int .i64 n) := blk_cell HN1.out 0
  have c1 : w2.cell? ⟨w.heap.size, 1, none⟩ = some (.slice LA L.length lc) := blk_cell HN1.out 1
  have c2 : w2.cell? ⟨w.heap.size, 2, none⟩ = some (.slice GA gn gc) := blk_cell HN1.out 2
  go_wp2_with fail
  refine (ragain_any n LA GA lc gn gc L hl HRO.out).mono ?_
  rintro e w3 ⟨A3, k3, rfl, hR3, hF3, hfr3⟩
  have h5' : ¬ 64 ≤ ((undone L).length : Int) := by rw [undone_len]; omega
  clear c0 c1 c2 hR3 hfr3 HE
  have HN1' := Lib.hid (hF3.blk0 HN1.out)
  have HN2' := Lib.hid (hF3.blk0 HN2.out)
  have HN3' := Lib.hid (hF3.blk0 HN3.out)
  have HF' : Hid (Fr (fun _ => False) w w3) := HF.out.trans hF3 (fun _ _ h => h)
  have HRO' := Lib.hid (HRO.out.fr hF3 (fun _ _ _ h => h))
  have hs3 : w.heap.size + 3 ≤ w3.heap.size := by have := HSZ.out; have := hF3.size; omega
  have HS3 := Lib.hid hs3
  clear hF3 HN1 HN2 HN3 HF HRO HSZ hs3
  have c0 : w3.cell? ⟨w.heap.size, 0, none⟩ = some (.int .i64 n) := blk_cell HN1'.out 0
  have c1 : w3.cell? ⟨w.heap.size, 1, none⟩ = some (.slice LA L.length lc) := blk_cell HN1'.out 1
  have c2 : w3.cell? ⟨w.heap.size, 2, none⟩ = some (.slice GA gn gc) := blk_cell HN1'.out 2
  go_upto_region 6 with (fail)
  clear c0 c1 c2
  obtain ⟨w4, he4, hn4, hF4, hz4⟩ := alloc1 w3 (.cells #[.int .i64 1, .int .i64 n, .int .i64 L.length, .string key, .int .i64 x] 71)
  rw [he4]
  have HN14 := Lib.hid (hF4.blk0 HN1'.out)
  have HN24 := Lib.hid (hF4.blk0 HN2'.out)
  have HN34 := Lib.hid (hF4.blk0 HN3'.out)
  have HF4 : Hid (Fr (fun _ => False) w w4) := HF'.out.trans hF4 (fun _ _ h => h)
  have HRO4 := Lib.hid (HRO'.out.fr hF4 (fun _ _ _ h => h))
  have HN4 := Lib.hid hn4
  have HS4 : Hid (w.heap.size + 3 ≤ w3.heap.size ∧ w4.heap.size = w3.heap.size + 1) := ⟨HS3.out, hz4⟩
  clear he4 hF4 hn4 hz4 HN1' HN2' HN3' HF' HRO' HS3
  generalize w3.heap.size = b3 at *
  go_cut [] (fun wx => TookR w4 w.heap.size n (.slice GA gn gc) (L ++ [(⟨1, n, L.length, key, x⟩, false)]) wx)
  case first =>
    have c1 : w4.cell? ⟨w.heap.size, 1, none⟩ = some (.slice LA L.length lc) := blk_cell HN14.out 1
    have y0 : w4.cell? ⟨b3, 0, none⟩ = some (.int .i64 1) := blk_cell HN4.out 0
    have y1 : w4.cell? ⟨b3, 1, none⟩ = some (.int .i64 n) := blk_cell HN4.out 1
    have y2 : w4.cell? ⟨b3, 2, none⟩ = some (.int .i64 L.length) := blk_cell HN4.out 2
    have y3 : w4.cell? ⟨b3, 3, none⟩ = some (.string key) := blk_cell HN4.out 3
    have y4 : w4.cell? ⟨b3, 4, none⟩ = some (.int .i64 x) := blk_cell HN4.out 4
    have hS : ∀ W : World, Fr (fun _ => False) w4 W → W.cell? ⟨w.heap.size, 1, none⟩ = some (.slice LA L.length lc) ∧ W.cell? ⟨b3, 0, none⟩ = some (.int .i64 1) ∧ W.cell? ⟨b3, 1, none⟩ = some (.int .i64 n) ∧ W.cell? ⟨b3, 2, none⟩ = some (.int .i64 L.length) ∧ W.cell? ⟨b3, 3, none⟩ = some (.string key) ∧ W.cell? ⟨b3, 4, none⟩ = some (.int .i64 x) := fun W hF => ⟨hF.cell0 c1, hF.cell0 y0, hF.cell0 y1, hF.cell0 y2, hF.cell0 y3, hF.cell0 y4⟩
    have HS := Lib.hid hS
    clear hS
    refine wp_region_noPanic ?_
    refine wp_region_T (fun W => W.cell? ⟨w.heap.size, 1, none⟩ = some (.slice LA L.length lc) ∧ W.cell? ⟨b3, 0, none⟩ = some (.int .i64 1) ∧ W.cell? ⟨b3, 1, none⟩ = some (.int .i64 n) ∧ W.cell? ⟨b3, 2, none⟩ = some (.int .i64 L.length) ∧ W.cell? ⟨b3, 3, none⟩ = some (.string key) ∧ W.cell? ⟨b3, 4, none⟩ = some (.int .i64 x)) 9 (by kernel_rfl) (HS.out _ (Fr.refl _ _).drew) (fun hS0 => ?_)
    refine wpAnyT_taked (i := 1) (d := 43) (v := ?_) rfl rfl (by kernel_rfl) (by kernel_rfl) (by kernel_rfl) (by kernel_rfl) rfl (fun _ _ _ h => h) (Or.inl ⟨by rfl, ?_⟩) (by assumption) ?_
    rotate_left 1
    · rintro w' ⟨hs0, hs1, hs2, hs3, hs4, hs5⟩
      go_simp
      try (with_reducible rfl)
    try simp only [Act.put, List.setIfInBounds_toArray, List.set_cons_zero, List.set_cons_succ]
    refine wpAnyT_taked (i := 2) (d := 44) (v := ?_) rfl rfl (by kernel_rfl) (by kernel_rfl) (by kernel_rfl) (by kernel_rfl) rfl (fun _ _ _ h => h) (Or.inl ⟨by rfl, ?_⟩) (by assumption) ?_
    rotate_left 1
    · rintro w' ⟨hs0, hs1, hs2, hs3, hs4, hs5⟩
      go_simp
      try (with_reducible rfl)
    try simp only [Act.put, List.setIfInBounds_toArray, List.set_cons_zero, List.set_cons_succ]
    refine wpAnyT_taked (i := 4) (d := 46) (v := ?_) rfl rfl (by kernel_rfl) (by kernel_rfl) (by kernel_rfl) (by kernel_rfl) rfl (fun _ _ _ h => h) (Or.inl ⟨by rfl, ?_⟩) (by assumption) ?_
    rotate_left 1
    · rintro w' ⟨hs0, hs1, hs2, hs3, hs4, hs5⟩
      go_simp
      try (with_reducible rfl)
    try simp only [Act.put, List.setIfInBounds_toArray, List.set_cons_zero, List.set_cons_succ]
    refine wpAnyT_taked (i := 5) (d := 47) (v := ?_) rfl rfl (by kernel_rfl) (by kernel_rfl) (by kernel_rfl) (by kernel_rfl) rfl (fun _ _ _ h => h) (Or.inl ⟨by rfl, ?_⟩) (by assumption) ?_
    rotate_left 1
    · rintro w' ⟨hs0, hs1, hs2, hs3, hs4, hs5⟩
      go_simp
      try (with_reducible rfl)
    try simp only [Act.put, List.setIfInBounds_toArray, List.set_cons_zero, List.set_cons_succ]
    refine wpAnyT_two (i := 0) (j := 6) (by kernel_rfl) rfl rfl rfl rfl (fun K hK => ?_) (fun K hK => ?_)
    · go_simp
      refine hK.out _ _ (HS.out _ (((Fr.refl (fun _ => False) w4).drew.alloc (.cells #[] 129)))) ?_
      clear hK K
      try simp only [Act.put, List.setIfInBounds_toArray, List.set_cons_zero, List.set_cons_succ]
      refine wpAnyT_two (i := 3) (j := 6) (by kernel_rfl) rfl rfl rfl rfl (fun K hK => ?_) (fun K hK => ?_)
      · have hFW : Fr (fun _ => False) w4 (w4.drew.alloc (.cells #[] 129)) := ((Fr.refl (fun _ => False) w4).drew.alloc (.cells #[] 129))
        refine step_appx rfl (.tmp 42) (.tmp 44) 77 rfl w4.heap.size 129 _ 6 56 Try.underlying77 Try.info129 rfl (by decide) _ 0 [] (by simp [Act.eval]) (own_up (own_empty 6 (blk_new w4.drew (.cells #[] 129)) rfl) (fun k hk => by obtain rfl := Option.some.inj hk; first | exact Nat.le_refl _ | exact Nat.le_succ _ | (simp; done))) LA L.length lc (L.flatMap ocells) (by simp [Act.eval]) (ocells_len L) ((HRO4.out.fr (w' := w4.drew.alloc (.cells #[] 129)) (S := fun _ => False) hFW (fun _ _ _ h => h)).news) HRO4.out.nil (ocells_one L) (by simp [maxLen]; omega) (by omega) hFW.size ?_
        intro v5 w5 ho5 hg5 hm5
        rw [Nat.zero_add, List.nil_append] at ho5
        obtain ⟨A5, c5, rfl⟩ := own_slice ho5
        have hF5 : Fr (fun _ => False) w4 w5 := hFW.grown hg5 (fun k hk => .inl (by obtain rfl := Option.some.inj hk; first | exact Nat.le_refl _ | exact Nat.le_succ _ | (simp; done)))
        refine hK.out _ _ (HS.out _ hF5) ?_
        clear hK K
        try simp only [Act.put, List.setIfInBounds_toArray, List.set_cons_zero, List.set_cons_succ]
        refine wpAnyT_one (i := 6) (by kernel_rfl) rfl rfl (fun K hK => ?_)
        go_simp
        refine hK.out _ _ (HS.out _ (hF5.alloc (.cells #[.int .i64 1, .int .i64 n, .int .i64 L.length, .string key, .int .i64 x, .bool false] 129))) ?_
        clear hK K
        try simp only [Act.put, List.setIfInBounds_toArray, List.set_cons_zero, List.set_cons_succ]
        refine wpAnyT_one (i := 7) (by kernel_rfl) rfl rfl (fun K hK => ?_)
        have hF6 : Fr (fun _ => False) w4 (w5.alloc (.cells #[.int .i64 1, .int .i64 n, .int .i64 L.length, .string key, .int .i64 x, .bool false] 129)) := hF5.alloc (.cells #[.int .i64 1, .int .i64 n, .int .i64 L.length, .string key, .int .i64 x, .bool false] 129)
        refine step_app rfl (.tmp 45) (.tmp 48) 77 rfl w4.heap.size 129 _ 6 56 Try.underlying77 Try.info129 rfl (by decide) (.slice A5 L.length c5) L.length (L.flatMap ocells) (by simp [Act.eval]) (ho5.alloc (.cells #[.int .i64 1, .int .i64 n, .int .i64 L.length, .string key, .int .i64 x, .bool false] 129)) ⟨w5.heap.size, 0, none⟩ 1 1 [.int .i64 1, .int .i64 n, .int .i64 L.length, .string key, .int .i64 x, .bool false] (by simp [Act.eval]) rfl (news_of (t := 129) (fr := (0, 0)) (blk_new w5 (.cells #[.int .i64 1, .int .i64 n, .int .i64 L.length, .string key, .int .i64 x, .bool false] 129))) (by simp [Value.oneCell']) (by simp [maxLen]; omega) (by omega) hF6.size ?_
        intro v7 w7 ho7 hg7 hm7
        obtain ⟨A7, c7, rfl⟩ := own_slice ho7
        have hF7 : Fr (fun _ => False) w4 w7 := hF6.grown hg7 (fun k hk => .inl ((ho5.alloc (.cells #[.int .i64 1, .int .i64 n, .int .i64 L.length, .string key, .int .i64 x, .bool false] 129)).lt k hk).1)
        refine hK.out _ _ (HS.out _ hF7) ?_
        clear hK K
        try simp only [Act.put, List.setIfInBounds_toArray, List.set_cons_zero, List.set_cons_succ]
        have hb7 := hF7.blk0 HN14.out
        have hf7 := blk_frozen hb7 1
        have hk7 := blk_cell hb7 1
        refine wpAnyT_one (i := 8) (by kernel_rfl) rfl rfl (fun K hK => ?_)
        go_simp
        refine hK.out _ _ (HS.out _ hF7) ?_
        clear hK K
        try simp only [Act.put, List.setIfInBounds_toArray, List.set_cons_zero, List.set_cons_succ]
        refine wpAnyT_last (by kernel_rfl) rfl (by kernel_rfl) (fun K hK => ?_)
        go_simp
        refine hK.out _ _ ?_
        clear hK K
        refine NoPanic.normal ?_
        go_wp2
        go_meet
        exact took_end hF7 HN14.out ho7 (by simp) (by simp [ocells])

      · go_simp
        refine hK.out _ _ (HS.out _ (((Fr.refl (fun _ => False) w4).drew.alloc (.cells #[] 129)).alloc (.cells #[.int .i64 1, .int .i64 n, .int .i64 L.length, .string key, .int .i64 x, .bool false] 129))) ?_
        clear hK K
        try simp only [Act.put, List.setIfInBounds_toArray, List.set_cons_zero, List.set_cons_succ]
        refine wpAnyT_one (i := 3) (by kernel_rfl) rfl rfl (fun K hK => ?_)
        have hFW : Fr (fun _ => False) w4 ((w4.drew.alloc (.cells #[] 129)).alloc (.cells #[.int .i64 1, .int .i64 n, .int .i64 L.length, .string key, .int .i64 x, .bool false] 129)) := ((Fr.refl (fun _ => False) w4).drew.alloc (.cells #[] 129)).alloc (.cells #[.int .i64 1, .int .i64 n, .int .i64 L.length, .string key, .int .i64 x, .bool false] 129)
        refine step_appx rfl (.tmp 42) (.tmp 44) 77 rfl w4.heap.size 129 _ 6 56 Try.underlying77 Try.info129 rfl (by decide) _ 0 [] (by simp [Act.eval]) (own_up (own_empty 6 (blk_alloc (blk_new w4.drew (.cells #[] 129)) (.cells #[.int .i64 1, .int .i64 n, .int .i64 L.length, .string key, .int .i64 x, .bool false] 129)) rfl) (fun k hk => by obtain rfl := Option.some.inj hk; first | exact Nat.le_refl _ | exact Nat.le_succ _ | (simp; done))) LA L.length lc (L.flatMap ocells) (by simp [Act.eval]) (ocells_len L) ((HRO4.out.fr (w' := (w4.drew.alloc (.cells #[] 129)).alloc (.cells #[.int .i64 1, .int .i64 n, .int .i64 L.length, .string key, .int .i64 x, .bool false] 129)) (S := fun _ => False) hFW (fun _ _ _ h => h)).news) HRO4.out.nil (ocells_one L) (by simp [maxLen]; omega) (by omega) hFW.size ?_
        intro v5 w5 ho5 hg5 hm5
        rw [Nat.zero_add, List.nil_append] at ho5
        obtain ⟨A5, c5, rfl⟩ := own_slice ho5
        have hF5 : Fr (fun _ => False) w4 w5 := hFW.grown hg5 (fun k hk => .inl (by obtain rfl := Option.some.inj hk; first | exact Nat.le_refl _ | exact Nat.le_succ _ | (simp; done)))
        refine hK.out _ _ (HS.out _ hF5) ?_
        clear hK K
        try simp only [Act.put, List.setIfInBounds_toArray, List.set_cons_zero, List.set_cons_succ]
        refine wpAnyT_one (i := 7) (by kernel_rfl) rfl rfl (fun K hK => ?_)
        have hF6 : Fr (fun _ => False) w4 (w5) := hF5
        refine step_app rfl (.tmp 45) (.tmp 48) 77 rfl w4.heap.size 129 _ 6 56 Try.underlying77 Try.info129 rfl (by decide) (.slice A5 L.length c5) L.length (L.flatMap ocells) (by simp [Act.eval]) (ho5) ⟨w4.heap.size + 1, 0, none⟩ 1 1 [.int .i64 1, .int .i64 n, .int .i64 L.length, .string key, .int .i64 x, .bool false] (by simp [Act.eval]) rfl (news_of (t := 129) (fr := (0, 0)) (blk_grown (blk_new1 w4.drew (.cells #[] 129) (.cells #[.int .i64 1, .int .i64 n, .int .i64 L.length, .string key, .int .i64 x, .bool false] 129)) hg5 (by simp [Value.ownBlock]))) (by simp [Value.oneCell']) (by simp [maxLen]; omega) (by omega) hF6.size ?_
        intro v7 w7 ho7 hg7 hm7
        obtain ⟨A7, c7, rfl⟩ := own_slice ho7
        have hF7 : Fr (fun _ => False) w4 w7 := hF6.grown hg7 (fun k hk => .inl ((ho5).lt k hk).1)
        refine hK.out _ _ (HS.out _ hF7) ?_
        clear hK K
        try simp only [Act.put, List.setIfInBounds_toArray, List.set_cons_zero, List.set_cons_succ]
        have hb7 := hF7.blk0 HN14.out
        have hf7 := blk_frozen hb7 1
        have hk7 := blk_cell hb7 1
        refine wpAnyT_one (i := 8) (by kernel_rfl) rfl rfl (fun K hK => ?_)
        go_simp
        refine hK.out _ _ (HS.out _ hF7) ?_
        clear hK K
        try simp only [Act.put, List.setIfInBounds_toArray, List.set_cons_zero, List.set_cons_succ]
        refine wpAnyT_last (by kernel_rfl) rfl (by kernel_rfl) (fun K hK => ?_)
        go_simp
        refine hK.out _ _ ?_
        clear hK K
        refine NoPanic.normal ?_
        go_wp2
        go_meet
        exact took_end hF7 HN14.out ho7 (by simp) (by simp [ocells])

    · go_simp
      refine hK.out _ _ (HS.out _ (((Fr.refl (fun _ => False) w4).drew.alloc (.cells #[.int .i64 1, .int .i64 n, .int .i64 L.length, .string key, .int .i64 x, .bool false] 129)))) ?_
      clear hK K
      try simp only [Act.put, List.setIfInBounds_toArray, List.set_cons_zero, List.set_cons_succ]
      refine wpAnyT_one (i := 0) (by kernel_rfl) rfl rfl (fun K hK => ?_)
      go_simp
      refine hK.out _ _ (HS.out _ (((Fr.refl (fun _ => False) w4).drew.alloc (.cells #[.int .i64 1, .int .i64 n, .int .i64 L.length, .string key, .int .i64 x, .bool false] 129)).alloc (.cells #[] 129))) ?_
      clear hK K
      try simp only [Act.put, List.setIfInBounds_toArray, List.set_cons_zero, List.set_cons_succ]
      refine wpAnyT_one (i := 3) (by kernel_rfl) rfl rfl (fun K hK => ?_)
      have hFW : Fr (fun _ => False) w4 ((w4.drew.alloc (.cells #[.int .i64 1, .int .i64 n, .int .i64 L.length, .string key, .int .i64 x, .bool false] 129)).alloc (.cells #[] 129)) := ((Fr.refl (fun _ => False) w4).drew.alloc (.cells #[.int .i64 1, .int .i64 n, .int .i64 L.length, .string key, .int .i64 x, .bool false] 129)).alloc (.cells #[] 129)
      refine step_appx rfl (.tmp 42) (.tmp 44) 77 rfl w4.heap.size 129 _ 6 56 Try.underlying77 Try.info129 rfl (by decide) _ 0 [] (by simp [Act.eval]) (own_up (own_empty 6 (blk_new1 w4.drew (.cells #[.int .i64 1, .int .i64 n, .int .i64 L.length, .string key, .int .i64 x, .bool false] 129) (.cells #[] 129)) rfl) (fun k hk => by obtain rfl := Option.some.inj hk; first | exact Nat.le_refl _ | exact Nat.le_succ _ | (simp; done))) LA L.length lc (L.flatMap ocells) (by simp [Act.eval]) (ocells_len L) ((HRO4.out.fr (w' := (w4.drew.alloc (.cells #[.int .i64 1, .int .i64 n, .int .i64 L.length, .string key, .int .i64 x, .bool false] 129)).alloc (.cells #[] 129)) (S := fun _ => False) hFW (fun _ _ _ h => h)).news) HRO4.out.nil (ocells_one L) (by simp [maxLen]; omega) (by omega) hFW.size ?_
      intro v5 w5 ho5 hg5 hm5
      rw [Nat.zero_add, List.nil_append] at ho5
      obtain ⟨A5, c5, rfl⟩ := own_slice ho5
      have hF5 : Fr (fun _ => False) w4 w5 := hFW.grown hg5 (fun k hk => .inl (by obtain rfl := Option.some.inj hk; first | exact Nat.le_refl _ | exact Nat.le_succ _ | (simp; done)))
      refine hK.out _ _ (HS.out _ hF5) ?_
      clear hK K
      try simp only [Act.put, List.setIfInBounds_toArray, List.set_cons_zero, List.set_cons_succ]
      refine wpAnyT_one (i := 7) (by kernel_rfl) rfl rfl (fun K hK => ?_)
      have hF6 : Fr (fun _ => False) w4 (w5) := hF5
      refine step_app rfl (.tmp 45) (.tmp 48) 77 rfl w4.heap.size 129 _ 6 56 Try.underlying77 Try.info129 rfl (by decide) (.slice A5 L.length c5) L.length (L.flatMap ocells) (by simp [Act.eval]) (ho5) ⟨w4.heap.size, 0, none⟩ 1 1 [.int .i64 1, .int .i64 n, .int .i64 L.length, .string key, .int .i64 x, .bool false] (by simp [Act.eval]) rfl (news_of (t := 129) (fr := (0, 0)) (blk_grown (blk_alloc (blk_new w4.drew (.cells #[.int .i64 1, .int .i64 n, .int .i64 L.length, .string key, .int .i64 x, .bool false] 129)) (.cells #[] 129)) hg5 (by simp [Value.ownBlock]))) (by simp [Value.oneCell']) (by simp [maxLen]; omega) (by omega) hF6.size ?_
      intro v7 w7 ho7 hg7 hm7
      obtain ⟨A7, c7, rfl⟩ := own_slice ho7
      have hF7 : Fr (fun _ => False) w4 w7 := hF6.grown hg7 (fun k hk => .inl ((ho5).lt k hk).1)
      refine hK.out _ _ (HS.out _ hF7) ?_
      clear hK K
      try simp only [Act.put, List.setIfInBounds_toArray, List.set_cons_zero, List.set_cons_succ]
      have hb7 := hF7.blk0 HN14.out
      have hf7 := blk_frozen hb7 1
      have hk7 := blk_cell hb7 1
      refine wpAnyT_one (i := 8) (by kernel_rfl) rfl rfl (fun K hK => ?_)
      go_simp
      refine hK.out _ _ (HS.out _ hF7) ?_
      clear hK K
      try simp only [Act.put, List.setIfInBounds_toArray, List.set_cons_zero, List.set_cons_succ]
      refine wpAnyT_last (by kernel_rfl) rfl (by kernel_rfl) (fun K hK => ?_)
      go_simp
      refine hK.out _ _ ?_
      clear hK K
      refine NoPanic.normal ?_
      go_wp2
      go_meet
      exact took_end hF7 HN14.out ho7 (by simp) (by simp [ocells])
  case rest =>
    have HCUT := Lib.hid hcut
    clear hcut
    obtain ⟨A, c, hb, hro, hFc, hfr⟩ := HCUT.out
    have hb3 : w.heap.size + 3 ≤ b3 ∧ w4.heap.size = b3 + 1 := HS4.out
    have HN2c := Lib.hid (hFc.blk HN24.out (by omega))
    have HN3c := Lib.hid (hFc.blk HN34.out (by omega))
    have HN4c := Lib.hid (hFc.blk HN4.out (by omega))
    have HN1c := Lib.hid hb
    have HRc := Lib.hid hro
    have HFc : Hid (Fr (fun k => k = w.heap.size) w wc) := HF4.out.none.trans hFc (fun _ _ h => h)
    have HFR : Hid (∀ g o, A = some ⟨g, o, none⟩ → w4.heap.size ≤ g) := hfr
    have HFc2 := Lib.hid hFc
    clear hb hro hFc hfr HCUT HN14 HN24 HN34 HN4
    obtain ⟨b1, hb1⟩ : ∃ b1, b1 = w.heap.size + 1 := ⟨_, rfl⟩
    obtain ⟨b2, hb2⟩ : ∃ b2, b2 = w.heap.size + 1 + 1 := ⟨_, rfl⟩
    have HB1 := Lib.hid hb1
    have HB2 := Lib.hid hb2
    rw [← hb2] at HN3c ⊢
    rw [← hb1] at HN2c ⊢
    have n1 : b1 ≠ w.heap.size := by omega
    have n2 : b2 ≠ w.heap.size := by omega
    have n3 : b3 ≠ w.heap.size := by omega
    have n4 : b1 ≠ b3 := by omega
    have n5 : b2 ≠ b3 := by omega
    have n6 : b1 ≠ b2 := by omega
    clear hb1 hb2 hb3
    generalize hb0 : w.heap.size = b0 at *
    have HB0 := Lib.hid hb0
    clear hb0
    generalize hln : (L ++ [((⟨1, n, L.length, key, x⟩ : Msg), false)]).length = ln at *
    have HLN := Lib.hid hln
    clear hln
    have c0 : wc.cell? ⟨b0, 0, none⟩ = some (.int .i64 n) := blk_cell HN1c.out 0
    have c1 : wc.cell? ⟨b0, 1, none⟩ = some (.slice A ln c) := blk_cell HN1c.out 1
    have c2 : wc.cell? ⟨b0, 2, none⟩ = some (.slice GA gn gc) := blk_cell HN1c.out 2
    have y0 : wc.cell? ⟨b3, 0, none⟩ = some (.int .i64 1) := blk_cell HN4c.out 0
    have y1 : wc.cell? ⟨b3, 1, none⟩ = some (.int .i64 n) := blk_cell HN4c.out 1
    have y2 : wc.cell? ⟨b3, 2, none⟩ = some (.int .i64 L.length) := blk_cell HN4c.out 2
    have y3 : wc.cell? ⟨b3, 3, none⟩ = some (.string key) := blk_cell HN4c.out 3
    have y4 : wc.cell? ⟨b3, 4, none⟩ = some (.int .i64 x) := blk_cell HN4c.out 4
    have hS : ∀ W : World, Fr (fun k => k = b1 ∨ k = b2) wc W → W.cell? ⟨b0, 0, none⟩ = some (.int .i64 n) ∧ W.cell? ⟨b0, 1, none⟩ = some (.slice A ln c) ∧ W.cell? ⟨b0, 2, none⟩ = some (.slice GA gn gc) ∧ W.cell? ⟨b3, 0, none⟩ = some (.int .i64 1) ∧ W.cell? ⟨b3, 1, none⟩ = some (.int .i64 n) ∧ W.cell? ⟨b3, 2, none⟩ = some (.int .i64 L.length) ∧ W.cell? ⟨b3, 3, none⟩ = some (.string key) ∧ W.cell? ⟨b3, 4, none⟩ = some (.int .i64 x) := fun W hF => by
      have k0 : ¬ (b0 = b1 ∨ b0 = b2) := by omega
      have k3 : ¬ (b3 = b1 ∨ b3 = b2) := by omega
      exact ⟨hF.cell c0 k0, hF.cell c1 k0, hF.cell c2 k0, hF.cell y0 k3, hF.cell y1 k3, hF.cell y2 k3, hF.cell y3 k3, hF.cell y4 k3⟩
    have HS := Lib.hid hS
    clear hS c0 c1 c2 y0 y1 y2 y3 y4
    have z0 := blk_frozen HN2c.out 0
    have z1 := blk_frozen HN2c.out 1
    have z2 := blk_frozen HN2c.out 2
    have q0 : wc.cell? ⟨b1, 0, none⟩ = some (.int .i64 0) := blk_cell HN2c.out 0
    have q1 : wc.cell? ⟨b1, 1, none⟩ = some (.slice none 0 0) := blk_cell HN2c.out 1
    have q2 : wc.cell? ⟨b1, 2, none⟩ = some (.slice none 0 0) := blk_cell HN2c.out 2
    have x0 := blk_frozen HN3c.out 0
    have x1 := blk_frozen HN3c.out 1
    have x2 := blk_frozen HN3c.out 2
    have x3 := blk_frozen HN3c.out 3
    have x4 := blk_frozen HN3c.out 4
    have p0 : wc.cell? ⟨b2, 0, none⟩ = some (.int .i64 0) := blk_cell HN3c.out 0
    have p1 : wc.cell? ⟨b2, 1, none⟩ = some (.int .i64 0) := blk_cell HN3c.out 1
    have p2 : wc.cell? ⟨b2, 2, none⟩ = some (.int .i64 0) := blk_cell HN3c.out 2
    have p3 : wc.cell? ⟨b2, 3, none⟩ = some (.string ⟨#[]⟩) := blk_cell HN3c.out 3
    have p4 : wc.cell? ⟨b2, 4, none⟩ = some (.int .i64 0) := blk_cell HN3c.out 4
    have hne12 : ¬ b1 = b2 := n6
    have hne21 : ¬ b2 = b1 := fun e => n6 e.symm
    go_upto_region 7 with (fail)
    have hf3 : Fr (fun k => k = b1 ∨ k = b2) wc (((wc.setCell ⟨b1, 0, none⟩ (.int .i64 n)).setCell ⟨b1, 1, none⟩ (.slice A ln c)).setCell ⟨b1, 2, none⟩ (.slice GA gn gc)) := (set3_frx wc b1 (.int .i64 n) (.slice A ln c) (.slice GA gn gc)).mono (fun _ _ h => .inl h)
    have hf5 : Fr (fun k => k = b1 ∨ k = b2) wc ((((((((wc.setCell ⟨b1, 0, none⟩ (.int .i64 n)).setCell ⟨b1, 1, none⟩ (.slice A ln c)).setCell ⟨b1, 2, none⟩ (.slice GA gn gc)).setCell ⟨b2, 0, none⟩ (.int .i64 1)).setCell ⟨b2, 1, none⟩ (.int .i64 n)).setCell ⟨b2, 2, none⟩ (.int .i64 L.length)).setCell ⟨b2, 3, none⟩ (.string key)).setCell ⟨b2, 4, none⟩ (.int .i64 x)) :=
      hf3.trans' (set5_fr _ b2 (.int .i64 1) (.int .i64 n) (.int .i64 L.length) (.string key) (.int .i64 x)) (fun _ _ h => h) (fun _ _ h => .inr h)
    have HF3 := Lib.hid hf3
    have HF5 := Lib.hid hf5
    clear hf3 hf5
    refine wp_region_noPanic ?_
    refine wp_region_T (fun W => W.cell? ⟨b0, 0, none⟩ = some (.int .i64 n) ∧ W.cell? ⟨b0, 1, none⟩ = some (.slice A ln c) ∧ W.cell? ⟨b0, 2, none⟩ = some (.slice GA gn gc) ∧ W.cell? ⟨b3, 0, none⟩ = some (.int .i64 1) ∧ W.cell? ⟨b3, 1, none⟩ = some (.int .i64 n) ∧ W.cell? ⟨b3, 2, none⟩ = some (.int .i64 L.length) ∧ W.cell? ⟨b3, 3, none⟩ = some (.string key) ∧ W.cell? ⟨b3, 4, none⟩ = some (.int .i64 x)) 4 (by kernel_rfl) (HS.out _ (Fr.refl _ _).drew) (fun hS0 => ?_)
    refine wpAnyT_taked (i := 0) (d := 51) (v := ?_) rfl rfl (by kernel_rfl) (by kernel_rfl) (by kernel_rfl) (by kernel_rfl) rfl (fun _ _ _ h => h) (Or.inl ⟨by rfl, ?_⟩) (by assumption) ?_
    rotate_left 1
    · rintro w' ⟨hs0, hs1, hs2, hs3, hs4, hs5, hs6, hs7⟩
      go_simp
      try (with_reducible rfl)
    try simp only [Act.put, List.setIfInBounds_toArray, List.set_cons_zero, List.set_cons_succ]
    refine wpAnyT_two (i := 1) (j := 2) (by kernel_rfl) rfl rfl rfl rfl (fun K hK => ?_) (fun K hK => ?_)
    · obtain ⟨hs0, hs1, hs2, hs3, hs4, hs5, hs6, hs7⟩ := hS0
      go_simp
      refine hK.out _ _ (HS.out _ (Fr.refl _ _).drew) ?_
      clear hK K
      try simp only [Act.put, List.setIfInBounds_toArray, List.set_cons_zero, List.set_cons_succ]
      clear hs0 hs1 hs2 hs3 hs4 hs5 hs6 hs7
      refine wpAnyT_one (i := 2) (by kernel_rfl) rfl rfl (fun K hK => ?_)
      go_simp
      refine hK.out _ _ (HS.out _ HF3.out.drew) ?_
      clear hK K
      try simp only [Act.put, List.setIfInBounds_toArray, List.set_cons_zero, List.set_cons_succ]
      refine wpAnyT_one (i := 3) (by kernel_rfl) rfl rfl (fun K hK => ?_)
      go_simp
      refine hK.out _ _ (HS.out _ HF5.out.drew) ?_
      clear hK K
      try simp only [Act.put, List.setIfInBounds_toArray, List.set_cons_zero, List.set_cons_succ]
      refine wpAnyT_last (by kernel_rfl) rfl (by kernel_rfl) (fun K hK => ?_)
      go_simp
      refine hK.out _ _ ?_
      clear hK K
      refine NoPanic.normal ?_
      go_wp2
      have h3 := set3 (x := .int .i64 n) (y := .slice A ln c) (z := .slice GA gn gc) HN2c.out
      have hF3 := set3_frx wc b1 (.int .i64 n) (.slice A ln c) (.slice GA gn gc)
      have h5f := set5 (a := .int .i64 1) (b := .int .i64 n) (c := .int .i64 L.length) (d := .string key) (e := .int .i64 x) (hF3.blk HN3c.out hne21)
      have hF5 := set5_fr (((wc.setCell ⟨b1, 0, none⟩ (.int .i64 n)).setCell ⟨b1, 1, none⟩ (.slice A ln c)).setCell ⟨b1, 2, none⟩ (.slice GA gn gc)) b2 (.int .i64 1) (.int .i64 n) (.int .i64 L.length) (.string key) (.int .i64 x)
      have h3f := hF5.blk h3 hne12
      refine roffer_end2 (m := ⟨1, n, L.length, key, x⟩) (blk_drew h3f) (blk_drew h5f) rfl rfl rfl ⟨A, c, ⟨by rw [HLN.out], ?_⟩, ?_, ?_⟩
      · exact HFc.out.trans' HF5.out.drew (fun k hk e => by have := HB0.out; omega) (fun k hk e => by have := HB0.out; have := HB1.out; have := HB2.out; rcases e with e | e <;> omega)
      · exact HRc.out.fr HF5.out.drew (fun g o e h => by have := HFR.out g o e; have := HS4.out; have := HB1.out; have := HB2.out; rcases h with h | h <;> omega)
      · intro g o e
        have := HFR.out g o e; have := HS4.out; have := HB0.out
        omega
    · go_simp
      refine hK.out _ _ (HS.out _ HF3.out.drew) ?_
      clear hK K
      try simp only [Act.put, List.setIfInBounds_toArray, List.set_cons_zero, List.set_cons_succ]
      obtain ⟨hs0, hs1, hs2, hs3, hs4, hs5, hs6, hs7⟩ := HS.out _ HF3.out.drew
      refine wpAnyT_one (i := 1) (by kernel_rfl) rfl rfl (fun K hK => ?_)
      go_simp
      refine hK.out _ _ (HS.out _ HF3.out.drew) ?_
      clear hK K
      try simp only [Act.put, List.setIfInBounds_toArray, List.set_cons_zero, List.set_cons_succ]
      clear hs0 hs1 hs2 hs3 hs4 hs5 hs6 hs7
      refine wpAnyT_one (i := 3) (by kernel_rfl) rfl rfl (fun K hK => ?_)
      go_simp
      refine hK.out _ _ (HS.out _ HF5.out.drew) ?_
      clear hK K
      try simp only [Act.put, List.setIfInBounds_toArray, List.set_cons_zero, List.set_cons_succ]
      refine wpAnyT_last (by kernel_rfl) rfl (by kernel_rfl) (fun K hK => ?_)
      go_simp
      refine hK.out _ _ ?_
      clear hK K
      refine NoPanic.normal ?_
      go_wp2
      have h3 := set3 (x := .int .i64 n) (y := .slice A ln c) (z := .slice GA gn gc) HN2c.out
      have hF3 := set3_frx wc b1 (.int .i64 n) (.slice A ln c) (.slice GA gn gc)
      have h5f := set5 (a := .int .i64 1) (b := .int .i64 n) (c := .int .i64 L.length) (d := .string key) (e := .int .i64 x) (hF3.blk HN3c.out hne21)
      have hF5 := set5_fr (((wc.setCell ⟨b1, 0, none⟩ (.int .i64 n)).setCell ⟨b1, 1, none⟩ (.slice A ln c)).setCell ⟨b1, 2, none⟩ (.slice GA gn gc)) b2 (.int .i64 1) (.int .i64 n) (.int .i64 L.length) (.string key) (.int .i64 x)
      have h3f := hF5.blk h3 hne12
      refine roffer_end2 (m := ⟨1, n, L.length, key, x⟩) (blk_drew h3f) (blk_drew h5f) rfl rfl rfl ⟨A, c, ⟨by rw [HLN.out], ?_⟩, ?_, ?_⟩
      · exact HFc.out.trans' HF5.out.drew (fun k hk e => by have := HB0.out; omega) (fun k hk e => by have := HB0.out; have := HB1.out; have := HB2.out; rcases e with e | e <;> omega)
      · exact HRc.out.fr HF5.out.drew (fun g o e h => by have := HFR.out g o e; have := HS4.out; have := HB1.out; have := HB2.out; rcases h with h | h <;> omega)
      · intro g o e
        have := HFR.out g o e; have := HS4.out; have := HB0.out
        omega
end Go.Proofs.Ytedmhhllkkgbjaa
