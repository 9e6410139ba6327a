/- The document's disk: Write. PRINTED by genE4.py. -/
import Derived.Test.YtdamegjhdopfaaaE3
namespace Go.Proofs.Ytdamegjhdopfaaa
open Go.RowKit Go.WideShapes
set_option linter.unusedSimpArgs false
set_option linter.unusedVariables false

/-- Two may come up. -/
theorem wpAnyT_two {P : Program} {ops : Array Oper} {Q : Exit → Act → World → Prop} {md : Region.Mode} {S : World → Prop} {last : Nat} {i j : Nat} {oi oj : Oper} {fuel : Nat} {listed : Array Bool} {a : Act} {w : World} (hr : Region.ready md ops listed = [i, j]) (hoi : ops[i]? = some oi) (hoj : ops[j]? = some oj)
    (hi : ∀ K' : Act → World → Prop, Shut (∀ a w, S w → wpAnyT P md ops Q S last fuel (listed.setIfInBounds i true) a w → K' a w) → if Region.wanted oi (yielded ops a.tmps) = true then Oper.wp P oi a w K' Q else K' (a.put oi.dst undef) w)
    (hj : ∀ K' : Act → World → Prop, Shut (∀ a w, S w → wpAnyT P md ops Q S last fuel (listed.setIfInBounds j true) a w → K' a w) → if Region.wanted oj (yielded ops a.tmps) = true then Oper.wp P oj a w K' Q else K' (a.put oj.dst undef) w) :
    wpAnyT P md ops Q S last (fuel + 1) listed a w := by
  refine ⟨fun h0 => absurd (hr.symm.trans h0) (by simp), fun k hk => ?_⟩
  rw [hr] at hk
  rcases List.mem_cons.1 hk with rfl | hk
  · exact wpOp_step hoi (fun K' hK => hi K' (fun a w hS hW => hK a w ⟨fun _ => hS, hW⟩))
  · obtain rfl := List.mem_singleton.1 hk
    exact wpOp_step hoj (fun K' hK => hj K' (fun a w hS hW => hK a w ⟨fun _ => hS, hW⟩))

theorem Dk.Pure.wr {d : Dk} (h : d.Pure) (i : Nat) (hi : i < d.F.length) (s : List Int) (hs : Sec s) : (d.wr i s).Pure := by
  have lself : (d.wr i s).L i = d.L i ++ [s] := if_pos rfl
  have loth : ∀ k : Int, k ≠ i → (d.wr i s).L k = d.L k := fun k hk => if_neg hk
  refine ⟨h.secs, h.pos, h.few, fun k x hx => ?_, fun k hk => ?_, fun k => ?_, h.dones, h.fuses, h.dw⟩
  · by_cases hk : k = i
    · subst hk
      rw [lself] at hx
      rcases List.mem_append.1 hx with hx | hx
      · exact h.lsecs _ x hx
      · rw [List.mem_singleton.1 hx]; exact hs
    · rw [loth k hk] at hx; exact h.lsecs k x hx
  · by_cases hk2 : k = i
    · subst hk2; show (0 : Int) ≤ i ∧ (i : Int) < d.F.length; omega
    · rw [loth k hk2] at hk; exact h.within k hk
  · have := h.lens k
    show _ ≤ d.puts + 1
    by_cases hk : k = i
    · subst hk; rw [lself, List.length_append]; simp; omega
    · rw [loth k hk]; omega
/-- the cells of a row of sectors that is read -/
theorem ReadVV.olds {U : Nat → Prop} {w : World} {A : Option Addr} : ∀ (xs : List (List Int)), ReadVV U w A xs → ∃ olds : List Value, olds.length = xs.length ∧ (∀ ad, A = some ad → ∀ (j : Nat) (u : Value), olds[j]? = some u → w.cell? (ad.add j) = some u) ∧ (A = none → xs = []) ∧
    (∀ u ∈ olds, u.oneCell' = true) ∧ (∀ (i : Nat) (x : List Int), xs[i]? = some x → ∃ PA pc, olds[i]? = some (Value.slice PA 128 pc) ∧ ReadV U w PA x) := by
  intro xs
  have key : ∀ n, n ≤ xs.length → ReadVV U w A xs → ∃ olds : List Value, olds.length = n ∧ (∀ ad, A = some ad → ∀ (j : Nat) (u : Value), olds[j]? = some u → w.cell? (ad.add j) = some u) ∧ (∀ u ∈ olds, u.oneCell' = true) ∧ (∀ (i : Nat) (x : List Int), i < n → xs[i]? = some x → ∃ PA pc, olds[i]? = some (Value.slice PA 128 pc) ∧ ReadV U w PA x) := by
    intro n
    induction n with
    | zero => exact fun _ _ => ⟨[], rfl, fun ad _ j u h => (by simp at h), fun u hu => (by cases hu), fun i x hi => absurd hi (Nat.not_lt_zero _)⟩
    | succ n ih =>
      intro hn h
      obtain ⟨olds, h1, h2, h3, h4⟩ := ih (by omega) h
      obtain ⟨x, hx⟩ : ∃ x, xs[n]? = some x := ⟨_, List.getElem?_eq_getElem (by omega)⟩
      obtain ⟨g, o, PA, pc, rfl, hu, hc, hr⟩ := h n x hx
      refine ⟨olds ++ [.slice PA 128 pc], by simp [h1], fun ad e j u hj => ?_, fun u hu => ?_, fun i y hi hy => ?_⟩
      · rcases Nat.lt_or_ge j olds.length with hjl | hjl
        · rw [List.getElem?_append_left hjl] at hj; exact h2 ad e j u hj
        · have hj2 := (List.getElem?_eq_some_iff.1 hj).1
          simp at hj2
          obtain rfl : j = olds.length := by omega
          simp at hj
          subst hj
          cases e
          rw [add_some, h1]
          exact hc
      · rcases List.mem_append.1 hu with hu | hu
        · exact h3 u hu
        · rw [List.mem_singleton.1 hu]; rfl
      · rcases Nat.lt_or_ge i n with hin | hin
        · obtain ⟨PA', pc', e1, e2⟩ := h4 i y hin hy
          exact ⟨PA', pc', by rw [List.getElem?_append_left (by omega)]; exact e1, e2⟩
        · obtain rfl : i = n := by omega
          rw [hx] at hy
          cases hy
          exact ⟨PA, pc, by rw [List.getElem?_append_right (by omega), h1]; simp, hr⟩
  intro h
  obtain ⟨olds, h1, h2, h3, h4⟩ := key xs.length (Nat.le_refl _) h
  refine ⟨olds, h1, h2, fun e => ?_, h3, fun i x hx => h4 i x (List.getElem?_eq_some_iff.1 hx).1 hx⟩
  cases xs with
  | nil => rfl
  | cons x xs =>
    obtain ⟨g, o, PA, pc, e2, _⟩ := h 0 x rfl
    rw [e] at e2
    cases e2
/-- what is read stays, at any address -/
theorem cell_any0 {w W : World} (hF : Fr (fun _ => False) w W) {ad : Addr} {j : Nat} {u : Value} (h : w.cell? (ad.add j) = some u) : W.cell? (ad.add j) = some u := cell_later hF.below0 h
/-- a write more -/
theorem RdIn.written {w W : World} {g sb : Nat} {U : Nat → Prop} {hs : List Oh} {d : Dk} (h : RdIn w g sb U hs d) {i : Nat} (hi : i < d.F.length) {o : Oh} (ho : hs[i]? = some o) {s : List Int} (hs1 : Sec s) (hgl : g < w.heap.size) (hsl : sb < w.heap.size) (hul : ∀ k, U k → k < w.heap.size)
    (hF : Fr (fun _ => False) w W) {A BA : Option Addr} {c bc : Nat} {olds : List Value} (hol : olds.length = (d.L (i : Int)).length) (holds : ∀ (j : Nat) (x : List Int), (d.L (i : Int))[j]? = some x → ∃ PA pc, olds[j]? = some (Value.slice PA 128 pc) ∧ ReadV U w PA x)
    (hown : W.ownsRow w.heap.size 33 1 (.slice A ((d.L (i : Int)).length + 1) c) ((d.L (i : Int)).length + 1) (olds ++ [.slice BA 128 bc])) (hB : ReadV (fun k => w.heap.size ≤ k ∧ k < W.heap.size) W BA s) :
    RdIn (W.setCell ⟨sb, i * 2 + 1, none⟩ (.slice A ((d.L (i : Int)).length + 1) c)) g sb (fun k => U k ∨ (w.heap.size ≤ k ∧ k < W.heap.size)) (hs.set i { o with la := A, ll := (d.L (i : Int)).length + 1, lc := c }) (d.wr i s) := by
  have lself : (d.wr i s).L i = d.L i ++ [s] := if_pos rfl
  have loth : ∀ k : Int, k ≠ i → (d.wr i s).L k = d.L k := fun k hk => if_neg hk
  have hFs : Fr (fun q => q = sb) W (W.setCell ⟨sb, i * 2 + 1, none⟩ (.slice A ((d.L (i : Int)).length + 1) c)) := setg_fr (Fr.refl _ _) _ _
  have hnu : ∀ k, U k → ¬ k = sb := fun k hk e => h.us (by rw [← e]; exact hk)
  have hnn : ∀ k, (w.heap.size ≤ k ∧ k < W.heap.size) → ¬ k = sb := fun k hk e => by omega
  have hUU : ∀ k, U k → (U k ∨ (w.heap.size ≤ k ∧ k < W.heap.size)) := fun k hk => .inl hk
  refine ⟨hFs.blk (hF.blk0 h.box) (fun e => h.ne e.symm), sb_set1 (hF.blk0 h.row) ho _ _ _, by rw [List.length_set]; exact h.len, fun j p hp => ?_, h.pure.wr i hi s hs1, fun hk => ?_, fun hk => ?_⟩
  · rw [List.getElem?_set] at hp
    by_cases hji : i = j
    · subst hji
      rw [if_pos rfl, if_pos (by rw [h.len]; exact hi)] at hp
      obtain rfl := Option.some.inj hp
      obtain ⟨h1, h2, h3, h4⟩ := h.is i o ho
      refine ⟨h1, by rw [lself]; simp, ((h3.fr hF (fun _ _ h => h)).fr hFs hnu).mono hUU, ?_⟩
      rw [lself]
      intro j x hx
      obtain ⟨ag, hag⟩ := own_some hown (by omega)
      have hlt := hown.lt ag (by rw [hag]; rfl)
      have hjl := (List.getElem?_eq_some_iff.1 hx).1
      rw [List.length_append, List.length_singleton] at hjl
      have hcell : ∀ v, (olds ++ [Value.slice BA 128 bc])[j]? = some v → (W.setCell ⟨sb, i * 2 + 1, none⟩ (.slice A ((d.L (i : Int)).length + 1) c)).cell? ⟨ag, 0 + j, none⟩ = some v := fun v hv => by
        have := (own_news hown).1 _ hag j v hv
        rw [add_some] at this
        exact hFs.cell this (by have := hlt.1; show ¬ ag = sb; omega)
      rcases Nat.lt_or_ge j (d.L (i : Int)).length with hj | hj
      · rw [List.getElem?_append_left hj] at hx
        obtain ⟨PA, pc, e1, e2⟩ := holds j x hx
        exact ⟨ag, 0, PA, pc, hag, .inr ⟨hlt.1, hlt.2⟩, hcell _ (by rw [List.getElem?_append_left (by omega)]; exact e1), ((e2.fr hF (fun _ _ h => h)).fr hFs hnu).mono hUU⟩
      · obtain rfl : j = (d.L (i : Int)).length := by omega
        rw [List.getElem?_append_right (Nat.le_refl _)] at hx
        simp at hx
        subst hx
        exact ⟨ag, 0, BA, bc, hag, .inr ⟨hlt.1, hlt.2⟩, hcell _ (by rw [← hol]; simp), (hB.fr hFs hnn).mono (fun k hk => .inr hk)⟩
    · rw [if_neg hji] at hp
      obtain ⟨h1, h2, h3, h4⟩ := h.is j p hp
      have := loth j (by omega)
      exact ⟨h1, by rw [this]; exact h2, ((h3.fr hF (fun _ _ h => h)).fr hFs hnu).mono hUU, by rw [this]; exact ((h4.fr hF (fun _ _ h => h)).fr hFs hnu).mono hUU⟩
  · rcases hk with hk | hk
    · exact h.ug hk
    · omega
  · rcases hk with hk | hk
    · exact h.us hk
    · omega
theorem readV_in {w w' : World} {b n c : Nat} {A : Option Addr} {l : List Int} (h : w'.ownsRow b 5 1 (.slice A n c) l.length (by8 l)) (hb : w.heap.size ≤ b) : ReadV (fun k => w.heap.size ≤ k ∧ k < w'.heap.size) w' A l := readV_own h hb
theorem head_info : (Try.prog.info? 33).map (fun i => (i.zero, i.size, i.bytes)) = some (some (.slice none 0 0), 1, 24) := by kernel_rfl
def RWritePost (w : World) (g : Nat) (T : Nat → Prop) (d' : Dk) (r : Int) (e : Ending) (w' : World) : Prop :=
  e = .returned (.int .i64 r) ∧ ∃ T', RdAt w' g T' d' ∧ Fr T w w' ∧ ∀ k, T' k → T k ∨ w.heap.size ≤ k

set_option maxRecDepth 100000 in
set_option maxHeartbeats 4000000 in
theorem rwrite_any {w : World} {g : Nat} {T : Nat → Prop} {d : Dk} (h : RdAt w g T d) (i : Int) (A : Option Addr) (c : Nat) (b : List Int) (hR : ReadU w A b) (hb : ∀ x ∈ b, 0 ≤ x ∧ x < 256) (hdone : d.done ≤ 1000000000) (hputs : d.puts ≤ 1000000) :
    Calls Try.prog 20 #[.pointer (some ⟨g, 0, none⟩), .int .i64 i, .slice A b.length c] w (RWritePost w g T (d.write i b) (d.writeE i b.length)) := by
  have H := Lib.hid h
  have HR := Lib.hid hR
  have HBB := Lib.hid hb
  have HDO := Lib.hid hdone
  have HPU := Lib.hid hputs
  have hsame : ∀ r : Int, d.writeE i b.length = r → r ≠ 0 → RWritePost w g T (d.write i b) (d.writeE i b.length) (.returned (.int .i64 r)) w := fun r h1 h2 => by
    unfold Dk.write
    rw [h1, if_neg h2]
    exact ⟨rfl, T, h, Fr.refl _ _, fun k hk => .inl hk⟩
  have HSAME := Lib.hid hsame
  clear h hR hb hdone hputs hsame
  go_enter Try.func20, Try.ntmps20
  go_wp2_with fail
  refine (rdown_any H.out).mono ?_
  rintro e w1 ⟨rfl, rfl⟩
  cases hdn : d.down with
  | true =>
    have HE := Lib.hid (HSAME.out 30 (by simp [Dk.writeE, hdn]) (by omega))
    clear hdn
    go_wp2_with fail
    go_ret
    exact HE.out
  | false =>
    have HDN := Lib.hid hdn
    clear hdn
    go_wp2_with fail
    refine (rhas_any H.out i).mono ?_
    rintro e w1 ⟨rfl, rfl⟩
    by_cases hi : 0 ≤ i ∧ i < d.F.length
    · have hbb : (decide (0 ≤ i) && decide (i < d.F.length)) = true := by simp; omega
      rw [hbb]
      have HI := Lib.hid hi
      clear hbb
      by_cases hn : b.length = 128
      · have hni : (b.length : Int) = 128 := by omega
        have hre : d.writeE i b.length = 0 := by unfold Dk.writeE; rw [HDN.out, if_neg (by simp), if_pos HI.out, if_pos hn]
        have hrw : d.write i b = (d.wr i b).tick := by unfold Dk.write; rw [if_pos hre]
        have HRE := Lib.hid hre
        have HRW := Lib.hid hrw
        have HN := Lib.hid hn
        clear hn hre hrw HSAME
        obtain ⟨bn, hbn⟩ : ∃ bn, bn = b.length := ⟨_, rfl⟩
        rw [← hbn] at hni ⊢
        obtain rfl : bn = 128 := hbn.trans HN.out
        clear hbn
        obtain ⟨k, rfl⟩ := Int.eq_ofNat_of_zero_le hi.1
        have hk : k < d.F.length := by have := hi.2; omega
        have hki : (k : Int) < d.F.length := hi.2
        have HK := Lib.hid hk
        obtain ⟨sb, U, hs, h1, h2, h3, h4, h5⟩ := H.out
        have H1 := Lib.hid h1
        have HTG := Lib.hid h2
        have HTS := Lib.hid h3
        have HTU := Lib.hid h4
        have HTL := Lib.hid h5
        have c0 : w1.cell? ⟨g, 0, none⟩ = some (.slice (some ⟨sb, 0, none⟩) d.F.length d.F.length) := blk_cell h1.box 0
        obtain ⟨o, ho, his, cf, cl⟩ := h1.cells hk
        obtain ⟨olds, ol1, ol2, ol3, ol4, ol5⟩ := his.2.2.2.olds
        have f1 := blk_frozen h1.row (k * 2 + 1)
        have HLE : Hid ((d.L (k : Int)).length ≤ 1000000) := Nat.le_trans (h1.pure.lens k) HPU.out
        have HO := Lib.hid ho
        have OL1 := Lib.hid ol1
        have OL2 := Lib.hid ol2
        have OL3 := Lib.hid ol3
        have OL4 := Lib.hid ol4
        have OL5 := Lib.hid ol5
        have HSF := Lib.hid f1
        obtain ⟨m, hm⟩ : ∃ m, m = (d.L (k : Int)).length := ⟨_, rfl⟩
        rw [← hm] at cl HLE
        have HM := Lib.hid hm
        clear h1 h2 h3 h4 h5 ho his ol1 ol2 ol3 ol4 ol5 f1 hm hi cf
        have hSS : ∀ W : World, Fr (fun _ => False) w1 W → W.cell? ⟨g, 0, none⟩ = some (.slice (some ⟨sb, 0, none⟩) d.F.length d.F.length) ∧ W.cell? ⟨sb, k * 2 + 1, none⟩ = some (.slice o.la m o.lc) ∧ Fr (fun _ => False) w1 W :=
          fun W hW => ⟨hW.cell0 c0, hW.cell0 cl, hW⟩
        have HS := Lib.hid hSS
        clear c0 cl hSS
        go_upto_region 9 with (fail)
        refine wp_region_noPanic ?_
        refine wp_region_T (fun W => W.cell? ⟨g, 0, none⟩ = some (.slice (some ⟨sb, 0, none⟩) d.F.length d.F.length) ∧ W.cell? ⟨sb, k * 2 + 1, none⟩ = some (.slice o.la m o.lc) ∧ Fr (fun _ => False) w1 W) 22 (by kernel_rfl) (HS.out _ (Fr.refl _ _).drew) (fun hS0 => ?_)
        refine wpAnyT_taked (i := 0) (d := 22) (v := ?_) rfl rfl (by kernel_rfl) (by kernel_rfl) (by kernel_rfl) (by kernel_rfl) rfl (fun _ _ _ h => h) (Or.inl ⟨by rfl, ?_⟩) (by assumption) ?_
        rotate_left 1
        · rintro w' ⟨hs0, hs1, hs2⟩
          go_simp
          try (with_reducible rfl)
        try simp only [Act.put, List.setIfInBounds_toArray, List.set_cons_zero, List.set_cons_succ]
        refine wpAnyT_taked (i := 1) (d := 23) (v := ?_) rfl rfl (by kernel_rfl) (by kernel_rfl) (by kernel_rfl) (by kernel_rfl) rfl (fun _ _ _ h => h) (Or.inl ⟨by rfl, ?_⟩) (by assumption) ?_
        rotate_left 1
        · rintro w' ⟨hs0, hs1, hs2⟩
          go_simp
          try (with_reducible rfl)
        try simp only [Act.put, List.setIfInBounds_toArray, List.set_cons_zero, List.set_cons_succ]
        refine wpAnyT_taked (i := 2) (d := 24) (v := ?_) rfl rfl (by kernel_rfl) (by kernel_rfl) (by kernel_rfl) (by kernel_rfl) rfl (fun _ _ _ h => h) (Or.inl ⟨by rfl, ?_⟩) (by assumption) ?_
        rotate_left 1
        · rintro w' ⟨hs0, hs1, hs2⟩
          go_simp
          try (with_reducible rfl)
        try simp only [Act.put, List.setIfInBounds_toArray, List.set_cons_zero, List.set_cons_succ]
        refine wpAnyT_taked (i := 3) (d := 25) (v := ?_) rfl rfl (by kernel_rfl) (by kernel_rfl) (by kernel_rfl) (by kernel_rfl) rfl (fun _ _ _ h => h) (Or.inl ⟨by rfl, ?_⟩) (by assumption) ?_
        rotate_left 1
        · rintro w' ⟨hs0, hs1, hs2⟩
          go_simp
          try (with_reducible rfl)
        try simp only [Act.put, List.setIfInBounds_toArray, List.set_cons_zero, List.set_cons_succ]
        refine wpAnyT_taked (i := 4) (d := 26) (v := ?_) rfl rfl (by kernel_rfl) (by kernel_rfl) (by kernel_rfl) (by kernel_rfl) rfl (fun _ _ _ h => h) (Or.inl ⟨by rfl, ?_⟩) (by assumption) ?_
        rotate_left 1
        · rintro w' ⟨hs0, hs1, hs2⟩
          go_simp
          try (with_reducible rfl)
        try simp only [Act.put, List.setIfInBounds_toArray, List.set_cons_zero, List.set_cons_succ]
        refine wpAnyT_taked (i := 6) (d := 28) (v := ?_) rfl rfl (by kernel_rfl) (by kernel_rfl) (by kernel_rfl) (by kernel_rfl) rfl (fun _ _ _ h => h) (Or.inl ⟨by rfl, ?_⟩) (by assumption) ?_
        rotate_left 1
        · rintro w' ⟨hs0, hs1, hs2⟩
          go_simp
          try (with_reducible rfl)
        try simp only [Act.put, List.setIfInBounds_toArray, List.set_cons_zero, List.set_cons_succ]
        refine wpAnyT_taked (i := 7) (d := 29) (v := ?_) rfl rfl (by kernel_rfl) (by kernel_rfl) (by kernel_rfl) (by kernel_rfl) rfl (fun _ _ _ h => h) (Or.inl ⟨by rfl, ?_⟩) (by assumption) ?_
        rotate_left 1
        · rintro w' ⟨hs0, hs1, hs2⟩
          go_simp
          try (with_reducible rfl)
        try simp only [Act.put, List.setIfInBounds_toArray, List.set_cons_zero, List.set_cons_succ]
        refine wpAnyT_taked (i := 8) (d := 30) (v := ?_) rfl rfl (by kernel_rfl) (by kernel_rfl) (by kernel_rfl) (by kernel_rfl) rfl (fun _ _ _ h => h) (Or.inl ⟨by rfl, ?_⟩) (by assumption) ?_
        rotate_left 1
        · rintro w' ⟨hs0, hs1, hs2⟩
          go_simp
          try (with_reducible rfl)
        try simp only [Act.put, List.setIfInBounds_toArray, List.set_cons_zero, List.set_cons_succ]
        refine wpAnyT_taked (i := 9) (d := 31) (v := ?_) rfl rfl (by kernel_rfl) (by kernel_rfl) (by kernel_rfl) (by kernel_rfl) rfl (fun _ _ _ h => h) (Or.inl ⟨by rfl, ?_⟩) (by assumption) ?_
        rotate_left 1
        · rintro w' ⟨hs0, hs1, hs2⟩
          go_simp
          try (with_reducible rfl)
        try simp only [Act.put, List.setIfInBounds_toArray, List.set_cons_zero, List.set_cons_succ]
        refine wpAnyT_taked (i := 10) (d := 32) (v := ?_) rfl rfl (by kernel_rfl) (by kernel_rfl) (by kernel_rfl) (by kernel_rfl) rfl (fun _ _ _ h => h) (Or.inl ⟨by rfl, ?_⟩) (by assumption) ?_
        rotate_left 1
        · rintro w' ⟨hs0, hs1, hs2⟩
          go_simp
          try (with_reducible rfl)
        try simp only [Act.put, List.setIfInBounds_toArray, List.set_cons_zero, List.set_cons_succ]
        refine wpAnyT_taked (i := 11) (d := 33) (v := ?_) rfl rfl (by kernel_rfl) (by kernel_rfl) (by kernel_rfl) (by kernel_rfl) rfl (fun _ _ _ h => h) (Or.inl ⟨by rfl, ?_⟩) (by assumption) ?_
        rotate_left 1
        · rintro w' ⟨hs0, hs1, hs2⟩
          go_simp
          try (with_reducible rfl)
        try simp only [Act.put, List.setIfInBounds_toArray, List.set_cons_zero, List.set_cons_succ]
        refine wpAnyT_taked (i := 12) (d := 34) (v := ?_) rfl rfl (by kernel_rfl) (by kernel_rfl) (by kernel_rfl) (by kernel_rfl) rfl (fun _ _ _ h => h) (Or.inl ⟨by rfl, ?_⟩) (by assumption) ?_
        rotate_left 1
        · rintro w' ⟨hs0, hs1, hs2⟩
          go_simp
          try (with_reducible rfl)
        try simp only [Act.put, List.setIfInBounds_toArray, List.set_cons_zero, List.set_cons_succ]
        refine wpAnyT_taked (i := 13) (d := 35) (v := ?_) rfl rfl (by kernel_rfl) (by kernel_rfl) (by kernel_rfl) (by kernel_rfl) rfl (fun _ _ _ h => h) (Or.inl ⟨by rfl, ?_⟩) (by assumption) ?_
        rotate_left 1
        · rintro w' ⟨hs0, hs1, hs2⟩
          go_simp
          try (with_reducible rfl)
        try simp only [Act.put, List.setIfInBounds_toArray, List.set_cons_zero, List.set_cons_succ]
        refine wpAnyT_taked (i := 16) (d := 38) (v := ?_) rfl rfl (by kernel_rfl) (by kernel_rfl) (by kernel_rfl) (by kernel_rfl) rfl (fun _ _ _ h => h) (Or.inl ⟨by rfl, ?_⟩) (by assumption) ?_
        rotate_left 1
        · rintro w' ⟨hs0, hs1, hs2⟩
          go_simp
          try (with_reducible rfl)
        try simp only [Act.put, List.setIfInBounds_toArray, List.set_cons_zero, List.set_cons_succ]
        obtain ⟨wz, hwz⟩ : ∃ wz, wz = w1.drew := ⟨_, rfl⟩
        rw [← hwz] at hS0 ⊢
        have HFwz : Hid (Fr (fun _ => False) w1 wz) := (by rw [hwz]; exact (Fr.refl _ _).drew : Fr (fun _ => False) w1 wz)
        clear hwz
        refine wpAnyT_two (i := 5) (j := 15) (by kernel_rfl) rfl rfl (fun K hK => ?_) (fun K hK => ?_)
        · go_simp
          obtain ⟨wa, hewa, hnwa, hFwa, hswa⟩ := alloc1 wz (.cells #[] 33)
          rw [hewa]
          have HEa := Lib.hid hnwa
          have HFwa := Lib.hid (HFwz.out.trans hFwa (fun _ _ h => h))
          have HGwa := Lib.hid hFwa
          have hSwa := HS.out _ HFwa.out
          have HZwa : Hid (wz.heap.size = wz.heap.size ∧ w1.heap.size ≤ wz.heap.size) := ⟨rfl, HFwz.out.size⟩
          refine hK.out _ _ hSwa ?_
          clear hK K hewa hnwa hFwa hswa
          try simp only [Act.put, List.setIfInBounds_toArray, List.set_cons_zero, List.set_cons_succ]
          refine wpAnyT_two (i := 14) (j := 15) (by kernel_rfl) rfl rfl (fun K hK => ?_) (fun K hK => ?_)
          · have hLe : w1.heap.size ≤ wz.heap.size := HFwz.out.size
            refine step_appx rfl (.tmp 27) (.tmp 35) 50 rfl wz.heap.size 33 _ 1 24 Try.underlying50 head_info rfl (by decide) (.slice (some ⟨wz.heap.size, 0, none⟩) 0 0) 0 [] (by simp [Act.eval]) (own_up (own_empty 1 HEa.out rfl) (fun k hk => Nat.le_of_eq (Option.some.inj hk))) o.la m o.lc olds (by simp [Act.eval]) (by rw [OL1.out, ← HM.out, Nat.mul_one]) (fun ad e j u hu => cell_any0 HFwa.out (OL2.out ad e j u hu)) (fun e => by rw [HM.out, OL3.out e]; rfl) OL4.out (by have := HLE.out; simp [maxLen]; omega) (by have := HLE.out; omega) (Nat.le_of_lt (blk_lt HEa.out)) ?_
            intro vwb wb howb hgwb hmwb
            rw [Nat.zero_add, List.nil_append] at howb
            obtain ⟨Awb, cwb, rfl⟩ := own_slice howb
            have HFwb : Hid (Fr (fun _ => False) w1 wb) := HFwa.out.grown hgwb (fun k hk => .inl (by obtain rfl := Option.some.inj hk; exact hLe))
            have HGwb : Hid (Fr (fun q => q = wz.heap.size) wa wb) := (Fr.refl _ wa).grown hgwb (fun k hk => .inr (Option.some.inj hk).symm)
            have HOwb := Lib.hid (own_up (own_base howb) (fun k hk => Nat.le_trans hLe (howb.lt k hk).1) : wb.ownsRow w1.heap.size 33 1 (.slice Awb m cwb) m olds)
            have HXwb : Hid (∀ k, (Value.slice Awb m cwb).ownBlock = some k → k = wz.heap.size ∨ wa.heap.size ≤ k) := fun k hk => by
              rcases hmwb with e | e
              · rw [e] at hk; exact .inl (Option.some.inj hk).symm
              · rw [e] at hk; exact .inr (Nat.le_of_eq (Option.some.inj hk))
            have hSwb := HS.out _ HFwb.out
            refine hK.out _ _ hSwb ?_
            clear hK K howb hgwb hmwb
            try simp only [Act.put, List.setIfInBounds_toArray, List.set_cons_zero, List.set_cons_succ]
            clear hLe
            refine wpAnyT_one (i := 15) (by kernel_rfl) rfl rfl (fun K hK => ?_)
            go_simp
            obtain ⟨wc0, hewc0, hnwc0, hFwc0, hswc0⟩ := alloc1 wb (.cells #[] 5)
            rw [hewc0]
            have HEb := Lib.hid hnwc0
            have HFwc0 := Lib.hid (HFwb.out.trans hFwc0 (fun _ _ h => h))
            have HGwc0 := Lib.hid hFwc0
            have hSwc0 := HS.out _ HFwc0.out
            have HZwc0 : Hid (wb.heap.size = wb.heap.size ∧ w1.heap.size ≤ wb.heap.size) := ⟨rfl, HFwb.out.size⟩
            refine hK.out _ _ hSwc0 ?_
            clear hK K hewc0 hnwc0 hFwc0 hswc0
            try simp only [Act.put, List.setIfInBounds_toArray, List.set_cons_zero, List.set_cons_succ]
            obtain ⟨e37, he37⟩ : ∃ e, e = wb.heap.size := ⟨_, rfl⟩
            rw [← he37]
            obtain ⟨wc, hwc⟩ : ∃ wc, wc = wc0 := ⟨_, rfl⟩
            rw [← hwc]
            obtain ⟨A36, hA36⟩ : ∃ A36, A36 = Awb := ⟨_, rfl⟩
            rw [← hA36]
            obtain ⟨c36, hc36⟩ : ∃ c36, c36 = cwb := ⟨_, rfl⟩
            rw [← hc36]
            have HFC : Hid (Fr (fun _ => False) w1 wc) := (by rw [hwc]; exact HFwc0.out : Fr (fun _ => False) w1 wc)
            have HOC : Hid (wc.ownsRow w1.heap.size 33 1 (.slice A36 m c36) m olds) := (by rw [hwc, hA36, hc36]; exact HGwc0.out.own0 HOwb.out : wc.ownsRow w1.heap.size 33 1 (.slice A36 m c36) m olds)
            have HEC : Hid (wc.heap[e37]? = some (.cells #[] 5 (0, 0))) := (by rw [hwc, he37]; exact HEb.out : wc.heap[e37]? = some (.cells #[] 5 (0, 0)))
            have HLC : Hid (w1.heap.size ≤ e37) := (by rw [he37]; exact HFwb.out.size : w1.heap.size ≤ e37)
            clear hwc he37 hA36 hc36
            have hSC := HS.out _ HFC.out
            refine wpAnyT_one (i := 17) (by kernel_rfl) rfl rfl (fun K hK => ?_)
            obtain ⟨ad, rfl, hnews⟩ := (HR.out.fr HFC.out (fun _ _ _ h => h)).news (by rw [HN.out]; omega)
            refine step_app rfl (.tmp 37) (.tmp 38) 33 rfl e37 5 _ 1 1 Try.underlying33 byte_info rfl (by decide) (.slice (some ⟨e37, 0, none⟩) 0 0) 0 [] (by simp [Act.eval]) (own_up (own_empty 1 HEC.out rfl) (fun k hk => Nat.le_of_eq (Option.some.inj hk))) ad 128 c (by8 b) (by simp [Act.eval]) (by rw [by8_len, HN.out]) hnews (by8_one b) (by simp [maxLen]) (by omega) (Nat.le_of_lt (blk_lt HEC.out)) ?_
            intro vd wd hod hgd hmd
            rw [Nat.zero_add, List.nil_append] at hod
            obtain ⟨B, cB, rfl⟩ := own_slice hod
            have HFD : Hid (Fr (fun _ => False) w1 wd) := HFC.out.grown hgd (fun k hk => .inl (by obtain rfl := Option.some.inj hk; exact HLC.out))
            have hFcd : Fr (fun q => q = e37) wc wd := (Fr.refl _ wc).grown hgd (fun k hk => .inr (Option.some.inj hk).symm)
            have HOD : Hid (wd.ownsRow w1.heap.size 33 1 (.slice A36 m c36) m olds) := hFcd.own HOC.out (fun k hk e => own_ne HOC.out HEC.out (by decide) (by rw [← e]; exact hk.symm))
            have HBD : Hid (wd.ownsRow e37 5 1 (.slice B 128 cB) 128 (by8 b)) := hod
            refine hK.out _ _ (HS.out _ HFD.out) ?_
            clear hK K hod hgd hmd hFcd hnews hSC
            try simp only [Act.put, List.setIfInBounds_toArray, List.set_cons_zero, List.set_cons_succ]
            refine wpAnyT_one (i := 18) (by kernel_rfl) rfl rfl (fun K hK => ?_)
            go_simp
            obtain ⟨we, he, hne, hFe, hse⟩ := alloc1 wd (.cells #[.slice B 128 cB] 33)
            rw [he]
            have HFE := Lib.hid (HFD.out.trans hFe (fun _ _ h => h))
            have HOE := Lib.hid (hFe.own0 HOD.out)
            have HBE := Lib.hid (hFe.own0 HBD.out)
            have HNE := Lib.hid hne
            refine hK.out _ _ (HS.out _ HFE.out) ?_
            clear hK K he hne hFe hse
            try simp only [Act.put, List.setIfInBounds_toArray, List.set_cons_zero, List.set_cons_succ]
            refine wpAnyT_one (i := 19) (by kernel_rfl) rfl rfl (fun K hK => ?_)
            refine step_app rfl (.tmp 36) (.tmp 40) 50 rfl w1.heap.size 33 _ 1 24 Try.underlying50 head_info rfl (by decide) (.slice A36 m c36) m olds (by simp [Act.eval]) HOE.out ⟨wd.heap.size, 0, none⟩ 1 1 [.slice B 128 cB] (by simp [Act.eval]) rfl (news_of HNE.out) (by simp [Value.oneCell']) (by have := HLE.out; simp [maxLen]; omega) (by have := HLE.out; omega) HFE.out.size ?_
            intro vf wf hof hgf hmf
            obtain ⟨AF, cF, rfl⟩ := own_slice hof
            have hFef : Fr (fun q => (Value.slice A36 m c36).ownBlock = some q) we wf := (Fr.refl _ we).grown hgf (fun k hk => .inr hk)
            have HFF : Hid (Fr (fun _ => False) w1 wf) := HFE.out.grown hgf (fun k hk => .inl (HOE.out.lt k hk).1)
            have HBF : Hid (wf.ownsRow e37 5 1 (.slice B 128 cB) 128 (by8 b)) := hFef.own HBE.out (fun k hk e => by
              rcases HOE.out.2 with ⟨h1, _⟩ | ⟨g2, c2, cur, h1, _, h2, _⟩
              · rw [h1] at e; cases e
              · rw [h1] at e
                obtain rfl : g2 = k := Option.some.inj e
                exact own_ne HBE.out h2 (by decide) hk.symm)
            have HOF := Lib.hid hof
            have hSF := HS.out _ HFF.out
            have hfz : wf.frozen? ⟨sb, k * 2 + 1, none⟩ = false := blk_frozen (HFF.out.blk0 H1.out.row) _
            refine hK.out _ _ hSF ?_
            clear hK K hof hgf hmf hFef
            try simp only [Act.put, List.setIfInBounds_toArray, List.set_cons_zero, List.set_cons_succ]
            refine wpAnyT_one (i := 20) (by kernel_rfl) rfl rfl (fun K hK => ?_)
            go_simp
            refine hK.out _ _ hSF ?_
            clear hK K
            try simp only [Act.put, List.setIfInBounds_toArray, List.set_cons_zero, List.set_cons_succ]
            refine wpAnyT_one (i := 21) (by kernel_rfl) rfl rfl (fun K hK => ?_)
            go_simp
            refine hK.out _ _ hSF ?_
            clear hK K
            try simp only [Act.put, List.setIfInBounds_toArray, List.set_cons_zero, List.set_cons_succ]
            obtain ⟨hs0, hs1, hs2⟩ := hSF
            refine wpAnyT_last (by kernel_rfl) rfl (by kernel_rfl) (fun K hK => ?_)
            go_simp
            refine hK.out _ _ ?_
            clear hK K
            refine NoPanic.normal ?_
            have hin := H1.out.written HK.out HO.out (s := b) ⟨HN.out, HBB.out⟩ (HTL.out g HTG.out) (HTL.out sb HTS.out) (fun k hk => HTL.out k (HTU.out k hk)) HFF.out (olds := olds) (A := AF) (BA := B) (c := cF) (bc := cB) OL1.out (fun j x hx => OL5.out j x hx) (by rw [← HM.out]; exact HOF.out) (readV_in (w := w1) (by rw [HN.out]; exact HBF.out) HLC.out)
            rw [← HM.out] at hin
            have hFs : Fr T w1 (wf.setCell ⟨sb, k * 2 + 1, none⟩ (.slice AF (m + 1) cF)) := HFF.out.none.trans (S := T) (setg_fr (Fr.refl (fun q => q = sb) wf) _ _) (fun q _ e => by rw [e]; exact HTS.out)
            have hat : RdAt (wf.setCell ⟨sb, k * 2 + 1, none⟩ (.slice AF (m + 1) cF)) g (fun q => T q ∨ (w1.heap.size ≤ q ∧ q < wf.heap.size)) (d.wr k b) :=
              ⟨sb, _, _, hin, .inl HTG.out, .inl HTS.out, fun q hq => hq.imp (HTU.out q) (fun h => h), fun q hq => by
                show q < (wf.setCell _ _).heap.size
                rw [(by simp : (wf.setCell ⟨sb, k * 2 + 1, none⟩ (.slice AF (m + 1) cF)).heap.size = wf.heap.size)]
                rcases hq with hq | hq
                · have := HTL.out q hq; have := HFF.out.size; omega
                · exact hq.2⟩
            have HAT := Lib.hid hat
            have HFS := Lib.hid hFs
            have HDN2 : Hid ((d.wr k b).down = false) := HDN.out
            have HDO2 : Hid ((d.wr k b).done ≤ 1000000000) := HDO.out
            obtain ⟨wg, hwg⟩ : ∃ wg, wg = wf.setCell ⟨sb, k * 2 + 1, none⟩ (.slice AF (m + 1) cF) := ⟨_, rfl⟩
            rw [← hwg] at HAT HFS
            try rw [← hwg]
            clear hin hFs hat hs0 hs1 hs2 hfz HS hwg
            go_wp2_with fail
            refine (rdone_any HAT.out HDN2.out HDO2.out).mono ?_
            rintro e w8 ⟨rfl, hat8, hF8⟩
            have HAT8 := Lib.hid hat8
            have HF8 := Lib.hid hF8
            clear hat8 hF8
            go_wp2_with fail
            go_ret
            show RWritePost w1 g T (d.write k b) (d.writeE k b.length) _ _
            rw [HRW.out, HRE.out]
            exact ⟨rfl, _, HAT8.out, HFS.out.trans HF8.out (fun k _ e => by rw [e]; exact HTG.out), fun k hk => hk.imp (fun h => h) (fun h => h.1)⟩
          · go_simp
            obtain ⟨wb, hewb, hnwb, hFwb, hswb⟩ := alloc1 wa (.cells #[] 5)
            rw [hewb]
            have HEb := Lib.hid hnwb
            have HFwb := Lib.hid (HFwa.out.trans hFwb (fun _ _ h => h))
            have HGwb := Lib.hid hFwb
            have hSwb := HS.out _ HFwb.out
            have HZwb : Hid (wa.heap.size = wa.heap.size ∧ w1.heap.size ≤ wa.heap.size) := ⟨rfl, HFwa.out.size⟩
            refine hK.out _ _ hSwb ?_
            clear hK K hewb hnwb hFwb hswb
            try simp only [Act.put, List.setIfInBounds_toArray, List.set_cons_zero, List.set_cons_succ]
            refine wpAnyT_one (i := 14) (by kernel_rfl) rfl rfl (fun K hK => ?_)
            have hLe : w1.heap.size ≤ wz.heap.size := HFwz.out.size
            refine step_appx rfl (.tmp 27) (.tmp 35) 50 rfl wz.heap.size 33 _ 1 24 Try.underlying50 head_info rfl (by decide) (.slice (some ⟨wz.heap.size, 0, none⟩) 0 0) 0 [] (by simp [Act.eval]) (own_up (own_empty 1 (HGwb.out.blk0 HEa.out) rfl) (fun k hk => Nat.le_of_eq (Option.some.inj hk))) o.la m o.lc olds (by simp [Act.eval]) (by rw [OL1.out, ← HM.out, Nat.mul_one]) (fun ad e j u hu => cell_any0 HFwb.out (OL2.out ad e j u hu)) (fun e => by rw [HM.out, OL3.out e]; rfl) OL4.out (by have := HLE.out; simp [maxLen]; omega) (by have := HLE.out; omega) (Nat.le_of_lt (blk_lt (HGwb.out.blk0 HEa.out))) ?_
            intro vwc0 wc0 howc0 hgwc0 hmwc0
            rw [Nat.zero_add, List.nil_append] at howc0
            obtain ⟨Awc0, cwc0, rfl⟩ := own_slice howc0
            have HFwc0 : Hid (Fr (fun _ => False) w1 wc0) := HFwb.out.grown hgwc0 (fun k hk => .inl (by obtain rfl := Option.some.inj hk; exact hLe))
            have HGwc0 : Hid (Fr (fun q => q = wz.heap.size) wb wc0) := (Fr.refl _ wb).grown hgwc0 (fun k hk => .inr (Option.some.inj hk).symm)
            have HOwc0 := Lib.hid (own_up (own_base howc0) (fun k hk => Nat.le_trans hLe (howc0.lt k hk).1) : wc0.ownsRow w1.heap.size 33 1 (.slice Awc0 m cwc0) m olds)
            have HXwc0 : Hid (∀ k, (Value.slice Awc0 m cwc0).ownBlock = some k → k = wz.heap.size ∨ wb.heap.size ≤ k) := fun k hk => by
              rcases hmwc0 with e | e
              · rw [e] at hk; exact .inl (Option.some.inj hk).symm
              · rw [e] at hk; exact .inr (Nat.le_of_eq (Option.some.inj hk))
            have hSwc0 := HS.out _ HFwc0.out
            refine hK.out _ _ hSwc0 ?_
            clear hK K howc0 hgwc0 hmwc0
            try simp only [Act.put, List.setIfInBounds_toArray, List.set_cons_zero, List.set_cons_succ]
            clear hLe
            obtain ⟨e37, he37⟩ : ∃ e, e = wa.heap.size := ⟨_, rfl⟩
            rw [← he37]
            obtain ⟨wc, hwc⟩ : ∃ wc, wc = wc0 := ⟨_, rfl⟩
            rw [← hwc]
            obtain ⟨A36, hA36⟩ : ∃ A36, A36 = Awc0 := ⟨_, rfl⟩
            rw [← hA36]
            obtain ⟨c36, hc36⟩ : ∃ c36, c36 = cwc0 := ⟨_, rfl⟩
            rw [← hc36]
            have HFC : Hid (Fr (fun _ => False) w1 wc) := (by rw [hwc]; exact HFwc0.out : Fr (fun _ => False) w1 wc)
            have HOC : Hid (wc.ownsRow w1.heap.size 33 1 (.slice A36 m c36) m olds) := (by rw [hwc, hA36, hc36]; exact HOwc0.out : wc.ownsRow w1.heap.size 33 1 (.slice A36 m c36) m olds)
            have HEC : Hid (wc.heap[e37]? = some (.cells #[] 5 (0, 0))) := (by rw [hwc, he37]; exact HGwc0.out.blk HEb.out (by have := blk_lt HEa.out; omega) : wc.heap[e37]? = some (.cells #[] 5 (0, 0)))
            have HLC : Hid (w1.heap.size ≤ e37) := (by rw [he37]; exact HFwa.out.size : w1.heap.size ≤ e37)
            clear hwc he37 hA36 hc36
            have hSC := HS.out _ HFC.out
            refine wpAnyT_one (i := 17) (by kernel_rfl) rfl rfl (fun K hK => ?_)
            obtain ⟨ad, rfl, hnews⟩ := (HR.out.fr HFC.out (fun _ _ _ h => h)).news (by rw [HN.out]; omega)
            refine step_app rfl (.tmp 37) (.tmp 38) 33 rfl e37 5 _ 1 1 Try.underlying33 byte_info rfl (by decide) (.slice (some ⟨e37, 0, none⟩) 0 0) 0 [] (by simp [Act.eval]) (own_up (own_empty 1 HEC.out rfl) (fun k hk => Nat.le_of_eq (Option.some.inj hk))) ad 128 c (by8 b) (by simp [Act.eval]) (by rw [by8_len, HN.out]) hnews (by8_one b) (by simp [maxLen]) (by omega) (Nat.le_of_lt (blk_lt HEC.out)) ?_
            intro vd wd hod hgd hmd
            rw [Nat.zero_add, List.nil_append] at hod
            obtain ⟨B, cB, rfl⟩ := own_slice hod
            have HFD : Hid (Fr (fun _ => False) w1 wd) := HFC.out.grown hgd (fun k hk => .inl (by obtain rfl := Option.some.inj hk; exact HLC.out))
            have hFcd : Fr (fun q => q = e37) wc wd := (Fr.refl _ wc).grown hgd (fun k hk => .inr (Option.some.inj hk).symm)
            have HOD : Hid (wd.ownsRow w1.heap.size 33 1 (.slice A36 m c36) m olds) := hFcd.own HOC.out (fun k hk e => own_ne HOC.out HEC.out (by decide) (by rw [← e]; exact hk.symm))
            have HBD : Hid (wd.ownsRow e37 5 1 (.slice B 128 cB) 128 (by8 b)) := hod
            refine hK.out _ _ (HS.out _ HFD.out) ?_
            clear hK K hod hgd hmd hFcd hnews hSC
            try simp only [Act.put, List.setIfInBounds_toArray, List.set_cons_zero, List.set_cons_succ]
            refine wpAnyT_one (i := 18) (by kernel_rfl) rfl rfl (fun K hK => ?_)
            go_simp
            obtain ⟨we, he, hne, hFe, hse⟩ := alloc1 wd (.cells #[.slice B 128 cB] 33)
            rw [he]
            have HFE := Lib.hid (HFD.out.trans hFe (fun _ _ h => h))
            have HOE := Lib.hid (hFe.own0 HOD.out)
            have HBE := Lib.hid (hFe.own0 HBD.out)
            have HNE := Lib.hid hne
            refine hK.out _ _ (HS.out _ HFE.out) ?_
            clear hK K he hne hFe hse
            try simp only [Act.put, List.setIfInBounds_toArray, List.set_cons_zero, List.set_cons_succ]
            refine wpAnyT_one (i := 19) (by kernel_rfl) rfl rfl (fun K hK => ?_)
            refine step_app rfl (.tmp 36) (.tmp 40) 50 rfl w1.heap.size 33 _ 1 24 Try.underlying50 head_info rfl (by decide) (.slice A36 m c36) m olds (by simp [Act.eval]) HOE.out ⟨wd.heap.size, 0, none⟩ 1 1 [.slice B 128 cB] (by simp [Act.eval]) rfl (news_of HNE.out) (by simp [Value.oneCell']) (by have := HLE.out; simp [maxLen]; omega) (by have := HLE.out; omega) HFE.out.size ?_
            intro vf wf hof hgf hmf
            obtain ⟨AF, cF, rfl⟩ := own_slice hof
            have hFef : Fr (fun q => (Value.slice A36 m c36).ownBlock = some q) we wf := (Fr.refl _ we).grown hgf (fun k hk => .inr hk)
            have HFF : Hid (Fr (fun _ => False) w1 wf) := HFE.out.grown hgf (fun k hk => .inl (HOE.out.lt k hk).1)
            have HBF : Hid (wf.ownsRow e37 5 1 (.slice B 128 cB) 128 (by8 b)) := hFef.own HBE.out (fun k hk e => by
              rcases HOE.out.2 with ⟨h1, _⟩ | ⟨g2, c2, cur, h1, _, h2, _⟩
              · rw [h1] at e; cases e
              · rw [h1] at e
                obtain rfl : g2 = k := Option.some.inj e
                exact own_ne HBE.out h2 (by decide) hk.symm)
            have HOF := Lib.hid hof
            have hSF := HS.out _ HFF.out
            have hfz : wf.frozen? ⟨sb, k * 2 + 1, none⟩ = false := blk_frozen (HFF.out.blk0 H1.out.row) _
            refine hK.out _ _ hSF ?_
            clear hK K hof hgf hmf hFef
            try simp only [Act.put, List.setIfInBounds_toArray, List.set_cons_zero, List.set_cons_succ]
            refine wpAnyT_one (i := 20) (by kernel_rfl) rfl rfl (fun K hK => ?_)
            go_simp
            refine hK.out _ _ hSF ?_
            clear hK K
            try simp only [Act.put, List.setIfInBounds_toArray, List.set_cons_zero, List.set_cons_succ]
            refine wpAnyT_one (i := 21) (by kernel_rfl) rfl rfl (fun K hK => ?_)
            go_simp
            refine hK.out _ _ hSF ?_
            clear hK K
            try simp only [Act.put, List.setIfInBounds_toArray, List.set_cons_zero, List.set_cons_succ]
            obtain ⟨hs0, hs1, hs2⟩ := hSF
            refine wpAnyT_last (by kernel_rfl) rfl (by kernel_rfl) (fun K hK => ?_)
            go_simp
            refine hK.out _ _ ?_
            clear hK K
            refine NoPanic.normal ?_
            have hin := H1.out.written HK.out HO.out (s := b) ⟨HN.out, HBB.out⟩ (HTL.out g HTG.out) (HTL.out sb HTS.out) (fun k hk => HTL.out k (HTU.out k hk)) HFF.out (olds := olds) (A := AF) (BA := B) (c := cF) (bc := cB) OL1.out (fun j x hx => OL5.out j x hx) (by rw [← HM.out]; exact HOF.out) (readV_in (w := w1) (by rw [HN.out]; exact HBF.out) HLC.out)
            rw [← HM.out] at hin
            have hFs : Fr T w1 (wf.setCell ⟨sb, k * 2 + 1, none⟩ (.slice AF (m + 1) cF)) := HFF.out.none.trans (S := T) (setg_fr (Fr.refl (fun q => q = sb) wf) _ _) (fun q _ e => by rw [e]; exact HTS.out)
            have hat : RdAt (wf.setCell ⟨sb, k * 2 + 1, none⟩ (.slice AF (m + 1) cF)) g (fun q => T q ∨ (w1.heap.size ≤ q ∧ q < wf.heap.size)) (d.wr k b) :=
              ⟨sb, _, _, hin, .inl HTG.out, .inl HTS.out, fun q hq => hq.imp (HTU.out q) (fun h => h), fun q hq => by
                show q < (wf.setCell _ _).heap.size
                rw [(by simp : (wf.setCell ⟨sb, k * 2 + 1, none⟩ (.slice AF (m + 1) cF)).heap.size = wf.heap.size)]
                rcases hq with hq | hq
                · have := HTL.out q hq; have := HFF.out.size; omega
                · exact hq.2⟩
            have HAT := Lib.hid hat
            have HFS := Lib.hid hFs
            have HDN2 : Hid ((d.wr k b).down = false) := HDN.out
            have HDO2 : Hid ((d.wr k b).done ≤ 1000000000) := HDO.out
            obtain ⟨wg, hwg⟩ : ∃ wg, wg = wf.setCell ⟨sb, k * 2 + 1, none⟩ (.slice AF (m + 1) cF) := ⟨_, rfl⟩
            rw [← hwg] at HAT HFS
            try rw [← hwg]
            clear hin hFs hat hs0 hs1 hs2 hfz HS hwg
            go_wp2_with fail
            refine (rdone_any HAT.out HDN2.out HDO2.out).mono ?_
            rintro e w8 ⟨rfl, hat8, hF8⟩
            have HAT8 := Lib.hid hat8
            have HF8 := Lib.hid hF8
            clear hat8 hF8
            go_wp2_with fail
            go_ret
            show RWritePost w1 g T (d.write k b) (d.writeE k b.length) _ _
            rw [HRW.out, HRE.out]
            exact ⟨rfl, _, HAT8.out, HFS.out.trans HF8.out (fun k _ e => by rw [e]; exact HTG.out), fun k hk => hk.imp (fun h => h) (fun h => h.1)⟩
        · go_simp
          obtain ⟨wa, hewa, hnwa, hFwa, hswa⟩ := alloc1 wz (.cells #[] 5)
          rw [hewa]
          have HEa := Lib.hid hnwa
          have HFwa := Lib.hid (HFwz.out.trans hFwa (fun _ _ h => h))
          have HGwa := Lib.hid hFwa
          have hSwa := HS.out _ HFwa.out
          have HZwa : Hid (wz.heap.size = wz.heap.size ∧ w1.heap.size ≤ wz.heap.size) := ⟨rfl, HFwz.out.size⟩
          refine hK.out _ _ hSwa ?_
          clear hK K hewa hnwa hFwa hswa
          try simp only [Act.put, List.setIfInBounds_toArray, List.set_cons_zero, List.set_cons_succ]
          refine wpAnyT_one (i := 5) (by kernel_rfl) rfl rfl (fun K hK => ?_)
          go_simp
          obtain ⟨wb, hewb, hnwb, hFwb, hswb⟩ := alloc1 wa (.cells #[] 33)
          rw [hewb]
          have HEb := Lib.hid hnwb
          have HFwb := Lib.hid (HFwa.out.trans hFwb (fun _ _ h => h))
          have HGwb := Lib.hid hFwb
          have hSwb := HS.out _ HFwb.out
          have HZwb : Hid (wa.heap.size = wa.heap.size ∧ w1.heap.size ≤ wa.heap.size) := ⟨rfl, HFwa.out.size⟩
          refine hK.out _ _ hSwb ?_
          clear hK K hewb hnwb hFwb hswb
          try simp only [Act.put, List.setIfInBounds_toArray, List.set_cons_zero, List.set_cons_succ]
          refine wpAnyT_one (i := 14) (by kernel_rfl) rfl rfl (fun K hK => ?_)
          have hLe : w1.heap.size ≤ wa.heap.size := HFwa.out.size
          refine step_appx rfl (.tmp 27) (.tmp 35) 50 rfl wa.heap.size 33 _ 1 24 Try.underlying50 head_info rfl (by decide) (.slice (some ⟨wa.heap.size, 0, none⟩) 0 0) 0 [] (by simp [Act.eval]) (own_up (own_empty 1 HEb.out rfl) (fun k hk => Nat.le_of_eq (Option.some.inj hk))) o.la m o.lc olds (by simp [Act.eval]) (by rw [OL1.out, ← HM.out, Nat.mul_one]) (fun ad e j u hu => cell_any0 HFwb.out (OL2.out ad e j u hu)) (fun e => by rw [HM.out, OL3.out e]; rfl) OL4.out (by have := HLE.out; simp [maxLen]; omega) (by have := HLE.out; omega) (Nat.le_of_lt (blk_lt HEb.out)) ?_
          intro vwc0 wc0 howc0 hgwc0 hmwc0
          rw [Nat.zero_add, List.nil_append] at howc0
          obtain ⟨Awc0, cwc0, rfl⟩ := own_slice howc0
          have HFwc0 : Hid (Fr (fun _ => False) w1 wc0) := HFwb.out.grown hgwc0 (fun k hk => .inl (by obtain rfl := Option.some.inj hk; exact hLe))
          have HGwc0 : Hid (Fr (fun q => q = wa.heap.size) wb wc0) := (Fr.refl _ wb).grown hgwc0 (fun k hk => .inr (Option.some.inj hk).symm)
          have HOwc0 := Lib.hid (own_up (own_base howc0) (fun k hk => Nat.le_trans hLe (howc0.lt k hk).1) : wc0.ownsRow w1.heap.size 33 1 (.slice Awc0 m cwc0) m olds)
          have HXwc0 : Hid (∀ k, (Value.slice Awc0 m cwc0).ownBlock = some k → k = wa.heap.size ∨ wb.heap.size ≤ k) := fun k hk => by
            rcases hmwc0 with e | e
            · rw [e] at hk; exact .inl (Option.some.inj hk).symm
            · rw [e] at hk; exact .inr (Nat.le_of_eq (Option.some.inj hk))
          have hSwc0 := HS.out _ HFwc0.out
          refine hK.out _ _ hSwc0 ?_
          clear hK K howc0 hgwc0 hmwc0
          try simp only [Act.put, List.setIfInBounds_toArray, List.set_cons_zero, List.set_cons_succ]
          clear hLe
          obtain ⟨e37, he37⟩ : ∃ e, e = wz.heap.size := ⟨_, rfl⟩
          rw [← he37]
          obtain ⟨wc, hwc⟩ : ∃ wc, wc = wc0 := ⟨_, rfl⟩
          rw [← hwc]
          obtain ⟨A36, hA36⟩ : ∃ A36, A36 = Awc0 := ⟨_, rfl⟩
          rw [← hA36]
          obtain ⟨c36, hc36⟩ : ∃ c36, c36 = cwc0 := ⟨_, rfl⟩
          rw [← hc36]
          have HFC : Hid (Fr (fun _ => False) w1 wc) := (by rw [hwc]; exact HFwc0.out : Fr (fun _ => False) w1 wc)
          have HOC : Hid (wc.ownsRow w1.heap.size 33 1 (.slice A36 m c36) m olds) := (by rw [hwc, hA36, hc36]; exact HOwc0.out : wc.ownsRow w1.heap.size 33 1 (.slice A36 m c36) m olds)
          have HEC : Hid (wc.heap[e37]? = some (.cells #[] 5 (0, 0))) := (by rw [hwc, he37]; exact HGwc0.out.blk (HGwb.out.blk0 HEa.out) (by have := blk_lt HEa.out; omega) : wc.heap[e37]? = some (.cells #[] 5 (0, 0)))
          have HLC : Hid (w1.heap.size ≤ e37) := (by rw [he37]; exact HFwz.out.size : w1.heap.size ≤ e37)
          clear hwc he37 hA36 hc36
          have hSC := HS.out _ HFC.out
          refine wpAnyT_one (i := 17) (by kernel_rfl) rfl rfl (fun K hK => ?_)
          obtain ⟨ad, rfl, hnews⟩ := (HR.out.fr HFC.out (fun _ _ _ h => h)).news (by rw [HN.out]; omega)
          refine step_app rfl (.tmp 37) (.tmp 38) 33 rfl e37 5 _ 1 1 Try.underlying33 byte_info rfl (by decide) (.slice (some ⟨e37, 0, none⟩) 0 0) 0 [] (by simp [Act.eval]) (own_up (own_empty 1 HEC.out rfl) (fun k hk => Nat.le_of_eq (Option.some.inj hk))) ad 128 c (by8 b) (by simp [Act.eval]) (by rw [by8_len, HN.out]) hnews (by8_one b) (by simp [maxLen]) (by omega) (Nat.le_of_lt (blk_lt HEC.out)) ?_
          intro vd wd hod hgd hmd
          rw [Nat.zero_add, List.nil_append] at hod
          obtain ⟨B, cB, rfl⟩ := own_slice hod
          have HFD : Hid (Fr (fun _ => False) w1 wd) := HFC.out.grown hgd (fun k hk => .inl (by obtain rfl := Option.some.inj hk; exact HLC.out))
          have hFcd : Fr (fun q => q = e37) wc wd := (Fr.refl _ wc).grown hgd (fun k hk => .inr (Option.some.inj hk).symm)
          have HOD : Hid (wd.ownsRow w1.heap.size 33 1 (.slice A36 m c36) m olds) := hFcd.own HOC.out (fun k hk e => own_ne HOC.out HEC.out (by decide) (by rw [← e]; exact hk.symm))
          have HBD : Hid (wd.ownsRow e37 5 1 (.slice B 128 cB) 128 (by8 b)) := hod
          refine hK.out _ _ (HS.out _ HFD.out) ?_
          clear hK K hod hgd hmd hFcd hnews hSC
          try simp only [Act.put, List.setIfInBounds_toArray, List.set_cons_zero, List.set_cons_succ]
          refine wpAnyT_one (i := 18) (by kernel_rfl) rfl rfl (fun K hK => ?_)
          go_simp
          obtain ⟨we, he, hne, hFe, hse⟩ := alloc1 wd (.cells #[.slice B 128 cB] 33)
          rw [he]
          have HFE := Lib.hid (HFD.out.trans hFe (fun _ _ h => h))
          have HOE := Lib.hid (hFe.own0 HOD.out)
          have HBE := Lib.hid (hFe.own0 HBD.out)
          have HNE := Lib.hid hne
          refine hK.out _ _ (HS.out _ HFE.out) ?_
          clear hK K he hne hFe hse
          try simp only [Act.put, List.setIfInBounds_toArray, List.set_cons_zero, List.set_cons_succ]
          refine wpAnyT_one (i := 19) (by kernel_rfl) rfl rfl (fun K hK => ?_)
          refine step_app rfl (.tmp 36) (.tmp 40) 50 rfl w1.heap.size 33 _ 1 24 Try.underlying50 head_info rfl (by decide) (.slice A36 m c36) m olds (by simp [Act.eval]) HOE.out ⟨wd.heap.size, 0, none⟩ 1 1 [.slice B 128 cB] (by simp [Act.eval]) rfl (news_of HNE.out) (by simp [Value.oneCell']) (by have := HLE.out; simp [maxLen]; omega) (by have := HLE.out; omega) HFE.out.size ?_
          intro vf wf hof hgf hmf
          obtain ⟨AF, cF, rfl⟩ := own_slice hof
          have hFef : Fr (fun q => (Value.slice A36 m c36).ownBlock = some q) we wf := (Fr.refl _ we).grown hgf (fun k hk => .inr hk)
          have HFF : Hid (Fr (fun _ => False) w1 wf) := HFE.out.grown hgf (fun k hk => .inl (HOE.out.lt k hk).1)
          have HBF : Hid (wf.ownsRow e37 5 1 (.slice B 128 cB) 128 (by8 b)) := hFef.own HBE.out (fun k hk e => by
            rcases HOE.out.2 with ⟨h1, _⟩ | ⟨g2, c2, cur, h1, _, h2, _⟩
            · rw [h1] at e; cases e
            · rw [h1] at e
              obtain rfl : g2 = k := Option.some.inj e
              exact own_ne HBE.out h2 (by decide) hk.symm)
          have HOF := Lib.hid hof
          have hSF := HS.out _ HFF.out
          have hfz : wf.frozen? ⟨sb, k * 2 + 1, none⟩ = false := blk_frozen (HFF.out.blk0 H1.out.row) _
          refine hK.out _ _ hSF ?_
          clear hK K hof hgf hmf hFef
          try simp only [Act.put, List.setIfInBounds_toArray, List.set_cons_zero, List.set_cons_succ]
          refine wpAnyT_one (i := 20) (by kernel_rfl) rfl rfl (fun K hK => ?_)
          go_simp
          refine hK.out _ _ hSF ?_
          clear hK K
          try simp only [Act.put, List.setIfInBounds_toArray, List.set_cons_zero, List.set_cons_succ]
          refine wpAnyT_one (i := 21) (by kernel_rfl) rfl rfl (fun K hK => ?_)
          go_simp
          refine hK.out _ _ hSF ?_
          clear hK K
          try simp only [Act.put, List.setIfInBounds_toArray, List.set_cons_zero, List.set_cons_succ]
          obtain ⟨hs0, hs1, hs2⟩ := hSF
          refine wpAnyT_last (by kernel_rfl) rfl (by kernel_rfl) (fun K hK => ?_)
          go_simp
          refine hK.out _ _ ?_
          clear hK K
          refine NoPanic.normal ?_
          have hin := H1.out.written HK.out HO.out (s := b) ⟨HN.out, HBB.out⟩ (HTL.out g HTG.out) (HTL.out sb HTS.out) (fun k hk => HTL.out k (HTU.out k hk)) HFF.out (olds := olds) (A := AF) (BA := B) (c := cF) (bc := cB) OL1.out (fun j x hx => OL5.out j x hx) (by rw [← HM.out]; exact HOF.out) (readV_in (w := w1) (by rw [HN.out]; exact HBF.out) HLC.out)
          rw [← HM.out] at hin
          have hFs : Fr T w1 (wf.setCell ⟨sb, k * 2 + 1, none⟩ (.slice AF (m + 1) cF)) := HFF.out.none.trans (S := T) (setg_fr (Fr.refl (fun q => q = sb) wf) _ _) (fun q _ e => by rw [e]; exact HTS.out)
          have hat : RdAt (wf.setCell ⟨sb, k * 2 + 1, none⟩ (.slice AF (m + 1) cF)) g (fun q => T q ∨ (w1.heap.size ≤ q ∧ q < wf.heap.size)) (d.wr k b) :=
            ⟨sb, _, _, hin, .inl HTG.out, .inl HTS.out, fun q hq => hq.imp (HTU.out q) (fun h => h), fun q hq => by
              show q < (wf.setCell _ _).heap.size
              rw [(by simp : (wf.setCell ⟨sb, k * 2 + 1, none⟩ (.slice AF (m + 1) cF)).heap.size = wf.heap.size)]
              rcases hq with hq | hq
              · have := HTL.out q hq; have := HFF.out.size; omega
              · exact hq.2⟩
          have HAT := Lib.hid hat
          have HFS := Lib.hid hFs
          have HDN2 : Hid ((d.wr k b).down = false) := HDN.out
          have HDO2 : Hid ((d.wr k b).done ≤ 1000000000) := HDO.out
          obtain ⟨wg, hwg⟩ : ∃ wg, wg = wf.setCell ⟨sb, k * 2 + 1, none⟩ (.slice AF (m + 1) cF) := ⟨_, rfl⟩
          rw [← hwg] at HAT HFS
          try rw [← hwg]
          clear hin hFs hat hs0 hs1 hs2 hfz HS hwg
          go_wp2_with fail
          refine (rdone_any HAT.out HDN2.out HDO2.out).mono ?_
          rintro e w8 ⟨rfl, hat8, hF8⟩
          have HAT8 := Lib.hid hat8
          have HF8 := Lib.hid hF8
          clear hat8 hF8
          go_wp2_with fail
          go_ret
          show RWritePost w1 g T (d.write k b) (d.writeE k b.length) _ _
          rw [HRW.out, HRE.out]
          exact ⟨rfl, _, HAT8.out, HFS.out.trans HF8.out (fun k _ e => by rw [e]; exact HTG.out), fun k hk => hk.imp (fun h => h) (fun h => h.1)⟩
      · have hni : ¬ (b.length : Int) = 128 := by omega
        have HE := Lib.hid (HSAME.out 1 (by unfold Dk.writeE; rw [HDN.out, if_neg (by simp), if_pos HI.out, if_neg hn]) (by omega))
        clear hn
        generalize b.length = bn at *
        go_wp2_with fail
        go_ret
        exact HE.out
    · have hbb : (decide (0 ≤ i) && decide (i < d.F.length)) = false := by simp; omega
      rw [hbb]
      have HE := Lib.hid (HSAME.out 5 (by unfold Dk.writeE; rw [HDN.out, if_neg (by simp), if_neg hi]) (by omega))
      clear hi hbb
      go_wp2_with fail
      go_ret
      exact HE.out
end Go.Proofs.Ytdamegjhdopfaaa
