/- The document's Peer: Hear of an ack. -/
import Derived.Test.YtedmhhllkkgbjaaPe18
namespace Go.Proofs.Ytedmhhllkkgbjaa
open Go.RowKit Go.WideShapes
set_option linter.unusedSimpArgs false
set_option linter.unusedVariables false

/-- the block of a row of one's own -/
theorem own_blk {w : World} {B n c len g o : Nat} {e : TypeId} {size : Nat} {xs : List Value} (h : w.ownsRow B e size (.slice (some ⟨g, o, none⟩) n c) len xs) : ∃ cs : Array Value, w.heap[g]? = some (.cells cs e (0, 0)) ∧ o = 0 := by
  rcases h.2 with ⟨hv, _⟩ | ⟨g2, c2, cur, hv, hB, hh, _⟩
  · cases hv
  · simp only [Value.slice.injEq, Option.some.injEq, Addr.mk.injEq, and_true] at hv
    obtain ⟨⟨rfl, rfl⟩, rfl, rfl⟩ := hv
    exact ⟨_, hh, rfl⟩
theorem own_some {w : World} {B n c len : Nat} {A : Option Addr} {e : TypeId} {size : Nat} {xs : List Value} (h : w.ownsRow B e size (.slice A n c) len xs) (hp : 0 < len) : ∃ g, A = some ⟨g, 0, none⟩ := by
  rcases h.2 with ⟨_, h1⟩ | ⟨g2, c2, cur, hv, _⟩
  · omega
  · simp only [Value.slice.injEq] at hv
    exact ⟨g2, hv.1⟩
theorem ack_read {w : World} {g s : Nat} {cs : Array Value} {L : List (Msg × Bool)} (h : w.heap[g]? = some (.cells cs 129 (0, 0))) (hR : ReadO w (some ⟨g, 0, none⟩) L) : ReadO (w.setCell ⟨g, s * 6 + 5, none⟩ (.bool true)) (some ⟨g, 0, none⟩) (L.modify s (fun x => (x.1, true))) := by
  intro i x hx
  refine ⟨g, 0, rfl, fun j u hu => ?_⟩
  rw [Nat.zero_add]
  have hj : j < 6 := (List.getElem?_eq_some_iff.1 hu).1
  rw [blk_cell (blk_set h _ _), Array.getElem?_setIfInBounds]
  rw [List.getElem?_modify] at hx
  obtain ⟨y, hy⟩ : ∃ y, L[i]? = some y := by
    cases hc : L[i]? with
    | none => rw [hc] at hx; simp at hx
    | some y => exact ⟨y, rfl⟩
  obtain ⟨g2, o2, e2, hc⟩ := hR i y hy
  cases e2
  rw [Nat.zero_add] at hc
  have hcell : ∀ (j : Nat) (u : Value), (ocells y)[j]? = some u → cs[i * 6 + j]? = some u := fun j u hu => by rw [← blk_cell h]; exact hc j u hu
  by_cases his : s = i
  · subst his
    rw [hy] at hx
    simp at hx
    subst hx
    by_cases hj5 : j = 5
    · subst hj5
      have h5 := hcell 5 _ rfl
      have hlt : s * 6 + 5 < cs.size := (Array.getElem?_eq_some_iff.1 h5).1
      simp [hlt]
      simpa [ocells] using hu
    · rw [if_neg (by omega)]
      refine hcell j u ?_
      rw [← hu]
      match j, hj, hj5 with
      | 0, _, _ => rfl
      | 1, _, _ => rfl
      | 2, _, _ => rfl
      | 3, _, _ => rfl
      | 4, _, _ => rfl
      | 5, _, h => exact absurd rfl h
  · rw [if_neg (by omega)]
    rw [hy] at hx
    simp [his] at hx
    subst hx
    exact hcell j u hu
def RAckPost (w : World) (n : Int) (L : List (Msg × Bool)) (GA : Option Addr) (gn gc : Nat) (s : Int) (e : Ending) (w' : World) : Prop :=
  ∃ A c, RDeafPost w (rpeer n A L.length c GA gn gc) e w' ∧ ReadO w' A (ackL L s) ∧ (∀ g o, A = some ⟨g, o, none⟩ → w.heap.size ≤ g)

set_option maxRecDepth 100000 in
set_option maxHeartbeats 4000000 in
theorem rhear_ack (w : World) (n : Int) (LA GA : Option Addr) (lc gn gc : Nat) (L : List (Msg × Bool)) (m : Msg) (hp : m.peer = n) (hs : 0 ≤ m.seq) (hk : m.kind = 2) (hf : m.seq < (L.length : Int)) (hl : L.length ≤ 1000000) (hR : ReadO w LA L) :
    Calls Try.prog 43 #[.agg #[.int .i64 n, .slice LA L.length lc, .slice GA gn gc], .agg #[.int .i64 m.kind, .int .i64 m.peer, .int .i64 m.seq, .string m.key, .int .i64 m.n]] w (RAckPost w n L GA gn gc m.seq) := by
  obtain ⟨mk, mp, ms, mt, mn⟩ := m
  simp only at *
  have hpb : (mp != n) = false := by simpa using hp
  have hk2 : (mk == 2) = true := by simpa using hk
  clear hp hk
  have hs' : ¬ ms < 0 := by omega
  obtain ⟨s, rfl⟩ : ∃ s : Nat, ms = s := ⟨ms.toNat, by omega⟩
  clear hs
  have hsl : s < L.length := by omega
  have hsl' : s < L.length := by omega
  obtain ⟨w2, he, hn1, hnm, hn2, hn3, hF, hsz⟩ := alloc4 w (.cells #[.int .i64 n, .slice LA L.length lc, .slice GA gn gc] 79) (.cells #[.int .i64 mk, .int .i64 mp, .int .i64 s, .string mt, .int .i64 mn] 71) (.cells #[.int .i64 0, .slice none 0 0, .slice none 0 0] 79) (.cells #[.int .i64 0, .int .i64 0, .int .i64 0, .string ⟨#[]⟩, .int .i64 0] 71)
  have HE := Lib.hid he
  have HF := Lib.hid hF
  have HN1 := Lib.hid hn1
  have HNM := Lib.hid hnm
  have HN2 := Lib.hid hn2
  have HN3 := Lib.hid hn3
  have HSZ := Lib.hid hsz
  clear he hF hsz hn1 hn2 hn3 hnm
  have HRO := Lib.hid (hR.fr HF.out (fun _ _ _ h => h))
  clear hR
  go_enter Try.func43, Try.ntmps43
  go_upto_region 1 with (fail)
  rw [HE.out]
  obtain ⟨m0, hm0⟩ : ∃ m0, m0 = w.heap.size + 1 := ⟨_, rfl⟩
  obtain ⟨b1, hb1⟩ : ∃ b1, b1 = w.heap.size + 1 + 1 := ⟨_, rfl⟩
  obtain ⟨b2, hb2⟩ : ∃ b2, b2 = w.heap.size + 1 + 1 + 1 := ⟨_, rfl⟩
  have HM0 := Lib.hid hm0
  have HB1 := Lib.hid hb1
  have HB2 := Lib.hid hb2
  rw [← hb2] at HN3 ⊢
  rw [← hb1] at HN2 ⊢
  rw [← hm0] at HNM ⊢
  clear hb1 hb2 hm0
  have c0 : w2.cell? ⟨w.heap.size, 0, none⟩ = some (.int .i64 n) := blk_cell HN1.out 0
  have c1 : w2.cell? ⟨w.heap.size, 1, none⟩ = some (.slice LA L.length lc) := blk_cell HN1.out 1
  have c2 : w2.cell? ⟨w.heap.size, 2, none⟩ = some (.slice GA gn gc) := blk_cell HN1.out 2
  have e0 : w2.cell? ⟨m0, 0, none⟩ = some (.int .i64 mk) := blk_cell HNM.out 0
  have e1 : w2.cell? ⟨m0, 1, none⟩ = some (.int .i64 mp) := blk_cell HNM.out 1
  have e2 : w2.cell? ⟨m0, 2, none⟩ = some (.int .i64 s) := blk_cell HNM.out 2
  have hFW : Fr (fun _ => False) w2 (w2.alloc (.cells #[] 129)) := (Fr.refl _ w2).alloc _
  have HFW := Lib.hid hFW
  clear hFW
  have c1' : (w2.alloc (.cells #[] 129)).cell? ⟨w.heap.size, 1, none⟩ = some (.slice LA L.length lc) := HFW.out.cell0 c1
  go_upto_region 6 with (at_builtin; refine wpl_appx rfl (.tmp 32) (.tmp 34) 77 rfl w2.heap.size 129 _ 6 56 Try.underlying77 Try.info129 rfl (by decide) _ 0 [] rfl (own_up (own_empty 6 (blk_new w2 (.cells #[] 129)) rfl) (fun k hk => (by obtain rfl := Option.some.inj hk; exact Nat.le_refl _))) LA L.length lc (L.flatMap ocells) rfl (ocells_len L) ((HRO.out.fr HFW.out (fun _ _ _ h => h)).news) HRO.out.nil (ocells_one L) (by simp [maxLen]; omega) (by omega) HFW.out.size ?_; intro v5 w5 ho5 hg5 hm5; rw [Nat.zero_add, List.nil_append] at ho5; obtain ⟨A5, c5, rfl⟩ := own_slice ho5; have hF5 : Fr (fun _ => False) w2 w5 := HFW.out.grown hg5 (fun k hk => .inl (by obtain rfl := Option.some.inj hk; exact Nat.le_refl _)); have hk0 : w5.cell? ⟨w.heap.size, 0, none⟩ = some (.int .i64 n) := hF5.cell0 c0; have hk1 := hF5.cell0 c1; have hk2 := hF5.cell0 c2; have hf1 := blk_frozen (hF5.blk0 HN1.out) 1)
  clear hg5 hm5 c0 c1 c1' c2 e0 e1 e2 hk0 hk1 hk2 hf1
  obtain ⟨gA, rfl⟩ := own_some ho5 (by omega)
  obtain ⟨cs, hcs, _⟩ := own_blk ho5
  have hgA : w2.heap.size ≤ gA := (ho5.lt gA rfl).1
  have hR5 := readO_own ho5
  have hb1 : w.heap.size < w2.heap.size := blk_lt HN1.out
  have hne : gA ≠ w.heap.size := by omega
  have hF6 : Fr (fun k => k = w.heap.size) w5 (w5.setCell ⟨w.heap.size, 1, none⟩ (.slice (some ⟨gA, 0, none⟩) L.length c5)) := Fr.setCell (S := fun k => k = w.heap.size) (p := ⟨w.heap.size, 1, none⟩) (Fr.refl _ _) (.inr rfl) _
  have hb6 : ((w5.setCell ⟨w.heap.size, 1, none⟩ (.slice (some ⟨gA, 0, none⟩) L.length c5)).heap[w.heap.size]? = some (.cells #[.int .i64 n, .slice (some ⟨gA, 0, none⟩) L.length c5, .slice GA gn gc] 79 (0, 0))) := by simpa using blk_set (hF5.blk0 HN1.out) 1 (.slice (some ⟨gA, 0, none⟩) L.length c5)
  have HB6 := Lib.hid hb6
  clear hb6
  have HM6 := Lib.hid (hF6.blk (hF5.blk0 HNM.out) (by have := HM0.out; omega))
  have HN26 := Lib.hid (hF6.blk (hF5.blk0 HN2.out) (by have := HB1.out; omega))
  have HN36 := Lib.hid (hF6.blk (hF5.blk0 HN3.out) (by have := HB2.out; omega))
  have HC6 := Lib.hid (hF6.blk hcs hne)
  have HR6 := Lib.hid (hR5.fr hF6 (fun g o e => by cases e; exact hne))
  have HF6 : Hid (Fr (fun _ => False) w (w5.setCell ⟨w.heap.size, 1, none⟩ (.slice (some ⟨gA, 0, none⟩) L.length c5))) := (HF.out.trans hF5 (fun _ _ h => h)).trans hF6 (fun k hk e => by omega)
  have HGA := Lib.hid (And.intro hgA HSZ.out)
  clear hF6 ho5 hcs hR5 hF5 HFW HN1 HNM HN2 HN3 HF HE HSZ hgA hne hb1
  generalize w5.setCell ⟨w.heap.size, 1, none⟩ (.slice (some ⟨gA, 0, none⟩) L.length c5) = w6 at *
  obtain ⟨y, hy⟩ : ∃ y, L[s]? = some y := ⟨_, List.getElem?_eq_getElem hsl'⟩
  obtain ⟨g2, o2, e2, hc2⟩ := HR6.out s y hy
  cases e2
  have k1 : w6.cell? ⟨w.heap.size, 1, none⟩ = some (.slice (some ⟨gA, 0, none⟩) L.length c5) := blk_cell HB6.out 1
  have k2 : w6.cell? ⟨m0, 2, none⟩ = some (.int .i64 s) := blk_cell HM6.out 2
  have k3 := hc2 5 _ rfl
  have k4 := blk_frozen HC6.out (s * 6 + 5)
  rw [Nat.zero_add] at k3
  clear hc2 hy
  go_upto_region 7 with (fail)
  clear k1 k2 k3 k4
  have hn0 : gA ≠ w.heap.size ∧ gA ≠ b1 ∧ gA ≠ b2 := by have := HGA.out; have := HB1.out; have := HB2.out; omega
  have HB7 := Lib.hid (blk_far HB6.out (p := ⟨gA, s * 6 + 5, none⟩) hn0.1.symm (.bool true))
  have HN27 := Lib.hid (blk_far HN26.out (p := ⟨gA, s * 6 + 5, none⟩) hn0.2.1.symm (.bool true))
  have HN37 := Lib.hid (blk_far HN36.out (p := ⟨gA, s * 6 + 5, none⟩) hn0.2.2.symm (.bool true))
  have HR7 := Lib.hid (ack_read (s := s) HC6.out HR6.out)
  have HF7 := Lib.hid (HF6.out.setCell (p := ⟨gA, s * 6 + 5, none⟩) (.inl (show w.heap.size ≤ gA from by have := HGA.out; omega)) (.bool true))
  clear HB6 HN26 HN36 HC6 HR6 HF6 HM6
  generalize w6.setCell ⟨gA, s * 6 + 5, none⟩ (.bool true) = w7 at *
  have c0 : w7.cell? ⟨w.heap.size, 0, none⟩ = some (.int .i64 n) := blk_cell HB7.out 0
  have c1 : w7.cell? ⟨w.heap.size, 1, none⟩ = some (.slice (some ⟨gA, 0, none⟩) L.length c5) := blk_cell HB7.out 1
  have c2 : w7.cell? ⟨w.heap.size, 2, none⟩ = some (.slice GA gn gc) := blk_cell HB7.out 2
  have z0 := blk_frozen HN27.out 0
  have z1 := blk_frozen HN27.out 1
  have z2 := blk_frozen HN27.out 2
  have q0 : w7.cell? ⟨b1, 0, none⟩ = some (.int .i64 0) := blk_cell HN27.out 0
  have q1 : w7.cell? ⟨b1, 1, none⟩ = some (.slice none 0 0) := blk_cell HN27.out 1
  have q2 : w7.cell? ⟨b1, 2, none⟩ = some (.slice none 0 0) := blk_cell HN27.out 2
  have x0 := blk_frozen HN37.out 0
  have x1 := blk_frozen HN37.out 1
  have x2 := blk_frozen HN37.out 2
  have x3 := blk_frozen HN37.out 3
  have x4 := blk_frozen HN37.out 4
  have y0 : w7.cell? ⟨b2, 0, none⟩ = some (.int .i64 0) := blk_cell HN37.out 0
  have y1 : w7.cell? ⟨b2, 1, none⟩ = some (.int .i64 0) := blk_cell HN37.out 1
  have y2 : w7.cell? ⟨b2, 2, none⟩ = some (.int .i64 0) := blk_cell HN37.out 2
  have y3 : w7.cell? ⟨b2, 3, none⟩ = some (.string ⟨#[]⟩) := blk_cell HN37.out 3
  have y4 : w7.cell? ⟨b2, 4, none⟩ = some (.int .i64 0) := blk_cell HN37.out 4
  have hne12 : ¬ b1 = b2 := by have := HB1.out; have := HB2.out; omega
  have hne21 : ¬ b2 = b1 := by have := HB1.out; have := HB2.out; omega
  go_wp2
  have h3 := set3 (x := .int .i64 n) (y := .slice (some ⟨gA, 0, none⟩) L.length c5) (z := .slice GA gn gc) HN27.out
  have hF3 := set3_frx w7 b1 (.int .i64 n) (.slice (some ⟨gA, 0, none⟩) L.length c5) (.slice GA gn gc)
  have h5 := set5 (a := .int .i64 0) (b := .int .i64 0) (c := .int .i64 0) (d := .string ⟨#[]⟩) (e := .int .i64 0) (hF3.blk HN37.out hne21)
  have hF5 := set5_fr (((w7.setCell ⟨b1, 0, none⟩ (.int .i64 n)).setCell ⟨b1, 1, none⟩ (.slice (some ⟨gA, 0, none⟩) L.length c5)).setCell ⟨b1, 2, none⟩ (.slice GA gn gc)) b2 (.int .i64 0) (.int .i64 0) (.int .i64 0) (.string ⟨#[]⟩) (.int .i64 0)
  refine rhear_end (m := zMsg) (hF5.blk h3 hne12) h5 rfl rfl rfl (Exists.intro (some ⟨gA, 0, none⟩) (Exists.intro c5 (And.intro (And.intro rfl ?_) (And.intro ?_ ?_))))
  · exact HF7.out.trans' (hF3.trans' hF5 (S'' := fun k => k = b1 ∨ k = b2) (fun _ _ h => .inl h) (fun _ _ h => .inr h)) (fun _ _ h => h) (fun k hk e => by have := HB1.out; have := HB2.out; rcases e with e | e <;> omega)
  · unfold ackL
    rw [Int.toNat_natCast]
    exact (HR7.out.fr hF3 (fun g o e h => by cases e; exact hn0.2.1 h)).fr hF5 (fun g o e h => by cases e; exact hn0.2.2 h)
  · intro g o e
    cases e
    have := HGA.out
    omega
end Go.Proofs.Ytedmhhllkkgbjaa
