/- The document's Peer: Offer. -/
import Derived.Test.YtedmhhllkkgbjaaPe15
import Derived.Deep.DeepCutAuto
namespace Go.Proofs.Ytedmhhllkkgbjaa
open Go.RowKit Go.WideShapes
set_option linter.unusedSimpArgs false
set_option linter.unusedVariables false

theorem alloc3 (w : World) (o1 o2 o3 : Obj) : ∃ w2, ((w.alloc o1).alloc o2).alloc o3 = w2 ∧ w2.heap[w.heap.size]? = some o1 ∧ w2.heap[w.heap.size + 1]? = some o2 ∧ w2.heap[w.heap.size + 1 + 1]? = some o3 ∧ Fr (fun _ => False) w w2 ∧ w2.heap.size = w.heap.size + 3 :=
  ⟨_, rfl, blk_alloc (blk_alloc (blk_new _ _) _) _, by simpa using blk_alloc (blk_new (w.alloc o1) o2) o3, by simpa using blk_new ((w.alloc o1).alloc o2) o3, (((Fr.refl _ w).alloc _).alloc _).alloc _, by simp⟩
theorem set3_frx (w : World) (g : Nat) (a b c : Value) : Fr (fun k => k = g) w (((w.setCell ⟨g, 0, none⟩ a).setCell ⟨g, 1, none⟩ b).setCell ⟨g, 2, none⟩ c) :=
  Fr.setCell (S := fun k => k = g) (p := ⟨g, 2, none⟩) (Fr.setCell (S := fun k => k = g) (p := ⟨g, 1, none⟩) (Fr.setCell (S := fun k => k = g) (p := ⟨g, 0, none⟩) (Fr.refl _ _) (.inr rfl) a) (.inr rfl) b) (.inr rfl) c

def ROfferPost (w : World) (v : Value) (m : Value) (r : Int) (e : Ending) (w' : World) : Prop := e = .returned (.tuple #[v, m, .int .i64 r]) ∧ Fr (fun _ => False) w w'
theorem roffer_end {w w2 w4 : World} {b1 b2 : Nat} {n : Int} {LA GA : Option Addr} {ln lc gn gc : Nat} {tmps : Array Value} {r : Int} {m : Msg}
    (hF : Fr (fun _ => False) w w2) (hb1 : w.heap.size ≤ b1) (hb2 : w.heap.size ≤ b2) (hF4 : Fr (fun k => k = b1 ∨ k = b2) w2 w4) (h1 : w4.heap[b1]? = some (.cells #[.int .i64 n, .slice LA ln lc, .slice GA gn gc] 79 (0, 0))) (h2 : w4.heap[b2]? = some (.cells #[.int .i64 m.kind, .int .i64 m.peer, .int .i64 m.seq, .string m.key, .int .i64 m.n] 71 (0, 0)))
    (ht6 : tmps.getD 6 undef = .pointer (some ⟨b1, 0, none⟩)) (ht7 : tmps.getD 7 undef = .pointer (some ⟨b2, 0, none⟩)) (ht8 : tmps.getD 8 undef = .int .i64 r) :
    bodyPost Try.prog Try.f42 (ROfferPost w (rpeer n LA ln lc GA gn gc) m.v r) .ret ⟨tmps, []⟩ w4 := by
  simp only [Array.getD_eq_getD_getElem?] at ht6 ht7 ht8
  have r0 : w4.cell? ⟨b1, 0, none⟩ = some (.int .i64 n) := blk_cell h1 0
  have r1 : w4.cell? ⟨b1, 1, none⟩ = some (.slice LA ln lc) := blk_cell h1 1
  have r2 : w4.cell? ⟨b1, 2, none⟩ = some (.slice GA gn gc) := blk_cell h1 2
  have q0 : w4.cell? ⟨b2, 0, none⟩ = some (.int .i64 m.kind) := blk_cell h2 0
  have q1 : w4.cell? ⟨b2, 1, none⟩ = some (.int .i64 m.peer) := blk_cell h2 1
  have q2 : w4.cell? ⟨b2, 2, none⟩ = some (.int .i64 m.seq) := blk_cell h2 2
  have q3 : w4.cell? ⟨b2, 3, none⟩ = some (.string m.key) := blk_cell h2 3
  have q4 : w4.cell? ⟨b2, 4, none⟩ = some (.int .i64 m.n) := blk_cell h2 4
  exact bodyPost_ret (v := .tuple #[rpeer n LA ln lc GA gn gc, m.v, .int .i64 r]) (by simp [results, Try.results42, go_sem, ht6, ht7, ht8, r0, r1, r2, q0, q1, q2, q3, q4, rpeer, Msg.v]) rfl ⟨rfl, hF.trans hF4 (fun k hk e => by rcases e with e | e <;> omega)⟩

set_option maxRecDepth 100000 in
set_option maxHeartbeats 4000000 in
theorem roffer_bad (w : World) (n : Int) (LA GA : Option Addr) (ln lc gn gc : Nat) (key : ByteArray) (x : Int)
    (hb : (key.size : Int) < 1 ∨ (¬ (key.size : Int) < 1 ∧ 16 < (key.size : Int)) ∨ (¬ (key.size : Int) < 1 ∧ ¬ 16 < (key.size : Int) ∧ x < 1) ∨ (¬ (key.size : Int) < 1 ∧ ¬ 16 < (key.size : Int) ∧ ¬ x < 1 ∧ 1125899906842624 < x)) :
    Calls Try.prog 42 #[.agg #[.int .i64 n, .slice LA ln lc, .slice GA gn gc], .string key, .int .i64 x] w (ROfferPost w (rpeer n LA ln lc GA gn gc) zMsg.v 1) := by
  obtain ⟨w2, he, hn1, hn2, hn3, hF, hsz⟩ := alloc3 w (.cells #[.int .i64 n, .slice LA ln lc, .slice GA gn gc] 79) (.cells #[.int .i64 0, .slice none 0 0, .slice none 0 0] 79) (.cells #[.int .i64 0, .int .i64 0, .int .i64 0, .string ⟨#[]⟩, .int .i64 0] 71)
  have HE := Lib.hid he
  have HF := Lib.hid hF
  have HN1 := Lib.hid hn1
  have HN2 := Lib.hid hn2
  have HN3 := Lib.hid hn3
  clear he hF hsz hn1 hn2 hn3
  rcases hb with h1 | ⟨h1, h2⟩ | ⟨h1, h2, h3⟩ | ⟨h1, h2, h3, h4⟩
  all_goals
    go_enter Try.func42, Try.ntmps42
    go_upto_region 1 with (fail)
    rw [HE.out]
    obtain ⟨b1, hb1⟩ : ∃ b1, b1 = w.heap.size + 1 := ⟨_, rfl⟩
    obtain ⟨b2, hb2⟩ : ∃ b2, b2 = w.heap.size + 1 + 1 := ⟨_, rfl⟩
    have HB1 := Lib.hid hb1
    have HB2 := Lib.hid hb2
    rw [← hb2] at HN3 ⊢
    rw [← hb1] at HN2 ⊢
    clear hb1 hb2
    have c0 : w2.cell? ⟨w.heap.size, 0, none⟩ = some (.int .i64 n) := blk_cell HN1.out 0
    have c1 : w2.cell? ⟨w.heap.size, 1, none⟩ = some (.slice LA ln lc) := blk_cell HN1.out 1
    have c2 : w2.cell? ⟨w.heap.size, 2, none⟩ = some (.slice GA gn gc) := blk_cell HN1.out 2
    have z0 := blk_frozen HN2.out 0
    have z1 := blk_frozen HN2.out 1
    have z2 := blk_frozen HN2.out 2
    have q0 : w2.cell? ⟨b1, 0, none⟩ = some (.int .i64 0) := blk_cell HN2.out 0
    have q1 : w2.cell? ⟨b1, 1, none⟩ = some (.slice none 0 0) := blk_cell HN2.out 1
    have q2 : w2.cell? ⟨b1, 2, none⟩ = some (.slice none 0 0) := blk_cell HN2.out 2
    have x0 := blk_frozen HN3.out 0
    have x1 := blk_frozen HN3.out 1
    have x2 := blk_frozen HN3.out 2
    have x3 := blk_frozen HN3.out 3
    have x4 := blk_frozen HN3.out 4
    have y0 : w2.cell? ⟨b2, 0, none⟩ = some (.int .i64 0) := blk_cell HN3.out 0
    have y1 : w2.cell? ⟨b2, 1, none⟩ = some (.int .i64 0) := blk_cell HN3.out 1
    have y2 : w2.cell? ⟨b2, 2, none⟩ = some (.int .i64 0) := blk_cell HN3.out 2
    have y3 : w2.cell? ⟨b2, 3, none⟩ = some (.string ⟨#[]⟩) := blk_cell HN3.out 3
    have y4 : w2.cell? ⟨b2, 4, none⟩ = some (.int .i64 0) := blk_cell HN3.out 4
    have hne12 : ¬ b1 = b2 := by have := HB1.out; have := HB2.out; omega
    have hne21 : ¬ b2 = b1 := by have := HB1.out; have := HB2.out; omega
    go_wp2
    have h3 := set3 (x := .int .i64 n) (y := .slice LA ln lc) (z := .slice GA gn gc) HN2.out
    have hF3 := set3_frx w2 b1 (.int .i64 n) (.slice LA ln lc) (.slice GA gn gc)
    have h5 := set5 (a := .int .i64 0) (b := .int .i64 0) (c := .int .i64 0) (d := .string ⟨#[]⟩) (e := .int .i64 0) (hF3.blk HN3.out hne21)
    have hF5 := set5_fr (((w2.setCell ⟨b1, 0, none⟩ (.int .i64 n)).setCell ⟨b1, 1, none⟩ (.slice LA ln lc)).setCell ⟨b1, 2, none⟩ (.slice GA gn gc)) b2 (.int .i64 0) (.int .i64 0) (.int .i64 0) (.string ⟨#[]⟩) (.int .i64 0)
    exact roffer_end (m := zMsg) HF.out (by have := HB1.out; omega) (by have := HB2.out; omega) (hF3.trans' hF5 (fun _ _ h => .inl h) (fun _ _ h => .inr h)) (hF5.blk h3 hne12) h5 rfl rfl rfl

set_option maxRecDepth 100000 in
set_option maxHeartbeats 4000000 in
theorem roffer_full (w : World) (n : Int) (LA GA : Option Addr) (lc gn gc : Nat) (L : List (Msg × Bool)) (key : ByteArray) (x : Int)
    (h1 : ¬ (key.size : Int) < 1) (h2 : ¬ 16 < (key.size : Int)) (h3 : ¬ x < 1) (h4 : ¬ 1125899906842624 < x) (h5 : 64 ≤ (cnt L : Int)) (hl : L.length ≤ 1000000) (hR : ReadO w LA L) :
    Calls Try.prog 42 #[.agg #[.int .i64 n, .slice LA L.length lc, .slice GA gn gc], .string key, .int .i64 x] w (ROfferPost w (rpeer n LA L.length lc GA gn gc) zMsg.v 214) := by
  obtain ⟨w2, he, hn1, hn2, hn3, hF, hsz⟩ := alloc3 w (.cells #[.int .i64 n, .slice LA L.length lc, .slice GA gn gc] 79) (.cells #[.int .i64 0, .slice none 0 0, .slice none 0 0] 79) (.cells #[.int .i64 0, .int .i64 0, .int .i64 0, .string ⟨#[]⟩, .int .i64 0] 71)
  have HE := Lib.hid he
  have HF := Lib.hid hF
  have HN1 := Lib.hid hn1
  have HN2 := Lib.hid hn2
  have HN3 := Lib.hid hn3
  have HRO := Lib.hid (hR.fr hF (fun _ _ _ h => h))
  clear he hF hsz hn1 hn2 hn3 hR
  go_enter Try.func42, Try.ntmps42
  go_upto_region 1 with (fail)
  rw [HE.out]
  have c0 : w2.cell? ⟨w.heap.size, 0, none⟩ = some (.int .i64 n) := blk_cell HN1.out 0
  have c1 : w2.cell? ⟨w.heap.size, 1, none⟩ = some (.slice LA L.length lc) := blk_cell HN1.out 1
  have c2 : w2.cell? ⟨w.heap.size, 2, none⟩ = some (.slice GA gn gc) := blk_cell HN1.out 2
  go_wp2_with fail
  refine (ragain_any n LA GA lc gn gc L hl HRO.out).mono ?_
  rintro e w3 ⟨A3, k3, rfl, hR3, hF3, hfr3⟩
  have h5' : 64 ≤ ((undone L).length : Int) := by rw [undone_len]; exact h5
  clear c0 c1 c2 hR3 hfr3 HE
  have HN1' := Lib.hid (hF3.blk0 HN1.out)
  have HN2' := Lib.hid (hF3.blk0 HN2.out)
  have HN3' := Lib.hid (hF3.blk0 HN3.out)
  have HF' : Hid (Fr (fun _ => False) w w3) := HF.out.trans hF3 (fun _ _ h => h)
  clear hF3 HN1 HN2 HN3 HF HRO
  obtain ⟨b1, hb1⟩ : ∃ b1, b1 = w.heap.size + 1 := ⟨_, rfl⟩
  obtain ⟨b2, hb2⟩ : ∃ b2, b2 = w.heap.size + 1 + 1 := ⟨_, rfl⟩
  have HB1 := Lib.hid hb1
  have HB2 := Lib.hid hb2
  rw [← hb2] at HN3' ⊢
  rw [← hb1] at HN2' ⊢
  clear hb1 hb2
  have c0 : w3.cell? ⟨w.heap.size, 0, none⟩ = some (.int .i64 n) := blk_cell HN1'.out 0
  have c1 : w3.cell? ⟨w.heap.size, 1, none⟩ = some (.slice LA L.length lc) := blk_cell HN1'.out 1
  have c2 : w3.cell? ⟨w.heap.size, 2, none⟩ = some (.slice GA gn gc) := blk_cell HN1'.out 2
  have z0 := blk_frozen HN2'.out 0
  have z1 := blk_frozen HN2'.out 1
  have z2 := blk_frozen HN2'.out 2
  have q0 : w3.cell? ⟨b1, 0, none⟩ = some (.int .i64 0) := blk_cell HN2'.out 0
  have q1 : w3.cell? ⟨b1, 1, none⟩ = some (.slice none 0 0) := blk_cell HN2'.out 1
  have q2 : w3.cell? ⟨b1, 2, none⟩ = some (.slice none 0 0) := blk_cell HN2'.out 2
  have x0 := blk_frozen HN3'.out 0
  have x1 := blk_frozen HN3'.out 1
  have x2 := blk_frozen HN3'.out 2
  have x3 := blk_frozen HN3'.out 3
  have x4 := blk_frozen HN3'.out 4
  have y0 : w3.cell? ⟨b2, 0, none⟩ = some (.int .i64 0) := blk_cell HN3'.out 0
  have y1 : w3.cell? ⟨b2, 1, none⟩ = some (.int .i64 0) := blk_cell HN3'.out 1
  have y2 : w3.cell? ⟨b2, 2, none⟩ = some (.int .i64 0) := blk_cell HN3'.out 2
  have y3 : w3.cell? ⟨b2, 3, none⟩ = some (.string ⟨#[]⟩) := blk_cell HN3'.out 3
  have y4 : w3.cell? ⟨b2, 4, none⟩ = some (.int .i64 0) := blk_cell HN3'.out 4
  have hne12 : ¬ b1 = b2 := by have := HB1.out; have := HB2.out; omega
  have hne21 : ¬ b2 = b1 := by have := HB1.out; have := HB2.out; omega
  go_wp2
  have h3 := set3 (x := .int .i64 n) (y := .slice LA L.length lc) (z := .slice GA gn gc) HN2'.out
  have hF3 := set3_frx w3 b1 (.int .i64 n) (.slice LA L.length lc) (.slice GA gn gc)
  have h5 := set5 (a := .int .i64 0) (b := .int .i64 0) (c := .int .i64 0) (d := .string ⟨#[]⟩) (e := .int .i64 0) (hF3.blk HN3'.out hne21)
  have hF5 := set5_fr (((w3.setCell ⟨b1, 0, none⟩ (.int .i64 n)).setCell ⟨b1, 1, none⟩ (.slice LA L.length lc)).setCell ⟨b1, 2, none⟩ (.slice GA gn gc)) b2 (.int .i64 0) (.int .i64 0) (.int .i64 0) (.string ⟨#[]⟩) (.int .i64 0)
  exact roffer_end (m := zMsg) HF'.out (by have := HB1.out; omega) (by have := HB2.out; omega) (hF3.trans' hF5 (fun _ _ h => .inl h) (fun _ _ h => .inr h)) (hF5.blk h3 hne12) h5 rfl rfl rfl
end Go.Proofs.Ytedmhhllkkgbjaa
