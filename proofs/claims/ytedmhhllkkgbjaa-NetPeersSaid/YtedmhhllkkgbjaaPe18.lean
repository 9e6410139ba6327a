/- The document's Peer: Hear of all but transfers. -/
import Derived.Test.YtedmhhllkkgbjaaPe17
namespace Go.Proofs.Ytedmhhllkkgbjaa
open Go.RowKit Go.WideShapes
set_option linter.unusedSimpArgs false
set_option linter.unusedVariables false

theorem alloc4 (w : World) (o1 o2 o3 o4 : Obj) : ∃ w2, (((w.alloc o1).alloc o2).alloc o3).alloc o4 = w2 ∧ w2.heap[w.heap.size]? = some o1 ∧ w2.heap[w.heap.size + 1]? = some o2 ∧ w2.heap[w.heap.size + 1 + 1]? = some o3 ∧ w2.heap[w.heap.size + 1 + 1 + 1]? = some o4 ∧ Fr (fun _ => False) w w2 ∧ w2.heap.size = w.heap.size + 4 :=
  ⟨_, rfl, blk_alloc (blk_alloc (blk_alloc (blk_new _ _) _) _) _, by simpa using blk_alloc (blk_alloc (blk_new (w.alloc o1) o2) o3) o4, by simpa using blk_alloc (blk_new ((w.alloc o1).alloc o2) o3) o4, by simpa using blk_new (((w.alloc o1).alloc o2).alloc o3) o4, ((((Fr.refl _ w).alloc _).alloc _).alloc _).alloc _, by simp⟩

theorem rhear_end {w4 : World} {b1 b2 : Nat} {n : Int} {LA GA : Option Addr} {ln lc gn gc : Nat} {tmps : Array Value} {r : Bool} {m : Msg} {Post : Ending → World → Prop}
    (h1 : w4.heap[b1]? = some (.cells #[.int .i64 n, .slice LA ln lc, .slice GA gn gc] 79 (0, 0))) (h2 : w4.heap[b2]? = some (.cells #[.int .i64 m.kind, .int .i64 m.peer, .int .i64 m.seq, .string m.key, .int .i64 m.n] 71 (0, 0)))
    (ht4 : tmps.getD 4 undef = .pointer (some ⟨b1, 0, none⟩)) (ht5 : tmps.getD 5 undef = .pointer (some ⟨b2, 0, none⟩)) (ht6 : tmps.getD 6 undef = .bool r) (hP : Post (.returned (.tuple #[rpeer n LA ln lc GA gn gc, m.v, .bool r])) w4) :
    bodyPost Try.prog Try.f43 Post .ret ⟨tmps, []⟩ w4 := by
  simp only [Array.getD_eq_getD_getElem?] at ht4 ht5 ht6
  have r0 : w4.cell? ⟨b1, 0, none⟩ = some (.int .i64 n) := blk_cell h1 0
  have r1 : w4.cell? ⟨b1, 1, none⟩ = some (.slice LA ln lc) := blk_cell h1 1
  have r2 : w4.cell? ⟨b1, 2, none⟩ = some (.slice GA gn gc) := blk_cell h1 2
  have q0 : w4.cell? ⟨b2, 0, none⟩ = some (.int .i64 m.kind) := blk_cell h2 0
  have q1 : w4.cell? ⟨b2, 1, none⟩ = some (.int .i64 m.peer) := blk_cell h2 1
  have q2 : w4.cell? ⟨b2, 2, none⟩ = some (.int .i64 m.seq) := blk_cell h2 2
  have q3 : w4.cell? ⟨b2, 3, none⟩ = some (.string m.key) := blk_cell h2 3
  have q4 : w4.cell? ⟨b2, 4, none⟩ = some (.int .i64 m.n) := blk_cell h2 4
  exact bodyPost_ret (v := .tuple #[rpeer n LA ln lc GA gn gc, m.v, .bool r]) (by simp [results, Try.results43, go_sem, ht4, ht5, ht6, r0, r1, r2, q0, q1, q2, q3, q4, rpeer, Msg.v]) rfl hP

def RDeafPost (w : World) (v : Value) (e : Ending) (w' : World) : Prop := e = .returned (.tuple #[v, zMsg.v, .bool false]) ∧ Fr (fun _ => False) w w'

set_option maxRecDepth 100000 in
set_option maxHeartbeats 4000000 in
theorem rhear_peer (w : World) (n : Int) (LA GA : Option Addr) (ln lc gn gc : Nat) (m : Msg) (hp : m.peer ≠ n) :
    Calls Try.prog 43 #[.agg #[.int .i64 n, .slice LA ln lc, .slice GA gn gc], .agg #[.int .i64 m.kind, .int .i64 m.peer, .int .i64 m.seq, .string m.key, .int .i64 m.n]] w (RDeafPost w (rpeer n LA ln lc GA gn gc)) := by
  obtain ⟨mk, mp, ms, mt, mn⟩ := m
  simp only at *
  have hpb : (mp != n) = true := by simpa using hp
  clear hp
  obtain ⟨w2, he, hn1, hnm, hn2, hn3, hF, hsz⟩ := alloc4 w (.cells #[.int .i64 n, .slice LA ln lc, .slice GA gn gc] 79) (.cells #[.int .i64 mk, .int .i64 mp, .int .i64 ms, .string mt, .int .i64 mn] 71) (.cells #[.int .i64 0, .slice none 0 0, .slice none 0 0] 79) (.cells #[.int .i64 0, .int .i64 0, .int .i64 0, .string ⟨#[]⟩, .int .i64 0] 71)
  have HE := Lib.hid he
  have HF := Lib.hid hF
  have HN1 := Lib.hid hn1
  have HNM := Lib.hid hnm
  have HN2 := Lib.hid hn2
  have HN3 := Lib.hid hn3
  have HSZ := Lib.hid hsz
  clear he hF hsz hn1 hn2 hn3 hnm
  go_enter Try.func43, Try.ntmps43
  go_upto_region 1 with (fail)
  rw [HE.out]
  obtain ⟨m0, hm0⟩ : ∃ m0, m0 = w.heap.size + 1 := ⟨_, rfl⟩
  obtain ⟨b1, hb1⟩ : ∃ b1, b1 = w.heap.size + 1 + 1 := ⟨_, rfl⟩
  obtain ⟨b2, hb2⟩ : ∃ b2, b2 = w.heap.size + 1 + 1 + 1 := ⟨_, rfl⟩
  have HM0 := Lib.hid hm0
  have HB1 := Lib.hid hb1
  have HB2 := Lib.hid hb2
  rw [← hb2] at HN3 ⊢
  rw [← hb1] at HN2 ⊢
  rw [← hm0] at HNM ⊢
  clear hb1 hb2 hm0
  have c0 : w2.cell? ⟨w.heap.size, 0, none⟩ = some (.int .i64 n) := blk_cell HN1.out 0
  have c1 : w2.cell? ⟨w.heap.size, 1, none⟩ = some (.slice LA ln lc) := blk_cell HN1.out 1
  have c2 : w2.cell? ⟨w.heap.size, 2, none⟩ = some (.slice GA gn gc) := blk_cell HN1.out 2
  have e0 : w2.cell? ⟨m0, 0, none⟩ = some (.int .i64 mk) := blk_cell HNM.out 0
  have e1 : w2.cell? ⟨m0, 1, none⟩ = some (.int .i64 mp) := blk_cell HNM.out 1
  have e2 : w2.cell? ⟨m0, 2, none⟩ = some (.int .i64 ms) := blk_cell HNM.out 2
  have z0 := blk_frozen HN2.out 0
  have z1 := blk_frozen HN2.out 1
  have z2 := blk_frozen HN2.out 2
  have q0 : w2.cell? ⟨b1, 0, none⟩ = some (.int .i64 0) := blk_cell HN2.out 0
  have q1 : w2.cell? ⟨b1, 1, none⟩ = some (.slice none 0 0) := blk_cell HN2.out 1
  have q2 : w2.cell? ⟨b1, 2, none⟩ = some (.slice none 0 0) := blk_cell HN2.out 2
  have x0 := blk_frozen HN3.out 0
  have x1 := blk_frozen HN3.out 1
  have x2 := blk_frozen HN3.out 2
  have x3 := blk_frozen HN3.out 3
  have x4 := blk_frozen HN3.out 4
  have y0 : w2.cell? ⟨b2, 0, none⟩ = some (.int .i64 0) := blk_cell HN3.out 0
  have y1 : w2.cell? ⟨b2, 1, none⟩ = some (.int .i64 0) := blk_cell HN3.out 1
  have y2 : w2.cell? ⟨b2, 2, none⟩ = some (.int .i64 0) := blk_cell HN3.out 2
  have y3 : w2.cell? ⟨b2, 3, none⟩ = some (.string ⟨#[]⟩) := blk_cell HN3.out 3
  have y4 : w2.cell? ⟨b2, 4, none⟩ = some (.int .i64 0) := blk_cell HN3.out 4
  have hne12 : ¬ b1 = b2 := by have := HB1.out; have := HB2.out; omega
  have hne21 : ¬ b2 = b1 := by have := HB1.out; have := HB2.out; omega
  go_wp2
  have h3 := set3 (x := .int .i64 n) (y := .slice LA ln lc) (z := .slice GA gn gc) HN2.out
  have hF3 := set3_frx w2 b1 (.int .i64 n) (.slice LA ln lc) (.slice GA gn gc)
  have h5 := set5 (a := .int .i64 0) (b := .int .i64 0) (c := .int .i64 0) (d := .string ⟨#[]⟩) (e := .int .i64 0) (hF3.blk HN3.out hne21)
  have hF5 := set5_fr (((w2.setCell ⟨b1, 0, none⟩ (.int .i64 n)).setCell ⟨b1, 1, none⟩ (.slice LA ln lc)).setCell ⟨b1, 2, none⟩ (.slice GA gn gc)) b2 (.int .i64 0) (.int .i64 0) (.int .i64 0) (.string ⟨#[]⟩) (.int .i64 0)
  refine rhear_end (m := zMsg) (hF5.blk h3 hne12) h5 rfl rfl rfl ⟨rfl, ?_⟩
  exact HF.out.trans' (hF3.trans' hF5 (S'' := fun k => k = b1 ∨ k = b2) (fun _ _ h => .inl h) (fun _ _ h => .inr h)) (fun _ _ h => h) (fun k hk e => by have := HB1.out; have := HB2.out; rcases e with e | e <;> omega)

set_option maxRecDepth 100000 in
set_option maxHeartbeats 4000000 in
theorem rhear_neg (w : World) (n : Int) (LA GA : Option Addr) (ln lc gn gc : Nat) (m : Msg) (hp : m.peer = n) (hs : m.seq < 0) :
    Calls Try.prog 43 #[.agg #[.int .i64 n, .slice LA ln lc, .slice GA gn gc], .agg #[.int .i64 m.kind, .int .i64 m.peer, .int .i64 m.seq, .string m.key, .int .i64 m.n]] w (RDeafPost w (rpeer n LA ln lc GA gn gc)) := by
  obtain ⟨mk, mp, ms, mt, mn⟩ := m
  simp only at *
  have hpb : (mp != n) = false := by simpa using hp
  clear hp
  obtain ⟨w2, he, hn1, hnm, hn2, hn3, hF, hsz⟩ := alloc4 w (.cells #[.int .i64 n, .slice LA ln lc, .slice GA gn gc] 79) (.cells #[.int .i64 mk, .int .i64 mp, .int .i64 ms, .string mt, .int .i64 mn] 71) (.cells #[.int .i64 0, .slice none 0 0, .slice none 0 0] 79) (.cells #[.int .i64 0, .int .i64 0, .int .i64 0, .string ⟨#[]⟩, .int .i64 0] 71)
  have HE := Lib.hid he
  have HF := Lib.hid hF
  have HN1 := Lib.hid hn1
  have HNM := Lib.hid hnm
  have HN2 := Lib.hid hn2
  have HN3 := Lib.hid hn3
  have HSZ := Lib.hid hsz
  clear he hF hsz hn1 hn2 hn3 hnm
  go_enter Try.func43, Try.ntmps43
  go_upto_region 1 with (fail)
  rw [HE.out]
  obtain ⟨m0, hm0⟩ : ∃ m0, m0 = w.heap.size + 1 := ⟨_, rfl⟩
  obtain ⟨b1, hb1⟩ : ∃ b1, b1 = w.heap.size + 1 + 1 := ⟨_, rfl⟩
  obtain ⟨b2, hb2⟩ : ∃ b2, b2 = w.heap.size + 1 + 1 + 1 := ⟨_, rfl⟩
  have HM0 := Lib.hid hm0
  have HB1 := Lib.hid hb1
  have HB2 := Lib.hid hb2
  rw [← hb2] at HN3 ⊢
  rw [← hb1] at HN2 ⊢
  rw [← hm0] at HNM ⊢
  clear hb1 hb2 hm0
  have c0 : w2.cell? ⟨w.heap.size, 0, none⟩ = some (.int .i64 n) := blk_cell HN1.out 0
  have c1 : w2.cell? ⟨w.heap.size, 1, none⟩ = some (.slice LA ln lc) := blk_cell HN1.out 1
  have c2 : w2.cell? ⟨w.heap.size, 2, none⟩ = some (.slice GA gn gc) := blk_cell HN1.out 2
  have e0 : w2.cell? ⟨m0, 0, none⟩ = some (.int .i64 mk) := blk_cell HNM.out 0
  have e1 : w2.cell? ⟨m0, 1, none⟩ = some (.int .i64 mp) := blk_cell HNM.out 1
  have e2 : w2.cell? ⟨m0, 2, none⟩ = some (.int .i64 ms) := blk_cell HNM.out 2
  have z0 := blk_frozen HN2.out 0
  have z1 := blk_frozen HN2.out 1
  have z2 := blk_frozen HN2.out 2
  have q0 : w2.cell? ⟨b1, 0, none⟩ = some (.int .i64 0) := blk_cell HN2.out 0
  have q1 : w2.cell? ⟨b1, 1, none⟩ = some (.slice none 0 0) := blk_cell HN2.out 1
  have q2 : w2.cell? ⟨b1, 2, none⟩ = some (.slice none 0 0) := blk_cell HN2.out 2
  have x0 := blk_frozen HN3.out 0
  have x1 := blk_frozen HN3.out 1
  have x2 := blk_frozen HN3.out 2
  have x3 := blk_frozen HN3.out 3
  have x4 := blk_frozen HN3.out 4
  have y0 : w2.cell? ⟨b2, 0, none⟩ = some (.int .i64 0) := blk_cell HN3.out 0
  have y1 : w2.cell? ⟨b2, 1, none⟩ = some (.int .i64 0) := blk_cell HN3.out 1
  have y2 : w2.cell? ⟨b2, 2, none⟩ = some (.int .i64 0) := blk_cell HN3.out 2
  have y3 : w2.cell? ⟨b2, 3, none⟩ = some (.string ⟨#[]⟩) := blk_cell HN3.out 3
  have y4 : w2.cell? ⟨b2, 4, none⟩ = some (.int .i64 0) := blk_cell HN3.out 4
  have hne12 : ¬ b1 = b2 := by have := HB1.out; have := HB2.out; omega
  have hne21 : ¬ b2 = b1 := by have := HB1.out; have := HB2.out; omega
  go_wp2
  have h3 := set3 (x := .int .i64 n) (y := .slice LA ln lc) (z := .slice GA gn gc) HN2.out
  have hF3 := set3_frx w2 b1 (.int .i64 n) (.slice LA ln lc) (.slice GA gn gc)
  have h5 := set5 (a := .int .i64 0) (b := .int .i64 0) (c := .int .i64 0) (d := .string ⟨#[]⟩) (e := .int .i64 0) (hF3.blk HN3.out hne21)
  have hF5 := set5_fr (((w2.setCell ⟨b1, 0, none⟩ (.int .i64 n)).setCell ⟨b1, 1, none⟩ (.slice LA ln lc)).setCell ⟨b1, 2, none⟩ (.slice GA gn gc)) b2 (.int .i64 0) (.int .i64 0) (.int .i64 0) (.string ⟨#[]⟩) (.int .i64 0)
  refine rhear_end (m := zMsg) (hF5.blk h3 hne12) h5 rfl rfl rfl ⟨rfl, ?_⟩
  exact HF.out.trans' (hF3.trans' hF5 (S'' := fun k => k = b1 ∨ k = b2) (fun _ _ h => .inl h) (fun _ _ h => .inr h)) (fun _ _ h => h) (fun k hk e => by have := HB1.out; have := HB2.out; rcases e with e | e <;> omega)

set_option maxRecDepth 100000 in
set_option maxHeartbeats 4000000 in
theorem rhear_else (w : World) (n : Int) (LA GA : Option Addr) (ln lc gn gc : Nat) (m : Msg) (hp : m.peer = n) (hs : 0 ≤ m.seq) (hk1 : m.kind ≠ 1) (hk2 : m.kind ≠ 2) :
    Calls Try.prog 43 #[.agg #[.int .i64 n, .slice LA ln lc, .slice GA gn gc], .agg #[.int .i64 m.kind, .int .i64 m.peer, .int .i64 m.seq, .string m.key, .int .i64 m.n]] w (RDeafPost w (rpeer n LA ln lc GA gn gc)) := by
  obtain ⟨mk, mp, ms, mt, mn⟩ := m
  simp only at *
  have hpb : (mp != n) = false := by simpa using hp
  clear hp
  have hs' : ¬ ms < 0 := by omega
  have hk1' : (mk != 1) = true := by simpa using hk1
  have hk2' : (mk == 2) = false := by simpa using hk2
  clear hk1 hk2 hs
  obtain ⟨w2, he, hn1, hnm, hn2, hn3, hF, hsz⟩ := alloc4 w (.cells #[.int .i64 n, .slice LA ln lc, .slice GA gn gc] 79) (.cells #[.int .i64 mk, .int .i64 mp, .int .i64 ms, .string mt, .int .i64 mn] 71) (.cells #[.int .i64 0, .slice none 0 0, .slice none 0 0] 79) (.cells #[.int .i64 0, .int .i64 0, .int .i64 0, .string ⟨#[]⟩, .int .i64 0] 71)
  have HE := Lib.hid he
  have HF := Lib.hid hF
  have HN1 := Lib.hid hn1
  have HNM := Lib.hid hnm
  have HN2 := Lib.hid hn2
  have HN3 := Lib.hid hn3
  have HSZ := Lib.hid hsz
  clear he hF hsz hn1 hn2 hn3 hnm
  go_enter Try.func43, Try.ntmps43
  go_upto_region 1 with (fail)
  rw [HE.out]
  obtain ⟨m0, hm0⟩ : ∃ m0, m0 = w.heap.size + 1 := ⟨_, rfl⟩
  obtain ⟨b1, hb1⟩ : ∃ b1, b1 = w.heap.size + 1 + 1 := ⟨_, rfl⟩
  obtain ⟨b2, hb2⟩ : ∃ b2, b2 = w.heap.size + 1 + 1 + 1 := ⟨_, rfl⟩
  have HM0 := Lib.hid hm0
  have HB1 := Lib.hid hb1
  have HB2 := Lib.hid hb2
  rw [← hb2] at HN3 ⊢
  rw [← hb1] at HN2 ⊢
  rw [← hm0] at HNM ⊢
  clear hb1 hb2 hm0
  have c0 : w2.cell? ⟨w.heap.size, 0, none⟩ = some (.int .i64 n) := blk_cell HN1.out 0
  have c1 : w2.cell? ⟨w.heap.size, 1, none⟩ = some (.slice LA ln lc) := blk_cell HN1.out 1
  have c2 : w2.cell? ⟨w.heap.size, 2, none⟩ = some (.slice GA gn gc) := blk_cell HN1.out 2
  have e0 : w2.cell? ⟨m0, 0, none⟩ = some (.int .i64 mk) := blk_cell HNM.out 0
  have e1 : w2.cell? ⟨m0, 1, none⟩ = some (.int .i64 mp) := blk_cell HNM.out 1
  have e2 : w2.cell? ⟨m0, 2, none⟩ = some (.int .i64 ms) := blk_cell HNM.out 2
  have z0 := blk_frozen HN2.out 0
  have z1 := blk_frozen HN2.out 1
  have z2 := blk_frozen HN2.out 2
  have q0 : w2.cell? ⟨b1, 0, none⟩ = some (.int .i64 0) := blk_cell HN2.out 0
  have q1 : w2.cell? ⟨b1, 1, none⟩ = some (.slice none 0 0) := blk_cell HN2.out 1
  have q2 : w2.cell? ⟨b1, 2, none⟩ = some (.slice none 0 0) := blk_cell HN2.out 2
  have x0 := blk_frozen HN3.out 0
  have x1 := blk_frozen HN3.out 1
  have x2 := blk_frozen HN3.out 2
  have x3 := blk_frozen HN3.out 3
  have x4 := blk_frozen HN3.out 4
  have y0 : w2.cell? ⟨b2, 0, none⟩ = some (.int .i64 0) := blk_cell HN3.out 0
  have y1 : w2.cell? ⟨b2, 1, none⟩ = some (.int .i64 0) := blk_cell HN3.out 1
  have y2 : w2.cell? ⟨b2, 2, none⟩ = some (.int .i64 0) := blk_cell HN3.out 2
  have y3 : w2.cell? ⟨b2, 3, none⟩ = some (.string ⟨#[]⟩) := blk_cell HN3.out 3
  have y4 : w2.cell? ⟨b2, 4, none⟩ = some (.int .i64 0) := blk_cell HN3.out 4
  have hne12 : ¬ b1 = b2 := by have := HB1.out; have := HB2.out; omega
  have hne21 : ¬ b2 = b1 := by have := HB1.out; have := HB2.out; omega
  go_wp2
  have h3 := set3 (x := .int .i64 n) (y := .slice LA ln lc) (z := .slice GA gn gc) HN2.out
  have hF3 := set3_frx w2 b1 (.int .i64 n) (.slice LA ln lc) (.slice GA gn gc)
  have h5 := set5 (a := .int .i64 0) (b := .int .i64 0) (c := .int .i64 0) (d := .string ⟨#[]⟩) (e := .int .i64 0) (hF3.blk HN3.out hne21)
  have hF5 := set5_fr (((w2.setCell ⟨b1, 0, none⟩ (.int .i64 n)).setCell ⟨b1, 1, none⟩ (.slice LA ln lc)).setCell ⟨b1, 2, none⟩ (.slice GA gn gc)) b2 (.int .i64 0) (.int .i64 0) (.int .i64 0) (.string ⟨#[]⟩) (.int .i64 0)
  refine rhear_end (m := zMsg) (hF5.blk h3 hne12) h5 rfl rfl rfl ⟨rfl, ?_⟩
  exact HF.out.trans' (hF3.trans' hF5 (S'' := fun k => k = b1 ∨ k = b2) (fun _ _ h => .inl h) (fun _ _ h => .inr h)) (fun _ _ h => h) (fun k hk e => by have := HB1.out; have := HB2.out; rcases e with e | e <;> omega)

set_option maxRecDepth 100000 in
set_option maxHeartbeats 4000000 in
theorem rhear_far (w : World) (n : Int) (LA GA : Option Addr) (ln lc gn gc : Nat) (m : Msg) (hp : m.peer = n) (hs : 0 ≤ m.seq) (hk : m.kind = 2) (hf : ¬ m.seq < (ln : Int)) :
    Calls Try.prog 43 #[.agg #[.int .i64 n, .slice LA ln lc, .slice GA gn gc], .agg #[.int .i64 m.kind, .int .i64 m.peer, .int .i64 m.seq, .string m.key, .int .i64 m.n]] w (RDeafPost w (rpeer n LA ln lc GA gn gc)) := by
  obtain ⟨mk, mp, ms, mt, mn⟩ := m
  simp only at *
  have hpb : (mp != n) = false := by simpa using hp
  have hk2 : (mk == 2) = true := by simpa using hk
  clear hp hk
  have hs' : ¬ ms < 0 := by omega
  clear hs
  obtain ⟨w2, he, hn1, hnm, hn2, hn3, hF, hsz⟩ := alloc4 w (.cells #[.int .i64 n, .slice LA ln lc, .slice GA gn gc] 79) (.cells #[.int .i64 mk, .int .i64 mp, .int .i64 ms, .string mt, .int .i64 mn] 71) (.cells #[.int .i64 0, .slice none 0 0, .slice none 0 0] 79) (.cells #[.int .i64 0, .int .i64 0, .int .i64 0, .string ⟨#[]⟩, .int .i64 0] 71)
  have HE := Lib.hid he
  have HF := Lib.hid hF
  have HN1 := Lib.hid hn1
  have HNM := Lib.hid hnm
  have HN2 := Lib.hid hn2
  have HN3 := Lib.hid hn3
  have HSZ := Lib.hid hsz
  clear he hF hsz hn1 hn2 hn3 hnm
  go_enter Try.func43, Try.ntmps43
  go_upto_region 1 with (fail)
  rw [HE.out]
  obtain ⟨m0, hm0⟩ : ∃ m0, m0 = w.heap.size + 1 := ⟨_, rfl⟩
  obtain ⟨b1, hb1⟩ : ∃ b1, b1 = w.heap.size + 1 + 1 := ⟨_, rfl⟩
  obtain ⟨b2, hb2⟩ : ∃ b2, b2 = w.heap.size + 1 + 1 + 1 := ⟨_, rfl⟩
  have HM0 := Lib.hid hm0
  have HB1 := Lib.hid hb1
  have HB2 := Lib.hid hb2
  rw [← hb2] at HN3 ⊢
  rw [← hb1] at HN2 ⊢
  rw [← hm0] at HNM ⊢
  clear hb1 hb2 hm0
  have c0 : w2.cell? ⟨w.heap.size, 0, none⟩ = some (.int .i64 n) := blk_cell HN1.out 0
  have c1 : w2.cell? ⟨w.heap.size, 1, none⟩ = some (.slice LA ln lc) := blk_cell HN1.out 1
  have c2 : w2.cell? ⟨w.heap.size, 2, none⟩ = some (.slice GA gn gc) := blk_cell HN1.out 2
  have e0 : w2.cell? ⟨m0, 0, none⟩ = some (.int .i64 mk) := blk_cell HNM.out 0
  have e1 : w2.cell? ⟨m0, 1, none⟩ = some (.int .i64 mp) := blk_cell HNM.out 1
  have e2 : w2.cell? ⟨m0, 2, none⟩ = some (.int .i64 ms) := blk_cell HNM.out 2
  have z0 := blk_frozen HN2.out 0
  have z1 := blk_frozen HN2.out 1
  have z2 := blk_frozen HN2.out 2
  have q0 : w2.cell? ⟨b1, 0, none⟩ = some (.int .i64 0) := blk_cell HN2.out 0
  have q1 : w2.cell? ⟨b1, 1, none⟩ = some (.slice none 0 0) := blk_cell HN2.out 1
  have q2 : w2.cell? ⟨b1, 2, none⟩ = some (.slice none 0 0) := blk_cell HN2.out 2
  have x0 := blk_frozen HN3.out 0
  have x1 := blk_frozen HN3.out 1
  have x2 := blk_frozen HN3.out 2
  have x3 := blk_frozen HN3.out 3
  have x4 := blk_frozen HN3.out 4
  have y0 : w2.cell? ⟨b2, 0, none⟩ = some (.int .i64 0) := blk_cell HN3.out 0
  have y1 : w2.cell? ⟨b2, 1, none⟩ = some (.int .i64 0) := blk_cell HN3.out 1
  have y2 : w2.cell? ⟨b2, 2, none⟩ = some (.int .i64 0) := blk_cell HN3.out 2
  have y3 : w2.cell? ⟨b2, 3, none⟩ = some (.string ⟨#[]⟩) := blk_cell HN3.out 3
  have y4 : w2.cell? ⟨b2, 4, none⟩ = some (.int .i64 0) := blk_cell HN3.out 4
  have hne12 : ¬ b1 = b2 := by have := HB1.out; have := HB2.out; omega
  have hne21 : ¬ b2 = b1 := by have := HB1.out; have := HB2.out; omega
  go_wp2
  have h3 := set3 (x := .int .i64 n) (y := .slice LA ln lc) (z := .slice GA gn gc) HN2.out
  have hF3 := set3_frx w2 b1 (.int .i64 n) (.slice LA ln lc) (.slice GA gn gc)
  have h5 := set5 (a := .int .i64 0) (b := .int .i64 0) (c := .int .i64 0) (d := .string ⟨#[]⟩) (e := .int .i64 0) (hF3.blk HN3.out hne21)
  have hF5 := set5_fr (((w2.setCell ⟨b1, 0, none⟩ (.int .i64 n)).setCell ⟨b1, 1, none⟩ (.slice LA ln lc)).setCell ⟨b1, 2, none⟩ (.slice GA gn gc)) b2 (.int .i64 0) (.int .i64 0) (.int .i64 0) (.string ⟨#[]⟩) (.int .i64 0)
  refine rhear_end (m := zMsg) (hF5.blk h3 hne12) h5 rfl rfl rfl ⟨rfl, ?_⟩
  exact HF.out.trans' (hF3.trans' hF5 (S'' := fun k => k = b1 ∨ k = b2) (fun _ _ h => .inl h) (fun _ _ h => .inr h)) (fun _ _ h => h) (fun k hk e => by have := HB1.out; have := HB2.out; rcases e with e | e <;> omega)
end Go.Proofs.Ytedmhhllkkgbjaa
