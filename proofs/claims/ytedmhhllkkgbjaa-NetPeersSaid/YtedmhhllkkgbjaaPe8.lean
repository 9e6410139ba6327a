/- net.Peer.Hear of all else. -/
import Derived.Test.YtedmhhllkkgbjaaPe6
namespace Go.Proofs.Ytedmhhllkkgbjaa
open Go.RowKit Go.WideShapes
set_option linter.unusedSimpArgs false
set_option linter.unusedVariables false

def DeafPost (w : World) (e : Ending) (w' : World) : Prop := e = .returned (.tuple #[zmsg, .bool false]) ∧ Fr (fun _ => False) w w'
set_option maxRecDepth 100000 in
set_option maxHeartbeats 4000000 in
theorem hear_peer {w : World} {g : Nat} {n : Int} {S : Value} {bw bg kw kg : Nat} {Dw Dg : DataW Msg} (h : PeerAt w g n S bw bg kw kg Dw Dg) (hn : n ≠ 0) (m : Msg) (hp : m.peer ≠ n) : Calls Try.prog 38 #[.pointer (some ⟨g, 0, none⟩), .agg #[.int .i64 m.kind, .int .i64 m.peer, .int .i64 m.seq, .string m.key, .int .i64 m.n]] w (DeafPost w) := by
  obtain ⟨mk, mp, ms, mt, mn⟩ := m
  simp only at *
  have HH := Lib.hid h
  clear h
  go_enter Try.func38, Try.ntmps38
  go_wp2
  obtain ⟨w2, he, hn1, hn2, hF, hsz⟩ := alloc2 w (.cells #[.int .i64 mk, .int .i64 mp, .int .i64 ms, .string mt, .int .i64 mn] 71) (.cells #[.int .i64 0, .int .i64 0, .int .i64 0, .string ⟨#[]⟩, .int .i64 0] 71)
  rw [he]
  have H2 := Lib.hid (HH.out.fr0 hF)
  have HF := Lib.hid hF
  have hgl : g < w.heap.size := blk_lt HH.out.box
  clear he hF hsz
  generalize hg2 : w.heap.size + 1 = g2 at hn2 ⊢
  have HG2 := Lib.hid hg2
  clear hg2
  generalize hg1 : w.heap.size = g1 at hn1 hgl ⊢
  have HG1 := Lib.hid hg1
  clear hg1
  have c0 : w2.cell? ⟨g1, 0, none⟩ = some (.int .i64 mk) := blk_cell hn1 0
  have c1 : w2.cell? ⟨g1, 1, none⟩ = some (.int .i64 mp) := blk_cell hn1 1
  have c2 : w2.cell? ⟨g1, 2, none⟩ = some (.int .i64 ms) := blk_cell hn1 2
  have d0 : w2.cell? ⟨g, 0, none⟩ = some (.int .i64 n) := blk_cell H2.out.box 0
  have HN1 := Lib.hid hn1
  have HN2 := Lib.hid hn2
  clear hn1 hn2
  have hpb : (mp == n) = false := by simpa using hp
  go_quiet ((go_at_call 61; exact Calls.quiet_of_same (peer_some (((Fr.refl (fun _ => False) w2).drewN _).blk0 H2.out.box) hn)))
  have z0 := blk_frozen (w := w2.drewN nq) HN2.out 0
  have z1 := blk_frozen (w := w2.drewN nq) HN2.out 1
  have z2 := blk_frozen (w := w2.drewN nq) HN2.out 2
  have z3 := blk_frozen (w := w2.drewN nq) HN2.out 3
  have z4 := blk_frozen (w := w2.drewN nq) HN2.out 4
  have hn2' : (w2.drewN nq).heap[g2]? = some (.cells #[.int .i64 0, .int .i64 0, .int .i64 0, .string ⟨#[]⟩, .int .i64 0] 71 (0, 0)) := HN2.out
  have q0 : (w2.drewN nq).cell? ⟨g2, 0, none⟩ = some (.int .i64 0) := blk_cell hn2' 0
  have q1 : (w2.drewN nq).cell? ⟨g2, 1, none⟩ = some (.int .i64 0) := blk_cell hn2' 1
  have q2 : (w2.drewN nq).cell? ⟨g2, 2, none⟩ = some (.int .i64 0) := blk_cell hn2' 2
  have q3 : (w2.drewN nq).cell? ⟨g2, 3, none⟩ = some (.string ⟨#[]⟩) := blk_cell hn2' 3
  have q4 : (w2.drewN nq).cell? ⟨g2, 4, none⟩ = some (.int .i64 0) := blk_cell hn2' 4
  have k0 : (w2.drewN nq).cell? ⟨g1, 0, none⟩ = some (.int .i64 mk) := c0
  have HF' : Hid (Fr (fun _ => False) w (w2.drewN nq)) := HF.out.drewN nq
  have HN2' := Lib.hid hn2'
  clear hn2' HN1 HN2 H2 HF c0 c1 c2 d0
  go_wp2
  have hn6 := set5 (a := .int .i64 0) (b := .int .i64 0) (c := .int .i64 0) (d := .string ⟨#[]⟩) (e := .int .i64 0) HN2'.out
  have hF6 := set5_fr (w2.drewN nq) g2 (.int .i64 0) (.int .i64 0) (.int .i64 0) (.string ⟨#[]⟩) (.int .i64 0)
  have hF7 : Fr (fun _ => False) w _ := HF'.out.trans hF6 (fun k hk e => by have := HG2.out; have := HG1.out; omega)
  clear hF6 HN2' HF'
  generalize (((((w2.drewN nq).setCell ⟨g2, 0, none⟩ (.int .i64 0)).setCell ⟨g2, 1, none⟩ (.int .i64 0)).setCell ⟨g2, 2, none⟩ (.int .i64 0)).setCell ⟨g2, 3, none⟩ (.string ⟨#[]⟩)).setCell ⟨g2, 4, none⟩ (.int .i64 0) = w6 at *
  have r0 : w6.cell? ⟨g2, 0, none⟩ = some (.int .i64 0) := blk_cell hn6 0
  have r1 : w6.cell? ⟨g2, 1, none⟩ = some (.int .i64 0) := blk_cell hn6 1
  have r2 : w6.cell? ⟨g2, 2, none⟩ = some (.int .i64 0) := blk_cell hn6 2
  have r3 : w6.cell? ⟨g2, 3, none⟩ = some (.string ⟨#[]⟩) := blk_cell hn6 3
  have r4 : w6.cell? ⟨g2, 4, none⟩ = some (.int .i64 0) := blk_cell hn6 4
  exact bodyPost_ret (v := .tuple #[zmsg, .bool false]) (by simp [results, Try.results38, go_sem, r0, r1, r2, r3, r4, zmsg]) rfl ⟨rfl, hF7⟩
set_option maxRecDepth 100000 in
set_option maxHeartbeats 4000000 in
theorem hear_neg {w : World} {g : Nat} {n : Int} {S : Value} {bw bg kw kg : Nat} {Dw Dg : DataW Msg} (h : PeerAt w g n S bw bg kw kg Dw Dg) (hn : n ≠ 0) (m : Msg) (hp : m.peer = n) (hs : m.seq < 0) : Calls Try.prog 38 #[.pointer (some ⟨g, 0, none⟩), .agg #[.int .i64 m.kind, .int .i64 m.peer, .int .i64 m.seq, .string m.key, .int .i64 m.n]] w (DeafPost w) := by
  obtain ⟨mk, mp, ms, mt, mn⟩ := m
  simp only at *
  have HH := Lib.hid h
  clear h
  subst hp
  go_enter Try.func38, Try.ntmps38
  go_wp2
  obtain ⟨w2, he, hn1, hn2, hF, hsz⟩ := alloc2 w (.cells #[.int .i64 mk, .int .i64 mp, .int .i64 ms, .string mt, .int .i64 mn] 71) (.cells #[.int .i64 0, .int .i64 0, .int .i64 0, .string ⟨#[]⟩, .int .i64 0] 71)
  rw [he]
  have H2 := Lib.hid (HH.out.fr0 hF)
  have HF := Lib.hid hF
  have hgl : g < w.heap.size := blk_lt HH.out.box
  clear he hF hsz
  generalize hg2 : w.heap.size + 1 = g2 at hn2 ⊢
  have HG2 := Lib.hid hg2
  clear hg2
  generalize hg1 : w.heap.size = g1 at hn1 hgl ⊢
  have HG1 := Lib.hid hg1
  clear hg1
  have c0 : w2.cell? ⟨g1, 0, none⟩ = some (.int .i64 mk) := blk_cell hn1 0
  have c1 : w2.cell? ⟨g1, 1, none⟩ = some (.int .i64 mp) := blk_cell hn1 1
  have c2 : w2.cell? ⟨g1, 2, none⟩ = some (.int .i64 ms) := blk_cell hn1 2
  have d0 : w2.cell? ⟨g, 0, none⟩ = some (.int .i64 mp) := blk_cell H2.out.box 0
  have HN1 := Lib.hid hn1
  have HN2 := Lib.hid hn2
  clear hn1 hn2
  go_quiet ((go_at_call 61; exact Calls.quiet_of_same (peer_some (((Fr.refl (fun _ => False) w2).drewN _).blk0 H2.out.box) hn)))
  have z0 := blk_frozen (w := w2.drewN nq) HN2.out 0
  have z1 := blk_frozen (w := w2.drewN nq) HN2.out 1
  have z2 := blk_frozen (w := w2.drewN nq) HN2.out 2
  have z3 := blk_frozen (w := w2.drewN nq) HN2.out 3
  have z4 := blk_frozen (w := w2.drewN nq) HN2.out 4
  have hn2' : (w2.drewN nq).heap[g2]? = some (.cells #[.int .i64 0, .int .i64 0, .int .i64 0, .string ⟨#[]⟩, .int .i64 0] 71 (0, 0)) := HN2.out
  have q0 : (w2.drewN nq).cell? ⟨g2, 0, none⟩ = some (.int .i64 0) := blk_cell hn2' 0
  have q1 : (w2.drewN nq).cell? ⟨g2, 1, none⟩ = some (.int .i64 0) := blk_cell hn2' 1
  have q2 : (w2.drewN nq).cell? ⟨g2, 2, none⟩ = some (.int .i64 0) := blk_cell hn2' 2
  have q3 : (w2.drewN nq).cell? ⟨g2, 3, none⟩ = some (.string ⟨#[]⟩) := blk_cell hn2' 3
  have q4 : (w2.drewN nq).cell? ⟨g2, 4, none⟩ = some (.int .i64 0) := blk_cell hn2' 4
  have k0 : (w2.drewN nq).cell? ⟨g1, 0, none⟩ = some (.int .i64 mk) := c0
  have HF' : Hid (Fr (fun _ => False) w (w2.drewN nq)) := HF.out.drewN nq
  have HN2' := Lib.hid hn2'
  clear hn2' HN1 HN2 H2 HF c0 c1 c2 d0
  go_wp2
  have hn6 := set5 (a := .int .i64 0) (b := .int .i64 0) (c := .int .i64 0) (d := .string ⟨#[]⟩) (e := .int .i64 0) HN2'.out
  have hF6 := set5_fr (w2.drewN nq) g2 (.int .i64 0) (.int .i64 0) (.int .i64 0) (.string ⟨#[]⟩) (.int .i64 0)
  have hF7 : Fr (fun _ => False) w _ := HF'.out.trans hF6 (fun k hk e => by have := HG2.out; have := HG1.out; omega)
  clear hF6 HN2' HF'
  generalize (((((w2.drewN nq).setCell ⟨g2, 0, none⟩ (.int .i64 0)).setCell ⟨g2, 1, none⟩ (.int .i64 0)).setCell ⟨g2, 2, none⟩ (.int .i64 0)).setCell ⟨g2, 3, none⟩ (.string ⟨#[]⟩)).setCell ⟨g2, 4, none⟩ (.int .i64 0) = w6 at *
  have r0 : w6.cell? ⟨g2, 0, none⟩ = some (.int .i64 0) := blk_cell hn6 0
  have r1 : w6.cell? ⟨g2, 1, none⟩ = some (.int .i64 0) := blk_cell hn6 1
  have r2 : w6.cell? ⟨g2, 2, none⟩ = some (.int .i64 0) := blk_cell hn6 2
  have r3 : w6.cell? ⟨g2, 3, none⟩ = some (.string ⟨#[]⟩) := blk_cell hn6 3
  have r4 : w6.cell? ⟨g2, 4, none⟩ = some (.int .i64 0) := blk_cell hn6 4
  exact bodyPost_ret (v := .tuple #[zmsg, .bool false]) (by simp [results, Try.results38, go_sem, r0, r1, r2, r3, r4, zmsg]) rfl ⟨rfl, hF7⟩
set_option maxRecDepth 100000 in
set_option maxHeartbeats 4000000 in
theorem hear_else {w : World} {g : Nat} {n : Int} {S : Value} {bw bg kw kg : Nat} {Dw Dg : DataW Msg} (h : PeerAt w g n S bw bg kw kg Dw Dg) (hn : n ≠ 0) (m : Msg) (hp : m.peer = n) (hs : 0 ≤ m.seq) (hk1 : m.kind ≠ 1) (hk2 : m.kind ≠ 2) : Calls Try.prog 38 #[.pointer (some ⟨g, 0, none⟩), .agg #[.int .i64 m.kind, .int .i64 m.peer, .int .i64 m.seq, .string m.key, .int .i64 m.n]] w (DeafPost w) := by
  obtain ⟨mk, mp, ms, mt, mn⟩ := m
  simp only at *
  have HH := Lib.hid h
  clear h
  subst hp
  have hs' : ¬ ms < 0 := by omega
  have hk1' : (mk == 1) = false := by simpa using hk1
  have hk2' : (mk == 2) = false := by simpa using hk2
  go_enter Try.func38, Try.ntmps38
  go_wp2
  obtain ⟨w2, he, hn1, hn2, hF, hsz⟩ := alloc2 w (.cells #[.int .i64 mk, .int .i64 mp, .int .i64 ms, .string mt, .int .i64 mn] 71) (.cells #[.int .i64 0, .int .i64 0, .int .i64 0, .string ⟨#[]⟩, .int .i64 0] 71)
  rw [he]
  have H2 := Lib.hid (HH.out.fr0 hF)
  have HF := Lib.hid hF
  have hgl : g < w.heap.size := blk_lt HH.out.box
  clear he hF hsz
  generalize hg2 : w.heap.size + 1 = g2 at hn2 ⊢
  have HG2 := Lib.hid hg2
  clear hg2
  generalize hg1 : w.heap.size = g1 at hn1 hgl ⊢
  have HG1 := Lib.hid hg1
  clear hg1
  have c0 : w2.cell? ⟨g1, 0, none⟩ = some (.int .i64 mk) := blk_cell hn1 0
  have c1 : w2.cell? ⟨g1, 1, none⟩ = some (.int .i64 mp) := blk_cell hn1 1
  have c2 : w2.cell? ⟨g1, 2, none⟩ = some (.int .i64 ms) := blk_cell hn1 2
  have d0 : w2.cell? ⟨g, 0, none⟩ = some (.int .i64 mp) := blk_cell H2.out.box 0
  have HN1 := Lib.hid hn1
  have HN2 := Lib.hid hn2
  clear hn1 hn2
  go_quiet ((go_at_call 61; exact Calls.quiet_of_same (peer_some (((Fr.refl (fun _ => False) w2).drewN _).blk0 H2.out.box) hn)))
  have z0 := blk_frozen (w := w2.drewN nq) HN2.out 0
  have z1 := blk_frozen (w := w2.drewN nq) HN2.out 1
  have z2 := blk_frozen (w := w2.drewN nq) HN2.out 2
  have z3 := blk_frozen (w := w2.drewN nq) HN2.out 3
  have z4 := blk_frozen (w := w2.drewN nq) HN2.out 4
  have hn2' : (w2.drewN nq).heap[g2]? = some (.cells #[.int .i64 0, .int .i64 0, .int .i64 0, .string ⟨#[]⟩, .int .i64 0] 71 (0, 0)) := HN2.out
  have q0 : (w2.drewN nq).cell? ⟨g2, 0, none⟩ = some (.int .i64 0) := blk_cell hn2' 0
  have q1 : (w2.drewN nq).cell? ⟨g2, 1, none⟩ = some (.int .i64 0) := blk_cell hn2' 1
  have q2 : (w2.drewN nq).cell? ⟨g2, 2, none⟩ = some (.int .i64 0) := blk_cell hn2' 2
  have q3 : (w2.drewN nq).cell? ⟨g2, 3, none⟩ = some (.string ⟨#[]⟩) := blk_cell hn2' 3
  have q4 : (w2.drewN nq).cell? ⟨g2, 4, none⟩ = some (.int .i64 0) := blk_cell hn2' 4
  have k0 : (w2.drewN nq).cell? ⟨g1, 0, none⟩ = some (.int .i64 mk) := c0
  have HF' : Hid (Fr (fun _ => False) w (w2.drewN nq)) := HF.out.drewN nq
  have HN2' := Lib.hid hn2'
  clear hn2' HN1 HN2 H2 HF c0 c1 c2 d0
  go_wp2
  have hn6 := set5 (a := .int .i64 0) (b := .int .i64 0) (c := .int .i64 0) (d := .string ⟨#[]⟩) (e := .int .i64 0) HN2'.out
  have hF6 := set5_fr (w2.drewN nq) g2 (.int .i64 0) (.int .i64 0) (.int .i64 0) (.string ⟨#[]⟩) (.int .i64 0)
  have hF7 : Fr (fun _ => False) w _ := HF'.out.trans hF6 (fun k hk e => by have := HG2.out; have := HG1.out; omega)
  clear hF6 HN2' HF'
  generalize (((((w2.drewN nq).setCell ⟨g2, 0, none⟩ (.int .i64 0)).setCell ⟨g2, 1, none⟩ (.int .i64 0)).setCell ⟨g2, 2, none⟩ (.int .i64 0)).setCell ⟨g2, 3, none⟩ (.string ⟨#[]⟩)).setCell ⟨g2, 4, none⟩ (.int .i64 0) = w6 at *
  have r0 : w6.cell? ⟨g2, 0, none⟩ = some (.int .i64 0) := blk_cell hn6 0
  have r1 : w6.cell? ⟨g2, 1, none⟩ = some (.int .i64 0) := blk_cell hn6 1
  have r2 : w6.cell? ⟨g2, 2, none⟩ = some (.int .i64 0) := blk_cell hn6 2
  have r3 : w6.cell? ⟨g2, 3, none⟩ = some (.string ⟨#[]⟩) := blk_cell hn6 3
  have r4 : w6.cell? ⟨g2, 4, none⟩ = some (.int .i64 0) := blk_cell hn6 4
  exact bodyPost_ret (v := .tuple #[zmsg, .bool false]) (by simp [results, Try.results38, go_sem, r0, r1, r2, r3, r4, zmsg]) rfl ⟨rfl, hF7⟩
end Go.Proofs.Ytedmhhllkkgbjaa
