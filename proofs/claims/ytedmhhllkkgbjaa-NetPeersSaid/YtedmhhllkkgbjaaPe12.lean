/- net.Peer.Offer. -/
import Derived.Test.YtedmhhllkkgbjaaPe11
namespace Go.Proofs.Ytedmhhllkkgbjaa
open Go.RowKit Go.WideShapes
set_option linter.unusedSimpArgs false
set_option linter.unusedVariables false

def badOffer (key : ByteArray) (n : Int) : Bool := decide ((key.size : Int) < 1) || decide (16 < (key.size : Int)) || decide (n < 1) || decide (1125899906842624 < n)
def RefusePost (w : World) (r : Int) (e : Ending) (w' : World) : Prop := e = .returned (.tuple #[zmsg, .int .i64 r]) ∧ Fr (fun _ => False) w w'

set_option maxRecDepth 100000 in
set_option maxHeartbeats 4000000 in
theorem offer_bad {w : World} {g : Nat} {n : Int} {S : Value} {bw bg kw kg : Nat} {Dw Dg : DataW Msg} (h : PeerAt w g n S bw bg kw kg Dw Dg) (hn : n ≠ 0) (key : ByteArray) (x : Int)
    (hb : (key.size : Int) < 1 ∨ (¬ (key.size : Int) < 1 ∧ 16 < (key.size : Int)) ∨ (¬ (key.size : Int) < 1 ∧ ¬ 16 < (key.size : Int) ∧ x < 1) ∨ (¬ (key.size : Int) < 1 ∧ ¬ 16 < (key.size : Int) ∧ ¬ x < 1 ∧ 1125899906842624 < x)) :
    Calls Try.prog 41 #[.pointer (some ⟨g, 0, none⟩), .string key, .int .i64 x] w (RefusePost w 1) := by
  have HH := Lib.hid h
  clear h
  have hkn : True := trivial
  obtain ⟨w2, he, hn2, hF, hsz⟩ := alloc1 w (.cells #[.int .i64 0, .int .i64 0, .int .i64 0, .string ⟨#[]⟩, .int .i64 0] 71)
  have HE := Lib.hid he
  have H2 := Lib.hid (HH.out.fr0 hF)
  have HF := Lib.hid hF
  have HN2 := Lib.hid hn2
  clear he hF hsz hn2
  rcases hb with h1 | ⟨h1, h2⟩ | ⟨h1, h2, h3⟩ | ⟨h1, h2, h3, h4⟩
  all_goals
    go_enter Try.func41, Try.ntmps41
    go_wp2_with fail
    rw [HE.out]
    refine (peer_some H2.out.box hn).mono ?_
    rintro e w' ⟨rfl, rfl⟩
    have z0 := blk_frozen HN2.out 0
    have z1 := blk_frozen HN2.out 1
    have z2 := blk_frozen HN2.out 2
    have z3 := blk_frozen HN2.out 3
    have z4 := blk_frozen HN2.out 4
    have q0 : w'.cell? ⟨w.heap.size, 0, none⟩ = some (.int .i64 0) := blk_cell HN2.out 0
    have q1 : w'.cell? ⟨w.heap.size, 1, none⟩ = some (.int .i64 0) := blk_cell HN2.out 1
    have q2 : w'.cell? ⟨w.heap.size, 2, none⟩ = some (.int .i64 0) := blk_cell HN2.out 2
    have q3 : w'.cell? ⟨w.heap.size, 3, none⟩ = some (.string ⟨#[]⟩) := blk_cell HN2.out 3
    have q4 : w'.cell? ⟨w.heap.size, 4, none⟩ = some (.int .i64 0) := blk_cell HN2.out 4
    go_wp2
    have hn6 := set5 (a := .int .i64 0) (b := .int .i64 0) (c := .int .i64 0) (d := .string ⟨#[]⟩) (e := .int .i64 0) HN2.out
    have hF6 := set5_fr w' w.heap.size (.int .i64 0) (.int .i64 0) (.int .i64 0) (.string ⟨#[]⟩) (.int .i64 0)
    have hF7 : Fr (fun _ => False) w _ := HF.out.trans hF6 (fun k hk e => by omega)
    clear hF6
    generalize (((((w'.setCell ⟨w.heap.size, 0, none⟩ (.int .i64 0)).setCell ⟨w.heap.size, 1, none⟩ (.int .i64 0)).setCell ⟨w.heap.size, 2, none⟩ (.int .i64 0)).setCell ⟨w.heap.size, 3, none⟩ (.string ⟨#[]⟩)).setCell ⟨w.heap.size, 4, none⟩ (.int .i64 0)) = w6 at *
    have r0 : w6.cell? ⟨w.heap.size, 0, none⟩ = some (.int .i64 0) := blk_cell hn6 0
    have r1 : w6.cell? ⟨w.heap.size, 1, none⟩ = some (.int .i64 0) := blk_cell hn6 1
    have r2 : w6.cell? ⟨w.heap.size, 2, none⟩ = some (.int .i64 0) := blk_cell hn6 2
    have r3 : w6.cell? ⟨w.heap.size, 3, none⟩ = some (.string ⟨#[]⟩) := blk_cell hn6 3
    have r4 : w6.cell? ⟨w.heap.size, 4, none⟩ = some (.int .i64 0) := blk_cell hn6 4
    exact bodyPost_ret (v := .tuple #[zmsg, .int .i64 1]) (by simp [results, Try.results41, go_sem, r0, r1, r2, r3, r4, zmsg]) rfl ⟨rfl, hF7⟩

set_option maxRecDepth 100000 in
set_option maxHeartbeats 4000000 in
theorem offer_full {w : World} {g : Nat} {n : Int} {S : Value} {bw bg kw kg : Nat} {Dw Dg : DataW Msg} (h : PeerAt w g n S bw bg kw kg Dw Dg) (hn : n ≠ 0) (key : ByteArray) (x : Int)
    (h1 : ¬ (key.size : Int) < 1) (h2 : ¬ 16 < (key.size : Int)) (h3 : ¬ x < 1) (h4 : ¬ 1125899906842624 < x) (h5 : 64 ≤ (Maps.size Dw : Int)) :
    Calls Try.prog 41 #[.pointer (some ⟨g, 0, none⟩), .string key, .int .i64 x] w (RefusePost w 214) := by
  have HH := Lib.hid h
  clear h
  obtain ⟨w2, he, hn2, hF, hsz⟩ := alloc1 w (.cells #[.int .i64 0, .int .i64 0, .int .i64 0, .string ⟨#[]⟩, .int .i64 0] 71)
  have HE := Lib.hid he
  have H2 := Lib.hid (HH.out.fr0 hF)
  have HF := Lib.hid hF
  have HN2 := Lib.hid hn2
  clear he hF hsz hn2
  go_enter Try.func41, Try.ntmps41
  go_wp2_with fail
  rw [HE.out]
  refine (peer_some H2.out.box hn).mono ?_
  rintro e w' ⟨rfl, rfl⟩
  have z0 := blk_frozen HN2.out 0
  have z1 := blk_frozen HN2.out 1
  have z2 := blk_frozen HN2.out 2
  have z3 := blk_frozen HN2.out 3
  have z4 := blk_frozen HN2.out 4
  have q0 : w'.cell? ⟨w.heap.size, 0, none⟩ = some (.int .i64 0) := blk_cell HN2.out 0
  have q1 : w'.cell? ⟨w.heap.size, 1, none⟩ = some (.int .i64 0) := blk_cell HN2.out 1
  have q2 : w'.cell? ⟨w.heap.size, 2, none⟩ = some (.int .i64 0) := blk_cell HN2.out 2
  have q3 : w'.cell? ⟨w.heap.size, 3, none⟩ = some (.string ⟨#[]⟩) := blk_cell HN2.out 3
  have q4 : w'.cell? ⟨w.heap.size, 4, none⟩ = some (.int .i64 0) := blk_cell HN2.out 4
  have d2 : w'.cell? ⟨g, 2, none⟩ = some (.map (some bw)) := blk_cell H2.out.box 2
  have hlen := H2.out.waits.len Try.underlying100 3
  go_wp2
  have hn6 := set5 (a := .int .i64 0) (b := .int .i64 0) (c := .int .i64 0) (d := .string ⟨#[]⟩) (e := .int .i64 0) HN2.out
  have hF6 := set5_fr w' w.heap.size (.int .i64 0) (.int .i64 0) (.int .i64 0) (.string ⟨#[]⟩) (.int .i64 0)
  have hF7 : Fr (fun _ => False) w _ := HF.out.trans hF6 (fun k hk e => by omega)
  clear hF6
  generalize (((((w'.setCell ⟨w.heap.size, 0, none⟩ (.int .i64 0)).setCell ⟨w.heap.size, 1, none⟩ (.int .i64 0)).setCell ⟨w.heap.size, 2, none⟩ (.int .i64 0)).setCell ⟨w.heap.size, 3, none⟩ (.string ⟨#[]⟩)).setCell ⟨w.heap.size, 4, none⟩ (.int .i64 0)) = w6 at *
  have r0 : w6.cell? ⟨w.heap.size, 0, none⟩ = some (.int .i64 0) := blk_cell hn6 0
  have r1 : w6.cell? ⟨w.heap.size, 1, none⟩ = some (.int .i64 0) := blk_cell hn6 1
  have r2 : w6.cell? ⟨w.heap.size, 2, none⟩ = some (.int .i64 0) := blk_cell hn6 2
  have r3 : w6.cell? ⟨w.heap.size, 3, none⟩ = some (.string ⟨#[]⟩) := blk_cell hn6 3
  have r4 : w6.cell? ⟨w.heap.size, 4, none⟩ = some (.int .i64 0) := blk_cell hn6 4
  exact bodyPost_ret (v := .tuple #[zmsg, .int .i64 214]) (by simp [results, Try.results41, go_sem, r0, r1, r2, r3, r4, zmsg]) rfl ⟨rfl, hF7⟩
end Go.Proofs.Ytedmhhllkkgbjaa
