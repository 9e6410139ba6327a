/- The calls on a Net and on a Peer that nobody made. -/
import Derived.Test.YtedmhhllkkgbjaaNet7
namespace Go.Proofs.Ytedmhhllkkgbjaa
open Go.RowKit

/-- a Net that nobody made -/
def NoNet (w : World) (v : Value) : Prop := v = .pointer none ∨ ∃ g, v = .pointer (some ⟨g, 0, none⟩) ∧ w.heap[g]? = some (.cells #[.slice none 0 0, .bool false] 96 (0, 0))
theorem NoNet.fr {w w' : World} {v : Value} (h : NoNet w v) (hF : Fr (fun _ => False) w w') : NoNet w' v := by
  rcases h with h | ⟨g, h, hb⟩
  · exact .inl h
  · exact .inr ⟨g, h, hF.blk0 hb⟩
theorem NoNet.alloc {w : World} {v : Value} (h : NoNet w v) (o : Obj) : NoNet (w.alloc o) v := h.fr ((Fr.refl _ w).alloc o)

theorem noNet {w : World} {v : Value} (h : NoNet w v) : Calls Try.prog 49 #[v] w fun e w' => e = .returned (.bool true) ∧ w = w' := by
  rcases h with rfl | ⟨g, rfl, hb⟩
  · exact none_nil w
  · exact none_raw w g (blk_cell hb 1)

theorem no_there {w : World} {v : Value} (h : NoNet w v) (i : Int) : Calls Try.prog 52 #[v, .int .i64 i] w fun e w' => e = .returned (.int .i64 4) ∧ w = w' := by
  go_enter Try.func52, Try.ntmps52
  go_wp2_with fail
  refine (noNet h).mono ?_
  rintro e w' ⟨rfl, rfl⟩
  go_wp2
  go_ret
  exact ⟨rfl, rfl⟩

theorem no_len {w : World} {v : Value} (h : NoNet w v) : Calls Try.prog 19 #[v] w fun e w' => e = .returned (.int .i64 0) ∧ w = w' := by
  go_enter Try.func19, Try.ntmps19
  go_wp2_with fail
  refine (noNet h).mono ?_
  rintro e w' ⟨rfl, rfl⟩
  go_wp2
  go_ret
  exact ⟨rfl, rfl⟩

set_option maxHeartbeats 400000 in
theorem no_at {w : World} {v : Value} (h : NoNet w v) (i : Int) : Calls Try.prog 24 #[v, .int .i64 i] w (Told w (.tuple #[.agg #[.int .i64 0, .int .i64 0, .string ⟨#[]⟩], .int .i64 4]) (fun _ => False)) := by
  go_enter Try.func24, Try.ntmps24
  go_wp2_with fail
  refine (no_there (h.alloc _) i).mono ?_
  rintro e w' ⟨rfl, rfl⟩
  go_wp2
  exact bodyPost_ret (v := .tuple #[.agg #[.int .i64 0, .int .i64 0, .string ⟨#[]⟩], .int .i64 4]) (by simp [results, Try.results24, go_sem]) rfl ⟨rfl, (Fr.refl _ _).alloc _⟩

set_option maxHeartbeats 400000 in
theorem no_take {w : World} {v : Value} (h : NoNet w v) (i : Int) : Calls Try.prog 18 #[v, .int .i64 i] w (Told w (.tuple #[.agg #[.int .i64 0, .int .i64 0, .string ⟨#[]⟩], .int .i64 4]) (fun _ => False)) := by
  go_enter Try.func18, Try.ntmps18
  go_wp2_with fail
  refine (no_there (h.alloc _) i).mono ?_
  rintro e w' ⟨rfl, rfl⟩
  go_wp2
  exact bodyPost_ret (v := .tuple #[.agg #[.int .i64 0, .int .i64 0, .string ⟨#[]⟩], .int .i64 4]) (by simp [results, Try.results18, go_sem]) rfl ⟨rfl, (Fr.refl _ _).alloc _⟩

set_option maxHeartbeats 400000 in
theorem no_lose {w : World} {v : Value} (h : NoNet w v) (i : Int) : Calls Try.prog 22 #[v, .int .i64 i] w (Told w (.int .i64 4) (fun _ => False)) := by
  go_enter Try.func22, Try.ntmps22
  go_wp2_with fail
  refine (no_take h i).mono ?_
  rintro e w2 ⟨rfl, hF2⟩
  have HF2 := Lib.hid hF2
  clear hF2
  go_wp2
  go_ret
  exact ⟨rfl, HF2.out.alloc _⟩

set_option maxHeartbeats 400000 in
theorem no_twin {w : World} {v : Value} (h : NoNet w v) (i : Int) : Calls Try.prog 17 #[v, .int .i64 i] w (Told w (.int .i64 4) (fun _ => False)) := by
  go_enter Try.func17, Try.ntmps17
  go_wp2_with fail
  refine (no_at h i).mono ?_
  rintro e w2 ⟨rfl, hF2⟩
  have HF2 := Lib.hid hF2
  clear hF2
  go_wp2
  go_ret
  exact ⟨rfl, HF2.out.alloc _⟩

set_option maxHeartbeats 400000 in
theorem no_send {w : World} {v : Value} (h : NoNet w v) (m : Mail) : Calls Try.prog 16 #[v, .agg #[.int .i64 m.fr, .int .i64 m.rc, .string m.text]] w (Told w (.int .i64 4) (fun _ => False)) := by
  go_enter Try.func16, Try.ntmps16
  go_wp2_with fail
  refine (noNet (h.alloc _)).mono ?_
  rintro e w' ⟨rfl, rfl⟩
  go_wp2
  go_ret
  exact ⟨rfl, (Fr.refl _ _).alloc _⟩

/-- a Peer that nobody made -/
def NoPeer (w : World) (v : Value) : Prop := v = .pointer none ∨ ∃ g, v = .pointer (some ⟨g, 0, none⟩) ∧ w.heap[g]? = some (.cells #[.int .i64 0, .slice none 0 0, .map none, .map none] 103 (0, 0))
theorem NoPeer.fr {w w' : World} {v : Value} (h : NoPeer w v) (hF : Fr (fun _ => False) w w') : NoPeer w' v := by
  rcases h with h | ⟨g, h, hb⟩
  · exact .inl h
  · exact .inr ⟨g, h, hF.blk0 hb⟩
theorem NoPeer.alloc {w : World} {v : Value} (h : NoPeer w v) (o : Obj) : NoPeer (w.alloc o) v := h.fr ((Fr.refl _ w).alloc o)

theorem noPeer {w : World} {v : Value} (h : NoPeer w v) : Calls Try.prog 61 #[v] w fun e w' => e = .returned (.bool true) ∧ w = w' := by
  rcases h with rfl | ⟨g, rfl, hb⟩
  · go_enter Try.func61, Try.ntmps61
    go_wp2
    go_ret
    exact ⟨rfl, rfl⟩
  · have h0 : w.cell? ⟨g, 0, none⟩ = some (.int .i64 0) := blk_cell hb 0
    go_enter Try.func61, Try.ntmps61
    go_wp2
    go_ret
    exact ⟨rfl, rfl⟩

theorem noPeerQ {w : World} {v : Value} (h : NoPeer w v) : Calls Try.prog 61 #[v] w fun e w' => e = .returned (.bool true) ∧ w' = w := (noPeer h).mono fun _ _ hh => ⟨hh.1, hh.2.symm⟩

theorem no_again {w : World} {v : Value} (h : NoPeer w v) : Calls Try.prog 45 #[v] w fun e w' => e = .returned (.slice none 0 0) ∧ w = w' := by
  go_enter Try.func45, Try.ntmps45
  go_wp2_with fail
  refine (noPeer h).mono ?_
  rintro e w' ⟨rfl, rfl⟩
  go_wp2
  go_ret
  exact ⟨rfl, rfl⟩
theorem no_got {w : World} {v : Value} (h : NoPeer w v) : Calls Try.prog 39 #[v] w fun e w' => e = .returned (.slice none 0 0) ∧ w = w' := by
  go_enter Try.func39, Try.ntmps39
  go_wp2_with fail
  refine (noPeer h).mono ?_
  rintro e w' ⟨rfl, rfl⟩
  go_wp2
  go_ret
  exact ⟨rfl, rfl⟩
theorem no_sent {w : World} {v : Value} (h : NoPeer w v) : Calls Try.prog 47 #[v] w fun e w' => e = .returned (.slice none 0 0) ∧ w = w' := by
  go_enter Try.func47, Try.ntmps47
  go_wp2_with fail
  refine (noPeer h).mono ?_
  rintro e w' ⟨rfl, rfl⟩
  go_wp2
  go_ret
  exact ⟨rfl, rfl⟩

theorem set5 {w : World} {g : Nat} {t : TypeId} {a0 b0 c0 d0 e0 a b c d e : Value} (h : w.heap[g]? = some (.cells #[a0, b0, c0, d0, e0] t (0, 0))) :
    (((((w.setCell ⟨g, 0, none⟩ a).setCell ⟨g, 1, none⟩ b).setCell ⟨g, 2, none⟩ c).setCell ⟨g, 3, none⟩ d).setCell ⟨g, 4, none⟩ e).heap[g]? = some (.cells #[a, b, c, d, e] t (0, 0)) := by
  simpa using blk_set (blk_set (blk_set (blk_set (blk_set h 0 a) 1 b) 2 c) 3 d) 4 e
theorem set5_fr (w : World) (g : Nat) (a b c d e : Value) : Fr (fun k => k = g) w (((((w.setCell ⟨g, 0, none⟩ a).setCell ⟨g, 1, none⟩ b).setCell ⟨g, 2, none⟩ c).setCell ⟨g, 3, none⟩ d).setCell ⟨g, 4, none⟩ e) :=
  Fr.setCell (S := fun k => k = g) (p := ⟨g, 4, none⟩) (Fr.setCell (S := fun k => k = g) (p := ⟨g, 3, none⟩) (Fr.setCell (S := fun k => k = g) (p := ⟨g, 2, none⟩) (Fr.setCell (S := fun k => k = g) (p := ⟨g, 1, none⟩) (Fr.setCell (S := fun k => k = g) (p := ⟨g, 0, none⟩) (Fr.refl _ _) (.inr rfl) a) (.inr rfl) b) (.inr rfl) c) (.inr rfl) d) (.inr rfl) e

def zmsg : Value := .agg #[.int .i64 0, .int .i64 0, .int .i64 0, .string ⟨#[]⟩, .int .i64 0]

set_option maxHeartbeats 400000 in
theorem no_offer {w : World} {v : Value} (h : NoPeer w v) (s : ByteArray) (n : Int) : Calls Try.prog 41 #[v, .string s, .int .i64 n] w (Told w (.tuple #[zmsg, .int .i64 4]) (fun _ => False)) := by
  go_enter Try.func41, Try.ntmps41
  go_wp2_with fail
  refine (noPeer (h.alloc _)).mono ?_
  rintro e w' ⟨rfl, rfl⟩
  go_wp2
  exact bodyPost_ret (v := .tuple #[zmsg, .int .i64 4]) (by simp [results, Try.results41, go_sem, zmsg]) rfl ⟨rfl, (Fr.refl _ _).alloc _⟩

set_option maxRecDepth 100000 in
set_option maxHeartbeats 1000000 in
theorem no_hear {w : World} {v : Value} (h : NoPeer w v) (a b c : Int) (s : ByteArray) (n : Int) : Calls Try.prog 38 #[v, .agg #[.int .i64 a, .int .i64 b, .int .i64 c, .string s, .int .i64 n]] w (Told w (.tuple #[zmsg, .bool false]) (fun _ => False)) := by
  go_enter Try.func38, Try.ntmps38
  go_wp2
  obtain ⟨w2, he, hn1, hn2, hF, hsz⟩ := alloc2 w (.cells #[.int .i64 a, .int .i64 b, .int .i64 c, .string s, .int .i64 n] 71) (.cells #[.int .i64 0, .int .i64 0, .int .i64 0, .string ⟨#[]⟩, .int .i64 0] 71)
  rw [he]
  have h2 := h.fr hF
  have HF := Lib.hid hF
  clear he hF hsz h
  generalize hg2 : w.heap.size + 1 = g2 at hn2 ⊢
  have HG2 := Lib.hid hg2
  clear hg2
  generalize hg1 : w.heap.size = g1 at hn1 ⊢
  have HG1 := Lib.hid hg1
  clear hg1
  have c0 : w2.cell? ⟨g2, 0, none⟩ = some (.int .i64 0) := blk_cell hn2 0
  have c1 : w2.cell? ⟨g2, 1, none⟩ = some (.int .i64 0) := blk_cell hn2 1
  have c2 : w2.cell? ⟨g2, 2, none⟩ = some (.int .i64 0) := blk_cell hn2 2
  have c3 : w2.cell? ⟨g2, 3, none⟩ = some (.string ⟨#[]⟩) := blk_cell hn2 3
  have c4 : w2.cell? ⟨g2, 4, none⟩ = some (.int .i64 0) := blk_cell hn2 4
  have f0 := blk_frozen hn2 0
  have f1 := blk_frozen hn2 1
  have f2 := blk_frozen hn2 2
  have f3 := blk_frozen hn2 3
  have f4 := blk_frozen hn2 4
  go_quiet ((go_at_call 61; exact Calls.quiet_of_same (noPeerQ (h2.fr ((Fr.refl _ _).drewN _)))))
  have hn2' : (w2.drewN nq).heap[g2]? = some (.cells #[.int .i64 0, .int .i64 0, .int .i64 0, .string ⟨#[]⟩, .int .i64 0] 71 (0, 0)) := hn2
  have hF' : Fr (fun _ => False) w (w2.drewN nq) := HF.out.drewN nq
  have HF' := Lib.hid hF'
  clear hF' hn1 hn2 h2 HF
  go_wp2
  have hn6 := set5 (a := .int .i64 0) (b := .int .i64 0) (c := .int .i64 0) (d := .string ⟨#[]⟩) (e := .int .i64 0) hn2'
  have hF6 := set5_fr (w2.drewN nq) g2 (.int .i64 0) (.int .i64 0) (.int .i64 0) (.string ⟨#[]⟩) (.int .i64 0)
  have hF7 : Fr (fun _ => False) w _ := HF'.out.trans hF6 (fun k hk e => by have := HG2.out; have := HG1.out; omega)
  clear hF6 hn2' HF'
  generalize (((((w2.drewN nq).setCell ⟨g2, 0, none⟩ (.int .i64 0)).setCell ⟨g2, 1, none⟩ (.int .i64 0)).setCell ⟨g2, 2, none⟩ (.int .i64 0)).setCell ⟨g2, 3, none⟩ (.string ⟨#[]⟩)).setCell ⟨g2, 4, none⟩ (.int .i64 0) = w6 at *
  have r0 : w6.cell? ⟨g2, 0, none⟩ = some (.int .i64 0) := blk_cell hn6 0
  have r1 : w6.cell? ⟨g2, 1, none⟩ = some (.int .i64 0) := blk_cell hn6 1
  have r2 : w6.cell? ⟨g2, 2, none⟩ = some (.int .i64 0) := blk_cell hn6 2
  have r3 : w6.cell? ⟨g2, 3, none⟩ = some (.string ⟨#[]⟩) := blk_cell hn6 3
  have r4 : w6.cell? ⟨g2, 4, none⟩ = some (.int .i64 0) := blk_cell hn6 4
  exact bodyPost_ret (v := .tuple #[zmsg, .bool false]) (by simp [results, Try.results38, go_sem, r0, r1, r2, r3, r4, zmsg]) rfl ⟨rfl, hF7⟩
end Go.Proofs.Ytedmhhllkkgbjaa
