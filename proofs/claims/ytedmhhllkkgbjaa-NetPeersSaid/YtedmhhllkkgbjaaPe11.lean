/- net.Peer: put. -/
import Derived.Test.YtedmhhllkkgbjaaPe10
namespace Go.Proofs.Ytedmhhllkkgbjaa
open Go.RowKit Go.WideShapes
set_option linter.unusedSimpArgs false
set_option linter.unusedVariables false

def PutMPost (w : World) (g : Nat) (n : Int) (v A B : Value) (l : List Msg) (m : Msg) (e : Ending) (w' : World) : Prop :=
  e = .returned (.tuple #[]) ∧ ∃ v', w'.heap[g]? = some (.cells #[.int .i64 n, v', A, B] 103 (0, 0)) ∧ w'.ownsRow 0 71 5 v' (l ++ [m]).length ((l ++ [m]).flatMap Msg.cells) ∧ Fr (Foot g v) w w' ∧ Moved w v v'

theorem putM_end {w w2 : World} {g : Nat} {n : Int} {v A B v' : Value} {l : List Msg} {m : Msg} {s : Nat} {k : Nat} {xs : List Value} (hF : Fr (Foot g v) w w2) (ho : w2.ownsRow 0 71 5 v' k xs) (hn : k = (l ++ [m]).length) (hx : xs = (l ++ [m]).flatMap Msg.cells)
    (hb : w2.heap[g]? = some (.cells #[.int .i64 n, v, A, B] 103 (0, 0))) (hm : v'.ownBlock = v.ownBlock ∨ v'.ownBlock = some s) (hs : w.heap.size ≤ s) :
    PutMPost w g n v A B l m (.returned (.tuple #[])) (w2.setCell ⟨g, 1, none⟩ v') := by
  subst hn hx
  refine ⟨rfl, v', by simpa using blk_set hb 1 v', own_setCell ho (own_ne ho hb (by decide)) _, hF.setCell (.inr (.inl rfl)) _, ?_⟩
  rcases hm with hm | hm
  · exact .inl hm
  · exact .inr ⟨s, hm, hs⟩

set_option maxRecDepth 100000 in
set_option maxHeartbeats 1000000 in
theorem put_msg (w : World) (g : Nat) (n : Int) (v A B : Value) (l : List Msg) (m : Msg)
    (hb : w.heap[g]? = some (.cells #[.int .i64 n, v, A, B] 103 (0, 0))) (ho : w.ownsRow 0 71 5 v l.length (l.flatMap Msg.cells)) (hl : l.length < 1000000) :
    Calls Try.prog 65 #[.pointer (some ⟨g, 1, none⟩), .agg #[.int .i64 m.kind, .int .i64 m.peer, .int .i64 m.seq, .string m.key, .int .i64 m.n]] w (PutMPost w g n v A B l m) := by
  obtain ⟨xk, xp, xs, xt, xn⟩ := m
  simp only
  go_enter Try.func65, Try.ntmps65
  go_wp2
  have hF := (Fr.refl (Foot g v) w).alloc (.cells #[.int .i64 xk, .int .i64 xp, .int .i64 xs, .string xt, .int .i64 xn] 71)
  have hb1 : (w.alloc (.cells #[.int .i64 xk, .int .i64 xp, .int .i64 xs, .string xt, .int .i64 xn] 71)).heap[g]? = some (.cells #[.int .i64 n, v, A, B] 103 (0,0)) := blk_alloc hb _
  have hn1 := blk_new w (.cells #[.int .i64 xk, .int .i64 xp, .int .i64 xs, .string xt, .int .i64 xn] 71)
  have ho1 := ho.alloc (.cells #[.int .i64 xk, .int .i64 xp, .int .i64 xs, .string xt, .int .i64 xn] 71)
  generalize w.alloc (.cells #[.int .i64 xk, .int .i64 xp, .int .i64 xs, .string xt, .int .i64 xn] 71) = w1 at *
  generalize hg : w.heap.size = g1 at hn1 ⊢
  have Hg := Lib.hid hg
  clear hg
  have hc : w1.cell? ⟨g, 1, none⟩ = some v := blk_cell hb1 1
  have hc0 : w1.cell? ⟨g1, 0, none⟩ = some (.int .i64 xk) := blk_cell hn1 0
  have hc1 : w1.cell? ⟨g1, 1, none⟩ = some (.int .i64 xp) := blk_cell hn1 1
  have hc2 : w1.cell? ⟨g1, 2, none⟩ = some (.int .i64 xs) := blk_cell hn1 2
  have hc3 : w1.cell? ⟨g1, 3, none⟩ = some (.string xt) := blk_cell hn1 3
  have hc4 : w1.cell? ⟨g1, 4, none⟩ = some (.int .i64 xn) := blk_cell hn1 4
  have hne := own_ne ho1 hb1 (by decide)
  have hlt := blk_lt hb1
  have hltg := blk_lt hn1
  go_region_law (refine step_app rfl (.tmp 8) (.tmp 10) 65 rfl 0 71 _ 5 48 Try.underlying65 Try.info71 rfl (by decide) v l.length (l.flatMap Msg.cells) (by simp [Act.eval]) (World.ownsRow.alloc (World.ownsRow.drew ho1) _) ⟨w1.heap.size, 0, none⟩ 1 1 [.int .i64 xk, .int .i64 xp, .int .i64 xs, .string xt, .int .i64 xn] (by simp [Act.eval]) rfl (news_of (cs := [.int .i64 xk, .int .i64 xp, .int .i64 xs, .string xt, .int .i64 xn]) (t := 71) (fr := (0, 0)) (blk_new _ _)) (by simp [Value.oneCell']) (by simp [maxLen]; omega) (by omega) (Nat.zero_le _) ?_; intro v' w2 ho2 hg2 hm2; obtain ⟨A', c', rfl⟩ := own_slice ho2; have hb2 := blk_grown (blk_alloc (blk_drew hb1) _) hg2 hne; have hf2 := blk_frozen hb2 1; have hk2 := blk_cell hb2 1; have HF2 := Lib.hid (((hF.drew.alloc _).grown hg2 (fun k hk => .inr (.inr hk.symm)))))
  all_goals go_wp2
  all_goals go_end0
  all_goals exact putM_end HF2.out ho2 (by simp) (by simp [Msg.cells]) hb2 hm2 (by have := hF.size; simp; omega)
end Go.Proofs.Ytedmhhllkkgbjaa
