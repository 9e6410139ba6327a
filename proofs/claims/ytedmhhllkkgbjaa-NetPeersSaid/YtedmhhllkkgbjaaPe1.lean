/- net.Peer: what it holds; NewPeer, none. -/
import Derived.Test.YtedmhhllkkgbjaaNob1
import Derived.Maps.OwnSet
import Derived.Maps.RangeWalk
import Derived.Deep.RegionHeld3
import Derived.Test.YtedmhhllkkgbjaaRt
namespace Go.Proofs.Ytedmhhllkkgbjaa
open Go.RowKit Go.WideShapes
set_option linter.unusedSimpArgs false
set_option linter.unusedVariables false

structure Msg where
  kind : Int
  peer : Int
  seq : Int
  key : ByteArray
  n : Int
def Msg.cells (m : Msg) : List Value := [.int .i64 m.kind, .int .i64 m.peer, .int .i64 m.seq, .string m.key, .int .i64 m.n]
def Msg.v (m : Msg) : Value := .agg #[.int .i64 m.kind, .int .i64 m.peer, .int .i64 m.seq, .string m.key, .int .i64 m.n]
def msgL : List Value → Option Msg
  | [.int .i64 k, .int .i64 p, .int .i64 s, .string key, .int .i64 n] => some ⟨k, p, s, key, n⟩
  | _ => none
def msgR : Value → Option (DataW Msg × List MemPlace)
  | .agg cs => (msgL cs.toList).map (fun m => (.held m, []))
  | _ => none
theorem msgR_mk (m : Msg) : msgR m.v = some (.held m, []) := rfl
theorem msgL_inv {l : List Value} {m : Msg} (h : msgL l = some m) : l = m.cells := by
  unfold msgL at h
  split at h
  · cases h; rfl
  · cases h
theorem msgR_inv {v : Value} {z : DataW Msg × List MemPlace} (h : msgR v = some z) : ∃ m, v = Msg.v m ∧ z = (.held m, []) := by
  cases v with
  | agg cs =>
    obtain ⟨m, h1, rfl⟩ := Option.map_eq_some_iff.1 h
    have h2 := msgL_inv h1
    refine ⟨m, ?_, rfl⟩
    cases cs
    simp only at h2
    subst h2
    rfl
  | _ => cases h

theorem Try.intKeyed : Maps.Keyed Try.prog 3 := Maps.int_keyed Try.underlying3
theorem key_int {a : Int} (h : (Lit.int .i64 a).wf = true) : keyOf Try.prog 3 (.int .i64 a) = some (.int .i64 a) := Maps.keyOf_int_mk Try.underlying3 h

theorem owns_blk {R : Value → Option (DataW Msg × List MemPlace)} {w w' : World} {b n : Nat} {D : DataW Msg} (h : w.ownsMap Try.prog 3 R b n D) (hb : w'.heap[b]? = w.heap[b]?) : w'.ownsMap Try.prog 3 R b n D := by
  obtain ⟨es, clock, h1, h2⟩ := h
  exact ⟨es, clock, hb.trans h1, h2⟩

/-- a Peer -/
structure PeerAt (w : World) (g : Nat) (n : Int) (S : Value) (bw bg kw kg : Nat) (Dw Dg : DataW Msg) : Prop where
  box : w.heap[g]? = some (.cells #[.int .i64 n, S, .map (some bw), .map (some bg)] 103 (0, 0))
  waits : w.ownsMap Try.prog 3 (plainElem Try.prog 4) bw kw Dw
  got : w.ownsMap Try.prog 3 msgR bg kg Dg
  ne : bw ≠ bg
theorem PeerAt.gbw {w : World} {g : Nat} {n : Int} {S : Value} {bw bg kw kg : Nat} {Dw Dg : DataW Msg} (h : PeerAt w g n S bw bg kw kg Dw Dg) : g ≠ bw ∧ g ≠ bg := by
  obtain ⟨_, _, h1, _⟩ := h.waits
  obtain ⟨_, _, h2, _⟩ := h.got
  refine ⟨fun e => ?_, fun e => ?_⟩
  · subst e; have := h.box.symm.trans h1; cases this
  · subst e; have := h.box.symm.trans h2; cases this
theorem PeerAt.fr {w w' : World} {g : Nat} {n : Int} {S : Value} {bw bg kw kg : Nat} {Dw Dg : DataW Msg} (h : PeerAt w g n S bw bg kw kg Dw Dg) {T : Nat → Prop} (hF : Fr T w w') (h1 : ¬ T g) (h2 : ¬ T bw) (h3 : ¬ T bg) : PeerAt w' g n S bw bg kw kg Dw Dg :=
  ⟨hF.blk h.box h1, owns_blk h.waits (hF.block _ h.waits.lt h2), owns_blk h.got (hF.block _ h.got.lt h3), h.ne⟩
theorem PeerAt.fr0 {w w' : World} {g : Nat} {n : Int} {S : Value} {bw bg kw kg : Nat} {Dw Dg : DataW Msg} (h : PeerAt w g n S bw bg kw kg Dw Dg) (hF : Fr (fun _ => False) w w') : PeerAt w' g n S bw bg kw kg Dw Dg :=
  h.fr hF (fun h => h) (fun h => h) (fun h => h)

def NewPeerPost (w : World) (n : Int) (e : Ending) (w' : World) : Prop := ∃ g bw bg, e = .returned (.tuple #[.pointer (some ⟨g, 0, none⟩), .int .i64 0]) ∧ PeerAt w' g n (.slice none 0 0) bw bg 0 0 (.map []) (.map []) ∧ Fr (fun _ => False) w w' ∧ w.heap.size ≤ g ∧ w.heap.size ≤ bw ∧ w.heap.size ≤ bg
theorem newPeer_any (w : World) (n : Int) (h1 : 1 ≤ n) (h2 : n ≤ 15) : Calls Try.prog 37 #[.int .i64 n] w (NewPeerPost w n) := by
  have hmm := @run_makeMap Try.prog
  have h3 : ¬ n < 1 := by omega
  have h4 : ¬ 15 < n := by omega
  go_enter Try.func37, Try.ntmps37
  go_wp2
  go_ret2
  refine ⟨w.heap.size + 1 + 1, w.heap.size, w.heap.size + 1, rfl, ⟨?_, ?_, ?_, by omega⟩, (((Fr.refl _ w).alloc _).alloc _).alloc _, by omega, by omega, by omega⟩
  · simpa using blk_new ((w.alloc (.map #[] 0)).alloc (.map #[] 0)) (.cells #[.int .i64 n, .slice none 0 0, .map (some w.heap.size), .map (some (w.heap.size + 1))] 103)
  · exact ((World.ownsMap_made w Try.prog 3 (plainElem Try.prog 4)).alloc _).alloc _
  · have := (World.ownsMap_made (w.alloc (.map #[] 0)) Try.prog 3 msgR).alloc (.cells #[.int .i64 n, .slice none 0 0, .map (some w.heap.size), .map (some (w.heap.size + 1))] 103)
    simpa using this

theorem peer_some {w : World} {g : Nat} {n : Int} {S A B : Value} (h : w.heap[g]? = some (.cells #[.int .i64 n, S, A, B] 103 (0, 0))) (hn : n ≠ 0) : Calls Try.prog 61 #[.pointer (some ⟨g, 0, none⟩)] w fun e w' => e = .returned (.bool false) ∧ w' = w := by
  have h0 : w.cell? ⟨g, 0, none⟩ = some (.int .i64 n) := blk_cell h 0
  have hn0 : (n == 0) = false := by simpa using hn
  go_enter Try.func61, Try.ntmps61
  go_wp2
  go_ret
  exact ⟨rfl, rfl⟩

theorem pw_inj {α β : Type} (f : α → β) : ∀ {l : List α}, l.Pairwise (fun x y => f x ≠ f y) → ∀ {x y : α}, x ∈ l → y ∈ l → f x = f y → x = y
  | [], _, _, _, hx, _, _ => by simp at hx
  | a :: r, hp, x, y, hx, hy, h => by
    obtain ⟨h1, h2⟩ := List.pairwise_cons.1 hp
    rcases List.mem_cons.1 hx with ex | hx'
    · rcases List.mem_cons.1 hy with ey | hy'
      · rw [ex, ey]
      · exact absurd (ex ▸ h) (h1 y hy')
    · rcases List.mem_cons.1 hy with ey | hy'
      · exact absurd (ey ▸ h).symm (h1 x hx')
      · exact pw_inj f h2 hx' hy' h

def zMsg : Msg := ⟨0, 0, 0, ⟨#[]⟩, 0⟩
open Go.WideElems in
/-- what stands at a key, in whatever world has that map -/
theorem look_all {w : World} {b n : Nat} {D : DataW Msg} (h : w.ownsMap Try.prog 3 msgR b n D) {s : Int} (hw : (Lit.int .i64 s).wf = true) :
    ∃ zv : Msg, ∀ W : World, W.heap[b]? = w.heap[b]? → (Instr.lookup 101 (.map (some b)) (.int .i64 s) true).run Try.prog W = .ok (.tuple #[zv.v, .bool (Maps.has D (.int .i64 s))]) W := by
  obtain ⟨es, clock, hb, F, hn, rfl⟩ := h
  have hz : ∀ W : World, (zeroValue 71).run Try.prog W = .ok zMsg.v W := fun W => by kernel_rfl
  have hpw := Maps.fit_apart Try.intKeyed F
  rw [List.pairwise_map] at hpw
  by_cases hx : ∃ x ∈ es.toList, x.key = .int .i64 s
  · obtain ⟨x0, hx0, hk0⟩ := hx
    obtain ⟨y0, hy0⟩ := F.reads x0 hx0
    have m0 := rd_key hy0
    rcases Maps.fit_look true Try.intKeyed Try.underlying101 (hz w) hb F (key_int hw) with ⟨_, h2, _⟩ | ⟨e0, y, he0, hke, _, hRv, hat, _⟩
    · exact absurd hk0 (h2 x0 hx0)
    obtain ⟨zv, hv, _⟩ := msgR_inv hRv
    refine ⟨zv, fun W hW => ?_⟩
    rw [Maps.has_true_of_atKey hat]
    rcases Maps.fit_look true Try.intKeyed Try.underlying101 (hz W) (hW.trans hb) F (key_int hw) with ⟨_, h2, _⟩ | ⟨e1, y1, he1, hke1, hrun, _, _, _⟩
    · exact absurd hk0 (h2 x0 hx0)
    obtain ⟨ya, hya⟩ := F.reads e0 he0
    obtain ⟨yb, hyb⟩ := F.reads e1 he1
    have ma := rd_key hya
    have mb := rd_key hyb
    rw [hke] at ma
    rw [hke1] at mb
    have : e0 = e1 := pw_inj (fun x => (rg Try.prog 3 msgR x).1) hpw he0 he1 (by
      show (rg Try.prog 3 msgR e0).1 = (rg Try.prog 3 msgR e1).1
      rw [rg_of hya, rg_of hyb]
      exact Option.some.inj (ma.symm.trans mb))
    subst this
    rw [hrun, if_pos rfl, hv]
  · refine ⟨zMsg, fun W hW => ?_⟩
    rcases Maps.fit_look true Try.intKeyed Try.underlying101 (hz W) (hW.trans hb) F (key_int hw) with ⟨hrun, _, hat⟩ | ⟨e1, y1, he1, hke1, _⟩
    · rw [Maps.has_false_of_atKey hat, hrun, if_pos rfl]
    · exact absurd ⟨e1, he1, hke1⟩ hx
theorem step_store5 {ops : Array Oper} {o : Oper} {a : Act} {w : World} {K : Act → World → Prop} {Q : Exit → Act → World → Prop} {E : Prop} (hg : o.guard = none) (p x : Operand) (hop : o.op = Op.store 71 p x)
    (g : Nat) (a0 b0 c0 d0 e0 : Value) (ai bi ci ei : Int) (ds : ByteArray) (hp : a.eval p = .pointer (some ⟨g, 0, none⟩)) (hx : a.eval x = .agg #[.int .i64 ai, .int .i64 bi, .int .i64 ci, .string ds, .int .i64 ei])
    (hb : w.heap[g]? = some (.cells #[a0, b0, c0, d0, e0] 71 (0, 0)))
    (h : K (a.put o.dst undef) (((((w.setCell ⟨g, 0, none⟩ (.int .i64 ai)).setCell ⟨g, 1, none⟩ (.int .i64 bi)).setCell ⟨g, 2, none⟩ (.int .i64 ci)).setCell ⟨g, 3, none⟩ (.string ds)).setCell ⟨g, 4, none⟩ (.int .i64 ei))) :
    if Region.wanted o (yielded ops a.tmps) = true then Oper.wp Try.prog o a w K Q else E := by
  rw [if_pos (by simp [Region.wanted, hg])]
  have c0' : w.cell? ⟨g, 0, none⟩ = some a0 := blk_cell hb 0
  have c1' : w.cell? ⟨g, 1, none⟩ = some b0 := blk_cell hb 1
  have c2' : w.cell? ⟨g, 2, none⟩ = some c0 := blk_cell hb 2
  have c3' : w.cell? ⟨g, 3, none⟩ = some d0 := blk_cell hb 3
  have c4' : w.cell? ⟨g, 4, none⟩ = some e0 := blk_cell hb 4
  have z0 := blk_frozen hb 0
  have z1 := blk_frozen hb 1
  have z2 := blk_frozen hb 2
  have z3 := blk_frozen hb 3
  have z4 := blk_frozen hb 4
  clear hb
  obtain ⟨dst, op, ty, pos, after, guard⟩ := o
  simp only at hop hg h ⊢
  subst hop
  unfold Oper.wp execOp
  simp only [hp, hx]
  go_simp
  exact h
end Go.Proofs.Ytedmhhllkkgbjaa
