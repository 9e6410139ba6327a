/- code.Fixed of one byte; Need's own callback. -/
import Derived.Test.YtedmhhllkkgbjaaFg1
import Derived.Laws.Bits64b
namespace Go.Proofs.Ytedmhhllkkgbjaa
open Go.RowKit

theorem Try.info5 : (Try.prog.info? 5).map (fun i => (i.zero, i.size, i.bytes)) = some (some (.int .u8 0), 1, 1) := by kernel_rfl
theorem Try.info27 : (Try.prog.info? 27).map (fun i => (i.zero, i.size, i.bytes)) = some (some (.slice none 0 0), 1, 24) := by kernel_rfl
theorem Try.info3 : (Try.prog.info? 3).map (fun i => (i.zero, i.size, i.bytes)) = some (some (.int .i64 0), 1, 8) := by kernel_rfl

theorem make_u8 (w : World) (n : Nat) (hn : n ≤ 100000000) : (Instr.makeSlice 27 (.int .i64 n) (.int .i64 n)).run Try.prog w = .ok (.slice (some ⟨w.heap.size, 0, none⟩) n n) (w.alloc (.cells (madeCells #[.int .u8 0] n) 5)) := by
  obtain ⟨i, hi, hzz⟩ := Option.map_eq_some_iff.1 Try.info5
  simp only [Prod.mk.injEq] at hzz
  obtain ⟨hz0, hz1, hz2⟩ := hzz
  have := run_make (P := Try.prog) w 27 5 i (.int .u8 0) Try.underlying27 hi hz0 .i64 .i64 n n (by omega) (by omega) (by rw [hz2]; omega) (by omega)
  rw [hz1] at this
  simpa [Value.cells] using this

def FixPost (w : World) (n : Nat) (e : Ending) (w' : World) : Prop := ∃ g, e = .returned (.slice (some ⟨g, 0, none⟩) 1 1) ∧ w.heap.size ≤ g ∧ w'.heap[g]? = some (.cells #[.int .u8 (n : Int)] 5 (0, 0)) ∧ Fr (fun _ => False) w w'

theorem made_one : madeCells #[.int .u8 0] 1 = #[.int .u8 0] := by simp [madeCells, Array.range_succ, Array.range_zero']

set_option maxRecDepth 100000 in
set_option maxHeartbeats 1000000 in
theorem fixed1 (w : World) (n : Nat) (hn : n < 256) : Calls Try.prog 56 #[.int .u64 n, .int .i64 1] w (FixPost w n) := by
  go_enter Try.func56, Try.ntmps56
  have hmk := make_u8 w 1 (by omega)
  rw [made_one] at hmk
  simp only [Int.natCast_one] at hmk
  go_wp2_with fail
  obtain ⟨w1, he, hn1, hF, hsz⟩ := alloc1 w (.cells #[.int .u8 0] 5)
  rw [he]
  have hg0 : w.heap.size ≤ w.heap.size := Nat.le_refl _
  obtain ⟨g, hg⟩ : ∃ g, g = w.heap.size := ⟨_, rfl⟩
  have hg1 : w.heap.size ≤ g := Nat.le_of_eq hg.symm
  rw [← hg] at hn1 hsz ⊢
  have HG := Lib.hid hg1
  clear hg0 hg1 hg
  have c0 : w1.cell? ⟨g, 0, none⟩ = some (.int .u8 0) := blk_cell hn1 0
  have f0 := blk_frozen hn1 0
  have HN := Lib.hid hn1
  clear hn1 hmk he
  go_loopw [0, 6] (fun x k wr => (k = .int .i64 0 ∧ x = .int .u64 n ∧ wr = w1) ∨ (k = .int .i64 (-1) ∧ wr = w1.setCell ⟨g, 0, none⟩ (.int .u8 n))) (fun _ k _ => (intOf k + 1).toNat)
  case atStart => exact .inl ⟨rfl, rfl, rfl⟩
  case round =>
    rcases hrel with ⟨rfl, rfl, rfl⟩ | ⟨rfl, rfl⟩
    · go_wp2_with fail
      refine ⟨.inr ⟨rfl, ?_⟩, by simp [intOf]⟩
      congr 2
      rw [show (255 : Int) = ((255 : Nat) : Int) from rfl, bits_and_u64_nat n 255 (by omega) (by omega), show (255 : Nat) = 2 ^ 8 - 1 from rfl, Nat.and_two_pow_sub_one_eq_mod]
      omega
    · go_wp2
      go_ret
      exact ⟨g, rfl, HG.out, blk_set HN.out 0 _, hF.setCell (.inl HG.out) _⟩

theorem run_enter {P : Program} {f : FuncId} {fn : Func} (hf : P.funcs[f]? = some fn) (hname : (fn.name == "runtime.NumGoroutine") = false) (hb : fn.body.isNone = false) (args : Array Value) (w : World) :
    (callFunc f args).run P w = .ok (.enter f args) w := by
  have h1 : fn.name ≠ "runtime.NumGoroutine" := by simpa using hname
  have h2 : fn.body ≠ none := fun e => by rw [e] at hb; cases hb
  simp [callFunc, hf, h1, h2]

theorem need_tells (l : List Ev) : Tells 60 #[] l (fun _ _ => True) := by
  refine ⟨fun args w => run_enter Try.func60 (by kernel_rfl) (by kernel_rfl) args w, ?_⟩
  intro done e rest w hd _
  unfold Ev.args
  simp only [Array.append_empty]
  go_enter Try.func60, Try.ntmps60
  go_wp2
  go_end0
  exact ⟨rfl, trivial⟩

end Go.Proofs.Ytedmhhllkkgbjaa
