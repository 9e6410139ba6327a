/- slices.SortFunc at messages. -/
import Derived.Shelf.SlSortCmp.WholeK
import Derived.Shelf.SlSortCmp.NoneTotal
import Derived.Shelf.SlicesG.Cmp
import Derived.Shelf.Small.Bits
import Derived.Shelf.Lay
import Derived.Ground.SlsfProg
import Derived.Ground.SlgcProg
import Derived.Ground.NamesProg
import Derived.Test.YtedmhhllkkgbjaaPe2
namespace Go.Proofs.Ytedmhhllkkgbjaa
open Go.Shelf Go.RowKit Go.Lib Go.Sort
shelf_lay_g SlLaysF0.n6 Slsf 6 at Try 62 as Try.sortMsg
shelf_lay_g SlLaysC2.n5 Slgc 5 at Try 64 as Try.cmpInt

instance : Inhabited Msg := ⟨zMsg⟩

set_option maxHeartbeats 1000000 in
theorem cmp_closure (x y : Msg) (W : World) : Calls Try.prog 63 #[.agg #[.int .i64 x.kind, .int .i64 x.peer, .int .i64 x.seq, .string x.key, .int .i64 x.n], .agg #[.int .i64 y.kind, .int .i64 y.peer, .int .i64 y.seq, .string y.key, .int .i64 y.n]] W fun e w' => e = .returned (.int .i64 (Lib.compareInt x.seq y.seq)) ∧ ∃ q os', w' = grow (W.drewN q) os' := by
  have hcon := fun W' => AnyG.cmp_Compare_int Try.cmpInt x.seq y.seq W'
  change ∀ W', Calls Try.prog 64 _ _ _ at hcon
  generalize Lib.compareInt x.seq y.seq = r at hcon ⊢
  go_enter Try.func63, Try.ntmps63
  go_wp2_with (go_at_call 64; refine (hcon _).mono ?_; rintro e w' ⟨rfl, rfl⟩)
  go_ret
  exact ⟨rfl, 0, _, by rw [alloc_eq_grow, alloc_eq_grow, grow_grow]; rfl⟩
theorem cmp_lays (blk off size : Nat) (w : World) : CmpLays Try.prog 63 #[] Msg.cells 5 (fun x y => Lib.compareInt x.seq y.seq) blk off size w :=
  fun _ _ _ _ x y => cmp_closure x y _

theorem ltSeq (x y : Msg) : ltOf (fun x y : Msg => Lib.compareInt x.seq y.seq) x y = decide (x.seq < y.seq) := by
  unfold ltOf Lib.compareInt
  by_cases h1 : x.seq < y.seq
  · simp [h1]
  · by_cases h2 : y.seq < x.seq <;> simp [h1, h2]
theorem swoSeq : SWO (ltOf fun x y : Msg => Lib.compareInt x.seq y.seq) where
  irrefl x := by rw [ltSeq]; simp
  trans x y z h1 h2 := by rw [ltSeq] at *; simp at *; omega
  ntrans x y z h1 h2 := by rw [ltSeq] at *; simp at *; omega

def SortPost (w : World) (blk : Nat) (d : Array Msg) (e : Ending) (w' : World) : Prop :=
  e = .returned (.tuple #[]) ∧ ∃ d' : Array Msg, d'.toList.Perm d.toList ∧ (∀ i j, i < j → j < d.size → ¬ (d'[j]!).seq < (d'[i]!).seq) ∧ HoldsK Msg.cells 5 w' blk 0 d' ∧ Fr (fun k => k = blk) w w'

theorem fr_sortWorld (w : World) (blk n : Nat) (d : Array Msg) (os : Array Obj) : Fr (fun k => k = blk) w (sortWorldK Msg.cells 5 w blk 0 n d os) := by
  have h1 := size_sortWorldK_c Msg.cells 5 w blk 0 n d os
  refine ⟨rfl, rfl, rfl, h1, fun j hj hne => ?_⟩
  have e : (sortWorldK Msg.cells 5 w blk 0 n d os).heap = w.heap.modify blk (onCells (putCells id 0 (flatK Msg.cells 5 d))) ++ os := rfl
  rw [e, Array.getElem?_append_left (by rw [Array.size_modify]; exact hj), Array.getElem?_modify, if_neg (fun h => hne h.symm)]
theorem sort_msgs (blk cap : Nat) (d : Array Msg) (w : World) (hH : HoldsK Msg.cells 5 w blk 0 d) (hblk : blk < w.heap.size) (hsz : d.size < 4611686018427387904) :
    Calls Try.prog 62 #[.slice (some ⟨blk, 0, none⟩) d.size cap, .func (.func 63) #[] #[]] w (SortPost w blk d) := by
  have eg : ∀ args w, (callFunc 63 args).run Try.prog w = .ok (.enter 63 args) w := enters_of Try.func63 (by kernel_rfl) rfl
  have hcon := AnyQ.slices_SortFunc Try.sortMsg 5 (fun w => by kernel_rfl) (fun w => by kernel_rfl) Msg.cells (fun _ => rfl) (fun x v hv => by simp [Msg.cells] at hv; rcases hv with rfl | rfl | rfl | rfl | rfl <;> rfl) (fun x y => Lib.compareInt x.seq y.seq) swoSeq 63 #[] blk 0 cap d w eg (cmp_lays blk 0 d.size w) hH hblk hsz
  change Calls Try.prog 62 _ _ _ at hcon
  refine hcon.mono ?_
  rintro e w' ⟨rfl, d', n, os, ⟨hp1, _, hp2⟩, hs, rfl⟩
  have e1 : d'.extract 0 d.size = d' := by rw [← hp1]; exact Array.extract_size
  have e2 : d.extract 0 d.size = d := Array.extract_size
  rw [e1, e2] at hp2
  refine ⟨rfl, d', hp2, fun i j hij hj => ?_, holdsK_sortWorldK_c _ _ _ _ _ d d' n os hH hblk hp1, fr_sortWorld _ _ _ _ _⟩
  have := hs i j (Nat.zero_le _) hij hj
  rw [ltSeq] at this
  simpa using this
end Go.Proofs.Ytedmhhllkkgbjaa
