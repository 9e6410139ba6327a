/- slices.SortFunc at messages. -/
import Derived.Shelf.SlGeneric
import Derived.Shelf.SlSortCmp.WholeK
import Derived.Shelf.SlSortCmp.NoneTotal
import Derived.Shelf.SlicesG.Cmp
import Derived.Shelf.Small.Bits
import Derived.Ground.SlsfProg
import Derived.Ground.SlgcProg
import Derived.Ground.NamesProg
import Derived.Test.YtedmhhllkkgbjaaPe2
namespace Go.Proofs.Ytedmhhllkkgbjaa
open Go.Shelf Go.RowKit Go.Lib Go.Sort
def Try.sortMsg_ren : Go.Shelf.Ren := ⟨fun | 6 => 62 | 15 => 71 | 14 => 70 | 28 => 81 | 29 => 82 | 20 => 73 | 21 => 74 | 22 => 75 | 23 => 76 | 24 => 77 | 25 => 78 | 26 => 79 | 27 => 80 | 46 => 83 | 47 => 84 | 48 => 85 | 49 => 86 | 50 => 87 | 57 => 88 | n => n, fun | 22 => 65 | 24 => 71 | 25 => 126 | 3 => 3 | 39 => 134 | 0 => 0 | 53 => 149 | 55 => 111 | 4 => 4 | 46 => 142 | 45 => 141 | 50 => 146 | 5 => 5 | 9 => 9 | 66 => 151 | 70 => 155 | 76 => 157 | 77 => 158 | n => n, fun | n => n⟩
theorem Try.sortMsg : Go.Proofs.SlLaysF0.n6 Try.prog Try.sortMsg_ren := {
  mixed := by kernel_rfl
  f6 := ⟨Try.f62.name, by decide, Try.func62.trans (congrArg some (by kernel_rfl))⟩
  f14 := ⟨Try.f70.name, by decide, Try.func70.trans (congrArg some (by kernel_rfl))⟩
  f15 := Try.func71.trans (congrArg some (by kernel_rfl))
  f20 := ⟨Try.f73.name, by decide, Try.func73.trans (congrArg some (by kernel_rfl))⟩
  f21 := ⟨Try.f74.name, by decide, Try.func74.trans (congrArg some (by kernel_rfl))⟩
  f22 := ⟨Try.f75.name, by decide, Try.func75.trans (congrArg some (by kernel_rfl))⟩
  f23 := ⟨Try.f76.name, by decide, Try.func76.trans (congrArg some (by kernel_rfl))⟩
  f24 := ⟨Try.f77.name, by decide, Try.func77.trans (congrArg some (by kernel_rfl))⟩
  f25 := ⟨Try.f78.name, by decide, Try.func78.trans (congrArg some (by kernel_rfl))⟩
  f26 := ⟨Try.f79.name, by decide, Try.func79.trans (congrArg some (by kernel_rfl))⟩
  f27 := ⟨Try.f80.name, by decide, Try.func80.trans (congrArg some (by kernel_rfl))⟩
  f28 := Try.func81.trans (congrArg some (by kernel_rfl))
  f29 := Try.func82.trans (congrArg some (by kernel_rfl))
  f46 := ⟨Try.f83.name, by decide, Try.func83.trans (congrArg some (by kernel_rfl))⟩
  f47 := Try.func84.trans (congrArg some (by kernel_rfl))
  f48 := Try.func85.trans (congrArg some (by kernel_rfl))
  f49 := ⟨Try.f86.name, by decide, Try.func86.trans (congrArg some (by kernel_rfl))⟩
  f50 := ⟨Try.f87.name, by decide, Try.func87.trans (congrArg some (by kernel_rfl))⟩
  f57 := ⟨Try.f88.name, by decide, Try.func88.trans (congrArg some (by kernel_rfl))⟩
  t0 := Try.underlying0
  a0 := Try.isAgg0
  z0 := Try.sizeOf0
  v0 := Try.zeroValue0
  t3 := Try.underlying3
  a3 := Try.isAgg3
  z3 := Try.sizeOf3
  v3 := Try.zeroValue3
  t4 := Try.underlying4
  a4 := Try.isAgg4
  z4 := Try.sizeOf4
  v4 := Try.zeroValue4
  t5 := Try.underlying5
  a5 := Try.isAgg5
  z5 := Try.sizeOf5
  v5 := Try.zeroValue5
  t9 := Try.underlying9
  a9 := Try.isAgg9
  z9 := Try.sizeOf9
  v9 := Try.zeroValue9
  t22 := Try.underlying65
  a22 := Try.isAgg65
  z22 := Try.sizeOf65
  v22 := Try.zeroValue65
  t25 := Try.underlying126
  a25 := Try.isAgg126
  z25 := Try.sizeOf126
  v25 := Try.zeroValue126
  t39 := Try.underlying134
  a39 := Try.isAgg134
  z39 := Try.sizeOf134
  v39 := Try.zeroValue134
  t45 := Try.underlying141
  a45 := Try.isAgg141
  z45 := Try.sizeOf141
  v45 := Try.zeroValue141
  t46 := Try.underlying142
  a46 := Try.isAgg142
  z46 := Try.sizeOf142
  v46 := Try.zeroValue142
  t50 := Try.underlying146
  a50 := Try.isAgg146
  z50 := Try.sizeOf146
  v50 := Try.zeroValue146
  t53 := Try.underlying149
  a53 := Try.isAgg149
  z53 := Try.sizeOf149
  v53 := Try.zeroValue149
  t55 := Try.underlying111
  a55 := Try.isAgg111
  z55 := Try.sizeOf111
  v55 := Try.zeroValue111
  t66 := Try.underlying151
  a66 := Try.isAgg151
  z66 := Try.sizeOf151
  v66 := Try.zeroValue151
  t70 := Try.underlying155
  a70 := Try.isAgg155
  z70 := Try.sizeOf155
  v70 := Try.zeroValue155
  t76 := Try.underlying157
  a76 := Try.isAgg157
  z76 := Try.sizeOf157
  v76 := Try.zeroValue157
  t77 := Try.underlying158
  a77 := Try.isAgg158
  z77 := Try.sizeOf158
  v77 := Try.zeroValue158 }
def Try.cmpInt_ren : Go.Shelf.Ren := ⟨fun | 5 => 64 | 7 => 72 | n => n, fun | 22 => 3 | 3 => 3 | 4 => 4 | n => n, fun | n => n⟩
theorem Try.cmpInt : Go.Proofs.SlLaysC2.n5 Try.prog Try.cmpInt_ren := {
  mixed := by kernel_rfl
  f5 := ⟨Try.f64.name, by decide, Try.func64.trans (congrArg some (by kernel_rfl))⟩
  f7 := ⟨Try.f72.name, by decide, Try.func72.trans (congrArg some (by kernel_rfl))⟩
  t3 := Try.underlying3
  a3 := Try.isAgg3
  z3 := Try.sizeOf3
  v3 := Try.zeroValue3
  t4 := Try.underlying4
  a4 := Try.isAgg4
  z4 := Try.sizeOf4
  v4 := Try.zeroValue4
  t22 := Try.underlying3
  a22 := Try.isAgg3
  z22 := Try.sizeOf3
  v22 := Try.zeroValue3 }

instance : Inhabited Msg := ⟨zMsg⟩

set_option maxHeartbeats 1000000 in
theorem cmp_closure (x y : Msg) (W : World) : Calls Try.prog 63 #[.agg #[.int .i64 x.kind, .int .i64 x.peer, .int .i64 x.seq, .string x.key, .int .i64 x.n], .agg #[.int .i64 y.kind, .int .i64 y.peer, .int .i64 y.seq, .string y.key, .int .i64 y.n]] W fun e w' => e = .returned (.int .i64 (Lib.compareInt x.seq y.seq)) ∧ ∃ q os', w' = grow (W.drewN q) os' := by
  have hcon := fun W' => AnyG.cmp_Compare_int Try.cmpInt x.seq y.seq W'
  change ∀ W', Calls Try.prog 64 _ _ _ at hcon
  generalize Lib.compareInt x.seq y.seq = r at hcon ⊢
  go_enter Try.func63, Try.ntmps63
  go_wp2_with (go_at_call 64; refine (hcon _).mono ?_; rintro e w' ⟨rfl, rfl⟩)
  go_ret
  exact ⟨rfl, 0, _, by rw [alloc_eq_grow, alloc_eq_grow, grow_grow]; rfl⟩
theorem cmp_lays (blk off size : Nat) (w : World) : CmpLays Try.prog 63 #[] Msg.cells 5 (fun x y => Lib.compareInt x.seq y.seq) blk off size w :=
  fun _ _ _ _ x y => cmp_closure x y _

theorem ltSeq (x y : Msg) : ltOf (fun x y : Msg => Lib.compareInt x.seq y.seq) x y = decide (x.seq < y.seq) := by
  unfold ltOf Lib.compareInt
  by_cases h1 : x.seq < y.seq
  · simp [h1]
  · by_cases h2 : y.seq < x.seq <;> simp [h1, h2]
theorem swoSeq : SWO (ltOf fun x y : Msg => Lib.compareInt x.seq y.seq) where
  irrefl x := by rw [ltSeq]; simp
  trans x y z h1 h2 := by rw [ltSeq] at *; simp at *; omega
  ntrans x y z h1 h2 := by rw [ltSeq] at *; simp at *; omega

def SortPost (w : World) (blk : Nat) (d : Array Msg) (e : Ending) (w' : World) : Prop :=
  e = .returned (.tuple #[]) ∧ ∃ d' : Array Msg, d'.toList.Perm d.toList ∧ (∀ i j, i < j → j < d.size → ¬ (d'[j]!).seq < (d'[i]!).seq) ∧ HoldsK Msg.cells 5 w' blk 0 d' ∧ Fr (fun k => k = blk) w w'

theorem fr_sortWorld (w : World) (blk n : Nat) (d : Array Msg) (os : Array Obj) : Fr (fun k => k = blk) w (sortWorldK Msg.cells 5 w blk 0 n d os) := by
  have h1 := size_sortWorldK_c Msg.cells 5 w blk 0 n d os
  refine ⟨rfl, rfl, rfl, h1, fun j hj hne => ?_⟩
  have e : (sortWorldK Msg.cells 5 w blk 0 n d os).heap = w.heap.modify blk (onCells (putCells id 0 (flatK Msg.cells 5 d))) ++ os := rfl
  rw [e, Array.getElem?_append_left (by rw [Array.size_modify]; exact hj), Array.getElem?_modify, if_neg (fun h => hne h.symm)]
theorem sort_msgs (blk cap : Nat) (d : Array Msg) (w : World) (hH : HoldsK Msg.cells 5 w blk 0 d) (hblk : blk < w.heap.size) (hsz : d.size < 4611686018427387904) :
    Calls Try.prog 62 #[.slice (some ⟨blk, 0, none⟩) d.size cap, .func (.func 63) #[] #[]] w (SortPost w blk d) := by
  have eg : ∀ args w, (callFunc 63 args).run Try.prog w = .ok (.enter 63 args) w := enters_of Try.func63 (by kernel_rfl) rfl
  have hcon := AnyQ.slices_SortFunc Try.sortMsg 5 (fun w => by kernel_rfl) (fun w => by kernel_rfl) Msg.cells (fun _ => rfl) (fun x v hv => by simp [Msg.cells] at hv; rcases hv with rfl | rfl | rfl | rfl | rfl <;> rfl) (fun x y => Lib.compareInt x.seq y.seq) swoSeq 63 #[] blk 0 cap d w eg (cmp_lays blk 0 d.size w) hH hblk hsz
  change Calls Try.prog 62 _ _ _ at hcon
  refine hcon.mono ?_
  rintro e w' ⟨rfl, d', n, os, ⟨hp1, _, hp2⟩, hs, rfl⟩
  have e1 : d'.extract 0 d.size = d' := by rw [← hp1]; exact Array.extract_size
  have e2 : d.extract 0 d.size = d := Array.extract_size
  rw [e1, e2] at hp2
  refine ⟨rfl, d', hp2, fun i j hij hj => ?_, holdsK_sortWorldK_c _ _ _ _ _ d d' n os hH hblk hp1, fr_sortWorld _ _ _ _ _⟩
  have := hs i j (Nat.zero_le _) hij hj
  rw [ltSeq] at this
  simpa using this
end Go.Proofs.Ytedmhhllkkgbjaa
