/- slices.SortFunc at the loose sectors. -/
import Derived.Shelf.SlGeneric
import Derived.Shelf.SlSortCmp.WholeK
import Derived.Shelf.SlSortCmp.NoneTotal
import Derived.Shelf.Small.Bits
import Derived.Ground.SlsfProg
import Derived.Ground.NamesProg
import Derived.Test.YtdamegjhdopfaaaD8
namespace Go.Proofs.Ytdamegjhdopfaaa
open Go.Shelf Go.RowKit Go.Lib Go.Sort
def Try.sortLo_ren : Go.Shelf.Ren := ⟨fun | 6 => 61 | 15 => 84 | 14 => 83 | 28 => 104 | 29 => 105 | 20 => 96 | 21 => 97 | 22 => 98 | 23 => 99 | 24 => 100 | 25 => 101 | 26 => 102 | 27 => 103 | 46 => 109 | 47 => 110 | 48 => 111 | 49 => 112 | 50 => 113 | 57 => 116 | n => n, fun | 22 => 39 | 24 => 48 | 25 => 111 | 3 => 3 | 39 => 24 | 0 => 0 | 53 => 145 | 55 => 159 | 4 => 4 | 46 => 151 | 45 => 150 | 50 => 155 | 5 => 5 | 9 => 9 | 66 => 161 | 70 => 165 | 76 => 170 | 77 => 171 | n => n, fun | n => n⟩
theorem Try.sortLo : Go.Proofs.SlLaysF0.n6 Try.prog Try.sortLo_ren := {
  mixed := by kernel_rfl
  f6 := ⟨Try.f61.name, by decide, Try.func61.trans (congrArg some (by kernel_rfl))⟩
  f14 := ⟨Try.f83.name, by decide, Try.func83.trans (congrArg some (by kernel_rfl))⟩
  f15 := Try.func84.trans (congrArg some (by kernel_rfl))
  f20 := ⟨Try.f96.name, by decide, Try.func96.trans (congrArg some (by kernel_rfl))⟩
  f21 := ⟨Try.f97.name, by decide, Try.func97.trans (congrArg some (by kernel_rfl))⟩
  f22 := ⟨Try.f98.name, by decide, Try.func98.trans (congrArg some (by kernel_rfl))⟩
  f23 := ⟨Try.f99.name, by decide, Try.func99.trans (congrArg some (by kernel_rfl))⟩
  f24 := ⟨Try.f100.name, by decide, Try.func100.trans (congrArg some (by kernel_rfl))⟩
  f25 := ⟨Try.f101.name, by decide, Try.func101.trans (congrArg some (by kernel_rfl))⟩
  f26 := ⟨Try.f102.name, by decide, Try.func102.trans (congrArg some (by kernel_rfl))⟩
  f27 := ⟨Try.f103.name, by decide, Try.func103.trans (congrArg some (by kernel_rfl))⟩
  f28 := Try.func104.trans (congrArg some (by kernel_rfl))
  f29 := Try.func105.trans (congrArg some (by kernel_rfl))
  f46 := ⟨Try.f109.name, by decide, Try.func109.trans (congrArg some (by kernel_rfl))⟩
  f47 := Try.func110.trans (congrArg some (by kernel_rfl))
  f48 := Try.func111.trans (congrArg some (by kernel_rfl))
  f49 := ⟨Try.f112.name, by decide, Try.func112.trans (congrArg some (by kernel_rfl))⟩
  f50 := ⟨Try.f113.name, by decide, Try.func113.trans (congrArg some (by kernel_rfl))⟩
  f57 := ⟨Try.f116.name, by decide, Try.func116.trans (congrArg some (by kernel_rfl))⟩
  t0 := Try.underlying0
  a0 := Try.isAgg0
  z0 := Try.sizeOf0
  v0 := Try.zeroValue0
  t3 := Try.underlying3
  a3 := Try.isAgg3
  z3 := Try.sizeOf3
  v3 := Try.zeroValue3
  t4 := Try.underlying4
  a4 := Try.isAgg4
  z4 := Try.sizeOf4
  v4 := Try.zeroValue4
  t5 := Try.underlying5
  a5 := Try.isAgg5
  z5 := Try.sizeOf5
  v5 := Try.zeroValue5
  t9 := Try.underlying9
  a9 := Try.isAgg9
  z9 := Try.sizeOf9
  v9 := Try.zeroValue9
  t22 := Try.underlying39
  a22 := Try.isAgg39
  z22 := Try.sizeOf39
  v22 := Try.zeroValue39
  t25 := Try.underlying111
  a25 := Try.isAgg111
  z25 := Try.sizeOf111
  v25 := Try.zeroValue111
  t39 := Try.underlying24
  a39 := Try.isAgg24
  z39 := Try.sizeOf24
  v39 := Try.zeroValue24
  t45 := Try.underlying150
  a45 := Try.isAgg150
  z45 := Try.sizeOf150
  v45 := Try.zeroValue150
  t46 := Try.underlying151
  a46 := Try.isAgg151
  z46 := Try.sizeOf151
  v46 := Try.zeroValue151
  t50 := Try.underlying155
  a50 := Try.isAgg155
  z50 := Try.sizeOf155
  v50 := Try.zeroValue155
  t53 := Try.underlying145
  a53 := Try.isAgg145
  z53 := Try.sizeOf145
  v53 := Try.zeroValue145
  t55 := Try.underlying159
  a55 := Try.isAgg159
  z55 := Try.sizeOf159
  v55 := Try.zeroValue159
  t66 := Try.underlying161
  a66 := Try.isAgg161
  z66 := Try.sizeOf161
  v66 := Try.zeroValue161
  t70 := Try.underlying165
  a70 := Try.isAgg165
  z70 := Try.sizeOf165
  v70 := Try.zeroValue165
  t76 := Try.underlying170
  a76 := Try.isAgg170
  z76 := Try.sizeOf170
  v76 := Try.zeroValue170
  t77 := Try.underlying171
  a77 := Try.isAgg171
  z77 := Try.sizeOf171
  v77 := Try.zeroValue171 }

/-- a loose sector: which, and how many writes -/
structure Lo where
  s : Fin 4096
  many : Nat
def Lo.cells (x : Lo) : List Value := [.int .i64 (x.s.val : Int), .int .i64 x.many]
def Lo.v (x : Lo) : Value := .agg #[.int .i64 (x.s.val : Int), .int .i64 x.many]
instance : Inhabited Lo := ⟨⟨0, 0⟩⟩

set_option maxHeartbeats 1000000 in
theorem lo_closure (x y : Lo) (W : World) : Calls Try.prog 62 #[.agg #[.int .i64 (x.s.val : Int), .int .i64 x.many], .agg #[.int .i64 (y.s.val : Int), .int .i64 y.many]] W fun e w' => e = .returned (.int .i64 ((x.s.val : Int) - y.s.val)) ∧ ∃ q os', w' = grow (W.drewN q) os' := by
  have h1 := x.s.isLt
  have h2 := y.s.isLt
  generalize x.s.val = a at *
  generalize y.s.val = b at *
  go_enter Try.func62, Try.ntmps62
  go_wp2
  go_ret
  exact ⟨rfl, 0, _, by rw [alloc_eq_grow, alloc_eq_grow, grow_grow]; rfl⟩
theorem lo_lays (blk off size : Nat) (w : World) : CmpLays Try.prog 62 #[] Lo.cells 2 (fun x y => (x.s.val : Int) - y.s.val) blk off size w :=
  fun _ _ _ _ x y => lo_closure x y _
theorem ltLo (x y : Lo) : ltOf (fun x y : Lo => (x.s.val : Int) - y.s.val) x y = decide (x.s.val < y.s.val) := by
  unfold ltOf
  by_cases h1 : x.s.val < y.s.val
  · have : (x.s.val : Int) - y.s.val < 0 := by omega
    simp [h1, this]
  · have : ¬ (x.s.val : Int) - y.s.val < 0 := by omega
    simp [h1, this]
theorem swoLo : SWO (ltOf fun x y : Lo => (x.s.val : Int) - y.s.val) where
  irrefl x := by rw [ltLo]; simp
  trans x y z h1 h2 := by rw [ltLo] at *; simp at *; omega
  ntrans x y z h1 h2 := by rw [ltLo] at *; simp at *; omega

def SortPost (w : World) (blk : Nat) (d : Array Lo) (e : Ending) (w' : World) : Prop :=
  e = .returned (.tuple #[]) ∧ ∃ d' : Array Lo, d'.toList.Perm d.toList ∧ (∀ i j, i < j → j < d.size → ¬ (d'[j]!).s.val < (d'[i]!).s.val) ∧ HoldsK Lo.cells 2 w' blk 0 d' ∧ Fr (fun k => k = blk) w w' ∧ (∀ cs t, w.heap[blk]? = some (.cells cs t (0, 0)) → ∃ cs' : Array Value, w'.heap[blk]? = some (.cells cs' t (0, 0)) ∧ cs'.size = cs.size)

theorem fr_sortWorld (w : World) (blk n : Nat) (d : Array Lo) (os : Array Obj) : Fr (fun k => k = blk) w (sortWorldK Lo.cells 2 w blk 0 n d os) := by
  have h1 := size_sortWorldK_c Lo.cells 2 w blk 0 n d os
  refine ⟨rfl, rfl, rfl, h1, fun j hj hne => ?_⟩
  have e : (sortWorldK Lo.cells 2 w blk 0 n d os).heap = w.heap.modify blk (onCells (putCells id 0 (flatK Lo.cells 2 d))) ++ os := rfl
  rw [e, Array.getElem?_append_left (by rw [Array.size_modify]; exact hj), Array.getElem?_modify, if_neg (fun h => hne h.symm)]
theorem blk_sortWorld (w : World) (blk n : Nat) (d : Array Lo) (os : Array Obj) (hblk : blk < w.heap.size) (cs : Array Value) (t : TypeId) (h : w.heap[blk]? = some (.cells cs t (0, 0))) : ∃ cs' : Array Value, (sortWorldK Lo.cells 2 w blk 0 n d os).heap[blk]? = some (.cells cs' t (0, 0)) ∧ cs'.size = cs.size := by
  have e : (sortWorldK Lo.cells 2 w blk 0 n d os).heap = w.heap.modify blk (onCells (putCells id 0 (flatK Lo.cells 2 d))) ++ os := rfl
  refine ⟨putCells id 0 (flatK Lo.cells 2 d) cs, ?_, by simp [putCells]⟩
  rw [e, Array.getElem?_append_left (by rw [Array.size_modify]; exact hblk), Array.getElem?_modify, if_pos rfl, h]
  rfl
theorem sort_los (blk cap : Nat) (d : Array Lo) (w : World) (hH : HoldsK Lo.cells 2 w blk 0 d) (hblk : blk < w.heap.size) (hsz : d.size < 4611686018427387904) :
    Calls Try.prog 61 #[.slice (some ⟨blk, 0, none⟩) d.size cap, .func (.func 62) #[] #[]] w (SortPost w blk d) := by
  have eg : ∀ args w, (callFunc 62 args).run Try.prog w = .ok (.enter 62 args) w := enters_of Try.func62 (by kernel_rfl) rfl
  have hcon := AnyQ.slices_SortFunc Try.sortLo 2 (fun w => by kernel_rfl) (fun w => by kernel_rfl) Lo.cells (fun _ => rfl) (fun x v hv => by simp [Lo.cells] at hv; rcases hv with rfl | rfl <;> rfl) (fun x y => (x.s.val : Int) - y.s.val) swoLo 62 #[] blk 0 cap d w eg (lo_lays blk 0 d.size w) hH hblk hsz
  change Calls Try.prog 61 _ _ _ at hcon
  refine hcon.mono ?_
  rintro e w' ⟨rfl, d', n, os, ⟨hp1, _, hp2⟩, hs, rfl⟩
  have e1 : d'.extract 0 d.size = d' := by rw [← hp1]; exact Array.extract_size
  have e2 : d.extract 0 d.size = d := Array.extract_size
  rw [e1, e2] at hp2
  refine ⟨rfl, d', hp2, fun i j hij hj => ?_, holdsK_sortWorldK_c _ _ _ _ _ d d' n os hH hblk hp1, fr_sortWorld _ _ _ _ _, blk_sortWorld _ _ _ _ _ hblk⟩
  have := hs i j (Nat.zero_le _) hij hj
  rw [ltLo] at this
  simpa using this
theorem sort_none (U : Option Addr) (c : Nat) (w : World) : Calls Try.prog 61 #[.slice U 0 c, .func (.func 62) #[] #[]] w (fun e w' => e = .returned (.tuple #[]) ∧ w' = w) := by
  have hs := AnyF.slices_SortFunc_none Try.sortLo U c (.func (.func 62) #[] #[]) w
  change Calls Try.prog 61 _ _ _ at hs
  exact hs
end Go.Proofs.Ytdamegjhdopfaaa
