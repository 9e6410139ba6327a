/- The keys of a disk's map, collected. -/
import Derived.Test.YtdamegjhdopfaaaD17
import Derived.Shelf.SlIterI.Keys
import Derived.Shelf.SlIterI.Collect
namespace Go.Proofs.Ytdamegjhdopfaaa
open Go.Shelf Go.RowKit Go.Lib Go.Sort Go.Maps

def Try.iter_ren : Go.Shelf.Ren := ⟨fun | 7 => 64 | 8 => 63 | 10 => 86 | 11 => 85 | n => n, fun | 0 => 0 | 3 => 71 | 4 => 4 | 23 => 72 | 24 => 112 | 26 => 3 | 27 => 114 | 28 => 115 | 33 => 104 | n => n, fun n => n⟩
theorem Try.iterKeys : SlLaysZI.n7 Try.prog Try.iter_ren := {
  mixed := by kernel_rfl
  f7 := ⟨Try.f64.name, by decide, Try.func64.trans (congrArg some (by kernel_rfl))⟩
  f10 := ⟨Try.f86.name, by decide, Try.func86.trans (congrArg some (by kernel_rfl))⟩
  t0 := Try.underlying0
  a0 := Try.isAgg0
  z0 := Try.sizeOf0
  v0 := Try.zeroValue0
  t4 := Try.underlying4
  a4 := Try.isAgg4
  z4 := Try.sizeOf4
  v4 := Try.zeroValue4
  t23 := Try.underlying72
  a23 := Try.isAgg72
  z23 := Try.sizeOf72
  v23 := Try.zeroValue72
  t26 := Try.underlying3
  a26 := Try.isAgg3
  z26 := Try.sizeOf3
  v26 := Try.zeroValue3
  t27 := Try.underlying114
  a27 := Try.isAgg114
  z27 := Try.sizeOf114
  v27 := Try.zeroValue114
  t28 := Try.underlying115
  a28 := Try.isAgg115
  z28 := Try.sizeOf115
  v28 := Try.zeroValue115
  t33 := Try.underlying104
  a33 := Try.isAgg104
  z33 := Try.sizeOf104
  v33 := Try.zeroValue104 }
theorem Try.iterCollect : SlLaysZI.n8 Try.prog Try.iter_ren := {
  mixed := by kernel_rfl
  f8 := ⟨Try.f63.name, by decide, Try.func63.trans (congrArg some (by kernel_rfl))⟩
  f11 := ⟨Try.f85.name, by decide, Try.func85.trans (congrArg some (by kernel_rfl))⟩
  t0 := Try.underlying0
  a0 := Try.isAgg0
  z0 := Try.sizeOf0
  v0 := Try.zeroValue0
  t24 := Try.underlying112
  a24 := Try.isAgg112
  z24 := Try.sizeOf112
  v24 := Try.zeroValue112
  t26 := Try.underlying3
  a26 := Try.isAgg3
  z26 := Try.sizeOf3
  v26 := Try.zeroValue3
  t28 := Try.underlying115
  a28 := Try.isAgg115
  z28 := Try.sizeOf115
  v28 := Try.zeroValue115
  i26 := by kernel_rfl }

theorem keys_any (b : Nat) (W : World) : Calls Try.prog 64 #[.map (some b)] W fun e w' => e = .returned (.func (.func 86) #[] #[.pointer (some ⟨W.heap.size, 0, none⟩)]) ∧ w' = W.alloc (.cells #[.map (some b)] 72) :=
  (callsIn_wide (n := 5)).1 (AnyZI.keys_in Try.iterKeys Fence.wide 5 trivial rfl (some b) W)

def CollectPost (w : World) (D : DataW Hd) (e : Ending) (w' : World) : Prop :=
  ∃ (v : Value) (ss : List Int), e = .returned v ∧ ss.Perm (intKeys D) ∧ w'.ownsRow w.heap.size 3 1 v ss.length (ss.map encZ) ∧ Fr (fun _ => False) w w'
set_option maxHeartbeats 1000000 in
theorem collect_any {w : World} {b nn : Nat} {D : DataW Hd} (hown : w.ownsMap Try.prog 3 hdR b nn D) (hmax : Maps.size D ≤ 1000000) :
    Calls Try.prog 63 #[.func (.func 86) #[] #[.pointer (some ⟨w.heap.size, 0, none⟩)]] (w.alloc (.cells #[.map (some b)] 72)) (CollectPost (w.alloc (.cells #[.map (some b)] 72)) D) := by
  have hbl := hown.lt
  have hseq : SeqGives Fence.wide 3 Try.prog 86 #[.pointer (some ⟨w.heap.size, 0, none⟩)] encZ (fun ss => ss.Perm (intKeys D)) (Maps.size D) (w.alloc (.cells #[.map (some b)] 72)) :=
    AnyZI.keys_gives (ρ := Try.iter_ren) { Try.iterKeys with } Fence.wide _ trivial rfl (by omega) w.heap.size b nn D _ (by simp) (by simp) (by
      obtain ⟨es, clock, hb, Ft, hs, hD⟩ := hown
      exact ⟨es, clock, (Below.heap_alloc _ _ b hbl).trans hb, Ft, hs, hD⟩)
  have hcon := AnyZI.collect_in Try.iterCollect Fence.wide 5 trivial trivial rfl (by omega) 86 #[.pointer (some ⟨w.heap.size, 0, none⟩)] trivial (enters_of Try.func86 (by kernel_rfl) rfl) _ (Maps.size D) (by simp [maxLen]; omega) (by omega) _ hseq
  refine ((callsIn_wide (n := 5)).1 hcon).mono ?_
  rintro e w' ⟨v, ss, rfl, hp, hrow, _, hb⟩
  exact ⟨v, ss, rfl, hp, hrow, Fr.of_below hb _⟩
end Go.Proofs.Ytdamegjhdopfaaa
