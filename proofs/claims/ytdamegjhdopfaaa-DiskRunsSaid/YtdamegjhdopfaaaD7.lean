/- A disk: New, fresh. -/
import Derived.Test.YtdamegjhdopfaaaD6
namespace Go.Proofs.Ytdamegjhdopfaaa
open Go.RowKit Go.WideShapes
set_option linter.unusedSimpArgs false

/-- a disk of which these sectors are fixed -/
def newDk (F : List (List Int)) : Dk := ⟨F, fun _ => [], 0, -1, false, 0⟩
def FreshPost (w : World) (FA : Option Addr) (F : List (List Int)) (e : Ending) (w' : World) : Prop :=
  ∃ g T, e = .returned (.pointer (some ⟨g, 0, none⟩)) ∧ DkAt w' g T (newDk F) ∧ Fr (fun _ => False) w w' ∧ w.heap.size ≤ g ∧ ∀ k, T k → w.heap.size ≤ k ∨ (Value.slice FA 0 0).ownBlock = some k

set_option maxRecDepth 100000 in
set_option maxHeartbeats 1000000 in
theorem fresh_any {w : World} {FA : Option Addr} {fc : Nat} {F : List (List Int)} (hrow : w.ownsRow 0 106 128 (.slice FA F.length fc) F.length (F.flatMap by8)) (hsecs : ∀ s ∈ F, Sec s) (hpos : 0 < F.length) (hfew : F.length ≤ 4096) :
    Calls Try.prog 50 #[.slice FA F.length fc] w (FreshPost w FA F) := by
  have hmm := @run_makeMap Try.prog
  have HR := Lib.hid hrow
  have HS := Lib.hid hsecs
  have HP := Lib.hid hpos
  have HW := Lib.hid hfew
  clear hrow hsecs hpos hfew
  go_enter Try.func50, Try.ntmps50
  go_wp2
  go_ret
  refine ⟨w.heap.size + 1, fun k => (w.heap.size ≤ k ∨ (Value.slice FA 0 0).ownBlock = some k) ∧ k < w.heap.size + 2, by simp, ⟨FA, fc, w.heap.size, 0, .map [], fun _ => noHd, ⟨?_, ?_, HS.out, HP.out, HW.out, ?_, HdIs.nil, fun _ => rfl, fun _ => ⟨rfl, .inl ⟨rfl, rfl⟩⟩, fun i s hs => (by cases hs), fun i hi => absurd rfl hi, Nat.le_refl _, fun _ => Nat.le_refl _, Int.le_refl _, (by show (-1 : Int) ≤ -1 ∧ (-1 : Int) ≤ 1048576; omega), fun i j k hk => (by cases hk), fun i k hk => (by cases hk)⟩, fun k hk => ?_, fun k hk => ?_⟩, ((Fr.refl _ w).alloc _).alloc _, by omega, fun k hk => hk.1⟩
  · have h0 := blk_new (w.alloc (.map #[] 0)) (.cells #[.slice FA F.length fc, .map (some w.heap.size), .int .i64 0, .int .i64 (-1), .bool false] 74)
    rw [show (w.alloc (.map #[] 0)).heap.size = w.heap.size + 1 by simp] at h0
    exact h0
  · exact (HR.out.alloc _).alloc _
  · exact (World.ownsMap_made w Try.prog 3 hdR).alloc _
  · rcases hk with rfl | rfl | hk | ⟨i, hk⟩
    · exact ⟨.inl (by omega), by omega⟩
    · exact ⟨.inl (by omega), by omega⟩
    · refine ⟨.inr hk, ?_⟩
      have := own_lt HR.out k (by rw [ob]; exact hk)
      omega
    · cases hk
  · have := hk.2
    simp
    omega

theorem zero_by8 : by8 zeroS = List.replicate 128 (Value.int .u8 0) := List.map_replicate
theorem replicate_flat : ∀ k : Nat, (List.replicate k zeroS).flatMap by8 = List.replicate (k * 128) (Value.int .u8 0)
  | 0 => by simp
  | k + 1 => by
    rw [List.replicate_succ, List.flatMap_cons, replicate_flat k, show (k + 1) * 128 = 128 + k * 128 by omega, ← List.replicate_append_replicate]
    congr 1
theorem zero_sec : Sec zeroS := ⟨by simp [zeroS], fun x hx => by rw [List.eq_of_mem_replicate hx]; omega⟩
set_option maxRecDepth 100000 in
theorem made_zero (k : Nat) : madeCells (by8 zeroS).toArray (k * 128) = ((List.replicate k zeroS).flatMap by8).toArray := by
  rw [replicate_flat]
  unfold madeCells
  apply Array.ext
  · simp
  · intro i h1 h2
    have hz : (by8 zeroS).toArray.size = 128 := by simp [zero_len]
    have hm : i % 128 < 128 := Nat.mod_lt _ (by omega)
    simp only [Array.getElem_map, Array.getElem_range, hz, List.getElem_toArray, List.getElem_replicate]
    rw [getElem!_pos (by8 zeroS).toArray (i % 128) (by rw [hz]; exact hm)]
    simp only [List.getElem_toArray]
    exact List.eq_of_mem_replicate (n := 128) (by rw [← zero_by8]; exact List.getElem_mem _)
theorem run_makeS (k : Nat) (hk : k ≤ 4096) (W : World) : (Instr.makeSlice 71 (.int .i64 k) (.int .i64 k)).run Try.prog W = .ok (.slice (some ⟨W.heap.size, 0, none⟩) k k) (W.alloc (.cells ((List.replicate k zeroS).flatMap by8).toArray 106)) := by
  obtain ⟨i, hi, h1⟩ := Option.map_eq_some_iff.1 sec_infos
  simp only [Prod.mk.injEq] at h1
  obtain ⟨hz, hsz, hb⟩ := h1
  have h := run_make (P := Try.prog) W 71 106 i _ Try.underlying71 hi hz .i64 .i64 k k (by omega) (by omega) (by rw [hb]; omega) (by omega)
  rw [hsz] at h
  simp only [Int.toNat_natCast, Value.cells] at h
  rw [made_zero] at h
  exact h

def NewPost (w : World) (n : Nat) (e : Ending) (w' : World) : Prop :=
  ∃ g T, e = .returned (.tuple #[.pointer (some ⟨g, 0, none⟩), .int .i64 0]) ∧ DkAt w' g T (newDk (List.replicate n zeroS)) ∧ Fr (fun _ => False) w w' ∧ w.heap.size ≤ g ∧ ∀ k, T k → w.heap.size ≤ k
set_option maxRecDepth 100000 in
theorem new_bad (w : World) (n : Int) (h : n < 1 ∨ 4096 < n) : Calls Try.prog 16 #[.int .i64 n] w (fun e w' => e = .returned (.tuple #[.pointer none, .int .i64 1]) ∧ w' = w) := by
  have H := Lib.hid h
  clear h
  go_enter Try.func16, Try.ntmps16
  by_cases h1 : n < 1
  · go_wp2
    go_ret2
    exact ⟨rfl, rfl⟩
  · have h2 : 4096 < n := by have := H.out; omega
    go_wp2
    go_ret2
    exact ⟨rfl, rfl⟩
set_option maxRecDepth 100000 in
theorem new_any (w : World) (n : Nat) (h1 : 1 ≤ n) (h2 : n ≤ 4096) : Calls Try.prog 16 #[.int .i64 n] w (NewPost w n) := by
  have hmk := run_makeS n h2
  have hi1 : ¬ (n : Int) < 1 := by omega
  have hi2 : ¬ (4096 : Int) < n := by omega
  have H1 := Lib.hid h1
  have H2 := Lib.hid h2
  clear h1 h2
  go_enter Try.func16, Try.ntmps16
  go_wp2_with fail
  have hrow : (w.alloc (.cells ((List.replicate n zeroS).flatMap by8).toArray 106)).ownsRow 0 106 128 (.slice (some ⟨w.heap.size, 0, none⟩) (List.replicate n zeroS).length n) (List.replicate n zeroS).length ((List.replicate n zeroS).flatMap by8) := by
    have hl : ((List.replicate n zeroS).flatMap by8).length = n * 128 := by rw [replicate_flat]; simp
    refine ⟨by rw [hl]; simp, .inr ⟨w.heap.size, n, _, rfl, Nat.zero_le _, blk_new _ _, by simp, by have := H2.out; simp [maxLen]; omega, by simp only [List.size_toArray]; exact hl, List.take_of_length_le (by rw [hl]; simp)⟩⟩
  have hf := fresh_any hrow (fun s hs => by rw [List.eq_of_mem_replicate hs]; exact zero_sec) (by simp; exact H1.out) (by simp; exact H2.out)
  rw [List.length_replicate] at hf
  refine hf.mono ?_
  rintro e w2 ⟨g, T, rfl, hat, hF, hg, hT⟩
  have HAT := Lib.hid hat
  have HF := Lib.hid hF
  have HG := Lib.hid hg
  have HT := Lib.hid hT
  clear hmk hf hrow hat hF hg hT
  go_wp2_with fail
  go_ret2
  refine ⟨g, T, rfl, HAT.out, ((Fr.refl _ w).alloc _).trans HF.out (fun _ _ h => h), by have := HG.out; simp at this; omega, fun k hk => ?_⟩
  rcases HT.out k hk with h | h
  · simp at h; omega
  · have : some w.heap.size = some k := h
    have := Option.some.inj this
    omega
end Go.Proofs.Ytdamegjhdopfaaa
