/- Layer 03's own words: Full, awake. -/
import Derived.Test.YtdamegjhdopfaaaD14
namespace Go.Proofs.Ytdamegjhdopfaaa
open Go.RowKit Go.WideShapes
set_option linter.unusedSimpArgs false
set_option linter.unusedVariables false

def fullS (b : List Int) : List Int := b.take 128 ++ zeroS.drop (b.take 128).length
theorem full_sec (b : List Int) (hb : ∀ x ∈ b, 0 ≤ x ∧ x < 256) : Sec (fullS b) := by
  refine ⟨by unfold fullS; simp [zeroS]; omega, fun x hx => ?_⟩
  unfold fullS at hx
  rcases List.mem_append.1 hx with hx | hx
  · exact hb x (List.mem_of_mem_take hx)
  · have := List.mem_of_mem_drop hx
    rw [List.eq_of_mem_replicate this]; omega
def FullPost (w : World) (b : List Int) (e : Ending) (w' : World) : Prop :=
  ∃ k, e = .returned (.slice (some ⟨k, 0, none⟩) 128 128) ∧ w'.heap[k]? = some (.cells (by8 (fullS b)).toArray 5 (0, 0)) ∧ Fr (fun _ => False) w w' ∧ w.heap.size ≤ k
theorem full_splice (b : List Int) : splice (by8 zeroS) 0 (by8 (b.take 128)) = by8 (fullS b) := by
  unfold splice fullS by8
  simp [List.map_append, List.map_drop]
set_option maxRecDepth 100000 in
theorem full_any {w : World} (A : Option Addr) (c : Nat) (b : List Int) (hR : ReadU w A b) : Calls Try.prog 19 #[.slice A b.length c] w (FullPost w b) := by
  have HR := Lib.hid hR
  have hmk := run_make128
  clear hR
  go_enter Try.func19, Try.ntmps19
  go_upto_region 2 with (fail)
  obtain ⟨w2, he, hn2, hF2, hs2⟩ := alloc1 w (.cells (by8 zeroS).toArray 5)
  rw [he]
  have HN2 := Lib.hid hn2
  have HF2 := Lib.hid hF2
  have HB := Lib.hid hF2.below0
  have HLN : Hid ((by8 (b.take 128)).length = Nat.min b.length 128) := (by rw [by8_len, List.length_take]; exact Nat.min_comm _ _ : (by8 (b.take 128)).length = Nat.min b.length 128)
  have HFT : Hid (0 + (by8 (b.take 128)).length ≤ (by8 zeroS).length) := (by rw [by8_len, List.length_take, zero_len]; omega : 0 + (by8 (b.take 128)).length ≤ (by8 zeroS).length)
  have HSRC : Hid (0 < (by8 (b.take 128)).length → ∃ ad, A = some ad ∧ ∀ j v, (by8 (b.take 128))[j]? = some v → w2.cell? (ad.add j) = some v) := fun hp => by
    have hpb : 0 < b.length := by rw [by8_len, List.length_take] at hp; omega
    obtain ⟨ad, e, hc⟩ := (HR.out.fr hF2 (fun _ _ _ h => h)).news hpb
    refine ⟨ad, e, fun j v hv => hc j v ?_⟩
    unfold by8 at hv ⊢
    rw [List.map_take, List.getElem?_take] at hv
    split at hv
    · exact hv
    · cases hv
  clear he hn2 hF2 hs2 hmk
  go_wp2_with (refine wpList_copy_splice rfl _ _ 33 33 rfl 5 Try.underlying33 sec_type _ _ 128 128 b.length c rfl rfl w.heap.size 0 (by8 zeroS) 5 HN2.out (by8 (b.take 128)) HLN.out (fun hp => ⟨rfl, HSRC.out hp⟩) HFT.out (by8_one _) w.heap.size w HB.out (Nat.le_refl _) ?_; intro w3 hn3 hb3)
  go_ret
  have h3 := hn3.out
  rw [full_splice] at h3
  exact ⟨w.heap.size, rfl, h3, Fr.of_below hb3 _, Nat.le_refl _⟩
theorem str_of {w : World} {A : Option Addr} {c : Nat} {x : List Int} (h : ReadU w A x) (hx : 0 < x.length) : (convert 33 9 (.slice A x.length c)).run Try.prog w = .ok (.string (strOfNums x)) w := by
  obtain ⟨y, r, rfl⟩ : ∃ y r, x = y :: r := by cases x with | nil => simp at hx | cons y r => exact ⟨y, r, rfl⟩
  obtain ⟨g, o, rfl, _⟩ := h 0 y rfl
  exact run_convert_bytes_arg w 33 5 Try.underlying33 Try.underlying5 g o (y :: r).length c (y :: r) rfl (fun i hi => by
    obtain ⟨g', o', e, hc⟩ := h i _ (List.getElem?_eq_getElem hi)
    cases e
    rw [hc, List.getD_eq_getElem?_getD, List.getElem?_eq_getElem hi]
    rfl) 9 Try.underlying9
theorem readU_row {w : World} {k : Nat} {b : List Int} {t : TypeId} {fr : Nat × Nat} (h : w.heap[k]? = some (.cells (by8 b).toArray t fr)) : ReadU w (some ⟨k, 0, none⟩) b := fun i x hx => by
  refine ⟨k, 0, rfl, ?_⟩
  rw [Nat.zero_add, blk_cell h]
  simp [by8, hx]
end Go.Proofs.Ytdamegjhdopfaaa
