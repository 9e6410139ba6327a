/- A disk: Read. -/
import Derived.Test.YtdamegjhdopfaaaD3
namespace Go.Proofs.Ytdamegjhdopfaaa
open Go.RowKit Go.WideShapes

def Dk.readE (d : Dk) (i : Int) : Int := if d.down then 30 else if 0 ≤ i ∧ i < d.F.length then 0 else 5
def Dk.readB (d : Dk) (i : Int) : List Int := if d.down then [] else if 0 ≤ i ∧ i < d.F.length then d.at i.toNat else []
def ReadPost (w : World) (b : List Int) (r : Int) (e : Ending) (w' : World) : Prop :=
  ∃ v, e = .returned (.tuple #[v, .int .i64 r]) ∧ w'.ownsRow w.heap.size 5 1 v b.length (by8 b) ∧ Fr (fun _ => False) w w'

theorem at_len {w : World} {g : Nat} {T : Nat → Prop} {d : Dk} (h : DkAt w g T d) (i : Nat) (hi : i < d.F.length) : Sec (d.at i) := by
  obtain ⟨FA, fc, bm, km, Dm, hd, h1, h2, h3⟩ := h
  unfold Dk.at
  cases hL : d.L i with
  | nil => simp; rw [List.getElem?_eq_getElem hi]; exact h1.secs _ (List.getElem_mem hi)
  | cons x r =>
    obtain ⟨s, e1, e2⟩ := getLast_at (x :: r) (by simp)
    rw [e1]
    exact h1.lsecs i s (by rw [hL]; exact List.mem_of_getElem? e2)
theorem sec_type : (Try.prog.info? 5).map (·.size) = some 1 := by kernel_rfl

theorem allocRow (w : World) (Z C : Array Value) (t : TypeId) : ∃ w1, (w.alloc (.cells Z t)).setRow w.heap.size C = w1 ∧ w1.heap[w.heap.size]? = some (.cells C t (0, 0)) ∧ Fr (fun _ => False) w w1 ∧ w1.heap.size = w.heap.size + 1 :=
  ⟨_, rfl, blk_setRow (blk_new w _) C, ((Fr.refl _ w).alloc _).trans' (Fr.setRow (w.alloc (.cells Z t)) w.heap.size C) (fun _ _ h => h) (fun k hk e => by omega), by simp⟩
set_option maxRecDepth 100000 in
theorem run_make128 (W : World) : (Instr.makeSlice 33 (.int .i64 128) (.int .i64 128)).run Try.prog W = .ok (.slice (some ⟨W.heap.size, 0, none⟩) 128 128) (W.alloc (.cells (by8 zeroS).toArray 5)) := by
  have h0 : (Try.prog.info? 5).map (fun i => (i.zero, i.size, i.bytes)) = some (some (.int .u8 0), 1, 1) := by kernel_rfl
  obtain ⟨i, hi, h1⟩ := Option.map_eq_some_iff.1 h0
  simp only [Prod.mk.injEq] at h1
  obtain ⟨hz, hs, hb⟩ := h1
  have h := run_make (P := Try.prog) W 33 5 i (.int .u8 0) Try.underlying33 hi hz .i64 .i64 128 128 (by omega) (by omega) (by rw [hb]; omega) (by omega)
  rw [hs] at h
  rw [show madeCells (Value.int .u8 0).cells ((128 : Int).toNat * 1) = (by8 zeroS).toArray by kernel_rfl] at h
  exact h
theorem splice_all (X Y : List Value) (h : X.length = Y.length) : splice X 0 Y = Y := by simp [splice, h]
theorem zero_len : (by8 zeroS).length = 128 := by simp [by8_len, zeroS]
theorem cell_row {w : World} {g : Nat} {l : List Value} {t : TypeId} {fr : Nat × Nat} (h : w.heap[g]? = some (.cells l.toArray t fr)) : ∀ j v, l[j]? = some v → w.cell? ((⟨g, 0, none⟩ : Addr).add j) = some v := fun j v hv => by
  rw [add_some, Nat.zero_add, blk_cell h]
  simpa using hv

set_option maxRecDepth 100000 in
set_option maxHeartbeats 1000000 in
theorem read_any {w : World} {g : Nat} {T : Nat → Prop} {d : Dk} (h : DkAt w g T d) (i : Int) : Calls Try.prog 24 #[.pointer (some ⟨g, 0, none⟩), .int .i64 i] w (ReadPost w (d.readB i) (d.readE i)) := by
  have H := Lib.hid h
  have HSE := Lib.hid (at_len h)
  clear h
  have hmk := run_make128
  go_enter Try.func24, Try.ntmps24
  go_wp2_with fail
  refine (up_any H.out).mono ?_
  rintro e w1 ⟨rfl, rfl⟩
  cases hdn : d.down with
  | true =>
    have hup : d.up = 30 := by simp [Dk.up, hdn]
    have HE : Hid (ReadPost w1 (d.readB i) (d.readE i) (.returned (.tuple #[.slice none 0 0, .int .i64 30])) w1) := ⟨_, by simp [Dk.readE, hdn], ⟨by simp [Dk.readB, hdn, by8], .inl ⟨rfl, by simp [Dk.readB, hdn]⟩⟩, Fr.refl _ _⟩
    rw [hup]
    clear hdn hup
    go_wp2_with fail
    go_ret2
    exact HE.out
  | false =>
    have hup : d.up = 0 := by simp [Dk.up, hdn]
    rw [hup]
    have HDN := Lib.hid hdn
    clear hup hdn
    go_wp2_with fail
    refine (has_any H.out i).mono ?_
    rintro e w1 ⟨rfl, rfl⟩
    by_cases hi : 0 ≤ i ∧ i < d.F.length
    · obtain ⟨k, rfl⟩ := Int.eq_ofNat_of_zero_le hi.1
      have hk : k < d.F.length := by have := hi.2; omega
      have hb : (decide (0 ≤ (k : Int)) && decide ((k : Int) < d.F.length)) = true := by simp; omega
      rw [hb]
      have hre : d.readE k = 0 := by unfold Dk.readE; rw [HDN.out, if_neg (by simp), if_pos hi]
      have hrb : d.readB k = d.at k := by unfold Dk.readB; rw [HDN.out, if_neg (by simp), if_pos hi]; simp
      have HSC := Lib.hid (HSE.out k hk)
      have HRE := Lib.hid hre
      have HRB := Lib.hid hrb
      clear hi hb hre hrb HSE
      go_wp2_with fail
      refine (stands_any H.out k hk).mono ?_
      rintro e w2 ⟨rfl, hF2⟩
      have HF2 := Lib.hid hF2
      clear hF2
      generalize d.at k = s at *
      go_upto_region 7 with (refine wpList_store_row rfl 106 _ _ rfl w2.heap.size (by8 s).toArray rfl rfl 106 _ (blk_new _ _) (sec_size s HSC.out.1) (by rw [zero_cells]; simp [by8_len, zeroS, HSC.out.1]) (arr_one s) ?_)
      obtain ⟨w3, he, hn3, hF3, hs3⟩ := allocRow w2 Try.zeroCells106 (by8 s).toArray 106
      rw [he]
      have HN3 := Lib.hid hn3
      have HF3 := Lib.hid (HF2.out.trans hF3 (fun _ _ h => h))
      clear he hn3 hF3 hs3 HF2
      go_upto_region 8 with (fail)
      obtain ⟨w4, he, hn4, hF4, hs4⟩ := alloc1 w3 (.cells (by8 zeroS).toArray 5)
      rw [he]
      have HN4 := Lib.hid hn4
      have HN3 := Lib.hid (hF4.blk0 HN3.out)
      have HF4 := Lib.hid (HF3.out.trans hF4 (fun _ _ h => h))
      have HB := Lib.hid HF4.out.below0
      have HSZ : Hid (w1.heap.size ≤ w3.heap.size) := HF3.out.size
      have HLN : Hid ((by8 s).length = Nat.min 128 128) := (by rw [by8_len, HSC.out.1]; rfl : (by8 s).length = Nat.min 128 128)
      have HFT : Hid (0 + (by8 s).length ≤ (by8 zeroS).length) := (by rw [by8_len, HSC.out.1, zero_len]; omega : 0 + (by8 s).length ≤ (by8 zeroS).length)
      clear he hn4 hF4 hs4 hmk
      go_wp2_with (refine wpList_copy_splice rfl _ _ 33 33 rfl 5 Try.underlying33 sec_type _ _ 128 128 128 128 rfl rfl w3.heap.size 0 (by8 zeroS) 5 HN4.out (by8 s) HLN.out (fun _ => ⟨rfl, _, rfl, cell_row HN3.out⟩) HFT.out (by8_one s) w1.heap.size w1 HB.out HSZ.out ?_; intro w5 hn5 hb5)
      go_ret2
      have h5 := hn5.out
      rw [splice_all _ _ (by rw [zero_len, by8_len, HSC.out.1])] at h5
      have hl := HSC.out.1
      refine ⟨.slice (some ⟨w3.heap.size, 0, none⟩) 128 128, by rw [HRE.out]; rfl, ?_, Fr.of_below hb5 _⟩
      rw [HRB.out]
      refine ⟨by rw [by8_len]; omega, .inr ⟨w3.heap.size, 128, _, by rw [hl], HSZ.out, h5, by omega, by simp [maxLen], by simp [by8_len, hl], List.take_of_length_le (l := by8 s) (by rw [by8_len]; omega)⟩⟩
    · have hb : (decide (0 ≤ i) && decide (i < d.F.length)) = false := by simp; omega
      rw [hb]
      have HE : Hid (ReadPost w1 (d.readB i) (d.readE i) (.returned (.tuple #[.slice none 0 0, .int .i64 5])) w1) := by
        have h1 : d.readB i = [] := by unfold Dk.readB; rw [HDN.out, if_neg (by simp), if_neg hi]
        have h2 : d.readE i = 5 := by unfold Dk.readE; rw [HDN.out, if_neg (by simp), if_neg hi]
        rw [h1, h2]
        exact ⟨_, rfl, ⟨by simp [by8], .inl ⟨rfl, rfl⟩⟩, Fr.refl _ _⟩
      clear hi hb
      go_wp2_with fail
      go_ret2
      exact HE.out
end Go.Proofs.Ytdamegjhdopfaaa
