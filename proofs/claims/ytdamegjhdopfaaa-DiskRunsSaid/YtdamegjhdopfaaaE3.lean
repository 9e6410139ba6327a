/- The document's disk: New. -/
import Derived.Test.YtdamegjhdopfaaaE2
namespace Go.Proofs.Ytdamegjhdopfaaa
open Go.RowKit Go.WideShapes
set_option linter.unusedSimpArgs false
set_option linter.unusedVariables false

theorem oh_flat : ∀ k : Nat, (List.replicate k noOh).flatMap Oh.cells = List.replicate (k * 2) (Value.slice none 0 0)
  | 0 => by simp
  | k + 1 => by
    rw [List.replicate_succ, List.flatMap_cons, oh_flat k, show (k + 1) * 2 = 2 + k * 2 by omega, ← List.replicate_append_replicate]
    congr 1
theorem one_info : (Try.prog.info? 52).map (fun i => (i.zero, i.size, i.bytes)) = some (some (.agg #[.slice none 0 0, .slice none 0 0]), 2, 48) := by kernel_rfl
theorem made_oh (k : Nat) : madeCells #[Value.slice none 0 0, Value.slice none 0 0] (k * 2) = ((List.replicate k noOh).flatMap Oh.cells).toArray := by
  rw [oh_flat]
  unfold madeCells
  apply Array.ext
  · simp
  · intro i h1 h2
    have hm : i % 2 = 0 ∨ i % 2 = 1 := by omega
    rcases hm with hm | hm <;> simp [hm]
theorem run_makeO (k : Nat) (hk : k ≤ 4096) (W : World) : (Instr.makeSlice 53 (.int .i64 k) (.int .i64 k)).run Try.prog W = .ok (.slice (some ⟨W.heap.size, 0, none⟩) k k) (W.alloc (.cells ((List.replicate k noOh).flatMap Oh.cells).toArray 52)) := by
  obtain ⟨i, hi, h1⟩ := Option.map_eq_some_iff.1 one_info
  simp only [Prod.mk.injEq] at h1
  obtain ⟨hz, hsz, hb⟩ := h1
  have h := run_make (P := Try.prog) W 53 52 i _ Try.underlying53 hi hz .i64 .i64 k k (by omega) (by omega) (by rw [hb]; omega) (by omega)
  rw [hsz] at h
  simp only [Int.toNat_natCast, Value.cells] at h
  rw [made_oh] at h
  exact h
/-- a cell of a sector is written -/
theorem oh_set0 (hs : List Oh) (i : Nat) (o : Oh) (ho : hs[i]? = some o) (A : Option Addr) (n c : Nat) : (hs.flatMap Oh.cells).set (i * 2) (.slice A n c) = (hs.set i { o with fa := A, fn := n, fc := c }).flatMap Oh.cells := by
  induction hs generalizing i with
  | nil => simp at ho
  | cons h hs ih =>
    cases i with
    | zero =>
      obtain rfl : h = o := by simpa using ho
      simp [Oh.cells]
    | succ i =>
      have := ih i (by simpa using ho)
      simp only [List.flatMap_cons, Oh.cells, List.set_cons_succ, List.cons_append, List.nil_append, Nat.succ_mul]
      exact congrArg _ (congrArg _ this)
theorem oh_set1 (hs : List Oh) (i : Nat) (o : Oh) (ho : hs[i]? = some o) (A : Option Addr) (n c : Nat) : (hs.flatMap Oh.cells).set (i * 2 + 1) (.slice A n c) = (hs.set i { o with la := A, ll := n, lc := c }).flatMap Oh.cells := by
  induction hs generalizing i with
  | nil => simp at ho
  | cons h hs ih =>
    cases i with
    | zero =>
      obtain rfl : h = o := by simpa using ho
      simp [Oh.cells]
    | succ i =>
      have := ih i (by simpa using ho)
      simp only [List.flatMap_cons, Oh.cells, List.set_cons_succ, List.cons_append, List.nil_append, Nat.succ_mul]
      exact congrArg _ (congrArg _ this)
theorem sb_set0 {w : World} {sb : Nat} {hs : List Oh} (h : w.heap[sb]? = some (.cells (hs.flatMap Oh.cells).toArray 52 (0, 0))) {i : Nat} {o : Oh} (ho : hs[i]? = some o) (A : Option Addr) (n c : Nat) :
    (w.setCell ⟨sb, i * 2, none⟩ (.slice A n c)).heap[sb]? = some (.cells ((hs.set i { o with fa := A, fn := n, fc := c }).flatMap Oh.cells).toArray 52 (0, 0)) := by
  rw [blk_set h, ← oh_set0 hs i o ho A n c]
  simp
theorem sb_set1 {w : World} {sb : Nat} {hs : List Oh} (h : w.heap[sb]? = some (.cells (hs.flatMap Oh.cells).toArray 52 (0, 0))) {i : Nat} {o : Oh} (ho : hs[i]? = some o) (A : Option Addr) (n c : Nat) :
    (w.setCell ⟨sb, i * 2 + 1, none⟩ (.slice A n c)).heap[sb]? = some (.cells ((hs.set i { o with la := A, ll := n, lc := c }).flatMap Oh.cells).toArray 52 (0, 0)) := by
  rw [blk_set h, ← oh_set1 hs i o ho A n c]
  simp
set_option maxRecDepth 100000 in
theorem rnew_bad (w : World) (n : Int) (h : n < 1 ∨ 4096 < n) : Calls Try.prog 17 #[.int .i64 n] w (fun e w' => e = .returned (.tuple #[.pointer none, .int .i64 1]) ∧ w' = w) := by
  have H := Lib.hid h
  clear h
  go_enter Try.func17, Try.ntmps17
  by_cases h1 : n < 1
  · go_wp2
    go_ret2
    exact ⟨rfl, rfl⟩
  · have h2 : 4096 < n := by have := H.out; omega
    go_wp2
    go_ret2
    exact ⟨rfl, rfl⟩
theorem Dk.Pure.new {F : List (List Int)} (h1 : ∀ s ∈ F, Sec s) (h2 : 0 < F.length) (h3 : F.length ≤ 4096) : (newDk F).Pure :=
  ⟨h1, h2, h3, fun i s hs => (by cases hs), fun i hi => absurd rfl hi, fun _ => Nat.le_refl _, Int.le_refl _, (by show (-1 : Int) ≤ -1 ∧ (-1 : Int) ≤ 1048576; omega), rfl⟩
def RNewPost (w : World) (n : Nat) (e : Ending) (w' : World) : Prop :=
  ∃ g T, e = .returned (.tuple #[.pointer (some ⟨g, 0, none⟩), .int .i64 0]) ∧ RdAt w' g T (newDk (List.replicate n zeroS)) ∧ Fr (fun _ => False) w w' ∧ w.heap.size ≤ g ∧ ∀ k, T k → w.heap.size ≤ k
/-- what New has made so far -/
def RNew (w : World) (n k : Nat) (wr : World) : Prop :=
  wr.heap[w.heap.size + 1]? = some (.cells #[.slice (some ⟨w.heap.size, 0, none⟩) n n, .bool false, .int .i64 0, .int .i64 0] 55 (0, 0)) ∧ Fr (fun _ => False) w wr ∧ w.heap.size + 2 ≤ wr.heap.size ∧
  ∃ hs : List Oh, wr.heap[w.heap.size]? = some (.cells (hs.flatMap Oh.cells).toArray 52 (0, 0)) ∧ hs.length = n ∧
    (∀ i o, hs[i]? = some o → k ≤ i → o = noOh) ∧ ∀ i o, hs[i]? = some o → i < k → o.is (fun q => w.heap.size + 2 ≤ q ∧ q < wr.heap.size) wr zeroS []

theorem RNew.drew {w wr : World} {n k : Nat} (h : RNew w n k wr) : RNew w n k wr.drew := by
  obtain ⟨b1, f1, s1, hs, r1, l1, z1, d1⟩ := h
  refine ⟨b1, f1.drew, s1, hs, r1, l1, z1, fun i o ho hi => ?_⟩
  obtain ⟨d2, d3, d4, d5⟩ := d1 i o ho hi
  exact ⟨d2, d3, d4, d5⟩
set_option maxRecDepth 100000 in
set_option maxHeartbeats 2000000 in
theorem rnew_any (w : World) (n : Nat) (h1 : 1 ≤ n) (h2 : n ≤ 4096) : Calls Try.prog 17 #[.int .i64 n] w (RNewPost w n) := by
  have hmk := run_makeO n h2
  have hi1 : ¬ (n : Int) < 1 := by omega
  have hi2 : ¬ (4096 : Int) < n := by omega
  have H1 := Lib.hid h1
  have H2 := Lib.hid h2
  clear h1 h2
  have hm8 := run_make128
  go_enter Try.func17, Try.ntmps17
  go_upto_region 4 with fail
  obtain ⟨w1, he, hn1, hF1, hs1⟩ := alloc1 w (.cells ((List.replicate n noOh).flatMap Oh.cells).toArray 52)
  rw [he]
  obtain ⟨w2, he2, hn2, hF2, hs2⟩ := alloc1 w1 (.cells #[.slice (some ⟨w.heap.size, 0, none⟩) n n, .bool false, .int .i64 0, .int .i64 0] 55)
  rw [he2]
  rw [hs1] at hn2 hs2
  have J0 : Hid (RNew w n 0 w2) := ⟨hn2, hF1.trans hF2 (fun _ _ h => h), by omega, List.replicate n noOh, hF2.blk0 hn1, by simp, fun i o ho _ => List.eq_of_mem_replicate (List.mem_of_getElem? ho), fun i o _ h => absurd h (Nat.not_lt_zero _)⟩
  clear he he2 hn1 hn2 hF1 hF2 hs1 hs2 hmk
  go_wp2_with fail
  go_loopw [5] (fun k wr => ∃ i : Nat, i ≤ n ∧ k = .int .i64 i ∧ Hid (RNew w n i wr)) (fun k _ => n - (intOf k).toNat)
  case atStart => exact ⟨0, by omega, rfl, J0⟩
  case round =>
    clear J0
    obtain ⟨i, hi, rfl, J⟩ := hrel
    rcases Nat.lt_or_ge i n with hlt | hlt
    · have hii : (i : Int) < n := by omega
      have JJ := J
      obtain ⟨b1, f1, s1, hs, r1, l1, z1, d1⟩ := J.out
      obtain ⟨o, ho⟩ : ∃ o, hs[i]? = some o := ⟨_, List.getElem?_eq_getElem (by rw [l1]; exact hlt)⟩
      obtain rfl := z1 i o ho (Nat.le_refl _)
      have c0 : wr.cell? ⟨w.heap.size + 1, 0, none⟩ = some (.slice (some ⟨w.heap.size, 0, none⟩) n n) := blk_cell b1 0
      have hFa : Fr (fun _ => False) wr (wr.alloc (.cells (by8 zeroS).toArray 5)) := (Fr.refl _ wr).alloc _
      have c0b : (wr.alloc (.cells (by8 zeroS).toArray 5)).cell? ⟨w.heap.size + 1, 0, none⟩ = some (.slice (some ⟨w.heap.size, 0, none⟩) n n) := hFa.cell0 c0
      have rb := hFa.blk0 r1
      have hcx : (wr.alloc (.cells (by8 zeroS).toArray 5)).cell? ⟨w.heap.size, i * 2, none⟩ = some (.slice none 0 0) := by
        rw [blk_cell rb]
        have := flat_at (f := Oh.cells) (s := 2) (fun _ => rfl) hs i 0 noOh (.slice none 0 0) ho rfl
        simpa using this
      have hfx : (wr.alloc (.cells (by8 zeroS).toArray 5)).frozen? ⟨w.heap.size, i * 2, none⟩ = false := blk_frozen rb _
      have hne : w.heap.size ≠ wr.heap.size := by omega
      have hne1 : w.heap.size + 1 ≠ wr.heap.size := by omega
      -- the world behind the store
      have hsb := sb_set0 rb ho (some ⟨wr.heap.size, 0, none⟩) 128 128
      have hFs : Fr (fun q => q = w.heap.size) (wr.alloc (.cells (by8 zeroS).toArray 5)) ((wr.alloc (.cells (by8 zeroS).toArray 5)).setCell ⟨w.heap.size, i * 2, none⟩ (.slice (some ⟨wr.heap.size, 0, none⟩) 128 128)) := setg_fr (Fr.refl _ _) _ _
      have JN : Hid (RNew w n (i + 1) ((wr.alloc (.cells (by8 zeroS).toArray 5)).setCell ⟨w.heap.size, i * 2, none⟩ (.slice (some ⟨wr.heap.size, 0, none⟩) 128 128))) := by
        refine ⟨hFs.blk (hFa.blk0 b1) (by omega), (f1.trans hFa (fun _ _ h => h)).trans' hFs (fun _ _ h => h) (fun q hq e => by omega), by simp; omega, _, hsb, by rw [List.length_set]; exact l1, fun j o hj hij => ?_, fun j o hj hij => ?_⟩
        · rw [List.getElem?_set] at hj
          rw [if_neg (by omega)] at hj
          exact z1 j o hj (by omega)
        · rw [List.getElem?_set] at hj
          by_cases hji : i = j
          · subst hji
            rw [if_pos rfl, if_pos (by rw [l1]; exact hlt)] at hj
            obtain rfl := Option.some.inj hj
            refine ⟨rfl, rfl, fun q b hb => ⟨wr.heap.size, 0, rfl, ⟨s1, by simp⟩, ?_⟩, ReadVV.nil⟩
            have hz := blk_new wr (.cells (by8 zeroS).toArray 5)
            rw [blk_cell (hFs.blk hz (by omega)), Nat.zero_add]
            unfold by8
            simp [hb]
          · rw [if_neg hji] at hj
            obtain ⟨d2, d3, d4, d5⟩ := d1 j o hj (by omega)
            have hsz : wr.heap.size ≤ (wr.alloc (.cells (by8 zeroS).toArray 5)).heap.size := hFa.size
            have hnu : ∀ q, (w.heap.size + 2 ≤ q ∧ q < wr.heap.size) → ¬ q = w.heap.size := fun q hq e => by omega
            have hmu : ∀ q, (w.heap.size + 2 ≤ q ∧ q < wr.heap.size) → (w.heap.size + 2 ≤ q ∧ q < ((wr.alloc (.cells (by8 zeroS).toArray 5)).setCell ⟨w.heap.size, i * 2, none⟩ (.slice (some ⟨wr.heap.size, 0, none⟩) 128 128)).heap.size) := fun q hq => ⟨hq.1, by simp; omega⟩
            exact ⟨d2, d3, ((d4.fr hFa (fun _ _ h => h)).fr hFs hnu).mono hmu, ((d5.fr hFa (fun _ _ h => h)).fr hFs hnu).mono hmu⟩
      clear b1 f1 s1 r1 l1 z1 d1 ho J hFa rb hsb hFs
      go_upto_region 7 with fail
      go_region
      go_wp2_with fail
      exact ⟨⟨i + 1, by omega, by go_num, JN.out.drew⟩, by simp [intOf]; omega⟩
    · have hii : ¬ (i : Int) < n := by omega
      obtain rfl : i = n := by omega
      go_wp2_with fail
      go_ret2
      obtain ⟨b1, f1, s1, hs, r1, l1, z1, d1⟩ := J.out
      have hrl : (newDk (List.replicate i zeroS)).F.length = i := by simp [newDk]
      refine ⟨w.heap.size + 1, fun k => w.heap.size ≤ k ∧ k < wr.heap.size, rfl, ⟨w.heap.size, fun q => w.heap.size + 2 ≤ q ∧ q < wr.heap.size, hs, ⟨?_, r1, by rw [l1, hrl], fun j o ho => ?_, ?_, fun h => by have := h.1; omega, fun h => by have := h.1; omega⟩, ⟨by omega, by omega⟩, ⟨by omega, by omega⟩, fun k hk => ⟨by have := hk.1; omega, hk.2⟩, fun k hk => hk.2⟩, f1, by omega, fun k hk => hk.1⟩
      · rw [hrl]; exact b1
      · have hj := (List.getElem?_eq_some_iff.1 ho).1
        have := d1 j o ho (by omega)
        have hz : (newDk (List.replicate i zeroS)).F.getD j [] = zeroS := by
          show (List.replicate i zeroS).getD j [] = zeroS
          rw [List.getD, List.getElem?_replicate, if_pos (by omega)]
          rfl
        rw [hz]
        exact this
      · exact Dk.Pure.new (fun s hs => by rw [List.eq_of_mem_replicate hs]; exact zero_sec) (by simp; exact H1.out) (by simp; exact H2.out)
end Go.Proofs.Ytdamegjhdopfaaa
