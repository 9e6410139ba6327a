/- The document's disk: Fit. -/
import Derived.Test.YtdamegjhdopfaaaE5
namespace Go.Proofs.Ytdamegjhdopfaaa
open Go.RowKit Go.WideShapes
set_option linter.unusedSimpArgs false
set_option linter.unusedVariables false

/-- a fate that is made to fit -/
def modU (x : Int) (n : Int) : Int := wrap64 ((IntKind.u64.wrap x).tmod n)
theorem modU_range (x : Int) (n : Nat) (hn : 0 < n) (hb : n ≤ 2000000) : 0 ≤ modU x n ∧ modU x n < n := by
  unfold modU
  have h1 : 0 ≤ IntKind.u64.wrap x := by simp [IntKind.wrap, IntKind.signed]; exact Int.emod_nonneg _ (by decide)
  rw [Int.tmod_eq_emod_of_nonneg h1]
  have h2 := Int.emod_nonneg (IntKind.u64.wrap x) (b := (n : Int)) (by omega)
  have h3 := Int.emod_lt_of_pos (IntKind.u64.wrap x) (b := (n : Int)) (by omega)
  have h4 : wrap64 (IntKind.u64.wrap x % (n : Int)) = IntKind.u64.wrap x % (n : Int) := by
    unfold wrap64; omega
  rw [h4]
  exact ⟨h2, h3⟩
def fit1 (m : Nat) (f : Ft) : Ft := ⟨modU f.keep ((m + 1 : Nat) : Int), if modU f.keep ((m + 1 : Nat) : Int) = m then 0 else modU f.cut ((128 : Nat) : Int)⟩
def fitAll (l : List Lo) (fs : List Ft) : List Ft := (l.zip fs).map (fun p => fit1 p.1.many p.2)
theorem fit_info : (Try.prog.info? 43).map (fun i => (i.zero, i.size, i.bytes)) = some (some (.agg #[.int .i64 0, .int .i64 0]), 2, 16) := by kernel_rfl
def FitPost (w : World) (fs : List Ft) (e : Ending) (w' : World) : Prop :=
  ∃ v, e = .returned v ∧ w'.ownsRow w.heap.size 43 2 v fs.length (fs.flatMap Ft.cells) ∧ Fr (fun _ => False) w w'

set_option maxRecDepth 100000 in
set_option maxHeartbeats 4000000 in
theorem fit_any {w : World} {LA A : Option Addr} {lc c : Nat} {l : List Lo} {fs : List Ft} (hl : w.ownsRow 0 48 2 (.slice LA l.length lc) l.length (l.flatMap Lo.cells)) (hR : ReadFt w A fs) (hfl : fs.length ≤ maxLen) (hll : l.length ≤ 4096) (hm : ∀ m ∈ l, m.many ≤ 1000000) (hi : ∀ f ∈ fs, (-9223372036854775808 ≤ f.keep ∧ f.keep ≤ 9223372036854775807) ∧ (-9223372036854775808 ≤ f.cut ∧ f.cut ≤ 9223372036854775807)) :
    Calls Try.prog 22 #[.slice LA l.length lc, .slice A fs.length c] w (FitPost w (fitAll l fs)) := by
  have HL := Lib.hid hl
  have HR := Lib.hid hR
  have HMM := Lib.hid hm
  have HI := Lib.hid hi
  have O0 : Hid (w.ownsRow w.heap.size 43 2 (.slice none ((fitAll l fs).take 0).length 0) ((fitAll l fs).take 0).length (((fitAll l fs).take 0).flatMap Ft.cells)) := ⟨rfl, .inl ⟨rfl, rfl⟩⟩
  have F0 : Hid (Fr (fun _ => False) w w) := Fr.refl _ _
  have HFL : Hid (fs.length ≤ maxLen) := hfl
  have hfl' : fs.length ≤ 9223372036854775807 := hfl
  clear hl hR hm hi hfl
  go_enter Try.func22, Try.ntmps22
  go_wp2_with fail
  go_loopw [6, 5] (fun k u wr => ∃ (i : Nat) (U : Option Addr) (uc : Nat), i ≤ fs.length ∧ i ≤ l.length ∧ k = .int .i64 i ∧ u = .slice U i uc ∧ Hid (wr.ownsRow w.heap.size 43 2 (.slice U i uc) i (((fitAll l fs).take i).flatMap Ft.cells)) ∧ Hid (Fr (fun _ => False) w wr)) (fun k _ _ => fs.length - (intOf k).toNat)
  case atStart => exact ⟨0, none, 0, by omega, by omega, rfl, rfl, O0, F0⟩
  case round =>
    clear O0 F0
    obtain ⟨i, UA, uc, hi, hi2, rfl, rfl, O, F⟩ := hrel
    by_cases hlt : i < fs.length ∧ i < l.length
    · have hii : (i : Int) < fs.length := by omega
      have hil : (i : Int) < l.length := by omega
      obtain ⟨f, hf⟩ : ∃ f, fs[i]? = some f := ⟨_, List.getElem?_eq_getElem hlt.1⟩
      obtain ⟨m, hm⟩ : ∃ m, l[i]? = some m := ⟨_, List.getElem?_eq_getElem hlt.2⟩
      obtain ⟨fg, fo, rfl, hfc⟩ := HR.out i f hf
      obtain ⟨lg, rfl, hl0, hl1⟩ := readLo_own HL.out hm
      have q0 := F.out.cell0 (hfc 0 _ rfl)
      have q1 := F.out.cell0 (hfc 1 _ rfl)
      simp only [Nat.add_zero] at q0
      have r1 := F.out.cell0 hl1
      have hmm := HMM.out m (List.mem_of_getElem? hm)
      have hfi := HI.out f (List.mem_of_getElem? hf)
      have HFI := Lib.hid hf
      have HMI := Lib.hid hm
      obtain ⟨fk, fcut⟩ := f
      obtain ⟨ms, mm⟩ := m
      simp only at q0 q1 r1 hmm hfi
      obtain ⟨hf1, hf2⟩ := hfi
      clear hf hm hfc hl0 hl1
      have hFa : Fr (fun _ => False) wr (wr.alloc (.cells #[.int .i64 0, .int .i64 0] 43)) := (Fr.refl _ wr).alloc _
      have q0' := hFa.cell0 q0
      have q1' := hFa.cell0 q1
      have r1' := hFa.cell0 r1
      clear hFa
      go_upto_region 5 with fail
      go_region
      obtain ⟨k1, hk1⟩ : ∃ k1, k1 = modU fk ((mm + 1 : Nat) : Int) := ⟨_, rfl⟩
      obtain ⟨c1, hc1⟩ : ∃ c1, c1 = modU fcut ((128 : Nat) : Int) := ⟨_, rfl⟩
      have hkr := modU_range fk (mm + 1) (by omega) (by omega)
      have hcr := modU_range fcut 128 (by omega) (by omega)
      rw [← hk1] at hkr
      rw [← hc1] at hcr
      have ek : wrap64 ((IntKind.u64.wrap fk).tmod ((mm : Int) + 1)) = k1 := hk1.symm
      have ec : wrap64 ((IntKind.u64.wrap fcut).tmod 128) = c1 := hc1.symm
      rw [ek, ec]
      obtain ⟨hkr1, hkr2⟩ := hkr
      obtain ⟨hcr1, hcr2⟩ := hcr
      have hfit : (fitAll l fs)[i]? = some ⟨k1, if k1 = mm then 0 else c1⟩ := by
        unfold fitAll
        rw [List.getElem?_map, show (l.zip fs)[i]? = some (⟨ms, mm⟩, ⟨fk, fcut⟩) from List.getElem?_zip_eq_some.2 ⟨HMI.out, HFI.out⟩]
        simp only [Option.map_some, fit1]
        rw [← hk1, ← hc1]
      have HFIT := Lib.hid hfit
      clear ek ec hk1 hc1 hfit q0' q1' r1'
      obtain ⟨w5, he, hn5, hF5, hs5⟩ := alloc1 wr (.cells #[.int .i64 k1, .int .i64 c1] 43)
      rw [he]
      have x0 : w5.cell? ⟨wr.heap.size, 0, none⟩ = some (.int .i64 k1) := blk_cell hn5 0
      have x1 : w5.cell? ⟨wr.heap.size, 1, none⟩ = some (.int .i64 c1) := blk_cell hn5 1
      have f1 : w5.frozen? ⟨wr.heap.size, 1, none⟩ = false := blk_frozen hn5 1
      have r1 := hF5.cell0 r1
      have HF5 := Lib.hid (F.out.trans hF5 (fun _ _ h => h))
      have HO5 := Lib.hid (hF5.own0 O.out)
      have HN5 := Lib.hid hn5
      have HSW : Hid (w.heap.size ≤ wr.heap.size) := F.out.size
      obtain ⟨bx, hbx⟩ : ∃ bx, bx = wr.heap.size := ⟨_, rfl⟩
      rw [← hbx] at x0 x1 f1 ⊢
      have HN5 : Hid (w5.heap[bx]? = some (.cells #[.int .i64 k1, .int .i64 c1] 43 (0, 0))) := (by rw [hbx]; exact HN5.out : w5.heap[bx]? = some (.cells #[.int .i64 k1, .int .i64 c1] 43 (0, 0)))
      have HSW : Hid (w.heap.size ≤ bx) := (by rw [hbx]; exact HSW.out : w.heap.size ≤ bx)
      have HBO : Hid (∀ k, (Value.slice UA i uc).ownBlock = some k → k ≠ bx) := fun k hk => by have := own_lt O.out k hk; omega
      clear he hn5 hF5 hs5 hbx q0 q1
      -- what the tail wants
      have HTK : Hid (∀ (w8 : World) (A8 : Option Addr) (c8 : Nat), w8.ownsRow w.heap.size 43 2 (.slice A8 (i + 1) c8) (i + 1) (((fitAll l fs).take i).flatMap Ft.cells ++ [.int .i64 k1, .int .i64 (if k1 = mm then 0 else c1)]) → w8.ownsRow w.heap.size 43 2 (.slice A8 (i + 1) c8) (i + 1) (((fitAll l fs).take (i + 1)).flatMap Ft.cells)) := fun w8 A8 c8 h => by
        rw [List.take_add_one, HFIT.out, List.flatMap_append]
        simpa [Ft.cells] using h
      go_upto_region 6 with fail
      go_region
      by_cases hkm : k1 = mm
      · rw [if_pos hkm] at HTK
        have hkb : (k1 == (mm : Int)) = true := by simp [hkm]
        go_upto_region 8 with fail
        obtain ⟨w6, he6⟩ : ∃ w6, w6 = (w5.setCell ⟨bx, 1, none⟩ (.int .i64 0)).drew.drew := ⟨_, rfl⟩
        rw [← he6]
        have hb6 : w6.heap[bx]? = some (.cells #[.int .i64 k1, .int .i64 0] 43 (0, 0)) := by rw [he6]; show (w5.setCell ⟨bx, 1, none⟩ (.int .i64 0)).heap[bx]? = _; simpa using blk_set HN5.out 1 (.int .i64 0)
        have hF56 : Fr (fun k => k = bx) w5 w6 := by rw [he6]; exact (setg_fr (Fr.refl _ _) _ _).drew.drew
        have x0 : w6.cell? ⟨bx, 0, none⟩ = some (.int .i64 k1) := blk_cell hb6 0
        have x1 : w6.cell? ⟨bx, 1, none⟩ = some (.int .i64 0) := blk_cell hb6 1
        have HF6 : Hid (Fr (fun _ => False) w w6) := HF5.out.trans' hF56 (fun _ _ h => h) (fun q hq e => by have := HSW.out; omega)
        have HO6 : Hid ((w6.alloc (.cells #[.int .i64 k1, .int .i64 0] 43)).ownsRow w.heap.size 43 2 (.slice UA i uc) i (((fitAll l fs).take i).flatMap Ft.cells)) := ((Fr.refl (fun _ => False) w6).alloc _).own0 (hF56.own HO5.out HBO.out)
        have HFA : Hid (Fr (fun _ => False) w (w6.alloc (.cells #[.int .i64 k1, .int .i64 0] 43))) := HF6.out.alloc _
        clear he6 hb6 hF56 f1 r1 hkm
        go_wp2_with (at_builtin; refine wpl_app rfl (.tmp 53) (.tmp 55) 23 rfl w.heap.size 43 _ 2 16 Try.underlying23 fit_info rfl (by decide) (.slice UA i uc) i (((fitAll l fs).take i).flatMap Ft.cells) rfl HO6.out ⟨w6.heap.size, 0, none⟩ 1 1 [.int .i64 k1, .int .i64 0] rfl rfl (news_of (blk_new _ _)) (by simp [Value.oneCell']) (by simp [maxLen]; omega) (by omega) HFA.out.size ?_; intro v8 w8 ho8 hg8 hm8; obtain ⟨A8, c8, rfl⟩ := own_slice ho8)
        exact ⟨⟨i + 1, A8, c8, by omega, by omega, by go_num, rfl, HTK.out w8 A8 c8 ho8, HFA.out.grown hg8 (fun k hk => .inl (HO6.out.lt k hk).1)⟩, by simp [intOf]; omega⟩
      · rw [if_neg hkm] at HTK
        have hkb : (k1 == (mm : Int)) = false := by simp [hkm]
        go_upto_region 8 with fail
        obtain ⟨w6, he6⟩ : ∃ w6, w6 = w5.drew.drew := ⟨_, rfl⟩
        rw [← he6]
        have hb6 : w6.heap[bx]? = some (.cells #[.int .i64 k1, .int .i64 c1] 43 (0, 0)) := by rw [he6]; exact HN5.out
        have hF56 : Fr (fun k => k = bx) w5 w6 := by rw [he6]; exact (Fr.refl _ _).drew.drew
        have x0 : w6.cell? ⟨bx, 0, none⟩ = some (.int .i64 k1) := blk_cell hb6 0
        have x1 : w6.cell? ⟨bx, 1, none⟩ = some (.int .i64 c1) := blk_cell hb6 1
        have HF6 : Hid (Fr (fun _ => False) w w6) := HF5.out.trans' hF56 (fun _ _ h => h) (fun q hq e => by have := HSW.out; omega)
        have HO6 : Hid ((w6.alloc (.cells #[.int .i64 k1, .int .i64 c1] 43)).ownsRow w.heap.size 43 2 (.slice UA i uc) i (((fitAll l fs).take i).flatMap Ft.cells)) := ((Fr.refl (fun _ => False) w6).alloc _).own0 (hF56.own HO5.out HBO.out)
        have HFA : Hid (Fr (fun _ => False) w (w6.alloc (.cells #[.int .i64 k1, .int .i64 c1] 43))) := HF6.out.alloc _
        clear he6 hb6 hF56 f1 r1 hkm
        go_wp2_with (at_builtin; refine wpl_app rfl (.tmp 53) (.tmp 55) 23 rfl w.heap.size 43 _ 2 16 Try.underlying23 fit_info rfl (by decide) (.slice UA i uc) i (((fitAll l fs).take i).flatMap Ft.cells) rfl HO6.out ⟨w6.heap.size, 0, none⟩ 1 1 [.int .i64 k1, .int .i64 c1] rfl rfl (news_of (blk_new _ _)) (by simp [Value.oneCell']) (by simp [maxLen]; omega) (by omega) HFA.out.size ?_; intro v8 w8 ho8 hg8 hm8; obtain ⟨A8, c8, rfl⟩ := own_slice ho8)
        exact ⟨⟨i + 1, A8, c8, by omega, by omega, by go_num, rfl, HTK.out w8 A8 c8 ho8, HFA.out.grown hg8 (fun k hk => .inl (HO6.out.lt k hk).1)⟩, by simp [intOf]; omega⟩
    · have hj : i = fs.length ∨ i = l.length := by omega
      have hlen : (fitAll l fs).length = i := by simp [fitAll]; omega
      have htk : (fitAll l fs).take i = fitAll l fs := List.take_of_length_le (by omega)
      have HE : Hid (FitPost w (fitAll l fs) (.returned (.slice UA i uc)) wr) := ⟨_, rfl, by rw [hlen]; have := O.out; rw [htk] at this; exact this, F.out⟩
      clear hlen htk
      by_cases hil : i < fs.length
      · have hi1 : (i : Int) < fs.length := by omega
        have hi3 : ¬ (i : Int) < l.length := by omega
        go_wp2_with fail
        go_ret
        exact HE.out
      · have hi1 : ¬ (i : Int) < fs.length := by omega
        go_wp2_with fail
        go_ret
        exact HE.out
end Go.Proofs.Ytdamegjhdopfaaa
