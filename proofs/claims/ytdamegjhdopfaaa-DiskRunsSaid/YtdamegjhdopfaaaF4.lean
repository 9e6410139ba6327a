/- The document's disk: Crash. PRINTED by genF4.py out of F4.body. -/
import Derived.Test.YtdamegjhdopfaaaF3
namespace Go.Proofs.Ytdamegjhdopfaaa
open Go.RowKit Go.WideShapes
set_option linter.unusedSimpArgs false
set_option linter.unusedVariables false

theorem afterS_sec {s : List Int} {L : List (List Int)} {f : Ft} (hs : Sec s) (hL : ∀ x ∈ L, Sec x) (hm : mayB f.keep f.cut L.length = true) : Sec (afterS s L f) := by
  have hm1 : 0 ≤ f.keep ∧ f.keep ≤ L.length ∧ 0 ≤ f.cut ∧ f.cut < 128 ∧ (f.cut = 0 ∨ f.keep < L.length) := by
    unfold mayB at hm
    simp at hm
    exact ⟨hm.1.1.1.1, hm.1.1.1.2, hm.1.1.2, hm.1.2, hm.2⟩
  obtain ⟨m1, m2, m3, m4, m5⟩ := hm1
  have hget : ∀ k : Nat, k < L.length → Sec (L.getD k []) := fun k hk => by
    obtain ⟨x, hx⟩ : ∃ x, L[k]? = some x := ⟨_, List.getElem?_eq_getElem hk⟩
    have : L.getD k [] = x := by simp [List.getD, hx]
    rw [this]
    exact hL x (List.mem_of_getElem? hx)
  have hb : Sec (if 0 < f.keep then L.getD (f.keep.toNat - 1) [] else s) := by
    split
    · exact hget _ (by omega)
    · exact hs
  show Sec (if 0 < f.cut then (L.getD f.keep.toNat []).take f.cut.toNat ++ (if 0 < f.keep then L.getD (f.keep.toNat - 1) [] else s).drop f.cut.toNat else (if 0 < f.keep then L.getD (f.keep.toNat - 1) [] else s))
  generalize (if 0 < f.keep then L.getD (f.keep.toNat - 1) [] else s) = base at *
  split
  · have h1 := hget f.keep.toNat (by omega)
    refine ⟨?_, fun x hx => ?_⟩
    · rw [List.length_append, List.length_take, List.length_drop, h1.1, hb.1]; omega
    · rcases List.mem_append.1 hx with hx | hx
      · exact h1.2 x (List.mem_of_mem_take hx)
      · exact hb.2 x (List.mem_of_mem_drop hx)
  · exact hb
/-- so many sectors are copied -/
def RCp (w : World) (b0 b1 : Nat) (F : List (List Int)) (k : Nat) (wr : World) : Prop :=
  wr.heap[b1]? = some (.cells #[.slice (some ⟨b0, 0, none⟩) F.length F.length, .bool false, .int .i64 0, .int .i64 0] 55 (0, 0)) ∧ Fr (fun _ => False) w wr ∧ (w.heap.size ≤ b0 ∧ b0 < b1 ∧ b1 < wr.heap.size) ∧
  ∃ hs : List Oh, wr.heap[b0]? = some (.cells (hs.flatMap Oh.cells).toArray 52 (0, 0)) ∧ hs.length = F.length ∧
    (∀ i o, hs[i]? = some o → k ≤ i → o = noOh) ∧ ∀ i o, hs[i]? = some o → i < k → o.is (fun q => b1 < q ∧ q < wr.heap.size) wr (F.getD i []) []
theorem RCp.step {w wr W : World} {b0 b1 : Nat} {F : List (List Int)} {k : Nat} (h : RCp w b0 b1 F k wr) (hk : k < F.length) (hF : Fr (fun _ => False) wr W) {A : Option Addr} {c B : Nat} (hB : wr.heap.size ≤ B) (hl : (F.getD k []).length = 128) (hown : W.ownsRow B 5 1 (.slice A 128 c) 128 (by8 (F.getD k []))) :
    RCp w b0 b1 F (k + 1) (W.setCell ⟨b0, k * 2, none⟩ (.slice A 128 c)) := by
  obtain ⟨h1, h2, h3, hs, h4, h5, h6, h7⟩ := h
  obtain ⟨o, ho⟩ : ∃ o, hs[k]? = some o := ⟨_, List.getElem?_eq_getElem (by rw [h5]; exact hk)⟩
  have hFs : Fr (fun q => q = b0) W (W.setCell ⟨b0, k * 2, none⟩ (.slice A 128 c)) := setg_fr (Fr.refl _ _) _ _
  have hsz := hF.size
  have hsz2 := hFs.size
  refine ⟨hFs.blk (hF.blk0 h1) (by omega), (h2.trans hF (fun _ _ h => h)).trans' hFs (fun _ _ h => h) (fun q hq e => by omega), by omega, _, sb_set0 (hF.blk0 h4) ho A 128 c, by rw [List.length_set]; exact h5, fun i o' hi hki => ?_, fun i o' hi hki => ?_⟩
  · rw [List.getElem?_set, if_neg (by omega)] at hi
    exact h6 i o' hi (by omega)
  · rw [List.getElem?_set] at hi
    by_cases hik : k = i
    · subst hik
      rw [if_pos rfl, if_pos (by rw [h5]; exact hk)] at hi
      obtain rfl := Option.some.inj hi
      obtain rfl := h6 k o ho (Nat.le_refl _)
      refine ⟨rfl, rfl, ?_, ReadVV.nil⟩
      have hro := readV_own (w := wr) (l := F.getD k []) (b := B) (w' := W) (n := 128) (c := c) (A := A) (by rw [hl]; exact hown) hB
      exact (hro.fr hFs (fun q hq e => by omega)).mono (fun q hq => ⟨by omega, by omega⟩)
    · rw [if_neg hik] at hi
      obtain ⟨d1, d2, d3, d4⟩ := h7 i o' hi (by omega)
      exact ⟨d1, d2, ((d3.fr hF (fun _ _ h => h)).fr hFs (fun q hq e => by omega)).mono (fun q hq => ⟨hq.1, by omega⟩), ((d4.fr hF (fun _ _ h => h)).fr hFs (fun q hq e => by omega)).mono (fun q hq => ⟨hq.1, by omega⟩)⟩
theorem RCp.drew {w wr : World} {b0 b1 : Nat} {F : List (List Int)} {k : Nat} (h : RCp w b0 b1 F k wr) : RCp w b0 b1 F k wr.drew := by
  obtain ⟨h1, h2, h3, hs, h4, h5, h6, h7⟩ := h
  have hF : Fr (fun _ => False) wr wr.drew := (Fr.refl _ _).drew
  exact ⟨h1, h2.drew, h3, hs, h4, h5, h6, fun i o hi hk => by
    obtain ⟨d1, d2, d3, d4⟩ := h7 i o hi hk
    exact ⟨d1, d2, d3, d4⟩⟩
/-- the disk behind the crash, so far -/
def RCr (w : World) (b0 b1 : Nat) (F : List (List Int)) (wr : World) : Prop :=
  ∃ U hs, RdIn wr b1 b0 U hs (newDk F) ∧ Fr (fun _ => False) w wr ∧ (w.heap.size ≤ b0 ∧ w.heap.size ≤ b1 ∧ b0 < wr.heap.size ∧ b1 < wr.heap.size) ∧ ∀ k, U k → w.heap.size ≤ k ∧ k < wr.heap.size
theorem RCp.all {w wr : World} {b0 b1 : Nat} {F : List (List Int)} (h : RCp w b0 b1 F F.length wr) (hs : ∀ s ∈ F, Sec s) (h1 : 0 < F.length) (h2 : F.length ≤ 4096) : RCr w b0 b1 F wr := by
  obtain ⟨p1, p2, p3, hds, p4, p5, p6, p7⟩ := h
  exact ⟨fun q => b1 < q ∧ q < wr.heap.size, hds, ⟨p1, p4, p5, fun i o ho => p7 i o ho (by have := (List.getElem?_eq_some_iff.1 ho).1; omega), Dk.Pure.new hs h1 h2, fun h => by have := h.1; omega, fun h => by have := h.1; omega⟩, p2, ⟨by omega, by omega, by omega, by omega⟩, fun k hk => ⟨by omega, hk.2⟩⟩
theorem RCr.step {w wr W : World} {b0 b1 : Nat} {F : List (List Int)} (h : RCr w b0 b1 F wr) {p : Nat} (hp : p < F.length) {s : List Int} (hs : Sec s) (hF : Fr (fun _ => False) wr W) {A : Option Addr} {c B : Nat} (hB : wr.heap.size ≤ B) (hown : W.ownsRow B 5 1 (.slice A 128 c) 128 (by8 s)) :
    RCr w b0 b1 (F.set p s) (W.setCell ⟨b0, p * 2, none⟩ (.slice A 128 c)) := by
  obtain ⟨U, hds, h1, h2, h3, h4⟩ := h
  have hin := h1.fr hF (fun h => h) (fun h => h) (fun _ _ h => h)
  obtain ⟨o, ho, his, _, _⟩ := hin.cells (i := p) hp
  have hFs : Fr (fun q => q = b0) W (W.setCell ⟨b0, p * 2, none⟩ (.slice A 128 c)) := setg_fr (Fr.refl _ _) _ _
  have hsz := hF.size
  have hsz2 := hFs.size
  have hro := readV_own (w := wr) (l := s) (b := B) (w' := W) (n := 128) (c := c) (A := A) (by rw [hs.1]; exact hown) hB
  have hgl := blk_lt h1.box
  refine ⟨fun k => U k ∨ (wr.heap.size ≤ k ∧ k < W.heap.size), _, hin.put hp { o with fa := A, fn := 128, fc := c } (newDk (F.set p s)) hFs (sb_set0 hin.row ho A 128 c) (by simp [newDk]) rfl rfl (fun j hj => ⟨by simp [newDk, List.getD, List.getElem?_set_ne (Ne.symm hj)], rfl⟩) ?_ (fun k hk => .inl hk) (fun hk => ?_) (fun hk => ?_) ?_, (h2.trans hF (fun _ _ h => h)).trans' hFs (fun _ _ h => h) (fun q hq e => by omega), ⟨h3.1, h3.2.1, by omega, by omega⟩, fun k hk => ?_⟩
  · have e1 : (newDk (F.set p s)).F.getD p [] = s := by simp [newDk, List.getD, List.getElem?_set_self hp]
    refine ⟨rfl, his.2.1, ?_, ?_⟩
    · rw [e1]
      exact (hro.fr hFs (fun k hk e => by omega)).mono (fun k hk => .inr hk)
    · exact (his.2.2.2.fr hFs (fun k hk e => h1.us (by rw [← e]; exact hk))).mono (fun k hk => .inl hk)
  · rcases hk with hk | hk
    · exact h1.ug hk
    · omega
  · rcases hk with hk | hk
    · exact h1.us hk
    · omega
  · refine Dk.Pure.new (fun x hx => ?_) (by simp; exact Nat.lt_of_le_of_lt (Nat.zero_le _) hp) (by simp; exact h1.pure.few)
    rcases List.mem_or_eq_of_mem_set hx with h5 | h5
    · exact h1.pure.secs x h5
    · rw [h5]; exact hs
  · rcases hk with hk | hk
    · have := h4 k hk; omega
    · omega
theorem RCr.drew {w wr : World} {b0 b1 : Nat} {F : List (List Int)} (h : RCr w b0 b1 F wr) : RCr w b0 b1 F wr.drew := by
  obtain ⟨U, hds, h1, h2, h3, h4⟩ := h
  exact ⟨U, hds, h1.fr (Fr.refl (fun _ => False) wr).drew (fun h => h) (fun h => h) (fun _ _ h => h), h2.drew, h3, h4⟩
theorem crash_len' (d : Dk) (l : List Lo) (fs : List Ft) (j : Nat) : (((l.zip fs).take j).foldl (crash1 d) d.F).length = d.F.length := crash_len _ _ _
/-- one fate more -/
theorem crash_next (d : Dk) (l : List Lo) (fs : List Ft) (hr : l.Pairwise (fun x y => x.s.val < y.s.val)) {j : Nat} {m : Lo} {f : Ft} (h1 : l[j]? = some m) (h2 : fs[j]? = some f) :
    ((l.zip fs).take (j + 1)).foldl (crash1 d) d.F = (((l.zip fs).take j).foldl (crash1 d) d.F).set m.s.val (afterS (d.F.getD m.s.val []) (d.L (m.s.val : Int)) f) := by
  have hz : (l.zip fs)[j]? = some (m, f) := List.getElem?_zip_eq_some.2 ⟨h1, h2⟩
  rw [List.take_add_one, hz, List.foldl_append]
  have hpw := zip_apart hr fs
  have hfar : (((l.zip fs).take j).foldl (crash1 d) d.F).getD m.s.val [] = d.F.getD m.s.val [] := crash_far d _ d.F m.s.val (fun q hq e => ?_)
  · rw [← hfar]
    rfl
  obtain ⟨i, hi⟩ := List.getElem?_of_mem hq
  have hij : i < j := by
    have := (List.getElem?_eq_some_iff.1 hi).1
    rw [List.length_take] at this
    omega
  rw [List.getElem?_take_of_lt hij] at hi
  have hjl := (List.getElem?_eq_some_iff.1 hz).1
  have hil : i < (l.zip fs).length := by omega
  have h3 := List.pairwise_iff_getElem.1 hpw i j hil hjl hij
  rw [List.getElem?_eq_getElem hil] at hi
  rw [List.getElem?_eq_getElem hjl] at hz
  rw [Option.some.inj hi, Option.some.inj hz] at h3
  exact h3 e
def RCrashPost (w : World) (F : List (List Int)) (e : Ending) (w' : World) : Prop :=
  ∃ g T, e = .returned (.tuple #[.pointer (some ⟨g, 0, none⟩), .int .i64 0]) ∧ RdAt w' g T (newDk F) ∧ Fr (fun _ => False) w w' ∧ w.heap.size ≤ g ∧ ∀ k, T k → w.heap.size ≤ k
def RCrashAll (w : World) (d : Dk) (l : List Lo) (fs : List Ft) (e : Ending) (w' : World) : Prop :=
  (crashE l fs ≠ 0 ∧ CrashBad w (crashE l fs) e w') ∨ (crashE l fs = 0 ∧ RCrashPost w (crashF d l fs) e w')

set_option maxRecDepth 100000 in
set_option maxHeartbeats 8000000 in
theorem rcrash_any {w : World} {g : Nat} {T : Nat → Prop} {d : Dk} (h : RdAt w g T d) (hputs : d.puts ≤ 1000000) (A : Option Addr) (c : Nat) (fs : List Ft) (hfl : fs.length ≤ maxLen) (hR : ReadFt w A fs) (l : List Lo) (hl : l = losOf d) :
    Calls Try.prog 68 #[.pointer (some ⟨g, 0, none⟩), .slice A fs.length c] w (RCrashAll w d l fs) := by
  have HR := Lib.hid hR
  have HLL : Hid (l.length ≤ 4096) := (by rw [hl]; exact los_len d : l.length ≤ 4096)
  have HFS := Lib.hid (fits_take l fs)
  have HFN := Lib.hid (fits_not l fs)
  have HCE : Hid (crashE l fs = if l.length < fs.length then 3 else if fitsF l fs then 0 else 5) := rfl
  have HCF : Hid (crashF d l fs = (l.zip fs).foldl (crash1 d) d.F) := rfl
  have HML : Hid (∀ m ∈ l, m.s.val < d.F.length ∧ m.many = (d.L (m.s.val : Int)).length) := fun m hm => by
    rw [hl] at hm
    obtain ⟨h1, h2⟩ := (mem_los d m).1 hm
    have h4 := h.pure.within (m.s.val : Int) (fun e => by rw [e] at h1; exact absurd h1 (Nat.lt_irrefl _))
    exact ⟨by omega, h2⟩
  have HRS : Hid (l.Pairwise (fun x y => x.s.val < y.s.val)) := (by rw [hl]; exact los_rise d : l.Pairwise (fun x y => x.s.val < y.s.val))
  have hloose := rloose_any h hputs l hl
  have HLO := Lib.hid hloose
  have HP := Lib.hid h.pure
  have HPU := Lib.hid hputs
  clear hl hloose hputs
  obtain ⟨sb, U, hds, h1, h2, h3, h4, h5⟩ := h
  have H1 := Lib.hid h1
  have HLT : Hid (∀ k, T k → k < w.heap.size) := h5
  clear h1 h2 h3 h4 h5 hR
  have hbad : ∀ r : Int, crashE l fs = r → r ≠ 0 → ∀ w', Fr (fun _ => False) w w' → RCrashAll w d l fs (.returned (.tuple #[.pointer none, .int .i64 r])) w' := fun r h1 h2 w' hF => .inl ⟨by rw [h1]; exact h2, by rw [h1]; exact ⟨rfl, hF⟩⟩
  have HBAD := Lib.hid hbad
  have hmk := run_makeO d.F.length HP.out.few
  clear hbad
  go_enter Try.func68, Try.ntmps68
  go_wp2_with fail
  refine HLO.out.mono ?_
  rintro e w2 ⟨v2, rfl, ho2, hF2⟩
  obtain ⟨LA, lc, rfl⟩ := own_slice ho2
  have HO2 := Lib.hid ho2
  have HF2 := Lib.hid hF2
  clear ho2 hF2
  by_cases hlen : l.length < fs.length
  · have hli : (l.length : Int) < fs.length := by omega
    have HE := Lib.hid (HBAD.out 3 (by rw [HCE.out, if_pos hlen]) (by omega) w2 HF2.out)
    clear hlen hmk
    go_wp2_with fail
    go_ret2
    exact HE.out
  have hli : ¬ (l.length : Int) < fs.length := by omega
  have hfl2 : fs.length ≤ 4096 := by have := HLL.out; omega
  have HR2 := Lib.hid (HR.out.fr HF2.out (fun _ _ _ h => h))
  have I0 : Hid (Fr (fun _ => False) w2 w2) := Fr.refl _ _
  have IA0 : Hid (∀ (j : Nat) (f : Ft) (m : Lo), j < 0 → fs[j]? = some f → l[j]? = some m → mayB f.keep f.cut m.many = true) := fun j f m hj => absurd hj (Nat.not_lt_zero _)
  have HMK := Lib.hid hmk
  clear hmk
  go_wp2_with fail
  go_loopw [7] (fun k wr => ∃ i : Nat, i ≤ fs.length ∧ k = .int .i64 i ∧ Hid (∀ (j : Nat) (f : Ft) (m : Lo), j < i → fs[j]? = some f → l[j]? = some m → mayB f.keep f.cut m.many = true) ∧ Hid (Fr (fun _ => False) w2 wr)) (fun k _ => fs.length - (intOf k).toNat)
  case atStart => exact ⟨0, by omega, rfl, IA0, I0⟩
  case round =>
    clear I0 IA0
    obtain ⟨i, hi, rfl, IA, HF⟩ := hrel
    rcases Nat.lt_or_ge i fs.length with hlt | hlt
    · have hii : (i : Int) < fs.length := by omega
      have hil : (i : Int) < l.length := by omega
      obtain ⟨f, hf⟩ : ∃ f, fs[i]? = some f := ⟨_, List.getElem?_eq_getElem hlt⟩
      obtain ⟨m, hm⟩ : ∃ m, l[i]? = some m := ⟨_, List.getElem?_eq_getElem (by omega)⟩
      obtain ⟨fg, fo, rfl, hfc⟩ := HR2.out i f hf
      obtain ⟨lg, rfl, hl0, hl1⟩ := readLo_own HO2.out hm
      have q0 := HF.out.cell0 (hfc 0 _ rfl)
      have q1 := HF.out.cell0 (hfc 1 _ rfl)
      simp only [Nat.add_zero] at q0
      have r1 := HF.out.cell0 hl1
      have HFI := Lib.hid hf
      have HMI := Lib.hid hm
      obtain ⟨fk, fcut⟩ := f
      obtain ⟨ms, mm⟩ := m
      simp only at q0 q1 r1
      clear hf hm hfc hl0 hl1
      go_upto_region 10 with (fail)
      obtain ⟨w3, he, hn3, hF3, hs3⟩ := alloc1 wr (.cells #[.int .i64 fk, .int .i64 fcut] 43)
      rw [he]
      have x0 : w3.cell? ⟨wr.heap.size, 0, none⟩ = some (.int .i64 fk) := blk_cell hn3 0
      have x1 : w3.cell? ⟨wr.heap.size, 1, none⟩ = some (.int .i64 fcut) := blk_cell hn3 1
      have r1 := hF3.cell0 r1
      have HF3 := Lib.hid (HF.out.trans hF3 (fun _ _ h => h))
      have HOK : Hid (mayB fk fcut mm = true → ∀ (j : Nat) (f : Ft) (m : Lo), j < i + 1 → fs[j]? = some f → l[j]? = some m → mayB f.keep f.cut m.many = true) := fun hmb j f m' hj h1 h2 => by
        by_cases hji : j = i
        · subst hji
          rw [HFI.out] at h1
          rw [HMI.out] at h2
          cases h1; cases h2
          exact hmb
        · exact IA.out j f m' (by omega) h1 h2
      have HNO : Hid (mayB fk fcut mm = false → ∀ W, Fr (fun _ => False) w3 W → RCrashAll w d l fs (.returned (.tuple #[.pointer none, .int .i64 5])) W) := fun hmb W hW => HBAD.out 5 (by rw [HCE.out, if_neg (by omega), HFN.out i ⟨fk, fcut⟩ ⟨ms, mm⟩ HFI.out HMI.out hmb]; rfl) (by omega) _ ((HF2.out.trans HF3.out (fun _ _ h => h)).trans hW (fun _ _ h => h))
      clear he hn3 hF3 hs3 q0 q1
      generalize wr.heap.size = bx at *
      by_cases h1 : fk < 0
      · have d1 : decide (fk < 0) = true := decide_eq_true h1
        have hmb : mayB fk fcut mm = false := by simp [mayB]; omega
        have HMB := Lib.hid hmb
        clear hmb
        go_quiet (fail)
        go_wp2_with fail
        go_ret2
        exact HNO.out HMB.out _ ((Fr.refl _ _).drewN _)
      · have d1 : decide (fk < 0) = false := decide_eq_false h1
        by_cases h2 : (mm : Int) < fk
        · have d2 : decide ((mm : Int) < fk) = true := decide_eq_true h2
          have hmb : mayB fk fcut mm = false := by simp [mayB]; omega
          have HMB := Lib.hid hmb
          clear hmb
          go_quiet (fail)
          go_wp2_with fail
          go_ret2
          exact HNO.out HMB.out _ ((Fr.refl _ _).drewN _)
        · have d2 : decide ((mm : Int) < fk) = false := decide_eq_false h2
          by_cases h3 : fcut < 0
          · have d3 : decide (fcut < 0) = true := decide_eq_true h3
            have hmb : mayB fk fcut mm = false := by simp [mayB]; omega
            have HMB := Lib.hid hmb
            clear hmb
            go_quiet (fail)
            go_wp2_with fail
            go_ret2
            exact HNO.out HMB.out _ ((Fr.refl _ _).drewN _)
          · have d3 : decide (fcut < 0) = false := decide_eq_false h3
            by_cases h4 : 128 ≤ fcut
            · have d4 : decide (128 ≤ fcut) = true := decide_eq_true h4
              have hmb : mayB fk fcut mm = false := by simp [mayB]; omega
              have HMB := Lib.hid hmb
              clear hmb
              go_quiet (fail)
              go_wp2_with fail
              go_ret2
              exact HNO.out HMB.out _ ((Fr.refl _ _).drewN _)
            · have d4 : decide (128 ≤ fcut) = false := decide_eq_false h4
              by_cases h5 : 0 < fcut
              · have d5 : decide (0 < fcut) = true := decide_eq_true h5
                by_cases h6 : fk = mm
                · have hq : (fk == (mm : Int)) = true := by simp [h6]
                  have hmb : mayB fk fcut mm = false := by simp [mayB]; omega
                  have HMB := Lib.hid hmb
                  clear hmb
                  go_quiet (fail)
                  go_wp2_with fail
                  go_ret2
                  exact HNO.out HMB.out _ ((Fr.refl _ _).drewN _)
                · have hq : (fk == (mm : Int)) = false := by simp [h6]
                  have HG := Lib.hid (HOK.out (by simp [mayB]; omega))
                  go_quiet (fail)
                  go_wp2_with fail
                  exact ⟨⟨i + 1, by omega, by go_num, HG, HF3.out.drewN _⟩, by simp [intOf]; omega⟩
              · have d5 : decide (0 < fcut) = false := decide_eq_false h5
                have HG := Lib.hid (HOK.out (by simp [mayB]; omega))
                go_quiet (fail)
                go_wp2_with fail
                exact ⟨⟨i + 1, by omega, by go_num, HG, HF3.out.drewN _⟩, by simp [intOf]; omega⟩
    · obtain ⟨w4, rfl⟩ : ∃ w4, w4 = wr := ⟨_, rfl⟩
      have hii : ¬ (i : Int) < fs.length := by omega
      have hie : i = fs.length := by omega
      have hfits : fitsF l fs = true := HFS.out (fun j f m h1 h2 => IA.out j f m (by have := (List.getElem?_eq_some_iff.1 h1).1; omega) h1 h2)
      have hce : crashE l fs = 0 := by rw [HCE.out, if_neg (by omega), if_pos hfits]
      have HMAY : Hid (∀ (j : Nat) (f : Ft) (m : Lo), fs[j]? = some f → l[j]? = some m → mayB f.keep f.cut m.many = true) := fun j f m h1 h2 => IA.out j f m (by have := (List.getElem?_eq_some_iff.1 h1).1; omega) h1 h2
      have HCE0 := Lib.hid hce
      have HFR := Lib.hid (HF2.out.trans HF.out (fun _ _ h => h))
      have HRI := Lib.hid (H1.out.fr HFR.out (fun h => h) (fun h => h) (fun _ _ h => h))
      have HLO2 := Lib.hid (HF.out.own0 HO2.out)
      have HRR := Lib.hid (HR2.out.fr HF.out (fun _ _ _ h => h))
      have c0 : w4.cell? ⟨g, 0, none⟩ = some (.slice (some ⟨sb, 0, none⟩) d.F.length d.F.length) := blk_cell HRI.out.box 0
      have hmk := HMK.out
      have hfew := HP.out.few
      clear hie hfits hce IA HF HF2 HFS HFN HCE HBAD HLO HR HR2 HO2
      go_upto_region 13 with fail
      obtain ⟨w5, he5, hn5, hF5, hs5⟩ := alloc1 w4 (.cells ((List.replicate d.F.length noOh).flatMap Oh.cells).toArray 52)
      rw [he5]
      obtain ⟨w6, he6, hn6, hF6, hs6⟩ := alloc1 w5 (.cells #[.slice (some ⟨w4.heap.size, 0, none⟩) d.F.length d.F.length, .bool false, .int .i64 0, .int .i64 0] 55)
      rw [he6]
      rw [hs5] at hn6 hs6
      have J0 : Hid (RCp w4 w4.heap.size (w4.heap.size + 1) d.F 0 w6) := ⟨hn6, hF5.trans hF6 (fun _ _ h => h), by omega, List.replicate d.F.length noOh, hF6.blk0 hn5, by simp, fun i o ho _ => List.eq_of_mem_replicate (List.mem_of_getElem? ho), fun i o _ h => absurd h (Nat.not_lt_zero _)⟩
      obtain ⟨b0, hb0⟩ : ∃ b0, b0 = w4.heap.size := ⟨_, rfl⟩
      obtain ⟨b1, hb1⟩ : ∃ b1, b1 = w4.heap.size + 1 := ⟨_, rfl⟩
      rw [← hb1, ← hb0] at J0
      rw [← hb1, ← hb0]
      clear he5 hn5 hF5 hs5 he6 hn6 hF6 hs6 hb0 hb1 c0 hmk
      go_upto_block 2 with (fail)
      go_cut [] (fun wd => Hid (RCr w4 b0 b1 d.F wd))
      case first =>
        go_wp2_with fail
        go_loopw [10] (fun k wr => ∃ i : Nat, i ≤ d.F.length ∧ k = .int .i64 i ∧ Hid (RCp w4 b0 b1 d.F i wr)) (fun k _ => d.F.length - (intOf k).toNat)
        case atStart => exact ⟨0, by omega, rfl, J0⟩
        case round =>
          clear J0
          obtain ⟨i, hi, rfl, J⟩ := hrel
          have hFq := J.out.2.1
          have c0 : wr.cell? ⟨g, 0, none⟩ = some (.slice (some ⟨sb, 0, none⟩) d.F.length d.F.length) := hFq.cell0 (blk_cell HRI.out.box 0)
          rcases Nat.lt_or_ge i d.F.length with hlt | hlt
          · have hii : (i : Int) < d.F.length := by omega
            obtain ⟨j1, j2, j3, hs, j4, j5, j6, j7⟩ := J.out
            obtain ⟨o, ho, his, z0, z1⟩ := (HRI.out.fr hFq (fun h => h) (fun h => h) (fun _ _ h => h)).cells (i := i) hlt
            obtain ⟨s, hsd⟩ : ∃ s, s = d.F.getD i [] := ⟨_, rfl⟩
            have hsec : Sec s := by
              obtain ⟨y, hy⟩ : ∃ y, d.F[i]? = some y := ⟨_, List.getElem?_eq_getElem hlt⟩
              have : d.F.getD i [] = y := by simp [List.getD, hy]
              rw [hsd, this]
              exact HP.out.secs y (List.mem_of_getElem? hy)
            have hrv := his.2.2.1.u
            rw [← hsd] at hrv
            have c1 : wr.cell? ⟨b1, 0, none⟩ = some (.slice (some ⟨b0, 0, none⟩) d.F.length d.F.length) := blk_cell j1 0
            have HS : Hid (∀ W : World, Fr (fun _ => False) wr W → W.cell? ⟨b1, 0, none⟩ = some (.slice (some ⟨b0, 0, none⟩) d.F.length d.F.length) ∧ W.cell? ⟨g, 0, none⟩ = some (.slice (some ⟨sb, 0, none⟩) d.F.length d.F.length) ∧ W.cell? ⟨sb, i * 2, none⟩ = some (.slice o.fa 128 o.fc)) := fun W hW => ⟨hW.cell0 c1, hW.cell0 c0, hW.cell0 z0⟩
            obtain ⟨p, hp⟩ : ∃ p, hs[i]? = some p := ⟨_, List.getElem?_eq_getElem (by rw [j5]; exact hlt)⟩
            obtain rfl := j6 i p hp (Nat.le_refl _)
            have hcb : wr.cell? ⟨b0, i * 2, none⟩ = some (.slice none 0 0) := by
              rw [blk_cell j4]
              have := flat_at (f := Oh.cells) (s := 2) (fun _ => rfl) hs i 0 noOh (.slice none 0 0) hp rfl
              simpa using this
            have HROW := Lib.hid j4
            have HCB := Lib.hid hcb
            have HRV := Lib.hid hrv
            have HSD := Lib.hid hsd
            have HSEC := Lib.hid hsec
            clear j1 j2 j3 j4 j5 j6 j7 ho his z1 hsd hsec hrv hcb hp hFq
            obtain ⟨oa, on, oc, ola, oll, olc⟩ := o
            simp only at z0 HS HRV
            go_upto_region 16 with (fail)
            clear c0 z0 c1
            refine wp_region_noPanic ?_
            refine wp_region_T (fun W => W.cell? ⟨b1, 0, none⟩ = some (.slice (some ⟨b0, 0, none⟩) d.F.length d.F.length) ∧ W.cell? ⟨g, 0, none⟩ = some (.slice (some ⟨sb, 0, none⟩) d.F.length d.F.length) ∧ W.cell? ⟨sb, i * 2, none⟩ = some (.slice oa 128 oc)) 17 (by kernel_rfl) (HS.out _ (Fr.refl _ _).drew) (fun hS0 => ?_)
            obtain ⟨wz, hwz⟩ : ∃ wz, wz = wr.drew := ⟨_, rfl⟩
            rw [← hwz] at hS0 ⊢
            have HFZ : Hid (Fr (fun _ => False) wr wz) := (by rw [hwz]; exact (Fr.refl _ _).drew : Fr (fun _ => False) wr wz)
            clear hwz
            refine wpAnyT_taked (i := 0) (d := 86) (v := ?_) rfl rfl (by kernel_rfl) (by kernel_rfl) (by kernel_rfl) (by kernel_rfl) rfl (fun _ _ _ h => h) (Or.inl ⟨by rfl, ?_⟩) (by assumption) ?_
            rotate_left 1
            · rintro w' ⟨hs0, hs1, hs2⟩
              go_simp
              try (with_reducible rfl)
            try simp only [Act.put, List.setIfInBounds_toArray, List.set_cons_zero, List.set_cons_succ]
            refine wpAnyT_taked (i := 1) (d := 87) (v := ?_) rfl rfl (by kernel_rfl) (by kernel_rfl) (by kernel_rfl) (by kernel_rfl) rfl (fun _ _ _ h => h) (Or.inl ⟨by rfl, ?_⟩) (by assumption) ?_
            rotate_left 1
            · rintro w' ⟨hs0, hs1, hs2⟩
              go_simp
              try (with_reducible rfl)
            try simp only [Act.put, List.setIfInBounds_toArray, List.set_cons_zero, List.set_cons_succ]
            refine wpAnyT_taked (i := 2) (d := 88) (v := ?_) rfl rfl (by kernel_rfl) (by kernel_rfl) (by kernel_rfl) (by kernel_rfl) rfl (fun _ _ _ h => h) (Or.inl ⟨by rfl, ?_⟩) (by assumption) ?_
            rotate_left 1
            · rintro w' ⟨hs0, hs1, hs2⟩
              go_simp
              try (with_reducible rfl)
            try simp only [Act.put, List.setIfInBounds_toArray, List.set_cons_zero, List.set_cons_succ]
            refine wpAnyT_taked (i := 3) (d := 89) (v := ?_) rfl rfl (by kernel_rfl) (by kernel_rfl) (by kernel_rfl) (by kernel_rfl) rfl (fun _ _ _ h => h) (Or.inl ⟨by rfl, ?_⟩) (by assumption) ?_
            rotate_left 1
            · rintro w' ⟨hs0, hs1, hs2⟩
              go_simp
              try (with_reducible rfl)
            try simp only [Act.put, List.setIfInBounds_toArray, List.set_cons_zero, List.set_cons_succ]
            refine wpAnyT_taked (i := 4) (d := 90) (v := ?_) rfl rfl (by kernel_rfl) (by kernel_rfl) (by kernel_rfl) (by kernel_rfl) rfl (fun _ _ _ h => h) (Or.inl ⟨by rfl, ?_⟩) (by assumption) ?_
            rotate_left 1
            · rintro w' ⟨hs0, hs1, hs2⟩
              go_simp
              try (with_reducible rfl)
            try simp only [Act.put, List.setIfInBounds_toArray, List.set_cons_zero, List.set_cons_succ]
            refine wpAnyT_taked (i := 6) (d := 92) (v := ?_) rfl rfl (by kernel_rfl) (by kernel_rfl) (by kernel_rfl) (by kernel_rfl) rfl (fun _ _ _ h => h) (Or.inl ⟨by rfl, ?_⟩) (by assumption) ?_
            rotate_left 1
            · rintro w' ⟨hs0, hs1, hs2⟩
              go_simp
              try (with_reducible rfl)
            try simp only [Act.put, List.setIfInBounds_toArray, List.set_cons_zero, List.set_cons_succ]
            refine wpAnyT_taked (i := 7) (d := 93) (v := ?_) rfl rfl (by kernel_rfl) (by kernel_rfl) (by kernel_rfl) (by kernel_rfl) rfl (fun _ _ _ h => h) (Or.inl ⟨by rfl, ?_⟩) (by assumption) ?_
            rotate_left 1
            · rintro w' ⟨hs0, hs1, hs2⟩
              go_simp
              try (with_reducible rfl)
            try simp only [Act.put, List.setIfInBounds_toArray, List.set_cons_zero, List.set_cons_succ]
            refine wpAnyT_taked (i := 8) (d := 94) (v := ?_) rfl rfl (by kernel_rfl) (by kernel_rfl) (by kernel_rfl) (by kernel_rfl) rfl (fun _ _ _ h => h) (Or.inl ⟨by rfl, ?_⟩) (by assumption) ?_
            rotate_left 1
            · rintro w' ⟨hs0, hs1, hs2⟩
              go_simp
              try (with_reducible rfl)
            try simp only [Act.put, List.setIfInBounds_toArray, List.set_cons_zero, List.set_cons_succ]
            refine wpAnyT_taked (i := 9) (d := 95) (v := ?_) rfl rfl (by kernel_rfl) (by kernel_rfl) (by kernel_rfl) (by kernel_rfl) rfl (fun _ _ _ h => h) (Or.inl ⟨by rfl, ?_⟩) (by assumption) ?_
            rotate_left 1
            · rintro w' ⟨hs0, hs1, hs2⟩
              go_simp
              try (with_reducible rfl)
            try simp only [Act.put, List.setIfInBounds_toArray, List.set_cons_zero, List.set_cons_succ]
            refine wpAnyT_taked (i := 10) (d := 96) (v := ?_) rfl rfl (by kernel_rfl) (by kernel_rfl) (by kernel_rfl) (by kernel_rfl) rfl (fun _ _ _ h => h) (Or.inl ⟨by rfl, ?_⟩) (by assumption) ?_
            rotate_left 1
            · rintro w' ⟨hs0, hs1, hs2⟩
              go_simp
              try (with_reducible rfl)
            try simp only [Act.put, List.setIfInBounds_toArray, List.set_cons_zero, List.set_cons_succ]
            refine wpAnyT_taked (i := 11) (d := 97) (v := ?_) rfl rfl (by kernel_rfl) (by kernel_rfl) (by kernel_rfl) (by kernel_rfl) rfl (fun _ _ _ h => h) (Or.inl ⟨by rfl, ?_⟩) (by assumption) ?_
            rotate_left 1
            · rintro w' ⟨hs0, hs1, hs2⟩
              go_simp
              try (with_reducible rfl)
            try simp only [Act.put, List.setIfInBounds_toArray, List.set_cons_zero, List.set_cons_succ]
            refine wpAnyT_taked (i := 12) (d := 98) (v := ?_) rfl rfl (by kernel_rfl) (by kernel_rfl) (by kernel_rfl) (by kernel_rfl) rfl (fun _ _ _ h => h) (Or.inl ⟨by rfl, ?_⟩) (by assumption) ?_
            rotate_left 1
            · rintro w' ⟨hs0, hs1, hs2⟩
              go_simp
              try (with_reducible rfl)
            try simp only [Act.put, List.setIfInBounds_toArray, List.set_cons_zero, List.set_cons_succ]
            refine wpAnyT_taked (i := 13) (d := 99) (v := ?_) rfl rfl (by kernel_rfl) (by kernel_rfl) (by kernel_rfl) (by kernel_rfl) rfl (fun _ _ _ h => h) (Or.inl ⟨by rfl, ?_⟩) (by assumption) ?_
            rotate_left 1
            · rintro w' ⟨hs0, hs1, hs2⟩
              go_simp
              try (with_reducible rfl)
            try simp only [Act.put, List.setIfInBounds_toArray, List.set_cons_zero, List.set_cons_succ]
            refine wpAnyT_one (i := 5) (by kernel_rfl) rfl rfl (fun K hK => ?_)
            go_simp
            obtain ⟨wa, hea, hna, hFa, hsa⟩ := alloc1 wz (.cells #[] 5)
            rw [hea]
            have HNA := Lib.hid hna
            have HFA := Lib.hid (HFZ.out.trans hFa (fun _ _ h => h))
            obtain ⟨e91, he91⟩ : ∃ e91, e91 = wz.heap.size := ⟨_, rfl⟩
            rw [← he91] at HNA
            rw [← he91]
            have HE91 : Hid (wr.heap.size ≤ e91) := (by rw [he91]; exact HFZ.out.size : wr.heap.size ≤ e91)
            have hSA := HS.out _ HFA.out
            refine hK.out _ _ hSA ?_
            clear hK K hea hna hFa hsa he91 hS0
            try simp only [Act.put, List.setIfInBounds_toArray, List.set_cons_zero, List.set_cons_succ]
            refine wpAnyT_one (i := 14) (by kernel_rfl) rfl rfl (fun K hK => ?_)
            obtain ⟨ad, hade, hnews⟩ := (HRV.out.fr HFA.out (fun _ _ _ h => h)).news (by rw [HSEC.out.1]; omega)
            subst hade
            refine step_app rfl (.tmp 91) (.tmp 99) 33 rfl e91 5 _ 1 1 Try.underlying33 byte_info rfl (by decide) (.slice (some ⟨e91, 0, none⟩) 0 0) 0 [] (by simp [Act.eval]) (own_up (own_empty 1 HNA.out rfl) (fun k hk => Nat.le_of_eq (Option.some.inj hk))) ad 128 oc (by8 s) (by simp [Act.eval]) (by rw [by8_len, HSEC.out.1]) hnews (by8_one s) (by simp [maxLen]) (by omega) (Nat.le_of_lt (blk_lt HNA.out)) ?_
            intro vd wd hod hgd hmd
            rw [Nat.zero_add, List.nil_append] at hod
            obtain ⟨B, cB, rfl⟩ := own_slice hod
            have HFD : Hid (Fr (fun _ => False) wr wd) := HFA.out.grown hgd (fun k hk => .inl (by obtain rfl := Option.some.inj hk; exact HE91.out))
            have HOD := Lib.hid hod
            have hSD := HS.out _ HFD.out
            refine hK.out _ _ hSD ?_
            clear hK K hod hgd hmd hnews hSA
            try simp only [Act.put, List.setIfInBounds_toArray, List.set_cons_zero, List.set_cons_succ]
            refine wpAnyT_one (i := 15) (by kernel_rfl) rfl rfl (fun K hK => ?_)
            go_simp
            refine hK.out _ _ hSD ?_
            clear hK K
            try simp only [Act.put, List.setIfInBounds_toArray, List.set_cons_zero, List.set_cons_succ]
            refine wpAnyT_one (i := 16) (by kernel_rfl) rfl rfl (fun K hK => ?_)
            go_simp
            refine hK.out _ _ hSD ?_
            clear hK K
            try simp only [Act.put, List.setIfInBounds_toArray, List.set_cons_zero, List.set_cons_succ]
            have hcx := HFD.out.cell0 HCB.out
            have hfx : wd.frozen? ⟨b0, i * 2, none⟩ = false := blk_frozen (HFD.out.blk0 HROW.out) _
            refine wpAnyT_last (by kernel_rfl) rfl (by kernel_rfl) (fun K hK => ?_)
            go_simp
            refine hK.out _ _ ?_
            clear hK K hSD hcx hfx
            refine NoPanic.normal ?_
            have HN := Lib.hid (J.out.step hlt HFD.out HE91.out (A := B) (c := cB) (by rw [← HSD.out]; exact HSEC.out.1) (by rw [← HSD.out]; exact HOD.out))
            go_wp2_with fail
            exact ⟨⟨i + 1, by omega, by go_num, HN⟩, by simp [intOf]; omega⟩
          · have hii : ¬ (i : Int) < d.F.length := by omega
            obtain rfl : i = d.F.length := by omega
            have HE := Lib.hid (J.out.all HP.out.secs HP.out.pos HP.out.few)
            go_wp2
            go_meet
            case rel => exact HE
      case rest =>
        clear J0
        have K0 := hcut
        have HFX : Hid (((l.zip fs).take 0).foldl (crash1 d) d.F = d.F) := rfl
        have K0 : Hid (RCr w4 b0 b1 (((l.zip fs).take 0).foldl (crash1 d) d.F) wc) := hcut
        clear hcut HFX
        go_wp2_with fail
        go_loopw [11] (fun k wr => ∃ i : Nat, i ≤ fs.length ∧ k = .int .i64 i ∧ Hid (RCr w4 b0 b1 (((l.zip fs).take i).foldl (crash1 d) d.F) wr)) (fun k _ => fs.length - (intOf k).toNat)
        case atStart => exact ⟨0, by omega, rfl, K0⟩
        case round =>
          clear K0
          obtain ⟨i, hi, rfl, J⟩ := hrel
          rcases Nat.lt_or_ge i fs.length with hlt | hlt
          · have hii : (i : Int) < fs.length := by omega
            have hil : (i : Int) < l.length := by omega
            have hcl := crash_len' d l fs i
            obtain ⟨Fi, hFi⟩ : ∃ Fi, Fi = ((l.zip fs).take i).foldl (crash1 d) d.F := ⟨_, rfl⟩
            rw [← hFi] at J hcl
            obtain ⟨f, hf⟩ : ∃ f, fs[i]? = some f := ⟨_, List.getElem?_eq_getElem hlt⟩
            obtain ⟨m, hm⟩ : ∃ m, l[i]? = some m := ⟨_, List.getElem?_eq_getElem (by omega)⟩
            have hnext := crash_next d l fs HRS.out hm hf
            rw [← hFi] at hnext
            have hmay := HMAY.out i f m hf hm
            obtain ⟨hsl, hmany⟩ := HML.out m (List.mem_of_getElem? hm)
            obtain ⟨⟨sN, hsN⟩, mm⟩ := m
            simp only at hnext hsl hmany hmay
            rw [hmany] at hmay
            obtain ⟨U2, hs2, hin2, hF2q, hbb, hU2⟩ := J.out
            have hrd := HRI.out.fr hF2q (fun h => h) (fun h => h) (fun _ _ h => h)
            obtain ⟨o, ho, his, z0, z1⟩ := hrd.cells (i := sN) hsl
            have c0 : wr.cell? ⟨g, 0, none⟩ = some (.slice (some ⟨sb, 0, none⟩) d.F.length d.F.length) := blk_cell hrd.box 0
            have c1 : wr.cell? ⟨b1, 0, none⟩ = some (.slice (some ⟨b0, 0, none⟩) d.F.length d.F.length) := by have := blk_cell hin2.box 0; rw [show (newDk Fi).F.length = d.F.length from hcl] at this; exact this
            have hsec : Sec (d.F.getD sN []) := by
              obtain ⟨y, hy⟩ : ∃ y, d.F[sN]? = some y := ⟨_, List.getElem?_eq_getElem hsl⟩
              have : d.F.getD sN [] = y := by simp [List.getD, hy]
              rw [this]
              exact HP.out.secs y (List.mem_of_getElem? hy)
            have hLl : (d.L (sN : Int)).length ≤ 1000000 := Nat.le_trans (HP.out.lens _) HPU.out
            obtain ⟨S, hS⟩ : ∃ S, S = afterS (d.F.getD sN []) (d.L (sN : Int)) f := ⟨_, rfl⟩
            have hSS : Sec S := by rw [hS]; exact afterS_sec hsec (HP.out.lsecs _) hmay
            have haft : ∀ W : World, Fr (fun _ => False) wr W → Calls Try.prog 25 #[.agg #[.slice o.fa 128 o.fc, .slice o.la (d.L (sN : Int)).length o.lc], .agg #[.int .i64 f.keep, .int .i64 f.cut]] W (AfterPost W S) := fun W hW => by
              have h1 := after_any (f := f) (his.2.2.1.u.fr hW (fun _ _ _ h => h)) (fc := o.fc) (lc := o.lc) (his.2.2.2.fr hW (fun _ _ h => h)) hsec (HP.out.lsecs _) hLl hmay
              rw [← hS] at h1
              exact h1
            rw [← hS] at hnext
            obtain ⟨fg, fo, rfl, hfc⟩ := HRR.out i f hf
            obtain ⟨lg, rfl, hl0, hl1⟩ := readLo_own HLO2.out hm
            have q0 := hF2q.cell0 (hfc 0 _ rfl)
            have q1 := hF2q.cell0 (hfc 1 _ rfl)
            simp only [Nat.add_zero] at q0
            have r0 := hF2q.cell0 hl0
            simp only at r0
            obtain ⟨p, hp, _, zb, _⟩ := hin2.cells (i := sN) (by show sN < Fi.length; omega)
            have zf := blk_frozen hin2.row (sN * 2)
            obtain ⟨nL, hnL⟩ : ∃ nL, (d.L (sN : Int)).length = nL := ⟨_, rfl⟩
            rw [hnL] at haft z1
            obtain ⟨fk, fcut⟩ := f
            obtain ⟨oa, on, oc, ola, oll, olc⟩ := o
            simp only at haft z0 z1 q0 q1
            have HS : Hid (∀ W : World, Fr (fun _ => False) wr W → W.cell? ⟨b1, 0, none⟩ = some (.slice (some ⟨b0, 0, none⟩) d.F.length d.F.length) ∧ W.cell? ⟨lg, i * 2, none⟩ = some (.int .i64 (sN : Int)) ∧ W.cell? ⟨g, 0, none⟩ = some (.slice (some ⟨sb, 0, none⟩) d.F.length d.F.length) ∧ W.cell? ⟨sb, sN * 2, none⟩ = some (.slice oa 128 oc) ∧ W.cell? ⟨sb, sN * 2 + 1, none⟩ = some (.slice ola nL olc) ∧ W.cell? ⟨fg, fo + i * 2, none⟩ = some (.int .i64 fk) ∧ W.cell? ⟨fg, fo + i * 2 + 1, none⟩ = some (.int .i64 fcut)) :=
              fun W hW => ⟨hW.cell0 c1, hW.cell0 r0, hW.cell0 c0, hW.cell0 z0, hW.cell0 z1, hW.cell0 q0, hW.cell0 q1⟩
            have HAFT := Lib.hid haft
            have HNX := Lib.hid hnext
            have HSS := Lib.hid hSS
            have HJ := Lib.hid J.out
            have HROW := Lib.hid hin2.row
            have hcb : ∃ v, wr.cell? ⟨b0, sN * 2, none⟩ = some v := ⟨_, zb⟩
            obtain ⟨vb, hvb⟩ := hcb
            have HVB := Lib.hid hvb
            have HCL := Lib.hid hcl
            have hsNi : (sN : Int) < d.F.length := by omega
            have HSL := Lib.hid hsl
            clear hFi hf hm hnext hmay hsl hmany hin2 hF2q hbb hU2 hrd ho his z0 z1 c0 c1 hsec hLl hS hSS haft hfc hl0 hl1 q0 q1 r0 hp zb zf hnL J hvb hcl
            go_upto_region 20 with (fail)
            refine wp_region_noPanic ?_
            refine wp_region_T (fun W => W.cell? ⟨b1, 0, none⟩ = some (.slice (some ⟨b0, 0, none⟩) d.F.length d.F.length) ∧ W.cell? ⟨lg, i * 2, none⟩ = some (.int .i64 (sN : Int)) ∧ W.cell? ⟨g, 0, none⟩ = some (.slice (some ⟨sb, 0, none⟩) d.F.length d.F.length) ∧ W.cell? ⟨sb, sN * 2, none⟩ = some (.slice oa 128 oc) ∧ W.cell? ⟨sb, sN * 2 + 1, none⟩ = some (.slice ola nL olc) ∧ W.cell? ⟨fg, fo + i * 2, none⟩ = some (.int .i64 fk) ∧ W.cell? ⟨fg, fo + i * 2 + 1, none⟩ = some (.int .i64 fcut)) 27 (by kernel_rfl) (HS.out _ (Fr.refl _ _).drew) (fun hS0 => ?_)
            obtain ⟨wz, hwz⟩ : ∃ wz, wz = wr.drew := ⟨_, rfl⟩
            rw [← hwz] at hS0 ⊢
            have HFZ : Hid (Fr (fun _ => False) wr wz) := (by rw [hwz]; exact (Fr.refl _ _).drew : Fr (fun _ => False) wr wz)
            clear hwz
            refine wpAnyT_taked (i := 0) (d := 109) (v := ?_) rfl rfl (by kernel_rfl) (by kernel_rfl) (by kernel_rfl) (by kernel_rfl) rfl (fun _ _ _ h => h) (Or.inl ⟨by rfl, ?_⟩) (by assumption) ?_
            rotate_left 1
            · rintro w' ⟨hs0, hs1, hs2, hs3, hs4, hs5, hs6⟩
              go_simp
              try (with_reducible rfl)
            try simp only [Act.put, List.setIfInBounds_toArray, List.set_cons_zero, List.set_cons_succ]
            refine wpAnyT_taked (i := 1) (d := 110) (v := ?_) rfl rfl (by kernel_rfl) (by kernel_rfl) (by kernel_rfl) (by kernel_rfl) rfl (fun _ _ _ h => h) (Or.inl ⟨by rfl, ?_⟩) (by assumption) ?_
            rotate_left 1
            · rintro w' ⟨hs0, hs1, hs2, hs3, hs4, hs5, hs6⟩
              go_simp
              try (with_reducible rfl)
            try simp only [Act.put, List.setIfInBounds_toArray, List.set_cons_zero, List.set_cons_succ]
            refine wpAnyT_taked (i := 2) (d := 111) (v := ?_) rfl rfl (by kernel_rfl) (by kernel_rfl) (by kernel_rfl) (by kernel_rfl) rfl (fun _ _ _ h => h) (Or.inl ⟨by rfl, ?_⟩) (by assumption) ?_
            rotate_left 1
            · rintro w' ⟨hs0, hs1, hs2, hs3, hs4, hs5, hs6⟩
              go_simp
              try (with_reducible rfl)
            try simp only [Act.put, List.setIfInBounds_toArray, List.set_cons_zero, List.set_cons_succ]
            refine wpAnyT_taked (i := 3) (d := 112) (v := ?_) rfl rfl (by kernel_rfl) (by kernel_rfl) (by kernel_rfl) (by kernel_rfl) rfl (fun _ _ _ h => h) (Or.inl ⟨by rfl, ?_⟩) (by assumption) ?_
            rotate_left 1
            · rintro w' ⟨hs0, hs1, hs2, hs3, hs4, hs5, hs6⟩
              go_simp
              try (with_reducible rfl)
            try simp only [Act.put, List.setIfInBounds_toArray, List.set_cons_zero, List.set_cons_succ]
            refine wpAnyT_taked (i := 4) (d := 113) (v := ?_) rfl rfl (by kernel_rfl) (by kernel_rfl) (by kernel_rfl) (by kernel_rfl) rfl (fun _ _ _ h => h) (Or.inl ⟨by rfl, ?_⟩) (by assumption) ?_
            rotate_left 1
            · rintro w' ⟨hs0, hs1, hs2, hs3, hs4, hs5, hs6⟩
              go_simp
              try (with_reducible rfl)
            try simp only [Act.put, List.setIfInBounds_toArray, List.set_cons_zero, List.set_cons_succ]
            refine wpAnyT_taked (i := 5) (d := 114) (v := ?_) rfl rfl (by kernel_rfl) (by kernel_rfl) (by kernel_rfl) (by kernel_rfl) rfl (fun _ _ _ h => h) (Or.inl ⟨by rfl, ?_⟩) (by assumption) ?_
            rotate_left 1
            · rintro w' ⟨hs0, hs1, hs2, hs3, hs4, hs5, hs6⟩
              go_simp
              try (with_reducible rfl)
            try simp only [Act.put, List.setIfInBounds_toArray, List.set_cons_zero, List.set_cons_succ]
            refine wpAnyT_taked (i := 6) (d := 115) (v := ?_) rfl rfl (by kernel_rfl) (by kernel_rfl) (by kernel_rfl) (by kernel_rfl) rfl (fun _ _ _ h => h) (Or.inl ⟨by rfl, ?_⟩) (by assumption) ?_
            rotate_left 1
            · rintro w' ⟨hs0, hs1, hs2, hs3, hs4, hs5, hs6⟩
              go_simp
              try (with_reducible rfl)
            try simp only [Act.put, List.setIfInBounds_toArray, List.set_cons_zero, List.set_cons_succ]
            refine wpAnyT_taked (i := 7) (d := 116) (v := ?_) rfl rfl (by kernel_rfl) (by kernel_rfl) (by kernel_rfl) (by kernel_rfl) rfl (fun _ _ _ h => h) (Or.inl ⟨by rfl, ?_⟩) (by assumption) ?_
            rotate_left 1
            · rintro w' ⟨hs0, hs1, hs2, hs3, hs4, hs5, hs6⟩
              go_simp
              try (with_reducible rfl)
            try simp only [Act.put, List.setIfInBounds_toArray, List.set_cons_zero, List.set_cons_succ]
            refine wpAnyT_taked (i := 8) (d := 117) (v := ?_) rfl rfl (by kernel_rfl) (by kernel_rfl) (by kernel_rfl) (by kernel_rfl) rfl (fun _ _ _ h => h) (Or.inl ⟨by rfl, ?_⟩) (by assumption) ?_
            rotate_left 1
            · rintro w' ⟨hs0, hs1, hs2, hs3, hs4, hs5, hs6⟩
              go_simp
              try (with_reducible rfl)
            try simp only [Act.put, List.setIfInBounds_toArray, List.set_cons_zero, List.set_cons_succ]
            refine wpAnyT_taked (i := 9) (d := 118) (v := ?_) rfl rfl (by kernel_rfl) (by kernel_rfl) (by kernel_rfl) (by kernel_rfl) rfl (fun _ _ _ h => h) (Or.inl ⟨by rfl, ?_⟩) (by assumption) ?_
            rotate_left 1
            · rintro w' ⟨hs0, hs1, hs2, hs3, hs4, hs5, hs6⟩
              go_simp
              try (with_reducible rfl)
            try simp only [Act.put, List.setIfInBounds_toArray, List.set_cons_zero, List.set_cons_succ]
            refine wpAnyT_taked (i := 10) (d := 119) (v := ?_) rfl rfl (by kernel_rfl) (by kernel_rfl) (by kernel_rfl) (by kernel_rfl) rfl (fun _ _ _ h => h) (Or.inl ⟨by rfl, ?_⟩) (by assumption) ?_
            rotate_left 1
            · rintro w' ⟨hs0, hs1, hs2, hs3, hs4, hs5, hs6⟩
              go_simp
              try (with_reducible rfl)
            try simp only [Act.put, List.setIfInBounds_toArray, List.set_cons_zero, List.set_cons_succ]
            refine wpAnyT_taked (i := 11) (d := 120) (v := ?_) rfl rfl (by kernel_rfl) (by kernel_rfl) (by kernel_rfl) (by kernel_rfl) rfl (fun _ _ _ h => h) (Or.inl ⟨by rfl, ?_⟩) (by assumption) ?_
            rotate_left 1
            · rintro w' ⟨hs0, hs1, hs2, hs3, hs4, hs5, hs6⟩
              go_simp
              try (with_reducible rfl)
            try simp only [Act.put, List.setIfInBounds_toArray, List.set_cons_zero, List.set_cons_succ]
            refine wpAnyT_taked (i := 12) (d := 121) (v := ?_) rfl rfl (by kernel_rfl) (by kernel_rfl) (by kernel_rfl) (by kernel_rfl) rfl (fun _ _ _ h => h) (Or.inl ⟨by rfl, ?_⟩) (by assumption) ?_
            rotate_left 1
            · rintro w' ⟨hs0, hs1, hs2, hs3, hs4, hs5, hs6⟩
              go_simp
              try (with_reducible rfl)
            try simp only [Act.put, List.setIfInBounds_toArray, List.set_cons_zero, List.set_cons_succ]
            refine wpAnyT_taked (i := 13) (d := 122) (v := ?_) rfl rfl (by kernel_rfl) (by kernel_rfl) (by kernel_rfl) (by kernel_rfl) rfl (fun _ _ _ h => h) (Or.inl ⟨by rfl, ?_⟩) (by assumption) ?_
            rotate_left 1
            · rintro w' ⟨hs0, hs1, hs2, hs3, hs4, hs5, hs6⟩
              go_simp
              try (with_reducible rfl)
            try simp only [Act.put, List.setIfInBounds_toArray, List.set_cons_zero, List.set_cons_succ]
            refine wpAnyT_taked (i := 14) (d := 123) (v := ?_) rfl rfl (by kernel_rfl) (by kernel_rfl) (by kernel_rfl) (by kernel_rfl) rfl (fun _ _ _ h => h) (Or.inl ⟨by rfl, ?_⟩) (by assumption) ?_
            rotate_left 1
            · rintro w' ⟨hs0, hs1, hs2, hs3, hs4, hs5, hs6⟩
              go_simp
              try (with_reducible rfl)
            try simp only [Act.put, List.setIfInBounds_toArray, List.set_cons_zero, List.set_cons_succ]
            refine wpAnyT_taked (i := 15) (d := 124) (v := ?_) rfl rfl (by kernel_rfl) (by kernel_rfl) (by kernel_rfl) (by kernel_rfl) rfl (fun _ _ _ h => h) (Or.inl ⟨by rfl, ?_⟩) (by assumption) ?_
            rotate_left 1
            · rintro w' ⟨hs0, hs1, hs2, hs3, hs4, hs5, hs6⟩
              go_simp
              try (with_reducible rfl)
            try simp only [Act.put, List.setIfInBounds_toArray, List.set_cons_zero, List.set_cons_succ]
            refine wpAnyT_taked (i := 16) (d := 125) (v := ?_) rfl rfl (by kernel_rfl) (by kernel_rfl) (by kernel_rfl) (by kernel_rfl) rfl (fun _ _ _ h => h) (Or.inl ⟨by rfl, ?_⟩) (by assumption) ?_
            rotate_left 1
            · rintro w' ⟨hs0, hs1, hs2, hs3, hs4, hs5, hs6⟩
              go_simp
              try (with_reducible rfl)
            try simp only [Act.put, List.setIfInBounds_toArray, List.set_cons_zero, List.set_cons_succ]
            refine wpAnyT_taked (i := 17) (d := 126) (v := ?_) rfl rfl (by kernel_rfl) (by kernel_rfl) (by kernel_rfl) (by kernel_rfl) rfl (fun _ _ _ h => h) (Or.inl ⟨by rfl, ?_⟩) (by assumption) ?_
            rotate_left 1
            · rintro w' ⟨hs0, hs1, hs2, hs3, hs4, hs5, hs6⟩
              go_simp
              try (with_reducible rfl)
            try simp only [Act.put, List.setIfInBounds_toArray, List.set_cons_zero, List.set_cons_succ]
            refine wpAnyT_taked (i := 18) (d := 127) (v := ?_) rfl rfl (by kernel_rfl) (by kernel_rfl) (by kernel_rfl) (by kernel_rfl) rfl (fun _ _ _ h => h) (Or.inl ⟨by rfl, ?_⟩) (by assumption) ?_
            rotate_left 1
            · rintro w' ⟨hs0, hs1, hs2, hs3, hs4, hs5, hs6⟩
              go_simp
              try (with_reducible rfl)
            try simp only [Act.put, List.setIfInBounds_toArray, List.set_cons_zero, List.set_cons_succ]
            refine wpAnyT_taked (i := 19) (d := 128) (v := ?_) rfl rfl (by kernel_rfl) (by kernel_rfl) (by kernel_rfl) (by kernel_rfl) rfl (fun _ _ _ h => h) (Or.inl ⟨by rfl, ?_⟩) (by assumption) ?_
            rotate_left 1
            · rintro w' ⟨hs0, hs1, hs2, hs3, hs4, hs5, hs6⟩
              go_simp
              try (with_reducible rfl)
            try simp only [Act.put, List.setIfInBounds_toArray, List.set_cons_zero, List.set_cons_succ]
            refine wpAnyT_taked (i := 20) (d := 129) (v := ?_) rfl rfl (by kernel_rfl) (by kernel_rfl) (by kernel_rfl) (by kernel_rfl) rfl (fun _ _ _ h => h) (Or.inl ⟨by rfl, ?_⟩) (by assumption) ?_
            rotate_left 1
            · rintro w' ⟨hs0, hs1, hs2, hs3, hs4, hs5, hs6⟩
              go_simp
              try (with_reducible rfl)
            try simp only [Act.put, List.setIfInBounds_toArray, List.set_cons_zero, List.set_cons_succ]
            refine wpAnyT_taked (i := 21) (d := 130) (v := ?_) rfl rfl (by kernel_rfl) (by kernel_rfl) (by kernel_rfl) (by kernel_rfl) rfl (fun _ _ _ h => h) (Or.inl ⟨by rfl, ?_⟩) (by assumption) ?_
            rotate_left 1
            · rintro w' ⟨hs0, hs1, hs2, hs3, hs4, hs5, hs6⟩
              go_simp
              try (with_reducible rfl)
            try simp only [Act.put, List.setIfInBounds_toArray, List.set_cons_zero, List.set_cons_succ]
            refine wpAnyT_taked (i := 22) (d := 131) (v := ?_) rfl rfl (by kernel_rfl) (by kernel_rfl) (by kernel_rfl) (by kernel_rfl) rfl (fun _ _ _ h => h) (Or.inl ⟨by rfl, ?_⟩) (by assumption) ?_
            rotate_left 1
            · rintro w' ⟨hs0, hs1, hs2, hs3, hs4, hs5, hs6⟩
              go_simp
              try (with_reducible rfl)
            try simp only [Act.put, List.setIfInBounds_toArray, List.set_cons_zero, List.set_cons_succ]
            refine wpAnyT_taked (i := 23) (d := 132) (v := ?_) rfl rfl (by kernel_rfl) (by kernel_rfl) (by kernel_rfl) (by kernel_rfl) rfl (fun _ _ _ h => h) (Or.inl ⟨by rfl, ?_⟩) (by assumption) ?_
            rotate_left 1
            · rintro w' ⟨hs0, hs1, hs2, hs3, hs4, hs5, hs6⟩
              go_simp
              try (with_reducible rfl)
            try simp only [Act.put, List.setIfInBounds_toArray, List.set_cons_zero, List.set_cons_succ]
            refine wpAnyT_one (i := 24) (by kernel_rfl) rfl rfl (fun K hK => ?_)
            go_simp
            refine (HAFT.out _ HFZ.out).mono ?_
            rintro e wn ⟨A5, c5, rfl, ho5, hf⟩
            have HFN : Hid (Fr (fun _ => False) wr wn) := HFZ.out.trans hf (fun _ _ h => h)
            have HO5 := Lib.hid ho5
            have HB5 : Hid (wr.heap.size ≤ wz.heap.size) := HFZ.out.size
            have hSN := HS.out wn HFN.out
            clear ho5 hf hS0
            go_wp2_with fail
            refine hK.out _ _ hSN ?_
            clear hK K
            try simp only [Act.put, List.setIfInBounds_toArray, List.set_cons_zero, List.set_cons_succ]
            refine wpAnyT_one (i := 25) (by kernel_rfl) rfl rfl (fun K hK => ?_)
            go_simp
            refine hK.out _ _ hSN ?_
            clear hK K
            try simp only [Act.put, List.setIfInBounds_toArray, List.set_cons_zero, List.set_cons_succ]
            refine wpAnyT_one (i := 26) (by kernel_rfl) rfl rfl (fun K hK => ?_)
            go_simp
            refine hK.out _ _ hSN ?_
            clear hK K
            try simp only [Act.put, List.setIfInBounds_toArray, List.set_cons_zero, List.set_cons_succ]
            have hcx := HFN.out.cell0 HVB.out
            have hfx : wn.frozen? ⟨b0, sN * 2, none⟩ = false := blk_frozen (HFN.out.blk0 HROW.out) _
            refine wpAnyT_last (by kernel_rfl) rfl (by kernel_rfl) (fun K hK => ?_)
            go_simp
            refine hK.out _ _ ?_
            clear hK K hSN hcx hfx
            refine NoPanic.normal ?_
            have HN : Hid (RCr w4 b0 b1 (((l.zip fs).take (i + 1)).foldl (crash1 d) d.F) (wn.setCell ⟨b0, sN * 2, none⟩ (.slice A5 128 c5))) := (by rw [HNX.out]; exact HJ.out.step (by have := HCL.out; have := HSL.out; omega) HSS.out HFN.out HB5.out HO5.out : RCr w4 b0 b1 (((l.zip fs).take (i + 1)).foldl (crash1 d) d.F) (wn.setCell ⟨b0, sN * 2, none⟩ (.slice A5 128 c5)))
            go_wp2_with fail
            exact ⟨⟨i + 1, by omega, by go_num, HN⟩, by simp [intOf]; omega⟩
          · have hii : ¬ (i : Int) < fs.length := by omega
            obtain rfl : i = fs.length := by omega
            have htk : (l.zip fs).take fs.length = l.zip fs := List.take_of_length_le (by rw [List.length_zip]; omega)
            rw [htk, ← HCF.out] at J
            obtain ⟨U2, hs2, hin2, hF2q, hbb, hU2⟩ := J.out
            have HE : Hid (RCrashAll w d l fs (.returned (.tuple #[.pointer (some ⟨b1, 0, none⟩), .int .i64 0])) wr) := by
              have hsz := HFR.out.size
              refine .inr ⟨HCE0.out, b1, fun k => k = b1 ∨ k = b0 ∨ U2 k, rfl, ⟨b0, U2, hs2, hin2, .inl rfl, .inr (.inl rfl), fun k hk => .inr (.inr hk), fun k hk => ?_⟩, HFR.out.trans hF2q (fun _ _ h => h), by omega, fun k hk => ?_⟩
              · rcases hk with rfl | rfl | hk
                · exact hbb.2.2.2
                · exact hbb.2.2.1
                · exact (hU2 k hk).2
              · rcases hk with rfl | rfl | hk
                · omega
                · omega
                · have := (hU2 k hk).1; omega
            clear htk hin2 hF2q hbb hU2 J
            go_wp2_with fail
            go_ret2
            exact HE.out
end Go.Proofs.Ytdamegjhdopfaaa
