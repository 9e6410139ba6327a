/- A disk: Crash's walk. -/
import Derived.Test.YtdamegjhdopfaaaD13
import Derived.Deep.RegionHeldLaw
namespace Go.Proofs.Ytdamegjhdopfaaa
open Go.RowKit Go.WideShapes
set_option linter.unusedSimpArgs false
set_option linter.unusedVariables false

/-- copy, as one step of a region that draws: no other block is touched -/
theorem step_copy_fr {P : Program} {ops : Array Oper} {o : Oper} {a : Act} {w : World} {K : Act → World → Prop} {Q : Exit → Act → World → Prop} {E : Prop} (hgd : o.guard = none) (d s : Operand) (dT sT : TypeId)
    (ho : o.op = .call { callee := .builtin .copy, args := #[d, s], argTypes := #[dT, sT] }) (elem : TypeId) (hu : P.underlying dT = some (.slice elem)) (hsz : (P.info? elem).map (·.size) = some 1)
    (g off dLen dCap : Nat) (ad : Addr) (sLen sCap : Nat) (hd : a.eval d = .slice (some ⟨g, off, none⟩) dLen dCap) (hs : a.eval s = .slice (some ad) sLen sCap)
    (cur : List Value) (t : TypeId) (hg : w.heap[g]? = some (.cells cur.toArray t (0, 0))) (cs : List Value) (hn : cs.length = Nat.min sLen dLen)
    (hsrc : ∀ j v, cs[j]? = some v → w.cell? (ad.add j) = some v) (hfit : off + cs.length ≤ cur.length) (h1 : ∀ v ∈ cs, v.oneCell' = true)
    (h : ∀ w', Hid (w'.heap[g]? = some (.cells (splice cur off cs).toArray t (0, 0))) → Fr (fun k => k = g) w w' → K (a.put o.dst (goInt cs.length)) w') :
    if Region.wanted o (yielded ops a.tmps) = true then Oper.wp P o a w K Q else E := by
  have hw : Region.wanted o (yielded ops a.tmps) = true := by simp [Region.wanted, hgd]
  rw [if_pos hw]
  have hrun := run_copy_row (P := P) w dT sT o.type elem g off dLen dCap ad sLen sCap cur.toArray t cs hu hsz hg hn hsrc (by simpa using hfit) h1
  unfold Oper.wp
  simp [execOp, ho, resolve, invoke, builtin, hd, hs, hrun, Result.andThen]
  exact h _ (show _ = _ by simpa [splice] using setRow_heap w g _ _ t _ hg) (Fr.setRow w g _)
/-- the first loop: the fates that were looked at may be -/
theorem fits_take (l : List Lo) (fs : List Ft) (h : ∀ (i : Nat) (f : Ft) (m : Lo), fs[i]? = some f → l[i]? = some m → mayB f.keep f.cut m.many = true) : fitsF l fs = true := by
  unfold fitsF
  rw [List.all_eq_true]
  intro p hp
  obtain ⟨i, hi⟩ := List.getElem?_of_mem hp
  rw [List.getElem?_zip_eq_some] at hi
  exact h i p.2 p.1 hi.2 hi.1
theorem fits_not (l : List Lo) (fs : List Ft) (i : Nat) (f : Ft) (m : Lo) (h1 : fs[i]? = some f) (h2 : l[i]? = some m) (h : mayB f.keep f.cut m.many = false) : fitsF l fs = false := by
  cases hc : fitsF l fs with
  | false => rfl
  | true =>
    unfold fitsF at hc
    rw [List.all_eq_true] at hc
    have := hc (m, f) (List.mem_of_getElem? (List.getElem?_zip_eq_some.2 ⟨h2, h1⟩))
    simp only at this
    rw [h] at this
    cases this
theorem readLo_own {w : World} {B n c : Nat} {A : Option Addr} {l : List Lo} (h : w.ownsRow B 48 2 (.slice A n c) l.length (l.flatMap Lo.cells)) {i : Nat} {m : Lo} (hm : l[i]? = some m) : ∃ g, A = some ⟨g, 0, none⟩ ∧ w.cell? ⟨g, i * 2, none⟩ = some (.int .i64 (m.s.val : Int)) ∧ w.cell? ⟨g, i * 2 + 1, none⟩ = some (.int .i64 m.many) := by
  have hi := (List.getElem?_eq_some_iff.1 hm).1
  rcases h.2 with ⟨hv, hn⟩ | ⟨g2, c2, cur, hv, _⟩
  · omega
  · simp only [Value.slice.injEq] at hv
    obtain ⟨rfl, rfl, rfl⟩ := hv
    have h0 := (own_news h).1 _ rfl _ _ (flat_at (f := Lo.cells) (s := 2) (fun _ => rfl) l i 0 m _ hm rfl)
    have h1 := (own_news h).1 _ rfl _ _ (flat_at (f := Lo.cells) (s := 2) (fun _ => rfl) l i 1 m _ hm rfl)
    rw [add_some, Nat.zero_add] at h0 h1
    exact ⟨g2, rfl, h0, h1⟩

theorem own_base {w : World} {B n : Nat} {e : TypeId} {size : Nat} {v : Value} {xs : List Value} (h : w.ownsRow B e size v n xs) : w.ownsRow 0 e size v n xs := by
  refine ⟨h.1, ?_⟩
  rcases h.2 with h2 | ⟨g, cap, cur, rfl, _, r⟩
  · exact .inl h2
  · exact .inr ⟨g, cap, cur, rfl, Nat.zero_le _, r⟩
theorem own_cap {w : World} {B n c len : Nat} {A : Option Addr} {e : TypeId} {size : Nat} {xs : List Value} (h : w.ownsRow B e size (.slice A n c) len xs) : n ≤ c := by
  rcases h.2 with ⟨hv, _⟩ | ⟨g2, c2, cur, hv, _, _, hc, _⟩
  · simp only [Value.slice.injEq] at hv; omega
  · simp only [Value.slice.injEq] at hv; omega
theorem own_max {w : World} {B n c len : Nat} {A : Option Addr} {e : TypeId} {size : Nat} {xs : List Value} (h : w.ownsRow B e size (.slice A n c) len xs) : c ≤ maxLen := by
  rcases h.2 with ⟨hv, _⟩ | ⟨g2, c2, cur, hv, _, _, _, hc, _⟩
  · simp only [Value.slice.injEq] at hv; simp [maxLen]; omega
  · simp only [Value.slice.injEq] at hv; omega
theorem own_cur {w : World} {B n c len g : Nat} {e : TypeId} {size : Nat} {xs : List Value} (h : w.ownsRow B e size (.slice (some ⟨g, 0, none⟩) n c) len xs) : ∃ cur : List Value, w.heap[g]? = some (.cells cur.toArray e (0, 0)) ∧ cur.length = c * size := by
  rcases h.2 with ⟨hv, _⟩ | ⟨g2, c2, cur, hv, _, hh, _, _, hs, _⟩
  · cases hv
  · simp only [Value.slice.injEq, Option.some.injEq, Addr.mk.injEq, and_true] at hv
    obtain ⟨rfl, _, rfl⟩ := hv
    exact ⟨cur.toList, by simpa using hh, by simpa using hs⟩
theorem there_blk {w : World} {b o n : Nat} {cur : List Value} {t : TypeId} (h : w.heap[b]? = some (.cells cur.toArray t (0, 0))) (hf : o + n ≤ cur.length) : w.there b o n := fun j hj => by
  refine ⟨?_, blk_frozen h _⟩
  rw [blk_cell h]
  have hjl : o + j < cur.length := by omega
  simp [hjl]
/-- what a fate makes of sectors, in two steps -/
def base1 (d : Dk) (F : List (List Int)) (m : Lo) (f : Ft) : List (List Int) := if 0 < f.keep then F.set m.s.val ((d.L (m.s.val : Int)).getD (f.keep.toNat - 1) []) else F
theorem crash1_two (d : Dk) (F : List (List Int)) (m : Lo) (f : Ft) (h : m.s.val < F.length) : crash1 d F (m, f) = if 0 < f.cut then (base1 d F m f).set m.s.val (((d.L (m.s.val : Int)).getD f.keep.toNat []).take f.cut.toNat ++ ((base1 d F m f).getD m.s.val []).drop f.cut.toNat) else base1 d F m f := by
  unfold crash1 afterS base1
  have e : F.set m.s.val (F.getD m.s.val []) = F := by
    apply List.ext_getElem?
    intro i
    rw [List.getElem?_set]
    split
    · rename_i hi
      subst hi
      simp [h]
    · rfl
  by_cases h1 : 0 < f.keep <;> by_cases h2 : 0 < f.cut <;> simp [h1, h2, h, e]
  all_goals first | done | simpa [List.getD] using e
def CrashAll (w : World) (d : Dk) (l : List Lo) (fs : List Ft) (e : Ending) (w' : World) : Prop :=
  (crashE l fs ≠ 0 ∧ CrashBad w (crashE l fs) e w') ∨ (crashE l fs = 0 ∧ CrashPost w (crashF d l fs) e w')

set_option maxRecDepth 100000 in
set_option maxHeartbeats 8000000 in
theorem crash_any {w : World} {g : Nat} {T : Nat → Prop} {d : Dk} (h : DkAt w g T d) (A : Option Addr) (c : Nat) (fs : List Ft) (hfl : fs.length ≤ maxLen) (hR : ReadFt w A fs) (l : List Lo) (hl : l = losOf d) :
    Calls Try.prog 23 #[.pointer (some ⟨g, 0, none⟩), .slice A fs.length c] w (CrashAll w d l fs) := by
  have H := Lib.hid h
  have HR := Lib.hid hR
  have HLL : Hid (l.length ≤ 4096) := (by rw [hl]; exact los_len d : l.length ≤ 4096)
  have HFS := Lib.hid (fits_take l fs)
  have HFN := Lib.hid (fits_not l fs)
  have HCE : Hid (crashE l fs = if l.length < fs.length then 3 else if fitsF l fs then 0 else 5) := rfl
  have HCF : Hid (crashF d l fs = (l.zip fs).foldl (crash1 d) d.F) := rfl
  have HML : Hid (∀ m ∈ l, 0 < (d.L (m.s.val : Int)).length ∧ m.many = (d.L (m.s.val : Int)).length) := (by rw [hl]; exact fun m hm => (mem_los d m).1 hm : ∀ m ∈ l, 0 < (d.L (m.s.val : Int)).length ∧ m.many = (d.L (m.s.val : Int)).length)
  have hloose := loose_any h
  rw [← hl] at hloose
  have HLO := Lib.hid hloose
  clear hl hloose
  clear h hR
  have hbad : ∀ r : Int, crashE l fs = r → r ≠ 0 → ∀ w', Fr (fun _ => False) w w' → CrashAll w d l fs (.returned (.tuple #[.pointer none, .int .i64 r])) w' := fun r h1 h2 w' hF => .inl ⟨by rw [h1]; exact h2, by rw [h1]; exact ⟨rfl, hF⟩⟩
  have HBAD := Lib.hid hbad
  clear hbad
  go_enter Try.func23, Try.ntmps23
  go_wp2_with fail
  refine (made_any H.out).mono ?_
  rintro e w1 ⟨rfl, rfl⟩
  go_wp2_with fail
  refine HLO.out.mono ?_
  rintro e w2 ⟨v2, rfl, ho2, hF2⟩
  obtain ⟨LA, lc, rfl⟩ := own_slice ho2
  have HO2 := Lib.hid ho2
  have HF2 := Lib.hid hF2
  clear ho2 hF2
  by_cases hlen : l.length < fs.length
  · have hli : (l.length : Int) < fs.length := by omega
    have HE := Lib.hid (HBAD.out 3 (by rw [HCE.out, if_pos hlen]) (by omega) w2 HF2.out)
    clear hlen
    go_wp2_with fail
    go_ret2
    exact HE.out
  have hli : ¬ (l.length : Int) < fs.length := by omega
  have hfl2 : fs.length ≤ 4096 := by have := HLL.out; omega
  have HR2 := Lib.hid (HR.out.fr HF2.out (fun _ _ _ h => h))
  have I0 : Hid (Fr (fun _ => False) w2 w2) := Fr.refl _ _
  have IA0 : Hid (∀ (j : Nat) (f : Ft) (m : Lo), j < 0 → fs[j]? = some f → l[j]? = some m → mayB f.keep f.cut m.many = true) := fun j f m hj => absurd hj (Nat.not_lt_zero _)
  go_wp2_with fail
  go_loopw [26] (fun k wr => ∃ i : Nat, i ≤ fs.length ∧ k = .int .i64 i ∧ Hid (∀ (j : Nat) (f : Ft) (m : Lo), j < i → fs[j]? = some f → l[j]? = some m → mayB f.keep f.cut m.many = true) ∧ Hid (Fr (fun _ => False) w2 wr)) (fun k _ => fs.length - (intOf k).toNat)
  case atStart => exact ⟨0, by omega, rfl, IA0, I0⟩
  case round =>
    clear I0 IA0
    obtain ⟨i, hi, rfl, IA, HF⟩ := hrel
    rcases Nat.lt_or_ge i fs.length with hlt | hlt
    · have hii : (i : Int) < fs.length := by omega
      have hil : (i : Int) < l.length := by omega
      obtain ⟨f, hf⟩ : ∃ f, fs[i]? = some f := ⟨_, List.getElem?_eq_getElem hlt⟩
      obtain ⟨m, hm⟩ : ∃ m, l[i]? = some m := ⟨_, List.getElem?_eq_getElem (by omega)⟩
      obtain ⟨fg, fo, rfl, hfc⟩ := HR2.out i f hf
      obtain ⟨lg, rfl, hl0, hl1⟩ := readLo_own HO2.out hm
      have q0 := HF.out.cell0 (hfc 0 _ rfl)
      have q1 := HF.out.cell0 (hfc 1 _ rfl)
      simp only [Nat.add_zero] at q0
      have r1 := HF.out.cell0 hl1
      have HFI := Lib.hid hf
      have HMI := Lib.hid hm
      obtain ⟨fk, fcut⟩ := f
      simp only at q0 q1
      clear hf hm hfc hl0 hl1
      go_upto_region 9 with (fail)
      obtain ⟨w3, he, hn3, hF3, hs3⟩ := alloc1 wr (.cells #[.int .i64 fk, .int .i64 fcut] 43)
      rw [he]
      have x0 : w3.cell? ⟨wr.heap.size, 0, none⟩ = some (.int .i64 fk) := blk_cell hn3 0
      have x1 : w3.cell? ⟨wr.heap.size, 1, none⟩ = some (.int .i64 fcut) := blk_cell hn3 1
      have r1 := hF3.cell0 r1
      have HF3 := Lib.hid (HF.out.trans hF3 (fun _ _ h => h))
      have hSS : ∀ W : World, Fr (fun _ => False) w3 W → W.cell? ⟨wr.heap.size, 0, none⟩ = some (.int .i64 fk) ∧ W.cell? ⟨wr.heap.size, 1, none⟩ = some (.int .i64 fcut) ∧ W.cell? ⟨lg, i * 2 + 1, none⟩ = some (.int .i64 m.many) := fun W hW => ⟨hW.cell0 x0, hW.cell0 x1, hW.cell0 r1⟩
      have HS := Lib.hid hSS
      have HFW : Hid (Fr (fun _ => False) w3 w3) := Fr.refl _ _
      have HMAY := Lib.hid (fun W => may_any W fk fcut m.many)
      obtain ⟨mb, hmb⟩ : ∃ mb, mb = mayB fk fcut m.many := ⟨_, rfl⟩
      rw [← hmb] at HMAY
      have HMB := Lib.hid hmb
      clear he hn3 hF3 hs3 hSS x0 x1 r1 q0 q1 hmb
      generalize wr.heap.size = bx at *
      go_region_held3 (fun W => W.cell? ⟨bx, 0, none⟩ = some (.int .i64 fk) ∧ W.cell? ⟨bx, 1, none⟩ = some (.int .i64 fcut) ∧ W.cell? ⟨lg, i * 2 + 1, none⟩ = some (.int .i64 m.many))
        (first | exact HS.out _ HFW.out | exact HS.out _ HFW.out.drew)
        (first | (go_at_call 58; refine (HMAY.out _).mono ?_; rintro e wn ⟨rfl, hf⟩; have HFW : Hid (Fr (fun _ => False) w3 wn) := (by first | exact HFW.out.trans hf (fun _ _ h => h) | exact HFW.out.drew.trans hf (fun _ _ h => h)); clear hf))
      cases mb with
      | true =>
        go_wp2_with fail
        refine ⟨⟨i + 1, by omega, by go_num, fun j f m' hj h1 h2 => ?_, HF3.out.trans HFW.out (fun _ _ h => h)⟩, by simp [intOf]; omega⟩
        by_cases hji : j = i
        · subst hji
          rw [HFI.out] at h1
          rw [HMI.out] at h2
          cases h1; cases h2
          exact HMB.out.symm
        · exact IA.out j f m' (by omega) h1 h2
      | false =>
        have HE := Lib.hid (HBAD.out 5 (by rw [HCE.out, if_neg (by omega), HFN.out i ⟨fk, fcut⟩ m HFI.out HMI.out HMB.out.symm]; rfl) (by omega) _ ((HF2.out.trans HF3.out (fun _ _ h => h)).trans HFW.out (fun _ _ h => h)))
        go_wp2_with fail
        go_ret2
        exact HE.out
    · have hii : ¬ (i : Int) < fs.length := by omega
      have hie : i = fs.length := by omega
      have hfits : fitsF l fs = true := HFS.out (fun j f m h1 h2 => IA.out j f m (by have := (List.getElem?_eq_some_iff.1 h1).1; omega) h1 h2)
      have hce : crashE l fs = 0 := by rw [HCE.out, if_neg (by omega), if_pos hfits]
      have hgood : ∀ e w', CrashPost w1 (crashF d l fs) e w' → CrashAll w1 d l fs e w' := fun e w' h => .inr ⟨hce, h⟩
      have HGOOD := Lib.hid hgood
      obtain ⟨FA, fc, bm, km, Dm, hd, p1, p2, p3⟩ := H.out
      have HFR := Lib.hid (HF2.out.trans HF.out (fun _ _ h => h))
      have HI := Lib.hid (p1.fr0 HFR.out)
      have hFT := fun k hk => p3 k (p2 k hk)
      have c0 : wr.cell? ⟨g, 0, none⟩ = some (.slice FA d.F.length fc) := blk_cell HI.out.box 0
      have HLO2 := Lib.hid (HF.out.own0 HO2.out)
      have HMAY : Hid (∀ (j : Nat) (f : Ft) (m : Lo), fs[j]? = some f → l[j]? = some m → mayB f.keep f.cut m.many = true) := fun j f m h1 h2 => IA.out j f m (by have := (List.getElem?_eq_some_iff.1 h1).1; omega) h1 h2
      have HFT := Lib.hid hFT
      have HRR := Lib.hid (HR2.out.fr HF.out (fun _ _ _ h => h))
      have HCL := Lib.hid (clone_any HI.out.row (fun s hs => (HI.out.secs s hs).1) HI.out.pos HI.out.few)
      clear hie hfits hce hgood p1 p2 p3 hFT IA HF HF2 HFS HFN HCE HBAD HLO HR HR2 HO2
      go_wp2_with fail
      refine HCL.out.mono ?_
      rintro e w4 ⟨CA, cc, rfl, ho4, hF4⟩
      obtain ⟨cg, hcg⟩ := own_some ho4 HI.out.pos
      subst hcg
      have hcgB : wr.heap.size ≤ cg := (ho4.lt cg rfl).1
      have HO4 := Lib.hid ho4
      have HI4 := Lib.hid (HI.out.fr0 hF4)
      have HFR4 := Lib.hid (HFR.out.trans hF4 (fun _ _ h => h))
      have HLO4 := Lib.hid (hF4.own0 HLO2.out)
      have HR4 := Lib.hid (HRR.out.fr hF4 (fun _ _ _ h => h))
      have hw1r : w1.heap.size ≤ wr.heap.size := HFR.out.size
      have hne : ∀ k, DkFoot g FA bm hd k → k < cg := fun k hk => by have := HFT.out k hk; omega
      have hneL : ∀ k, (Value.slice LA l.length lc).ownBlock = some k → k < cg := fun k hk => by have := own_lt HLO2.out k hk; omega
      have hneR : ∀ (a o : Nat), A = some ⟨a, o, none⟩ → 0 < fs.length → a < cg := fun a o e hp => by
        obtain ⟨f, hf⟩ : ∃ f, fs[0]? = some f := ⟨_, List.getElem?_eq_getElem hp⟩
        obtain ⟨fg, fo, e2, hc⟩ := HRR.out 0 f hf
        rw [e] at e2
        cases e2
        have := World.block_lt_of_cell? _ _ (hc 0 _ rfl)
        simp only at this
        omega
      have HNE := Lib.hid hne
      have HNEL := Lib.hid hneL
      have HNER := Lib.hid hneR
      have HCGB : Hid (w1.heap.size ≤ cg) := Nat.le_trans hw1r hcgB
      have hn : d.F.length ≤ 4096 := HI.out.few
      clear ho4 hF4 hcgB hw1r hne hneL hneR c0 HI HFR HLO2 HRR HFT
      have J0 : Hid (w4.ownsRow w1.heap.size 106 128 (.slice (some ⟨cg, 0, none⟩) d.F.length cc) d.F.length (d.F.flatMap by8)) := own_up (own_base HO4.out) (fun k hk => by obtain rfl := Option.some.inj hk; exact HCGB.out)
      have JF0 : Hid (d.F = ((l.zip fs).take 0).foldl (crash1 d) d.F) := rfl
      have JS0 : Hid (∀ s ∈ d.F, Sec s) := HI4.out.secs
      have JR0 : Hid (Fr (fun k => cg ≤ k) w4 w4) := Fr.refl _ _
      obtain ⟨nF, hnF⟩ : ∃ nF, nF = d.F.length := ⟨_, rfl⟩
      rw [← hnF] at J0 ⊢
      have JL0 : Hid (d.F.length = nF) := hnF.symm
      have hn2 : nF ≤ 4096 := by omega
      have HNF := Lib.hid hnF
      clear hnF HO4
      go_wp2_with fail
      go_loopw [47] (fun k wq => ∃ (i : Nat) (F : List (List Int)), i ≤ fs.length ∧ k = .int .i64 i ∧ Hid (F = ((l.zip fs).take i).foldl (crash1 d) d.F) ∧ Hid (wq.ownsRow w1.heap.size 106 128 (.slice (some ⟨cg, 0, none⟩) nF cc) nF (F.flatMap by8)) ∧ Hid (∀ s ∈ F, Sec s) ∧ Hid (F.length = nF) ∧ Hid (Fr (fun k => cg ≤ k) w4 wq)) (fun k _ => fs.length - (intOf k).toNat)
      case atStart => exact ⟨0, d.F, by omega, rfl, JF0, J0, JS0, JL0, JR0⟩
      case round =>
        clear J0 JF0 JS0 JL0 JR0
        obtain ⟨i, F, hi, rfl, JF, J, JS, JL, JR⟩ := hrel
        rcases Nat.lt_or_ge i fs.length with hlt | hlt
        · have hii : (i : Int) < fs.length := by omega
          have hil : (i : Int) < l.length := by omega
          obtain ⟨f, hf⟩ : ∃ f, fs[i]? = some f := ⟨_, List.getElem?_eq_getElem hlt⟩
          obtain ⟨m, hm⟩ : ∃ m, l[i]? = some m := ⟨_, List.getElem?_eq_getElem (by omega)⟩
          obtain ⟨fg, fo, rfl, hfc⟩ := HR4.out i f hf
          obtain ⟨lg, rfl, hl0, hl1⟩ := readLo_own HLO4.out hm
          have nfg : ¬ cg ≤ fg := by have := HNER.out fg fo rfl (by omega); omega
          have nlg : ¬ cg ≤ lg := by have := HNEL.out lg rfl; omega
          have ngg : ¬ cg ≤ g := by have := HNE.out g (.inl rfl); omega
          have q0 := JR.out.cell (hfc 0 _ rfl) nfg
          have q1 := JR.out.cell (hfc 1 _ rfl) nfg
          simp only [Nat.add_zero] at q0
          have r0 := JR.out.cell hl0 nlg
          have hmay := HMAY.out i f m hf hm
          obtain ⟨hmany, hmany2⟩ := HML.out m (List.mem_of_getElem? hm)
          have hstep : ((l.zip fs).take (i + 1)).foldl (crash1 d) d.F = crash1 d F (m, f) := by
            have e1 : (l.zip fs)[i]? = some (m, f) := List.getElem?_zip_eq_some.2 ⟨hm, hf⟩
            rw [List.take_add_one, e1, List.foldl_append, ← JF.out]
            rfl
          obtain ⟨fk, fcut⟩ := f
          simp only at q0 q1 hmay
          obtain ⟨p, hp⟩ : ∃ p, p = m.s.val := ⟨_, rfl⟩
          rw [← hp] at r0 hmany hmany2
          have hpw := HI4.out.within p (fun e => by rw [e] at hmany; simp at hmany)
          have hpn : p < nF := by have := HNF.out; omega
          have hpF : p < F.length := by have := JL.out; omega
          have hb : base1 d F m ⟨fk, fcut⟩ = if 0 < fk then F.set p ((d.L p).getD (fk.toNat - 1) []) else F := by unfold base1; rw [← hp]
          have hc2 : crash1 d F (m, ⟨fk, fcut⟩) = if 0 < fcut then (base1 d F m ⟨fk, fcut⟩).set p (((d.L p).getD fk.toNat []).take fcut.toNat ++ ((base1 d F m ⟨fk, fcut⟩).getD p []).drop fcut.toNat) else base1 d F m ⟨fk, fcut⟩ := by rw [crash1_two d F m ⟨fk, fcut⟩ (by rw [← hp]; exact hpF), ← hp]
          obtain ⟨F1, hF1⟩ : ∃ F1, F1 = base1 d F m ⟨fk, fcut⟩ := ⟨_, rfl⟩
          rw [← hF1] at hb hc2
          have HB := Lib.hid hb
          have HC2 := Lib.hid hc2
          have HSTEP := Lib.hid hstep
          have hm1 : 0 ≤ fk ∧ fk ≤ m.many ∧ 0 ≤ fcut ∧ fcut < 128 ∧ (fcut = 0 ∨ fk < m.many) := by
            unfold mayB at hmay
            simp at hmay
            exact ⟨hmay.1.1.1.1, hmay.1.1.1.2, hmay.1.1.2, hmay.1.2, hmay.2⟩
          have HM1 := Lib.hid hm1
          have HMANY := Lib.hid hmany2
          have HPF := Lib.hid hpF
          clear hf hm hfc hl0 hl1 hmay hmany hmany2 hp hpw hb hc2 hstep hF1 hm1 hpF
          go_upto_region 16 with (fail)
          obtain ⟨w5, he, hn5, hF5, hs5⟩ := alloc1 wr (.cells #[.int .i64 fk, .int .i64 fcut] 43)
          rw [he]
          obtain ⟨bx, hbx⟩ : ∃ bx, bx = wr.heap.size := ⟨_, rfl⟩
          rw [← hbx] at hn5 ⊢
          have hbc : bx ≠ cg := by have := own_lt J.out cg rfl; omega
          have HN5 := Lib.hid hn5
          have HF5 := Lib.hid hF5
          have HJ5 := Lib.hid (hF5.own0 J.out)
          have hF45 : Fr (fun k => cg ≤ k) w4 w5 := JR.out.trans hF5 (fun _ _ h => h.elim)
          have HF45 := Lib.hid hF45
          have HI5 := Lib.hid (HI4.out.fr hF45 (fun k hk e => by have := HNE.out k hk; have e' : cg ≤ k := e; omega))
          have hwf : (Lit.int .i64 (p : Int)).wf = true := by simp [Lit.wf, show IntKind.i64.min = -9223372036854775808 from rfl, show IntKind.i64.max = 9223372036854775807 from rfl]; omega
          have hlook := hd_look HI5.out.map HI5.out.heads hwf w5 rfl
          have hrow := HI5.out.rows p
          have hnum := HI5.out.num p
          obtain ⟨q, hq⟩ : ∃ q, q = hd p := ⟨_, rfl⟩
          rw [← hq] at hlook hrow hnum
          have hqc : ∀ k, q.v.ownBlock = some k → k ≠ cg := fun k hk e => by have := HNE.out k (.inr (.inr (.inr ⟨p, by rw [← hq]; exact hk⟩))); omega
          obtain ⟨ha, hn', hc'⟩ := q
          simp only [Hd.v] at hlook hrow hnum hqc
          have x0 : w5.cell? ⟨bx, 0, none⟩ = some (.int .i64 fk) := blk_cell hn5 0
          have x1 : w5.cell? ⟨bx, 1, none⟩ = some (.int .i64 fcut) := blk_cell hn5 1
          have c1 : w5.cell? ⟨g, 1, none⟩ = some (.map (some bm)) := blk_cell HI5.out.box 1
          have r0' := hF5.cell0 r0
          have HROW := Lib.hid hrow
          have HNUM := Lib.hid hnum
          have HQC := Lib.hid hqc
          have HLS := Lib.hid (HI5.out.lsecs p)
          have HBX := Lib.hid hbx
          clear he hn5 hF5 hs5 hbx hF45 hwf hrow hnum hq hqc q0 q1 r0
          go_upto_if 65 with (fail)
          go_cut [] (fun wd => Hid (wd.ownsRow w1.heap.size 106 128 (.slice (some ⟨cg, 0, none⟩) nF cc) nF (F1.flatMap by8)) ∧ Hid (∀ s ∈ F1, Sec s) ∧ Hid (F1.length = nF) ∧ Hid (Fr (fun k => k = cg) w5 wd))
          case first =>
            by_cases hk0 : 0 < fk
            · obtain ⟨kk, hkk⟩ : ∃ kk : Nat, fk = (kk : Int) + 1 := ⟨fk.toNat - 1, by omega⟩
              have hkl : kk < (d.L p).length := by have := HM1.out.2.1; have := HMANY.out; omega
              obtain ⟨s1, hs1⟩ : ∃ s1, (d.L p)[kk]? = some s1 := ⟨_, List.getElem?_eq_getElem hkl⟩
              have hsec1 := HLS.out s1 (List.mem_of_getElem? hs1)
              have hro := HROW.out
              rw [← HNUM.out] at hro
              obtain ⟨hb, hhb⟩ := own_some hro (by have := HNUM.out; omega)
              subst hhb
              have HLD := Lib.hid (sec_at hro (fun s hs => (HLS.out s hs).1) hs1)
              have hbb : F1 = F.set p s1 := by
                rw [HB.out, if_pos hk0, show fk.toNat - 1 = kk by omega]
                congr 1
                simp [List.getD, hs1]
              obtain ⟨s0, hs0⟩ : ∃ s0, F[p]? = some s0 := ⟨_, List.getElem?_eq_getElem HPF.out⟩
              obtain ⟨cur, hcur, hcl⟩ := own_cur HJ5.out
              have hfit : p * 128 + (by8 s1).length ≤ cur.length := by rw [by8_len, hsec1.1, hcl]; have := own_cap HJ5.out; have : (p + 1) * 128 ≤ cc * 128 := Nat.mul_le_mul_right _ (by omega); omega
              have HTH : Hid (w5.there cg (p * 128) (by8 s1).toArray.size) := there_blk hcur (by simpa using hfit)
              have hfin := own_splice HJ5.out JL.out.symm (fun s hs => (JS.out s hs).1) hcur hs0 (t := s1) (by rw [hsec1.1]; omega) (setCells_blk (by8 s1) (p * 128) w5 cg cur 106 hcur hfit)
              rw [List.drop_eq_nil_of_le (by rw [hsec1.1, (JS.out s0 (List.mem_of_getElem? hs0)).1]; omega), List.append_nil, ← hbb] at hfin
              have HFIN := Lib.hid hfin
              have HSEC : Hid (∀ s ∈ F1, Sec s) := fun s hs => by
                rw [hbb] at hs
                rcases List.mem_or_eq_of_mem_set hs with h | rfl
                · exact JS.out s h
                · exact hsec1
              have HLEN : Hid (F1.length = nF) := by rw [hbb, List.length_set]; exact JL.out
              have HSI : Hid ((Try.prog.info? 106).map (·.size) = some (by8 s1).length) := (by rw [sec_info, by8_len, hsec1.1] : (Try.prog.info? 106).map (·.size) = some (by8 s1).length)
              have HSA := Lib.hid (sec_size s1 hsec1.1)
              have hkx : fk ≤ 9223372036854775807 := by
                have h1 := own_cap hro
                have h2 := own_max hro
                have := HNUM.out
                simp [maxLen] at h2
                omega
              have hsub : fk - 1 = (kk : Int) := by omega
              have hkh : (kk : Int) < hn' := by have := HNUM.out; omega
              have hk3 : kk < hn' := by omega
              clear hs1 hsec1 hro hbb hs0 hcur hcl hfit hfin hkl hkk
              go_wp2_with (first
                | (refine wpList_load_mid rfl 106 _ rfl hb (kk * 128) rfl (by8 s1) _ HLD.out Try.underlying106 rfl HSI.out ?_)
                | (refine wpList_store_mid rfl 106 _ _ rfl cg (p * 128) (by8 s1).toArray rfl rfl HTH.out HSA.out (arr_one s1) ?_))
              go_meet
              case rel => exact ⟨HFIN.out, HSEC, HLEN, setCells_fr _ _ _ _⟩
            · have hbb : F1 = F := by rw [HB.out, if_neg hk0]
              have HEND : Hid (w5.ownsRow w1.heap.size 106 128 (.slice (some ⟨cg, 0, none⟩) nF cc) nF (F1.flatMap by8)) := by rw [hbb]; exact HJ5.out
              have HSEC : Hid (∀ s ∈ F1, Sec s) := by rw [hbb]; exact JS.out
              have HLEN : Hid (F1.length = nF) := by rw [hbb]; exact JL.out
              have hk1 : fk = 0 := by have := HM1.out.1; omega
              clear hbb
              go_wp2
              go_meet
              case rel => exact ⟨HEND, HSEC, HLEN, Fr.refl _ _⟩
          case rest =>
            obtain ⟨KJ, KS, KL, KF⟩ := hcut
            have y0 : wc.cell? ⟨bx, 0, none⟩ = some (.int .i64 fk) := blk_cell (KF.out.blk HN5.out hbc) 0
            have y1 : wc.cell? ⟨bx, 1, none⟩ = some (.int .i64 fcut) := blk_cell (KF.out.blk HN5.out hbc) 1
            have KF4 : Hid (Fr (fun k => cg ≤ k) w4 wc) := HF45.out.trans KF.out (fun k _ e => by show cg ≤ k; rw [e]; exact Nat.le_refl _)
            clear x0 x1 c1 r0' hlook
            by_cases hc0 : 0 < fcut
            · obtain ⟨kk, rfl⟩ : ∃ kk : Nat, fk = (kk : Int) := ⟨fk.toNat, by have := HM1.out.1; omega⟩
              obtain ⟨cn, rfl⟩ : ∃ cn : Nat, fcut = (cn : Int) := ⟨fcut.toNat, by omega⟩
              have hkl : kk < (d.L p).length := by have := HM1.out.2.2.2.2; have := HMANY.out; omega
              have hcn : cn < 128 := by have := HM1.out.2.2.2.1; omega
              obtain ⟨s2, hs2⟩ : ∃ s2, (d.L p)[kk]? = some s2 := ⟨_, List.getElem?_eq_getElem hkl⟩
              have hsec2 := HLS.out s2 (List.mem_of_getElem? hs2)
              have hro := HROW.out
              rw [← HNUM.out] at hro
              obtain ⟨hb, hhb⟩ := own_some hro (by have := HNUM.out; omega)
              subst hhb
              have hld5 := sec_at hro (fun s hs => (HLS.out s hs).1) hs2
              have hld : ∀ j v, (by8 (s2.take cn))[j]? = some v → wc.cell? ((⟨hb, kk * 128, none⟩ : Addr).add j) = some v := fun j v hv => by
                rw [add_some]
                unfold by8 at hv
                rw [List.map_take] at hv
                have hv2 : (by8 s2)[j]? = some v := by
                  rw [List.getElem?_take] at hv
                  split at hv
                  · exact hv
                  · cases hv
                exact KF.out.cell (hld5 j v hv2) (HQC.out hb rfl)
              obtain ⟨s0, hs0⟩ : ∃ s0, F1[p]? = some s0 := ⟨_, List.getElem?_eq_getElem (by have := KL.out; omega)⟩
              have hsec0 := KS.out s0 (List.mem_of_getElem? hs0)
              obtain ⟨cur, hcur, hcl⟩ := own_cur KJ.out
              have htl : (s2.take cn).length = cn := by rw [List.length_take, hsec2.1]; omega
              have hfit : p * 128 + (by8 (s2.take cn)).length ≤ cur.length := by rw [by8_len, htl, hcl]; have := own_cap KJ.out; have : (p + 1) * 128 ≤ cc * 128 := Nat.mul_le_mul_right _ (by omega); omega
              have hlen : (by8 (s2.take cn)).length = Nat.min cn cn := by rw [by8_len, htl]; simp
              have hfin : ((l.zip fs).take (i + 1)).foldl (crash1 d) d.F = F1.set p (s2.take cn ++ s0.drop cn) := by
                rw [HSTEP.out, HC2.out, if_pos hc0]
                simp only [Int.toNat_natCast, List.getD, hs2, hs0, Option.getD_some]
              have HFIN := Lib.hid hfin
              have HOWN : Hid (∀ w6 : World, w6.heap[cg]? = some (.cells (splice cur (p * 128) (by8 (s2.take cn))).toArray 106 (0, 0)) → w6.ownsRow w1.heap.size 106 128 (.slice (some ⟨cg, 0, none⟩) nF cc) nF ((F1.set p (s2.take cn ++ s0.drop cn)).flatMap by8)) := fun w6 h6 => by
                have := own_splice KJ.out KL.out.symm (fun s hs => (KS.out s hs).1) hcur hs0 (t := s2.take cn) (by rw [htl]; omega) h6
                rw [htl] at this
                exact this
              have HSEC : Hid (∀ s ∈ F1.set p (s2.take cn ++ s0.drop cn), Sec s) := fun s hs => by
                rcases List.mem_or_eq_of_mem_set hs with h | rfl
                · exact KS.out s h
                · refine ⟨by rw [List.length_append, htl, List.length_drop, hsec0.1]; omega, fun x hx => ?_⟩
                  rcases List.mem_append.1 hx with hx | hx
                  · exact hsec2.2 x (List.mem_of_mem_take hx)
                  · exact hsec0.2 x (List.mem_of_mem_drop hx)
              have HLEN : Hid ((F1.set p (s2.take cn ++ s0.drop cn)).length = nF) := by rw [List.length_set]; exact KL.out
              have hSS : ∀ W : World, Fr (fun _ => False) wc W → W.cell? ⟨bx, 0, none⟩ = some (.int .i64 (kk : Int)) ∧ W.cell? ⟨bx, 1, none⟩ = some (.int .i64 (cn : Int)) := fun W hW => ⟨hW.cell0 y0, hW.cell0 y1⟩
              have HS := Lib.hid hSS
              have HLD := Lib.hid hld
              have HCUR := Lib.hid hcur
              have HFIT := Lib.hid hfit
              have HLN := Lib.hid hlen
              have hkh : (kk : Int) < hn' := by have := HNUM.out; omega
              have hk3 : kk < hn' := by omega
              have hal : Try.prog.arrayLen 106 = 128 := by kernel_rfl
              have hcni : (cn : Int) ≤ 128 := by omega
              have HS2 : Hid (∀ W : World, Fr (fun k => k = cg) wc.drew W → W.cell? ⟨bx, 0, none⟩ = some (.int .i64 (kk : Int)) ∧ W.cell? ⟨bx, 1, none⟩ = some (.int .i64 (cn : Int))) := fun W hW => ⟨hW.cell (w := wc.drew) y0 hbc, hW.cell (w := wc.drew) y1 hbc⟩
              clear hkl hs2 hsec2 hro hld5 hld hs0 hsec0 hcur hcl htl hfit hlen hfin hSS
              go_upto_region 21 with (fail)
              clear y0 y1
              go_region_held_law (fun W => W.cell? ⟨bx, 0, none⟩ = some (.int .i64 (kk : Int)) ∧ W.cell? ⟨bx, 1, none⟩ = some (.int .i64 (cn : Int)))
                (first | exact HS.out _ (Fr.refl _ _).drew | exact HS2.out _ hb6)
                (first | (refine step_copy_fr rfl (.tmp 83) (.tmp 90) 33 33 rfl 5 Try.underlying33 sec_type cg (p * 128) cn 128 ⟨hb, kk * 128, none⟩ cn 128 (by simp [Act.eval]) (by simp [Act.eval]) cur 106 HCUR.out (by8 (s2.take cn)) HLN.out HLD.out HFIT.out (by8_one _) ?_; intro w6 hn6 hb6))
              have HJ6 := Lib.hid (HOWN.out w6 hn6.out)
              have HF6 : Hid (Fr (fun k => cg ≤ k) w4 w6) := KF4.out.drew.trans hb6 (fun k _ e => by show cg ≤ k; rw [e]; exact Nat.le_refl _)
              clear hn6 hb6
              go_wp2_with fail
              exact ⟨⟨i + 1, _, by omega, by go_num, HFIN.out.symm, HJ6, HSEC, HLEN, HF6⟩, by simp [intOf]; omega⟩
            · have hfin : ((l.zip fs).take (i + 1)).foldl (crash1 d) d.F = F1 := by rw [HSTEP.out, HC2.out, if_neg hc0]
              have HFIN := Lib.hid hfin
              clear hfin
              go_wp2_with fail
              exact ⟨⟨i + 1, F1, by omega, by go_num, HFIN.out.symm, KJ, KS, KL, KF4⟩, by simp [intOf]; omega⟩
        · have hii : ¬ (i : Int) < fs.length := by omega
          have hie : i = fs.length := by omega
          have hall : F = crashF d l fs := by
            have e1 : (l.zip fs).take i = l.zip fs := List.take_of_length_le (by rw [List.length_zip]; omega)
            rw [HCF.out, JF.out, e1]
          have hpos : 0 < nF := by have := HI4.out.pos; have := HNF.out; omega
          have hfr := fresh_any (w := wr) (FA := some ⟨cg, 0, none⟩) (fc := cc) (F := F) (by rw [JL.out]; exact own_base J.out) JS.out (by rw [JL.out]; exact hpos) (by rw [JL.out]; exact hn2)
          rw [JL.out] at hfr
          have HFS := Lib.hid hfr
          have HALL := Lib.hid hall
          clear hie hall hfr hpos
          go_wp2_with fail
          refine HFS.out.mono ?_
          rintro e w7 ⟨g7, T7, rfl, hat7, hF7, hg7, hT7⟩
          have HEND : Hid (CrashAll w1 d l fs (.returned (.tuple #[.pointer (some ⟨g7, 0, none⟩), .int .i64 0])) w7) := by
            refine HGOOD.out _ _ ⟨g7, T7, rfl, by rw [← HALL.out]; exact hat7, ?_, ?_, fun k hk => ?_⟩
            · exact (HFR4.out.trans' JR.out (S'' := fun _ => False) (fun _ _ h => h) (fun k hk e => by have := HCGB.out; have e' : cg ≤ k := e; omega)).trans hF7 (fun _ _ h => h)
            · have h1 := HFR4.out.size
              have h2 := JR.out.size
              omega
            · rcases hT7 k hk with h | h
              · have h1 := HFR4.out.size
                have h2 := JR.out.size
                omega
              · have e1 : some cg = some k := h
                have := Option.some.inj e1
                have := HCGB.out
                omega
          clear hat7 hF7 hg7 hT7
          go_wp2_with fail
          go_ret2
          exact HEND.out
end Go.Proofs.Ytdamegjhdopfaaa
