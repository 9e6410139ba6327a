/- A disk: a sector as it stands. -/
import Derived.Test.YtdamegjhdopfaaaD2
import Derived.Laws.Tables
namespace Go.Proofs.Ytdamegjhdopfaaa
open Go.RowKit Go.WideShapes

theorem sec_info : (Try.prog.info? 106).map (·.size) = some 128 := by kernel_rfl
theorem sec_size (s : List Int) (h : s.length = 128) : (Try.prog.info? 106).map (·.size) = some (by8 s).toArray.size := by rw [sec_info]; simp [by8_len, h]
theorem arr_one (s : List Int) : (by8 s).toArray.all (·.oneCell') = true := all_oneCell_toArray (by8_one s)
/-- 128 zeros -/
def zeroS : List Int := List.replicate 128 0
theorem zero_cells : Try.zeroCells106 = (by8 zeroS).toArray := by kernel_rfl
/-- the cells of sector i of a row of sectors -/
theorem flat_sec : ∀ (F : List (List Int)) (_ : ∀ s ∈ F, s.length = 128) (i : Nat) (s : List Int), F[i]? = some s → ∀ j v, (by8 s)[j]? = some v → (F.flatMap by8)[i * 128 + j]? = some v
  | [], _, i, s, h, _, _, _ => by simp at h
  | x :: F, hF, i, s, h, j, v, hv => by
    have hx : (by8 x).length = 128 := by rw [by8_len]; exact hF x (by simp)
    rw [List.flatMap_cons]
    cases i with
    | zero =>
      simp at h
      subst h
      have hj := (List.getElem?_eq_some_iff.1 hv).1
      rw [Nat.zero_mul, Nat.zero_add, List.getElem?_append_left hj]
      exact hv
    | succ i =>
      rw [List.getElem?_append_right (by rw [hx]; omega), hx, show (i + 1) * 128 + j - 128 = i * 128 + j by omega]
      exact flat_sec F (fun s hs => hF s (by simp [hs])) i s (by simpa using h) j v hv
/-- sector i of a row of one's own is read -/
theorem sec_at {w : World} {fg n c : Nat} {F : List (List Int)} (h : w.ownsRow 0 106 128 (.slice (some ⟨fg, 0, none⟩) n c) n (F.flatMap by8)) (hF : ∀ s ∈ F, s.length = 128) {i : Nat} {s : List Int} (hi : F[i]? = some s) : w.rangeAt fg (i * 128) (by8 s) := fun j v hv => by
  have h1 := (own_news h).1 _ rfl _ v (flat_sec F hF i s hi j v hv)
  rw [add_some, Nat.zero_add] at h1
  exact h1
theorem run_loadS {w : World} {fg o : Nat} {s : List Int} (h : w.rangeAt fg o (by8 s)) (hs : s.length = 128) : (Instr.loadAt 106 (.pointer (some ⟨fg, o, none⟩))).run Try.prog w = .ok (.agg (by8 s).toArray) w :=
  run_loadAt_mid w fg o 106 (by8 s) _ h Try.underlying106 rfl (by rw [sec_info, by8_len, hs])
theorem run_storeRowS {w : World} {g : Nat} {t : TypeId} {old : Array Value} {s : List Int} (hg : w.heap[g]? = some (.cells old t (0, 0))) (ho : old.size = 128) (hs : s.length = 128) :
    (Instr.storeAt 106 (.pointer (some ⟨g, 0, none⟩)) (.agg (by8 s).toArray)).run Try.prog w = .ok () (w.setRow g (by8 s).toArray) := by
  simp only [Instr.storeAt, Instr.sureAddr, Sem.run_bind, Sem.run_pure, Result.andThen_ok, run_storeVar_row w g t 106 old (by8 s).toArray hg (sec_size s hs) (by rw [ho]; simp [by8_len, hs]) (arr_one s)]
theorem blk_setRow {w : World} {g : Nat} {t : TypeId} {old : Array Value} (h : w.heap[g]? = some (.cells old t (0, 0))) (cs : Array Value) : (w.setRow g cs).heap[g]? = some (.cells cs t (0, 0)) := by
  simp [World.setRow, Array.getElem?_modify, h]

theorem own_some {w : World} {B n c len : Nat} {A : Option Addr} {e : TypeId} {size : Nat} {xs : List Value} (h : w.ownsRow B e size (.slice A n c) len xs) (hp : 0 < len) : ∃ g, A = some ⟨g, 0, none⟩ := by
  rcases h.2 with ⟨_, h1⟩ | ⟨g2, c2, cur, hv, _⟩
  · omega
  · simp only [Value.slice.injEq] at hv
    exact ⟨g2, hv.1⟩
theorem getLast_at {α : Type} (L : List α) (h : L ≠ []) : ∃ s, L.getLast? = some s ∧ L[L.length - 1]? = some s := by
  refine ⟨L.getLast h, List.getLast?_eq_some_getLast h, ?_⟩
  rw [← List.getLast?_eq_getElem?]
  exact List.getLast?_eq_some_getLast h

set_option maxRecDepth 100000 in
set_option maxHeartbeats 1000000 in
theorem stands_any {w : World} {g : Nat} {T : Nat → Prop} {d : Dk} (h : DkAt w g T d) (i : Nat) (hi : i < d.F.length) : Calls Try.prog 60 #[.pointer (some ⟨g, 0, none⟩), .int .i64 i] w (fun e w' => e = .returned (.agg (by8 (d.at i)).toArray) ∧ Fr (fun _ => False) w w') := by
  obtain ⟨FA, fc, bm, km, Dm, hd, h1, h2, h3⟩ := h
  have hfew := h1.few
  have hwf : (Lit.int .i64 (i : Int)).wf = true := by simp [Lit.wf, show IntKind.i64.min = -9223372036854775808 from rfl, show IntKind.i64.max = 9223372036854775807 from rfl]; omega
  have hii : (i : Int) < d.F.length := by omega
  have HWF := Lib.hid hwf
  have H1 := Lib.hid h1
  clear h2 h3 hfew hwf h1
  have HZS : Hid (Try.zeroCells106.size = 128) := (by rw [zero_cells]; simp [by8_len, zeroS] : Try.zeroCells106.size = 128)
  have hsec : (d.at i).length = 128 := by
    unfold Dk.at
    cases hL : d.L i with
    | nil => simp; rw [List.getElem?_eq_getElem hi]; exact (H1.out.secs _ (List.getElem_mem hi)).1
    | cons x r =>
      obtain ⟨s, e1, e2⟩ := getLast_at (x :: r) (by simp)
      rw [e1]
      exact (H1.out.lsecs i s (by rw [hL]; exact List.mem_of_getElem? e2)).1
  obtain ⟨s, hs⟩ : ∃ s, s = d.at i := ⟨_, rfl⟩
  rw [← hs] at hsec ⊢
  have HSEC := Lib.hid hsec
  have HS := Lib.hid hs
  clear hsec hs
  go_enter Try.func60, Try.ntmps60
  go_upto_region 1 with (fail)
  obtain ⟨w1, he, hn1, hF1, hs1⟩ := alloc1 w (.cells Try.zeroCells106 106)
  rw [he]
  have H := Lib.hid (H1.out.fr0 hF1)
  have HN := Lib.hid hn1
  have HF := Lib.hid hF1
  have c0 : w1.cell? ⟨g, 0, none⟩ = some (.slice FA d.F.length fc) := blk_cell H.out.box 0
  have c1 : w1.cell? ⟨g, 1, none⟩ = some (.map (some bm)) := blk_cell H.out.box 1
  have hlook := hd_look H.out.map H.out.heads HWF.out w1 rfl
  have hnum := H.out.num i
  have hr : w1.heap.size = w.heap.size + 1 := hs1
  obtain ⟨r, hr0⟩ : ∃ r, r = w.heap.size := ⟨_, rfl⟩
  rw [← hr0] at HN ⊢
  have HFr : Hid (Fr (fun k => k = r) w1 (w1.setRow r (by8 s).toArray)) := Fr.setRow _ _ _
  have HR0 := Lib.hid hr0
  clear he hn1 hF1 hs1 H1 hr hr0
  have hrow := H.out.rows i
  obtain ⟨q, hq⟩ : ∃ q, q = hd i := ⟨_, rfl⟩
  rw [← hq] at hlook hnum hrow
  obtain ⟨a, n, c⟩ := q
  simp only [Hd.v] at hlook hnum hrow
  have HROW := Lib.hid hrow
  have HNUM := Lib.hid hnum
  have HSI : Hid ((Try.prog.info? 106).map (·.size) = some (by8 s).length) := (by rw [sec_info, by8_len, HSEC.out] : (Try.prog.info? 106).map (·.size) = some (by8 s).length)
  have HSA := Lib.hid (sec_size s HSEC.out)
  have HZA : Hid (Try.zeroCells106.size = (by8 s).toArray.size) := (by rw [HZS.out]; simp [by8_len, HSEC.out] : Try.zeroCells106.size = (by8 s).toArray.size)
  have hend := fun (tmps : Array Value) (hp : tmps.getD 4 undef = .pointer (some ⟨r, 0, none⟩)) => results_cell_row (P := Try.prog) (fn := Try.f60) (p := 4) (ty := 106) rfl tmps (w1.setRow r (by8 s).toArray) r 106 (by8 s).toArray (0, 0) _ hp (blk_setRow HN.out _) Try.underlying106 rfl (sec_size s HSEC.out)
  have HEND := Lib.hid hend
  have HFE : Hid (Fr (fun _ => False) w (w1.setRow r (by8 s).toArray)) := HF.out.trans' HFr.out (fun _ _ h => h) (fun k hk e => by have := HR0.out; omega)
  clear hrow hnum hq hend
  rcases Nat.eq_zero_or_pos n with h0 | h0
  · subst h0
    obtain ⟨fg, hfg⟩ := own_some H.out.row H.out.pos
    subst hfg
    have hLi : d.L i = [] := List.eq_nil_of_length_eq_zero HNUM.out.symm
    have hFi : d.F[i]? = some s := by rw [HS.out]; unfold Dk.at; rw [hLi]; simp [List.getElem?_eq_getElem hi]
    have HLD := Lib.hid (sec_at H.out.row (fun s hs => (H.out.secs s hs).1) hFi)
    clear hLi hFi
    go_wp2_with (first
      | (refine wpList_load_mid rfl 106 _ rfl fg (i * 128) rfl (by8 s) _ HLD.out Try.underlying106 rfl HSI.out ?_)
      | (refine wpList_store_row rfl 106 _ _ rfl r (by8 s).toArray rfl rfl 106 _ HN.out HSA.out HZA.out (arr_one s) ?_))
    exact bodyPost_ret (v := .agg (by8 s).toArray) (HEND.out _ rfl) rfl ⟨rfl, HFE.out⟩
  · obtain ⟨m, rfl⟩ : ∃ m, n = m + 1 := ⟨n - 1, by omega⟩
    have hnn : (d.L i).length = m + 1 := HNUM.out.symm
    have hro := HROW.out
    rw [hnn] at hro
    obtain ⟨gb, hgb⟩ := own_some hro (by omega)
    subst hgb
    have hLi : (d.L i)[m]? = some s := by
      obtain ⟨s', e1, e2⟩ := getLast_at (d.L i) (fun e => by rw [e] at hnn; simp at hnn)
      rw [hnn] at e2
      have e3 : s' = s := by rw [HS.out]; unfold Dk.at; rw [e1]; rfl
      rw [e3] at e2
      simpa using e2
    have HLD := Lib.hid (sec_at hro (fun s hs => (H.out.lsecs i s hs).1) hLi)
    have hmx : (m : Int) + 1 ≤ 9223372036854775807 := by
      rcases hro.2 with ⟨hv, _⟩ | ⟨g2, cap, cur, hv, _, _, hc1, hc2, _⟩
      · cases hv
      · simp [maxLen] at hc2; omega
    clear hLi hnn hro
    go_wp2_with (first
      | (refine wpList_load_mid rfl 106 _ rfl gb (m * 128) rfl (by8 s) _ HLD.out Try.underlying106 rfl HSI.out ?_)
      | (refine wpList_store_row rfl 106 _ _ rfl r (by8 s).toArray rfl rfl 106 _ HN.out HSA.out HZA.out (arr_one s) ?_))
    exact bodyPost_ret (v := .agg (by8 s).toArray) (HEND.out _ rfl) rfl ⟨rfl, HFE.out⟩
end Go.Proofs.Ytdamegjhdopfaaa
