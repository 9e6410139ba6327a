/- frag.Cut. -/
import Derived.Test.YtedmhhllkkgbjaaFg7
namespace Go.Proofs.Ytedmhhllkkgbjaa
open Go.RowKit

theorem cut_tells {B : Nat} {wz : World} {g gr : Nat} {RA : Option Addr} {rc : Nat} {recs : List (List Int)} (hB : wz.heap.size = B) (hR : ReadR wz RA recs) (hgB : B ≤ g) (hgne : g ≠ gr) (hn : recs.length ≤ 256) (hs : ∀ r ∈ recs, r.length ≤ 8192) :
    Tells 55 #[.pointer (some ⟨g, 0, none⟩), .pointer (some ⟨gr, 0, none⟩)] (plan 0 (recs.map List.length) 0)
      (fun done w => OutAt B w g (outOf recs done) ∧ w.heap[gr]? = some (.cells #[.slice RA recs.length rc] 47 (0, 0)) ∧ Below B wz w) := by
  refine ⟨fun args w => run_enter Try.func55 (by kernel_rfl) (by kernel_rfl) args w, ?_⟩
  rintro done e rest w hd ⟨hO, hgr, hb⟩
  have hok := plan_ok 0 (recs.map List.length) 0 (by omega)
  have hlen := plan_len2 0 (recs.map List.length) 0 (fun s hs' => by obtain ⟨r, hr, rfl⟩ := List.mem_map.1 hs'; exact hs r hr)
  rw [List.length_map, ← hd] at hlen
  obtain ⟨_, s, h1, h2, h3⟩ := hok e (by rw [← hd]; simp)
  rw [Nat.sub_zero, List.getElem?_map] at h1
  obtain ⟨r, hr, rfl⟩ := Option.map_eq_some_iff.1 h1
  have hrl := (List.getElem?_eq_some_iff.1 hr).1
  have hob := outOf_bound recs done.length done rfl (fun x hx => by
    obtain ⟨_, _, _, _, h⟩ := hok x (by rw [← hd]; exact List.mem_append_left _ hx)
    exact h)
  have hdl : done.length ≤ 2100000 := by
    simp only [List.length_append, List.length_cons] at hlen
    omega
  refine (cut1_any (RA := RA) (rn := recs.length) (rc := rc) e hB hb hR rfl hO hgB hgr hgne (by omega) hrl ?_ ?_ (by omega) (fun x hx => ?_) (by omega) (fun x hx => ?_)).mono ?_
  · rw [List.getD_eq_getElem?_getD, hr]; exact h2
  · intro hf
    cases hdn : done with
    | nil =>
      rw [hdn] at hd
      have := plan_first _ e rest (by simpa using hd.symm)
      rw [hf] at this
      cases this
    | cons a l =>
      rw [← List.dropLast_concat_getLast (l := a :: l) (by simp), outOf_snoc]
      exact cutStep_ne _ _ _
  · have := hob.1 x hx; omega
  · have := hs x hx; omega
  · rintro r w' ⟨h1, h2, h3, h4⟩
    rw [outOf_snoc]
    exact ⟨h1, h2, h3, hb.trans h4⟩

def CutAll (w : World) (recs : List (List Int)) (e : Ending) (w' : World) : Prop :=
  ∃ A c, e = .returned (.tuple #[.slice A (cutL recs).length c, .int .i64 (cutE recs)]) ∧ (cutL recs).length ≤ c ∧ ReadR w' A (cutL recs) ∧ Below w.heap.size w w'

theorem CutAll.bad {w w' : World} {recs : List (List Int)} {n : Int} (hb : Below w.heap.size w w') (hE : cutE recs = n) (hn : n ≠ 0) : CutAll w recs (.returned (.tuple #[.slice none 0 0, .int .i64 n])) w' := by
  have hL : cutL recs = [] := by simp [cutL, hE, hn]
  exact ⟨none, 0, by rw [hL, hE]; rfl, by rw [hL]; exact Nat.le_refl _, by rw [hL]; exact ReadR.nil _ _, hb⟩

set_option maxRecDepth 100000 in
set_option maxHeartbeats 4000000 in
theorem cut_any (A : Option Addr) (c : Nat) (recs : List (List Int)) (w : World) (hl : recs.length ≤ 1000000) (hR : ReadR w A recs) :
    Calls Try.prog 27 #[.slice A recs.length c] w (CutAll w recs) := by
  by_cases h256 : 256 < recs.length
  · have hE : cutE recs = 3 := by simp [cutE, h256]
    have HE := Lib.hid hE
    have h2 : (256 : Int) < (recs.length : Int) := by omega
    clear hE hR
    go_enter Try.func27, Try.ntmps27
    go_wp2_with fail
    go_ret2
    exact CutAll.bad ((Fr.refl (fun _ => False) w).alloc _).below0 HE.out (by omega)
  · have h2 : ¬ (256 : Int) < (recs.length : Int) := by omega
    have HR := Lib.hid hR
    clear hR
    go_enter Try.func27, Try.ntmps27
    go_upto_if 10 with (fail)
    obtain ⟨w1, he, hn1, hF1, hsz⟩ := alloc1 w (.cells #[.slice A recs.length c] 47)
    rw [he]
    have HF1 := Lib.hid hF1
    have HN1 := Lib.hid hn1
    have cr : w1.cell? ⟨w.heap.size, 0, none⟩ = some (.slice A recs.length c) := blk_cell hn1 0
    have HR1 : Hid (ReadR w1 A recs) := HR.out.below hF1.below0
    clear hF1 hn1 hsz he HR
    go_wp2_with fail
    go_loopw [4, 13] (fun u k wr => ∃ i : Nat, i ≤ recs.length ∧ k = .int .i64 i ∧ (∃ U uc, u = .slice U i uc) ∧ wr.ownsRow w1.heap.size 3 1 u i ((recs.take i).map (fun r => Value.int .i64 (r.length : Int))) ∧ Fr (fun k => w1.heap.size ≤ k) w1 wr ∧ Hid (∀ r ∈ recs.take i, r.length ≤ 8192)) (fun _ k _ => recs.length - (intOf k).toNat)
    case atStart => exact ⟨0, by omega, rfl, ⟨_, _, rfl⟩, ⟨by simp, .inl ⟨rfl, rfl⟩⟩, Fr.refl _ _, fun r hr => by simp at hr⟩
    case round =>
      obtain ⟨i, hi, rfl, ⟨U, uc, rfl⟩, ho, hF, hall⟩ := hrel
      by_cases hlt : i < recs.length
      · obtain ⟨x, hx⟩ : ∃ x, recs[i]? = some x := ⟨_, List.getElem?_eq_getElem hlt⟩
        obtain ⟨gq, oq, PA, pc, rfl, hq, hpb⟩ := HR1.out i x hx
        have hq2 := (Fr.of_below (hF.below (Nat.le_refl _) (fun _ h => h)) (fun _ => False)).cell0 hq
        have hii : (i : Int) < recs.length := by omega
        have HX := Lib.hid hx
        have HF := Lib.hid hF
        have HO := Lib.hid ho
        clear hx hF ho hq hpb
        by_cases h8 : 8192 < x.length
        · have hE : cutE recs = 2 := by
            have hna : recs.all (fun r => decide (r.length ≤ 8192)) ≠ true := by
              intro ha
              have := List.all_eq_true.1 ha x (List.mem_of_getElem? HX.out)
              simp at this
              omega
            simp only [cutE]
            rw [if_neg h256, if_neg hna]
          have HE := Lib.hid hE
          have h8i : (8192 : Int) < (x.length : Int) := by omega
          clear hE
          go_wp2_with fail
          go_ret2
          exact CutAll.bad ((HF1.out.trans' HF.out (S'' := fun k => w1.heap.size ≤ k) (fun _ _ h => h.elim) (fun _ _ h => h)).below (Nat.le_refl _) (fun k hk => Nat.le_trans HF1.out.size hk)) HE.out (by omega)
        · have h8i : ¬ (8192 : Int) < (x.length : Int) := by omega
          have HA1 : Hid (Fr (fun _ => False) wr (wr.alloc (.cells #[.int .i64 (x.length : Int)] 3))) := (Fr.refl (fun _ => False) wr).alloc _
          have hbw : w1.heap.size ≤ wr.heap.size := HF.out.size
          go_wp2_with (at_builtin; refine wpl_app rfl (.tmp 20) (.tmp 23) 60 rfl w1.heap.size 3 _ 1 8 Try.underlying60 Try.info3 rfl (by decide) (.slice U i uc) i ((recs.take i).map (fun r => Value.int .i64 (r.length : Int))) rfl (HA1.out.own0 HO.out) ⟨wr.heap.size, 0, none⟩ 1 1 [.int .i64 (x.length : Int)] rfl rfl (news_of (blk_new _ _)) (by simp [Value.oneCell']) (by simp [maxLen]; omega) (by omega) (Nat.le_trans hbw HA1.out.size) ?_; intro v2 w2 ho2 hg2 hm2; obtain ⟨A2, c2, rfl⟩ := own_slice ho2)
          have F2 : Fr (fun k => w1.heap.size ≤ k) w1 w2 := HF.out.trans' ((HA1.out.none (S := fun k => some k = (Value.slice U i uc).ownBlock)).grown hg2 (fun k hk => .inr hk.symm)) (fun _ _ h => h) (fun k _ hk => (HO.out.lt k hk.symm).1)
          have e1 : recs.take (i + 1) = recs.take i ++ [x] := by
            have hj := List.getElem?_eq_some_iff.1 HX.out
            rw [List.take_add_one, HX.out]
            rfl
          refine ⟨⟨i + 1, by omega, by go_num, ⟨_, _, rfl⟩, ?_, F2, ?_⟩, by simp [intOf]; omega⟩
          · rw [e1, List.map_append]; exact ho2
          · rw [e1]
            intro r hr
            rcases List.mem_append.1 hr with hr | hr
            · exact hall.out r hr
            · obtain rfl := List.mem_singleton.1 hr
              omega
      · have hie : i = recs.length := by omega
        subst hie
        rw [List.take_length] at hall ho
        have hE : cutE recs = 0 := by
          have ha : recs.all (fun r => decide (r.length ≤ 8192)) = true := by
            rw [List.all_eq_true]
            intro r hr
            simpa using hall.out r hr
          simp only [cutE]
          rw [if_neg h256, if_pos ha]
        have hL : cutL recs = outOf recs (plan 0 (recs.map List.length) 0) := by simp [cutL, hE]
        have HE := Lib.hid hE
        have HL := Lib.hid hL
        clear hE hL
        go_upto_region 12 with (fail)
        obtain ⟨w2, he2, hn2, hF2, hsz2⟩ := alloc1 wr (.cells #[.slice none 0 0] 47)
        rw [he2]
        have hb1 : Below w1.heap.size w1 wr := hF.below (Nat.le_refl _) (fun _ h => h)
        have hRz := (HR1.out.below hb1)
        have hgr : wr.heap[w.heap.size]? = some (.cells #[.slice A recs.length c] 47) := (Fr.of_below hb1 (fun _ => False)).blk0 HN1.out
        have hgne : wr.heap.size ≠ w.heap.size := by have := blk_lt hgr; omega
        have T := cut_tells (B := wr.heap.size) (wz := wr) (g := wr.heap.size) (gr := w.heap.size) (RA := A) (rc := c) (recs := recs) rfl hRz (Nat.le_refl _) hgne (by omega) hall.out
        have hO2 : OutAt wr.heap.size w2 wr.heap.size [] := ⟨_, [], hn2, ⟨by simp, .inl ⟨rfl, rfl⟩⟩, ⟨rfl, fun i x u hx => by simp at hx⟩, fun i j u u' k _ h => by simp at h⟩
        have hsl := hF2.own0 ho
        have hw := walk_any (F := 55) (cap := #[.pointer (some ⟨wr.heap.size, 0, none⟩), .pointer (some ⟨w.heap.size, 0, none⟩)]) (sizes := recs.map List.length) T U uc w2 ⟨hO2, hF2.blk0 hgr, hF2.below0⟩ (by
            have := plan_len2 0 (recs.map List.length) 0 (fun s hs' => by obtain ⟨r, hr, rfl⟩ := List.mem_map.1 hs'; exact hall.out r hr)
            rw [List.length_map] at this
            omega) (by rw [List.length_map]; omega) (fun s hs' => by obtain ⟨r, hr, rfl⟩ := List.mem_map.1 hs'; have := hall.out r hr; omega) (by
            rintro done w3 ⟨_, _, hb3⟩ i s his
            rw [List.getElem?_map] at his
            obtain ⟨r, hr, rfl⟩ := Option.map_eq_some_iff.1 his
            have hil := (List.getElem?_eq_some_iff.1 hr).1
            have hn := own_news ho
            rcases ho.2 with ⟨hv, h0⟩ | ⟨gs, cs, cur, hv, _⟩
            · rw [h0] at hil; omega
            · simp only [Value.slice.injEq, true_and] at hv
              obtain ⟨rfl, rfl⟩ := hv
              have hcell := hn.1 _ rfl i (.int .i64 (r.length : Int)) (by rw [List.getElem?_map, hr]; rfl)
              rw [add_plain] at hcell
              refine ⟨gs, 0, rfl, ?_⟩
              rw [Nat.zero_add]
              exact (Fr.of_below hb3 (fun _ => False)).cell0 hcell)
        rw [List.length_map] at hw
        have HW := Lib.hid hw
        have HT := Lib.hid T
        have HB1 := Lib.hid hb1
        generalize hgg : wr.heap.size = g at HW HT hn2 ⊢
        clear hw T hb1 hO2 hsl hgne hRz ho hF hn2 he2 hF2
        go_wp2_with fail
        refine HW.out.mono ?_
        rintro e w3 ⟨rfl, hO3, _, hb3⟩
        obtain ⟨v3, vs3, hO3⟩ := hO3
        obtain ⟨A3, c3, rfl, hc3, hR3⟩ := hO3.read
        have cg : w3.cell? ⟨g, 0, none⟩ = some (.slice A3 (outOf recs (plan 0 (recs.map List.length) 0)).length c3) := blk_cell hO3.cell 0
        clear hO3 hgr
        go_wp2
        go_ret2
        refine ⟨A3, c3, by rw [HL.out, HE.out]; rfl, by rw [HL.out]; exact hc3, by rw [HL.out]; exact hR3, ?_⟩
        have h1 : Below w.heap.size w w1 := HF1.out.below0
        exact h1.trans ((HB1.out.mono HF1.out.size).trans (hb3.mono (by rw [← hgg]; exact Nat.le_trans HF1.out.size HB1.out.size)))

end Go.Proofs.Ytedmhhllkkgbjaa
