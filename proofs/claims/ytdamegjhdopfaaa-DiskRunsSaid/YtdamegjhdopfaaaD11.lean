/- A disk: Loose's walk. -/
import Derived.Test.YtdamegjhdopfaaaD10
namespace Go.Proofs.Ytdamegjhdopfaaa
open Go.RowKit Go.WideShapes
set_option linter.unusedSimpArgs false
set_option linter.unusedVariables false

theorem lo_info : (Try.prog.info? 48).map (fun i => (i.zero, i.size, i.bytes)) = some (some (.agg #[.int .i64 0, .int .i64 0]), 2, 16) := by kernel_rfl
def LoInv (w0 : World) (bm r km : Nat) (Dm : DataW Hd) (l : List Lo) (B : Nat) (u : Value) (wr : World) : Prop :=
  ∃ (left : Lit → Bool) (cnt : Nat) (acc : List Lo) (U : Option Addr) (uc : Nat), u = .slice U acc.length uc ∧ Hid (wr.ranges Try.prog 3 hdR bm r km Dm left cnt) ∧ Hid (wr.ownsRow B 48 2 u acc.length (acc.flatMap Lo.cells)) ∧ Hid ((acc.map (·.s)).Nodup) ∧ Hid (∀ m ∈ acc, m ∈ l) ∧
    Hid (∀ m ∈ l, left (.int .i64 (m.s.val : Int)) = true ∨ m ∈ acc) ∧ Hid (∀ kl, left kl = true → Maps.has Dm kl = true) ∧ Hid (∀ m ∈ acc, left (.int .i64 (m.s.val : Int)) = false) ∧ Hid (Fr (fun _ => False) w0 wr) ∧ acc.length ≤ l.length

set_option maxRecDepth 100000 in
set_option maxHeartbeats 4000000 in
theorem loose_any {w : World} {g : Nat} {T : Nat → Prop} {d : Dk} (h : DkAt w g T d) : Calls Try.prog 27 #[.pointer (some ⟨g, 0, none⟩)] w (LoosePost w (losOf d)) := by
  have HAT := Lib.hid h
  obtain ⟨FA, fc, bm, km, Dm, hd, h1, h2, h3⟩ := h
  have HH := Lib.hid h1
  have d1 : w.cell? ⟨g, 1, none⟩ = some (.map (some bm)) := blk_cell h1.box 1
  have hG := blk_lt h1.box
  have hkeys : ∀ m ∈ losOf d, Maps.has Dm (.int .i64 (m.s.val : Int)) = true ∧ (hd (m.s.val : Int)).n = m.many := fun m hm => by
    obtain ⟨q1, q2⟩ := (mem_los d m).1 hm
    have q3 := h1.num (m.s.val : Int)
    exact ⟨by rw [h1.heads.has, q3]; simp [q1], by rw [q3, q2]⟩
  have hmem : ∀ kl, Maps.has Dm kl = true → ∃ m ∈ losOf d, kl = .int .i64 (m.s.val : Int) ∧ ∀ z, Dm.atKey kl z = .held (hd (m.s.val : Int)) := fun kl hk => by
    obtain ⟨s, rfl⟩ := h1.heads.keys kl hk
    have q0 := hk
    rw [h1.heads.has] at q0
    have q1 : 0 < (hd s).n := by simpa using q0
    have q2 := h1.num s
    have q3 : d.L s ≠ [] := fun e => by rw [e] at q2; simp at q2; omega
    obtain ⟨q4, q5⟩ := h1.within s q3
    have hfew := h1.few
    have q6 : s.toNat < 4096 := by omega
    have q7 : ((s.toNat : Nat) : Int) = s := by omega
    refine ⟨⟨⟨s.toNat, q6⟩, (d.L s).length⟩, (mem_los d _).2 ?_, ?_, fun z => ?_⟩
    · show 0 < (d.L ((s.toNat : Nat) : Int)).length ∧ (d.L s).length = (d.L ((s.toNat : Nat) : Int)).length
      rw [q7]
      exact ⟨by omega, rfl⟩
    · show _ = Lit.int .i64 ((s.toNat : Nat) : Int)
      rw [q7]
    · show Dm.atKey _ z = .held (hd ((s.toNat : Nat) : Int))
      rw [q7]
      exact h1.heads.val s q1 z
  obtain ⟨l, hl⟩ : ∃ l, l = losOf d := ⟨_, rfl⟩
  have HND0 : Hid ((l.map (·.s)).Nodup) := (by rw [hl]; exact los_nodup d : (l.map (·.s)).Nodup)
  have HLL : Hid (l.length ≤ 4096) := (by rw [hl]; exact los_len d : l.length ≤ 4096)
  have HSAME : Hid (∀ ms : List Lo, ms.Perm l → ms.Pairwise (fun x y => ¬ y.s.val < x.s.val) → ms = l) := (by rw [hl]; exact fun ms => los_same d : ∀ ms : List Lo, ms.Perm l → ms.Pairwise (fun x y => ¬ y.s.val < x.s.val) → ms = l)
  rw [← hl] at hkeys hmem ⊢
  have HK := Lib.hid hkeys
  have HM := Lib.hid hmem
  have hll : l.length ≤ 4096 := HLL.out
  clear h1 h2 h3 hkeys hmem hl
  obtain ⟨r, hr⟩ : ∃ r, r = w.heap.size := ⟨_, rfl⟩
  have HR := Lib.hid hr
  go_enter Try.func27, Try.ntmps27
  go_wp2_with fail
  refine (made_any HAT.out).mono ?_
  rintro e w' ⟨rfl, rfl⟩
  go_wp2_with (at_range; refine wpList_range_own _ rfl (.tmp 12) 72 rfl 3 71 Try.intKeyed Try.underlying72 hdR bm km Dm rfl HH.out.map ?_; intro w1 hrg hgr hsz; have HRG := Lib.hid hrg; have HF1 : Hid (Fr (fun _ => False) w' w1) := (Fr.refl _ w').grown hgr (fun k hk => (by cases hk)); clear hrg hgr hsz)
  rw [← hr] at HRG ⊢
  clear hr
  go_frame
  go_loopw [3] (fun u wr => LoInv w' bm r km Dm l w'.heap.size u wr) (fun _ wr => wr.rangeLeft bm r)
  case atStart => exact ⟨Maps.has Dm, _, [], none, 0, rfl, HRG, ⟨by simp, .inl ⟨rfl, rfl⟩⟩, by simp [Hid], fun m hm => by simp at hm, fun m hm => .inl (HK.out m hm).1, fun kl h => h, fun m hm => by simp at hm, HF1, by simp⟩
  case round =>
    clear HRG HF1
    obtain ⟨left, cnt, acc, U, uc, rfl, HRG, HO, HND, HSUB, HALL, HLEFT, HACC, HF, hal⟩ := hrel
    go_wp2_with (first
      | (at_next; refine wpList_next_ranges _ rfl (.tmp 13) rfl 3 Try.intKeyed hdR (fun x : Int => Value.int .i64 x) (fun h : Hd => .slice h.a h.n h.c) (fun key kl hk => by obtain ⟨x, hx, _⟩ := Maps.keyOf_int_inv Try.underlying3 hk; exact ⟨x, hx⟩) (fun v y hv => by obtain ⟨m, hm, _⟩ := hdR_inv hv; exact ⟨m, hm⟩) bm r km Dm left cnt rfl HRG.out ?_ ?_)
      | fail)
    · intro hc0 hl0
      have hperm : List.Perm acc l := by
        refine (List.perm_ext_iff_of_nodup (nodup_map HND.out) (nodup_map HND0.out)).2 (fun m => ⟨HSUB.out m, fun hm => ?_⟩)
        rcases HALL.out m hm with h | h
        · rw [hl0] at h; cases h
        · exact h
      have HP := Lib.hid hperm
      clear hc0 hl0 hperm
      have hsz : acc.length < 4611686018427387904 := by omega
      rcases List.eq_nil_or_concat acc with h0 | ⟨a1, a2, h0⟩
      · have HSO := Lib.hid (sort_none U uc wr)
        have hlen : acc.length = 0 := by rw [h0]; rfl
        rw [hlen]
        have H0 := Lib.hid h0
        clear hlen h0
        go_wp2_with fail
        refine HSO.out.mono ?_
        rintro e w3 ⟨rfl, rfl⟩
        go_wp2
        go_ret
        have hlz : acc = [] := H0.out
        have hl0 : l = [] := by have := HP.out; rw [hlz] at this; exact List.nil_perm.1 this
        have ho := HO.out
        rw [hlz] at ho
        rw [hl0]
        exact ⟨_, rfl, ho, HF.out⟩
      · have hpos : 0 < acc.length := by rw [h0]; simp
        obtain ⟨g2, hU⟩ := own_some HO.out hpos
        subst hU
        obtain ⟨hH, hg2, hB2⟩ := holds_own HO.out
        have hs' : Calls Try.prog 61 #[.slice (some ⟨g2, 0, none⟩) acc.length uc, .func (.func 62) #[] #[]] wr (SortPost wr g2 acc.toArray) := sort_los g2 uc acc.toArray wr hH hg2 hsz
        have HSO := Lib.hid hs'
        have HB2 := Lib.hid hB2
        clear hs' hH hg2 hB2 h0
        go_wp2_with fail
        refine HSO.out.mono ?_
        rintro e w3 ⟨rfl, d', hp, hso, hH', hF', hbk⟩
        have HSP := Lib.hid (And.intro hp (And.intro hso (And.intro hH' (And.intro hF' hbk))))
        clear hp hso hH' hF' hbk
        go_wp2
        go_ret
        obtain ⟨hp, hso, hH', hF', hbk⟩ := HSP.out
        have hds : d'.size = acc.length := hp.length_eq
        have heq : d'.toList = l := by
          refine HSAME.out _ (hp.trans HP.out) ?_
          rw [List.pairwise_iff_getElem]
          intro i j hi hj hij
          have := hso i j hij (by simp at hj; show j < acc.length; omega)
          simp at hi hj
          rw [getElem!_pos d' j hj, getElem!_pos d' i hi] at this
          simpa using this
        have ho := sorted_own HO.out hds hH' hbk
        rw [heq] at ho
        exact ⟨_, rfl, ho, HF.out.trans' hF' (fun _ _ h => h) (fun k hk e => by have h1 : w'.heap.size ≤ g2 := HB2.out; omega)⟩
    · intro x c kl a pl w2 cnt2 hkey hlk hR hat hrg2 hlt hgr2 hsz2 hen
      have ha : a = .held c := by
        have := hR
        rw [show (Value.slice c.a c.n c.c) = c.v from rfl, hdR_mk] at this
        exact (congrArg Prod.fst (Option.some.inj this)).symm
      subst ha
      obtain ⟨m, hm, hkl, hmat⟩ := HM.out kl (HLEFT.out kl hlk)
      have hcm : c = hd (m.s.val : Int) := by
        have e1 := hat .nil
        rw [hmat .nil] at e1
        exact (DataW.held.inj e1).symm
      have hcn : c.n = m.many := by rw [hcm]; exact (HK.out m hm).2
      have hx : x = (m.s.val : Int) := by
        have e1 : keyOf Try.prog 3 (.int .i64 x) = some (.int .i64 (m.s.val : Int)) := by rw [← hkl]; exact hkey
        obtain ⟨y, e2, e3, _⟩ := Maps.keyOf_int_inv Try.underlying3 e1
        have e4 : x = y := by simpa using e2
        have e5 : (m.s.val : Int) = y := by simpa using e3
        rw [e4, e5]
      subst hkl
      obtain ⟨ca, cn, cc⟩ := c
      simp only at hcn
      subst hx hcn
      have hna : ∀ x ∈ acc, x.s ≠ m.s := fun x hx e => by
        have h1 := HACC.out x hx
        rw [e, hlk] at h1
        cases h1
      have hlt2 : acc.length < l.length := by
        have hnd : (acc ++ [m]).Nodup := by
          rw [List.nodup_append]
          exact ⟨nodup_map HND.out, by simp, fun a ha b hb e => by obtain rfl := List.mem_singleton.1 hb; subst e; exact hna a ha rfl⟩
        have := nodup_len hnd (l2 := l) (fun x hx => by
          rcases List.mem_append.1 hx with hx | hx
          · exact HSUB.out x hx
          · obtain rfl := List.mem_singleton.1 hx; exact hm)
        simp at this
        omega
      have hF2 : Fr (fun k => k = r) wr w2 := (Fr.refl _ wr).grown hgr2 (fun k hk => .inr (Option.some.inj hk).symm)
      obtain ⟨⟨o1, ho1, hc1⟩, ⟨o2, ho2, hc2⟩⟩ := ranges_iter HRG.out
      have hO2 : w2.ownsRow w'.heap.size 48 2 (.slice U acc.length uc) acc.length (acc.flatMap Lo.cells) := hF2.own HO.out (own_iter HO.out ho1 hc1)
      have HO2 : Hid ((w2.alloc (.cells #[.int .i64 (m.s.val : Int), .int .i64 m.many] 48)).ownsRow w'.heap.size 48 2 (.slice U acc.length uc) acc.length (acc.flatMap Lo.cells)) := ((Fr.refl (fun _ => False) w2).alloc _).own0 hO2
      have HRG2 : Hid ((w2.alloc (.cells #[.int .i64 (m.s.val : Int), .int .i64 m.many] 48)).ranges Try.prog 3 hdR bm r km Dm (fun z => left z && !z.sameKey (.int .i64 (m.s.val : Int))) cnt2) := hrg2.alloc _
      have HF2 : Hid (Fr (fun k => k = r) wr (w2.alloc (.cells #[.int .i64 (m.s.val : Int), .int .i64 m.many] 48))) := hF2.alloc _
      have HBw : Hid (w'.heap.size ≤ (w2.alloc (.cells #[.int .i64 (m.s.val : Int), .int .i64 m.many] 48)).heap.size) := Nat.le_trans HF.out.size HF2.out.size
      have HCM := Lib.hid hm
      have HNA := Lib.hid hna
      have HLK := Lib.hid hlk
      clear hm hna hlk hO2 hF2 hrg2 hgr2 hsz2 hR hat hkey ho1 hc1 ho2 hc2 o1 o2 hmat hcm
      go_wp2_with (at_builtin; refine wpl_app rfl (.tmp 19) (.tmp 24) 39 rfl w'.heap.size 48 _ 2 16 Try.underlying39 lo_info rfl (by decide) (.slice U acc.length uc) acc.length (acc.flatMap Lo.cells) rfl HO2.out ⟨w2.heap.size, 0, none⟩ 1 1 [.int .i64 (m.s.val : Int), .int .i64 m.many] rfl rfl (news_of (blk_new _ _)) (by simp [Value.oneCell']) (by simp [maxLen]; omega) (by omega) HBw.out ?_; intro v3 w3 ho3 hg3 hm3; obtain ⟨A3, c3, rfl⟩ := own_slice ho3)
      obtain ⟨⟨o1, ho1, hc1⟩, ⟨o2, ho2, hc2⟩⟩ := ranges_iter HRG2.out
      have hrg3 := HRG2.out.kept hg3 (fun e => own_iter HO2.out ho2 hc2 _ e.symm rfl) (fun e => own_iter HO2.out ho1 hc1 _ e.symm rfl)
      refine ⟨⟨_, cnt2, acc ++ [m], A3, c3, by rw [List.length_append]; rfl, hrg3, ?_, ?_, ?_, ?_, ?_, ?_, ?_, by rw [List.length_append]; exact hlt2⟩, ?_⟩
      · show w3.ownsRow _ _ _ _ _ _
        rw [List.length_append, List.flatMap_append]
        simpa [Lo.cells] using ho3
      · show List.Nodup _
        rw [List.map_append, List.nodup_append]
        refine ⟨HND.out, by simp, fun a ha b hb e => ?_⟩
        obtain ⟨x, hx, rfl⟩ := List.mem_map.1 ha
        simp at hb
        exact HNA.out x hx (e.trans hb)
      · intro x hx
        rcases List.mem_append.1 hx with hx | hx
        · exact HSUB.out x hx
        · obtain rfl := List.mem_singleton.1 hx; exact HCM.out
      · intro x hx
        by_cases he : x.s = m.s
        · right
          have e1 := (HK.out x hx).2
          have e2 := (HK.out m HCM.out).2
          have e3 : x = m := by
            obtain ⟨xs, xm⟩ := x
            obtain ⟨ms, mm⟩ := m
            simp only at he e1 e2
            subst he
            rw [← e1, ← e2]
          rw [e3]
          simp
        · rcases HALL.out x hx with h | h
          · left
            show (left _ && !Lit.sameKey _ _) = true
            rw [h, same_ne (fun e => he (Fin.ext (by omega)))]
            rfl
          · exact .inr (List.mem_append_left _ h)
      · intro kl hkl
        have : left kl = true := by
          have h1 : (left kl && !kl.sameKey (.int .i64 (m.s.val : Int))) = true := hkl
          simp at h1
          exact h1.1
        exact HLEFT.out kl this
      · intro x hx
        show (left _ && !Lit.sameKey _ _) = false
        rcases List.mem_append.1 hx with hx | hx
        · rw [HACC.out x hx]; rfl
        · obtain rfl := List.mem_singleton.1 hx
          rw [same_self]
          simp
      · refine HF.out.trans' (HF2.out.trans' ((Fr.refl (fun k => some k = (Value.slice U acc.length uc).ownBlock) _).grown hg3 (fun k hk => .inr hk.symm)) (S'' := fun k => w'.heap.size ≤ k) (fun k _ hk => ?_) (fun k _ hk => (HO2.out.lt k hk.symm).1)) (fun _ _ h => h) (fun k hk e => ?_)
        · have h1 : r = w'.heap.size := HR.out
          show _ ≤ k
          omega
        · have e' : w'.heap.size ≤ k := e
          omega
      · show w3.rangeLeft bm r < wr.rangeLeft bm r
        rw [hrg3.left_eq, HRG.out.left_eq]
        exact hlt
end Go.Proofs.Ytdamegjhdopfaaa
