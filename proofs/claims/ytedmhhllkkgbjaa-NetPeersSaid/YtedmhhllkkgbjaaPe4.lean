/- net.Peer.Got. -/
import Derived.Test.YtedmhhllkkgbjaaPe3
namespace Go.Proofs.Ytedmhhllkkgbjaa
open Go.RowKit Go.WideShapes
set_option linter.unusedSimpArgs false
set_option linter.unusedVariables false

theorem Try.info71 : (Try.prog.info? 71).map (fun i => (i.zero, i.size, i.bytes)) = some (some (.agg #[.int .i64 0, .int .i64 0, .int .i64 0, .string ByteArray.empty, .int .i64 0]), 5, 48) := by kernel_rfl

/-- which messages a map has -/
structure MapIs (D : DataW Msg) (l : List Msg) : Prop where
  nodup : (l.map (·.seq)).Nodup
  map : Maps.IsMap D
  has : ∀ m ∈ l, Maps.has D (.int .i64 m.seq) = true ∧ ∀ z, D.atKey (.int .i64 m.seq) z = .held m
  only : ∀ kl, Maps.has D kl = true → ∃ m ∈ l, kl = .int .i64 m.seq
theorem MapIs.nil : MapIs (.map []) [] := ⟨by simp, Maps.isMap_empty, fun m h => by simp at h, fun kl h => by cases h⟩
theorem MapIs.has_eq {D : DataW Msg} {l : List Msg} (h : MapIs D l) (s : Int) : Maps.has D (.int .i64 s) = l.any (fun m => m.seq == s) := by
  cases hc : l.any (fun m => m.seq == s) with
  | true =>
    obtain ⟨m, hm, hs⟩ := List.any_eq_true.1 hc
    have := (h.has m hm).1
    rw [show m.seq = s from by simpa using hs] at this
    exact this
  | false =>
    cases hd : Maps.has D (.int .i64 s) with
    | false => rfl
    | true =>
      obtain ⟨m, hm, he⟩ := h.only _ hd
      have h2 := List.any_eq_false.1 hc m hm
      simp at he
      simp [he] at h2
theorem MapIs.put {D : DataW Msg} {l : List Msg} (h : MapIs D l) (m : Msg) (hn : l.any (fun x => x.seq == m.seq) = false) : MapIs (D.put (.int .i64 m.seq) (.held m)) (l ++ [m]) := by
  have hne : ∀ x ∈ l, x.seq ≠ m.seq := fun x hx e => by have := List.any_eq_false.1 hn x hx; simp [e] at this
  have hk : WideAt.IsKeyLit (.int .i64 m.seq) := by simp [WideAt.IsKeyLit]
  refine ⟨?_, h.map.put _ _, fun x hx => ?_, fun kl hkl => ?_⟩
  · rw [List.map_append, List.nodup_append]
    refine ⟨h.nodup, by simp, fun a ha b hb e => ?_⟩
    obtain ⟨x, hx, rfl⟩ := List.mem_map.1 ha
    simp at hb
    exact hne x hx (e.trans hb)
  · rcases List.mem_append.1 hx with hx | hx
    · have hx2 : (Lit.int .i64 x.seq) ≠ .int .i64 m.seq := fun e => hne x hx (by simpa using e)
      obtain ⟨h1, h2⟩ := h.has x hx
      exact ⟨by rw [Maps.has_put_other hx2]; exact h1, fun z => by rw [Maps.atKey_put_other hx2]; exact h2 z⟩
    · obtain rfl := List.mem_singleton.1 hx
      exact ⟨Maps.has_put_same h.map hk _, fun z => Maps.atKey_put_same h.map hk _ _⟩
  · by_cases he : kl = .int .i64 m.seq
    · exact ⟨m, by simp, he⟩
    · rw [Maps.has_put_other he] at hkl
      obtain ⟨x, hx, e⟩ := h.only kl hkl
      exact ⟨x, List.mem_append_left _ hx, e⟩

/-- messages that are read -/
def ReadM (w : World) (A : Option Addr) (ms : List Msg) : Prop :=
  ∀ (i : Nat) (m : Msg), ms[i]? = some m → ∃ g o, A = some ⟨g, o, none⟩ ∧ ∀ (j : Nat) (u : Value), m.cells[j]? = some u → w.cell? ⟨g, o + i * 5 + j, none⟩ = some u
theorem ReadM.fr {w w' : World} {A : Option Addr} {ms : List Msg} (h : ReadM w A ms) {S : Nat → Prop} (hF : Fr S w w') (hS : ∀ g o, A = some ⟨g, o, none⟩ → ¬ S g) : ReadM w' A ms := by
  intro i m hm
  obtain ⟨g, o, e, hc⟩ := h i m hm
  exact ⟨g, o, e, fun j u hu => hF.cell (hc j u hu) (hS g o e)⟩
theorem mcells_len (l : List Msg) : (l.flatMap Msg.cells).length = l.length * 5 := flat_length (f := Msg.cells) (s := 5) (fun _ => rfl) l
theorem readM_own {w : World} {B n : Nat} {A : Option Addr} {c : Nat} {ms : List Msg} (h : w.ownsRow B 71 5 (.slice A n c) ms.length (ms.flatMap Msg.cells)) : ReadM w A ms := by
  intro i m hm
  have hi := (List.getElem?_eq_some_iff.1 hm).1
  rcases h.2 with ⟨_, h0⟩ | ⟨g2, c2, cur, hv, _⟩
  · omega
  · simp only [Value.slice.injEq] at hv
    obtain ⟨rfl, rfl, rfl⟩ := hv
    refine ⟨g2, 0, rfl, fun j u hu => ?_⟩
    have hj : j < 5 := (List.getElem?_eq_some_iff.1 hu).1
    have := (own_news h).1 _ rfl (i * 5 + j) u (flat_at (f := Msg.cells) (s := 5) (fun _ => rfl) ms i j m u hm hu)
    rwa [add_some, ← Nat.add_assoc] at this

theorem own_iter {w : World} {B n r : Nat} {e : TypeId} {size : Nat} {v : Value} {xs : List Value} {o : Obj} (h : w.ownsRow B e size v n xs) (hr : w.heap[r]? = some o) (ho : ∀ cs t f, o ≠ .cells cs t f) : ∀ k, v.ownBlock = some k → k ≠ r := by
  intro k hk e
  subst e
  rcases h.2 with ⟨rfl, _⟩ | ⟨g, cap, cur, rfl, _, hh, _⟩
  · cases hk
  · obtain rfl : g = k := by simpa [Value.ownBlock] using hk
    exact ho _ _ _ (Option.some.inj (hr.symm.trans hh))
theorem ranges_iter {w : World} {b r n : Nat} {D : DataW Msg} {left : Lit → Bool} {cnt : Nat} (h : w.ranges Try.prog 3 msgR b r n D left cnt) : (∃ o, w.heap[r]? = some o ∧ ∀ cs t f, o ≠ .cells cs t f) ∧ (∃ o, w.heap[b]? = some o ∧ ∀ cs t f, o ≠ .cells cs t f) := by
  obtain ⟨es, clock, since, seen, c0, hb, _, _, _, hr, _⟩ := h
  exact ⟨⟨_, hr, fun _ _ _ e => by cases e⟩, ⟨_, hb, fun _ _ _ e => by cases e⟩⟩
theorem same_self (a : Int) : (Lit.int .i64 a).sameKey (.int .i64 a) = true := by simp [Lit.sameKey]
theorem same_ne {a b : Int} (h : a ≠ b) : (Lit.int .i64 a).sameKey (.int .i64 b) = false := Maps.sameKey_ne (fun e => h (by simpa using e))
theorem holds_own {w : World} {B n g c : Nat} {l : List Msg} (h : w.ownsRow B 71 5 (.slice (some ⟨g, 0, none⟩) n c) l.length (l.flatMap Msg.cells)) : Go.Sort.HoldsK Msg.cells 5 w g 0 l.toArray ∧ g < w.heap.size ∧ B ≤ g := by
  rcases h.2 with ⟨hv, _⟩ | ⟨g2, c2, cur, hv, hB, hh, _⟩
  · cases hv
  · simp only [Value.slice.injEq, Option.some.injEq, Addr.mk.injEq, and_true, true_and] at hv
    obtain ⟨rfl, rfl, rfl⟩ := hv
    refine ⟨fun j hj => ?_, blk_lt hh, hB⟩
    rw [Go.Sort.size_flatK] at hj
    have hj' : j < l.length * 5 := hj
    have hjd : j / 5 < l.length := by omega
    have hjm : j % 5 < 5 := Nat.mod_lt _ (by omega)
    refine ⟨?_, blk_frozen hh _⟩
    rw [Go.Sort.get_flatK _ _ _ _ hj]
    obtain ⟨m, hm⟩ : ∃ m, l[j / 5]? = some m := ⟨_, List.getElem?_eq_getElem hjd⟩
    have e1 : (l.toArray[j / 5]!) = m := by
      rw [getElem!_def, List.getElem?_toArray, hm]
    rw [e1]
    have hu : m.cells[j % 5]? = some (m.cells[j % 5]!) := by
      rw [getElem!_def]
      cases hc : m.cells[j % 5]? with
      | none => have := List.getElem?_eq_none_iff.1 hc; simp [Msg.cells] at this; omega
      | some u => rfl
    have := (own_news h).1 _ rfl (j / 5 * 5 + j % 5) _ (flat_at (f := Msg.cells) (s := 5) (fun _ => rfl) l (j / 5) (j % 5) m _ hm hu)
    rw [add_some, Nat.zero_add, show j / 5 * 5 + j % 5 = j from by omega] at this
    rw [Nat.zero_add]
    exact this

theorem nodup_len {α : Type} : ∀ {l1 l2 : List α}, l1.Nodup → (∀ x ∈ l1, x ∈ l2) → l1.length ≤ l2.length
  | [], _, _, _ => Nat.zero_le _
  | a :: r, l2, hn, hs => by
    obtain ⟨h1, h2⟩ := List.nodup_cons.1 hn
    obtain ⟨s, t, rfl⟩ := List.append_of_mem (hs a List.mem_cons_self)
    have := nodup_len (l1 := r) (l2 := s ++ t) h2 (fun x hx => by
      have h3 := hs x (List.mem_cons_of_mem _ hx)
      rcases List.mem_append.1 h3 with h | h
      · exact List.mem_append_left _ h
      · rcases List.mem_cons.1 h with rfl | h
        · exact absurd hx h1
        · exact List.mem_append_right _ h)
    simp only [List.length_append, List.length_cons] at this ⊢
    omega
theorem nodup_map {α β : Type} {f : α → β} {l : List α} (h : (l.map f).Nodup) : l.Nodup := (List.pairwise_map.1 h).imp (fun h e => h (congrArg f e))

def GotPost (w : World) (l : List Msg) (e : Ending) (w' : World) : Prop :=
  ∃ A c ms, e = .returned (.slice A ms.length c) ∧ List.Perm ms l ∧ ms.Pairwise (fun x y => ¬ y.seq < x.seq) ∧ ReadM w' A ms ∧ Fr (fun _ => False) w w' ∧ (∀ g o, A = some ⟨g, o, none⟩ → w.heap.size ≤ g)

def GotInv (w0 : World) (bg r kg : Nat) (Dg : DataW Msg) (l : List Msg) (B : Nat) (u : Value) (wr : World) : Prop :=
  ∃ (left : Lit → Bool) (cnt : Nat) (acc : List Msg) (U : Option Addr) (uc : Nat), u = .slice U acc.length uc ∧ Hid (wr.ranges Try.prog 3 msgR bg r kg Dg left cnt) ∧ Hid (wr.ownsRow B 71 5 u acc.length (acc.flatMap Msg.cells)) ∧ Hid ((acc.map (·.seq)).Nodup) ∧ Hid (∀ m ∈ acc, m ∈ l) ∧
    Hid (∀ m ∈ l, left (.int .i64 m.seq) = true ∨ m ∈ acc) ∧ Hid (∀ kl, left kl = true → Maps.has Dg kl = true) ∧ Hid (∀ m ∈ acc, left (.int .i64 m.seq) = false) ∧ Hid (Fr (fun _ => False) w0 wr) ∧ acc.length ≤ l.length

set_option maxRecDepth 100000 in
set_option maxHeartbeats 4000000 in
theorem got_any {w : World} {g : Nat} {n : Int} {S : Value} {bw bg kw kg : Nat} {Dw Dg : DataW Msg} {l : List Msg} (h : PeerAt w g n S bw bg kw kg Dw Dg) (hn : n ≠ 0) (hl : MapIs Dg l) (hll : l.length ≤ 1000000) :
    Calls Try.prog 39 #[.pointer (some ⟨g, 0, none⟩)] w (GotPost w l) := by
  have HH := Lib.hid h
  have HL := Lib.hid hl
  have d3 : w.cell? ⟨g, 3, none⟩ = some (.map (some bg)) := blk_cell h.box 3
  have hG := blk_lt h.box
  clear h hl
  obtain ⟨r, hr⟩ : ∃ r, r = w.heap.size := ⟨_, rfl⟩
  have HR := Lib.hid hr
  go_enter Try.func39, Try.ntmps39
  go_wp2_with fail
  refine (peer_some HH.out.box hn).mono ?_
  rintro e w' ⟨rfl, rfl⟩
  go_wp2_with (at_range; refine wpList_range_own _ rfl (.tmp 11) 101 rfl 3 71 Try.intKeyed Try.underlying101 msgR bg kg Dg rfl HH.out.got ?_; intro w1 hrg hgr hsz; have HRG := Lib.hid hrg; have HF1 : Hid (Fr (fun _ => False) w' w1) := (Fr.refl _ w').grown hgr (fun k hk => (by cases hk)); clear hrg hgr hsz)
  rw [← hr] at HRG ⊢
  clear hr
  go_frame
  go_loopw [3] (fun u wr => GotInv w' bg r kg Dg l w'.heap.size u wr) (fun _ wr => wr.rangeLeft bg r)
  case atStart => exact ⟨Maps.has Dg, _, [], none, 0, rfl, HRG, ⟨by simp, .inl ⟨rfl, rfl⟩⟩, by simp [Hid], fun m hm => by simp at hm, fun m hm => .inl (HL.out.has m hm).1, fun kl h => h, fun m hm => by simp at hm, HF1, by simp⟩
  case round =>
    clear HRG HF1
    obtain ⟨left, cnt, acc, U, uc, rfl, HRG, HO, HND, HSUB, HALL, HLEFT, HACC, HF, hal⟩ := hrel
    go_wp2_with (first
      | (at_next; refine wpList_next_ranges _ rfl (.tmp 12) rfl 3 Try.intKeyed msgR (fun x : Int => Value.int .i64 x) (fun m : Msg => .agg #[.int .i64 m.kind, .int .i64 m.peer, .int .i64 m.seq, .string m.key, .int .i64 m.n]) (fun key kl hk => by obtain ⟨x, hx, _⟩ := Maps.keyOf_int_inv Try.underlying3 hk; exact ⟨x, hx⟩) (fun v y hv => by obtain ⟨m, hm, _⟩ := msgR_inv hv; exact ⟨m, hm⟩) bg r kg Dg left cnt rfl HRG.out ?_ ?_)
      | fail)
    · intro hc0 hl0
      have hperm : List.Perm acc l := by
        refine (List.perm_ext_iff_of_nodup (nodup_map HND.out) (nodup_map HL.out.nodup)).2 (fun m => ⟨HSUB.out m, fun hm => ?_⟩)
        rcases HALL.out m hm with h | h
        · rw [hl0] at h; cases h
        · exact h
      have HP := Lib.hid hperm
      clear hc0 hl0 hperm
      have hsz : acc.length < 4611686018427387904 := by omega
      rcases List.eq_nil_or_concat acc with h0 | ⟨a1, a2, h0⟩
      · have hs := AnyF.slices_SortFunc_none Try.sortMsg U uc (.func (.func 63) #[] #[]) wr
        change Calls Try.prog 62 _ _ _ at hs
        have HSO := Lib.hid hs
        have hlen : acc.length = 0 := by rw [h0]; rfl
        rw [hlen]
        have H0 := Lib.hid h0
        clear hs hlen h0
        go_wp2_with fail
        refine HSO.out.mono ?_
        rintro e w3 ⟨rfl, rfl⟩
        go_wp2
        go_ret
        have hlz : acc = [] := H0.out
        exact ⟨U, uc, [], rfl, by have := HP.out; rw [hlz] at this; exact this, List.Pairwise.nil, fun i m hm => by simp at hm, HF.out, fun g o e => by subst e; exact (HO.out.lt g rfl).1⟩
      · have hpos : 0 < acc.length := by rw [h0]; simp
        obtain ⟨g2, hU⟩ : ∃ g2, U = some ⟨g2, 0, none⟩ := by
          rcases HO.out.2 with ⟨_, h1⟩ | ⟨g2, c2, cur, hv, _⟩
          · omega
          · simp only [Value.slice.injEq] at hv
            exact ⟨g2, hv.1⟩
        subst hU
        obtain ⟨hH, hg2, hB2⟩ := holds_own HO.out
        have hs := sort_msgs g2 uc acc.toArray wr hH hg2 hsz
        have hs' : Calls Try.prog 62 #[.slice (some ⟨g2, 0, none⟩) acc.length uc, .func (.func 63) #[] #[]] wr (SortPost wr g2 acc.toArray) := hs
        have HSO := Lib.hid hs'
        have HB2 := Lib.hid hB2
        clear hs hs' hH hg2 hB2 h0
        go_wp2_with fail
        refine HSO.out.mono ?_
        rintro e w3 ⟨rfl, d', hp, hso, hH', hF'⟩
        have hdl : d'.toList.length = acc.length := hp.length_eq
        have HDL := Lib.hid hdl
        have HSP := Lib.hid (And.intro hp (And.intro hso (And.intro hH' hF')))
        clear hp hso hH' hF' hdl
        go_wp2
        go_ret
        obtain ⟨hp, hso, hH', hF'⟩ := HSP.out
        have hdl : d'.toList.length = acc.length := HDL.out
        have hds : d'.size = acc.length := hdl
        refine ⟨some ⟨g2, 0, none⟩, uc, d'.toList, by rw [hdl]; rfl, hp.trans HP.out, ?_, ?_, HF.out.trans' hF' (fun _ _ h => h) (fun k hk e => by have h1 : w'.heap.size ≤ g2 := HB2.out; omega), fun g o e => by cases e; exact HB2.out⟩
        · rw [List.pairwise_iff_getElem]
          intro i j hi hj hij
          have := hso i j hij (by show j < acc.length; omega)
          rw [getElem!_pos d' j (by omega), getElem!_pos d' i (by omega)] at this
          simpa using this
        · intro i m hm
          have hi : i < d'.size := (List.getElem?_eq_some_iff.1 hm).1
          refine ⟨g2, 0, rfl, fun j u hu => ?_⟩
          have hj : j < 5 := (List.getElem?_eq_some_iff.1 hu).1
          have h1 := (hH'.cell hi hj).1
          have e1 : d'[i]! = m := by rw [getElem!_pos d' i hi]; exact (List.getElem?_eq_some_iff.1 hm).2
          rw [e1, getElem!_pos m.cells j hj] at h1
          rw [List.getElem?_eq_getElem hj] at hu
          rw [Option.some.inj hu] at h1
          exact h1
    · intro x c kl a pl w2 cnt2 hkey hlk hR hat hrg2 hlt hgr2 hsz2 hen
      have ha : a = .held c := by
        have := hR
        rw [show (Value.agg #[Value.int IntKind.i64 c.kind, Value.int IntKind.i64 c.peer, Value.int IntKind.i64 c.seq, Value.string c.key, Value.int IntKind.i64 c.n]) = c.v from rfl, msgR_mk] at this
        exact (congrArg Prod.fst (Option.some.inj this)).symm
      subst ha
      obtain ⟨m, hm, hkl⟩ := HL.out.only kl (HLEFT.out kl hlk)
      obtain rfl : c = m := by
        have h1 := hat (.nil)
        rw [hkl, (HL.out.has m hm).2] at h1
        exact (DataW.held.inj h1).symm
      subst hkl
      have hna : ∀ x ∈ acc, x.seq ≠ c.seq := fun x hx e => by
        have h1 := HACC.out x hx
        rw [e, hlk] at h1
        cases h1
      have hlt2 : acc.length < l.length := by
        have hnd : (acc ++ [c]).Nodup := by
          rw [List.nodup_append]
          exact ⟨nodup_map HND.out, by simp, fun a ha b hb e => by obtain rfl := List.mem_singleton.1 hb; subst e; exact hna a ha rfl⟩
        have := nodup_len hnd (l2 := l) (fun x hx => by
          rcases List.mem_append.1 hx with hx | hx
          · exact HSUB.out x hx
          · obtain rfl := List.mem_singleton.1 hx; exact hm)
        simp at this
        omega
      have hF2 : Fr (fun k => k = r) wr w2 := (Fr.refl _ wr).grown hgr2 (fun k hk => .inr (Option.some.inj hk).symm)
      obtain ⟨⟨o1, ho1, hc1⟩, ⟨o2, ho2, hc2⟩⟩ := ranges_iter HRG.out
      have hO2 : w2.ownsRow w'.heap.size 71 5 (.slice U acc.length uc) acc.length (acc.flatMap Msg.cells) := hF2.own HO.out (own_iter HO.out ho1 hc1)
      obtain ⟨ck, cp, cs, ct, cn⟩ := c
      have HO2 : Hid (((w2.alloc (.cells #[.int .i64 ck, .int .i64 cp, .int .i64 cs, .string ct, .int .i64 cn] 71)).alloc (.cells #[.int .i64 ck, .int .i64 cp, .int .i64 cs, .string ct, .int .i64 cn] 71)).ownsRow w'.heap.size 71 5 (.slice U acc.length uc) acc.length (acc.flatMap Msg.cells)) := (((Fr.refl (fun _ => False) w2).alloc _).alloc _).own0 hO2
      have HRG2 : Hid (((w2.alloc (.cells #[.int .i64 ck, .int .i64 cp, .int .i64 cs, .string ct, .int .i64 cn] 71)).alloc (.cells #[.int .i64 ck, .int .i64 cp, .int .i64 cs, .string ct, .int .i64 cn] 71)).ranges Try.prog 3 msgR bg r kg Dg (fun z => left z && !z.sameKey (.int .i64 cs)) cnt2) := (hrg2.alloc _).alloc _
      have HF2 : Hid (Fr (fun k => k = r) wr ((w2.alloc (.cells #[.int .i64 ck, .int .i64 cp, .int .i64 cs, .string ct, .int .i64 cn] 71)).alloc (.cells #[.int .i64 ck, .int .i64 cp, .int .i64 cs, .string ct, .int .i64 cn] 71))) := (hF2.alloc _).alloc _
      have HBw : Hid (w'.heap.size ≤ ((w2.alloc (.cells #[.int .i64 ck, .int .i64 cp, .int .i64 cs, .string ct, .int .i64 cn] 71)).alloc (.cells #[.int .i64 ck, .int .i64 cp, .int .i64 cs, .string ct, .int .i64 cn] 71)).heap.size) := Nat.le_trans HF.out.size HF2.out.size
      have HCM := Lib.hid hm
      have HNA := Lib.hid hna
      have HLK := Lib.hid hlk
      clear hm hna hlk hO2 hF2 hrg2 hgr2 hsz2 hR hat hkey ho1 hc1 ho2 hc2 o1 o2
      go_wp2_with (at_builtin; refine wpl_app rfl (.tmp 17) (.tmp 19) 65 rfl w'.heap.size 71 _ 5 48 Try.underlying65 Try.info71 rfl (by decide) (.slice U acc.length uc) acc.length (acc.flatMap Msg.cells) rfl HO2.out ⟨w2.heap.size + 1, 0, none⟩ 1 1 [.int .i64 ck, .int .i64 cp, .int .i64 cs, .string ct, .int .i64 cn] rfl rfl (news_of (blk_new1 _ _ _)) (by simp [Value.oneCell']) (by simp [maxLen]; omega) (by omega) HBw.out ?_; intro v3 w3 ho3 hg3 hm3; obtain ⟨A3, c3, rfl⟩ := own_slice ho3)
      obtain ⟨⟨o1, ho1, hc1⟩, ⟨o2, ho2, hc2⟩⟩ := ranges_iter HRG2.out
      have hrg3 := HRG2.out.kept hg3 (fun e => own_iter HO2.out ho2 hc2 _ e.symm rfl) (fun e => own_iter HO2.out ho1 hc1 _ e.symm rfl)
      refine ⟨⟨_, cnt2, acc ++ [⟨ck, cp, cs, ct, cn⟩], A3, c3, by rw [List.length_append]; rfl, hrg3, ?_, ?_, ?_, ?_, ?_, ?_, ?_, by rw [List.length_append]; exact hlt2⟩, ?_⟩
      · show w3.ownsRow _ _ _ _ _ _
        rw [List.length_append, List.flatMap_append]
        simpa [Msg.cells] using ho3
      · show List.Nodup _
        rw [List.map_append, List.nodup_append]
        refine ⟨HND.out, by simp, fun a ha b hb e => ?_⟩
        obtain ⟨x, hx, rfl⟩ := List.mem_map.1 ha
        simp at hb
        exact HNA.out x hx (e.trans hb)
      · intro x hx
        rcases List.mem_append.1 hx with hx | hx
        · exact HSUB.out x hx
        · obtain rfl := List.mem_singleton.1 hx; exact HCM.out
      · intro x hx
        by_cases he : x.seq = cs
        · right
          have h1 := (HL.out.has x hx).2 .nil
          rw [he] at h1
          have h2 := (HL.out.has _ HCM.out).2 .nil
          have h3 : (DataW.held x : DataW Msg) = .held ⟨ck, cp, cs, ct, cn⟩ := h1.symm.trans h2
          rw [DataW.held.inj h3]
          simp
        · rcases HALL.out x hx with h | h
          · left
            show (left _ && !Lit.sameKey _ _) = true
            rw [h, same_ne he]
            rfl
          · exact .inr (List.mem_append_left _ h)
      · intro kl hkl
        have : left kl = true := by
          have h1 : (left kl && !kl.sameKey (.int .i64 cs)) = true := hkl
          simp at h1
          exact h1.1
        exact HLEFT.out kl this
      · intro x hx
        show (left _ && !Lit.sameKey _ _) = false
        rcases List.mem_append.1 hx with hx | hx
        · rw [HACC.out x hx]; rfl
        · obtain rfl := List.mem_singleton.1 hx
          rw [same_self]
          simp
      · refine HF.out.trans' (HF2.out.trans' ((Fr.refl (fun k => some k = (Value.slice U acc.length uc).ownBlock) _).grown hg3 (fun k hk => .inr hk.symm)) (S'' := fun k => w'.heap.size ≤ k) (fun k _ hk => ?_) (fun k _ hk => (HO2.out.lt k hk.symm).1)) (fun _ _ h => h) (fun k hk e => ?_)
        · have h1 : r = w'.heap.size := HR.out
          show _ ≤ k
          omega
        · have e' : w'.heap.size ≤ k := e
          omega
      · show w3.rangeLeft bg r < wr.rangeLeft bg r
        rw [hrg3.left_eq, HRG.out.left_eq]
        exact hlt
end Go.Proofs.Ytedmhhllkkgbjaa
