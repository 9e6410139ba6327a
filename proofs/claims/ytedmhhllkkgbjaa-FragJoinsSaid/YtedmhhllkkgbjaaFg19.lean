/- lienref08.Cut: the document's answer. -/
import Derived.Test.YtedmhhllkkgbjaaFg18
namespace Go.Proofs.Ytedmhhllkkgbjaa
open Go.RowKit
set_option linter.unusedSimpArgs false
set_option linter.unusedVariables false

/-- what the document's Cut has behind some fragments -/
def Rel (recs : List (List Int)) (done : List Ev) (outL : List (List Int)) (nowL : List Int) (l : Nat) : Prop :=
  nowL.length ≤ 108 ∧ l ≤ 108 ∧ ((outOf recs done = [] ∧ outL = [] ∧ nowL = [] ∧ l = 0) ∨ (outOf recs done = outL ++ [nowL] ∧ l + nowL.length = 108))
theorem Rel.step {recs : List (List Int)} {done : List Ev} {outL : List (List Int)} {nowL : List Int} {l i s a : Nat} (h : Rel recs done outL nowL l) (hp : (piece recs (nextEv i s a l)).length = (nextEv i s a l).n) (ha : a ≤ s)
    {o' : List (List Int)} {nw : List Int} (ho : o' = if 108 < nowL.length + 3 then outL ++ [nowL] else outL) (hn : nw = if 108 < nowL.length + 3 then [] else nowL) :
    (nextEv i s a l).n = min (s - a) (108 - nw.length - 2) ∧ nw.length + 3 ≤ 108 ∧ Rel recs (done ++ [nextEv i s a l]) o' (nw ++ [(nextEv i s a l).kind, ((nextEv i s a l).n : Int)] ++ piece recs (nextEv i s a l)) (nextLeft s a l) := by
  obtain ⟨h1, h2, h3⟩ := h
  have hL : nextLeft s a l = (if l < 3 then 108 else l) - (2 + (nextEv i s a l).n) := rfl
  have hN : (nextEv i s a l).n = min ((if l < 3 then 108 else l) - 2) (s - a) := rfl
  have hF : (nextEv i s a l).fresh = decide (l < 3) := rfl
  have hnl := nextLeft_le s a l h2
  have key : (if l < 3 then 108 else l) + nw.length = 108 ∧ nw.length + 3 ≤ 108 ∧ outOf recs (done ++ [nextEv i s a l]) = o' ++ [nw ++ [(nextEv i s a l).kind, ((nextEv i s a l).n : Int)] ++ piece recs (nextEv i s a l)] := by
    rw [outOf_snoc]
    simp only [cutStep, hF]
    rcases h3 with ⟨e1, rfl, rfl, rfl⟩ | ⟨e1, e2⟩
    · rw [e1, ho, hn]
      simp
    · rw [e1]
      by_cases h0 : l < 3
      · have h4 : 108 < nowL.length + 3 := by omega
        rw [if_pos h4] at ho hn
        rw [ho, hn]
        simp [h0]
      · have h4 : ¬ 108 < nowL.length + 3 := by omega
        rw [if_neg h4] at ho hn
        rw [ho, hn]
        simp [h0]
        omega
  obtain ⟨k1, k2, k3⟩ := key
  refine ⟨by rw [hN]; omega, k2, ?_, hnl, .inr ⟨k3, ?_⟩⟩
  · simp only [List.length_append, List.length_cons, List.length_nil, hp]
    omega
  · simp only [List.length_append, List.length_cons, List.length_nil, hp]
    omega

theorem Rel.bound {recs : List (List Int)} {done rest : List Ev} {outL : List (List Int)} {nowL : List Int} {l : Nat} (h : Rel recs done outL nowL l) (hd : done ++ rest = plan 0 (recs.map List.length) 0) (h8 : ∀ r ∈ recs, r.length ≤ 8192) (hl : recs.length ≤ 256) : outL.length ≤ 3000000 := by
  have h1 := plan_len2 0 (recs.map List.length) 0 (fun s hs => by obtain ⟨r, hr, rfl⟩ := List.mem_map.1 hs; exact h8 r hr)
  have h2 := congrArg List.length hd
  rw [List.length_append] at h2
  rw [List.length_map] at h1
  have h3 : recs.length * 8193 ≤ 256 * 8193 := Nat.mul_le_mul_right _ hl
  have h4 := (outOf_bound recs done.length done rfl (fun e he => (plan_pieces recs e (by rw [← hd]; exact List.mem_append_left _ he)).1)).2
  rcases h.2.2 with ⟨_, rfl, _, _⟩ | ⟨e, _⟩
  · simp
  · rw [e, List.length_append] at h4
    omega

/-- two rows of one's own of unlike kinds lie apart -/
theorem own_apart {w : World} {B B' : Nat} {e e' : TypeId} {s s' n n' : Nat} {v v' : Value} {xs xs' : List Value} (h : w.ownsRow B e s v n xs) (h' : w.ownsRow B' e' s' v' n' xs') (hne : e ≠ e') {k : Nat} (hk : v.ownBlock = some k) : v'.ownBlock ≠ some k := by
  intro hk'
  obtain ⟨A, c, rfl⟩ := own_slice h'
  rcases h'.2 with ⟨hv, _⟩ | ⟨g, c2, cur, hv, _, hh, _⟩
  · simp only [Value.slice.injEq] at hv
    obtain ⟨rfl, _, _⟩ := hv
    cases hk'
  · simp only [Value.slice.injEq] at hv
    obtain ⟨rfl, _, _⟩ := hv
    obtain rfl : g = k := by simpa [Value.ownBlock] using hk'
    exact own_ne h hh hne hk.symm
theorem ReadBN.turn {S S' : Nat → Prop} {w w' : World} {A : Option Addr} {c : Nat} {x : List Int} (h : ReadBN S w A c x) (hF : Fr S w w') (hS : ∀ k, k < w.heap.size → S' k → S k) : ReadBN S' w' A c x := by
  refine ⟨(h.fr hF).read, fun g o s e hx hs => ?_⟩
  obtain ⟨b, l, rfl⟩ := List.exists_cons_of_ne_nil hx
  have := cell_lt ((h.read.cells g o s e).2 0 b rfl)
  exact h.far g o s e hx (hS g this hs)

/-- rows that are done, and one that grows -/
structure RC (B : Nat) (w : World) (o : Value) (vs : List Value) (oL : List (List Int)) (nw : Value) (nL : List Int) : Prop where
  out : w.ownsRow B 27 1 o oL.length vs
  len : vs.length = oL.length
  els : ∀ (i : Nat) (x : List Int), oL[i]? = some x → ∃ PA pc, vs[i]? = some (.slice PA x.length pc) ∧ ReadBN (fun k => some k = nw.ownBlock ∨ some k = o.ownBlock) w PA pc x
  now : w.ownsRow B 5 1 nw nL.length (bytes nL)
theorem RC.nil (B : Nat) (w : World) : RC B w (.slice none 0 0) [] [] (.slice none 0 0) [] :=
  ⟨⟨by simp, .inl ⟨rfl, rfl⟩⟩, rfl, fun i x h => by simp at h, ⟨by simp [bytes], .inl ⟨rfl, rfl⟩⟩⟩
theorem RC.grow {B : Nat} {w w' : World} {o nw nw' : Value} {vs : List Value} {oL : List (List Int)} {nL nL' : List Int} (h : RC B w o vs oL nw nL) (hF : Fr (fun k => some k = nw.ownBlock) w w') (ho : w'.ownsRow B 5 1 nw' nL'.length (bytes nL'))
    (hm : nw'.ownBlock = nw.ownBlock ∨ ∃ b, nw'.ownBlock = some b ∧ w.heap.size ≤ b) : RC B w' o vs oL nw' nL' := by
  refine ⟨hF.own h.out (fun k hk e => own_apart h.out h.now (by decide) hk e.symm), h.len, fun i x hx => ?_, ho⟩
  obtain ⟨PA, pc, h1, h2⟩ := h.els i x hx
  refine ⟨PA, pc, h1, h2.turn (hF.mono (fun k _ hk => .inl hk)) (fun k hk hs => ?_)⟩
  rcases hs with hs | hs
  · rcases hm with hm | ⟨b, hm, hb⟩
    · exact .inl (hs.trans hm)
    · rw [hm] at hs
      obtain rfl := Option.some.inj hs
      omega
  · exact .inr hs
theorem RC.push {B : Nat} {w w' : World} {o o' nw : Value} {vs : List Value} {oL : List (List Int)} {nL : List Int} (h : RC B w o vs oL nw nL) (hF : Fr (fun k => some k = o.ownBlock) w w') (ho : w'.ownsRow B 27 1 o' (oL.length + 1) (vs ++ [nw]))
    (hm : o'.ownBlock = o.ownBlock ∨ ∃ b, o'.ownBlock = some b ∧ w.heap.size ≤ b) : RC B w' o' (vs ++ [nw]) (oL ++ [nL]) (.slice none 0 0) [] := by
  obtain ⟨A, c, rfl⟩ := own_slice h.now
  have hnw' : w'.ownsRow B 5 1 (.slice A nL.length c) nL.length (bytes nL) := hF.own h.now (fun k hk e => own_apart h.now h.out (by decide) hk e.symm)
  refine ⟨by simpa using ho, by simp [h.len], fun i x hx => ?_, ⟨by simp [bytes], .inl ⟨rfl, rfl⟩⟩⟩
  by_cases hi : i < oL.length
  · rw [List.getElem?_append_left hi] at hx
    rw [List.getElem?_append_left (by rw [h.len]; exact hi)]
    obtain ⟨PA, pc, h1, h2⟩ := h.els i x hx
    refine ⟨PA, pc, h1, h2.turn (hF.mono (fun k _ hk => .inr hk)) (fun k hk hs => ?_)⟩
    rcases hs with hs | hs
    · cases hs
    · rcases hm with hm | ⟨b, hm, hb⟩
      · exact .inr (hs.trans hm)
      · rw [hm] at hs
        obtain rfl := Option.some.inj hs
        omega
  · have : i = oL.length := by
      have := (List.getElem?_eq_some_iff.1 hx).1
      simp at this
      omega
    subst this
    obtain rfl : nL = x := by simpa using hx
    refine ⟨A, c, by rw [← h.len]; simp, readB_own hnw', fun g o2 s e hx hs => ?_⟩
    subst e
    rcases hs with hs | hs
    · cases hs
    · have hb : (Value.slice (some ⟨g, o2, s⟩) nL.length c).ownBlock = some g := rfl
      exact own_apart hnw' ho (by decide) hb hs.symm
theorem RC.read {B : Nat} {w : World} {o nw : Value} {vs : List Value} {oL : List (List Int)} {nL : List Int} (h : RC B w o vs oL nw nL) : ∃ A c, o = .slice A oL.length c ∧ oL.length ≤ c ∧ ReadR w A oL := by
  have ho := h.out
  obtain ⟨A, c, rfl⟩ := own_slice ho
  have hn := own_news ho
  refine ⟨A, c, rfl, ?_, fun i x hx => ?_⟩
  · rcases ho.2 with ⟨hv, hx⟩ | ⟨g2, c2, cur, hv, _, _, hc, _⟩
    · rw [hx]; exact Nat.zero_le _
    · simp only [Value.slice.injEq] at hv
      rw [hv.2.2]
      exact hc
  · obtain ⟨PA, pc, h1, h2⟩ := h.els i x hx
    have hi := (List.getElem?_eq_some_iff.1 hx).1
    rcases ho.2 with ⟨hv, h0⟩ | ⟨g2, c2, cur, hv, _⟩
    · omega
    · simp only [Value.slice.injEq] at hv
      obtain ⟨rfl, _, _⟩ := hv
      have hcell := hn.1 _ rfl i _ h1
      rw [add_some] at hcell
      exact ⟨g2, 0, PA, pc, rfl, hcell, h2.read⟩

theorem piece_at {recs : List (List Int)} {i : Nat} {x : List Int} (hx : recs[i]? = some x) (a l : Nat) : piece recs (nextEv i x.length a l) = (x.drop a).take (nextEv i x.length a l).n := by
  simp only [piece]
  rw [show recs.getD (nextEv i x.length a l).rc [] = x from by rw [List.getD_eq_getElem?_getD]; show (recs[i]?).getD [] = x; rw [hx]; rfl]
  rfl

def lenOf' : Value → Nat | .slice _ n _ => n | _ => 0
def ovOf : Value → Bool | .bool b => b | _ => false

/-- within a record: at place a of it; or behind it -/
def CutIn (recs : List (List Int)) (wz : World) (B : Nat) (i : Nat) (x : List Int) (o n r b ov : Value) (wr : World) : Prop :=
  ∃ (oL : List (List Int)) (nL : List Int) (vs : List Value) (done : List Ev) (l : Nat) (U : Option Addr) (uc : Nat) (N : Option Addr) (nc : Nat),
    o = .slice U oL.length uc ∧ n = .slice N nL.length nc ∧ Hid (Rel recs done oL nL l) ∧ Hid (RC B wr o vs oL n nL) ∧ Hid (Fr (fun k => B ≤ k) wz wr) ∧
    ((ov = .bool true ∧ (∃ RA rl rc, r = .slice RA rl rc) ∧ (∃ bb, b = .bool bb) ∧ Hid (done ++ restOf (recs.map List.length) (i + 1) 0 l = plan 0 (recs.map List.length) 0)) ∨
     (ov = .bool false ∧ ∃ (a rl : Nat) (RA : Option Addr) (rc : Nat), (a = 0 ∨ a < x.length) ∧ b = .bool (!(a == 0)) ∧ r = .slice RA rl rc ∧ Hid (a + rl = x.length) ∧ Hid (ReadB wz RA rc (x.drop a)) ∧ Hid (done ++ restOf (recs.map List.length) i a l = plan 0 (recs.map List.length) 0)))

set_option maxRecDepth 100000 in
set_option maxHeartbeats 8000000 in
theorem rcut_any (A : Option Addr) (c : Nat) (recs : List (List Int)) (w : World) (hl : recs.length ≤ maxLen) (hR : ReadR w A recs) :
    Calls Try.prog 34 #[.slice A recs.length c] w (CutAll w recs) := by
  by_cases h256 : 256 < recs.length
  · have hE : cutE recs = 3 := by simp [cutE, h256]
    have HE := Lib.hid hE
    have h2 : (256 : Int) < (recs.length : Int) := by omega
    clear hE hR
    go_enter Try.func34, Try.ntmps34
    go_wp2_with fail
    go_ret2
    exact CutAll.bad (Below.refl _ _) HE.out (by omega)
  · have h2 : ¬ (256 : Int) < (recs.length : Int) := by omega
    have HR := Lib.hid hR
    clear hR
    go_enter Try.func34, Try.ntmps34
    go_wp2_with fail
    go_loopw [4] (fun k wr => ∃ i : Nat, i ≤ recs.length ∧ k = .int .i64 i ∧ wr = w ∧ Hid (∀ r ∈ recs.take i, r.length ≤ 8192)) (fun k _ => recs.length - (intOf k).toNat)
    case atStart => exact ⟨0, by omega, rfl, rfl, fun r hr => by simp at hr⟩
    case round =>
      obtain ⟨i, hi, rfl, hw, hall⟩ := hrel
      have hw' := hw.symm
      clear hw
      subst hw'
      by_cases hlt : i < recs.length
      · obtain ⟨x, hx⟩ : ∃ x, recs[i]? = some x := ⟨_, List.getElem?_eq_getElem hlt⟩
        obtain ⟨gq, oq, PA, pc, rfl, hq, hpb⟩ := HR.out i x hx
        have hii : (i : Int) < recs.length := by omega
        have HX := Lib.hid hx
        clear hx hpb
        by_cases h8 : 8192 < x.length
        · have hE : cutE recs = 2 := by
            have hna : recs.all (fun r => decide (r.length ≤ 8192)) ≠ true := by
              intro ha
              have := List.all_eq_true.1 ha x (List.mem_of_getElem? HX.out)
              simp at this
              omega
            simp only [cutE]
            rw [if_neg h256, if_neg hna]
          have HE := Lib.hid hE
          have h8i : (8192 : Int) < (x.length : Int) := by omega
          clear hE
          go_wp2_with fail
          go_ret2
          exact CutAll.bad (Below.refl _ _) HE.out (by omega)
        · have h8i : ¬ (8192 : Int) < (x.length : Int) := by omega
          go_wp2_with fail
          refine ⟨⟨i + 1, by omega, by go_num, by simp, ?_⟩, by simp [intOf]; omega⟩
          rw [List.take_add_one, HX.out]
          intro r hr
          rcases List.mem_append.1 hr with hr | hr
          · exact hall.out r hr
          · obtain rfl : r = x := by simpa using hr
            omega
      · have hie : i = recs.length := by omega
        subst hie
        have hall' := hall.out
        rw [List.take_length] at hall'
        have h8 := Lib.hid hall'
        clear hall hall' hlt
        go_wp2_with fail
        obtain ⟨wz, hwc⟩ : ∃ wz : World, wz = w := ⟨_, rfl⟩
        obtain ⟨B, hB⟩ : ∃ B, B = w.heap.size := ⟨_, rfl⟩
        have HBW : Hid (B = wz.heap.size) := by rw [hwc]; exact hB
        have HR' : Hid (ReadR wz A recs) := by rw [hwc]; exact HR.out
        have H0 : Hid (Fr (fun k => B ≤ k) wz w) := by rw [hwc]; exact Fr.refl _ _
        have HWZ : Hid (wz = w) := hwc
        clear hB hwc
        go_loopw [5, 6, 7] (fun o n k wr => ∃ (i : Nat) (oL : List (List Int)) (nL : List Int) (vs : List Value) (done : List Ev) (l : Nat) (U : Option Addr) (uc : Nat) (N : Option Addr) (nc : Nat), i ≤ recs.length ∧ k = .int .i64 i ∧
            o = .slice U oL.length uc ∧ n = .slice N nL.length nc ∧ Hid (Rel recs done oL nL l) ∧ Hid (RC B wr o vs oL n nL) ∧ Hid (Fr (fun k => B ≤ k) wz wr) ∧ Hid (done ++ restOf (recs.map List.length) i 0 l = plan 0 (recs.map List.length) 0)) (fun _ _ k _ => recs.length - (intOf k).toNat)
        case atStart =>
          refine ⟨0, [], [], [], [], 0, none, 0, none, 0, by omega, rfl, rfl, rfl, ⟨by simp, by omega, .inl ⟨rfl, rfl, rfl, rfl⟩⟩, RC.nil _ _, H0, ?_⟩
          show [] ++ restOf (recs.map List.length) 0 0 0 = _
          rw [restOf_start]
          rfl
        case round =>
          clear H0
          obtain ⟨i, oL, nL, vs, done, l, U, uc, N, nc, hi, rfl, rfl, rfl, HREL, HRC, HF, HD⟩ := hrel
          by_cases hlt : i < recs.length
          · obtain ⟨x, hx⟩ : ∃ x, recs[i]? = some x := ⟨_, List.getElem?_eq_getElem hlt⟩
            obtain ⟨gq, oq, PA, pc, hA, hq, hpb⟩ := HR'.out i x hx
            subst hA
            have hq2 := (Fr.of_below (HF.out.below (Nat.le_refl _) (fun k h => by rw [← HBW.out]; exact h)) (fun _ => False)).cell0 hq
            have hii : (i : Int) < recs.length := by omega
            have hx8 := h8.out x (List.mem_of_getElem? hx)
            have HX := Lib.hid hx
            have HPB := Lib.hid hpb
            clear hx hpb hq
            go_wp2_with fail
            go_loopw [5, 6, 8, 9, 10] (fun o n r b ov wr => CutIn recs wz B i x o n r b ov wr) (fun _ _ r _ ov _ => if ovOf ov then 0 else lenOf' r + 1)
            case atStart => exact ⟨oL, nL, vs, done, l, U, uc, N, nc, rfl, rfl, HREL, HRC, HF, .inr ⟨rfl, 0, x.length, PA, pc, .inl rfl, rfl, rfl, by simp [Hid], by simpa [Hid] using HPB.out, HD⟩⟩
            case round =>
              clear HREL HRC HF HD hq2
              obtain ⟨oL, nL, vs, done, l, U, uc, N, nc, rfl, rfl, HREL, HRC, HF, (⟨rfl, ⟨RA, rl, rc, rfl⟩, ⟨bb, rfl⟩, HD⟩ | ⟨rfl, a, rl, RA, rc, ha, rfl, rfl, HAR, HRD, HD⟩)⟩ := hrel
              · go_wp2_with fail
                exact ⟨⟨i + 1, oL, nL, vs, done, l, U, uc, N, nc, by omega, by go_num, rfl, rfl, HREL, HRC, HF, HD⟩, by simp [intOf]; omega⟩
              · have hnl : nL.length ≤ 108 := HREL.out.1
                obtain ⟨bb, hbb⟩ : ∃ bb, bb = !(a == 0) := ⟨_, rfl⟩
                rw [← hbb]
                have HBB := Lib.hid hbb
                clear hbb
                go_upto_if 43 with (fail)
                go_cut [5, 6] (fun o n wd => ∃ (oL' : List (List Int)) (nL' : List Int) (vs' : List Value) (U' : Option Addr) (uc' : Nat) (N' : Option Addr) (nc' : Nat), o = .slice U' oL'.length uc' ∧ n = .slice N' nL'.length nc' ∧ Hid (oL' = if 108 < nL.length + 3 then oL ++ [nL] else oL) ∧ Hid (nL' = if 108 < nL.length + 3 then [] else nL) ∧ Hid (RC B wd o vs' oL' n nL') ∧ Hid (Fr (fun k => B ≤ k) wz wd))
                case first =>
                  by_cases h3 : 108 < nL.length + 3
                  · have h3i : (108 : Int) - (nL.length : Int) < 3 := by omega
                    have HA1 : Hid (Fr (fun _ => False) wr (wr.alloc (.cells #[.slice N nL.length nc] 27))) := (Fr.refl (fun _ => False) wr).alloc _
                    have HBw : Hid (B ≤ wr.heap.size) := by rw [HBW.out]; exact HF.out.size
                    have hob : oL.length ≤ 3000000 := HREL.out.bound HD.out h8.out (by omega)
                    go_wp2_with (at_builtin; refine wpl_app rfl (.tmp 44) (.tmp 46) 47 rfl B 27 _ 1 24 Try.underlying47 Try.info27 rfl (by decide) (.slice U oL.length uc) oL.length vs rfl (HA1.out.own0 HRC.out.out) ⟨wr.heap.size, 0, none⟩ 1 1 [.slice N nL.length nc] rfl rfl (news_of (blk_new _ _)) (by simp [Value.oneCell']) (by simp [maxLen]; omega) (by omega) (Nat.le_trans HBw.out HA1.out.size) ?_; intro v2 w2 ho2 hg2 hm2; obtain ⟨A2, c2, rfl⟩ := own_slice ho2)
                    go_meet
                    case rel =>
                      have F2 : Fr (fun k => some k = (Value.slice U oL.length uc).ownBlock) wr w2 := HA1.out.none.grown hg2 (fun k hk => .inr hk.symm)
                      have hP := HRC.out.push F2 ho2 (by
                        rcases hm2 with hm2 | hm2
                        · exact .inl hm2
                        · exact .inr ⟨_, hm2, HA1.out.size⟩)
                      refine ⟨oL ++ [nL], [], vs ++ [Value.slice N nL.length nc], A2, c2, none, 0, by simp, rfl, by rw [if_pos h3]; rfl, by rw [if_pos h3]; rfl, Lib.hid hP, ?_⟩
                      exact HF.out.trans' F2 (fun _ _ h => h) (fun k _ hk => (HRC.out.out.lt k hk.symm).1)
                  · have h3i : ¬ (108 : Int) - (nL.length : Int) < 3 := by omega
                    go_wp2
                    go_meet
                    case rel => exact ⟨oL, nL, vs, U, uc, N, nc, rfl, rfl, by rw [if_neg h3]; rfl, by rw [if_neg h3]; rfl, HRC, HF⟩
                case rest =>
                  obtain ⟨oL', nL', vs', U', uc', N', nc', rfl, rfl, HOL, HNL, HRC', HF'⟩ := hcut
                  have hal : a ≤ x.length := by omega
                  have hpc := piece_at HX.out a l
                  have hnle := next_n_le i x.length a l hal
                  have hpl : (piece recs (nextEv i x.length a l)).length = (nextEv i x.length a l).n := by rw [hpc, List.length_take, List.length_drop]; omega
                  obtain ⟨hs1, hs2, hs3⟩ := HREL.out.step (i := i) (s := x.length) (a := a) hpl hal HOL.out HNL.out
                  have hkd : (nextEv i x.length a l).kind = kindOf (a == 0) (a + (nextEv i x.length a l).n == x.length) := rfl
                  have hnp : a < x.length → 1 ≤ (nextEv i x.length a l).n := next_n_pos i x.length a l
                  have hre := restOf_end (recs.map List.length) i a l x.length (by rw [List.getElem?_map, HX.out]; rfl) ha
                  have hrm := restOf_more (recs.map List.length) i a l x.length (by rw [List.getElem?_map, HX.out]; rfl) ha
                  rw [hpc] at hs3
                  have hEn : ∃ n, n = (nextEv i x.length a l).n := ⟨_, rfl⟩
                  obtain ⟨n, hn⟩ := hEn
                  rw [← hn] at hs1 hs3 hkd hnp hre hrm hnle
                  have hmin : (if (108 : Int) - (nL'.length : Int) - 2 < (rl : Int) then (108 : Int) - (nL'.length : Int) - 2 else (rl : Int)) = (n : Int) := by
                    have := HAR.out
                    split <;> omega
                  have hn106 : n ≤ 106 := by omega
                  have hnrl : n ≤ rl := by have := HAR.out; omega
                  have hnrc : n ≤ rc := by have h1 := HRD.out.cap; rw [List.length_drop] at h1; have := HAR.out; omega
                  have hi1 : (0 : Int) ≤ (n : Int) := by omega
                  have hi2 : (n : Int) ≤ (rc : Int) := by omega
                  have hi3 : (n : Int) ≤ (rl : Int) := by omega
                  have hwr : IntKind.u8.wrap (n : Int) = (n : Int) := by rw [IntKind.wrap_u8]; omega
                  have hsl := fun W => cutB_from RA rl rc n hnrl W (n : Int) rfl
                  have HPC := Lib.hid hpc
                  have HPL := Lib.hid hpl
                  have HN := Lib.hid hn
                  have HS3 := Lib.hid hs3
                  have HKD := Lib.hid hkd
                  have HRE := Lib.hid hre
                  have HRM := Lib.hid hrm
                  have HBw : Hid (B ≤ wc.heap.size) := by rw [HBW.out]; exact HF'.out.size
                  have HLR : Hid ((bytes ((x.drop a).take n)).length = n * 1) := by show (bytes ((x.drop a).take n)).length = n * 1; unfold bytes; rw [List.length_map, List.length_take, List.length_drop]; have := HAR.out; omega
                  have hnn : nL'.length ≤ 108 := by omega
                  clear hpc hpl hn hs3 hkd hre hrm hs1 hnle
                  go_upto_region 21 with (fail)
                  clear hmin
                  rcases Bool.eq_false_or_eq_true bb with hbv | hbv
                  · subst hbv
                    have hb1 : (a == 0) = false := by have := HBB.out; simpa using this.symm
                    by_cases hov : n = rl
                    · subst hov
                      have hE1 : a + n = x.length := HAR.out
                      have he1 : (a + n == x.length) = true := by simp [hE1]
                      have hnt : ((n : Int) == (n : Int)) = true := by simp
                      have HK : Hid ((nextEv i x.length a l).kind = 4) := by rw [HKD.out, hb1, he1]; rfl
                      have HA1 : Hid (Fr (fun _ => False) wc (wc.alloc (.cells #[.int .u8 4, .int .u8 n] 5))) := (Fr.refl (fun _ => False) wc).alloc _
                      go_wp2_with (first
                        | (at_builtin; refine wpl_app rfl (.tmp 74) (.tmp 78) 27 rfl B 5 _ 1 1 Try.underlying27 Try.info5 rfl (by decide) (.slice N' nL'.length nc') nL'.length (bytes nL') rfl (HA1.out.own0 HRC'.out.now) ⟨wc.heap.size, 0, none⟩ 2 2 [.int .u8 4, .int .u8 n] rfl rfl (news_of (blk_new _ _)) (bytes_one [4, (n : Int)]) (by simp [maxLen]; omega) (by omega) (Nat.le_trans HBw.out HA1.out.size) ?_; intro v2 w2 ho2 hg2 hm2; obtain ⟨A2, c2, rfl⟩ := own_slice ho2; have HRC2 : Hid (RC B w2 (.slice U' oL'.length uc') vs' oL' (.slice A2 (nL'.length + 2) c2) (nL' ++ [4, (n : Int)])) := HRC'.out.grow (HA1.out.none.grown hg2 (fun k hk => .inr hk.symm)) (by simpa [bytes] using ho2) (hm2.imp id (fun h => ⟨_, h, HA1.out.size⟩)); have HF2 : Hid (Fr (fun k => B ≤ k) wz w2) := HF'.out.trans' (HA1.out.none.grown (S := fun k => some k = (Value.slice N' nL'.length nc').ownBlock) hg2 (fun k hk => .inr hk.symm)) (fun _ _ h => h) (fun k _ hk => (HRC'.out.now.lt k hk.symm).1); have HO2 := Lib.hid ho2; clear ho2 hg2 hm2)
                        | (at_builtin; refine wpl_appx rfl (.tmp 80) (.tmp 83) 27 rfl B 5 _ 1 1 Try.underlying27 Try.info5 rfl (by decide) (.slice A2 (nL'.length + 2) c2) (nL'.length + 2) _ rfl HO2.out RA n rc (bytes ((x.drop a).take n)) rfl HLR.out ((HRD.out.below (HF2.out.below (Nat.le_refl _) (fun k h => by rw [← HBW.out]; exact h))).take n).news (fun e => by have h1 := HLR.out; rw [HRD.out.empty e] at h1; simpa [bytes] using h1.symm) (bytes_one ((x.drop a).take n)) (by simp [maxLen]; omega) (by omega) (by rw [HBW.out]; exact HF2.out.size) ?_; intro v3 w3 ho3 hg3 hm3; obtain ⟨A3, c3, rfl⟩ := own_slice ho3; have HLN : Hid ((nL' ++ [4, (n : Int)] ++ (x.drop a).take n).length = nL'.length + 2 + n) := (by have h1 := HLR.out; unfold bytes at h1; rw [List.length_map] at h1; show _ = _; rw [List.length_append, h1]; simp); have HRC3 : Hid (RC B w3 (.slice U' oL'.length uc') vs' oL' (.slice A3 (nL'.length + 2 + n) c3) (nL' ++ [4, (n : Int)] ++ (x.drop a).take n)) := HRC2.out.grow ((Fr.refl _ w2).grown hg3 (fun k hk => .inr hk.symm)) (by rw [HLN.out]; simpa [bytes] using ho3) (hm3.imp id (fun h => ⟨_, h, Nat.le_refl _⟩)); have HF3 : Hid (Fr (fun k => B ≤ k) wz w3) := HF2.out.grown hg3 (fun k hk => .inr (HO2.out.lt k hk).1); clear ho3 hg3 hm3))
                      have HS := HS3
                      rw [HK.out] at HS
                      refine ⟨⟨oL', nL' ++ [4, (n : Int)] ++ (x.drop a).take n, vs', done ++ [nextEv i x.length a l], nextLeft x.length a l, U', uc', A3, c3, rfl, by rw [HLN.out], HS, HRC3, HF3, .inl ⟨rfl, ⟨_, _, _, rfl⟩, ⟨_, rfl⟩, by have h1 := HD.out; rw [HRE.out hE1] at h1; show (done ++ [nextEv i x.length a l]) ++ _ = _; rw [List.append_assoc]; exact h1⟩⟩, by simp [ovOf, lenOf']⟩
                    · have hE1 : a + n ≠ x.length := by have := HAR.out; omega
                      have he0 : (a + n == x.length) = false := by simp [hE1]
                      have hnt : ((n : Int) == (rl : Int)) = false := by simp; omega
                      have hnt2 : ¬ (n : Int) = (rl : Int) := by omega
                      have hn1 : 1 ≤ n := hnp (by have := HAR.out; omega)
                      have HK : Hid ((nextEv i x.length a l).kind = 3) := by rw [HKD.out, hb1, he0]; rfl
                      have HA1 : Hid (Fr (fun _ => False) wc (wc.alloc (.cells #[.int .u8 3, .int .u8 n] 5))) := (Fr.refl (fun _ => False) wc).alloc _
                      go_wp2_with (first
                        | (at_builtin; refine wpl_app rfl (.tmp 74) (.tmp 78) 27 rfl B 5 _ 1 1 Try.underlying27 Try.info5 rfl (by decide) (.slice N' nL'.length nc') nL'.length (bytes nL') rfl (HA1.out.own0 HRC'.out.now) ⟨wc.heap.size, 0, none⟩ 2 2 [.int .u8 3, .int .u8 n] rfl rfl (news_of (blk_new _ _)) (bytes_one [3, (n : Int)]) (by simp [maxLen]; omega) (by omega) (Nat.le_trans HBw.out HA1.out.size) ?_; intro v2 w2 ho2 hg2 hm2; obtain ⟨A2, c2, rfl⟩ := own_slice ho2; have HRC2 : Hid (RC B w2 (.slice U' oL'.length uc') vs' oL' (.slice A2 (nL'.length + 2) c2) (nL' ++ [3, (n : Int)])) := HRC'.out.grow (HA1.out.none.grown hg2 (fun k hk => .inr hk.symm)) (by simpa [bytes] using ho2) (hm2.imp id (fun h => ⟨_, h, HA1.out.size⟩)); have HF2 : Hid (Fr (fun k => B ≤ k) wz w2) := HF'.out.trans' (HA1.out.none.grown (S := fun k => some k = (Value.slice N' nL'.length nc').ownBlock) hg2 (fun k hk => .inr hk.symm)) (fun _ _ h => h) (fun k _ hk => (HRC'.out.now.lt k hk.symm).1); have HO2 := Lib.hid ho2; clear ho2 hg2 hm2)
                        | (at_builtin; refine wpl_appx rfl (.tmp 80) (.tmp 83) 27 rfl B 5 _ 1 1 Try.underlying27 Try.info5 rfl (by decide) (.slice A2 (nL'.length + 2) c2) (nL'.length + 2) _ rfl HO2.out RA n rc (bytes ((x.drop a).take n)) rfl HLR.out ((HRD.out.below (HF2.out.below (Nat.le_refl _) (fun k h => by rw [← HBW.out]; exact h))).take n).news (fun e => by have h1 := HLR.out; rw [HRD.out.empty e] at h1; simpa [bytes] using h1.symm) (bytes_one ((x.drop a).take n)) (by simp [maxLen]; omega) (by omega) (by rw [HBW.out]; exact HF2.out.size) ?_; intro v3 w3 ho3 hg3 hm3; obtain ⟨A3, c3, rfl⟩ := own_slice ho3; have HLN : Hid ((nL' ++ [3, (n : Int)] ++ (x.drop a).take n).length = nL'.length + 2 + n) := (by have h1 := HLR.out; unfold bytes at h1; rw [List.length_map] at h1; show _ = _; rw [List.length_append, h1]; simp); have HRC3 : Hid (RC B w3 (.slice U' oL'.length uc') vs' oL' (.slice A3 (nL'.length + 2 + n) c3) (nL' ++ [3, (n : Int)] ++ (x.drop a).take n)) := HRC2.out.grow ((Fr.refl _ w2).grown hg3 (fun k hk => .inr hk.symm)) (by rw [HLN.out]; simpa [bytes] using ho3) (hm3.imp id (fun h => ⟨_, h, Nat.le_refl _⟩)); have HF3 : Hid (Fr (fun k => B ≤ k) wz w3) := HF2.out.grown hg3 (fun k hk => .inr (HO2.out.lt k hk).1); clear ho3 hg3 hm3))
                      have HS := HS3
                      rw [HK.out] at HS
                      have HRB : Hid (ReadB wz (cutA RA rc n) (rc - n) (x.drop (a + n))) := by
                        have h1 := cutA_read HRD.out n rl hnrl (by rw [List.length_drop]; have := HAR.out; omega)
                        rw [List.drop_drop, List.take_of_length_le (by rw [List.length_drop]; have := HAR.out; omega)] at h1
                        exact h1
                      refine ⟨⟨oL', nL' ++ [3, (n : Int)] ++ (x.drop a).take n, vs', done ++ [nextEv i x.length a l], nextLeft x.length a l, U', uc', A3, c3, rfl, by rw [HLN.out], HS, HRC3, HF3, .inr ⟨rfl, a + n, rl - n, cutA RA rc n, rc - n, Or.inr (by have h1 : a + rl = x.length := HAR.out; omega), by have h0 : (a + n == 0) = false := (beq_eq_false_iff_ne.2 (by omega)); rw [h0]; rfl, rfl, by show a + n + (rl - n) = x.length; have := HAR.out; omega, HRB.out, by have h1 := HD.out; rw [HRM.out hE1] at h1; show (done ++ [nextEv i x.length a l]) ++ _ = _; rw [List.append_assoc]; exact h1⟩⟩, by simp [ovOf, lenOf']; exact Nat.sub_lt (Nat.lt_of_lt_of_le hn1 hnrl) hn1⟩
                  · subst hbv
                    have hb0 : (a == 0) = true := by have := HBB.out; simpa using this.symm
                    by_cases hov : n = rl
                    · subst hov
                      have hE1 : a + n = x.length := HAR.out
                      have he1 : (a + n == x.length) = true := by simp [hE1]
                      have hnt : ((n : Int) == (n : Int)) = true := by simp
                      have HK : Hid ((nextEv i x.length a l).kind = 1) := by rw [HKD.out, hb0, he1]; rfl
                      have HA1 : Hid (Fr (fun _ => False) wc (wc.alloc (.cells #[.int .u8 1, .int .u8 n] 5))) := (Fr.refl (fun _ => False) wc).alloc _
                      go_wp2_with (first
                        | (at_builtin; refine wpl_app rfl (.tmp 74) (.tmp 78) 27 rfl B 5 _ 1 1 Try.underlying27 Try.info5 rfl (by decide) (.slice N' nL'.length nc') nL'.length (bytes nL') rfl (HA1.out.own0 HRC'.out.now) ⟨wc.heap.size, 0, none⟩ 2 2 [.int .u8 1, .int .u8 n] rfl rfl (news_of (blk_new _ _)) (bytes_one [1, (n : Int)]) (by simp [maxLen]; omega) (by omega) (Nat.le_trans HBw.out HA1.out.size) ?_; intro v2 w2 ho2 hg2 hm2; obtain ⟨A2, c2, rfl⟩ := own_slice ho2; have HRC2 : Hid (RC B w2 (.slice U' oL'.length uc') vs' oL' (.slice A2 (nL'.length + 2) c2) (nL' ++ [1, (n : Int)])) := HRC'.out.grow (HA1.out.none.grown hg2 (fun k hk => .inr hk.symm)) (by simpa [bytes] using ho2) (hm2.imp id (fun h => ⟨_, h, HA1.out.size⟩)); have HF2 : Hid (Fr (fun k => B ≤ k) wz w2) := HF'.out.trans' (HA1.out.none.grown (S := fun k => some k = (Value.slice N' nL'.length nc').ownBlock) hg2 (fun k hk => .inr hk.symm)) (fun _ _ h => h) (fun k _ hk => (HRC'.out.now.lt k hk.symm).1); have HO2 := Lib.hid ho2; clear ho2 hg2 hm2)
                        | (at_builtin; refine wpl_appx rfl (.tmp 80) (.tmp 83) 27 rfl B 5 _ 1 1 Try.underlying27 Try.info5 rfl (by decide) (.slice A2 (nL'.length + 2) c2) (nL'.length + 2) _ rfl HO2.out RA n rc (bytes ((x.drop a).take n)) rfl HLR.out ((HRD.out.below (HF2.out.below (Nat.le_refl _) (fun k h => by rw [← HBW.out]; exact h))).take n).news (fun e => by have h1 := HLR.out; rw [HRD.out.empty e] at h1; simpa [bytes] using h1.symm) (bytes_one ((x.drop a).take n)) (by simp [maxLen]; omega) (by omega) (by rw [HBW.out]; exact HF2.out.size) ?_; intro v3 w3 ho3 hg3 hm3; obtain ⟨A3, c3, rfl⟩ := own_slice ho3; have HLN : Hid ((nL' ++ [1, (n : Int)] ++ (x.drop a).take n).length = nL'.length + 2 + n) := (by have h1 := HLR.out; unfold bytes at h1; rw [List.length_map] at h1; show _ = _; rw [List.length_append, h1]; simp); have HRC3 : Hid (RC B w3 (.slice U' oL'.length uc') vs' oL' (.slice A3 (nL'.length + 2 + n) c3) (nL' ++ [1, (n : Int)] ++ (x.drop a).take n)) := HRC2.out.grow ((Fr.refl _ w2).grown hg3 (fun k hk => .inr hk.symm)) (by rw [HLN.out]; simpa [bytes] using ho3) (hm3.imp id (fun h => ⟨_, h, Nat.le_refl _⟩)); have HF3 : Hid (Fr (fun k => B ≤ k) wz w3) := HF2.out.grown hg3 (fun k hk => .inr (HO2.out.lt k hk).1); clear ho3 hg3 hm3))
                      have HS := HS3
                      rw [HK.out] at HS
                      refine ⟨⟨oL', nL' ++ [1, (n : Int)] ++ (x.drop a).take n, vs', done ++ [nextEv i x.length a l], nextLeft x.length a l, U', uc', A3, c3, rfl, by rw [HLN.out], HS, HRC3, HF3, .inl ⟨rfl, ⟨_, _, _, rfl⟩, ⟨_, rfl⟩, by have h1 := HD.out; rw [HRE.out hE1] at h1; show (done ++ [nextEv i x.length a l]) ++ _ = _; rw [List.append_assoc]; exact h1⟩⟩, by simp [ovOf, lenOf']⟩
                    · have hE1 : a + n ≠ x.length := by have := HAR.out; omega
                      have he0 : (a + n == x.length) = false := by simp [hE1]
                      have hnt : ((n : Int) == (rl : Int)) = false := by simp; omega
                      have hnt2 : ¬ (n : Int) = (rl : Int) := by omega
                      have hn1 : 1 ≤ n := hnp (by have := HAR.out; omega)
                      have HK : Hid ((nextEv i x.length a l).kind = 2) := by rw [HKD.out, hb0, he0]; rfl
                      have HA1 : Hid (Fr (fun _ => False) wc (wc.alloc (.cells #[.int .u8 2, .int .u8 n] 5))) := (Fr.refl (fun _ => False) wc).alloc _
                      go_wp2_with (first
                        | (at_builtin; refine wpl_app rfl (.tmp 74) (.tmp 78) 27 rfl B 5 _ 1 1 Try.underlying27 Try.info5 rfl (by decide) (.slice N' nL'.length nc') nL'.length (bytes nL') rfl (HA1.out.own0 HRC'.out.now) ⟨wc.heap.size, 0, none⟩ 2 2 [.int .u8 2, .int .u8 n] rfl rfl (news_of (blk_new _ _)) (bytes_one [2, (n : Int)]) (by simp [maxLen]; omega) (by omega) (Nat.le_trans HBw.out HA1.out.size) ?_; intro v2 w2 ho2 hg2 hm2; obtain ⟨A2, c2, rfl⟩ := own_slice ho2; have HRC2 : Hid (RC B w2 (.slice U' oL'.length uc') vs' oL' (.slice A2 (nL'.length + 2) c2) (nL' ++ [2, (n : Int)])) := HRC'.out.grow (HA1.out.none.grown hg2 (fun k hk => .inr hk.symm)) (by simpa [bytes] using ho2) (hm2.imp id (fun h => ⟨_, h, HA1.out.size⟩)); have HF2 : Hid (Fr (fun k => B ≤ k) wz w2) := HF'.out.trans' (HA1.out.none.grown (S := fun k => some k = (Value.slice N' nL'.length nc').ownBlock) hg2 (fun k hk => .inr hk.symm)) (fun _ _ h => h) (fun k _ hk => (HRC'.out.now.lt k hk.symm).1); have HO2 := Lib.hid ho2; clear ho2 hg2 hm2)
                        | (at_builtin; refine wpl_appx rfl (.tmp 80) (.tmp 83) 27 rfl B 5 _ 1 1 Try.underlying27 Try.info5 rfl (by decide) (.slice A2 (nL'.length + 2) c2) (nL'.length + 2) _ rfl HO2.out RA n rc (bytes ((x.drop a).take n)) rfl HLR.out ((HRD.out.below (HF2.out.below (Nat.le_refl _) (fun k h => by rw [← HBW.out]; exact h))).take n).news (fun e => by have h1 := HLR.out; rw [HRD.out.empty e] at h1; simpa [bytes] using h1.symm) (bytes_one ((x.drop a).take n)) (by simp [maxLen]; omega) (by omega) (by rw [HBW.out]; exact HF2.out.size) ?_; intro v3 w3 ho3 hg3 hm3; obtain ⟨A3, c3, rfl⟩ := own_slice ho3; have HLN : Hid ((nL' ++ [2, (n : Int)] ++ (x.drop a).take n).length = nL'.length + 2 + n) := (by have h1 := HLR.out; unfold bytes at h1; rw [List.length_map] at h1; show _ = _; rw [List.length_append, h1]; simp); have HRC3 : Hid (RC B w3 (.slice U' oL'.length uc') vs' oL' (.slice A3 (nL'.length + 2 + n) c3) (nL' ++ [2, (n : Int)] ++ (x.drop a).take n)) := HRC2.out.grow ((Fr.refl _ w2).grown hg3 (fun k hk => .inr hk.symm)) (by rw [HLN.out]; simpa [bytes] using ho3) (hm3.imp id (fun h => ⟨_, h, Nat.le_refl _⟩)); have HF3 : Hid (Fr (fun k => B ≤ k) wz w3) := HF2.out.grown hg3 (fun k hk => .inr (HO2.out.lt k hk).1); clear ho3 hg3 hm3))
                      have HS := HS3
                      rw [HK.out] at HS
                      have HRB : Hid (ReadB wz (cutA RA rc n) (rc - n) (x.drop (a + n))) := by
                        have h1 := cutA_read HRD.out n rl hnrl (by rw [List.length_drop]; have := HAR.out; omega)
                        rw [List.drop_drop, List.take_of_length_le (by rw [List.length_drop]; have := HAR.out; omega)] at h1
                        exact h1
                      refine ⟨⟨oL', nL' ++ [2, (n : Int)] ++ (x.drop a).take n, vs', done ++ [nextEv i x.length a l], nextLeft x.length a l, U', uc', A3, c3, rfl, by rw [HLN.out], HS, HRC3, HF3, .inr ⟨rfl, a + n, rl - n, cutA RA rc n, rc - n, Or.inr (by have h1 : a + rl = x.length := HAR.out; omega), by have h0 : (a + n == 0) = false := (beq_eq_false_iff_ne.2 (by omega)); rw [h0]; rfl, rfl, by show a + n + (rl - n) = x.length; have := HAR.out; omega, HRB.out, by have h1 := HD.out; rw [HRM.out hE1] at h1; show (done ++ [nextEv i x.length a l]) ++ _ = _; rw [List.append_assoc]; exact h1⟩⟩, by simp [ovOf, lenOf']; exact Nat.sub_lt (Nat.lt_of_lt_of_le hn1 hnrl) hn1⟩
          · have hie : i = recs.length := by omega
            subst hie
            have hd0 : done = plan 0 (recs.map List.length) 0 := by
              have h1 := HD.out
              rw [restOf_none _ _ _ _ (by simp)] at h1
              simpa using h1
            have hE := cutE_ok recs (by omega) h8.out
            have hL := cutL_ok recs (by omega) h8.out
            rw [← hd0] at hL
            have HE := Lib.hid hE
            have HL := Lib.hid hL
            have HFB : Hid (Below w.heap.size w wr) := by
              have h1 := HF.out.below (Nat.le_refl _) (fun k h => by rw [← HBW.out]; exact h)
              rw [HWZ.out] at h1
              exact h1
            by_cases hr0 : recs.length = 0
            · have h0 : recs = [] := List.eq_nil_of_length_eq_zero hr0
              have hr0i : ¬ (0 : Int) < (recs.length : Int) := by omega
              have hdn : done = [] := by rw [hd0, h0]; rfl
              have hoL : oL = [] ∧ cutL recs = [] := by
                rw [HL.out, hdn]
                refine ⟨?_, rfl⟩
                have h1 := HREL.out.2.2
                rw [hdn] at h1
                rcases h1 with ⟨_, h, _⟩ | ⟨h, _⟩
                · exact h
                · simp [outOf] at h
              have HOL := Lib.hid hoL
              have HR0 := Lib.hid hr0
              clear hd0 hE hL hdn hoL h0 hr0
              go_wp2
              go_ret2
              obtain ⟨A2, c2, e2, hc2, hr2⟩ := HRC.out.read
              simp only [Value.slice.injEq] at e2
              obtain ⟨rfl, _, rfl⟩ := e2
              refine ⟨U, uc, by rw [HOL.out.2, HE.out, HOL.out.1]; rfl, by rw [HOL.out.2]; exact Nat.zero_le _, by rw [HOL.out.2]; exact ReadR.nil _ _, HFB.out⟩
            · have hr0i : (0 : Int) < (recs.length : Int) := by omega
              have hol : cutL recs = oL ++ [nL] := by
                rw [HL.out]
                rcases HREL.out.2.2 with ⟨h1, _⟩ | ⟨h1, _⟩
                · exfalso
                  have h2 : (cutL recs).length = 0 := by rw [HL.out, h1]; rfl
                  rw [cutL_len recs (by omega) h8.out, ← hd0] at h2
                  cases hc : recs with
                  | nil => rw [hc] at hr0; exact hr0 rfl
                  | cons y ys =>
                    cases hdc : done with
                    | nil =>
                      rw [hc] at hd0
                      have h3 := restOf_start (List.map List.length (y :: ys)) 0 0
                      have hln := next_n_le 0 y.length 0 0 (by omega)
                      rcases Nat.eq_zero_or_pos (y.length - (nextEv 0 y.length 0 0).n) with h4 | h4
                      · rw [restOf_end _ 0 0 0 y.length rfl (.inl rfl) (by omega)] at h3
                        rw [hdc] at hd0
                        have h5 : plan 0 (List.map List.length (y :: ys)) 0 = [] := hd0.symm
                        rw [show List.drop 0 (List.map List.length (y :: ys)) = List.map List.length (y :: ys) from rfl, h5] at h3
                        cases h3
                      · rw [restOf_more _ 0 0 0 y.length rfl (.inl rfl) (by omega)] at h3
                        rw [hdc] at hd0
                        have h5 : plan 0 (List.map List.length (y :: ys)) 0 = [] := hd0.symm
                        rw [show List.drop 0 (List.map List.length (y :: ys)) = List.map List.length (y :: ys) from rfl, h5] at h3
                        cases h3
                    | cons e es =>
                      have h3 : e.fresh = true := plan_first (recs.map List.length) e es (by rw [← hd0, hdc])
                      rw [hdc] at h2
                      simp [freshN, h3] at h2
                · exact h1
              have HOL := Lib.hid hol
              have hob : oL.length ≤ 3000000 := HREL.out.bound HD.out h8.out (by omega)
              have HBw : Hid (B ≤ wr.heap.size) := by rw [HBW.out]; exact HF.out.size
              have HA1 : Hid (Fr (fun _ => False) wr (wr.alloc (.cells #[.slice N nL.length nc] 27))) := (Fr.refl (fun _ => False) wr).alloc _
              clear hd0 hE hL hol
              go_wp2_with (at_builtin; refine wpl_app rfl (.tmp 91) (.tmp 93) 47 rfl B 27 _ 1 24 Try.underlying47 Try.info27 rfl (by decide) (.slice U oL.length uc) oL.length vs rfl (HA1.out.own0 HRC.out.out) ⟨wr.heap.size, 0, none⟩ 1 1 [.slice N nL.length nc] rfl rfl (news_of (blk_new _ _)) (by simp [Value.oneCell']) (by simp [maxLen]; omega) (by omega) (Nat.le_trans HBw.out HA1.out.size) ?_; intro v2 w2 ho2 hg2 hm2; obtain ⟨A2, c2, rfl⟩ := own_slice ho2)
              have F2 : Fr (fun k => some k = (Value.slice U oL.length uc).ownBlock) wr w2 := HA1.out.none.grown hg2 (fun k hk => .inr hk.symm)
              have hP := HRC.out.push F2 ho2 (by
                rcases hm2 with hm2 | hm2
                · exact .inl hm2
                · exact .inr ⟨_, hm2, HA1.out.size⟩)
              go_ret2
              obtain ⟨A3, c3, e3, hc3, hr3⟩ := hP.read
              simp only [Value.slice.injEq] at e3
              obtain ⟨rfl, e4, rfl⟩ := e3
              have hF2 : Fr (fun k => B ≤ k) wz w2 := HF.out.trans' F2 (fun _ _ h => h) (fun k _ hk => (HRC.out.out.lt k hk.symm).1)
              have hb2 := hF2.below (Nat.le_refl _) (fun k h => by rw [← HBW.out]; exact h)
              rw [HWZ.out] at hb2
              exact ⟨A2, c2, by rw [HOL.out, HE.out, e4]; rfl, by rw [HOL.out]; exact hc3, by rw [HOL.out]; exact hr3, hb2⟩
end Go.Proofs.Ytedmhhllkkgbjaa
