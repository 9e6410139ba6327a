/- What a peer answers, as the document says it: Offer, Hear. -/
import Derived.Test.YtedmhhllkkgbjaaPe22
namespace Go.Proofs.Ytedmhhllkkgbjaa
open Go.RowKit Go.WideShapes

structure PS (w : World) (g : Nat) (n : Int) (bw bg : Nat) (SA : Option Addr) (sc kw kg : Nat) (Dw Dg : DataW Msg) (L : List (Msg × Bool)) (G : List Msg) : Prop where
  peer : PeerAt w g n (.slice SA (firsts L).length sc) bw bg kw kg Dw Dg
  row : w.ownsRow 0 71 5 (.slice SA (firsts L).length sc) (firsts L).length ((firsts L).flatMap Msg.cells)
  wait : WaitIs Dw L
  map : MapIs Dg G
  seq : ∀ (i : Nat) (x : Msg × Bool), L[i]? = some x → x.1.seq = (i : Int)
theorem PS.fr0 {w w' : World} {g : Nat} {n : Int} {bw bg : Nat} {SA : Option Addr} {sc kw kg : Nat} {Dw Dg : DataW Msg} {L : List (Msg × Bool)} {G : List Msg} (h : PS w g n bw bg SA sc kw kg Dw Dg L G) (hF : Fr (fun _ => False) w w') : PS w' g n bw bg SA sc kw kg Dw Dg L G :=
  ⟨h.peer.fr0 hF, hF.own0 h.row, h.wait, h.map, h.seq⟩

theorem ob (A : Option Addr) (n c : Nat) : (Value.slice A n c).ownBlock = (Value.slice A 0 0).ownBlock := by cases A <;> rfl
/-- what Offer, Hear may write -/
def Touch (g bw bg : Nat) (SA : Option Addr) (k : Nat) : Prop := k = g ∨ some k = (Value.slice SA 0 0).ownBlock ∨ k = bw ∨ k = bg

def offerOf (n : Int) (key : ByteArray) (x : Int) (L : List (Msg × Bool)) : Msg × Int × List (Msg × Bool) :=
  if (key.size : Int) < 1 ∨ 16 < (key.size : Int) ∨ x < 1 ∨ 1125899906842624 < x then (zMsg, 1, L)
  else if 64 ≤ (cnt L : Int) then (zMsg, 214, L)
  else (⟨1, n, L.length, key, x⟩, 0, L ++ [((⟨1, n, L.length, key, x⟩ : Msg), false)])

def OfferAll (w : World) (g : Nat) (n : Int) (bw bg : Nat) (SA : Option Addr) (kw kg : Nat) (Dg : DataW Msg) (G : List Msg) (m : Msg) (r : Int) (L' : List (Msg × Bool)) (e : Ending) (w' : World) : Prop :=
  ∃ SA' sc' kw' Dw', e = .returned (.tuple #[m.v, .int .i64 r]) ∧ PS w' g n bw bg SA' sc' kw' kg Dw' Dg L' G ∧ kw' ≤ kw + 1 ∧ Fr (Touch g bw bg SA) w w' ∧ Moved w (.slice SA 0 0) (.slice SA' 0 0)

theorem offer_all {w : World} {g : Nat} {n : Int} {bw bg : Nat} {SA : Option Addr} {sc kw kg : Nat} {Dw Dg : DataW Msg} {L : List (Msg × Bool)} {G : List Msg} (h : PS w g n bw bg SA sc kw kg Dw Dg L G) (hn : n ≠ 0) (key : ByteArray) (x : Int) (hkw : kw < maxLen) (hl : L.length < 1000000)
    {m : Msg} {r : Int} {L' : List (Msg × Bool)} (ho : offerOf n key x L = (m, r, L')) :
    Calls Try.prog 41 #[.pointer (some ⟨g, 0, none⟩), .string key, .int .i64 x] w (OfferAll w g n bw bg SA kw kg Dg G m r L') := by
  unfold offerOf at ho
  split at ho
  · rename_i hb
    simp only [Prod.mk.injEq] at ho
    obtain ⟨rfl, rfl, rfl⟩ := ho
    refine (offer_bad h.peer hn key x (by omega)).mono ?_
    rintro e w' ⟨rfl, hF⟩
    exact ⟨SA, sc, kw, Dw, rfl, h.fr0 hF, by omega, hF.none, .inl rfl⟩
  · rename_i hb
    have hsz := h.wait.size
    split at ho
    · rename_i hf
      simp only [Prod.mk.injEq] at ho
      obtain ⟨rfl, rfl, rfl⟩ := ho
      refine (offer_full h.peer hn key x (by omega) (by omega) (by omega) (by omega) (by omega)).mono ?_
      rintro e w' ⟨rfl, hF⟩
      exact ⟨SA, sc, kw, Dw, rfl, h.fr0 hF, by omega, hF.none, .inl rfl⟩
    · rename_i hf
      simp only [Prod.mk.injEq] at ho
      obtain ⟨rfl, rfl, rfl⟩ := ho
      have hfl := firsts_len L
      refine (offer_ok h.peer hn key x (by omega) (by omega) (by omega) (by omega) (by omega) hkw h.row (by omega)).mono ?_
      rintro e w' ⟨rfl, S', hP, hO, hF, hM⟩
      obtain ⟨A', c', rfl⟩ := own_slice hO
      simp only [hfl] at hP hO ⊢
      refine ⟨A', c', kw + 1, _, rfl, ⟨?_, ?_, h.wait.put ⟨1, n, L.length, key, x⟩, h.map, fun i y hy => ?_⟩, by omega, hF.mono (fun k _ hk => ?_), by unfold Moved at hM ⊢; rwa [ob A' _ c', ob SA _ sc] at hM⟩
      · rw [firsts_app]; exact hP
      · rw [firsts_app]; exact hO
      · rw [List.getElem?_append] at hy
        split at hy
        · exact h.seq i y hy
        · rename_i hi
          cases hc : i - L.length with
          | zero =>
            rw [hc] at hy
            simp at hy
            subst hy
            show (L.length : Int) = i
            omega
          | succ k => rw [hc] at hy; simp at hy
      · rcases hk with (hk | hk) | hk
        · exact .inl hk
        · exact .inr (.inl (by rw [hk]; exact ob SA _ sc))
        · exact .inr (.inr (.inl hk))

def ROfferAll (w : World) (n : Int) (LA : Option Addr) (GA : Option Addr) (gn gc : Nat) (m : Msg) (r : Int) (L' : List (Msg × Bool)) (e : Ending) (w' : World) : Prop :=
  ∃ A c, e = .returned (.tuple #[rpeer n A L'.length c GA gn gc, m.v, .int .i64 r]) ∧ ReadO w' A L' ∧ Fr (fun _ => False) w w' ∧ (A = LA ∨ L' ≠ [] ∧ ∀ g o, A = some ⟨g, o, none⟩ → w.heap.size ≤ g)
theorem roffer_all (w : World) (n : Int) (LA GA : Option Addr) (lc gn gc : Nat) (L : List (Msg × Bool)) (key : ByteArray) (x : Int) (hl : L.length ≤ 1000000) (hR : ReadO w LA L)
    {m : Msg} {r : Int} {L' : List (Msg × Bool)} (ho : offerOf n key x L = (m, r, L')) :
    Calls Try.prog 42 #[.agg #[.int .i64 n, .slice LA L.length lc, .slice GA gn gc], .string key, .int .i64 x] w (ROfferAll w n LA GA gn gc m r L') := by
  unfold offerOf at ho
  split at ho
  · rename_i hb
    simp only [Prod.mk.injEq] at ho
    obtain ⟨rfl, rfl, rfl⟩ := ho
    refine (roffer_bad w n LA GA L.length lc gn gc key x (by omega)).mono ?_
    rintro e w' ⟨rfl, hF⟩
    exact ⟨LA, lc, rfl, hR.fr hF (fun _ _ _ h => h), hF, .inl rfl⟩
  · rename_i hb
    split at ho
    · rename_i hf
      simp only [Prod.mk.injEq] at ho
      obtain ⟨rfl, rfl, rfl⟩ := ho
      refine (roffer_full w n LA GA lc gn gc L key x (by omega) (by omega) (by omega) (by omega) hf hl hR).mono ?_
      rintro e w' ⟨rfl, hF⟩
      exact ⟨LA, lc, rfl, hR.fr hF (fun _ _ _ h => h), hF, .inl rfl⟩
    · rename_i hf
      simp only [Prod.mk.injEq] at ho
      obtain ⟨rfl, rfl, rfl⟩ := ho
      refine (roffer_ok w n LA GA lc gn gc L key x (by omega) (by omega) (by omega) (by omega) hf hl hR).mono ?_
      rintro e w' ⟨A, c, ⟨rfl, hF⟩, hr, hfr⟩
      exact ⟨A, c, rfl, hr, hF, .inr ⟨by simp, hfr⟩⟩

def hearOf (n : Int) (m : Msg) (L : List (Msg × Bool)) : Msg × Bool × List (Msg × Bool) :=
  if m.peer = n ∧ 0 ≤ m.seq ∧ m.kind = 1 then (ack n m.seq, true, L)
  else if m.peer = n ∧ 0 ≤ m.seq ∧ m.kind = 2 then (zMsg, false, ackL L m.seq) else (zMsg, false, L)
def insG (G : List Msg) (m : Msg) (b : Bool) : List Msg := if b = true ∧ G.any (fun x => x.seq == m.seq) = false then G ++ [m] else G

def HearAll (w : World) (g : Nat) (n : Int) (bw bg : Nat) (SA : Option Addr) (sc kw kg : Nat) (G : List Msg) (m a : Msg) (b : Bool) (L' : List (Msg × Bool)) (e : Ending) (w' : World) : Prop :=
  ∃ kg' Dw' Dg', e = .returned (.tuple #[a.v, .bool b]) ∧ PS w' g n bw bg SA sc kw kg' Dw' Dg' L' (insG G m b) ∧ kg' ≤ kg + 1 ∧ Fr (Touch g bw bg SA) w w'

theorem firsts_ack (L : List (Msg × Bool)) (s : Int) : firsts (ackL L s) = firsts L := by
  unfold firsts ackL
  apply List.ext_getElem?
  intro i
  rw [List.getElem?_map, List.getElem?_map, List.getElem?_modify]
  split <;> cases L[i]? <;> rfl
theorem ack_len (L : List (Msg × Bool)) (s : Int) : (ackL L s).length = L.length := List.length_modify ..
theorem ack_far (L : List (Msg × Bool)) (s : Int) (h : ¬ s < (L.length : Int)) : ackL L s = L := by
  unfold ackL
  apply List.ext_getElem?
  intro i
  rw [List.getElem?_modify]
  split
  · rename_i e
    rw [List.getElem?_eq_none (by omega)]; rfl
  · simp

theorem hear_all {w : World} {g : Nat} {n : Int} {bw bg : Nat} {SA : Option Addr} {sc kw kg : Nat} {Dw Dg : DataW Msg} {L : List (Msg × Bool)} {G : List Msg} (h : PS w g n bw bg SA sc kw kg Dw Dg L G) (hn : n ≠ 0) (m : Msg) (hw : (Lit.int .i64 m.seq).wf = true) (hkg : kg < maxLen)
    {a : Msg} {b : Bool} {L' : List (Msg × Bool)} (ho : hearOf n m L = (a, b, L')) :
    Calls Try.prog 38 #[.pointer (some ⟨g, 0, none⟩), .agg #[.int .i64 m.kind, .int .i64 m.peer, .int .i64 m.seq, .string m.key, .int .i64 m.n]] w (HearAll w g n bw bg SA sc kw kg G m a b L') := by
  have hdeaf : ∀ e w', DeafPost w e w' → HearAll w g n bw bg SA sc kw kg G m zMsg false L e w' := by
    rintro e w' ⟨rfl, hF⟩
    exact ⟨kg, Dw, Dg, rfl, by rw [insG, if_neg (by simp)]; exact h.fr0 hF, by omega, hF.none⟩
  unfold hearOf at ho
  split at ho
  · rename_i hb
    obtain ⟨hp, hs, hk⟩ := hb
    simp only [Prod.mk.injEq] at ho
    obtain ⟨rfl, rfl, rfl⟩ := ho
    refine (hear_take h.peer hn m hk hp hs hw hkg).mono ?_
    rintro e w' ⟨rfl, hP, hF⟩
    have hne : ∀ k, (Value.slice SA (firsts L).length sc).ownBlock = some k → ¬ k = bg := fun k hk e => own_map h.row h.peer.got (by rw [← e]; exact hk.symm)
    refine ⟨kg + 1, Dw, _, rfl, ⟨hP, hF.own h.row hne, h.wait, ?_, h.seq⟩, by omega, hF.mono (fun k _ hk => .inr (.inr (.inr hk)))⟩
    rw [h.map.has_eq]
    unfold insG
    cases hc : G.any (fun x => x.seq == m.seq) with
    | true => simpa using h.map
    | false => simpa using h.map.put m hc
  · rename_i hb
    split at ho
    · rename_i hb2
      obtain ⟨hp, hs, hk⟩ := hb2
      simp only [Prod.mk.injEq] at ho
      obtain ⟨rfl, rfl, rfl⟩ := ho
      refine (hear_ack h.peer hn m hp hs hk hw).mono ?_
      rintro e w' ⟨rfl, hP, hF⟩
      have hne : ∀ k, (Value.slice SA (firsts L).length sc).ownBlock = some k → ¬ k = bw := fun k hk e => own_map h.row h.peer.waits (by rw [← e]; exact hk.symm)
      refine ⟨kg, _, Dg, rfl, ⟨by rw [firsts_ack]; exact hP, by rw [firsts_ack]; exact hF.own h.row hne, h.wait.del m.seq hs, by rw [insG, if_neg (by simp)]; exact h.map, fun i x hx => ?_⟩, by omega, hF.mono (fun k _ hk => .inr (.inr (.inl hk)))⟩
      unfold ackL at hx
      rw [List.getElem?_modify] at hx
      cases hc : L[i]? with
      | none => rw [hc] at hx; simp at hx
      | some y =>
        rw [hc] at hx
        have := h.seq i y hc
        split at hx
        · simp at hx; rw [← hx]; exact this
        · simp at hx; rw [← hx]; exact this
    · rename_i hb2
      simp only [Prod.mk.injEq] at ho
      obtain ⟨rfl, rfl, rfl⟩ := ho
      by_cases hp : m.peer = n
      · by_cases hs : m.seq < 0
        · exact (hear_neg h.peer hn m hp hs).mono hdeaf
        · exact (hear_else h.peer hn m hp (by omega) (fun e => hb ⟨hp, by omega, e⟩) (fun e => hb2 ⟨hp, by omega, e⟩)).mono hdeaf
      · exact (hear_peer h.peer hn m hp).mono hdeaf

def RHearAll (w : World) (n : Int) (LA GA : Option Addr) (G : List Msg) (m a : Msg) (b : Bool) (L' : List (Msg × Bool)) (e : Ending) (w' : World) : Prop :=
  ∃ A c A2 c2 G', e = .returned (.tuple #[rpeer n A L'.length c A2 (List.length G') c2, a.v, .bool b]) ∧ ReadO w' A L' ∧ ReadM w' A2 G' ∧ Fr (fun _ => False) w w' ∧ G'.Perm (insG G m b) ∧ (G.Pairwise (fun x y => x.seq < y.seq) → G'.Pairwise (fun x y => x.seq < y.seq)) ∧
    (A = LA ∨ L' ≠ [] ∧ ∀ g o, A = some ⟨g, o, none⟩ → w.heap.size ≤ g) ∧ (A2 = GA ∨ G' ≠ [] ∧ ∀ g o, A2 = some ⟨g, o, none⟩ → w.heap.size ≤ g)
theorem rhear_all (w : World) (n : Int) (LA GA : Option Addr) (lc gc : Nat) (L : List (Msg × Bool)) (G : List Msg) (m : Msg) (hl : L.length ≤ 1000000) (hg : G.length ≤ 1000000) (hR : ReadO w LA L) (hM : ReadM w GA G)
    {a : Msg} {b : Bool} {L' : List (Msg × Bool)} (ho : hearOf n m L = (a, b, L')) :
    Calls Try.prog 43 #[.agg #[.int .i64 n, .slice LA L.length lc, .slice GA G.length gc], .agg #[.int .i64 m.kind, .int .i64 m.peer, .int .i64 m.seq, .string m.key, .int .i64 m.n]] w (RHearAll w n LA GA G m a b L') := by
  have hdeaf : ∀ e w', RDeafPost w (rpeer n LA L.length lc GA G.length gc) e w' → RHearAll w n LA GA G m zMsg false L e w' := by
    rintro e w' ⟨rfl, hF⟩
    exact ⟨LA, lc, GA, gc, G, rfl, hR.fr hF (fun _ _ _ h => h), hM.fr hF (fun _ _ _ h => h), hF, by rw [insG, if_neg (by simp)], fun h => h, .inl rfl, .inl rfl⟩
  unfold hearOf at ho
  split at ho
  · rename_i hb
    obtain ⟨hp, hs, hk⟩ := hb
    simp only [Prod.mk.injEq] at ho
    obtain ⟨rfl, rfl, rfl⟩ := ho
    refine (rhear_take w n LA GA L.length lc gc G m hp hs hk hg hM).mono ?_
    rintro e w' ⟨A, c, G', rfl, hG, hr, hF, hA⟩
    have hpm : G'.Perm (insG G m true) := by
      unfold insG
      cases hc : G.any (fun x => x.seq == m.seq) with
      | true => rw [hG.same hc]; simp
      | false => simpa using hG.perm hc
    refine ⟨LA, lc, A, c, G', rfl, hR.fr hF (fun _ _ _ h => h), hr, hF, hpm, hG.rise, .inl rfl, ?_⟩
    rcases hA with hA | hA
    · exact .inl hA
    · refine .inr ⟨fun e => ?_, hA⟩
      subst e
      have h1 := hpm.length_eq
      unfold insG at h1
      cases hc : G.any (fun x => x.seq == m.seq) with
      | true =>
        have h2 := hG.same hc
        rw [← h2] at hc
        simp at hc
      | false => simp [hc] at h1
  · rename_i hb
    split at ho
    · rename_i hb2
      obtain ⟨hp, hs, hk⟩ := hb2
      simp only [Prod.mk.injEq] at ho
      obtain ⟨rfl, rfl, rfl⟩ := ho
      by_cases hf : m.seq < (L.length : Int)
      · refine (rhear_ack w n LA GA lc G.length gc L m hp hs hk hf hl hR).mono ?_
        rintro e w' ⟨A, c, ⟨rfl, hF⟩, hr, hA⟩
        refine ⟨A, c, GA, gc, G, by rw [ack_len], hr, hM.fr hF (fun _ _ _ h => h), hF, by rw [insG, if_neg (by simp)], fun h => h, .inr ⟨fun e => ?_, hA⟩, .inl rfl⟩
        have := congrArg List.length e
        rw [ack_len] at this
        simp at this
        rw [this] at hf
        simp at hf
        omega
      · rw [ack_far L m.seq hf]
        exact (rhear_far w n LA GA L.length lc G.length gc m hp hs hk hf).mono hdeaf
    · rename_i hb2
      simp only [Prod.mk.injEq] at ho
      obtain ⟨rfl, rfl, rfl⟩ := ho
      by_cases hp : m.peer = n
      · by_cases hs : m.seq < 0
        · exact (rhear_neg w n LA GA L.length lc G.length gc m hp hs).mono hdeaf
        · exact (rhear_else w n LA GA L.length lc G.length gc m hp (by omega) (fun e => hb ⟨hp, by omega, e⟩) (fun e => hb2 ⟨hp, by omega, e⟩)).mono hdeaf
      · exact (rhear_peer w n LA GA L.length lc G.length gc m hp).mono hdeaf
end Go.Proofs.Ytedmhhllkkgbjaa
