/- lienref08.payload: what a payload's fragments make. -/
import Derived.Test.YtedmhhllkkgbjaaFg23
namespace Go.Proofs.Ytedmhhllkkgbjaa
open Go.RowKit
set_option linter.unusedSimpArgs false
set_option linter.unusedVariables false

def payF : J → List (Int × List Int) → Option J
  | j, [] => some j
  | j, x :: l => (jstep j x.1 x.2).bind (fun j' => payF j' l)
def Parts (l : List (Int × List Int)) : Prop := ∀ x ∈ l, 1 ≤ x.1 ∧ x.1 ≤ 4 ∧ x.2.length ≤ 106
theorem rowF_parts : ∀ (f : Nat) (p : List Int) (l : List (Int × List Int)), rowF f p = some l → Parts l ∧ l.length ≤ f
  | 0, _, l, h => by cases h; exact ⟨fun x hx => by simp at hx, Nat.le_refl _⟩
  | f + 1, [], l, h => by cases h; exact ⟨fun x hx => by simp at hx, Nat.zero_le _⟩
  | f + 1, [_], l, h => by cases h
  | f + 1, k :: n :: p, l, h => by
    simp only [rowF] at h
    split at h
    · cases h
    · rename_i hc
      obtain ⟨l', h1, rfl⟩ := Option.map_eq_some_iff.1 h
      obtain ⟨h2, h3⟩ := rowF_parts f _ l' h1
      refine ⟨fun x hx => ?_, by simp; omega⟩
      rcases List.mem_cons.1 hx with rfl | hx
      · refine ⟨by show 1 ≤ k; omega, by show k ≤ 4; omega, ?_⟩
        show (p.take n.toNat).length ≤ 106
        rw [List.length_take]
        omega
      · exact h2 x hx
theorem rowL_parts {p : List Int} {l : List (Int × List Int)} (h : rowL p = some l) : Parts l ∧ l.length ≤ 108 := by
  unfold rowL at h
  split at h
  · cases h
  · have := rowF_parts _ _ _ h
    exact ⟨this.1, by omega⟩
theorem jrun_row : ∀ (f : Nat) (j : J) (p : List Int), jrun f j p = (rowF f p).bind (payF j)
  | 0, j, p => by simp [jrun, rowF, payF]
  | f + 1, j, [] => by simp [jrun, rowF, payF]
  | f + 1, j, [_] => by simp [jrun, rowF]
  | f + 1, j, k :: n :: p => by
    simp only [jrun, rowF]
    by_cases h1 : 106 < n ∨ p.length < n.toNat
    · rw [if_pos h1, if_pos (by omega)]
      rfl
    · rw [if_neg h1]
      by_cases h2 : k < 1 ∨ 4 < k
      · rw [if_pos (by omega)]
        have : jstep j k (p.take n.toNat) = none := by
          unfold jstep
          rw [if_neg (by omega), if_neg (by omega), if_neg (by omega)]
        rw [this]
        rfl
      · rw [if_neg (by omega)]
        cases hr : rowF f (p.drop n.toNat) with
        | none =>
          simp only [Option.map_none, Option.bind_none]
          cases jstep j k (p.take n.toNat) with
          | none => rfl
          | some j' => simp only [Option.bind_some]; rw [jrun_row f j' _, hr]; rfl
        | some l =>
          simp only [Option.map_some, Option.bind_some, payF]
          congr 1
          funext j'
          rw [jrun_row f j' _, hr]
          rfl
theorem jpay_row (j : J) (p : List Int) : jpay j p = (rowL p).bind (payF j) := by
  unfold jpay rowL
  split
  · rfl
  · exact jrun_row _ _ _

def PKS (S0 : Nat → Prop) (W : Value) (gs gr k : Nat) : Prop := S0 k ∨ some k = W.ownBlock ∨ k = gs ∨ k = gr
/-- what is put together so far -/
structure PK (S0 : Nat → Prop) (w0 : World) (gs gr : Nat) (w : World) (j : J) (W : Value) (vs : List Value) (OA : Option Addr) (oc : Nat) : Prop where
  box : w.heap[gs]? = some (.cells #[W, .bool j.begun, .slice OA j.opn.length oc] 118 (0, 0))
  res : w.heap[gr]? = some (.cells #[.slice none 0 0, .bool false, .slice none 0 0] 118 (0, 0))
  own : w.ownsRow w0.heap.size 27 1 W j.recs.length vs
  len : vs.length = j.recs.length
  els : ∀ (i : Nat) (x : List Int), j.recs[i]? = some x → ∃ PA pc, vs[i]? = some (.slice PA x.length pc) ∧ ReadBN (PKS S0 W gs gr) w PA pc x
  opn : ReadBN (PKS S0 W gs gr) w OA oc j.opn
  fr : Fr (fun k => w0.heap.size ≤ k) w0 w
  gs0 : w0.heap.size ≤ gs
  gr0 : w0.heap.size ≤ gr
  ne : gs ≠ gr
  s0 : ∀ k, S0 k → k < w0.heap.size
theorem PK.fr0 {S0 : Nat → Prop} {w0 : World} {gs gr : Nat} {w w' : World} {j : J} {W : Value} {vs : List Value} {OA : Option Addr} {oc : Nat} (h : PK S0 w0 gs gr w j W vs OA oc) (hF : Fr (fun _ => False) w w') : PK S0 w0 gs gr w' j W vs OA oc :=
  ⟨hF.blk0 h.box, hF.blk0 h.res, hF.own0 h.own, h.len, fun i x hx => by
    obtain ⟨PA, pc, h1, h2⟩ := h.els i x hx
    exact ⟨PA, pc, h1, h2.fr hF.none⟩, h.opn.fr hF.none, h.fr.trans hF (fun _ _ h => h.elim), h.gs0, h.gr0, h.ne, h.s0⟩

/-- a row of one's own, made behind the start, lies in none of those blocks -/
theorem PK.far {S0 : Nat → Prop} {w0 : World} {gs gr : Nat} {w : World} {W : Value} {vs : List Value} {n : Nat} (ho : w.ownsRow w0.heap.size 27 1 W n vs) (hgs : ∃ cs, w.heap[gs]? = some (.cells cs 118 (0, 0))) (hgr : ∃ cs, w.heap[gr]? = some (.cells cs 118 (0, 0))) (hs : ∀ k, S0 k → k < w0.heap.size)
    {A : Option Addr} {c : Nat} {b : List Int} (hb : w.ownsRow w0.heap.size 5 1 (.slice A b.length c) b.length (bytes b)) : ReadBN (PKS S0 W gs gr) w A c b := by
  refine ⟨readB_own hb, fun g o s e hx hk => ?_⟩
  subst e
  obtain ⟨c1, h1⟩ := hgs
  obtain ⟨c2, h2⟩ := hgr
  rcases hk with hk | hk | rfl | rfl
  · have h3 := hs g hk
    have h4 := (hb.lt g rfl).1
    omega
  · exact own_apart hb ho (by decide) (k := g) rfl hk.symm
  · exact own_ne hb h1 (by decide) rfl
  · exact own_ne hb h2 (by decide) rfl

/-- behind a record that is whole -/
theorem PK.whole {S0 : Nat → Prop} {w0 : World} {gs gr : Nat} {w w2 : World} {j : J} {W W' : Value} {vs : List Value} {OA : Option Addr} {oc : Nat} {A : Option Addr} {c : Nat} {b : List Int} (h : PK S0 w0 gs gr w j W vs OA oc) (hb : w.ownsRow w0.heap.size 5 1 (.slice A b.length c) b.length (bytes b))
    (hF : Fr (fun k => some k = W.ownBlock) w w2) (ho : w2.ownsRow w0.heap.size 27 1 W' (j.recs.length + 1) (vs ++ [.slice A b.length c])) (hm : W'.ownBlock = W.ownBlock ∨ ∃ g, W'.ownBlock = some g ∧ w.heap.size ≤ g) :
    PK S0 w0 gs gr (done3 w2 gs W' (.bool false) (.slice none 0 0)) ⟨j.recs ++ [b], [], false⟩ W' (vs ++ [.slice A b.length c]) none 0 := by
  have hne1 := own_ne h.own h.box (by decide)
  have hne2 := own_ne h.own h.res (by decide)
  have hbx := hF.blk h.box hne1
  have hrs := hF.blk h.res hne2
  have hb2 : w2.ownsRow w0.heap.size 5 1 (.slice A b.length c) b.length (bytes b) := hF.own hb (fun k hk e => own_apart hb h.own (by decide) hk e.symm)
  have hFd := done3_fr w2 gs W' (.bool false) (.slice none 0 0)
  have hsub : ∀ k, k < w.heap.size → PKS S0 W' gs gr k → PKS S0 W gs gr k := by
    intro k hk hs
    rcases hs with hs | hs | hs | hs
    · exact .inl hs
    · rcases hm with hm | ⟨g, hm, hg⟩
      · exact .inr (.inl (hs.trans hm))
      · rw [hm] at hs
        obtain rfl := Option.some.inj hs
        omega
    · exact .inr (.inr (.inl hs))
    · exact .inr (.inr (.inr hs))
  have hFS : Fr (fun k => k = gs) w2 (done3 w2 gs W' (.bool false) (.slice none 0 0)) := hFd
  have t2 : ∀ {PA : Option Addr} {pc : Nat} {x : List Int}, ReadBN (PKS S0 W' gs gr) w2 PA pc x → ReadBN (PKS S0 W' gs gr) (done3 w2 gs W' (.bool false) (.slice none 0 0)) PA pc x := fun hx => hx.fr (hFS.mono (fun k _ hk => .inr (.inr (.inl hk))))
  have hone := own_ne ho hbx (by decide)
  refine ⟨done3_blk hbx, hFd.blk hrs (fun e => h.ne e.symm), ?_, by simp [h.len], fun i x hx => ?_, ReadBN.nil _ _, ?_, h.gs0, h.gr0, h.ne, h.s0⟩
  · have := hFd.own ho (fun k hk e => hone (by rw [← e]; exact hk.symm))
    simpa using this
  · by_cases hi : i < j.recs.length
    · rw [List.getElem?_append_left hi] at hx
      rw [List.getElem?_append_left (by rw [h.len]; exact hi)]
      obtain ⟨PA, pc, h1, h2⟩ := h.els i x hx
      exact ⟨PA, pc, h1, t2 (h2.turn (hF.mono (fun k _ hk => .inr (.inl hk))) hsub)⟩
    · have : i = j.recs.length := by
        have := (List.getElem?_eq_some_iff.1 hx).1
        simp at this
        omega
      subst this
      obtain rfl : b = x := by simpa using hx
      exact ⟨A, c, by rw [← h.len]; simp, t2 (PK.far ho ⟨_, hbx⟩ ⟨_, hrs⟩ h.s0 hb2)⟩
  · exact (h.fr.trans' hF (fun _ _ h => h) (fun k _ hk => (h.own.lt k hk.symm).1)).trans' hFd (fun _ _ h => h) (fun k _ hk => by show _ ≤ k; rw [hk]; exact h.gs0)
/-- behind a record that is begun -/
theorem PK.begin {S0 : Nat → Prop} {w0 : World} {gs gr : Nat} {w : World} {j : J} {W : Value} {vs : List Value} {OA : Option Addr} {oc : Nat} {A : Option Addr} {c : Nat} {b : List Int} (h : PK S0 w0 gs gr w j W vs OA oc) (hb : w.ownsRow w0.heap.size 5 1 (.slice A b.length c) b.length (bytes b)) :
    PK S0 w0 gs gr ((w.setCell ⟨gs, 1, none⟩ (.bool true)).setCell ⟨gs, 2, none⟩ (.slice A b.length c)) ⟨j.recs, b, true⟩ W vs A c := by
  have hF := set12_fr w gs (.bool true) (.slice A b.length c)
  have hone := own_ne h.own h.box (by decide)
  have hFS : Fr (PKS S0 W gs gr) w ((w.setCell ⟨gs, 1, none⟩ (.bool true)).setCell ⟨gs, 2, none⟩ (.slice A b.length c)) := hF.mono (fun k _ hk => .inr (.inr (.inl hk)))
  refine ⟨set12_blk h.box, hF.blk h.res (fun e => h.ne e.symm), hF.own h.own (fun k hk e => hone (by rw [← e]; exact hk.symm)), h.len, fun i x hx => ?_, (PK.far h.own ⟨_, h.box⟩ ⟨_, h.res⟩ h.s0 hb).fr hFS, h.fr.trans' hF (fun _ _ h => h) (fun k _ hk => by show _ ≤ k; rw [hk]; exact h.gs0), h.gs0, h.gr0, h.ne, h.s0⟩
  obtain ⟨PA, pc, h1, h2⟩ := h.els i x hx
  exact ⟨PA, pc, h1, h2.fr hFS⟩

def RPayPost (S0 : Nat → Prop) (w0 : World) (target : Option J) (e : Ending) (w' : World) : Prop :=
  Below w0.heap.size w0 w' ∧ ((target = none ∧ e = .returned (.tuple #[.agg #[.slice none 0 0, .bool false, .slice none 0 0], .bool false])) ∨
    ∃ j RA rc OA oc, target = some j ∧ e = .returned (.tuple #[.agg #[.slice RA j.recs.length rc, .bool j.begun, .slice OA j.opn.length oc], .bool true]) ∧ j.recs.length ≤ rc ∧ ReadRN S0 w' RA j.recs ∧ ReadBN S0 w' OA oc j.opn)
theorem PK.done {S0 : Nat → Prop} {w0 : World} {gs gr : Nat} {w : World} {j : J} {W : Value} {vs : List Value} {OA : Option Addr} {oc : Nat} (h : PK S0 w0 gs gr w j W vs OA oc) (w' : World) (hF : Fr (fun k => k = gr) w w') :
    ∃ RA rc, W = .slice RA j.recs.length rc ∧ j.recs.length ≤ rc ∧ ReadRN S0 w' RA j.recs ∧ ReadBN S0 w' OA oc j.opn ∧ Below w0.heap.size w0 w' := by
  have ho := h.own
  obtain ⟨RA, rc, rfl⟩ := own_slice ho
  have hn := own_news ho
  have hFS : Fr (PKS S0 (.slice RA j.recs.length rc) gs gr) w w' := hF.mono (fun k _ hk => .inr (.inr (.inr hk)))
  have hge : ∀ k, S0 k → ¬ w0.heap.size ≤ k := fun k hk h' => by have := h.s0 k hk; omega
  refine ⟨RA, rc, rfl, ?_, fun i x hx => ?_, (h.opn.fr hFS).less (fun k hk => .inl hk), (h.fr.trans' hF (fun _ _ h => h) (fun k _ hk => by show _ ≤ k; rw [hk]; exact h.gr0)).below (Nat.le_refl _) (fun _ h => h)⟩
  · rcases ho.2 with ⟨hv, hx⟩ | ⟨g2, c2, cur, hv, _, _, hc, _⟩
    · rw [hx]; exact Nat.zero_le _
    · simp only [Value.slice.injEq] at hv
      rw [hv.2.2]
      exact hc
  · obtain ⟨PA, pc, h1, h2⟩ := h.els i x hx
    have hi := (List.getElem?_eq_some_iff.1 hx).1
    rcases ho.2 with ⟨hv, h0⟩ | ⟨g2, c2, cur, hv, hg2, hbl, _⟩
    · omega
    · simp only [Value.slice.injEq] at hv
      obtain ⟨rfl, _, _⟩ := hv
      have hcell := hn.1 _ rfl i _ h1
      rw [add_some] at hcell
      have hne := own_ne ho h.res (by decide)
      exact ⟨g2, 0, PA, pc, rfl, fun hs => hge g2 hs hg2, hF.cell hcell (fun e => hne (by rw [← e]; rfl)), (h2.fr hFS).less (fun k hk => .inl hk)⟩
end Go.Proofs.Ytedmhhllkkgbjaa
