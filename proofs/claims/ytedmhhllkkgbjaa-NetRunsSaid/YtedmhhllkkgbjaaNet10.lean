/- NetRuns' walk. -/
import Derived.Test.YtedmhhllkkgbjaaNet9
import Derived.Test.YtedmhhllkkgbjaaNet7
namespace Go.Proofs.Ytedmhhllkkgbjaa
open Go.RowKit

structure StepD where
  kind : Int
  m : Mail
  ix : Int

def StepD.cells (s : StepD) : List Value := [.int .u8 s.kind, .int .i64 s.m.fr, .int .i64 s.m.rc, .string s.m.text, .int .i64 s.ix]

/-- The steps that came in. -/
def StepsAt (w : World) (A : Option Addr) (ss : List StepD) : Prop :=
  0 < ss.length → ∃ g o, A = some ⟨g, o, none⟩ ∧ ∀ i s, ss[i]? = some s → (0 ≤ s.kind ∧ s.kind ≤ 255) ∧ ∀ j u, s.cells[j]? = some u → w.cell? ⟨g, o + i * 5 + j, none⟩ = some u
theorem StepsAt.fr {w w' : World} {A : Option Addr} {ss : List StepD} (h : StepsAt w A ss) (hF : Fr (fun _ => False) w w') : StepsAt w' A ss := fun hp => by
  obtain ⟨g, o, hA, hc⟩ := h hp
  exact ⟨g, o, hA, fun i s hs => ⟨(hc i s hs).1, fun j u hu => hF.cell0 ((hc i s hs).2 j u hu)⟩⟩

def RunsInv (W : World) (b : Nat) (u : Value) (wr : World) : Prop :=
  ∃ v l, NetAt wr b v l ∧ RowOf wr W.heap.size u l ∧ l.length ≤ 256 ∧ Fr (fun _ => False) W wr ∧ W.heap.size ≤ b ∧ (∀ g, v.ownBlock = some g → W.heap.size ≤ g) ∧ (∀ g, u.ownBlock = some g → ¬ Foot b v g)

/-- Within a round: the step, its text cut. -/
def StepW (W : World) (B b : Nat) (v u : Value) (l : List Mail) (gs : Nat) (s : StepD) (wc : World) : Prop :=
  ∃ t : ByteArray, wc.heap[gs]? = some (.cells #[.int .u8 s.kind, .int .i64 s.m.fr, .int .i64 s.m.rc, .string t, .int .i64 s.ix] 38 (0, 0)) ∧ NetAt wc b v l ∧ RowOf wc B u l ∧ Fr (fun _ => False) W wc

theorem StepW.store {W : World} {B b : Nat} {v u : Value} {l : List Mail} {gs : Nat} {s : StepD} {wc : World} (h : StepW W B b v u l gs s wc) (t : ByteArray) (_h1 : b ≠ gs) (h2 : ∀ g, Foot b v g → g ≠ gs) (h3 : ∀ g, u.ownBlock = some g → g ≠ gs) (h4 : W.heap.size ≤ gs) :
    StepW W B b v u l gs s (wc.setCell ⟨gs, 3, none⟩ (.string t)) := by
  obtain ⟨t0, hn, H, R, hF⟩ := h
  have hS : Fr (fun k => k = gs) wc (wc.setCell ⟨gs, 3, none⟩ (.string t)) := Fr.setCell (S := fun k => k = gs) (p := ⟨gs, 3, none⟩) (Fr.refl _ _) (.inr rfl) _
  exact ⟨t, by simpa using blk_set hn 3 (.string t), H.kept hS h2, R.fr hS h3, hF.setCell (p := ⟨gs, 3, none⟩) (.inl h4) _⟩

/-- Behind the call and the reference's: they told the same. -/
def BothW (W : World) (b g9 g10 : Nat) (s4 s7 s8 : Value) (wc : World) : Prop :=
  ∃ (v : Value) (l : List Mail) (e : Int) (m : Mail), s7 = .int .i64 e ∧ s8 = .int .i64 e ∧ NetAt wc b v l ∧ RowOf wc W.heap.size s4 l ∧ l.length ≤ 256 ∧ Fr (fun _ => False) W wc ∧ (∀ g, v.ownBlock = some g → W.heap.size ≤ g) ∧ (∀ g, s4.ownBlock = some g → ¬ Foot b v g) ∧
    wc.heap[g9]? = some (.cells m.cells.toArray 29 (0, 0)) ∧ wc.heap[g10]? = some (.cells m.cells.toArray 29 (0, 0))

theorem set3_fr (w : World) (g : Nat) (x y z : Value) : Fr (fun k => k = g) w (((w.setCell ⟨g, 0, none⟩ x).setCell ⟨g, 1, none⟩ y).setCell ⟨g, 2, none⟩ z) :=
  Fr.setCell (S := fun k => k = g) (p := ⟨g, 2, none⟩) (Fr.setCell (S := fun k => k = g) (p := ⟨g, 1, none⟩) (Fr.setCell (S := fun k => k = g) (p := ⟨g, 0, none⟩) (Fr.refl _ _) (.inr rfl) x) (.inr rfl) y) (.inr rfl) z

/-- What holds ahead of the two calls. -/
structure Ahead (W w : World) (b g9 g10 gs : Nat) (v u : Value) (l : List Mail) : Prop where
  fr : Fr (fun _ => False) W w
  net : NetAt w b v l
  row : RowOf w W.heap.size u l
  hb : W.heap.size ≤ b
  hv : ∀ g, v.ownBlock = some g → W.heap.size ≤ g
  hd : ∀ g, u.ownBlock = some g → ¬ Foot b v g
  h9 : W.heap.size ≤ g9 ∧ g9 < w.heap.size ∧ (∀ g, Foot b v g → g ≠ g9) ∧ (∀ g, u.ownBlock = some g → g ≠ g9)
  h10 : W.heap.size ≤ g10 ∧ g10 < w.heap.size ∧ (∀ g, Foot b v g → g ≠ g10) ∧ (∀ g, u.ownBlock = some g → g ≠ g10)
  hgs : gs < w.heap.size ∧ (∀ g, Foot b v g → g ≠ gs) ∧ (∀ g, u.ownBlock = some g → g ≠ gs) ∧ gs ≠ g9 ∧ gs ≠ g10
  hne : g9 ≠ g10

theorem Ahead.mid {W w w1 : World} {b g9 g10 gs : Nat} {v u : Value} {l : List Mail} (h : Ahead W w b g9 g10 gs v u l) (hF : Fr (fun k => Foot b v k ∨ k = g9) w w1) :
    Below W.heap.size W w1 ∧ RowOf w1 W.heap.size u l ∧ Fr (fun _ => False) W w1 := by
  have hW : Fr (fun _ => False) W w1 := h.fr.trans hF (fun k hk hs => by
    rcases hs with (rfl | hs) | rfl
    · have := h.hb; omega
    · have := h.hv k hs.symm; omega
    · have := h.h9.1; omega)
  exact ⟨hW.below0, h.row.fr hF (fun k hk hs => hs.elim (h.hd k hk) (h.h9.2.2.2 k hk)), hW⟩

theorem Ahead.foot9 {W w : World} {b g9 g10 gs : Nat} {v u v1 : Value} {l : List Mail} (h : Ahead W w b g9 g10 gs v u l) (hm : Moved w v v1) : ∀ k, Foot b v1 k → k ≠ g9 := by
  rintro k (rfl | hk)
  · exact h.h9.2.2.1 k (.inl rfl)
  · rcases hm with hm | ⟨g, hg, hge⟩
    · exact h.h9.2.2.1 k (.inr (hk.trans hm))
    · rw [hg, Option.some.injEq] at hk
      have := h.h9.2.1
      omega

theorem Ahead.close {W w w1 w2 w3 : World} {b g9 g10 gs : Nat} {v u v1 u2 : Value} {l l' : List Mail} {e : Int} {m : Mail} (h : Ahead W w b g9 g10 gs v u l)
    (hF1 : Fr (fun k => Foot b v k ∨ k = g9) w w1) (H1 : NetAt w1 b v1 l') (hm1 : Moved w v v1) (R2 : RowOf w2 W.heap.size u2 l') (hF2 : Fr (fun k => u.ownBlock = some k) w1 w2) (hc2 : Came w1 u u2)
    (hF3 : Fr (fun k => k = g10) w2 w3) (hl : l'.length ≤ 256) (h9 : w1.heap[g9]? = some (.cells m.cells.toArray 29 (0, 0))) (h10 : w3.heap[g10]? = some (.cells m.cells.toArray 29 (0, 0))) :
    BothW W b g9 g10 u2 (.int .i64 e) (.int .i64 e) w3 := by
  have hW1 := (h.mid hF1).2.2
  have hs0 := h.fr.size
  have hs1 := hF1.size
  have hs2 := hF2.size
  -- the net's blocks are none of the row's
  have hv1 : ∀ k, Foot b v1 k → u.ownBlock ≠ some k := by
    rintro k (rfl | hk) hu
    · exact h.hd k hu (.inl rfl)
    · rcases hm1 with hm | ⟨g, hg, hge⟩
      · exact h.hd k hu (.inr (hk.trans hm))
      · rw [hg, Option.some.injEq] at hk
        have := own_lt h.row.1 k hu
        omega
  have hv10 : ∀ k, Foot b v1 k → k ≠ g10 := by
    rintro k (rfl | hk)
    · exact h.h10.2.2.1 k (.inl rfl)
    · rcases hm1 with hm | ⟨g, hg, hge⟩
      · exact h.h10.2.2.1 k (.inr (hk.trans hm))
      · rw [hg, Option.some.injEq] at hk
        have := h.h10.2.1
        omega
  have hu10 : ∀ k, u2.ownBlock = some k → k ≠ g10 := by
    intro k hk
    rcases hc2 k hk with h' | h'
    · exact h.h10.2.2.2 k h'
    · have := h.h10.2.1; omega
  have H2 := H1.kept hF2 hv1
  have H3 := H2.kept hF3 hv10
  have R3 := R2.fr hF3 hu10
  have hW2 : Fr (fun _ => False) W w2 := hW1.trans hF2 (fun k hk hs => by have := h.row.2 k hs; omega)
  have hW3 : Fr (fun _ => False) W w3 := hW2.trans hF3 (fun k hk hs => by have := h.h10.1; omega)
  refine ⟨v1, l', e, m, rfl, rfl, H3, R3, hl, hW3, ?_, ?_, ?_, h10⟩
  · intro k hk
    rcases hm1 with hm | ⟨g, hg, hge⟩
    · exact h.hv k (hm ▸ hk)
    · rw [hg, Option.some.injEq] at hk; omega
  · intro k hk hf
    rcases hc2 k hk with h' | h'
    · exact hv1 k hf h'
    · have := H1.lt k hf; omega
  · exact hF3.blk (hF2.blk h9 (fun hk => h.h9.2.2.2 _ hk rfl)) h.hne

theorem sendL_len (l : List Mail) (m : Mail) (h : l.length ≤ 256) : (sendL l m).length ≤ 256 := by
  unfold sendL
  split
  · exact h
  · split
    · exact h
    · rw [List.length_append, List.length_singleton]; omega
theorem takeL_len (l : List Mail) (i : Int) (h : l.length ≤ 256) : (takeL l i).length ≤ 256 := by
  unfold takeL
  split
  · rw [List.length_eraseIdx]; split <;> omega
  · exact h
theorem twinL_len (l : List Mail) (i : Int) (h : l.length ≤ 256) : (twinL l i).length ≤ 256 := by
  unfold twinL
  split
  · split
    · exact h
    · rw [List.length_append, List.length_singleton]; omega
  · exact h

def RunsPost (w : World) (e : Ending) (w' : World) : Prop := e = .returned (.bool true) ∧ Below w.heap.size w w'

set_option maxRecDepth 100000 in
set_option maxHeartbeats 2000000 in
theorem netRuns_any {w : World} {A : Option Addr} {c : Nat} {ss : List StepD} (h : StepsAt w A ss) (hlc : ss.length ≤ 9223372036854775807) : Calls Try.prog 4 #[.slice A ss.length c] w (RunsPost w) := by
  go_enter Try.func4, Try.ntmps4
  go_wp2_with fail
  refine (net_New w).mono ?_
  rintro e w1 ⟨rfl, rfl⟩
  obtain ⟨w1, he, hn1, hF1, hz1⟩ := alloc1 w (.cells #[.slice none 0 0, .bool true] 96)
  rw [he]
  have H1 : NetAt w1 w.heap.size (.slice none 0 0) [] := ⟨hn1, World.ownsRow_nil _ _ _ _⟩
  have HF1 := Lib.hid hF1
  clear he hn1 hF1 hz1
  generalize hb : w.heap.size = b at H1 ⊢
  have HB := Lib.hid hb
  clear hb
  go_wp2_with fail
  refine (awake_net w1).mono ?_
  rintro e w2 ⟨rfl, hF2⟩
  have H2 := H1.kept hF2 (fun _ _ x => x)
  have I0 : RunsInv w b (.slice none 0 0) w2 := ⟨_, [], H2, ⟨World.ownsRow_nil _ _ _ _, fun k hk => by simp [Value.ownBlock] at hk⟩, by simp, HF1.out.trans hF2 (fun _ _ x => x), Nat.le_of_eq HB.out, fun k hk => by simp [Value.ownBlock] at hk, fun k hk => by simp [Value.ownBlock] at hk⟩
  clear HF1 hF2 H1 H2
  go_wp2_with fail
  go_loopw [4, 5] (fun u s wr => ∃ k : Nat, k ≤ ss.length ∧ k ≤ 60 ∧ s = .int .i64 k ∧ RunsInv w b u wr) (fun _ s _ => ss.length - (intOf s).toNat)
  case atStart => exact ⟨0, by omega, by omega, rfl, I0⟩
  case round =>
    obtain ⟨k, hk, hk60, rfl, v, l, H, R, hl, hF, hwb, hv, hd⟩ := hrel
    have HF := Lib.hid hF
    have HV := Lib.hid hv
    have HD := Lib.hid hd
    clear hF hv hd
    by_cases hlt : k < ss.length ∧ k < 60
    · obtain ⟨h1, h2⟩ := hlt
      obtain ⟨s, hs⟩ : ∃ s, ss[k]? = some s := ⟨_, List.getElem?_eq_getElem h1⟩
      obtain ⟨g, o, rfl, hc⟩ := (h.fr HF.out) (by omega)
      obtain ⟨⟨hk0, hk1⟩, hcs⟩ := hc k s hs
      have c0 := hcs 0 _ rfl
      have c1 := hcs 1 _ rfl
      have c2 := hcs 2 _ rfl
      have c3 := hcs 3 _ rfl
      have c4 := hcs 4 _ rfl
      simp only [Nat.add_zero] at c0
      clear hc hcs I0 h hs
      go_upto_region 9 with (fail)
      obtain ⟨w3, he, hn, hF3, hsz⟩ := alloc1 wr (.cells #[.int .u8 s.kind, .int .i64 s.m.fr, .int .i64 s.m.rc, .string s.m.text, .int .i64 s.ix] 38)
      rw [he]
      have HS : StepW w w.heap.size b v u4 l wr.heap.size s w3 := ⟨s.m.text, hn, H.kept hF3 (fun _ _ x => x), R.fr hF3 (fun _ _ x => x), HF.out.trans hF3 (fun _ _ x => x)⟩
      have HS' := Lib.hid HS
      clear he hsz hF3 c0 c1 c2 c3 c4 HS
      have hgs : b ≠ wr.heap.size ∧ (∀ g, Foot b v g → g ≠ wr.heap.size) ∧ (∀ g, u4.ownBlock = some g → g ≠ wr.heap.size) ∧ w.heap.size ≤ wr.heap.size := ⟨fun e => by have := blk_lt H.blk; omega, fun g hg e => by have := H.lt g hg; omega, fun g hg e => by have := own_lt R.1 g hg; omega, HF.out.size⟩
      clear H R
      generalize wr.heap.size = gs at hn HS' hgs ⊢
      have HGS := Lib.hid hgs
      clear hgs
      have d3 : w3.cell? ⟨gs, 3, none⟩ = some (.string s.m.text) := blk_cell hn 3
      have f3 := blk_frozen hn 3
      go_upto_if 36 with (fail)
      go_cut [] (fun wc => StepW w w.heap.size b v u4 l gs s wc)
      case first =>
        by_cases hz : 5000 < s.m.text.size
        · have hz' : decide ((5000 : Int) < (s.m.text.size : Int)) = true := by simp; omega
          go_wp2
          go_meet
          case rel => exact HS'.out.store _ HGS.out.1 HGS.out.2.1 HGS.out.2.2.1 HGS.out.2.2.2
        · have hz' : decide ((5000 : Int) < (s.m.text.size : Int)) = false := by simp; omega
          go_wp2
          go_meet
          case rel => exact HS'.out
      case rest =>
        clear HS' d3 f3
        obtain ⟨t, hn, H, R, hF⟩ := hcut
        have HF4 := Lib.hid hF
        clear hF
        go_upto_region 13 with (fail)
        obtain ⟨w5, he, hn1, hn2, hF5, hsz⟩ := alloc2 wc (.cells #[.int .i64 0, .int .i64 0, .string ⟨#[]⟩] 29) (.cells #[.int .i64 0, .int .i64 0, .string ⟨#[]⟩] 29)
        rw [he]
        have HH := H.kept hF5 (fun _ _ x => x)
        have RR := R.fr hF5 (fun _ _ x => x)
        have hn5 := hF5.blk0 hn
        have HF5 := Lib.hid (HF4.out.trans hF5 (fun _ _ x => x))
        have hapart : (∀ g, Foot b v g → g ≠ wc.heap.size ∧ g ≠ wc.heap.size + 1) ∧ (∀ g, u4.ownBlock = some g → g ≠ wc.heap.size ∧ g ≠ wc.heap.size + 1) ∧ gs ≠ wc.heap.size ∧ gs ≠ wc.heap.size + 1 ∧ w.heap.size ≤ wc.heap.size :=
          ⟨fun g hg => by have := H.lt g hg; omega, fun g hg => by have := own_lt R.1 g hg; omega, by have := blk_lt hn; omega, by have := blk_lt hn; omega, HF4.out.size⟩
        have AA : Ahead w w5 b wc.heap.size (wc.heap.size + 1) gs v u4 l := ⟨HF5.out, HH, RR, hwb, HV.out, HD.out,
          ⟨hapart.2.2.2.2, by omega, fun g hg => (hapart.1 g hg).1, fun g hg => (hapart.2.1 g hg).1⟩, ⟨by have := hapart.2.2.2.2; omega, by omega, fun g hg => (hapart.1 g hg).2, fun g hg => (hapart.2.1 g hg).2⟩,
          ⟨blk_lt hn5, HGS.out.2.1, HGS.out.2.2.1, hapart.2.2.1, hapart.2.2.2.1⟩, by omega⟩
        have hlt5 : b < w5.heap.size := blk_lt HH.blk
        clear he hF5 hsz hapart H R hn HF4 HH RR HF5 HV HD HGS
        generalize hg10 : wc.heap.size + 1 = g10 at hn2 AA ⊢
        have HG10 := Lib.hid hg10
        clear hg10
        generalize wc.heap.size = g9 at hn1 AA HG10 ⊢
        have x0 : w5.cell? ⟨gs, 0, none⟩ = some (.int .u8 s.kind) := blk_cell hn5 0
        have x1 : w5.cell? ⟨gs, 1, none⟩ = some (.int .i64 s.m.fr) := blk_cell hn5 1
        have x2 : w5.cell? ⟨gs, 2, none⟩ = some (.int .i64 s.m.rc) := blk_cell hn5 2
        have x3 : w5.cell? ⟨gs, 3, none⟩ = some (.string t) := blk_cell hn5 3
        have x4 : w5.cell? ⟨gs, 4, none⟩ = some (.int .i64 s.ix) := blk_cell hn5 4
        go_upto_block 2 with (fail)
        go_cut [4, 7, 8] (fun s4 s7 s8 wd => BothW w b g9 g10 s4 s7 s8 wd)
        case first =>
          by_cases q0 : s.kind % 5 = 0
          · have b0 : (s.kind % 5 == 0) = true := by simp [q0]
            clear q0
            go_wp2_with fail
            refine (send_raw AA.net s.m.fr s.m.rc t).mono ?_
            rintro e w6 ⟨rfl, v6, H6, hF6, hm6⟩
            have hF6' : Fr (fun k => Foot b v k ∨ k = g9) w5 w6 := hF6.mono (fun _ _ h => .inl h)
            obtain ⟨hB6, R6, _⟩ := AA.mid hF6'
            have hn6 := hF6.blk hn5 (fun hf => AA.hgs.2.1 _ hf rfl)
            have h96 := hF6.blk hn1 (fun hf => AA.h9.2.2.1 _ hf rfl)
            have h106 := hF6.blk hn2 (fun hf => AA.h10.2.2.1 _ hf rfl)
            have y1 : w6.cell? ⟨gs, 1, none⟩ = some (.int .i64 s.m.fr) := blk_cell hn6 1
            have y2 : w6.cell? ⟨gs, 2, none⟩ = some (.int .i64 s.m.rc) := blk_cell hn6 2
            have y3 : w6.cell? ⟨gs, 3, none⟩ = some (.string t) := blk_cell hn6 3
            have HF6 := Lib.hid hF6'
            have HM6 := Lib.hid hm6
            clear hF6 hm6 hF6'
            go_wp2_with fail
            refine (rsend_any hB6 R6 ⟨s.m.fr, s.m.rc, t⟩ (by omega)).mono ?_
            rintro e w7 ⟨u7, rfl, R7, hF7, hc7⟩
            have h107 := hF7.blk h106 (fun hf => AA.h10.2.2.2 _ hf rfl)
            have BB : BothW w b g9 g10 u7 (.int .i64 (sendE l ⟨s.m.fr, s.m.rc, t⟩)) (.int .i64 (sendE l ⟨s.m.fr, s.m.rc, t⟩)) w7 :=
              AA.close (m := zmail) HF6.out H6 HM6.out R7 hF7 hc7 (Fr.refl _ _) (sendL_len _ _ hl) h96 h107
            clear hF7 hc7 R7
            go_wp2
            go_meet
            case rel => exact BB
          · have b0 : (s.kind % 5 == 0) = false := by simp [q0]
            clear q0
            by_cases q1 : s.kind % 5 = 1
            · have b1 : (s.kind % 5 == 1) = true := by simp [q1]
              clear q1
              go_wp2_with fail
              refine (take_any AA.net s.ix (by omega)).mono ?_
              rintro e w6 ⟨rfl, v6, H6, hF6, hm6⟩
              have hF6' : Fr (fun k => Foot b v k ∨ k = g9) w5 w6 := hF6.mono (fun _ _ h => .inl h)
              have hn6 := hF6.blk hn5 (fun hf => AA.hgs.2.1 _ hf rfl)
              have h96 := hF6.blk hn1 (fun hf => AA.h9.2.2.1 _ hf rfl)
              have h106 := hF6.blk hn2 (fun hf => AA.h10.2.2.1 _ hf rfl)
              have HM6 := Lib.hid hm6
              have HF6 := Lib.hid hF6'
              clear hF6 hm6 hF6'
              have z0 : w6.cell? ⟨g9, 0, none⟩ = some (.int .i64 0) := blk_cell h96 0
              have z1 : w6.cell? ⟨g9, 1, none⟩ = some (.int .i64 0) := blk_cell h96 1
              have z2 : w6.cell? ⟨g9, 2, none⟩ = some (.string ⟨#[]⟩) := blk_cell h96 2
              have f0 := blk_frozen h96 0
              have f1 := blk_frozen h96 1
              have f2 := blk_frozen h96 2
              have y4 : w6.cell? ⟨gs, 4, none⟩ = some (.int .i64 s.ix) := blk_cell hn6 4
              have hgg := AA.hgs.2.2.2.1
              unfold Mail.val
              generalize hm : takeM l s.ix = m
              have HM := Lib.hid hm
              clear hm
              go_wp2_with fail
              have h97 := set3 (x := .int .i64 m.fr) (y := .int .i64 m.rc) (z := .string m.text) h96
              have hS := set3_fr w6 g9 (.int .i64 m.fr) (.int .i64 m.rc) (.string m.text)
              clear z0 z1 z2 f0 f1 f2 y4 h96
              generalize ((w6.setCell ⟨g9, 0, none⟩ (.int .i64 m.fr)).setCell ⟨g9, 1, none⟩ (.int .i64 m.rc)).setCell ⟨g9, 2, none⟩ (.string m.text) = w6s at *
              have hv6 : ∀ k, Foot b v6 k → k ≠ g9 := AA.foot9 HM6.out
              have H6s := H6.kept hS hv6
              have hF6s : Fr (fun k => Foot b v k ∨ k = g9) w5 w6s := HF6.out.trans hS (fun _ _ h => .inr h)
              have hn6s := hS.blk hn6 AA.hgs.2.2.2.1
              have h106s := hS.blk h106 (fun e => AA.hne e.symm)
              obtain ⟨hB6, R6, _⟩ := AA.mid hF6s
              have HF6s := Lib.hid hF6s
              clear hS hF6s HF6 hn6 h106 hn5 hn1 hn2
              refine (rtake_any hB6 R6 s.ix (by omega)).mono ?_
              rintro e w7 ⟨u7, rfl, R7, hF7, hc7⟩
              have h107 := hF7.blk h106s (fun hf => AA.h10.2.2.2 _ hf rfl)
              have HF7 := Lib.hid hF7
              have HC7 := Lib.hid hc7
              clear hF7 hc7
              have z0 : w7.cell? ⟨g10, 0, none⟩ = some (.int .i64 0) := blk_cell h107 0
              have z1 : w7.cell? ⟨g10, 1, none⟩ = some (.int .i64 0) := blk_cell h107 1
              have z2 : w7.cell? ⟨g10, 2, none⟩ = some (.string ⟨#[]⟩) := blk_cell h107 2
              have f0 := blk_frozen h107 0
              have f1 := blk_frozen h107 1
              have f2 := blk_frozen h107 2
              rw [HM.out]
              unfold Mail.val
              go_wp2
              go_meet
              case rel =>
                have h108 := set3 (x := .int .i64 m.fr) (y := .int .i64 m.rc) (z := .string m.text) h107
                have hS := set3_fr w7 g10 (.int .i64 m.fr) (.int .i64 m.rc) (.string m.text)
                exact AA.close (m := m) HF6s.out H6s (HM6.out) R7 HF7.out HC7.out hS (takeL_len _ _ hl) h97 h108
            · have b1 : (s.kind % 5 == 1) = false := by simp [q1]
              clear q1
              by_cases q2 : s.kind % 5 = 2
              · have b2 : (s.kind % 5 == 2) = true := by simp [q2]
                clear q2
                go_wp2_with fail
                refine (lose_any AA.net s.ix (by omega)).mono ?_
                rintro e w6 ⟨rfl, v6, H6, hF6, hm6⟩
                have hF6' : Fr (fun k => Foot b v k ∨ k = g9) w5 w6 := hF6.mono (fun _ _ h => .inl h)
                have hn6 := hF6.blk hn5 (fun hf => AA.hgs.2.1 _ hf rfl)
                have h96 := hF6.blk hn1 (fun hf => AA.h9.2.2.1 _ hf rfl)
                have h106 := hF6.blk hn2 (fun hf => AA.h10.2.2.1 _ hf rfl)
                have HM6 := Lib.hid hm6
                obtain ⟨hB6, R6, _⟩ := AA.mid hF6'
                have y4 : w6.cell? ⟨gs, 4, none⟩ = some (.int .i64 s.ix) := blk_cell hn6 4
                have HF6 := Lib.hid hF6'
                clear hF6 hm6 hF6'
                go_wp2_with fail
                refine (rtake_any hB6 R6 s.ix (by omega)).mono ?_
                rintro e w7 ⟨u7, rfl, R7, hF7, hc7⟩
                have h107 := hF7.blk h106 (fun hf => AA.h10.2.2.2 _ hf rfl)
                have BB : BothW w b g9 g10 u7 (.int .i64 (takeE l s.ix)) (.int .i64 (takeE l s.ix)) w7 :=
                  AA.close (m := zmail) HF6.out H6 HM6.out R7 hF7 hc7 (Fr.refl _ _) (takeL_len _ _ hl) h96 h107
                clear hF7 hc7 R7
                go_wp2
                go_meet
                case rel => exact BB
              · have b2 : (s.kind % 5 == 2) = false := by simp [q2]
                clear q2
                by_cases q3 : s.kind % 5 = 3
                · have b3 : (s.kind % 5 == 3) = true := by simp [q3]
                  clear q3
                  go_wp2_with fail
                  refine (twin_any AA.net s.ix).mono ?_
                  rintro e w6 ⟨rfl, v6, H6, hF6, hm6⟩
                  have hF6' : Fr (fun k => Foot b v k ∨ k = g9) w5 w6 := hF6.mono (fun _ _ h => .inl h)
                  have hn6 := hF6.blk hn5 (fun hf => AA.hgs.2.1 _ hf rfl)
                  have h96 := hF6.blk hn1 (fun hf => AA.h9.2.2.1 _ hf rfl)
                  have h106 := hF6.blk hn2 (fun hf => AA.h10.2.2.1 _ hf rfl)
                  have HM6 := Lib.hid hm6
                  obtain ⟨hB6, R6, _⟩ := AA.mid hF6'
                  have y4 : w6.cell? ⟨gs, 4, none⟩ = some (.int .i64 s.ix) := blk_cell hn6 4
                  have HF6 := Lib.hid hF6'
                  clear hF6 hm6 hF6'
                  go_wp2_with fail
                  refine (rtwin_any hB6 R6 s.ix (by omega)).mono ?_
                  rintro e w7 ⟨u7, rfl, R7, hF7, hc7⟩
                  have h107 := hF7.blk h106 (fun hf => AA.h10.2.2.2 _ hf rfl)
                  have BB : BothW w b g9 g10 u7 (.int .i64 (twinE l s.ix)) (.int .i64 (twinE l s.ix)) w7 :=
                    AA.close (m := zmail) HF6.out H6 HM6.out R7 hF7 hc7 (Fr.refl _ _) (twinL_len _ _ hl) h96 h107
                  clear hF7 hc7 R7
                  go_wp2
                  go_meet
                  case rel => exact BB
                · have b3 : (s.kind % 5 == 3) = false := by simp [q3]
                  clear q3
                  obtain ⟨Au, cu, rfl⟩ := own_slice AA.row.1
                  go_wp2_with fail
                  refine (at_any AA.net s.ix).mono ?_
                  rintro e w6 ⟨rfl, hF6⟩
                  have hF6' : Fr (fun k => Foot b v k ∨ k = g9) w5 w6 := hF6.none
                  have hm6 : Moved w5 v v := Moved.refl w5 v
                  have H6 := AA.net.kept hF6 (fun _ _ x => x)
                  have hn6 := hF6.blk0 hn5
                  have h96 := hF6.blk0 hn1
                  have h106 := hF6.blk0 hn2
                  have HM6 := Lib.hid hm6
                  have HF6 := Lib.hid hF6'
                  clear hF6 hm6 hF6'
                  have z0 : w6.cell? ⟨g9, 0, none⟩ = some (.int .i64 0) := blk_cell h96 0
                  have z1 : w6.cell? ⟨g9, 1, none⟩ = some (.int .i64 0) := blk_cell h96 1
                  have z2 : w6.cell? ⟨g9, 2, none⟩ = some (.string ⟨#[]⟩) := blk_cell h96 2
                  have f0 := blk_frozen h96 0
                  have f1 := blk_frozen h96 1
                  have f2 := blk_frozen h96 2
                  have y4 : w6.cell? ⟨gs, 4, none⟩ = some (.int .i64 s.ix) := blk_cell hn6 4
                  have hgg := AA.hgs.2.2.2.1
                  unfold Mail.val
                  generalize hm : takeM l s.ix = m
                  have HM := Lib.hid hm
                  clear hm
                  go_wp2_with fail
                  have h97 := set3 (x := .int .i64 m.fr) (y := .int .i64 m.rc) (z := .string m.text) h96
                  have hS := set3_fr w6 g9 (.int .i64 m.fr) (.int .i64 m.rc) (.string m.text)
                  clear z0 z1 z2 f0 f1 f2 y4 h96
                  generalize ((w6.setCell ⟨g9, 0, none⟩ (.int .i64 m.fr)).setCell ⟨g9, 1, none⟩ (.int .i64 m.rc)).setCell ⟨g9, 2, none⟩ (.string m.text) = w6s at *
                  have hv6 : ∀ k, Foot b v k → k ≠ g9 := AA.foot9 HM6.out
                  have H6s := H6.kept hS hv6
                  have hF6s : Fr (fun k => Foot b v k ∨ k = g9) w5 w6s := HF6.out.trans hS (fun _ _ h => .inr h)
                  have hn6s := hS.blk hn6 AA.hgs.2.2.2.1
                  have h106s := hS.blk h106 (fun e => AA.hne e.symm)
                  obtain ⟨hB6, R6, _⟩ := AA.mid hF6s
                  have HF6s := Lib.hid hF6s
                  clear hS hF6s HF6 hn6 h106 hn5 hn1 hn2
                  refine (rat_any R6 s.ix).mono ?_
                  rintro e w7 ⟨rfl, hF7⟩
                  have R7 := R6.fr hF7 (fun _ _ x => x)
                  have h107 := hF7.blk0 h106s
                  have HF7 := Lib.hid hF7
                  clear hF7
                  have z0 : w7.cell? ⟨g10, 0, none⟩ = some (.int .i64 0) := blk_cell h107 0
                  have z1 : w7.cell? ⟨g10, 1, none⟩ = some (.int .i64 0) := blk_cell h107 1
                  have z2 : w7.cell? ⟨g10, 2, none⟩ = some (.string ⟨#[]⟩) := blk_cell h107 2
                  have f0 := blk_frozen h107 0
                  have f1 := blk_frozen h107 1
                  have f2 := blk_frozen h107 2
                  rw [HM.out]
                  unfold Mail.val
                  go_wp2
                  go_meet
                  case rel =>
                    have h108 := set3 (x := .int .i64 m.fr) (y := .int .i64 m.rc) (z := .string m.text) h107
                    have hS := set3_fr w7 g10 (.int .i64 m.fr) (.int .i64 m.rc) (.string m.text)
                    exact AA.close (m := m) HF6s.out H6s (HM6.out) R7 HF7.out.none (fun _ h => .inl h) hS hl h97 h108
        case rest =>
          clear x0 x1 x2 x3 x4 hn1 hn2 hn5 AA
          obtain ⟨v2, l2, e2, m2, rfl, rfl, HH2, R2, hl2, hF2, hv2, hd2, h92, h102⟩ := hcut
          obtain ⟨Au, cu, rfl⟩ := own_slice R2.1
          have n0 : wc.cell? ⟨g9, 0, none⟩ = some (.int .i64 m2.fr) := blk_cell h92 0
          have n1 : wc.cell? ⟨g9, 1, none⟩ = some (.int .i64 m2.rc) := blk_cell h92 1
          have n2 : wc.cell? ⟨g9, 2, none⟩ = some (.string m2.text) := blk_cell h92 2
          have o0 : wc.cell? ⟨g10, 0, none⟩ = some (.int .i64 m2.fr) := blk_cell h102 0
          have o1 : wc.cell? ⟨g10, 1, none⟩ = some (.int .i64 m2.rc) := blk_cell h102 1
          have o2 : wc.cell? ⟨g10, 2, none⟩ = some (.string m2.text) := blk_cell h102 2
          have HF2 := Lib.hid hF2
          have HV2 := Lib.hid hv2
          have HD2 := Lib.hid hd2
          clear hF2 hv2 hd2 h92 h102
          go_wp2_with fail
          refine (like_yes HH2 R2 (by omega)).mono ?_
          rintro e w9 ⟨rfl, hF9⟩
          have I9 : RunsInv w b (.slice Au l2.length cu) w9 := ⟨v2, l2, HH2.kept hF9 (fun _ _ x => x), R2.fr hF9 (fun _ _ x => x), hl2, HF2.out.trans hF9 (fun _ _ x => x), hwb, HV2.out, HD2.out⟩
          clear hF9 HH2 R2 HF2 HV2 HD2 n0 n1 n2 o0 o1 o2
          go_wp2
          go_roundw
          case rel => exact ⟨k + 1, by omega, by omega, by go_num, I9⟩
          case measure => simp [intOf]; omega
    · by_cases h1 : k < ss.length
      · have h2 : k = 60 := by omega
        subst h2
        clear hlt
        go_wp2
        go_ret
        exact ⟨rfl, HF.out.below0⟩
      · clear hlt
        go_wp2
        go_ret
        exact ⟨rfl, HF.out.below0⟩
end Go.Proofs.Ytedmhhllkkgbjaa
