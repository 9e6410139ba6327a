/- The program's peer and the document's, side by side. -/
import Derived.Test.YtedmhhllkkgbjaaPe23
namespace Go.Proofs.Ytedmhhllkkgbjaa
open Go.RowKit Go.WideShapes

theorem ReadO.lt {w : World} {A : Option Addr} {L : List (Msg × Bool)} (h : ReadO w A L) (hl : L ≠ []) : ∀ a o, A = some ⟨a, o, none⟩ → a < w.heap.size := by
  intro a o e
  cases L with
  | nil => exact absurd rfl hl
  | cons x r =>
    obtain ⟨g, o', e', hc⟩ := h 0 x rfl
    rw [e'] at e
    cases e
    exact World.block_lt_of_cell? _ _ (hc 0 _ rfl)
theorem ReadM.lt {w : World} {A : Option Addr} {L : List Msg} (h : ReadM w A L) (hl : L ≠ []) : ∀ a o, A = some ⟨a, o, none⟩ → a < w.heap.size := by
  intro a o e
  cases L with
  | nil => exact absurd rfl hl
  | cons x r =>
    obtain ⟨g, o', e', hc⟩ := h 0 x rfl
    rw [e'] at e
    cases e
    exact World.block_lt_of_cell? _ _ (hc 0 _ rfl)

structure Both (B : Nat) (w : World) (g bw bg b7 : Nat) (n : Int) (SA : Option Addr) (sc kw kg : Nat) (Dw Dg : DataW Msg) (LA : Option Addr) (lc : Nat) (GA : Option Addr) (gc : Nat) (L : List (Msg × Bool)) (G : List Msg) : Prop where
  ps : PS w g n bw bg SA sc kw kg Dw Dg L G
  box : w.heap[b7]? = some (.cells #[.int .i64 n, .slice LA L.length lc, .slice GA G.length gc] 79 (0, 0))
  rl : ReadO w LA L
  rg : ReadM w GA G
  rise : G.Pairwise (fun x y => x.seq < y.seq)
  big : ∀ k, Touch g bw bg SA k → B ≤ k
  b7B : B ≤ b7
  apL : ∀ a o, LA = some ⟨a, o, none⟩ → a < w.heap.size ∧ a ≠ b7 ∧ ¬ Touch g bw bg SA a
  apG : ∀ a o, GA = some ⟨a, o, none⟩ → a < w.heap.size ∧ a ≠ b7 ∧ ¬ Touch g bw bg SA a
  ap7 : ¬ Touch g bw bg SA b7

section
variable {B : Nat} {w : World} {g bw bg b7 : Nat} {n : Int} {SA : Option Addr} {sc kw kg : Nat} {Dw Dg : DataW Msg} {LA : Option Addr} {lc : Nat} {GA : Option Addr} {gc : Nat} {L : List (Msg × Bool)} {G : List Msg}

theorem Both.fr0 {w' : World} (h : Both B w g bw bg b7 n SA sc kw kg Dw Dg LA lc GA gc L G) (hF : Fr (fun _ => False) w w') : Both B w' g bw bg b7 n SA sc kw kg Dw Dg LA lc GA gc L G :=
  ⟨h.ps.fr0 hF, hF.blk0 h.box, h.rl.fr hF (fun _ _ _ h => h), h.rg.fr hF (fun _ _ _ h => h), h.rise, h.big, h.b7B, fun a o e => ⟨Nat.lt_of_lt_of_le (h.apL a o e).1 hF.size, (h.apL a o e).2⟩, fun a o e => ⟨Nat.lt_of_lt_of_le (h.apG a o e).1 hF.size, (h.apG a o e).2⟩, h.ap7⟩

theorem PS.lt (h : PS w g n bw bg SA sc kw kg Dw Dg L G) (k : Nat) (hk : Touch g bw bg SA k) : k < w.heap.size := by
  rcases hk with rfl | hk | rfl | rfl
  · exact blk_lt h.peer.box
  · exact own_lt h.row k (by rw [ob]; exact hk.symm)
  · exact h.peer.waits.lt
  · exact h.peer.got.lt

theorem Both.mid {w1 : World} (h : Both B w g bw bg b7 n SA sc kw kg Dw Dg LA lc GA gc L G) (hF : Fr (Touch g bw bg SA) w w1) :
    w1.heap[b7]? = some (.cells #[.int .i64 n, .slice LA L.length lc, .slice GA G.length gc] 79 (0, 0)) ∧ ReadO w1 LA L ∧ ReadM w1 GA G :=
  ⟨hF.blk h.box h.ap7, h.rl.fr hF (fun a o e => (h.apL a o e).2.2), h.rg.fr hF (fun a o e => (h.apG a o e).2.2)⟩

theorem Both.step {w1 w4 : World} (h : Both B w g bw bg b7 n SA sc kw kg Dw Dg LA lc GA gc L G) (hF : Fr (Touch g bw bg SA) w w1)
    {SA' : Option Addr} {sc' kw' kg' : Nat} {Dw' Dg' : DataW Msg} {L' : List (Msg × Bool)} {G0 G' : List Msg} (hP : PS w1 g n bw bg SA' sc' kw' kg' Dw' Dg' L' G0) (hM : Moved w (.slice SA 0 0) (.slice SA' 0 0)) (hB : B ≤ w.heap.size) (hF4 : Fr (fun _ => False) w1 w4)
    {LA' GA' : Option Addr} {lc' gc' : Nat} (hL : ReadO w4 LA' L') (hG : ReadM w4 GA' G') (hpm : G'.Perm G0) (hr : G'.Pairwise (fun x y => x.seq < y.seq))
    (hLA : LA' = LA ∨ L' ≠ [] ∧ ∀ a o, LA' = some ⟨a, o, none⟩ → w1.heap.size ≤ a) (hGA : GA' = GA ∨ G' ≠ [] ∧ ∀ a o, GA' = some ⟨a, o, none⟩ → w1.heap.size ≤ a) :
    Both B (((w4.setCell ⟨b7, 0, none⟩ (.int .i64 n)).setCell ⟨b7, 1, none⟩ (.slice LA' L'.length lc')).setCell ⟨b7, 2, none⟩ (.slice GA' G'.length gc')) g bw bg b7 n SA' sc' kw' kg' Dw' Dg' LA' lc' GA' gc' L' G' ∧
    Fr (fun k => B ≤ k) w (((w4.setCell ⟨b7, 0, none⟩ (.int .i64 n)).setCell ⟨b7, 1, none⟩ (.slice LA' L'.length lc')).setCell ⟨b7, 2, none⟩ (.slice GA' G'.length gc')) := by
  have hS := set3_frx w4 b7 (.int .i64 n) (.slice LA' L'.length lc') (.slice GA' G'.length gc')
  have hbox : (((w4.setCell ⟨b7, 0, none⟩ (.int .i64 n)).setCell ⟨b7, 1, none⟩ (.slice LA' L'.length lc')).setCell ⟨b7, 2, none⟩ (.slice GA' G'.length gc')).heap[b7]? = some (.cells #[.int .i64 n, .slice LA' L'.length lc', .slice GA' G'.length gc'] 79 (0, 0)) := by
    have h1 := hF4.blk0 (hF.blk h.box h.ap7)
    have h2 := blk_set (blk_set (blk_set h1 0 (.int .i64 n)) 1 (.slice LA' L'.length lc')) 2 (.slice GA' G'.length gc')
    simpa using h2
  generalize ((w4.setCell ⟨b7, 0, none⟩ (.int .i64 n)).setCell ⟨b7, 1, none⟩ (.slice LA' L'.length lc')).setCell ⟨b7, 2, none⟩ (.slice GA' G'.length gc') = w5 at hS hbox ⊢
  have h7 := blk_lt h.box
  have hs1 := hF.size
  have hs4 := hF4.size
  have hs5 := hS.size
  have hT : ∀ k, Touch g bw bg SA' k → Touch g bw bg SA k ∨ w.heap.size ≤ k := by
    rintro k (hk | hk | hk | hk)
    · exact .inl (.inl hk)
    · rcases hM with hM | ⟨s, hM, hs⟩
      · exact .inl (.inr (.inl (by rw [hk, hM])))
      · rw [hM] at hk; cases hk; exact .inr hs
    · exact .inl (.inr (.inr (.inl hk)))
    · exact .inl (.inr (.inr (.inr hk)))
  have h7' : ¬ Touch g bw bg SA' b7 := fun hk => by
    rcases hT b7 hk with hk | hk
    · exact h.ap7 hk
    · omega
  have hP5 : PS w5 g n bw bg SA' sc' kw' kg' Dw' Dg' L' G' := by
    have hP4 := hP.fr0 hF4
    exact ⟨hP4.peer.fr hS (fun e => h7' (.inl e.symm)) (fun e => h7' (.inr (.inr (.inl e.symm)))) (fun e => h7' (.inr (.inr (.inr e.symm)))), hS.own hP4.row (fun k hk e => h7' (.inr (.inl (by rw [← e, ← hk]; exact ob SA' _ sc')))), hP4.wait, hP4.map.perm hpm, hP4.seq⟩
  have hap : ∀ A A' : Option Addr, (∀ a o, A = some ⟨a, o, none⟩ → a < w.heap.size ∧ a ≠ b7 ∧ ¬ Touch g bw bg SA a) → (A' = A ∨ (∀ a o, A' = some ⟨a, o, none⟩ → a < w4.heap.size) ∧ ∀ a o, A' = some ⟨a, o, none⟩ → w1.heap.size ≤ a) →
      ∀ a o, A' = some ⟨a, o, none⟩ → a < w5.heap.size ∧ a ≠ b7 ∧ ¬ Touch g bw bg SA' a := by
    intro A A' hA hor a o e
    rcases hor with rfl | ⟨h1, h2⟩
    · obtain ⟨q1, q2, q3⟩ := hA a o e
      exact ⟨by omega, q2, fun hk => by rcases hT a hk with hk | hk; · exact q3 hk
                                        · omega⟩
    · have q1 := h1 a o e
      have q2 := h2 a o e
      exact ⟨by omega, by omega, fun hk => by have := hP.lt a hk; omega⟩
  have hapL := hap LA LA' h.apL (hLA.imp (fun e => e) (fun ⟨e, q⟩ => ⟨hL.lt e, q⟩))
  have hapG := hap GA GA' h.apG (hGA.imp (fun e => e) (fun ⟨e, q⟩ => ⟨hG.lt e, q⟩))
  refine ⟨⟨hP5, hbox, hL.fr hS (fun a o e q => (hapL a o e).2.1 q), hG.fr hS (fun a o e q => (hapG a o e).2.1 q), hr, fun k hk => ?_, h.b7B, hapL, hapG, h7'⟩, ?_⟩
  · rcases hT k hk with hk | hk
    · exact h.big k hk
    · omega
  · exact ((hF.mono (fun k _ hk => h.big k hk)).trans hF4 (fun _ _ h => h.elim)).trans hS (fun k _ hk => by show B ≤ k; rw [hk]; exact h.b7B)

theorem Both.again {W : World} (h : Both B w g bw bg b7 n SA sc kw kg Dw Dg LA lc GA gc L G) (hF : Fr (fun _ => False) w W) (hn : n ≠ 0) (hl : L.length ≤ 1000000) : Calls Try.prog 45 #[.pointer (some ⟨g, 0, none⟩)] W (MsgsPost W (undone L)) := by
  have hk := (h.fr0 hF).ps
  have hp := hk.peer
  have hr := readM_own hk.row
  rw [firsts_len] at hp
  exact again_any hp hn hl hr hk.wait hk.seq
theorem Both.ragain {W : World} (h : Both B w g bw bg b7 n SA sc kw kg Dw Dg LA lc GA gc L G) (hF : Fr (fun _ => False) w W) (hl : L.length ≤ 1000000) : Calls Try.prog 46 #[.agg #[.int .i64 n, .slice LA L.length lc, .slice GA G.length gc]] W (MsgsPost W (undone L)) :=
  ragain_any n LA GA lc G.length gc L hl (h.fr0 hF).rl
theorem Both.sent {W : World} (h : Both B w g bw bg b7 n SA sc kw kg Dw Dg LA lc GA gc L G) (hF : Fr (fun _ => False) w W) (hn : n ≠ 0) (hl : L.length ≤ 1000000) : Calls Try.prog 47 #[.pointer (some ⟨g, 0, none⟩)] W (MsgsPost W (firsts L)) := by
  have hk := (h.fr0 hF).ps
  exact sent_any hk.peer hn (by rw [firsts_len]; exact hl) (readM_own hk.row)
theorem Both.rsent {W : World} (h : Both B w g bw bg b7 n SA sc kw kg Dw Dg LA lc GA gc L G) (hF : Fr (fun _ => False) w W) (hl : L.length ≤ 1000000) : Calls Try.prog 48 #[.agg #[.int .i64 n, .slice LA L.length lc, .slice GA G.length gc]] W (MsgsPost W (firsts L)) :=
  rsent_any n LA GA lc G.length gc L hl (h.fr0 hF).rl
theorem Both.got {W : World} (h : Both B w g bw bg b7 n SA sc kw kg Dw Dg LA lc GA gc L G) (hF : Fr (fun _ => False) w W) (hn : n ≠ 0) (hl : G.length ≤ 1000000) : Calls Try.prog 39 #[.pointer (some ⟨g, 0, none⟩)] W (MsgsPost W G) := by
  have hk := (h.fr0 hF).ps
  refine (got_any hk.peer hn hk.map hl).mono ?_
  rintro e w' ⟨A, c, ms, rfl, hp, hs, hr, hF', hA⟩
  obtain rfl := got_same hp hs h.rise
  exact ⟨A, c, rfl, hr, hF', hA⟩
end
end Go.Proofs.Ytedmhhllkkgbjaa
