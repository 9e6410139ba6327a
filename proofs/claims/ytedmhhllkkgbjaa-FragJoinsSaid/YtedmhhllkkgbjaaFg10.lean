/- joined.payload. Printed by gen10.py (the frame's 123 slots), from Fg10.body. -/
import Derived.Test.YtedmhhllkkgbjaaFg9
import Derived.Deep.RegionHeld3
import Derived.Test.YtedmhhllkkgbjaaRt
namespace Go.Proofs.Ytedmhhllkkgbjaa
open Go.RowKit
set_option linter.unusedSimpArgs false
set_option linter.unusedVariables false

structure JAct (G : Nat) (p1 p6 p7 : Value) (a : Act) : Prop where
  size : a.tmps.size = 123
  defers : a.defers = []
  s1 : a.tmps.getD 1 undef = p1
  s2 : a.tmps.getD 2 undef = .pointer (some ⟨G, 0, none⟩)
  s4 : a.tmps.getD 4 undef = .pointer (some ⟨G + 1, 0, none⟩)
  s5 : a.tmps.getD 5 undef = .bool false
  s6 : a.tmps.getD 6 undef = p6
  s7 : a.tmps.getD 7 undef = p7
theorem spell_tmps (t : Array Value) (h : t.size = 123) : t = ((List.range 123).map (fun i => t.getD i undef)).toArray := by
  apply Array.ext
  · simp [h]
  · intro i h1 h2
    simp [Array.getD, h1]
set_option maxRecDepth 100000 in
theorem range_lit (f : Nat → Value) : ((List.range 123).map f).toArray = #[f 0, f 1, f 2, f 3, f 4, f 5, f 6, f 7, f 8, f 9, f 10, f 11, f 12, f 13, f 14, f 15, f 16, f 17, f 18, f 19, f 20, f 21, f 22, f 23, f 24, f 25, f 26, f 27, f 28, f 29, f 30, f 31, f 32, f 33, f 34, f 35, f 36, f 37, f 38, f 39, f 40, f 41, f 42, f 43, f 44, f 45, f 46, f 47, f 48, f 49, f 50, f 51, f 52, f 53, f 54, f 55, f 56, f 57, f 58, f 59, f 60, f 61, f 62, f 63, f 64, f 65, f 66, f 67, f 68, f 69, f 70, f 71, f 72, f 73, f 74, f 75, f 76, f 77, f 78, f 79, f 80, f 81, f 82, f 83, f 84, f 85, f 86, f 87, f 88, f 89, f 90, f 91, f 92, f 93, f 94, f 95, f 96, f 97, f 98, f 99, f 100, f 101, f 102, f 103, f 104, f 105, f 106, f 107, f 108, f 109, f 110, f 111, f 112, f 113, f 114, f 115, f 116, f 117, f 118, f 119, f 120, f 121, f 122] := rfl
set_option maxRecDepth 100000 in
theorem JAct.spell {G : Nat} {p1 p6 p7 : Value} {a : Act} (h : JAct G p1 p6 p7 a) : ∃ f : Nat → Value, a = { tmps := #[f 0, p1, .pointer (some ⟨G, 0, none⟩), f 3, .pointer (some ⟨G + 1, 0, none⟩), .bool false, p6, p7, f 8, f 9, f 10, f 11, f 12, f 13, f 14, f 15, f 16, f 17, f 18, f 19, f 20, f 21, f 22, f 23, f 24, f 25, f 26, f 27, f 28, f 29, f 30, f 31, f 32, f 33, f 34, f 35, f 36, f 37, f 38, f 39, f 40, f 41, f 42, f 43, f 44, f 45, f 46, f 47, f 48, f 49, f 50, f 51, f 52, f 53, f 54, f 55, f 56, f 57, f 58, f 59, f 60, f 61, f 62, f 63, f 64, f 65, f 66, f 67, f 68, f 69, f 70, f 71, f 72, f 73, f 74, f 75, f 76, f 77, f 78, f 79, f 80, f 81, f 82, f 83, f 84, f 85, f 86, f 87, f 88, f 89, f 90, f 91, f 92, f 93, f 94, f 95, f 96, f 97, f 98, f 99, f 100, f 101, f 102, f 103, f 104, f 105, f 106, f 107, f 108, f 109, f 110, f 111, f 112, f 113, f 114, f 115, f 116, f 117, f 118, f 119, f 120, f 121, f 122], defers := [] } := by
  obtain ⟨t, d⟩ := a
  obtain ⟨hs, hd, h1, h2, h4, h5, h6, h7⟩ := h
  have e := spell_tmps t hs
  rw [range_lit] at e
  simp only at hd h1 h2 h4 h5 h6 h7
  obtain ⟨f, hf⟩ : ∃ f : Nat → Value, f = fun i => t.getD i undef := ⟨_, rfl⟩
  have q1 : f 1 = p1 := by rw [hf]; exact h1
  have q2 : f 2 = .pointer (some ⟨G, 0, none⟩) := by rw [hf]; exact h2
  have q4 : f 4 = .pointer (some ⟨G + 1, 0, none⟩) := by rw [hf]; exact h4
  have q5 : f 5 = .bool false := by rw [hf]; exact h5
  have q6 : f 6 = p6 := by rw [hf]; exact h6
  have q7 : f 7 = p7 := by rw [hf]; exact h7
  have e2 : t = #[f 0, f 1, f 2, f 3, f 4, f 5, f 6, f 7, f 8, f 9, f 10, f 11, f 12, f 13, f 14, f 15, f 16, f 17, f 18, f 19, f 20, f 21, f 22, f 23, f 24, f 25, f 26, f 27, f 28, f 29, f 30, f 31, f 32, f 33, f 34, f 35, f 36, f 37, f 38, f 39, f 40, f 41, f 42, f 43, f 44, f 45, f 46, f 47, f 48, f 49, f 50, f 51, f 52, f 53, f 54, f 55, f 56, f 57, f 58, f 59, f 60, f 61, f 62, f 63, f 64, f 65, f 66, f 67, f 68, f 69, f 70, f 71, f 72, f 73, f 74, f 75, f 76, f 77, f 78, f 79, f 80, f 81, f 82, f 83, f 84, f 85, f 86, f 87, f 88, f 89, f 90, f 91, f 92, f 93, f 94, f 95, f 96, f 97, f 98, f 99, f 100, f 101, f 102, f 103, f 104, f 105, f 106, f 107, f 108, f 109, f 110, f 111, f 112, f 113, f 114, f 115, f 116, f 117, f 118, f 119, f 120, f 121, f 122] := by rw [hf]; exact e
  rw [q1, q2, q4, q5, q6, q7] at e2
  exact ⟨f, by rw [e2, hd]⟩

def lenOf : Value → Nat | .slice _ n _ => n | _ => 0
def PS (S0 : Nat → Prop) (G : Nat) (k : Nat) : Prop := S0 k ∨ k = G ∨ k = G + 1

theorem ReadBN.more {S S' : Nat → Prop} {w : World} {A : Option Addr} {c : Nat} {x : List Int} (h : ReadBN S w A c x) (hS : ∀ k, S' k → S k ∨ w.heap.size ≤ k) : ReadBN S' w A c x := by
  refine ⟨h.read, fun g o s e hx hs => ?_⟩
  rcases hS g hs with h1 | h1
  · exact h.far g o s e hx h1
  · obtain ⟨b, l, rfl⟩ := List.exists_cons_of_ne_nil hx
    have := cell_lt ((h.read.cells g o s e).2 0 b rfl)
    simp at this
    omega
theorem ReadRN.more {S S' : Nat → Prop} {w : World} {A : Option Addr} {xs : List (List Int)} (h : ReadRN S w A xs) (hS : ∀ k, S' k → S k ∨ w.heap.size ≤ k) : ReadRN S' w A xs := by
  intro i x hx
  obtain ⟨g, o, PA, pc, e, hg, hc, hr⟩ := h i x hx
  refine ⟨g, o, PA, pc, e, fun hs => ?_, hc, hr.more hS⟩
  rcases hS g hs with h1 | h1
  · exact hg h1
  · have := cell_lt hc
    simp at this
    omega
theorem ReadBN.less {S S' : Nat → Prop} {w : World} {A : Option Addr} {c : Nat} {x : List Int} (h : ReadBN S w A c x) (hS : ∀ k, S' k → S k) : ReadBN S' w A c x := ⟨h.read, fun g o s e hx hs => h.far g o s e hx (hS g hs)⟩
theorem ReadRN.less {S S' : Nat → Prop} {w : World} {A : Option Addr} {xs : List (List Int)} (h : ReadRN S w A xs) (hS : ∀ k, S' k → S k) : ReadRN S' w A xs := by
  intro i x hx
  obtain ⟨g, o, PA, pc, e, hg, hc, hr⟩ := h i x hx
  exact ⟨g, o, PA, pc, e, fun hs => hg (hS g hs), hc, hr.less hS⟩

/-- what is put together, in the variable G -/
structure JW (S0 : Nat → Prop) (w0 : World) (G : Nat) (w : World) (j : J) (RA : Option Addr) (rc : Nat) (OA : Option Addr) (oc : Nat) : Prop where
  box : w.heap[G]? = some (.cells #[.slice RA j.recs.length rc, .slice OA j.opn.length oc, .bool j.begun] 114 (0, 0))
  res : w.heap[G + 1]? = some (.cells #[.slice none 0 0, .slice none 0 0, .bool false] 114 (0, 0))
  cap : j.recs.length ≤ rc
  nonil : RA = none → rc = 0
  recs : ReadRN (PS S0 G) w RA j.recs
  opn : ReadBN (PS S0 G) w OA oc j.opn
  bel : Below G w0 w
  ol : j.opn.length ≤ 8192
  s0 : ∀ k, S0 k → k < G

def AtLabel (S0 : Nat → Prop) (l : Nat) (w : World) (G : Nat) (j : J) (p : List Int) (p6 p7 : Value) (target : Option J) : Prop :=
  match l with
  | 0 => jrun p.length j p = target
  | 1 => ∃ b BA bc, p6 = .int .u8 1 ∧ p7 = .slice BA b.length bc ∧ ReadBN (PS S0 G) w BA bc b ∧ b.length ≤ 106 ∧ (jstep j 1 b).bind (fun j' => jrun p.length j' p) = target
  | 2 => ∃ b BA bc, p6 = .int .u8 2 ∧ p7 = .slice BA b.length bc ∧ ReadBN (PS S0 G) w BA bc b ∧ b.length ≤ 106 ∧ (jstep j 2 b).bind (fun j' => jrun p.length j' p) = target
  | 3 => ∃ k b BA bc, p6 = .int .u8 k ∧ (k = 3 ∨ k = 4) ∧ p7 = .slice BA b.length bc ∧ ReadBN (PS S0 G) w BA bc b ∧ b.length ≤ 106 ∧ (jstep j k b).bind (fun j' => jrun p.length j' p) = target
  | _ => False

def bnd : Nat → Nat | 0 => 0 | _ + 1 => 1
def PJ (S0 : Nat → Prop) (w0 : World) (G : Nat) (target : Option J) (l : Nat) (a : Act) (w : World) : Prop :=
  ∃ j p RA rc OA oc PA pc p6 p7, JAct G (.slice PA p.length pc) p6 p7 a ∧ JW S0 w0 G w j RA rc OA oc ∧ ReadBN (PS S0 G) w PA pc p ∧ (∀ b ∈ p, 0 ≤ b ∧ b < 256) ∧ j.recs.length + p.length + bnd l ≤ 100000000 ∧ p.length ≤ 108 ∧ AtLabel S0 l w G j p p6 p7 target

theorem cutA_readN {S : Nat → Prop} {w : World} {A : Option Addr} {cap : Nat} {x : List Int} (h : ReadBN S w A cap x) (lo hi : Nat) (h1 : lo ≤ hi) (h2 : hi ≤ x.length) : ReadBN S w (cutA A cap lo) (cap - lo) ((x.drop lo).take (hi - lo)) := by
  refine ⟨cutA_read h.read lo hi h1 h2, fun g o s e hx => ?_⟩
  have hxn : x ≠ [] := fun e => hx (by rw [e]; simp)
  unfold cutA at e
  split at e
  · exact h.far g o s e hxn
  · cases A with
    | none => cases e
    | some ad =>
      obtain ⟨g0, o0, s0⟩ := ad
      obtain ⟨hs0, _⟩ := h.read.cells g0 o0 s0 rfl
      obtain rfl := hs0 (by have := h.read.cap; omega)
      simp only [Option.map_some, add_some, Option.some.injEq, Addr.mk.injEq] at e
      obtain ⟨rfl, rfl, rfl⟩ := e
      exact h.far g0 o0 none rfl hxn
theorem JW.fr {S0 : Nat → Prop} {w0 w w' : World} {G : Nat} {j : J} {RA : Option Addr} {rc : Nat} {OA : Option Addr} {oc : Nat} (h : JW S0 w0 G w j RA rc OA oc) (hF : Fr (fun _ => False) w w') (hG : G ≤ w.heap.size := by omega) : JW S0 w0 G w' j RA rc OA oc :=
  ⟨hF.blk0 h.box, hF.blk0 h.res, h.cap, h.nonil, h.recs.fr hF.none, h.opn.fr hF.none, h.bel.trans (hF.below hG (fun _ h => h.elim)), h.ol, h.s0⟩

theorem JW.upd {S0 : Nat → Prop} {w0 wd w2 w4 : World} {G : Nat} {j j' : J} {RA RA' : Option Addr} {rc rc' : Nat} {OA OA' : Option Addr} {oc oc' : Nat} (h : JW S0 w0 G wd j RA rc OA oc) (F2 : Fr (fun _ => False) wd w2) (F4 : Fr (fun k => k = G) w2 w4)
    (hb : w4.heap[G]? = some (.cells #[.slice RA' j'.recs.length rc', .slice OA' j'.opn.length oc', .bool j'.begun] 114 (0, 0))) (hc : j'.recs.length ≤ rc') (hn : RA' = none → rc' = 0) (hr : ReadRN (PS S0 G) w2 RA' j'.recs) (ho : ReadBN (PS S0 G) w2 OA' oc' j'.opn) (hl : j'.opn.length ≤ 8192) : JW S0 w0 G w4 j' RA' rc' OA' oc' := by
  have hGl := blk_lt h.box
  refine ⟨hb, F4.blk (F2.blk0 h.res) (by omega), hc, hn, hr.fr (F4.mono (fun k _ hk => .inr (.inl hk))), ho.fr (F4.mono (fun k _ hk => .inr (.inl hk))), ?_, hl, h.s0⟩
  exact h.bel.trans ((F2.below (Nat.le_of_lt hGl) (fun _ h => h.elim)).trans (F4.below (Nat.le_trans (Nat.le_of_lt hGl) F2.size) (fun k hk => by omega)))
theorem PS_lt {S0 : Nat → Prop} {w0 wd : World} {G : Nat} {j : J} {RA : Option Addr} {rc : Nat} {OA : Option Addr} {oc : Nat} (h : JW S0 w0 G wd j RA rc OA oc) : ∀ k, PS S0 G k → k < wd.heap.size := fun k hk => by
  have h1 := blk_lt h.box
  have h2 := blk_lt h.res
  rcases hk with hk | rfl | rfl
  · have := h.s0 k hk; omega
  · exact h1
  · exact h2
theorem cutN {S : Nat → Prop} {w : World} {A : Option Addr} {xs : List (List Int)} {cap : Nat} (h : ReadRN S w A xs) (hc : xs.length ≤ cap) (W : World) :
    (Instr.slice 47 (.slice A xs.length cap) none (some (.int .i64 (xs.length : Int))) (some (.int .i64 (xs.length : Int)))).run Try.prog W = .ok (.slice A xs.length xs.length) W := by
  obtain ⟨i, hi', hzz⟩ := Option.map_eq_some_iff.1 Try.info27
  simp only [Prod.mk.injEq] at hzz
  obtain ⟨_, hz1, _⟩ := hzz
  have hel : Try.prog.elem 47 = 27 := by simp [Program.elem, Try.underlying47]
  have hu : Try.prog.underlying 47 = some (.slice (Try.prog.elem 47)) := by rw [hel]; exact Try.underlying47
  rw [run_slice_hm W 47 A xs.length cap hu .i64 .i64 (xs.length : Int) (xs.length : Int) (by omega) (by omega) (by omega), hel]
  simp only [sizeOf, typeInfo, Sem.run_bind]
  have e : (if xs.length = 0 then A else A.map (fun x => x.add (0 * 1))) = A := by
    split
    · rfl
    · cases xs with
      | nil => simp at *
      | cons x xs =>
        obtain ⟨g, o, _, _, rfl, _⟩ := h 0 x rfl
        simp [add_some]
  simp [hi', hz1, sliced, Result.andThen, Int.toNat_natCast]
  simpa using e
theorem row_some {w : World} {B n c : Nat} {e : TypeId} {size : Nat} {A : Option Addr} {xs : List Value} (h : w.ownsRow B e size (.slice A n c) n xs) (hn : 0 < n) : (A = none → c = 0) ∧ n ≤ c := by
  rcases h.2 with ⟨_, h0⟩ | ⟨g2, c2, cur, hv, _, _, hc, _⟩
  · omega
  · simp only [Value.slice.injEq, true_and] at hv
    obtain ⟨rfl, rfl⟩ := hv
    exact ⟨fun e => (by cases e), hc⟩
theorem set1_fr (w : World) (g : Nat) (x : Value) : Fr (fun k => k = g) w (w.setCell ⟨g, 1, none⟩ x) :=
  Fr.setCell (S := fun k => k = g) (p := ⟨g, 1, none⟩) (Fr.refl _ _) (.inr rfl) x
theorem set1_blk {w : World} {g : Nat} {t : TypeId} {a b c y : Value} (h : w.heap[g]? = some (.cells #[a, b, c] t (0, 0))) : (w.setCell ⟨g, 1, none⟩ y).heap[g]? = some (.cells #[a, y, c] t (0, 0)) := by
  simpa using blk_set h 1 y
theorem set12_fr (w : World) (g : Nat) (x y : Value) : Fr (fun k => k = g) w ((w.setCell ⟨g, 1, none⟩ x).setCell ⟨g, 2, none⟩ y) :=
  Fr.setCell (S := fun k => k = g) (p := ⟨g, 2, none⟩) (Fr.setCell (S := fun k => k = g) (p := ⟨g, 1, none⟩) (Fr.refl _ _) (.inr rfl) x) (.inr rfl) y
theorem set12_blk {w : World} {g : Nat} {t : TypeId} {a b c y z : Value} (h : w.heap[g]? = some (.cells #[a, b, c] t (0, 0))) : ((w.setCell ⟨g, 1, none⟩ y).setCell ⟨g, 2, none⟩ z).heap[g]? = some (.cells #[a, y, z] t (0, 0)) := by
  simpa using blk_set (blk_set h 1 y) 2 z

theorem own_rebase' {w : World} {base n : Nat} {e : TypeId} {size : Nat} {v : Value} {xs : List Value} (h : w.ownsRow 0 e size v n xs) (hb : ∀ k, v.ownBlock = some k → base ≤ k) : w.ownsRow base e size v n xs := by
  refine ⟨h.1, ?_⟩
  rcases h.2 with h2 | ⟨g, cap, cur, rfl, hg, r⟩
  · exact .inl h2
  · exact .inr ⟨g, cap, cur, rfl, hb g rfl, r⟩

def PayPost (S0 : Nat → Prop) (w0 : World) (target : Option J) (e : Ending) (w' : World) : Prop :=
  Below w0.heap.size w0 w' ∧ ∃ RA rn rc OA on oc b, e = .returned (.tuple #[.agg #[.slice RA rn rc, .slice OA on oc, .bool b], .bool target.isSome]) ∧
    ∀ j, target = some j → rn = j.recs.length ∧ on = j.opn.length ∧ b = j.begun ∧ rn ≤ rc ∧ (RA = none → rc = 0) ∧ on ≤ 8192 ∧ ReadRN S0 w' RA j.recs ∧ ReadBN S0 w' OA oc j.opn

def done3 (w : World) (g : Nat) (x y z : Value) : World := ((w.setCell ⟨g, 0, none⟩ x).setCell ⟨g, 1, none⟩ y).setCell ⟨g, 2, none⟩ z
theorem done3_blk {w : World} {g : Nat} {t : TypeId} {a b c x y z : Value} (h : w.heap[g]? = some (.cells #[a, b, c] t (0, 0))) : (done3 w g x y z).heap[g]? = some (.cells #[x, y, z] t (0, 0)) := by
  unfold done3
  simpa using blk_set (blk_set (blk_set h 0 x) 1 y) 2 z
theorem done3_fr (w : World) (g : Nat) (x y z : Value) : Fr (fun k => k = g) w (done3 w g x y z) :=
  Fr.setCell (S := fun k => k = g) (p := ⟨g, 2, none⟩) (Fr.setCell (S := fun k => k = g) (p := ⟨g, 1, none⟩) (Fr.setCell (S := fun k => k = g) (p := ⟨g, 0, none⟩) (Fr.refl _ _) (.inr rfl) x) (.inr rfl) y) (.inr rfl) z

theorem JW.start {S0 : Nat → Prop} {w : World} {j : J} {RA : Option Addr} {rc : Nat} {OA : Option Addr} {oc : Nat} (hR : ReadRN S0 w RA j.recs) (hrc : j.recs.length ≤ rc) (hrn : RA = none → rc = 0) (hO : ReadBN S0 w OA oc j.opn) (hol : j.opn.length ≤ 8192) (hS0 : ∀ k, S0 k → k < w.heap.size) {w1 : World}
    (hn0 : w1.heap[w.heap.size]? = some (.cells #[.slice RA j.recs.length rc, .slice OA j.opn.length oc, .bool j.begun] 114)) (hn1 : w1.heap[w.heap.size + 1]? = some (.cells #[.slice none 0 0, .slice none 0 0, .bool false] 114)) (hF : Fr (fun _ => False) w w1) : JW S0 w w.heap.size w1 j RA rc OA oc :=
  have hS : ∀ k, PS S0 w.heap.size k → S0 k ∨ w.heap.size ≤ k := fun k hk => by rcases hk with hk | rfl | rfl <;> first | exact .inl hk | exact .inr (by omega)
  ⟨hn0, hn1, hrc, hrn, (hR.more hS).fr hF.none, (hO.more hS).fr hF.none, hF.below0, hol, hS0⟩

/-- What stands in the result's cell is told. -/
theorem JW.tell {S0 : Nat → Prop} {w0 w : World} {G : Nat} {j : J} {RA : Option Addr} {rc : Nat} {OA : Option Addr} {oc : Nat} (h : JW S0 w0 G w j RA rc OA oc) (hG : w0.heap.size = G) (target : Option J) (hT : ∀ j', target = some j' → j' = j) :
    PayPost S0 w0 target (.returned (.tuple #[.agg #[.slice RA j.recs.length rc, .slice OA j.opn.length oc, .bool j.begun], .bool target.isSome])) (done3 w (G + 1) (.slice RA j.recs.length rc) (.slice OA j.opn.length oc) (.bool j.begun)) := by
  have hF := (done3_fr w (G + 1) (.slice RA j.recs.length rc) (.slice OA j.opn.length oc) (.bool j.begun)).mono (S' := PS S0 G) (fun k _ hk => .inr (.inr hk))
  refine ⟨?_, RA, _, rc, OA, _, oc, _, rfl, fun j' hj => ?_⟩
  · subst hG
    exact h.bel.trans ((done3_fr w (w0.heap.size + 1) _ _ _).below (B := w0.heap.size) h.bel.size (fun k hk => by omega))
  · obtain rfl := hT j' hj
    exact ⟨rfl, rfl, rfl, h.cap, h.nonil, h.ol, (h.recs.fr hF).less (fun _ h => .inl h), (h.opn.fr hF).less (fun _ h => .inl h)⟩
theorem JW.cells {S0 : Nat → Prop} {w0 w : World} {G : Nat} {j : J} {RA : Option Addr} {rc : Nat} {OA : Option Addr} {oc : Nat} (h : JW S0 w0 G w j RA rc OA oc) :
    (w.cell? ⟨G, 0, none⟩ = some (.slice RA j.recs.length rc) ∧ w.cell? ⟨G, 1, none⟩ = some (.slice OA j.opn.length oc) ∧ w.cell? ⟨G, 2, none⟩ = some (.bool j.begun)) ∧
    (w.cell? ⟨G + 1, 0, none⟩ = some (.slice none 0 0) ∧ w.cell? ⟨G + 1, 1, none⟩ = some (.slice none 0 0) ∧ w.cell? ⟨G + 1, 2, none⟩ = some (.bool false)) ∧
    (w.frozen? ⟨G, 0, none⟩ = false ∧ w.frozen? ⟨G, 1, none⟩ = false ∧ w.frozen? ⟨G, 2, none⟩ = false) ∧ (w.frozen? ⟨G + 1, 0, none⟩ = false ∧ w.frozen? ⟨G + 1, 1, none⟩ = false ∧ w.frozen? ⟨G + 1, 2, none⟩ = false) :=
  ⟨⟨blk_cell h.box 0, blk_cell h.box 1, blk_cell h.box 2⟩, ⟨blk_cell h.res 0, blk_cell h.res 1, blk_cell h.res 2⟩, ⟨blk_frozen h.box 0, blk_frozen h.box 1, blk_frozen h.box 2⟩, ⟨blk_frozen h.res 0, blk_frozen h.res 1, blk_frozen h.res 2⟩⟩

set_option maxRecDepth 100000 in
set_option maxHeartbeats 4000000 in
theorem payload_any (S0 : Nat → Prop) (w : World) (j : J) (RA : Option Addr) (rc : Nat) (OA : Option Addr) (oc : Nat) (p : List Int) (PA : Option Addr) (pc : Nat) (hR : ReadRN S0 w RA j.recs) (hrc : j.recs.length ≤ rc) (hrn : RA = none → rc = 0) (hO : ReadBN S0 w OA oc j.opn) (hol : j.opn.length ≤ 8192)
    (hP : ReadBN S0 w PA pc p) (hS0 : ∀ k, S0 k → k < w.heap.size) (hpb : ∀ b ∈ p, 0 ≤ b ∧ b < 256) (hrl : j.recs.length ≤ 90000000) (hpl : p.length ≤ 1000000) :
    Calls Try.prog 57 #[.agg #[.slice RA j.recs.length rc, .slice OA j.opn.length oc, .bool j.begun], .slice PA p.length pc] w (PayPost S0 w (jpay j p)) := by
  by_cases h108 : 108 < p.length
  · have hT : jpay j p = none := by simp [jpay, h108]
    rw [hT]
    have h1 : (108 : Int) < (p.length : Int) := by omega
    go_enter Try.func57, Try.ntmps57
    go_wp2_with fail
    refine wp_scope_straight ?_
    obtain ⟨w1, he, hn0, hn1, hF, hsz⟩ := alloc2 w (.cells #[.slice RA j.recs.length rc, .slice OA j.opn.length oc, .bool j.begun] 114) (.cells #[.slice none 0 0, .slice none 0 0, .bool false] 114)
    rw [he]
    have hW := JW.start hR hrc hrn hO hol hS0 hn0 hn1 hF
    obtain ⟨⟨c0, c1, c2⟩, ⟨d0, d1, d2⟩, ⟨f0, f1, f2⟩, ⟨g0, g1, g2⟩⟩ := hW.cells
    have HW := Lib.hid hW
    clear hR hO hP hpb hn0 hn1 hF hsz hW he
    go_wp2_with fail
    have hD := HW.out.tell rfl none (fun _ h => by cases h)
    have hb := done3_blk HW.out.res (x := .slice RA j.recs.length rc) (y := .slice OA j.opn.length oc) (z := .bool j.begun)
    rw [show ((w1.setCell ⟨w.heap.size + 1, 0, none⟩ (.slice RA j.recs.length rc)).setCell ⟨w.heap.size + 1, 1, none⟩ (.slice OA j.opn.length oc)).setCell ⟨w.heap.size + 1, 2, none⟩ (.bool j.begun) = done3 w1 (w.heap.size + 1) (.slice RA j.recs.length rc) (.slice OA j.opn.length oc) (.bool j.begun) from rfl]
    have r0 := blk_cell hb 0
    have r1 := blk_cell hb 1
    have r2 := blk_cell hb 2
    generalize done3 w1 (w.heap.size + 1) (.slice RA j.recs.length rc) (.slice OA j.opn.length oc) (.bool j.begun) = w3 at *
    rw [Exit.noGoto_ret]
    exact bodyPost_ret (v := .tuple #[.agg #[.slice RA j.recs.length rc, .slice OA j.opn.length oc, .bool j.begun], .bool false]) (by simp [results, Try.results57, go_sem, r0, r1, r2]) rfl hD
  · have hT : jpay j p = jrun p.length j p := by simp [jpay, h108]
    rw [hT]
    have h1 : ¬ (108 : Int) < (p.length : Int) := by omega
    obtain ⟨target, htg⟩ : ∃ target, target = jrun p.length j p := ⟨_, rfl⟩
    rw [← htg]
    have HTG := Lib.hid htg
    clear htg
    go_enter Try.func57, Try.ntmps57
    go_wp2_with fail
    obtain ⟨w1, he, hn0, hn1, hF, hsz⟩ := alloc2 w (.cells #[.slice RA j.recs.length rc, .slice OA j.opn.length oc, .bool j.begun] 114) (.cells #[.slice none 0 0, .slice none 0 0, .bool false] 114)
    rw [he]
    have hW := JW.start hR hrc hrn hO hol hS0 hn0 hn1 hF
    have HW := Lib.hid hW
    have HP := Lib.hid ((hP.more (S' := PS S0 w.heap.size) (fun k hk => by rcases hk with hk | rfl | rfl <;> first | exact .inl hk | exact .inr (by omega))).fr (hF.none (S := PS S0 w.heap.size)))
    have HPB := Lib.hid hpb
    clear hR hO hP hpb hn0 hn1 hF hsz hW he hT
    refine wp_scope_enter (PJ S0 w w.heap.size target) (fun l a _ => 4 * lenOf (a.tmps.getD 1 undef) + if l = 0 then 0 else 1) ?pass ?first
    case first =>
      intro hp
      have HPASS := Lib.hid hp
      clear hp
      go_wp2_with fail
      go_step3
      rename_i K hK
      refine hK _ _ ?_
      refine wp_fall HPASS.out 0 rfl ⟨j, p, RA, rc, OA, oc, PA, pc, _, _, ⟨rfl, rfl, rfl, rfl, rfl, rfl, rfl, rfl⟩, HW.out, HP.out, HPB.out, by (show j.recs.length + p.length + 0 ≤ 100000000); omega, by omega, ?_⟩
      exact HTG.out.symm
    case pass =>
      clear h1 HW HP HPB HTG hrc hrn hol hrl hpl h108
      intro l a wd hJ
      obtain ⟨j, p, RA, rc, OA, oc, PA, pc, p6, p7, hA, hW, hP, hpb, hb, hp108, hat⟩ := hJ
      obtain ⟨f, rfl⟩ := hA.spell
      obtain ⟨⟨c0, c1, c2⟩, ⟨d0, d1, d2⟩, ⟨f0, f1, f2⟩, ⟨g0, g1, g2⟩⟩ := hW.cells
      have HW := Lib.hid hW
      have HP := Lib.hid hP
      have HPB := Lib.hid hpb
      clear hW hP hpb
      have HAT := Lib.hid hat
      clear hat hA
      rcases l with _ | _ | _ | _ | l
      · refine ⟨_, rfl, ?_⟩
        have hj : jrun p.length j p = target := HAT.out
        clear HAT
        rcases p with _ | ⟨x, _ | ⟨n, ps⟩⟩
        · have hl : (([] : List Int).length : Int) = 0 := rfl
          obtain rfl : target = some j := hj.symm
          clear hj
          go_wp2_with fail
          have hD := HW.out.tell rfl (some j) (fun j2 h => (Option.some.inj h).symm)
          have hb3 := done3_blk HW.out.res (x := .slice RA j.recs.length rc) (y := .slice OA j.opn.length oc) (z := .bool j.begun)
          rw [show ((wd.setCell ⟨w.heap.size + 1, 0, none⟩ (.slice RA j.recs.length rc)).setCell ⟨w.heap.size + 1, 1, none⟩ (.slice OA j.opn.length oc)).setCell ⟨w.heap.size + 1, 2, none⟩ (.bool j.begun) = done3 wd (w.heap.size + 1) (.slice RA j.recs.length rc) (.slice OA j.opn.length oc) (.bool j.begun) from rfl]
          have r0 := blk_cell hb3 0
          have r1 := blk_cell hb3 1
          have r2 := blk_cell hb3 2
          generalize done3 wd (w.heap.size + 1) (.slice RA j.recs.length rc) (.slice OA j.opn.length oc) (.bool j.begun) = w3 at *
          exact bodyPost_ret (v := .tuple #[.agg #[.slice RA j.recs.length rc, .slice OA j.opn.length oc, .bool j.begun], .bool true]) (by simp [results, Try.results57, go_sem, r0, r1, r2]) rfl hD
        · have hl : (([x] : List Int).length : Int) = 1 := rfl
          obtain rfl : target = none := hj.symm
          clear hj
          go_wp2_with fail
          have hD := HW.out.tell rfl (none) (fun j2 h => (by cases h))
          have hb3 := done3_blk HW.out.res (x := .slice RA j.recs.length rc) (y := .slice OA j.opn.length oc) (z := .bool j.begun)
          rw [show ((wd.setCell ⟨w.heap.size + 1, 0, none⟩ (.slice RA j.recs.length rc)).setCell ⟨w.heap.size + 1, 1, none⟩ (.slice OA j.opn.length oc)).setCell ⟨w.heap.size + 1, 2, none⟩ (.bool j.begun) = done3 wd (w.heap.size + 1) (.slice RA j.recs.length rc) (.slice OA j.opn.length oc) (.bool j.begun) from rfl]
          have r0 := blk_cell hb3 0
          have r1 := blk_cell hb3 1
          have r2 := blk_cell hb3 2
          generalize done3 wd (w.heap.size + 1) (.slice RA j.recs.length rc) (.slice OA j.opn.length oc) (.bool j.begun) = w3 at *
          exact bodyPost_ret (v := .tuple #[.agg #[.slice RA j.recs.length rc, .slice OA j.opn.length oc, .bool j.begun], .bool false]) (by simp [results, Try.results57, go_sem, r0, r1, r2]) rfl hD
        · obtain ⟨x0, x1⟩ := HPB.out x (by simp)
          obtain ⟨n0, n1⟩ := HPB.out n (by simp)
          obtain ⟨nn, rfl⟩ := Int.eq_ofNat_of_zero_le n0
          rcases PA with _ | ⟨pg, po, ps0⟩
          · have := HP.out.read.empty rfl
            cases this
          obtain ⟨hs0, hcell⟩ := HP.out.read.cells pg po ps0 rfl
          obtain rfl := hs0 (by have := HP.out.read.cap; simp only [List.length_cons] at this; omega)
          have hx := hcell 0 x rfl
          have hn := hcell 1 _ rfl
          rw [Nat.add_zero] at hx
          obtain ⟨N, hN⟩ : ∃ N, N = (x :: ((nn : Nat) : Int) :: ps).length := ⟨_, rfl⟩
          have hNs : N = ps.length + 2 := by rw [hN]; simp
          rw [← hN]
          have hN2 : (2 : Int) ≤ (N : Int) := by omega
          have hN1 : (1 : Int) < (N : Int) := by omega
          have hN3 : (N : Int) < 1000 := by rw [← hN] at hp108; omega
          have hj0 : (if 106 < (nn : Int) ∨ ps.length < nn then none else (jstep j x (ps.take nn)).bind (fun j' => jrun (ps.length + 1) j' (ps.drop nn))) = target := hj
          have HN := Lib.hid hNs
          clear hcell hj hN n0 hNs
          have hcap : N ≤ pc := by have := HP.out.read.cap; rw [HN.out]; simpa using this
          by_cases hbad : 106 < (nn : Int) ∨ ps.length < nn
          · rw [if_pos hbad] at hj0
            obtain rfl : target = none := hj0.symm
            clear hj0
            by_cases h106 : 106 < (nn : Int)
            · go_wp2_with fail
              have hD := HW.out.tell rfl (none) (fun j2 h => (by cases h))
              have hb3 := done3_blk HW.out.res (x := .slice RA j.recs.length rc) (y := .slice OA j.opn.length oc) (z := .bool j.begun)
              rw [show ((wd.setCell ⟨w.heap.size + 1, 0, none⟩ (.slice RA j.recs.length rc)).setCell ⟨w.heap.size + 1, 1, none⟩ (.slice OA j.opn.length oc)).setCell ⟨w.heap.size + 1, 2, none⟩ (.bool j.begun) = done3 wd (w.heap.size + 1) (.slice RA j.recs.length rc) (.slice OA j.opn.length oc) (.bool j.begun) from rfl]
              have r0 := blk_cell hb3 0
              have r1 := blk_cell hb3 1
              have r2 := blk_cell hb3 2
              generalize done3 wd (w.heap.size + 1) (.slice RA j.recs.length rc) (.slice OA j.opn.length oc) (.bool j.begun) = w3 at *
              exact bodyPost_ret (v := .tuple #[.agg #[.slice RA j.recs.length rc, .slice OA j.opn.length oc, .bool j.begun], .bool false]) (by simp [results, Try.results57, go_sem, r0, r1, r2]) rfl hD
            · have hs : (N : Int) < 2 + (nn : Int) := by rw [HN.out]; omega
              go_wp2_with fail
              have hD := HW.out.tell rfl (none) (fun j2 h => (by cases h))
              have hb3 := done3_blk HW.out.res (x := .slice RA j.recs.length rc) (y := .slice OA j.opn.length oc) (z := .bool j.begun)
              rw [show ((wd.setCell ⟨w.heap.size + 1, 0, none⟩ (.slice RA j.recs.length rc)).setCell ⟨w.heap.size + 1, 1, none⟩ (.slice OA j.opn.length oc)).setCell ⟨w.heap.size + 1, 2, none⟩ (.bool j.begun) = done3 wd (w.heap.size + 1) (.slice RA j.recs.length rc) (.slice OA j.opn.length oc) (.bool j.begun) from rfl]
              have r0 := blk_cell hb3 0
              have r1 := blk_cell hb3 1
              have r2 := blk_cell hb3 2
              generalize done3 wd (w.heap.size + 1) (.slice RA j.recs.length rc) (.slice OA j.opn.length oc) (.bool j.begun) = w3 at *
              exact bodyPost_ret (v := .tuple #[.agg #[.slice RA j.recs.length rc, .slice OA j.opn.length oc, .bool j.begun], .bool false]) (by simp [results, Try.results57, go_sem, r0, r1, r2]) rfl hD
          · rw [if_neg hbad] at hj0
            have h106 : ¬ 106 < (nn : Int) := by omega
            have hs : ¬ (N : Int) < 2 + (nn : Int) := by rw [HN.out]; omega
            have hlo : 2 + nn ≤ N := by rw [HN.out]; omega
            have hjr : (jstep j x (ps.take nn)).bind (fun j' => jrun (ps.drop nn).length j' (ps.drop nn)) = target := by
              rw [← hj0]
              cases jstep j x (ps.take nn) with
              | none => rfl
              | some j' => 
                simp only [Option.bind_some]
                rw [jrun_fuel (ps.length + 1) j' (ps.drop nn) (by rw [List.length_drop]; omega)]
            have HJ := Lib.hid hjr
            clear hj0 hjr
            have hs1 : ∀ W : World, (Instr.slice 27 (.slice (some ⟨pg, po, none⟩) N pc) (some (.int .i64 2)) (some (.int .i64 (2 + (nn : Int)))) none).run Try.prog W = .ok (.slice (cutA (some ⟨pg, po, none⟩) pc 2) nn (pc - 2)) W := fun W => by
              have := cutB (some ⟨pg, po, none⟩) N pc 2 (2 + nn) (by omega) (by omega) W 2 (2 + (nn : Int)) rfl (by omega)
              rwa [Nat.add_sub_cancel_left] at this
            have hs2 : ∀ W : World, (Instr.slice 27 (.slice (some ⟨pg, po, none⟩) N pc) (some (.int .i64 (2 + (nn : Int)))) none none).run Try.prog W = .ok (.slice (cutA (some ⟨pg, po, none⟩) pc (2 + nn)) (N - (2 + nn)) (pc - (2 + nn))) W := fun W =>
              cutB_from (some ⟨pg, po, none⟩) N pc (2 + nn) hlo W (2 + (nn : Int)) (by omega)
            go_upto_region 9 with (fail)
            go_quiet (fail)
            have HW2 := Lib.hid (HW.out.fr ((Fr.refl (fun _ => False) wd).drewN nq) (Nat.le_of_lt (blk_lt HW.out.box)))
            have HDL : Hid ((ps.drop nn).length = N - (2 + nn)) := by show (ps.drop nn).length = N - (2 + nn); rw [List.length_drop, HN.out]; omega
            have HTL : Hid ((ps.take nn).length = nn) := by show (ps.take nn).length = nn; rw [List.length_take]; omega
            have HR1 : Hid (ReadBN (PS S0 w.heap.size) (wd.drewN nq) (cutA (some ⟨pg, po, none⟩) pc 2) (pc - 2) (ps.take nn)) := by
              have := cutA_readN HP.out 2 (2 + nn) (by omega) (by simp; omega)
              rw [Nat.add_sub_cancel_left] at this
              exact this.fr ((Fr.refl (PS S0 w.heap.size) wd).drewN nq)
            have HR2 : Hid (ReadBN (PS S0 w.heap.size) (wd.drewN nq) (cutA (some ⟨pg, po, none⟩) pc (2 + nn)) (pc - (2 + nn)) (ps.drop nn)) := by
              have := cutA_readN HP.out (2 + nn) N hlo (by rw [HN.out]; simp)
              have e : ((x :: (nn : Int) :: ps).drop (2 + nn)).take (N - (2 + nn)) = ps.drop nn := by
                rw [Nat.add_comm 2 nn]
                simp only [List.drop_succ_cons]
                rw [List.take_of_length_le]
                rw [List.length_drop, HN.out]; omega
              rw [e] at this
              exact this.fr ((Fr.refl (PS S0 w.heap.size) wd).drewN nq)
            have HBD : Hid (j.recs.length + (ps.drop nn).length + 1 ≤ 100000000 ∧ (ps.drop nn).length ≤ 108) := by
              have h1 : (ps.drop nn).length ≤ ps.length := by rw [List.length_drop]; omega
              have hb' : j.recs.length + (x :: (nn : Int) :: ps).length + 0 ≤ 100000000 := hb
              simp only [List.length_cons] at hb' hp108
              exact ⟨by omega, by omega⟩
            have HWW := HW.out
            clear hs1 hs2 hx hn hs hN1 hN2 hN3 hcap c0 c1 c2 d0 d1 d2 f0 f1 f2 g0 g1 g2 HW HP HWW
            by_cases x1' : x = 1
            · subst x1'
              go_wp2
              go_step3
              refine ⟨⟨j, ps.drop nn, RA, rc, OA, oc, _, _, .int .u8 1, .slice (cutA (some ⟨pg, po, none⟩) pc 2) nn (pc - 2), ⟨rfl, rfl, by rw [HDL.out]; rfl, rfl, rfl, rfl, rfl, rfl⟩, HW2.out, HR2.out, fun b hb => HPB.out b (List.mem_cons_of_mem _ (List.mem_cons_of_mem _ (List.mem_of_mem_drop hb))), HBD.out.1, HBD.out.2, ?_⟩, ?_⟩
              · exact ⟨ps.take nn, _, _, rfl, by rw [HTL.out], HR1.out, by rw [HTL.out]; omega, HJ.out⟩
              · show 4 * (N - (2 + nn)) + 1 < 4 * N + 0
                omega
            by_cases x2' : x = 2
            · subst x2'
              go_wp2
              go_step3
              refine ⟨⟨j, ps.drop nn, RA, rc, OA, oc, _, _, .int .u8 2, .slice (cutA (some ⟨pg, po, none⟩) pc 2) nn (pc - 2), ⟨rfl, rfl, by rw [HDL.out]; rfl, rfl, rfl, rfl, rfl, rfl⟩, HW2.out, HR2.out, fun b hb => HPB.out b (List.mem_cons_of_mem _ (List.mem_cons_of_mem _ (List.mem_of_mem_drop hb))), HBD.out.1, HBD.out.2, ?_⟩, ?_⟩
              · exact ⟨ps.take nn, _, _, rfl, by rw [HTL.out], HR1.out, by rw [HTL.out]; omega, HJ.out⟩
              · show 4 * (N - (2 + nn)) + 1 < 4 * N + 0
                omega
            by_cases x34 : x = 3 ∨ x = 4
            · rcases x34 with rfl | rfl
              · go_wp2
                go_step3
                refine ⟨⟨j, ps.drop nn, RA, rc, OA, oc, _, _, .int .u8 3, .slice (cutA (some ⟨pg, po, none⟩) pc 2) nn (pc - 2), ⟨rfl, rfl, by rw [HDL.out]; rfl, rfl, rfl, rfl, rfl, rfl⟩, HW2.out, HR2.out, fun b hb => HPB.out b (List.mem_cons_of_mem _ (List.mem_cons_of_mem _ (List.mem_of_mem_drop hb))), HBD.out.1, HBD.out.2, ?_⟩, ?_⟩
                · exact ⟨3, ps.take nn, _, _, rfl, by omega, by rw [HTL.out], HR1.out, by rw [HTL.out]; omega, HJ.out⟩
                · show 4 * (N - (2 + nn)) + 1 < 4 * N + 0
                  omega
              · go_wp2
                go_step3
                refine ⟨⟨j, ps.drop nn, RA, rc, OA, oc, _, _, .int .u8 4, .slice (cutA (some ⟨pg, po, none⟩) pc 2) nn (pc - 2), ⟨rfl, rfl, by rw [HDL.out]; rfl, rfl, rfl, rfl, rfl, rfl⟩, HW2.out, HR2.out, fun b hb => HPB.out b (List.mem_cons_of_mem _ (List.mem_cons_of_mem _ (List.mem_of_mem_drop hb))), HBD.out.1, HBD.out.2, ?_⟩, ?_⟩
                · exact ⟨4, ps.take nn, _, _, rfl, by omega, by rw [HTL.out], HR1.out, by rw [HTL.out]; omega, HJ.out⟩
                · show 4 * (N - (2 + nn)) + 1 < 4 * N + 0
                  omega
            · have hjn : target = none := by
                rw [← HJ.out]
                have : jstep j x (ps.take nn) = none := by simp [jstep, x1', x2', x34]
                rw [this]; rfl
              have x3' : (x == 3) = false := by simp; omega
              have x4' : (x == 4) = false := by simp; omega
              subst hjn
              have HW := HW2
              obtain ⟨⟨c0, c1, c2⟩, ⟨d0, d1, d2⟩, ⟨f0, f1, f2⟩, ⟨g0, g1, g2⟩⟩ := HW.out.cells
              generalize wd.drewN nq = wd2 at *
              clear x34
              go_wp2_with fail
              have hD := HW.out.tell rfl (none) (fun j2 h => (by cases h))
              have hb3 := done3_blk HW.out.res (x := .slice RA j.recs.length rc) (y := .slice OA j.opn.length oc) (z := .bool j.begun)
              rw [show ((wd2.setCell ⟨w.heap.size + 1, 0, none⟩ (.slice RA j.recs.length rc)).setCell ⟨w.heap.size + 1, 1, none⟩ (.slice OA j.opn.length oc)).setCell ⟨w.heap.size + 1, 2, none⟩ (.bool j.begun) = done3 wd2 (w.heap.size + 1) (.slice RA j.recs.length rc) (.slice OA j.opn.length oc) (.bool j.begun) from rfl]
              have r0 := blk_cell hb3 0
              have r1 := blk_cell hb3 1
              have r2 := blk_cell hb3 2
              generalize done3 wd2 (w.heap.size + 1) (.slice RA j.recs.length rc) (.slice OA j.opn.length oc) (.bool j.begun) = w3 at *
              exact bodyPost_ret (v := .tuple #[.agg #[.slice RA j.recs.length rc, .slice OA j.opn.length oc, .bool j.begun], .bool false]) (by simp [results, Try.results57, go_sem, r0, r1, r2]) rfl hD
      · obtain ⟨b, BA, bc, rfl, rfl, hB, hbl, hj⟩ := (HAT.out : ∃ b BA bc, p6 = .int .u8 1 ∧ p7 = .slice BA b.length bc ∧ ReadBN (PS S0 w.heap.size) wd BA bc b ∧ b.length ≤ 106 ∧ (jstep j 1 b).bind (fun j' => jrun p.length j' p) = target)
        refine ⟨_, rfl, ?_⟩
        have HB := Lib.hid hB
        have HJ : Hid (jrun p.length ⟨j.recs ++ [b], [], false⟩ p = target) := hj
        obtain ⟨olds, ol1, ol2, ol3⟩ := HW.out.recs.olds'
        have hsl := fun W => cutN HW.out.recs HW.out.cap W
        have hnone : RA = none → j.recs.length = 0 ∧ j.recs.length = 0 := fun e => by have h1 := HW.out.nonil e; have h2 := HW.out.cap; omega
        have HF1 : Hid (Fr (fun _ => False) wd (wd.alloc (.cells #[] 5))) := (Fr.refl _ wd).alloc _
        have HE : Hid ((wd.alloc (.cells #[] 5)).heap[wd.heap.size]? = some (.cells #[] 5 (0, 0))) := blk_new _ _
        have HB1 : Hid (ReadBN (PS S0 w.heap.size) (wd.alloc (.cells #[] 5)) BA bc b) := HB.out.fr HF1.out.none
        have HBN : Hid (BA = none → b.length = 0) := fun e => by have := HB.out.read.empty e; rw [this]; rfl
        have HBL : Hid (0 + b.length ≤ 1000000000) := by show 0 + b.length ≤ 1000000000; omega
        have p0 := HF1.out.cell0 c0
        have HOL1 := Lib.hid ol1
        have HOL2 := Lib.hid ol2
        have HOL3 := Lib.hid ol3
        have HNN := Lib.hid hnone
        have HBM : Hid (j.recs.length + 1 ≤ maxLen) := by show j.recs.length + 1 ≤ maxLen; have hb1 : j.recs.length + p.length + 1 ≤ 100000000 := hb; simp [maxLen]; omega
        have HBB : Hid ((j.recs.length + 1) * 24 ≤ 140737488355328) := by show (j.recs.length + 1) * 24 ≤ 140737488355328; have hb1 : j.recs.length + p.length + 1 ≤ 100000000 := hb; omega
        obtain ⟨i27, hi27, hzz⟩ := Option.map_eq_some_iff.1 Try.info27
        simp only [Prod.mk.injEq] at hzz
        obtain ⟨hz0, hz1, hz2⟩ := hzz
        have HI := Lib.hid hi27
        have HZ := Lib.hid (And.intro hz0 (And.intro hz1 hz2))
        clear hB hj HAT ol1 ol2 ol3 hnone hi27 hz0 hz1 hz2 c1 c2 f0 f1 f2 g0 g1 g2 d0 d1 d2
        go_upto_region 16 with (fail)
        refine wp_region_noPanic ?_
        refine wp_region_T (fun w' => w'.cell? ⟨w.heap.size, 0, none⟩ = some (.slice RA j.recs.length rc)) 15 (by kernel_rfl) c0 (fun hS0 => ?_)
        refine wpAnyT_take (i := 0) (v := ?_) rfl (by kernel_rfl) (by kernel_rfl) (by kernel_rfl) (by kernel_rfl) rfl (fun _ _ _ h => h) (Or.inl ⟨by rfl, ?_⟩) (by assumption) ?_
        rotate_left 1
        · intro w' hs0
          go_simp
          try (with_reducible rfl)
        try simp only [Act.put, List.setIfInBounds_toArray, List.set_cons_zero, List.set_cons_succ]
        refine wpAnyT_take (i := 1) (v := ?_) rfl (by kernel_rfl) (by kernel_rfl) (by kernel_rfl) (by kernel_rfl) rfl (fun _ _ _ h => h) (Or.inl ⟨by rfl, ?_⟩) (by assumption) ?_
        rotate_left 1
        · intro w' hs0
          go_simp
          try (with_reducible rfl)
        try simp only [Act.put, List.setIfInBounds_toArray, List.set_cons_zero, List.set_cons_succ]
        refine wpAnyT_take (i := 2) (v := ?_) rfl (by kernel_rfl) (by kernel_rfl) (by kernel_rfl) (by kernel_rfl) rfl (fun _ _ _ h => h) (Or.inl ⟨by rfl, ?_⟩) (by assumption) ?_
        rotate_left 1
        · intro w' hs0
          go_simp
          try (with_reducible rfl)
        try simp only [Act.put, List.setIfInBounds_toArray, List.set_cons_zero, List.set_cons_succ]
        refine wpAnyT_take (i := 3) (v := ?_) rfl (by kernel_rfl) (by kernel_rfl) (by kernel_rfl) (by kernel_rfl) rfl (fun _ _ _ h => h) (Or.inl ⟨by rfl, ?_⟩) (by assumption) ?_
        rotate_left 1
        · intro w' hs0
          go_simp
          try (with_reducible rfl)
        try simp only [Act.put, List.setIfInBounds_toArray, List.set_cons_zero, List.set_cons_succ]
        refine wpAnyT_take (i := 4) (v := ?_) rfl (by kernel_rfl) (by kernel_rfl) (by kernel_rfl) (by kernel_rfl) rfl (fun _ _ _ h => h) (Or.inl ⟨by rfl, ?_⟩) (by assumption) ?_
        rotate_left 1
        · intro w' hs0
          go_simp
          try (with_reducible rfl)
        try simp only [Act.put, List.setIfInBounds_toArray, List.set_cons_zero, List.set_cons_succ]
        refine wpAnyT_take (i := 5) (v := ?_) rfl (by kernel_rfl) (by kernel_rfl) (by kernel_rfl) (by kernel_rfl) rfl (fun _ _ _ h => h) (Or.inl ⟨by rfl, ?_⟩) (by assumption) ?_
        rotate_left 1
        · intro w' hs0
          go_simp
          try (with_reducible rfl)
        try simp only [Act.put, List.setIfInBounds_toArray, List.set_cons_zero, List.set_cons_succ]
        refine wpAnyT_take (i := 6) (v := ?_) rfl (by kernel_rfl) (by kernel_rfl) (by kernel_rfl) (by kernel_rfl) rfl (fun _ _ _ h => h) (Or.inl ⟨by rfl, ?_⟩) (by assumption) ?_
        rotate_left 1
        · intro w' hs0
          go_simp
          try (with_reducible rfl)
        try simp only [Act.put, List.setIfInBounds_toArray, List.set_cons_zero, List.set_cons_succ]
        refine wpAnyT_take (i := 7) (v := ?_) rfl (by kernel_rfl) (by kernel_rfl) (by kernel_rfl) (by kernel_rfl) rfl (fun _ _ _ h => h) (Or.inl ⟨by rfl, ?_⟩) (by assumption) ?_
        rotate_left 1
        · intro w' hs0
          go_simp
          try (with_reducible rfl)
        try simp only [Act.put, List.setIfInBounds_toArray, List.set_cons_zero, List.set_cons_succ]
        refine wpAnyT_take (i := 8) (v := ?_) rfl (by kernel_rfl) (by kernel_rfl) (by kernel_rfl) (by kernel_rfl) rfl (fun _ _ _ h => h) (Or.inl ⟨by rfl, ?_⟩) (by assumption) ?_
        rotate_left 1
        · intro w' hs0
          go_simp
          try (with_reducible rfl)
        try simp only [Act.put, List.setIfInBounds_toArray, List.set_cons_zero, List.set_cons_succ]
        refine wpAnyT_take (i := 10) (v := ?_) rfl (by kernel_rfl) (by kernel_rfl) (by kernel_rfl) (by kernel_rfl) rfl (fun _ _ _ h => h) (Or.inl ⟨by rfl, ?_⟩) (by assumption) ?_
        rotate_left 1
        · intro w' hs0
          go_simp
          try (with_reducible rfl)
        try simp only [Act.put, List.setIfInBounds_toArray, List.set_cons_zero, List.set_cons_succ]
        refine wpAnyT_one (i := 9) (by kernel_rfl) rfl rfl (fun K hK => ?_)
        go_simp
        refine hK.out _ _ p0 ?_
        clear hK K
        try simp only [Act.put, List.setIfInBounds_toArray, List.set_cons_zero, List.set_cons_succ]
        refine wpAnyT_one (i := 11) (by kernel_rfl) rfl rfl (fun K hK => ?_)
        refine app_u8x (by rfl) (.tmp 72) (.tmp 73) (by rfl) wd.heap.size (.slice (some ⟨wd.heap.size, 0, none⟩) 0 0) 0 [] (by rfl) (own_rebase' (own_empty 1 HE.out rfl) (fun k hk => Nat.le_of_eq (Option.some.inj hk))) BA b.length bc b (by rfl) HB1.out.read.news HBN.out rfl HBL.out HF1.out.size ?_
        intro v2 w2 ho2 hg2 hm2
        obtain ⟨A2, c2, rfl⟩ := own_slice ho2
        simp only [Nat.zero_add, List.nil_append] at ho2 ⊢
        have F2 : Fr (fun _ => False) wd w2 := by first | exact HF1.out.grown hg2 (fun k hk => .inl (Nat.le_of_eq (Option.some.inj hk))) | exact HF1.out.drew.grown hg2 (fun k hk => .inl (Nat.le_of_eq (Option.some.inj hk))) | exact HF1.out.drew.drew.grown hg2 (fun k hk => .inl (Nat.le_of_eq (Option.some.inj hk)))
        have hS2 : w2.cell? ⟨w.heap.size, 0, none⟩ = some (.slice RA j.recs.length rc) := F2.cell0 c0
        have HF2 := Lib.hid F2
        have HO2 := Lib.hid ho2
        have HX2 : Hid (ReadBN (PS S0 w.heap.size) w2 A2 c2 b) := readBN_own ho2 (PS_lt HW.out)
        have HF3 : Hid (Fr (fun _ => False) w2 (w2.alloc (.cells #[.slice A2 b.length c2] 27))) := (Fr.refl _ w2).alloc _
        have p2 := HF3.out.cell0 hS2
        have HOLD : Hid (∀ b', RA = some b' → ∀ (j : Nat) (u : Value), olds[j]? = some u → (w2.alloc (.cells #[.slice A2 b.length c2] 27)).cell? (b'.add j) = some u) := fun b' e j u hu => HF3.out.cell0 (HF2.out.cell0 (HOL2.out b' e j u hu))
        have HONE : Hid (∀ u ∈ [Value.slice A2 b.length c2], u.oneCell' = true) := by simp [Hid, Value.oneCell']
        refine hK.out _ _ hS2 ?_
        clear hK K hS0 F2 ho2 hg2 hm2 p0
        try simp only [Act.put, List.setIfInBounds_toArray, List.set_cons_zero, List.set_cons_succ]
        refine wpAnyT_one (i := 12) (by kernel_rfl) rfl rfl (fun K hK => ?_)
        go_simp
        refine hK.out _ _ p2 ?_
        clear hK K
        try simp only [Act.put, List.setIfInBounds_toArray, List.set_cons_zero, List.set_cons_succ]
        refine wpAnyT_one (i := 13) (by kernel_rfl) rfl rfl (fun K hK => ?_)
        refine step_append_grows (by rfl) (.tmp 71) (.tmp 75) 47 (by rfl) 27 i27 (.slice none 0 0) 1 24 Try.underlying47 HI.out HZ.out.1 HZ.out.2.1 HZ.out.2.2 (by rfl) (by decide) RA j.recs.length j.recs.length olds (by rfl) HNN.out (by rw [HOL1.out]; omega) HOLD.out ⟨w2.heap.size, 0, none⟩ 1 1 [.slice A2 b.length c2] (by rfl) rfl (news_of (fr := (0, 0)) (t := 27) (blk_new w2 (.cells #[.slice A2 b.length c2] 27))) HONE.out (by omega) HBM.out HBB.out ?_
        intro v5 w5 ho5 hg5
        obtain ⟨A5, c5, rfl⟩ := own_slice ho5
        have F5 : Fr (fun _ => False) w2 w5 := by first | exact HF3.out.grown hg5 (fun k hk => (by cases hk)) | exact HF3.out.drew.grown hg5 (fun k hk => (by cases hk)) | exact HF3.out.drew.drew.grown hg5 (fun k hk => (by cases hk))
        have FT : Fr (fun _ => False) wd w5 := HF2.out.trans F5 (fun _ _ h => h)
        have hb5 := FT.blk0 HW.out.box
        have k0 : w5.cell? ⟨w.heap.size, 0, none⟩ = some (.slice RA j.recs.length rc) := blk_cell hb5 0
        have z0 := blk_frozen hb5 0
        have k1 : w5.cell? ⟨w.heap.size, 1, none⟩ = some (.slice OA j.opn.length oc) := blk_cell hb5 1
        have z1 := blk_frozen hb5 1
        have k2 : w5.cell? ⟨w.heap.size, 2, none⟩ = some (.bool j.begun) := blk_cell hb5 2
        have z2 := blk_frozen hb5 2
        refine hK.out _ _ k0 ?_
        clear hK K
        try simp only [Act.put, List.setIfInBounds_toArray, List.set_cons_zero, List.set_cons_succ]
        refine wpAnyT_take (i := 14) (v := ?_) rfl (by kernel_rfl) (by kernel_rfl) (by kernel_rfl) (by kernel_rfl) rfl (fun _ _ _ h => h) (Or.inl ⟨by rfl, ?_⟩) (by assumption) ?_
        rotate_left 1
        · intro w' hs0
          go_simp
          try (with_reducible rfl)
        try simp only [Act.put, List.setIfInBounds_toArray, List.set_cons_zero, List.set_cons_succ]
        refine wpAnyT_last (by kernel_rfl) rfl (by kernel_rfl) (fun K hK => ?_)
        go_simp
        refine hK.out _ _ ?_
        clear hK K
        refine NoPanic.normal ?_
        go_wp2
        go_step3
        have hA := row_some ho5 (by omega)
        have hSlt : ∀ k, PS S0 w.heap.size k → k < (w2.alloc (Obj.cells #[Value.slice A2 b.length c2] 27)).drew.heap.size := fun k hk => Nat.lt_of_lt_of_le (PS_lt HW.out k hk) (Nat.le_trans HF2.out.size HF3.out.size)
        have ol3' : ∀ (i : Nat) (x : List Int), j.recs[i]? = some x → ∃ PA pc, olds[i]? = some (Value.slice PA x.length pc) ∧ ReadBN (PS S0 w.heap.size) w2 PA pc x := fun i x hx => by obtain ⟨PA', pc', h1, h2⟩ := HOL3.out i x hx; exact ⟨PA', pc', h1, h2.fr HF2.out.none⟩
        have hR5 : ReadRN (PS S0 w.heap.size) w5 A5 (j.recs ++ [b]) := readRN_snoc ho5 HOL1.out hSlt F5.none ol3' HX2.out
        have hW5 : JW S0 w w.heap.size (done3 w5 w.heap.size (.slice A5 (j.recs.length + 1) c5) (.slice none 0 0) (.bool false)) ⟨j.recs ++ [b], [], false⟩ A5 c5 none 0 :=
          HW.out.upd FT (done3_fr _ _ _ _ _) (by rw [List.length_append]; exact done3_blk hb5) (by rw [List.length_append]; exact hA.2) hA.1 hR5 (ReadBN.nil _ _) (by simp)
        have hP5 : ReadBN (PS S0 w.heap.size) (done3 w5 w.heap.size (.slice A5 (j.recs.length + 1) c5) (.slice none 0 0) (.bool false)) PA pc p := (HP.out.fr FT.none).fr ((done3_fr _ _ _ _ _).mono (fun k _ hk => .inr (.inl hk)))
        have hb1 : j.recs.length + p.length + 1 ≤ 100000000 := hb
        refine ⟨⟨⟨j.recs ++ [b], [], false⟩, p, A5, c5, none, 0, PA, pc, _, _, ⟨rfl, rfl, rfl, rfl, rfl, rfl, rfl, rfl⟩, hW5, hP5, HPB.out, ?_, hp108, HJ.out⟩, ?_⟩
        · show (j.recs ++ [b]).length + p.length + 0 ≤ 100000000
          simp only [List.length_append, List.length_cons, List.length_nil]
          omega
        · show 4 * p.length + 0 < 4 * p.length + 1
          omega
      · obtain ⟨b, BA, bc, rfl, rfl, hB, hbl, hj⟩ := (HAT.out : ∃ b BA bc, p6 = .int .u8 2 ∧ p7 = .slice BA b.length bc ∧ ReadBN (PS S0 w.heap.size) wd BA bc b ∧ b.length ≤ 106 ∧ (jstep j 2 b).bind (fun j' => jrun p.length j' p) = target)
        refine ⟨_, rfl, ?_⟩
        have HB := Lib.hid hB
        have HJ := Lib.hid hj
        clear hB hj HAT
        have hws : wd.heap.size ≤ (wd.alloc (.cells #[] 5)).heap.size := ((Fr.refl (fun _ => False) wd).alloc (.cells #[] 5)).size
        have HE : Hid ((wd.alloc (.cells #[] 5)).heap[wd.heap.size]? = some (.cells #[] 5 (0, 0))) := blk_new _ _
        have HFA : Hid (Fr (PS S0 w.heap.size) wd (wd.alloc (.cells #[] 5))) := (Fr.refl _ wd).alloc _
        go_wp2_with (at_builtin; refine wpl_appx rfl (.tmp 80) (.tmp 81) 27 rfl wd.heap.size 5 _ 1 1 Try.underlying27 Try.info5 rfl (by decide) (.slice (some ⟨wd.heap.size, 0, none⟩) 0 0) 0 [] rfl (own_rebase' (own_empty 1 HE.out rfl) (fun k hk => Nat.le_of_eq (Option.some.inj hk))) BA b.length bc (bytes b) rfl (by rw [bytes_len]; omega) ((HB.out.fr HFA.out).read.news) (fun e => by have := HB.out.read.empty e; rw [this]; rfl) (bytes_one b) (by simp [maxLen]; omega) (by omega) hws ?_; intro v2 w2 ho2 hg2 hm2; obtain ⟨A2, c2, rfl⟩ := own_slice ho2; have F2 : Fr (fun _ => False) wd w2 := ((Fr.refl (fun _ => False) wd).alloc _).grown hg2 (fun k hk => .inl (Nat.le_of_eq (Option.some.inj hk))); have hbx := F2.blk0 HW.out.box; have e1 : w2.cell? ⟨w.heap.size, 1, none⟩ = some (.slice OA j.opn.length oc) := blk_cell hbx 1; have e2 : w2.cell? ⟨w.heap.size, 2, none⟩ = some (.bool j.begun) := blk_cell hbx 2; have z1 := blk_frozen hbx 1; have z2 := blk_frozen hbx 2)
        go_step3
        have ho3 : w2.ownsRow wd.heap.size 5 1 (.slice A2 (0 + b.length) c2) b.length (bytes b) := by have := ho2; rw [List.nil_append] at this; rwa [Nat.zero_add] at this ⊢
        have hB2 : ReadBN (PS S0 w.heap.size) w2 A2 c2 b := readBN_own ho3 (PS_lt HW.out)
        have hW4 : JW S0 w w.heap.size ((w2.setCell ⟨w.heap.size, 1, none⟩ (.slice A2 (0 + b.length) c2)).setCell ⟨w.heap.size, 2, none⟩ (.bool true)) ⟨j.recs, b, true⟩ RA rc A2 c2 :=
          HW.out.upd F2 (set12_fr _ _ _ _) (by rw [Nat.zero_add]; exact set12_blk hbx) HW.out.cap HW.out.nonil (HW.out.recs.fr F2.none) hB2 (by show b.length ≤ 8192; omega)
        rw [Nat.zero_add] at hW4
        refine ⟨⟨⟨j.recs, b, true⟩, p, RA, rc, A2, c2, PA, pc, _, _, ⟨rfl, rfl, rfl, rfl, rfl, rfl, rfl, rfl⟩, hW4, (HP.out.fr F2.none).fr ((set12_fr _ _ _ _).mono (fun k _ hk => .inr (.inl hk))), HPB.out, Nat.le_of_succ_le hb, hp108, HJ.out⟩, ?_⟩
        show 4 * p.length + 0 < 4 * p.length + 1
        omega
      · obtain ⟨k, b, BA, bc, rfl, hk, rfl, hB, hbl, hj⟩ := (HAT.out : ∃ k b BA bc, p6 = .int .u8 k ∧ (k = 3 ∨ k = 4) ∧ p7 = .slice BA b.length bc ∧ ReadBN (PS S0 w.heap.size) wd BA bc b ∧ b.length ≤ 106 ∧ (jstep j k b).bind (fun j' => jrun p.length j' p) = target)
        refine ⟨_, rfl, ?_⟩
        have HB := Lib.hid hB
        have hk1 : ¬ k = 1 := by omega
        have hk2 : ¬ k = 2 := by omega
        have hjs : jstep j k b = if j.begun = false ∨ 8192 < j.opn.length + b.length then none else if k = 4 then some ⟨j.recs ++ [j.opn ++ b], [], false⟩ else some ⟨j.recs, j.opn ++ b, true⟩ := by
          simp only [jstep]
          rw [if_neg hk1, if_neg hk2, if_pos hk]
        rw [hjs] at hj
        have hol := HW.out.ol
        clear hB HAT hjs
        by_cases hbad : j.begun = false ∨ 8192 < j.opn.length + b.length
        · rw [if_pos hbad] at hj
          obtain rfl : target = none := hj.symm
          clear hj
          cases hbg : j.begun with
          | false =>
            rw [hbg] at c2
            have hWc := HW
            go_wp2_with fail
            have hD := HW.out.tell rfl (none) (fun j2 h => (by cases h))
            rw [hbg] at hD
            have hb3 := done3_blk HW.out.res (x := .slice RA j.recs.length rc) (y := .slice OA j.opn.length oc) (z := .bool false)
            rw [show ((wd.setCell ⟨w.heap.size + 1, 0, none⟩ (.slice RA j.recs.length rc)).setCell ⟨w.heap.size + 1, 1, none⟩ (.slice OA j.opn.length oc)).setCell ⟨w.heap.size + 1, 2, none⟩ (.bool false) = done3 wd (w.heap.size + 1) (.slice RA j.recs.length rc) (.slice OA j.opn.length oc) (.bool false) from rfl]
            have r0 := blk_cell hb3 0
            have r1 := blk_cell hb3 1
            have r2 := blk_cell hb3 2
            generalize done3 wd (w.heap.size + 1) (.slice RA j.recs.length rc) (.slice OA j.opn.length oc) (.bool false) = w3 at *
            exact bodyPost_ret (v := .tuple #[.agg #[.slice RA j.recs.length rc, .slice OA j.opn.length oc, .bool false], .bool false]) (by simp [results, Try.results57, go_sem, r0, r1, r2]) rfl hD
          | true =>
            rw [hbg] at c2
            have h8 : (8192 : Int) < (j.opn.length : Int) + (b.length : Int) := by
              rcases hbad with h | h
              · rw [hbg] at h; cases h
              · omega
            go_wp2_with fail
            have hD := HW.out.tell rfl (none) (fun j2 h => (by cases h))
            rw [hbg] at hD
            have hb3 := done3_blk HW.out.res (x := .slice RA j.recs.length rc) (y := .slice OA j.opn.length oc) (z := .bool true)
            rw [show ((wd.setCell ⟨w.heap.size + 1, 0, none⟩ (.slice RA j.recs.length rc)).setCell ⟨w.heap.size + 1, 1, none⟩ (.slice OA j.opn.length oc)).setCell ⟨w.heap.size + 1, 2, none⟩ (.bool true) = done3 wd (w.heap.size + 1) (.slice RA j.recs.length rc) (.slice OA j.opn.length oc) (.bool true) from rfl]
            have r0 := blk_cell hb3 0
            have r1 := blk_cell hb3 1
            have r2 := blk_cell hb3 2
            generalize done3 wd (w.heap.size + 1) (.slice RA j.recs.length rc) (.slice OA j.opn.length oc) (.bool true) = w3 at *
            exact bodyPost_ret (v := .tuple #[.agg #[.slice RA j.recs.length rc, .slice OA j.opn.length oc, .bool true], .bool false]) (by simp [results, Try.results57, go_sem, r0, r1, r2]) rfl hD
        · rw [if_neg hbad] at hj
          have hbg : j.begun = true := by
            cases h : j.begun with
            | false => exact absurd (.inl h) hbad
            | true => rfl
          rw [hbg] at c2
          have h8n : j.opn.length + b.length ≤ 8192 := by
            have := fun h => hbad (.inr h)
            omega
          have h8 : ¬ (8192 : Int) < (j.opn.length : Int) + (b.length : Int) := by omega
          have HJ := Lib.hid hj
          have HBG := Lib.hid hbg
          clear hj hbad hbg
          have hws : wd.heap.size ≤ (wd.alloc (.cells #[] 5)).heap.size := ((Fr.refl (fun _ => False) wd).alloc (.cells #[] 5)).size
          have HE : Hid ((wd.alloc (.cells #[] 5)).heap[wd.heap.size]? = some (.cells #[] 5 (0, 0))) := blk_new _ _
          have HFA : Hid (Fr (PS S0 w.heap.size) wd (wd.alloc (.cells #[] 5))) := (Fr.refl _ wd).alloc _
          have a1 : (wd.alloc (.cells #[] 5)).cell? ⟨w.heap.size, 1, none⟩ = some (.slice OA j.opn.length oc) := ((Fr.refl (fun _ => False) wd).alloc _).cell0 c1
          go_wp2_with (at_builtin; first
            | (refine wpl_appx rfl (.tmp 98) (.tmp 100) 27 rfl wd.heap.size 5 _ 1 1 Try.underlying27 Try.info5 rfl (by decide) (.slice (some ⟨wd.heap.size, 0, none⟩) 0 0) 0 [] rfl (own_rebase' (own_empty 1 HE.out rfl) (fun k hk => Nat.le_of_eq (Option.some.inj hk))) OA j.opn.length oc (bytes j.opn) rfl (by rw [bytes_len]; omega) ((HW.out.opn.fr HFA.out).read.news) (fun e => by have := HW.out.opn.read.empty e; rw [this]; rfl) (bytes_one _) (by simp [maxLen]; omega) (by omega) hws ?_; intro v2 w2 ho2 hg2 hm2; obtain ⟨A2, c2', rfl⟩ := own_slice ho2; simp only [Nat.zero_add, List.nil_append] at ho2 ⊢; have F2 : Fr (fun _ => False) wd w2 := ((Fr.refl (fun _ => False) wd).alloc _).grown hg2 (fun k hk => .inl (Nat.le_of_eq (Option.some.inj hk))))
            | (refine wpl_appx rfl (.tmp 101) (.tmp 102) 27 rfl wd.heap.size 5 _ 1 1 Try.underlying27 Try.info5 rfl (by decide) (.slice A2 j.opn.length c2') j.opn.length (bytes j.opn) rfl ho2 BA b.length bc (bytes b) rfl (by rw [bytes_len]; omega) ((HB.out.fr F2.none).read.news) (fun e => by have := HB.out.read.empty e; rw [this]; rfl) (bytes_one b) (by simp [maxLen]; omega) (by omega) F2.size ?_; intro v3 w3 ho3 hg3 hm3; obtain ⟨A3, c3, rfl⟩ := own_slice ho3; have F3 : Fr (fun _ => False) wd w3 := F2.grown hg3 (fun k hk => .inl (ho2.lt k hk).1); have hbx := F3.blk0 HW.out.box; have e1 : w3.cell? ⟨w.heap.size, 1, none⟩ = some (.slice OA j.opn.length oc) := blk_cell hbx 1; have z1 := blk_frozen hbx 1))
          all_goals
            have ho4 : w3.ownsRow wd.heap.size 5 1 (.slice A3 (j.opn ++ b).length c3) (j.opn ++ b).length (bytes (j.opn ++ b)) := by rw [List.length_append, bytes_app]; exact ho3
            have hO4 : ReadBN (PS S0 w.heap.size) w3 A3 c3 (j.opn ++ b) := readBN_own ho4 (PS_lt HW.out)
            have hb4 := set1_blk (y := .slice A3 (j.opn.length + b.length) c3) hbx
            rw [HBG.out] at hb4
            have hW4 : JW S0 w w.heap.size (w3.setCell ⟨w.heap.size, 1, none⟩ (.slice A3 (j.opn.length + b.length) c3)) ⟨j.recs, j.opn ++ b, true⟩ RA rc A3 c3 :=
              HW.out.upd F3 (set1_fr _ _ _) (by rw [List.length_append]; exact hb4) HW.out.cap HW.out.nonil (HW.out.recs.fr F3.none) hO4 (by rw [List.length_append]; exact h8n)
            have hP4 : ReadBN (PS S0 w.heap.size) (w3.setCell ⟨w.heap.size, 1, none⟩ (.slice A3 (j.opn.length + b.length) c3)) PA pc p := (HP.out.fr F3.none).fr ((set1_fr _ _ _).mono (fun k _ hk => .inr (.inl hk)))
          · have hk4 : k = 4 := by simpa using ‹(k == 4) = true›
            subst hk4
            have hj4 : jrun p.length ⟨j.recs ++ [j.opn ++ b], [], false⟩ p = target := HJ.out
            generalize w3.setCell ⟨w.heap.size, 1, none⟩ (.slice A3 (j.opn.length + b.length) c3) = w4 at *
            obtain ⟨⟨q0, q1, q2⟩, _, ⟨y0, y1, y2⟩, _⟩ := hW4.cells
            simp only at q0 q1 q2
            obtain ⟨olds, ol1, ol2, ol3⟩ := hW4.recs.olds'
            simp only at ol1 ol3
            obtain ⟨X, hX⟩ : ∃ X, X = j.opn ++ b := ⟨_, rfl⟩
            rw [← hX] at q1
            have hsl := fun W => cutN hW4.recs HW.out.cap W
            simp only at hsl
            have hnone : RA = none → j.recs.length = 0 ∧ j.recs.length = 0 := fun e => by have h1 := HW.out.nonil e; have h2 := HW.out.cap; omega
            have HW4 := Lib.hid hW4
            have HP4 := Lib.hid hP4
            have HO4 : Hid (ReadBN (PS S0 w.heap.size) w4 A3 c3 X) := by rw [hX]; exact hW4.opn
            have HF1 : Hid (Fr (fun _ => False) w4 (w4.alloc (.cells #[.slice A3 X.length c3] 27))) := (Fr.refl _ w4).alloc _
            have HOLD : Hid (∀ b, RA = some b → ∀ (j : Nat) (u : Value), olds[j]? = some u → (w4.alloc (.cells #[.slice A3 X.length c3] 27)).cell? (b.add j) = some u) := fun b e j u hu => HF1.out.cell0 (ol2 b e j u hu)
            have HOL3 := Lib.hid ol3
            have HOL1 := Lib.hid ol1
            have HNN := Lib.hid hnone
            have p0 := HF1.out.cell0 q0
            have p1 := HF1.out.cell0 q1
            have HX := Lib.hid hX
            have HONE : Hid (∀ u ∈ [Value.slice A3 X.length c3], u.oneCell' = true) := by simp [Hid, Value.oneCell']
            have HBM : Hid (j.recs.length + 1 ≤ maxLen) := by show j.recs.length + 1 ≤ maxLen; simp [maxLen]; omega
            have HBB : Hid ((j.recs.length + 1) * 24 ≤ 140737488355328) := by show (j.recs.length + 1) * 24 ≤ 140737488355328; omega
            obtain ⟨i27, hi27, hzz⟩ := Option.map_eq_some_iff.1 Try.info27
            simp only [Prod.mk.injEq] at hzz
            obtain ⟨hz0, hz1, hz2⟩ := hzz
            have HI := Lib.hid hi27
            have HZ := Lib.hid (And.intro hz0 (And.intro hz1 hz2))
            clear hW4 hP4 hb4 hO4 ho4 ho3 hg3 hm3 e1 z1 hbx F3 F2 ho2 hg2 hm2 ol2 ol3 ol1 hnone hi27 hz0 hz1 hz2 c0 c1 c2 f0 f1 f2 g0 g1 g2 d0 d1 d2 a1 hws HE HFA HJ hk hk1 hk2 hX
            go_upto_region 23 with (fail)
            refine wp_region_noPanic ?_
            refine wp_region_T (fun w' => w'.cell? ⟨w.heap.size, 0, none⟩ = some (.slice RA j.recs.length rc) ∧ w'.cell? ⟨w.heap.size, 1, none⟩ = some (.slice A3 X.length c3)) 14 (by kernel_rfl) ⟨q0, q1⟩ (fun hS0 => ?_)
            refine wpAnyT_take (i := 0) (v := ?_) rfl (by kernel_rfl) (by kernel_rfl) (by kernel_rfl) (by kernel_rfl) rfl (fun _ _ _ h => h) (Or.inl ⟨by rfl, ?_⟩) (by assumption) ?_
            rotate_left 1
            · rintro w' ⟨hs0, hs1⟩
              go_simp
              try (with_reducible rfl)
            try simp only [Act.put, List.setIfInBounds_toArray, List.set_cons_zero, List.set_cons_succ]
            refine wpAnyT_take (i := 1) (v := ?_) rfl (by kernel_rfl) (by kernel_rfl) (by kernel_rfl) (by kernel_rfl) rfl (fun _ _ _ h => h) (Or.inl ⟨by rfl, ?_⟩) (by assumption) ?_
            rotate_left 1
            · rintro w' ⟨hs0, hs1⟩
              go_simp
              try (with_reducible rfl)
            try simp only [Act.put, List.setIfInBounds_toArray, List.set_cons_zero, List.set_cons_succ]
            refine wpAnyT_take (i := 2) (v := ?_) rfl (by kernel_rfl) (by kernel_rfl) (by kernel_rfl) (by kernel_rfl) rfl (fun _ _ _ h => h) (Or.inl ⟨by rfl, ?_⟩) (by assumption) ?_
            rotate_left 1
            · rintro w' ⟨hs0, hs1⟩
              go_simp
              try (with_reducible rfl)
            try simp only [Act.put, List.setIfInBounds_toArray, List.set_cons_zero, List.set_cons_succ]
            refine wpAnyT_take (i := 3) (v := ?_) rfl (by kernel_rfl) (by kernel_rfl) (by kernel_rfl) (by kernel_rfl) rfl (fun _ _ _ h => h) (Or.inl ⟨by rfl, ?_⟩) (by assumption) ?_
            rotate_left 1
            · rintro w' ⟨hs0, hs1⟩
              go_simp
              try (with_reducible rfl)
            try simp only [Act.put, List.setIfInBounds_toArray, List.set_cons_zero, List.set_cons_succ]
            refine wpAnyT_take (i := 4) (v := ?_) rfl (by kernel_rfl) (by kernel_rfl) (by kernel_rfl) (by kernel_rfl) rfl (fun _ _ _ h => h) (Or.inl ⟨by rfl, ?_⟩) (by assumption) ?_
            rotate_left 1
            · rintro w' ⟨hs0, hs1⟩
              go_simp
              try (with_reducible rfl)
            try simp only [Act.put, List.setIfInBounds_toArray, List.set_cons_zero, List.set_cons_succ]
            refine wpAnyT_take (i := 5) (v := ?_) rfl (by kernel_rfl) (by kernel_rfl) (by kernel_rfl) (by kernel_rfl) rfl (fun _ _ _ h => h) (Or.inl ⟨by rfl, ?_⟩) (by assumption) ?_
            rotate_left 1
            · rintro w' ⟨hs0, hs1⟩
              go_simp
              try (with_reducible rfl)
            try simp only [Act.put, List.setIfInBounds_toArray, List.set_cons_zero, List.set_cons_succ]
            refine wpAnyT_take (i := 6) (v := ?_) rfl (by kernel_rfl) (by kernel_rfl) (by kernel_rfl) (by kernel_rfl) rfl (fun _ _ _ h => h) (Or.inl ⟨by rfl, ?_⟩) (by assumption) ?_
            rotate_left 1
            · rintro w' ⟨hs0, hs1⟩
              go_simp
              try (with_reducible rfl)
            try simp only [Act.put, List.setIfInBounds_toArray, List.set_cons_zero, List.set_cons_succ]
            refine wpAnyT_take (i := 7) (v := ?_) rfl (by kernel_rfl) (by kernel_rfl) (by kernel_rfl) (by kernel_rfl) rfl (fun _ _ _ h => h) (Or.inl ⟨by rfl, ?_⟩) (by assumption) ?_
            rotate_left 1
            · rintro w' ⟨hs0, hs1⟩
              go_simp
              try (with_reducible rfl)
            try simp only [Act.put, List.setIfInBounds_toArray, List.set_cons_zero, List.set_cons_succ]
            refine wpAnyT_take (i := 8) (v := ?_) rfl (by kernel_rfl) (by kernel_rfl) (by kernel_rfl) (by kernel_rfl) rfl (fun _ _ _ h => h) (Or.inl ⟨by rfl, ?_⟩) (by assumption) ?_
            rotate_left 1
            · rintro w' ⟨hs0, hs1⟩
              go_simp
              try (with_reducible rfl)
            try simp only [Act.put, List.setIfInBounds_toArray, List.set_cons_zero, List.set_cons_succ]
            refine wpAnyT_take (i := 9) (v := ?_) rfl (by kernel_rfl) (by kernel_rfl) (by kernel_rfl) (by kernel_rfl) rfl (fun _ _ _ h => h) (Or.inl ⟨by rfl, ?_⟩) (by assumption) ?_
            rotate_left 1
            · rintro w' ⟨hs0, hs1⟩
              go_simp
              try (with_reducible rfl)
            try simp only [Act.put, List.setIfInBounds_toArray, List.set_cons_zero, List.set_cons_succ]
            refine wpAnyT_take (i := 10) (v := ?_) rfl (by kernel_rfl) (by kernel_rfl) (by kernel_rfl) (by kernel_rfl) rfl (fun _ _ _ h => h) (Or.inl ⟨by rfl, ?_⟩) (by assumption) ?_
            rotate_left 1
            · rintro w' ⟨hs0, hs1⟩
              go_simp
              try (with_reducible rfl)
            try simp only [Act.put, List.setIfInBounds_toArray, List.set_cons_zero, List.set_cons_succ]
            refine wpAnyT_one (i := 11) (by kernel_rfl) rfl rfl (fun K hK => ?_)
            go_simp
            refine hK.out _ _ ⟨p0, p1⟩ ?_
            clear hK K
            try simp only [Act.put, List.setIfInBounds_toArray, List.set_cons_zero, List.set_cons_succ]
            refine wpAnyT_one (i := 12) (by kernel_rfl) rfl rfl (fun K hK => ?_)
            refine step_append_grows (by rfl) (.tmp 115) (.tmp 118) 47 (by rfl) 27 i27 (.slice none 0 0) 1 24 Try.underlying47 HI.out HZ.out.1 HZ.out.2.1 HZ.out.2.2 (by rfl) (by decide) RA j.recs.length j.recs.length olds (by rfl) HNN.out (by rw [HOL1.out]; omega) HOLD.out ⟨w4.heap.size, 0, none⟩ 1 1 [.slice A3 X.length c3] (by rfl) rfl (news_of (fr := (0, 0)) (t := 27) (blk_new w4 (.cells #[.slice A3 X.length c3] 27))) HONE.out (by omega) HBM.out HBB.out ?_
            intro v5 w5 ho5 hg5
            obtain ⟨A5, c5, rfl⟩ := own_slice ho5
            have F5 : Fr (fun _ => False) w4 w5 := by first | exact HF1.out.grown hg5 (fun k hk => (by cases hk)) | exact HF1.out.drew.grown hg5 (fun k hk => (by cases hk)) | exact HF1.out.drew.drew.grown hg5 (fun k hk => (by cases hk))
            have hb5 := F5.blk0 HW4.out.box
            have k0 : w5.cell? ⟨w.heap.size, 0, none⟩ = some (.slice RA j.recs.length rc) := blk_cell hb5 0
            have z0 := blk_frozen hb5 0
            have k1 : w5.cell? ⟨w.heap.size, 1, none⟩ = some (.slice A3 X.length c3) := by rw [HX.out]; exact blk_cell hb5 1
            have z1 := blk_frozen hb5 1
            have k2 : w5.cell? ⟨w.heap.size, 2, none⟩ = some (.bool true) := blk_cell hb5 2
            have z2 := blk_frozen hb5 2
            have hS5 : w5.cell? ⟨w.heap.size, 0, none⟩ = some (.slice RA j.recs.length rc) ∧ w5.cell? ⟨w.heap.size, 1, none⟩ = some (.slice A3 X.length c3) := ⟨k0, k1⟩
            refine hK.out _ _ hS5 ?_
            clear hK K hS0
            try simp only [Act.put, List.setIfInBounds_toArray, List.set_cons_zero, List.set_cons_succ]
            refine wpAnyT_take (i := 13) (v := ?_) rfl (by kernel_rfl) (by kernel_rfl) (by kernel_rfl) (by kernel_rfl) rfl (fun _ _ _ h => h) (Or.inl ⟨by rfl, ?_⟩) (by assumption) ?_
            rotate_left 1
            · rintro w' ⟨hs0, hs1⟩
              go_simp
              try (with_reducible rfl)
            try simp only [Act.put, List.setIfInBounds_toArray, List.set_cons_zero, List.set_cons_succ]
            clear hS5
            refine wpAnyT_last (by kernel_rfl) rfl (by kernel_rfl) (fun K hK => ?_)
            go_simp
            refine hK.out _ _ ?_
            clear hK K
            refine NoPanic.normal ?_
            go_wp2
            go_step3
            have hA := row_some ho5 (by omega)
            have hSlt : ∀ k, PS S0 w.heap.size k → k < (w4.alloc (Obj.cells #[Value.slice A3 X.length c3] 27)).drew.heap.size := fun k hk => Nat.lt_of_lt_of_le (PS_lt HW4.out k hk) HF1.out.size
            have hR5 : ReadRN (PS S0 w.heap.size) w5 A5 (j.recs ++ [X]) := readRN_snoc ho5 HOL1.out hSlt F5.none HOL3.out HO4.out
            have hW5 : JW S0 w w.heap.size (done3 w5 w.heap.size (.slice A5 (j.recs.length + 1) c5) (.slice none 0 0) (.bool false)) ⟨j.recs ++ [j.opn ++ b], [], false⟩ A5 c5 none 0 :=
              HW4.out.upd F5 (done3_fr _ _ _ _ _) (by rw [List.length_append]; exact done3_blk hb5) (by rw [List.length_append]; exact hA.2) hA.1 (by rw [← HX.out]; exact hR5) (ReadBN.nil _ _) (by simp)
            have hP5 : ReadBN (PS S0 w.heap.size) (done3 w5 w.heap.size (.slice A5 (j.recs.length + 1) c5) (.slice none 0 0) (.bool false)) PA pc p := (HP4.out.fr F5.none).fr ((done3_fr _ _ _ _ _).mono (fun k _ hk => .inr (.inl hk)))
            have hb1 : j.recs.length + p.length + 1 ≤ 100000000 := hb
            refine ⟨⟨⟨j.recs ++ [j.opn ++ b], [], false⟩, p, A5, c5, none, 0, PA, pc, _, _, ⟨rfl, rfl, rfl, rfl, rfl, rfl, rfl, rfl⟩, hW5, hP5, HPB.out, ?_, hp108, hj4⟩, ?_⟩
            · show (j.recs ++ [j.opn ++ b]).length + p.length + 0 ≤ 100000000
              simp only [List.length_append, List.length_cons, List.length_nil]
              omega
            · show 4 * p.length + 0 < 4 * p.length + 1
              omega
          · have hne : ¬ k = 4 := by simpa using ‹(k == 4) = false›
            have hj4 := HJ.out
            rw [if_neg hne] at hj4
            go_step3
            refine ⟨⟨⟨j.recs, j.opn ++ b, true⟩, p, RA, rc, A3, c3, PA, pc, _, _, ⟨rfl, rfl, rfl, rfl, rfl, rfl, rfl, rfl⟩, hW4, hP4, HPB.out, Nat.le_of_succ_le hb, hp108, hj4⟩, ?_⟩
            show 4 * p.length + 0 < 4 * p.length + 1
            omega
      · exact (HAT.out : False).elim

end Go.Proofs.Ytedmhhllkkgbjaa
