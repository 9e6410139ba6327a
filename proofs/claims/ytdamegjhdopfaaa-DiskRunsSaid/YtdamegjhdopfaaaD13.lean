/- A disk: which fates may be, and what they make of a sector. -/
import Derived.Test.YtdamegjhdopfaaaD12
namespace Go.Proofs.Ytdamegjhdopfaaa
open Go.RowKit Go.WideShapes
set_option linter.unusedSimpArgs false

/-- a fate -/
structure Ft where
  keep : Int
  cut : Int
def Ft.cells (f : Ft) : List Value := [.int .i64 f.keep, .int .i64 f.cut]
def ReadFt (w : World) (A : Option Addr) (fs : List Ft) : Prop :=
  ∀ (i : Nat) (f : Ft), fs[i]? = some f → ∃ g o, A = some ⟨g, o, none⟩ ∧ ∀ (j : Nat) (u : Value), f.cells[j]? = some u → w.cell? ⟨g, o + i * 2 + j, none⟩ = some u
theorem ReadFt.fr {w w' : World} {A : Option Addr} {l : List Ft} (h : ReadFt w A l) {S : Nat → Prop} (hF : Fr S w w') (hS : ∀ g o, A = some ⟨g, o, none⟩ → ¬ S g) : ReadFt w' A l := fun i x hx => by
  obtain ⟨g, o, e, hc⟩ := h i x hx
  exact ⟨g, o, e, fun j u hu => hF.cell (hc j u hu) (hS g o e)⟩
def mayB (keep cut : Int) (many : Nat) : Bool := decide (0 ≤ keep) && decide (keep ≤ many) && decide (0 ≤ cut) && decide (cut < 128) && (decide (cut = 0) || decide (keep < many))
set_option maxRecDepth 100000 in
set_option maxHeartbeats 1000000 in
theorem may_any (W : World) (keep cut : Int) (many : Nat) : Calls Try.prog 58 #[.agg #[.int .i64 keep, .int .i64 cut], .int .i64 many] W (fun e w' => e = .returned (.bool (mayB keep cut many)) ∧ Fr (fun _ => False) W w') := by
  go_enter Try.func58, Try.ntmps58
  by_cases h1 : keep < 0
  · have hb : mayB keep cut many = false := by simp [mayB]; omega
    have HB := Lib.hid hb
    clear hb
    go_wp2
    go_ret
    exact ⟨by rw [HB.out]; rfl, (Fr.refl _ _).alloc _⟩
  · by_cases h2 : (many : Int) < keep
    · have hb : mayB keep cut many = false := by simp [mayB]; omega
      have HB := Lib.hid hb
      clear hb
      go_wp2
      go_ret
      exact ⟨by rw [HB.out]; rfl, (Fr.refl _ _).alloc _⟩
    · by_cases h3 : cut < 0
      · have hb : mayB keep cut many = false := by simp [mayB]; omega
        have HB := Lib.hid hb
        clear hb
        go_wp2
        go_ret
        exact ⟨by rw [HB.out]; rfl, (Fr.refl _ _).alloc _⟩
      · by_cases h4 : 128 ≤ cut
        · have hb : mayB keep cut many = false := by simp [mayB]; omega
          have HB := Lib.hid hb
          clear hb
          go_wp2
          go_ret
          exact ⟨by rw [HB.out]; rfl, (Fr.refl _ _).alloc _⟩
        · by_cases h5 : cut = 0
          · have hb : mayB keep cut many = true := by simp [mayB]; omega
            have HB := Lib.hid hb
            have hq : (cut == 0) = true := by simp [h5]
            clear hb h5
            go_wp2
            go_ret
            exact ⟨by rw [HB.out]; rfl, (Fr.refl _ _).alloc _⟩
          · have hb : mayB keep cut many = decide (keep < many) := by
              unfold mayB
              rw [decide_eq_true (show 0 ≤ keep by omega), decide_eq_true (show keep ≤ many by omega), decide_eq_true (show 0 ≤ cut by omega), decide_eq_true (show cut < 128 by omega), decide_eq_false h5]
              simp
            have HB := Lib.hid hb
            have hq : (cut == 0) = false := by simp [h5]
            clear hb h5
            go_wp2
            go_ret
            exact ⟨by rw [HB.out]; rfl, (Fr.refl _ _).alloc _⟩

/-- what a fate makes of a sector -/
def afterS (s : List Int) (l : List (List Int)) (f : Ft) : List Int :=
  let base := if 0 < f.keep then l.getD (f.keep.toNat - 1) [] else s
  if 0 < f.cut then (l.getD f.keep.toNat []).take f.cut.toNat ++ base.drop f.cut.toNat else base
def crash1 (d : Dk) (F : List (List Int)) (p : Lo × Ft) : List (List Int) := F.set p.1.s.val (afterS (F.getD p.1.s.val []) (d.L (p.1.s.val : Int)) p.2)
def crashF (d : Dk) (l : List Lo) (fs : List Ft) : List (List Int) := (l.zip fs).foldl (crash1 d) d.F
def fitsF (l : List Lo) (fs : List Ft) : Bool := (l.zip fs).all (fun p => mayB p.2.keep p.2.cut p.1.many)
def crashE (l : List Lo) (fs : List Ft) : Int := if l.length < fs.length then 3 else if fitsF l fs then 0 else 5
def CrashBad (w : World) (r : Int) (e : Ending) (w' : World) : Prop := e = .returned (.tuple #[.pointer none, .int .i64 r]) ∧ Fr (fun _ => False) w w'
def CrashPost (w : World) (F : List (List Int)) (e : Ending) (w' : World) : Prop :=
  ∃ g T, e = .returned (.tuple #[.pointer (some ⟨g, 0, none⟩), .int .i64 0]) ∧ DkAt w' g T (newDk F) ∧ Fr (fun _ => False) w w' ∧ w.heap.size ≤ g ∧ ∀ k, T k → w.heap.size ≤ k
end Go.Proofs.Ytdamegjhdopfaaa
