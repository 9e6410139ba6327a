/- A disk: how it stands in memory. -/
import Derived.Test.YtdamegjhdopfaaaFr
import Derived.Test.YtdamegjhdopfaaaRt
import Derived.Maps.OwnSet
import Derived.Maps.RangeWalk
import Derived.Deep.MidRow
import Derived.Deep.RegionHeld3
import Derived.Deep.DeepCutAuto
import Derived.Laws.CopyOwn
import Derived.Laws.MakeOwn
import Derived.Lib.Hide
namespace Go.Proofs.Ytdamegjhdopfaaa
open Go.RowKit Go.WideShapes

/-- bytes as cells -/
def by8 (s : List Int) : List Value := s.map (Value.int .u8)
theorem by8_len (s : List Int) : (by8 s).length = s.length := List.length_map _
theorem by8_one (s : List Int) : ∀ v ∈ by8 s, v.oneCell' = true := fun v hv => by
  obtain ⟨x, _, rfl⟩ := List.mem_map.1 hv; rfl
/-- the head of a row of writes -/
structure Hd where
  a : Option Addr
  n : Nat
  c : Nat
def Hd.v (h : Hd) : Value := .slice h.a h.n h.c
def noHd : Hd := ⟨none, 0, 0⟩
def hdR : Value → Option (DataW Hd × List MemPlace)
  | .slice a n c => some (.held ⟨a, n, c⟩, [])
  | _ => none
theorem hdR_mk (h : Hd) : hdR h.v = some (.held h, []) := rfl
theorem hdR_inv {v : Value} {z : DataW Hd × List MemPlace} (h : hdR v = some z) : ∃ x : Hd, v = x.v ∧ z = (.held x, []) := by
  unfold hdR at h
  split at h
  · rename_i a n c
    exact ⟨⟨a, n, c⟩, rfl, (Option.some.inj h).symm⟩
  · cases h
theorem Try.intKeyed : Maps.Keyed Try.prog 3 := Maps.int_keyed Try.underlying3
theorem key_int {a : Int} (h : (Lit.int .i64 a).wf = true) : keyOf Try.prog 3 (.int .i64 a) = some (.int .i64 a) := Maps.keyOf_int_mk Try.underlying3 h
theorem isKey (s : Int) : WideAt.IsKeyLit (.int .i64 s) := by simp [WideAt.IsKeyLit]
theorem owns_blk {R : Value → Option (DataW Hd × List MemPlace)} {w w' : World} {b n : Nat} {D : DataW Hd} (h : w.ownsMap Try.prog 3 R b n D) (hb : w'.heap[b]? = w.heap[b]?) : w'.ownsMap Try.prog 3 R b n D := by
  obtain ⟨es, clock, h1, h2⟩ := h
  exact ⟨es, clock, hb.trans h1, h2⟩

/-- which heads a map has -/
structure HdIs (D : DataW Hd) (hd : Int → Hd) : Prop where
  tidy : Maps.Tidy D
  keys : ∀ kl, Maps.has D kl = true → ∃ s : Int, kl = .int .i64 s
  has : ∀ s : Int, Maps.has D (.int .i64 s) = decide (0 < (hd s).n)
  val : ∀ s : Int, 0 < (hd s).n → ∀ z, D.atKey (.int .i64 s) z = .held (hd s)
  none : ∀ s : Int, (hd s).n = 0 → hd s = noHd
theorem HdIs.nil : HdIs (.map []) (fun _ => noHd) := ⟨Maps.tidy_empty, fun kl h => (by cases h), fun s => (by simp [noHd, Maps.has]), fun s h => (by simp [noHd] at h), fun s _ => rfl⟩
def setHd (hd : Int → Hd) (s : Int) (h : Hd) : Int → Hd := fun t => if t = s then h else hd t
theorem HdIs.put {D : DataW Hd} {hd : Int → Hd} (h : HdIs D hd) (s : Int) (x : Hd) (hx : 0 < x.n) : HdIs (D.put (.int .i64 s) (.held x)) (setHd hd s x) := by
  refine ⟨h.tidy.put (isKey _) _, fun kl hk => ?_, fun t => ?_, fun t ht z => ?_, fun t ht => ?_⟩
  · by_cases e : kl = .int .i64 s
    · exact ⟨s, e⟩
    · rw [Maps.has_put_other e] at hk; exact h.keys kl hk
  · unfold setHd
    by_cases e : t = s
    · subst e; rw [if_pos rfl, Maps.has_put_same h.tidy.isMap (isKey _)]; simp [hx]
    · rw [if_neg e, Maps.has_put_other (fun q => e (by simpa using q)), h.has]
  · unfold setHd at ht ⊢
    by_cases e : t = s
    · subst e; rw [if_pos rfl]; exact Maps.atKey_put_same h.tidy.isMap (isKey _) _ _
    · rw [if_neg e] at ht ⊢; rw [Maps.atKey_put_other (fun q => e (by simpa using q))]; exact h.val t ht z
  · unfold setHd at ht ⊢
    by_cases e : t = s
    · rw [if_pos e] at ht; omega
    · rw [if_neg e] at ht ⊢; exact h.none t ht
theorem HdIs.del {D : DataW Hd} {hd : Int → Hd} (h : HdIs D hd) (s : Int) : HdIs (D.del (.int .i64 s)) (setHd hd s noHd) := by
  refine ⟨h.tidy.del _, fun kl hk => ?_, fun t => ?_, fun t ht z => ?_, fun t ht => ?_⟩
  · by_cases e : kl = .int .i64 s
    · exact ⟨s, e⟩
    · rw [Maps.has_del_other e] at hk; exact h.keys kl hk
  · unfold setHd
    by_cases e : t = s
    · subst e; rw [if_pos rfl, Maps.has_del_same]; simp [noHd]
    · rw [if_neg e, Maps.has_del_other (fun q => e (by simpa using q)), h.has]
  · unfold setHd at ht ⊢
    by_cases e : t = s
    · rw [if_pos e] at ht; simp [noHd] at ht
    · rw [if_neg e] at ht ⊢; rw [Maps.atKey_del_other (fun q => e (by simpa using q))]; exact h.val t ht z
  · unfold setHd at ht ⊢
    by_cases e : t = s
    · rw [if_pos e]
    · rw [if_neg e] at ht ⊢; exact h.none t ht

set_option maxRecDepth 100000 in
/-- what stands at a key, in whatever world has that map -/
theorem hd_look {w : World} {b n : Nat} {D : DataW Hd} {hd : Int → Hd} (h : w.ownsMap Try.prog 3 hdR b n D) (hD : HdIs D hd) {s : Int} (hw : (Lit.int .i64 s).wf = true) :
    ∀ W : World, W.heap[b]? = w.heap[b]? → (Instr.lookup 72 (.map (some b)) (.int .i64 s) false).run Try.prog W = .ok (hd s).v W := by
  intro W hW
  have hz : (zeroValue 71).run Try.prog W = .ok noHd.v W := by kernel_rfl
  obtain ⟨v, ps, hrun, hR⟩ := (owns_blk h hW).lookup Try.intKeyed Try.underlying72 hz (hdR_mk noHd) (key_int hw)
  obtain ⟨x, rfl, hx⟩ := hdR_inv hR
  rw [hrun]
  have hx1 := congrArg Prod.fst hx
  simp only at hx1
  by_cases h0 : 0 < (hd s).n
  · rw [hD.val s h0] at hx1
    rw [DataW.held.inj hx1]
  · have hh : Maps.has D (.int .i64 s) = false := by rw [hD.has]; simp [h0]
    rw [Maps.atKey_of_not_has hh] at hx1
    rw [hD.none s (by omega)]
    rw [DataW.held.inj hx1]

/-- a sector -/
def Sec (s : List Int) : Prop := s.length = 128 ∧ ∀ x ∈ s, 0 ≤ x ∧ x < 256
/-- what a disk has -/
structure Dk where
  F : List (List Int)
  L : Int → List (List Int)
  done : Int
  fuse : Int
  down : Bool
  puts : Nat          -- how often its map was written
/-- a disk in memory: its box, its fixed sectors, its map of loose ones -/
structure DkIn (w : World) (g : Nat) (FA : Option Addr) (fc bm km : Nat) (Dm : DataW Hd) (hd : Int → Hd) (d : Dk) : Prop where
  box : w.heap[g]? = some (.cells #[.slice FA d.F.length fc, .map (some bm), .int .i64 d.done, .int .i64 d.fuse, .bool d.down] 74 (0, 0))
  row : w.ownsRow 0 106 128 (.slice FA d.F.length fc) d.F.length (d.F.flatMap by8)
  secs : ∀ s ∈ d.F, Sec s
  pos : 0 < d.F.length
  few : d.F.length ≤ 4096
  map : w.ownsMap Try.prog 3 hdR bm km Dm
  heads : HdIs Dm hd
  num : ∀ i, (hd i).n = (d.L i).length
  rows : ∀ i, w.ownsRow 0 106 128 (hd i).v (d.L i).length ((d.L i).flatMap by8)
  lsecs : ∀ i, ∀ s ∈ d.L i, Sec s
  within : ∀ i, d.L i ≠ [] → 0 ≤ i ∧ i < d.F.length
  kms : km ≤ d.puts
  lens : ∀ i, (d.L i).length ≤ d.puts
  dones : 0 ≤ d.done
  fuses : -1 ≤ d.fuse ∧ d.fuse ≤ 1048576
  apart : ∀ i j k, (hd i).v.ownBlock = some k → (hd j).v.ownBlock = some k → i = j
  apartF : ∀ i k, (hd i).v.ownBlock = some k → (Value.slice FA d.F.length fc).ownBlock ≠ some k
/-- the blocks that a disk has -/
def DkFoot (g : Nat) (FA : Option Addr) (bm : Nat) (hd : Int → Hd) (k : Nat) : Prop := k = g ∨ k = bm ∨ (Value.slice FA 0 0).ownBlock = some k ∨ ∃ i, (hd i).v.ownBlock = some k
theorem ob (A : Option Addr) (n c : Nat) : (Value.slice A n c).ownBlock = (Value.slice A 0 0).ownBlock := by cases A <;> rfl
section
variable {w w' : World} {g : Nat} {FA : Option Addr} {fc bm km : Nat} {Dm : DataW Hd} {hd : Int → Hd} {d : Dk}
theorem DkIn.fr {S : Nat → Prop} (h : DkIn w g FA fc bm km Dm hd d) (hF : Fr S w w') (hS : ∀ k, DkFoot g FA bm hd k → ¬ S k) : DkIn w' g FA fc bm km Dm hd d :=
  ⟨hF.blk h.box (hS g (.inl rfl)), hF.own h.row (fun k hk => hS k (.inr (.inr (.inl (by rw [← hk]; exact (ob FA _ _).symm))))), h.secs, h.pos, h.few, owns_blk h.map (hF.block _ h.map.lt (hS bm (.inr (.inl rfl)))), h.heads, h.num,
    fun i => hF.own (h.rows i) (fun k hk => hS k (.inr (.inr (.inr ⟨i, hk⟩)))), h.lsecs, h.within, h.kms, h.lens, h.dones, h.fuses, h.apart, h.apartF⟩
theorem DkIn.fr0 (h : DkIn w g FA fc bm km Dm hd d) (hF : Fr (fun _ => False) w w') : DkIn w' g FA fc bm km Dm hd d := h.fr hF (fun _ _ h => h)
theorem DkIn.lt (h : DkIn w g FA fc bm km Dm hd d) (k : Nat) (hk : DkFoot g FA bm hd k) : k < w.heap.size := by
  rcases hk with rfl | rfl | hk | ⟨i, hk⟩
  · exact blk_lt h.box
  · exact h.map.lt
  · exact own_lt h.row k (by rw [ob]; exact hk)
  · exact own_lt (h.rows i) k hk
end
/-- a disk; T: the blocks that it has -/
def DkAt (w : World) (g : Nat) (T : Nat → Prop) (d : Dk) : Prop :=
  ∃ FA fc bm km Dm hd, DkIn w g FA fc bm km Dm hd d ∧ (∀ k, DkFoot g FA bm hd k → T k) ∧ ∀ k, T k → k < w.heap.size
theorem DkAt.fr {w w' : World} {g : Nat} {T S : Nat → Prop} {d : Dk} (h : DkAt w g T d) (hF : Fr S w w') (hS : ∀ k, T k → ¬ S k) : DkAt w' g T d := by
  obtain ⟨FA, fc, bm, km, Dm, hd, h1, h2, h3⟩ := h
  exact ⟨FA, fc, bm, km, Dm, hd, h1.fr hF (fun k hk => hS k (h2 k hk)), h2, fun k hk => Nat.lt_of_lt_of_le (h3 k hk) hF.size⟩
theorem DkAt.fr0 {w w' : World} {g : Nat} {T : Nat → Prop} {d : Dk} (h : DkAt w g T d) (hF : Fr (fun _ => False) w w') : DkAt w' g T d := h.fr hF (fun _ _ h => h)
theorem DkAt.lt {w : World} {g : Nat} {T : Nat → Prop} {d : Dk} (h : DkAt w g T d) : ∀ k, T k → k < w.heap.size := by
  obtain ⟨FA, fc, bm, km, Dm, hd, h1, h2, h3⟩ := h
  exact h3
/-- its sector as it stands -/
def Dk.at (d : Dk) (i : Nat) : List Int := ((d.L i).getLast?).getD (d.F.getD i [])
def Dk.up (d : Dk) : Int := if d.down then 30 else 0
/-- a writing call has told OK -/
def Dk.tick (d : Dk) : Dk := { d with done := d.done + 1, fuse := if 0 < d.fuse then d.fuse - 1 else d.fuse, down := if 0 < d.fuse then decide (d.fuse = 1) else d.down }

set_option maxRecDepth 100000 in
theorem made_any {w : World} {g : Nat} {T : Nat → Prop} {d : Dk} (h : DkAt w g T d) : Calls Try.prog 57 #[.pointer (some ⟨g, 0, none⟩)] w (fun e w' => e = .returned (.bool true) ∧ w' = w) := by
  obtain ⟨FA, fc, bm, km, Dm, hd, h1, h2, h3⟩ := h
  have h0 : w.cell? ⟨g, 0, none⟩ = some (.slice FA d.F.length fc) := blk_cell h1.box 0
  have hp := h1.pos
  clear h1 h2 h3
  go_enter Try.func57, Try.ntmps57
  go_wp2
  go_ret
  exact ⟨by simp, rfl⟩
theorem made_nil (w : World) : Calls Try.prog 57 #[.pointer none] w (fun e w' => e = .returned (.bool false) ∧ w' = w) := by
  go_enter Try.func57, Try.ntmps57
  go_wp2
  go_ret
  exact ⟨rfl, rfl⟩
set_option maxRecDepth 100000 in
theorem up_any {w : World} {g : Nat} {T : Nat → Prop} {d : Dk} (h : DkAt w g T d) : Calls Try.prog 51 #[.pointer (some ⟨g, 0, none⟩)] w (fun e w' => e = .returned (.int .i64 d.up) ∧ w' = w) := by
  have H := Lib.hid h
  obtain ⟨FA, fc, bm, km, Dm, hd, h1, h2, h3⟩ := h
  have h4 : w.cell? ⟨g, 4, none⟩ = some (.bool d.down) := blk_cell h1.box 4
  clear h1 h2 h3
  go_enter Try.func51, Try.ntmps51
  go_wp2_with fail
  refine (made_any H.out).mono ?_
  rintro e w1 ⟨rfl, rfl⟩
  cases hdn : d.down with
  | true =>
    rw [hdn] at h4
    go_wp2_with fail
    go_ret
    exact ⟨by simp [Dk.up, hdn], rfl⟩
  | false =>
    rw [hdn] at h4
    go_wp2_with fail
    go_ret
    exact ⟨by simp [Dk.up, hdn], rfl⟩
end Go.Proofs.Ytdamegjhdopfaaa
