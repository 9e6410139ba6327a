/- The calls on a Net, each by a contract: what it answers, and what becomes of its mails in memory. Of a net that was made. -/
import Derived.Test.YtedmhhllkkgbjaaFr
namespace Go.Proofs.Ytedmhhllkkgbjaa
open Go.RowKit

theorem Try.info29 : (Try.prog.info? 29).map (fun i => (i.zero, i.size, i.bytes)) = some (some (.agg #[.int .i64 0, .int .i64 0, .string ByteArray.empty]), 3, 32) := by kernel_rfl

structure Mail where
  fr : Int
  rc : Int
  text : ByteArray

def Mail.cells (m : Mail) : List Value := [.int .i64 m.fr, .int .i64 m.rc, .string m.text]
def Mail.val (m : Mail) : Value := .agg #[.int .i64 m.fr, .int .i64 m.rc, .string m.text]
def mcells (l : List Mail) : List Value := l.flatMap Mail.cells
theorem mcells_snoc (l : List Mail) (m : Mail) : mcells (l ++ [m]) = mcells l ++ m.cells := by simp [mcells]
theorem mcells_length (l : List Mail) : (mcells l).length = l.length * 3 := by
  induction l with
  | nil => rfl
  | cons m l ih => simp only [mcells, List.flatMap_cons, List.length_append, List.length_cons] at *; simp [Mail.cells, ih]; omega

structure NetAt (w : World) (b : Nat) (v : Value) (l : List Mail) : Prop where
  blk : w.heap[b]? = some (.cells #[v, .bool true] 96 (0, 0))
  own : w.ownsRow 0 29 3 v l.length (mcells l)

/-- the blocks of a net -/
def Foot (b : Nat) (v : Value) (k : Nat) : Prop := k = b ∨ some k = v.ownBlock

theorem NetAt.kept {w w' : World} {b : Nat} {v : Value} {l : List Mail} {S : Nat → Prop} (h : NetAt w b v l) (hf : Fr S w w') (hS : ∀ k, Foot b v k → ¬ S k) : NetAt w' b v l :=
  ⟨hf.blk h.blk (hS b (.inl rfl)), hf.own h.own (fun k hk => hS k (.inr hk.symm))⟩
theorem NetAt.drew {w : World} {b : Nat} {v : Value} {l : List Mail} (h : NetAt w b v l) : NetAt w.drew b v l := ⟨h.blk, h.own⟩
theorem NetAt.alloc {w : World} {b : Nat} {v : Value} {l : List Mail} (h : NetAt w b v l) (o : Obj) : NetAt (w.alloc o) b v l :=
  h.kept ((Fr.refl (fun _ => False) w).alloc o) (fun _ _ h => h)
theorem NetAt.lt {w : World} {b : Nat} {v : Value} {l : List Mail} (h : NetAt w b v l) : ∀ k, Foot b v k → k < w.heap.size := by
  rintro k (rfl | hk)
  · exact blk_lt h.blk
  · exact own_lt h.own k hk.symm
theorem NetAt.ne {w : World} {b : Nat} {v : Value} {l : List Mail} (h : NetAt w b v l) : some b ≠ v.ownBlock := own_ne h.own h.blk (by decide)

theorem net_New (w : World) : Calls Try.prog 14 #[] w fun e w' => e = .returned (.pointer (some ⟨w.heap.size, 0, none⟩)) ∧ w' = w.alloc (.cells #[.slice none 0 0, .bool true] 96) := by
  go_enter Try.func14, Try.ntmps14
  go_wp2
  go_ret
  exact ⟨rfl, rfl⟩

theorem none_no (w : World) (b : Nat) (h : w.cell? ⟨b, 1, none⟩ = some (.bool true)) : Calls Try.prog 49 #[.pointer (some ⟨b, 0, none⟩)] w fun e w' => e = .returned (.bool false) ∧ w = w' := by
  go_enter Try.func49, Try.ntmps49
  go_wp2
  go_ret
  exact ⟨rfl, rfl⟩

theorem none_nil (w : World) : Calls Try.prog 49 #[.pointer none] w fun e w' => e = .returned (.bool true) ∧ w = w' := by
  go_enter Try.func49, Try.ntmps49
  go_wp2
  go_ret
  exact ⟨rfl, rfl⟩

theorem none_raw (w : World) (b : Nat) (h : w.cell? ⟨b, 1, none⟩ = some (.bool false)) : Calls Try.prog 49 #[.pointer (some ⟨b, 0, none⟩)] w fun e w' => e = .returned (.bool true) ∧ w = w' := by
  go_enter Try.func49, Try.ntmps49
  go_wp2
  go_ret
  exact ⟨rfl, rfl⟩

theorem len_yes (w : World) (b : Nat) (ao : Option Addr) (n c : Nat) (h : w.cell? ⟨b, 1, none⟩ = some (.bool true)) (h0 : w.cell? ⟨b, 0, none⟩ = some (.slice ao n c)) : Calls Try.prog 19 #[.pointer (some ⟨b, 0, none⟩)] w fun e w' => e = .returned (.int .i64 n) ∧ w = w' := by
  go_enter Try.func19, Try.ntmps19
  go_wp2_with (go_at_call 49; refine (none_no _ _ h).mono ?_; rintro e w' ⟨rfl, rfl⟩)
  go_ret
  exact ⟨rfl, rfl⟩
theorem len_any {w : World} {b : Nat} {v : Value} {l : List Mail} (h : NetAt w b v l) : Calls Try.prog 19 #[.pointer (some ⟨b, 0, none⟩)] w fun e w' => e = .returned (.int .i64 l.length) ∧ w = w' := by
  obtain ⟨A, c, rfl⟩ := own_slice h.own
  exact len_yes w b A _ c (blk_cell h.blk 1) (blk_cell h.blk 0)

def known (k : Int) : Bool := decide (0 ≤ k) && decide (k ≤ 15)
theorem known_any (w : World) (k : Int) : Calls Try.prog 50 #[.int .i64 k] w fun e w' => e = .returned (.bool (known k)) ∧ w = w' := by
  by_cases h1 : 0 ≤ k
  · by_cases h2 : k ≤ 15
    · have hk := Lib.hid (show known k = true by simp [known, h1, h2])
      go_enter Try.func50, Try.ntmps50
      go_wp2
      go_ret
      exact ⟨by rw [hk.out]; rfl, rfl⟩
    · have hk := Lib.hid (show known k = false by simp only [known, decide_eq_true h1, decide_eq_false h2]; rfl)
      go_enter Try.func50, Try.ntmps50
      go_wp2
      go_ret
      exact ⟨by rw [hk.out]; rfl, rfl⟩
  · have hk := Lib.hid (show known k = false by simp only [known, decide_eq_false h1]; rfl)
    go_enter Try.func50, Try.ntmps50
    go_wp2
    go_ret
    exact ⟨by rw [hk.out]; rfl, rfl⟩

def PutPost (w : World) (b : Nat) (v y : Value) (l : List Mail) (m : Mail) (e : Ending) (w' : World) : Prop :=
  e = .returned (.tuple #[]) ∧ ∃ v', w'.heap[b]? = some (.cells #[v', y] 96 (0, 0)) ∧ w'.ownsRow 0 29 3 v' (l ++ [m]).length (mcells (l ++ [m])) ∧ Fr (Foot b v) w w' ∧ Moved w v v'

theorem put_end {w w2 : World} {b : Nat} {v y v' : Value} {l : List Mail} {m : Mail} {s : Nat} {n : Nat} {xs : List Value} (hF : Fr (Foot b v) w w2) (ho : w2.ownsRow 0 29 3 v' n xs) (hn : n = (l ++ [m]).length) (hx : xs = mcells (l ++ [m]))
    (hb : w2.heap[b]? = some (.cells #[v, y] 96 (0, 0))) (hm : v'.ownBlock = v.ownBlock ∨ v'.ownBlock = some s) (hs : w.heap.size ≤ s) :
    PutPost w b v y l m (.returned (.tuple #[])) (w2.setCell ⟨b, 0, none⟩ v') := by
  subst hn hx
  refine ⟨rfl, v', by simpa using blk_set hb 0 v', own_setCell ho (own_ne ho hb (by decide)) _, hF.setCell (.inr (.inl rfl)) _, ?_⟩
  rcases hm with hm | hm
  · exact .inl hm
  · exact .inr ⟨s, hm, hs⟩

set_option maxHeartbeats 400000 in
theorem put_mail (w : World) (b : Nat) (v : Value) (l : List Mail) (m : Mail) (y : Value)
    (hb : w.heap[b]? = some (.cells #[v, y] 96 (0, 0))) (ho : w.ownsRow 0 29 3 v l.length (mcells l)) (hl : l.length < 1000000) :
    Calls Try.prog 51 #[.pointer (some ⟨b, 0, none⟩), .agg #[.int .i64 m.fr, .int .i64 m.rc, .string m.text]] w (PutPost w b v y l m) := by
  go_enter Try.func51, Try.ntmps51
  go_wp2
  have hF := (Fr.refl (Foot b v) w).alloc (.cells #[.int .i64 m.fr, .int .i64 m.rc, .string m.text] 29)
  have hb1 : (w.alloc (.cells #[.int .i64 m.fr, .int .i64 m.rc, .string m.text] 29)).heap[b]? = some (.cells #[v, y] 96 (0,0)) := blk_alloc hb _
  have hn1 := blk_new w (.cells #[.int .i64 m.fr, .int .i64 m.rc, .string m.text] 29)
  have ho1 := ho.alloc (.cells #[.int .i64 m.fr, .int .i64 m.rc, .string m.text] 29)
  generalize w.alloc (.cells #[.int .i64 m.fr, .int .i64 m.rc, .string m.text] 29) = w1 at *
  generalize hg : w.heap.size = g at hn1 ⊢
  have Hg := Lib.hid hg
  clear hg
  have hc : w1.cell? ⟨b, 0, none⟩ = some v := blk_cell hb1 0
  have hc0 : w1.cell? ⟨g, 0, none⟩ = some (.int .i64 m.fr) := blk_cell hn1 0
  have hc1 : w1.cell? ⟨g, 1, none⟩ = some (.int .i64 m.rc) := blk_cell hn1 1
  have hc2 : w1.cell? ⟨g, 2, none⟩ = some (.string m.text) := blk_cell hn1 2
  have hne := own_ne ho1 hb1 (by decide)
  have hlt := blk_lt hb1
  have hltg := blk_lt hn1
  go_region_law (refine step_app rfl (.tmp 8) (.tmp 10) 36 rfl 0 29 _ 3 32 Try.underlying36 Try.info29 rfl (by decide) v l.length (mcells l) (by simp [Act.eval]) (World.ownsRow.alloc (World.ownsRow.drew ho1) _) ⟨w1.heap.size, 0, none⟩ 1 1 m.cells (by simp [Act.eval]) rfl (news_of (cs := m.cells) (t := 29) (fr := (0, 0)) (blk_new _ _)) (by simp [Mail.cells, Value.oneCell']) (by simp [maxLen]; omega) (by omega) (Nat.zero_le _) ?_; intro v' w2 ho2 hg2 hm2; obtain ⟨A', c', rfl⟩ := own_slice ho2; have hb2 := blk_grown (blk_alloc (blk_drew hb1) _) hg2 hne; have hf2 := blk_frozen hb2 0; have hk2 := blk_cell hb2 0; have HF2 := Lib.hid (((hF.drew.alloc _).grown hg2 (fun k hk => .inr (.inr hk.symm)))))
  all_goals go_wp2
  all_goals go_end0
  all_goals exact put_end HF2.out ho2 (by simp) (by rw [mcells_snoc]) hb2 hm2 (by have := hF.size; simp; omega)

/-- Send's answer, and the mails behind it -/
def badMail (m : Mail) : Bool := !known m.fr || !known m.rc || m.fr == m.rc || decide (4096 < m.text.size)
def sendE (l : List Mail) (m : Mail) : Int := if badMail m then 260 else if 256 ≤ l.length then 3 else 0
def sendL (l : List Mail) (m : Mail) : List Mail := if badMail m then l else if 256 ≤ l.length then l else l ++ [m]

def NetPost (w : World) (b : Nat) (v : Value) (r : Value) (l' : List Mail) (e : Ending) (w' : World) : Prop :=
  e = .returned r ∧ ∃ v', NetAt w' b v' l' ∧ Fr (Foot b v) w w' ∧ Moved w v v'
theorem NetPost.same {w w' : World} {b : Nat} {v r : Value} {l : List Mail} (h : NetAt w' b v l) (hF : Fr (Foot b v) w w') : NetPost w b v r l (.returned r) w' := ⟨rfl, v, h, hF, Moved.refl _ _⟩
theorem NetPost.same' {w w' : World} {b : Nat} {v r r' : Value} {l l' : List Mail} (h : NetAt w' b v l) (hF : Fr (Foot b v) w w') (hr : r' = r) (hl : l = l') : NetPost w b v r l' (.returned r') w' := ⟨by rw [hr], v, hl ▸ h, hF, Moved.refl _ _⟩

def SendPost (w : World) (b : Nat) (v : Value) (l : List Mail) (m : Mail) : Ending → World → Prop := NetPost w b v (.int .i64 (sendE l m)) (sendL l m)
theorem SendPost.bad {w w' : World} {b : Nat} {v : Value} {l : List Mail} {m : Mail} (h : NetAt w' b v l) (hF : Fr (Foot b v) w w') (hb : badMail m = true) : SendPost w b v l m (.returned (.int .i64 260)) w' :=
  NetPost.same' h hF (by simp [sendE, hb]) (by simp [sendL, hb])
theorem SendPost.full {w w' : World} {b : Nat} {v : Value} {l : List Mail} {m : Mail} (h : NetAt w' b v l) (hF : Fr (Foot b v) w w') (hb : badMail m = false) (hl : 256 ≤ l.length) : SendPost w b v l m (.returned (.int .i64 3)) w' :=
  NetPost.same' h hF (by simp [sendE, hb, hl]) (by simp [sendL, hb, hl])
theorem SendPost.put {w w' : World} {b : Nat} {v v' : Value} {l : List Mail} {m : Mail} (h : NetAt w' b v' (l ++ [m])) (hF : Fr (Foot b v) w w') (hm : Moved w v v') (hb : badMail m = false) (hl : ¬ 256 ≤ l.length) : SendPost w b v l m (.returned (.int .i64 0)) w' :=
  ⟨by simp [sendE, hb, hl], v', by simpa [sendL, hb, hl] using h, hF, hm⟩

end Go.Proofs.Ytedmhhllkkgbjaa
