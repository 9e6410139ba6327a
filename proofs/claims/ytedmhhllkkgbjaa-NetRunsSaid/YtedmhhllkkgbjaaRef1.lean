/- The reference's Send, At, Take, Twin in this text's own words, out of the printed contracts. -/
import Derived.Test.YtedmhhllkkgbjaaNet6
import Derived.Test.YtedmhhllkkgbjaaPNetRunsx1
import Derived.Test.YtedmhhllkkgbjaaPNetRunsx2
import Derived.Test.YtedmhhllkkgbjaaPNetRunsx3
namespace Go.Proofs.Ytedmhhllkkgbjaa
open Go.RowKit
open Go.Proofs.YtedmhhllkkgbjaaW.PrintWords (Kd Kept Reps)
open PNetRuns

/-- the row of a reference's list, from block B on -/
def RowOf (w : World) (B : Nat) (v : Value) (l : List Mail) : Prop := w.ownsRow 0 29 3 v l.length (mcells l) ∧ ∀ k, v.ownBlock = some k → B ≤ k

def toS (m : Mail) : S29 := ⟨m.fr, m.rc, m.text⟩
def ofS (s : S29) : Mail := ⟨s.f0, s.f1, s.f2⟩
theorem of_to (l : List Mail) : (l.map toS).map ofS = l := by
  rw [List.map_map]
  conv => rhs; rw [← List.map_id l]
  apply List.map_congr_left
  intro m _
  rfl

theorem reps_flat {α : Type} {R : α → List Value → Prop} {s : Nat} {f : α → List Value} (hf : ∀ x, (f x).length = s) (hR : ∀ p c, R p c → c = f p) :
    ∀ (ps : List α) (cs : List Value), Reps R s ps cs → cs = ps.flatMap f
  | [], cs, h => by
    have := h.1
    simp at this
    simpa using this
  | p :: ps, cs, h => by
    have hl := h.1
    rw [List.length_cons, Nat.succ_mul] at hl
    have h0 := hR _ _ (h.2 0 p rfl)
    rw [Nat.zero_mul, List.drop_zero] at h0
    have hr : Reps R s ps (cs.drop s) := by
      refine ⟨by rw [List.length_drop]; omega, fun j q hq => ?_⟩
      have := h.2 (j + 1) q (by simpa using hq)
      rw [List.drop_drop]
      rwa [show s + j * s = (j + 1) * s by rw [Nat.succ_mul]; omega]
    have ih := reps_flat hf hR ps (cs.drop s) hr
    rw [List.flatMap_cons, ← ih, ← h0, List.take_append_drop]

theorem flat_reps {α : Type} {R : α → List Value → Prop} {s : Nat} {f : α → List Value} (hf : ∀ x, (f x).length = s) (hR : ∀ p, R p (f p)) (ps : List α) : Reps R s ps (ps.flatMap f) := by
  refine ⟨flat_length f s hf ps, fun j p hp => ?_⟩
  have hj := (List.getElem?_eq_some_iff.1 hp)
  have e1 : (ps.flatMap f).drop (j * s) = (ps.drop j).flatMap f := (flat_drop f s hf ps j).symm
  have e2 : ps.drop j = p :: ps.drop (j + 1) := by rw [← hj.2]; exact List.drop_eq_getElem_cons hj.1
  rw [e1, e2, List.flatMap_cons, List.take_left' (hf p)]
  exact hR p

theorem own_rebase {w : World} {base n : Nat} {e : TypeId} {size : Nat} {v : Value} {xs : List Value} (h : w.ownsRow 0 e size v n xs) (hb : ∀ k, v.ownBlock = some k → base ≤ k) : w.ownsRow base e size v n xs := by
  refine ⟨h.1, ?_⟩
  rcases h.2 with h | ⟨g, cap, cur, rfl, _, r⟩
  · exact .inl h
  · exact .inr ⟨g, cap, cur, rfl, hb g rfl, r⟩

theorem R_of_row {w : World} {B : Nat} {u : Value} {l : List Mail} (h : RowOf w B u l) : Kd.R k29 29 w B (fun k => u.ownBlock = some k) u (l.map toS) := by
  refine ⟨fun k hk => hk, mcells l, ?_, ?_⟩
  · rw [List.length_map]; exact own_rebase h.1 h.2
  · have e : mcells l = (l.map toS).flatMap (fun x : S29 => [.int .i64 x.f0, .int .i64 x.f1, .string x.f2]) := by
      rw [List.flatMap_map]; rfl
    rw [e]
    exact flat_reps (f := fun x : S29 => [.int .i64 x.f0, .int .i64 x.f1, .string x.f2]) (fun _ => rfl) (fun p => k29_mkM w B _ p) _

theorem row_of_R {w : World} {B : Nat} {ok : Nat → Prop} {u : Value} {ls : List S29} (h : Kd.R k29 29 w B ok u ls) : RowOf w B u (ls.map ofS) ∧ ∀ k, u.ownBlock = some k → ok k := by
  obtain ⟨h0, inner, ho, hr⟩ := h
  have e : inner = mcells (ls.map ofS) := by
    have := reps_flat (f := fun x : S29 => [.int .i64 x.f0, .int .i64 x.f1, .string x.f2]) (fun _ => rfl) (fun p c hp => k29_openM hp) ls inner hr
    rw [this, mcells, List.flatMap_map]; rfl
  refine ⟨⟨by rw [List.length_map, ← e]; exact own_base0 ho, fun k hk => (ho.lt k hk).1⟩, h0⟩

theorem fr_of_kept {w0 w w' : World} {S : Nat → Prop} (h0 : Below w0.heap.size w0 w) (h1 : Below w0.heap.size w0 w') (hk : Kept w w' S) : Fr S w w' :=
  ⟨h1.os.trans h0.os.symm, h1.tape.trans h0.tape.symm, h1.output.trans h0.output.symm, hk.1, hk.2⟩

def Came (w : World) (u u' : Value) : Prop := ∀ k, u'.ownBlock = some k → u.ownBlock = some k ∨ w.heap.size ≤ k

/-- What a reference's call leaves: a row l' whose block is the old one's or new. -/
def RefPost (w : World) (B : Nat) (u : Value) (r : Value → Value) (l' : List Mail) (e : Ending) (w' : World) : Prop :=
  ∃ u', e = .returned (r u') ∧ RowOf w' B u' l' ∧ Fr (fun k => u.ownBlock = some k) w w' ∧ Came w u u'

theorem S_length (l : List Mail) : (l.map toS).length = l.length := List.length_map ..
theorem send_fn (l : List Mail) (m : Mail) (hl : l.length < 1000000) : lienref26_Send.f 1 (l.map toS) m.fr m.rc m.text = some ((sendL l m).map toS, sendE l m) := by
  have key : ∀ b : Bool, lienref26_Send.j0 1 (l.map toS) b m.fr m.rc m.text = if b = true then some (l.map toS, 260) else if 256 ≤ l.length then some (l.map toS, 3) else some ((l ++ [m]).map toS, 0) := by
    intro b
    rw [show (1 : Nat) = 0 + 1 from rfl]
    simp only [lienref26_Send.j0]
    by_cases hb : b = true
    · rw [if_pos hb, if_pos hb]
    · rw [if_neg hb, if_neg hb]
      by_cases h2 : 256 ≤ l.length
      · rw [if_pos (by rw [S_length]; omega), if_pos h2]
      · rw [if_neg (by rw [S_length]; omega), if_neg h2]
        simp only [Option.bind_some, List.length_nil, S_length, List.nil_append, List.length_singleton]
        rw [if_pos (by omega)]
        try simp only [Option.bind_some, S_length, List.length_singleton]
        rw [if_pos (by omega), List.map_append]
        rfl
  have fin : ∀ b : Bool, badMail m = b → (if b = true then some (l.map toS, 260) else if 256 ≤ l.length then some (l.map toS, 3) else some ((l ++ [m]).map toS, 0)) = some ((sendL l m).map toS, sendE l m) := by
    intro b hb
    unfold sendL sendE
    rw [hb]
    cases b
    · by_cases h2 : 256 ≤ l.length <;> simp [h2]
    · simp
  unfold lienref26_Send.f
  by_cases h1 : m.fr < 0
  · rw [if_pos h1, key, fin true (by simp [badMail, known]; left; left; left; omega)]
  rw [if_neg h1]
  by_cases h2 : m.fr > 15
  · rw [if_pos h2, key, fin true (by simp [badMail, known]; left; left; left; omega)]
  rw [if_neg h2]
  by_cases h3 : m.rc < 0
  · rw [if_pos h3, key, fin true (by simp [badMail, known]; left; left; right; omega)]
  rw [if_neg h3]
  by_cases h4 : m.rc > 15
  · rw [if_pos h4, key, fin true (by simp [badMail, known]; left; left; right; omega)]
  rw [if_neg h4]
  by_cases h5 : m.fr = m.rc
  · rw [if_pos h5, key, fin true (by simp [badMail, h5])]
  rw [if_neg h5, key]
  have k1 : known m.fr = true := by simp [known]; omega
  have k2 : known m.rc = true := by simp [known]; omega
  refine fin _ ?_
  have k3 : (m.fr == m.rc) = false := by simp [h5]
  have k4 : decide (4096 < m.text.size) = decide ((m.text.size : Int) > 4096) := decide_eq_decide.2 (by omega)
  rw [← k4, badMail, k1, k2, k3]
  rfl

theorem rsend_any {w0 w : World} (hB : Below w0.heap.size w0 w) {u : Value} {l : List Mail} (h : RowOf w w0.heap.size u l) (m : Mail) (hl : l.length < 1000000) :
    Calls Try.prog 20 #[u, .agg #[.int .i64 m.fr, .int .i64 m.rc, .string m.text]] w (RefPost w w0.heap.size u (fun u' => .tuple #[u', .int .i64 (sendE l m)]) (sendL l m)) := by
  refine (lienref26_Send.calls 1 _ u (l.map toS) m.fr m.rc m.text _ _ w0 w hB (R_of_row h) (send_fn l m hl)).mono ?_
  rintro e w' ⟨v0, rfl, hR, hB', hK⟩
  obtain ⟨hr, hok⟩ := row_of_R hR
  rw [of_to] at hr
  exact ⟨v0, rfl, hr, fr_of_kept hB hB' hK, hok⟩

theorem rd_S (l : List Mail) (i : Nat) : rd_T29 (l.map toS) i = toS (l.getD i zmail) := by
  have hz : (z29 : S29) = toS zmail := rfl
  unfold rd_T29
  rw [Int.toNat_natCast, hz]
  simp only [List.getD_eq_getElem?_getD, List.getElem?_map]
  cases l[i]? <;> rfl

theorem at_fn (l : List Mail) (i : Int) : lienref26_At.f (l.map toS) i = some ((takeM l i).fr, (takeM l i).rc, (takeM l i).text, takeE l i) := by
  unfold lienref26_At.f
  rw [S_length]
  cases hi : inl l i
  · have hn := (inl_not l i).1 hi
    by_cases h0 : i < 0
    · rw [if_pos h0]; simp [takeM, takeE, hi, zmail]
    · rw [if_neg h0, if_pos (by omega)]; simp [takeM, takeE, hi, zmail]
  · have hn := (inl_iff l i).1 hi
    rw [if_neg (by omega), if_neg (by omega), if_pos (by omega), if_pos (by omega)]
    obtain ⟨n, rfl⟩ := Int.eq_ofNat_of_zero_le hn.1
    rw [rd_S]
    simp only [takeM, takeE, hi, if_true, Int.toNat_natCast, toS]

theorem rat_any {w : World} {A : Option Addr} {c : Nat} {l : List Mail} {B : Nat} (h : RowOf w B (.slice A l.length c) l) (i : Int) :
    Calls Try.prog 25 #[.slice A l.length c, .int .i64 i] w (Told w (.tuple #[(takeM l i).val, .int .i64 (takeE l i)]) (fun _ => False)) := by
  obtain ⟨_, hc, hC⟩ := Kd.R_reads' (R_of_row h)
  rw [S_length] at hC
  have e := S_length l
  have hcall := lienref26_At.calls A c (l.map toS) i (takeM l i).fr (takeM l i).rc (takeM l i).text (takeE l i) w (by rw [e]; exact hC) (by rw [e]; exact hc) (at_fn l i)
  rw [e] at hcall
  exact hcall.mono fun e w' hh => ⟨hh.1, Fr.of_below hh.2 _⟩

theorem take_fn (l : List Mail) (i : Int) (hl : l.length < 1000000) : lienref26_Take.f (l.map toS) i = some ((takeL l i).map toS, (takeM l i).fr, (takeM l i).rc, (takeM l i).text, takeE l i) := by
  unfold lienref26_Take.f
  rw [at_fn, Option.bind_some]
  cases hi : inl l i
  · simp [takeE, takeL, hi]
  · have hn := (inl_iff l i).1 hi
    obtain ⟨n, rfl⟩ := Int.eq_ofNat_of_zero_le hn.1
    have hnl : n < l.length := by omega
    have hw : wrap64 ((n : Int) + 1) = (n : Int) + 1 := by unfold wrap64; omega
    have ht : ((n : Int) + 1).toNat = n + 1 := by omega
    simp only [takeE, takeL, hi, if_true, Int.toNat_natCast, Option.bind_some, hw, ht, S_length, List.nil_append, List.length_nil, List.length_take, List.length_drop]
    rw [if_pos (by omega), if_pos (by omega), if_pos (by omega)]
    try simp only [Option.bind_some, List.length_take, S_length]
    rw [if_pos (by omega), if_pos (by omega), if_pos (by omega), erase_eq, List.map_append, List.map_take, List.map_drop]

theorem rtake_any {w0 w : World} (hB : Below w0.heap.size w0 w) {u : Value} {l : List Mail} (h : RowOf w w0.heap.size u l) (i : Int) (hl : l.length < 1000000) :
    Calls Try.prog 21 #[u, .int .i64 i] w (RefPost w w0.heap.size u (fun u' => .tuple #[u', (takeM l i).val, .int .i64 (takeE l i)]) (takeL l i)) := by
  refine (lienref26_Take.calls _ u (l.map toS) i _ _ _ _ _ w0 w hB (R_of_row h) (take_fn l i hl)).mono ?_
  rintro e w' ⟨v0, rfl, hR, hB', hK⟩
  obtain ⟨hr, hok⟩ := row_of_R hR
  rw [of_to] at hr
  exact ⟨v0, rfl, hr, fr_of_kept hB hB' hK, hok⟩

theorem twin_fn (l : List Mail) (i : Int) (hl : l.length < 1000000) : lienref26_Twin.f (l.map toS) i = some ((twinL l i).map toS, twinE l i) := by
  unfold lienref26_Twin.f
  rw [at_fn, Option.bind_some]
  cases hi : inl l i
  · simp [takeE, twinL, twinE, hi]
  · have hn := (inl_iff l i).1 hi
    obtain ⟨n, rfl⟩ := Int.eq_ofNat_of_zero_le hn.1
    by_cases h2 : 256 ≤ l.length
    · have h2' : (l.length : Int) ≥ 256 := by omega
      simp only [takeE, twinL, twinE, hi, if_true, if_pos h2, S_length]
      rw [if_pos h2']
    · simp only [takeE, takeM, twinL, twinE, hi, if_true, if_neg h2, Int.toNat_natCast, S_length]
      rw [if_neg (by omega)]
      simp only [Option.bind_some, List.length_nil, S_length, List.nil_append, List.length_singleton]
      rw [if_pos (by omega)]
      try simp only [Option.bind_some, S_length, List.length_singleton]
      rw [if_pos (by omega), List.map_append]
      rfl

theorem rtwin_any {w0 w : World} (hB : Below w0.heap.size w0 w) {u : Value} {l : List Mail} (h : RowOf w w0.heap.size u l) (i : Int) (hl : l.length < 1000000) :
    Calls Try.prog 23 #[u, .int .i64 i] w (RefPost w w0.heap.size u (fun u' => .tuple #[u', .int .i64 (twinE l i)]) (twinL l i)) := by
  refine (lienref26_Twin.calls _ u (l.map toS) i _ _ w0 w hB (R_of_row h) (twin_fn l i hl)).mono ?_
  rintro e w' ⟨v0, rfl, hR, hB', hK⟩
  obtain ⟨hr, hok⟩ := row_of_R hR
  rw [of_to] at hr
  exact ⟨v0, rfl, hr, fr_of_kept hB hB' hK, hok⟩
end Go.Proofs.Ytedmhhllkkgbjaa
