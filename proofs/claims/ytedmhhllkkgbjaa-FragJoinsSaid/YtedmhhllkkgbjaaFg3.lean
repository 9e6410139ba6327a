/- frag.Need. -/
import Derived.Test.YtedmhhllkkgbjaaFg2
namespace Go.Proofs.Ytedmhhllkkgbjaa
open Go.RowKit

theorem frags_len (i s : Nat) : ∀ f a l, (frags i s f a l).1.length ≤ f
  | 0, _, _ => by simp [frags]
  | f + 1, a, l => by
    by_cases h : a + (nextEv i s a l).n = s
    · rw [frags_end i s f a l h]; simp
    · rw [frags_more i s f a l h]
      have := frags_len i s f (a + (nextEv i s a l).n) (nextLeft s a l)
      simp only [List.length_cons]
      omega
theorem plan_len : ∀ (i : Nat) (ss : List Nat) (l : Nat), (∀ s ∈ ss, s ≤ 1000000) → (plan i ss l).length ≤ ss.length * 1000001
  | _, [], _, _ => by simp [plan]
  | i, s :: ss, l, h => by
    have h1 := frags_len i s (s + 1) 0 l
    have h2 := plan_len (i + 1) ss (frags i s (s + 1) 0 l).2 (fun x hx => h x (List.mem_cons_of_mem _ hx))
    have h3 := h s List.mem_cons_self
    simp only [plan, List.length_append, List.length_cons, Nat.succ_mul]
    omega

theorem need_tells' (l : List Ev) (w0 : World) : Tells 60 #[] l (fun _ w => w = w0) := by
  refine ⟨(need_tells l).eg, ?_⟩
  rintro done e rest w hd rfl
  unfold Ev.args
  simp only [Array.append_empty]
  go_enter Try.func60, Try.ntmps60
  go_wp2
  go_end0
  exact ⟨rfl, rfl⟩

/-- why these sizes are none, or 0 -/
def badSize : List Int → Int
  | [] => 0
  | x :: xs => if x < 0 then 1 else if 8192 < x then 2 else badSize xs
def needE (l : List Int) : Int := if 256 < l.length then 3 else badSize l
def needN (l : List Int) : Nat := if needE l = 0 then freshN (plan 0 (l.map Int.toNat) 0) else 0

theorem badSize_zero : ∀ {l : List Int}, badSize l = 0 → ∀ x ∈ l, 0 ≤ x ∧ x ≤ 8192
  | [], _, x, h => by simp at h
  | y :: ys, h, x, hx => by
    simp only [badSize] at h
    split at h
    · cases h
    · split at h
      · cases h
      · rcases List.mem_cons.1 hx with rfl | hx
        · omega
        · exact badSize_zero h x hx
theorem badSize_take : ∀ (l : List Int) (k : Nat), badSize (l.take k) = 0 → badSize l = badSize (l.drop k)
  | l, 0, _ => by simp
  | [], _ + 1, _ => by simp
  | x :: xs, k + 1, h => by
    simp only [List.take_succ_cons, badSize] at h
    split at h
    · cases h
    · split at h
      · cases h
      · rename_i h1 h2
        simp only [badSize, if_neg h1, if_neg h2, List.drop_succ_cons]
        exact badSize_take xs k h
theorem badSize_snoc (l : List Int) (k : Nat) (x : Int) (hx : l[k]? = some x) (h : badSize (l.take k) = 0) : badSize l = if x < 0 then 1 else if 8192 < x then 2 else badSize (l.drop (k + 1)) := by
  rw [badSize_take l k h]
  have hj := List.getElem?_eq_some_iff.1 hx
  rw [List.drop_eq_getElem_cons hj.1, hj.2]
  rfl
theorem badSize_step (l : List Int) (k : Nat) (x : Int) (hx : l[k]? = some x) (h : badSize (l.take k) = 0) (h0 : 0 ≤ x) (h1 : x ≤ 8192) : badSize (l.take (k + 1)) = 0 := by
  have hj := List.getElem?_eq_some_iff.1 hx
  have e : (l.take (k + 1)).take k = l.take k := by rw [List.take_take]; congr 1; omega
  rw [badSize_take (l.take (k + 1)) k (by rw [e]; exact h)]
  rw [List.drop_take, List.drop_eq_getElem_cons hj.1, hj.2, show k + 1 - k = 1 from by omega]
  simp [badSize]
  omega

def NeedPost (w : World) (l : List Int) (e : Ending) (w' : World) : Prop := e = .returned (.tuple #[.int .i64 (needN l : Int), .int .i64 (needE l)]) ∧ Fr (fun _ => False) w w'

set_option maxRecDepth 100000 in
set_option maxHeartbeats 2000000 in
theorem need_any (A : Option Addr) (c : Nat) (l : List Int) (w : World) (hl : l.length < 1000000) (hread : ∀ (i : Nat) (x : Int), l[i]? = some x → ∃ g o, A = some ⟨g, o, none⟩ ∧ w.cell? ⟨g, o + i, none⟩ = some (.int .i64 x)) :
    Calls Try.prog 35 #[.slice A l.length c] w (NeedPost w l) := by
  by_cases h256 : 256 < l.length
  · have hE : needE l = 3 := by simp [needE, h256]
    have hN : needN l = 0 := by simp [needN, hE]
    have HE := Lib.hid hE
    have HN := Lib.hid hN
    have h2 : (256 : Int) < (l.length : Int) := by omega
    clear hE hN hread
    go_enter Try.func35, Try.ntmps35
    go_wp2
    go_ret2
    exact ⟨by rw [HE.out, HN.out]; rfl, Fr.refl _ _⟩
  · have hE : needE l = badSize l := by simp [needE, h256]
    have HE := Lib.hid hE
    have h2 : ¬ (256 : Int) < (l.length : Int) := by omega
    have HR := Lib.hid hread
    clear hE hread
    go_enter Try.func35, Try.ntmps35
    go_wp2_with fail
    go_loopw [11] (fun k wr => ∃ i : Nat, i ≤ l.length ∧ k = .int .i64 i ∧ Hid (badSize (l.take i) = 0) ∧ wr = w) (fun k _ => l.length - (intOf k).toNat)
    case atStart => exact ⟨0, by omega, rfl, rfl, rfl⟩
    case round =>
      obtain ⟨i, hi, rfl, hb, rfl⟩ := hrel
      by_cases hlt : i < l.length
      · obtain ⟨x, hx⟩ : ∃ x, l[i]? = some x := ⟨_, List.getElem?_eq_getElem hlt⟩
        obtain ⟨g, o, rfl, hcell⟩ := HR.out i x hx
        have HX := Lib.hid hx
        clear hx
        have hii : (i : Int) < l.length := by omega
        by_cases h0 : x < 0
        · have hE2 : badSize l = 1 := by rw [badSize_snoc l i x HX.out hb.out, if_pos h0]
          have HE2 := Lib.hid (HE.out.trans hE2)
          clear hE2
          go_wp2
          go_ret2
          exact ⟨by rw [show needN l = 0 from by simp [needN, HE2.out], HE2.out]; rfl, Fr.refl _ _⟩
        · by_cases h1 : 8192 < x
          · have hE2 : badSize l = 2 := by rw [badSize_snoc l i x HX.out hb.out, if_neg h0, if_pos h1]
            have HE2 := Lib.hid (HE.out.trans hE2)
            clear hE2
            go_wp2
            go_ret2
            exact ⟨by rw [show needN l = 0 from by simp [needN, HE2.out], HE2.out]; rfl, Fr.refl _ _⟩
          · have hs := badSize_step l i x HX.out hb.out (by omega) (by omega)
            have HS := Lib.hid hs
            clear hs
            go_wp2
            go_roundw
            case rel => exact ⟨i + 1, by omega, by go_num, HS, trivial⟩
            case measure => simp [intOf]; omega
      · have hie : i = l.length := by omega
        subst hie
        rw [List.take_length] at hb
        have hE0 : needE l = 0 := HE.out.trans hb.out
        have hN : needN l = freshN (plan 0 (l.map Int.toNat) 0) := by simp [needN, hE0]
        have HE0 := Lib.hid hE0
        have HN := Lib.hid hN
        clear hE0 hN
        have hall := badSize_zero hb.out
        have hlen : (l.map Int.toNat).length = l.length := List.length_map ..
        have hpl := plan_len 0 (l.map Int.toNat) 0 (fun s hs => by obtain ⟨x, hx, rfl⟩ := List.mem_map.1 hs; have := hall x hx; omega)
        have hw := walk_any (F := 60) (cap := #[]) (sizes := l.map Int.toNat) (need_tells' (plan 0 (l.map Int.toNat) 0) wr) A c wr rfl (by omega) (by omega) (fun s hs => by obtain ⟨x, hx, rfl⟩ := List.mem_map.1 hs; have := hall x hx; omega) (by
          rintro done w1 rfl i s his
          rw [List.getElem?_map] at his
          obtain ⟨x, hx, rfl⟩ := Option.map_eq_some_iff.1 his
          obtain ⟨g, o, e1, e2⟩ := HR.out i x hx
          have := hall x (List.mem_of_getElem? hx)
          exact ⟨g, o, e1, by rw [e2]; congr 2; omega⟩)
        rw [hlen] at hw
        have HW := Lib.hid hw
        clear hw hpl hall hlen
        go_wp2_with fail
        refine HW.out.mono ?_
        rintro e w' ⟨rfl, rfl⟩
        go_wp2
        go_ret2
        exact ⟨by rw [HE0.out, HN.out]; rfl, Fr.refl _ _⟩

end Go.Proofs.Ytedmhhllkkgbjaa
