/- Rows of sectors: cloned, and written in the middle. -/
import Derived.Test.YtdamegjhdopfaaaD11
import Derived.Lib.SliceRun
namespace Go.Proofs.Ytdamegjhdopfaaa
open Go.RowKit Go.WideShapes
set_option linter.unusedSimpArgs false

theorem own_up {w : World} {base n : Nat} {e : TypeId} {size : Nat} {v : Value} {xs : List Value} (h : w.ownsRow 0 e size v n xs) (hb : ∀ k, v.ownBlock = some k → base ≤ k) : w.ownsRow base e size v n xs := by
  refine ⟨h.1, ?_⟩
  rcases h.2 with h2 | ⟨g, cap, cur, rfl, hg, r⟩
  · exact .inl h2
  · exact .inr ⟨g, cap, cur, rfl, hb g rfl, r⟩
theorem flat_len128 (F : List (List Int)) (hF : ∀ s ∈ F, s.length = 128) : (F.flatMap by8).length = F.length * 128 := by
  induction F with
  | nil => rfl
  | cons x F ih =>
    rw [List.flatMap_cons, List.length_append, by8_len, hF x (by simp), ih (fun s hs => hF s (by simp [hs])), List.length_cons]
    omega
theorem flat_one (F : List (List Int)) : ∀ u ∈ F.flatMap by8, u.oneCell' = true := fun u hu => by
  obtain ⟨s, _, hs⟩ := List.mem_flatMap.1 hu
  exact by8_one s u hs

def ClonePost (w : World) (F : List (List Int)) (e : Ending) (w' : World) : Prop :=
  ∃ A c, e = .returned (.slice A F.length c) ∧ w'.ownsRow w.heap.size 106 128 (.slice A F.length c) F.length (F.flatMap by8) ∧ Fr (fun _ => False) w w'
set_option maxRecDepth 100000 in
theorem clone_any {w : World} {FA : Option Addr} {fc : Nat} {F : List (List Int)} (hrow : w.ownsRow 0 106 128 (.slice FA F.length fc) F.length (F.flatMap by8)) (hsecs : ∀ s ∈ F, s.length = 128) (hpos : 0 < F.length) (hfew : F.length ≤ 4096) :
    Calls Try.prog 59 #[.slice FA F.length fc] w (ClonePost w F) := by
  obtain ⟨fg, hfg⟩ := own_some hrow hpos
  subst hfg
  have HE1 : Hid ((w.alloc (.cells #[] 106)).heap[w.heap.size]? = some (.cells #[] 106 (0, 0))) := blk_new _ _
  have hF1 : Fr (fun _ => False) w (w.alloc (.cells #[] 106)) := (Fr.refl _ w).alloc _
  have HF1 := Lib.hid hF1
  have HNW : Hid (∀ ad', some (⟨fg, 0, none⟩ : Addr) = some ad' → ∀ j u, (F.flatMap by8)[j]? = some u → (w.alloc (.cells #[] 106)).cell? (ad'.add j) = some u) := (own_news (hF1.own0 hrow)).1
  have HLN := Lib.hid (flat_len128 F hsecs)
  have HONE := Lib.hid (flat_one F)
  have HFEW := Lib.hid hfew
  have hnil : ∀ W : World, (binOp .eql 71 (.slice (some ⟨fg, 0, none⟩) F.length fc) (.slice none 0 0)).run Try.prog W = .ok (.bool false) W := fun W => Lib.run_eql_slice_nil W 71 106 (some ⟨fg, 0, none⟩) F.length fc 0 0 Try.underlying71
  clear hF1 hrow hsecs hpos hfew
  go_enter Try.func59, Try.ntmps59
  go_wp2_with (at_builtin; refine wpl_appx rfl (.tmp 5) (.tmp 6) 71 rfl w.heap.size 106 _ 128 128 Try.underlying71 sec_infos (by simp [Value.cells, zero_len]) (by decide) (.slice (some ⟨w.heap.size, 0, none⟩) 0 0) 0 [] rfl (own_up (own_empty 128 HE1.out rfl) (fun k hk => by obtain rfl := Option.some.inj hk; exact Nat.le_refl _)) (some ⟨fg, 0, none⟩) F.length fc (F.flatMap by8) rfl HLN.out HNW.out (fun e => by cases e) HONE.out (by have := HFEW.out; simp [maxLen]; omega) (by have := HFEW.out; omega) HF1.out.size ?_; intro v2 w2 ho2 hg2 hm2; rw [Nat.zero_add, List.nil_append] at ho2; obtain ⟨A2, c2, rfl⟩ := own_slice ho2)
  go_ret
  exact ⟨A2, c2, rfl, ho2, HF1.out.grown hg2 (fun k hk => .inl (by obtain rfl := Option.some.inj hk; exact Nat.le_refl _))⟩

/-! ### cells laid over a block -/
theorem split_at {α : Type} (l : List α) (i : Nat) (h : i < l.length) : ∃ a x r, l = a ++ x :: r ∧ a.length = i :=
  ⟨l.take i, l[i], l.drop (i + 1), by rw [← List.drop_eq_getElem_cons h, List.take_append_drop], by simp; omega⟩
theorem splice_step {α : Type} (cur : List α) (off : Nat) (v : α) (vs : List α) (h : off < cur.length) : splice (cur.set off v) (off + 1) vs = splice cur off (v :: vs) := by
  obtain ⟨a, x, r, rfl, rfl⟩ := split_at cur off h
  unfold splice
  have e1 : (a ++ x :: r).set a.length v = a ++ v :: r := by simp
  have e2 : (a ++ v :: r).take (a.length + 1) = a ++ [v] := by rw [List.take_append, List.take_of_length_le (by omega)]; simp
  have e3 : (a ++ x :: r).take a.length = a := by simp
  have e4 : (a ++ v :: r).drop (a.length + 1 + vs.length) = r.drop vs.length := by
    rw [Nat.add_assoc, ← List.drop_drop, List.drop_left, Nat.add_comm 1, List.drop_succ_cons]
  have e5 : (a ++ x :: r).drop (a.length + (v :: vs).length) = r.drop vs.length := by
    rw [← List.drop_drop, List.drop_left, List.length_cons, List.drop_succ_cons]
  rw [e1, e2, e3, e4, e5]
  simp
theorem splice_take {α : Type} (cur : List α) (off : Nat) (vs : List α) (n : Nat) (h : off + vs.length ≤ n) (hn : n ≤ cur.length) : (splice cur off vs).take n = splice (cur.take n) off vs := by
  unfold splice
  have h1 : (cur.take off).length = off := by simp; omega
  rw [List.take_append, h1, List.take_append, List.take_take, List.take_take, List.drop_take]
  congr 1
  · congr 1; omega
  · congr 1
    · rw [List.take_of_length_le (by omega)]
    · congr 1; omega
/-- a sector's beginning laid over a row of sectors -/
theorem flat_splice : ∀ (F : List (List Int)) (_ : ∀ s ∈ F, s.length = 128) (i : Nat) (s : List Int), F[i]? = some s → ∀ t : List Int, t.length ≤ 128 → splice (F.flatMap by8) (i * 128) (by8 t) = (F.set i (t ++ s.drop t.length)).flatMap by8
  | [], _, i, s, h, _, _ => by simp at h
  | x :: F, hF, i, s, h, t, ht => by
    have hx : (by8 x).length = 128 := by rw [by8_len]; exact hF x (by simp)
    cases i with
    | zero =>
      simp at h
      subst h
      have e1 : (by8 x ++ F.flatMap by8).drop (by8 t).length = (by8 x).drop (by8 t).length ++ F.flatMap by8 := List.drop_append_of_le_length (by rw [hx, by8_len]; exact ht)
      have e2 : (by8 x).drop (by8 t).length = by8 (x.drop t.length) := by rw [by8_len]; unfold by8; rw [List.map_drop]
      have e3 : by8 (t ++ x.drop t.length) = by8 t ++ by8 (x.drop t.length) := by unfold by8; rw [List.map_append]
      rw [List.flatMap_cons, List.set_cons_zero, List.flatMap_cons, e3]
      unfold splice
      rw [Nat.zero_mul, List.take_zero, Nat.zero_add, List.nil_append, e1, e2, List.append_assoc]
    | succ i =>
      have ih := flat_splice F (fun s hs => hF s (by simp [hs])) i s (by simpa using h) t ht
      rw [List.flatMap_cons, List.set_cons_succ, List.flatMap_cons, ← ih]
      unfold splice
      have e1 : (by8 x ++ F.flatMap by8).take ((i + 1) * 128) = by8 x ++ (F.flatMap by8).take (i * 128) := by
        rw [List.take_append, hx, List.take_of_length_le (by rw [hx]; omega), show (i + 1) * 128 - 128 = i * 128 by omega]
      have e2 : (by8 x ++ F.flatMap by8).drop ((i + 1) * 128 + (by8 t).length) = (F.flatMap by8).drop (i * 128 + (by8 t).length) := by
        rw [show (i + 1) * 128 + (by8 t).length = 128 + (i * 128 + (by8 t).length) by omega, ← List.drop_drop, show 128 = (by8 x).length from hx.symm, List.drop_left]
      rw [e1, e2, List.append_assoc]
theorem setCells_blk : ∀ (vs : List Value) (off : Nat) (w : World) (b : Nat) (cur : List Value) (t : TypeId), w.heap[b]? = some (.cells cur.toArray t (0, 0)) → off + vs.length ≤ cur.length → (w.setCells b off vs).heap[b]? = some (.cells (splice cur off vs).toArray t (0, 0))
  | [], off, w, b, cur, t, h, hl => by
    have : splice cur off ([] : List Value) = cur := by simp [splice]
    rw [this]
    exact h
  | v :: vs, off, w, b, cur, t, h, hl => by
    simp at hl
    have h1 : (w.setCell ⟨b, off, none⟩ v).heap[b]? = some (.cells (cur.set off v).toArray t (0, 0)) := by
      rw [blk_set h off v]; simp
    have := setCells_blk vs (off + 1) (w.setCell ⟨b, off, none⟩ v) b (cur.set off v) t h1 (by simp; omega)
    have e := splice_step cur off v vs (by omega)
    rw [← e]
    exact this
/-- an own row of sectors behind a splice -/
theorem own_splice {w w' : World} {B b n c i : Nat} {F : List (List Int)} {cur : List Value} (h : w.ownsRow B 106 128 (.slice (some ⟨b, 0, none⟩) n c) n (F.flatMap by8)) (hn : n = F.length) (hF : ∀ s ∈ F, s.length = 128) (hb : w.heap[b]? = some (.cells cur.toArray 106 (0, 0)))
    {s t : List Int} (hs : F[i]? = some s) (ht : t.length ≤ 128) (hb' : w'.heap[b]? = some (.cells (splice cur (i * 128) (by8 t)).toArray 106 (0, 0))) :
    w'.ownsRow B 106 128 (.slice (some ⟨b, 0, none⟩) n c) n ((F.set i (t ++ s.drop t.length)).flatMap by8) := by
  subst hn
  have hi : i < F.length := (List.getElem?_eq_some_iff.1 hs).1
  have hsl : s.length = 128 := hF s (List.mem_of_getElem? hs)
  have hF' : ∀ x ∈ F.set i (t ++ s.drop t.length), x.length = 128 := fun x hx => by
    rcases List.mem_or_eq_of_mem_set hx with hx | rfl
    · exact hF x hx
    · simp; omega
  rcases h.2 with ⟨hv, _⟩ | ⟨g2, c2, cur2, hv, hB, hh, hc1, hc2, hc3, hc4⟩
  · cases hv
  · have hv' := hv
    simp only [Value.slice.injEq, Option.some.injEq, Addr.mk.injEq, and_true, true_and] at hv'
    obtain ⟨rfl, rfl⟩ := hv'
    have hcur : cur2 = cur.toArray := by
      have := hh.symm.trans hb
      simpa using this
    subst hcur
    simp only [List.size_toArray] at hc3
    have hfit : i * 128 + (by8 t).length ≤ F.length * 128 := by rw [by8_len]; omega
    refine ⟨by rw [flat_len128 _ hF', List.length_set], .inr ⟨b, c, _, rfl, hB, hb', hc1, hc2, ?_, ?_⟩⟩
    · simp only [List.size_toArray]
      rw [length_splice _ _ _ (by rw [hc3]; have : F.length * 128 ≤ c * 128 := Nat.mul_le_mul_right _ hc1; omega), hc3]
    · show (splice cur (i * 128) (by8 t)).take (F.length * 128) = _
      rw [splice_take _ _ _ _ hfit (by rw [hc3]; exact Nat.mul_le_mul_right _ hc1)]
      have e : cur.take (F.length * 128) = F.flatMap by8 := hc4
      rw [e, flat_splice F hF i s hs t ht]
theorem setCells_fr (b : Nat) : ∀ (vs : List Value) (o : Nat) (w : World), Fr (fun k => k = b) w (w.setCells b o vs)
  | [], _, _ => Fr.refl _ _
  | v :: vs, o, w => (setg_fr (Fr.refl _ w) o v).trans (setCells_fr b vs (o + 1) (w.setCell ⟨b, o, none⟩ v)) (fun _ _ h => h)
end Go.Proofs.Ytdamegjhdopfaaa
