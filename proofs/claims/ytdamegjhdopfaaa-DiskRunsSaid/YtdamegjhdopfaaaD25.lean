/- A disk: Rot. -/
import Derived.Test.YtdamegjhdopfaaaD24
import Derived.Laws.BitsAllLaws
namespace Go.Proofs.Ytdamegjhdopfaaa
open Go.RowKit Go.WideShapes
set_option linter.unusedSimpArgs false
set_option linter.unusedVariables false

/-- a byte that is bent -/
def bend (v m : Int) : Int := bits BinOp.xor IntKind.u8 v m
theorem bend_byte (v m : Int) (hv : 0 ≤ v ∧ v < 256) (hm : 0 ≤ m ∧ m < 256) : 0 ≤ bend v m ∧ bend v m < 256 := by
  unfold bend
  rw [u8_xor v m hv.1 hv.2 hm.1 hm.2]
  have h1 : v.toNat < 2 ^ 8 := by omega
  have h2 : m.toNat < 2 ^ 8 := by omega
  have h3 := Nat.xor_lt_two_pow h1 h2
  omega
def Dk.rotE (d : Dk) (i j : Int) : Int := if 0 ≤ i ∧ i < d.F.length ∧ 0 ≤ j ∧ j < 128 then 0 else 5
def rotF (F : List (List Int)) (p q : Nat) (m : Int) : List (List Int) := F.set p ((F.getD p []).set q (bend ((F.getD p []).getD q 0) m))
def Dk.rot (d : Dk) (i j m : Int) : Dk := if d.rotE i j = 0 then { d with F := rotF d.F i.toNat j.toNat m } else d
def RotPost (w : World) (g : Nat) (T : Nat → Prop) (d' : Dk) (r : Int) (e : Ending) (w' : World) : Prop :=
  e = .returned (.int .i64 r) ∧ DkAt w' g T d' ∧ Fr T w w'
/-- one byte of a row of sectors -/
theorem set_splice {F : List (List Int)} {cur : List Value} {p q : Nat} {s : List Int} {b : Int} (hF : ∀ s ∈ F, s.length = 128) (hcur : cur.take (F.length * 128) = F.flatMap by8) (hs : F[p]? = some s) (hq : q < 128) :
    cur.set (p * 128 + q) (.int .u8 b) = splice cur (p * 128) (by8 (s.set q b)) := by
  have hp := (List.getElem?_eq_some_iff.1 hs).1
  have hsl := hF s (List.mem_of_getElem? hs)
  have hlen := flat_len128 F hF
  have hcl : F.length * 128 ≤ cur.length := by
    have := congrArg List.length hcur
    rw [List.length_take, hlen] at this
    omega
  have hp1 : (p + 1) * 128 ≤ F.length * 128 := Nat.mul_le_mul_right _ hp
  have hcs : ∀ j, j < 128 → cur[p * 128 + j]? = (by8 s)[j]? := fun j hj => by
    obtain ⟨x, hx⟩ : ∃ x, (by8 s)[j]? = some x := ⟨_, List.getElem?_eq_getElem (by rw [by8_len, hsl]; exact hj)⟩
    have h1 := flat_sec F hF p s hs j x hx
    rw [← hcur, List.getElem?_take_of_lt (by omega)] at h1
    rw [h1, hx]
  have hbl : (by8 (s.set q b)).length = 128 := by rw [by8_len, List.length_set, hsl]
  apply List.ext_getElem?
  intro j
  rw [List.getElem?_set]
  unfold splice
  by_cases h1 : j < p * 128
  · rw [if_neg (by omega), List.getElem?_append_left (by rw [List.length_take]; omega), List.getElem?_take_of_lt h1]
  · have htl : (cur.take (p * 128)).length = p * 128 := by rw [List.length_take]; omega
    rw [List.getElem?_append_right (by omega), htl]
    by_cases h2 : j < p * 128 + 128
    · obtain ⟨i, rfl⟩ : ∃ i, j = p * 128 + i := ⟨j - p * 128, by omega⟩
      rw [show p * 128 + i - p * 128 = i by omega, List.getElem?_append_left (by omega)]
      unfold by8
      rw [List.getElem?_map, List.getElem?_set]
      by_cases hi : q = i
      · subst hi
        rw [if_pos rfl, if_pos (by omega), if_pos rfl, if_pos (by omega)]
        rfl
      · rw [if_neg (by omega), if_neg hi, hcs i (by omega)]
        unfold by8
        rw [List.getElem?_map]
    · rw [if_neg (by omega), List.getElem?_append_right (by omega), hbl, List.getElem?_drop, show p * 128 + 128 + (j - p * 128 - 128) = j by omega]

set_option maxRecDepth 100000 in
set_option maxHeartbeats 2000000 in
theorem rot_ok {w : World} {g : Nat} {T : Nat → Prop} {d : Dk} (h : DkAt w g T d) (p q : Nat) (m : Int) (hm : 0 ≤ m ∧ m < 256) (hp : p < d.F.length) (hq : q < 128) : Calls Try.prog 26 #[.pointer (some ⟨g, 0, none⟩), .int .i64 p, .int .i64 q, .int .u8 m] w (RotPost w g T { d with F := rotF d.F p q m } 0) := by
  have H := Lib.hid h
  obtain ⟨FA, fc, bm, km, Dm, hd, h1, h2, h3⟩ := h
  obtain ⟨fg, hfg⟩ := own_some h1.row h1.pos
  subst hfg
  have c0 : w.cell? ⟨g, 0, none⟩ = some (.slice (some ⟨fg, 0, none⟩) d.F.length fc) := blk_cell h1.box 0
  obtain ⟨s, hs⟩ : ∃ s, d.F[p]? = some s := ⟨_, List.getElem?_eq_getElem hp⟩
  have hsec := h1.secs s (List.mem_of_getElem? hs)
  obtain ⟨v, hv⟩ : ∃ v, s[q]? = some v := ⟨_, List.getElem?_eq_getElem (by rw [hsec.1]; exact hq)⟩
  have hv1 := hsec.2 v (List.mem_of_getElem? hv)
  have cv : w.cell? ⟨fg, p * 128 + q, none⟩ = some (.int .u8 v) := sec_at h1.row (fun s hs => (h1.secs s hs).1) hs q _ (by unfold by8; rw [List.getElem?_map, hv]; rfl)
  obtain ⟨cur, hcur, hcl⟩ := own_cur h1.row
  have fv := blk_frozen hcur (p * 128 + q)
  have hpi : (p : Int) < d.F.length := by omega
  have hqi : (q : Int) < 128 := by omega
  have hb : (decide (0 ≤ (p : Int)) && decide ((p : Int) < d.F.length)) = true := by simp; omega
  have HB := Lib.hid hb
  have hal : Try.prog.arrayLen 106 = 128 := by kernel_rfl
  -- the world behind the store
  have hct : cur.take (d.F.length * 128) = d.F.flatMap by8 := by
    rcases h1.row.2 with ⟨hv, _⟩ | ⟨g2, c2, cur2, hv, _, hh, _, _, _, h4⟩
    · cases hv
    · simp only [Value.slice.injEq, Option.some.injEq, Addr.mk.injEq, and_true, true_and] at hv
      obtain ⟨rfl, rfl⟩ := hv
      have e : cur2 = cur.toArray := by have := hh.symm.trans hcur; simpa using this
      rw [e] at h4
      exact h4
  have hbl : (w.setCell ⟨fg, p * 128 + q, none⟩ (.int .u8 (bend v m))).heap[fg]? = some (.cells (splice cur (p * 128) (by8 (s.set q (bend v m)))).toArray 106 (0, 0)) := by
    rw [← set_splice (fun s hs => (h1.secs s hs).1) hct hs hq, blk_set hcur]
    simp
  have hsl : (s.set q (bend v m)).length = 128 := by rw [List.length_set]; exact hsec.1
  have hrow := own_splice (w' := w.setCell ⟨fg, p * 128 + q, none⟩ (.int .u8 (bend v m))) h1.row rfl (fun s hs => (h1.secs s hs).1) hcur hs (t := s.set q (bend v m)) (by omega) hbl
  rw [List.drop_eq_nil_of_le (by rw [hsl, hsec.1]; omega), List.append_nil] at hrow
  have hFs : Fr (fun k => k = fg) w (w.setCell ⟨fg, p * 128 + q, none⟩ (.int .u8 (bend v m))) := setg_fr (Fr.refl _ w) _ _
  have hin := h1.fixedAt rfl (i := p) (s.set q (bend v m)) ⟨hsl, fun x hx => by
    rcases List.mem_or_eq_of_mem_set hx with hx | rfl
    · exact hsec.2 x hx
    · exact bend_byte v m hv1 hm⟩ hFs hrow
  have hrf : d.F.set p (s.set q (bend v m)) = rotF d.F p q m := by
    unfold rotF
    simp [List.getD, hs, hv]
  have hend : RotPost w g T { d with F := rotF d.F p q m } 0 (.returned (.int .i64 0)) (w.setCell ⟨fg, p * 128 + q, none⟩ (.int .u8 (bend v m))) :=
    ⟨rfl, ⟨_, fc, bm, km, Dm, hd, by rw [← hrf]; exact hin, h2, fun k hk => Nat.lt_of_lt_of_le (h3 k hk) hFs.size⟩, hFs.mono (fun k _ e => by rw [e]; exact h2 fg (.inr (.inr (.inl rfl))))⟩
  have HEND : Hid (RotPost w g T { d with F := rotF d.F p q m } 0 (.returned (.int .i64 0)) ((w.setCell ⟨fg, p * 128 + q, none⟩ (.int .u8 (bits BinOp.xor IntKind.u8 v m))).drew)) :=
    ⟨rfl, hend.2.1.fr0 (Fr.refl _ _).drew, hend.2.2.drew⟩
  clear h1 h2 h3 hs hsec hv hcur hcl hb hct hbl hsl hrow hFs hin hrf hend
  go_enter Try.func26, Try.ntmps26
  go_wp2_with fail
  refine (made_any H.out).mono ?_
  rintro e w1 ⟨rfl, rfl⟩
  go_wp2_with fail
  refine (has_any H.out (p : Int)).mono ?_
  rintro e w1 ⟨rfl, rfl⟩
  rw [HB.out]
  go_upto_region 5 with (fail)
  have c0' : w1.drew.cell? ⟨g, 0, none⟩ = some (.slice (some ⟨fg, 0, none⟩) d.F.length fc) := c0
  have cv' : w1.drew.cell? ⟨fg, p * 128 + q, none⟩ = some (.int .u8 v) := cv
  have fv' : w1.drew.frozen? ⟨fg, p * 128 + q, none⟩ = false := fv
  go_region
  go_wp2
  go_ret
  exact HEND.out
end Go.Proofs.Ytdamegjhdopfaaa
