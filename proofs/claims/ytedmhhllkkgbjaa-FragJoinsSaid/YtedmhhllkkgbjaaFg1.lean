/- frag.walk: which fragments it tells of, whatever function it tells. -/
import Derived.Test.YtedmhhllkkgbjaaFr
namespace Go.Proofs.Ytedmhhllkkgbjaa
open Go.RowKit

/-- a fragment: of which record, from where on, how many bytes, of what kind, and whether a payload begins with it -/
structure Ev where
  rc : Nat
  at_ : Nat
  n : Nat
  kind : Int
  fresh : Bool

def kindOf (b e : Bool) : Int := if b && e then 1 else if b then 2 else if e then 4 else 3

def frags (i size : Nat) : Nat → Nat → Nat → List Ev × Nat
  | 0, _, left => ([], left)
  | f + 1, at_, left =>
    let l1 := if left < 3 then 108 else left
    let n := min (l1 - 2) (size - at_)
    let e : Ev := ⟨i, at_, n, kindOf (at_ == 0) (at_ + n == size), decide (left < 3)⟩
    if at_ + n = size then ([e], l1 - (2 + n)) else (e :: (frags i size f (at_ + n) (l1 - (2 + n))).1, (frags i size f (at_ + n) (l1 - (2 + n))).2)

def plan : Nat → List Nat → Nat → List Ev
  | _, [], _ => []
  | i, s :: ss, left => (frags i s (s + 1) 0 left).1 ++ plan (i + 1) ss (frags i s (s + 1) 0 left).2

/-- one fragment, from some place of a record on -/
def nextEv (i size at_ left : Nat) : Ev :=
  ⟨i, at_, min ((if left < 3 then 108 else left) - 2) (size - at_), kindOf (at_ == 0) (at_ + min ((if left < 3 then 108 else left) - 2) (size - at_) == size), decide (left < 3)⟩
def nextLeft (size at_ left : Nat) : Nat := (if left < 3 then 108 else left) - (2 + min ((if left < 3 then 108 else left) - 2) (size - at_))

theorem frags_end (i size f at_ left : Nat) (h : at_ + (nextEv i size at_ left).n = size) : frags i size (f + 1) at_ left = ([nextEv i size at_ left], nextLeft size at_ left) := by
  have h' : at_ + min ((if left < 3 then 108 else left) - 2) (size - at_) = size := h
  simp only [frags]
  rw [if_pos h']
  rfl
theorem frags_more (i size f at_ left : Nat) (h : at_ + (nextEv i size at_ left).n ≠ size) : frags i size (f + 1) at_ left = (nextEv i size at_ left :: (frags i size f (at_ + (nextEv i size at_ left).n) (nextLeft size at_ left)).1, (frags i size f (at_ + (nextEv i size at_ left).n) (nextLeft size at_ left)).2) := by
  have h' : ¬ at_ + min ((if left < 3 then 108 else left) - 2) (size - at_) = size := h
  simp only [frags]
  rw [if_neg h']
  rfl
theorem next_n_pos (i size at_ left : Nat) (h : at_ < size) : 1 ≤ (nextEv i size at_ left).n := by
  show 1 ≤ min ((if left < 3 then 108 else left) - 2) (size - at_)
  split <;> omega
theorem next_n_le (i size at_ left : Nat) (h : at_ ≤ size) : at_ + (nextEv i size at_ left).n ≤ size := by
  show at_ + min ((if left < 3 then 108 else left) - 2) (size - at_) ≤ size
  omega

def freshN (l : List Ev) : Nat := (l.filter (·.fresh)).length
theorem freshN_nil : freshN [] = 0 := rfl
theorem freshN_le (l : List Ev) : freshN l ≤ l.length := List.length_filter_le _ _
theorem freshN_snoc (l : List Ev) (e : Ev) : freshN (l ++ [e]) = freshN l + (if e.fresh then 1 else 0) := by
  unfold freshN
  rw [List.filter_append, List.length_append]
  cases h : e.fresh <;> simp [h]

/-- what a callee is told -/
def Ev.args (e : Ev) : Array Value := #[.int .i64 e.rc, .int .i64 e.at_, .int .i64 e.n, .int .u8 e.kind, .bool e.fresh]

structure Tells (F : FuncId) (cap : Array Value) (total : List Ev) (Inv : List Ev → World → Prop) : Prop where
  eg : ∀ args w, (callFunc F args).run Try.prog w = .ok (.enter F args) w
  call : ∀ done e rest w, done ++ e :: rest = total → Inv done w → Calls Try.prog F (e.args ++ cap) w fun r w' => r = .returned (.tuple #[]) ∧ Inv (done ++ [e]) w'

def WalkPost (total : List Ev) (Inv : List Ev → World → Prop) (e : Ending) (w' : World) : Prop := e = .returned (.int .i64 (freshN total : Int)) ∧ Inv total w'

set_option maxRecDepth 100000 in
set_option maxHeartbeats 2000000 in
theorem walk_any {F : FuncId} {cap : Array Value} {Inv : List Ev → World → Prop} {sizes : List Nat} (T : Tells F cap (plan 0 sizes 0) Inv) (A : Option Addr) (c : Nat) (w : World) (hI : Inv [] w) (hlen : (plan 0 sizes 0).length < 4611686018427387904) (hsz : sizes.length < 4611686018427387904) (hss : ∀ s ∈ sizes, s ≤ 1000000)
    (hread : ∀ done w, Inv done w → ∀ (i s : Nat), sizes[i]? = some s → ∃ g o, A = some ⟨g, o, none⟩ ∧ w.cell? ⟨g, o + i, none⟩ = some (.int .i64 (s : Int))) :
    Calls Try.prog 54 #[.slice A sizes.length c, .func (.func F) #[] cap] w (WalkPost (plan 0 sizes 0) Inv) := by
  have eg := T.eg
  have HR := Lib.hid hread
  have HS := Lib.hid hss
  clear hread hss
  go_enter Try.func54, Try.ntmps54
  go_wp2_with fail
  go_loopw [5, 6, 17] (fun p l k wr => ∃ (i left : Nat) (done : List Ev), i ≤ sizes.length ∧ left ≤ 108 ∧ k = .int .i64 i ∧ l = .int .i64 left ∧ p = .int .i64 (freshN done : Int) ∧ Hid (done ++ plan i (sizes.drop i) left = plan 0 sizes 0) ∧ Inv done wr) (fun _ _ k _ => sizes.length - (intOf k).toNat)
  case atStart => exact ⟨0, 0, [], by omega, by omega, rfl, rfl, rfl, rfl, hI⟩
  case round =>
    obtain ⟨i, left, done, hi, hle, rfl, rfl, rfl, hd, hI2⟩ := hrel
    clear hI
    by_cases hlt : i < sizes.length
    · obtain ⟨s, hs⟩ : ∃ s, sizes[i]? = some s := ⟨_, List.getElem?_eq_getElem hlt⟩
      obtain ⟨g, o, rfl, hcell⟩ := HR.out _ _ hI2 i s hs
      have hs1 := HS.out s (List.mem_of_getElem? hs)
      have Hs := Lib.hid hs
      clear hs
      have hii : (i : Int) < sizes.length := by omega
      go_wp2_with fail
      obtain ⟨wo, rfl⟩ : ∃ wo : World, wo = wr := ⟨_, rfl⟩
      go_loopw [5, 6, 9] (fun p l a wr => ∃ (at_ left2 f : Nat) (done2 : List Ev), (at_ = 0 ∨ at_ < s) ∧ s - at_ < f ∧ left2 ≤ 108 ∧ a = .int .i64 at_ ∧ l = .int .i64 left2 ∧ p = .int .i64 (freshN done2 : Int) ∧ Hid (done2 ++ (frags i s f at_ left2).1 ++ plan (i + 1) (sizes.drop (i + 1)) (frags i s f at_ left2).2 = plan 0 sizes 0) ∧ Inv done2 wr) (fun _ _ a _ => s + 1 - (intOf a).toNat)
      case atStart => 
        refine ⟨0, left, s + 1, done, Or.inl rfl, by omega, hle, rfl, rfl, rfl, ?_, hI2⟩
        have := hd.out
        have hdr : sizes.drop i = s :: sizes.drop (i + 1) := by
          rw [List.drop_eq_getElem_cons hlt]
          congr 1
          exact Option.some.inj ((List.getElem?_eq_getElem hlt).symm.trans Hs.out)
        rw [hdr, plan, ← List.append_assoc] at this
        exact Lib.hid this
      case round => 
        clear hcell hI2 hd
        obtain ⟨at_, left2, f, done2, hat, hf, hl2, rfl, rfl, rfl, hd2, hI3⟩ := hrel
        have hfn : freshN done2 < 4611686018427387904 := by
          have h1 := congrArg List.length hd2.out
          have h2 := freshN_le done2
          simp only [List.length_append] at h1
          omega
        go_upto_if 24 with (fail)
        go_cut [5, 6] (fun p l wc => wc = wr ∧ ∃ l1 pn : Nat, Hid (l1 = if left2 < 3 then 108 else left2) ∧ Hid (pn = freshN done2 + if left2 < 3 then 1 else 0) ∧ 3 ≤ l1 ∧ l1 ≤ 108 ∧ p = .int .i64 (pn : Int) ∧ l = .int .i64 (l1 : Int))
        case first =>
          rcases Nat.lt_or_ge left2 3 with h3 | h3
          · have hlt3 : (left2 : Int) < 3 := by omega
            go_wp2
            go_meet
            case rel => exact ⟨rfl, 108, freshN done2 + 1, by simp [h3, Hid], by simp [h3, Hid], by omega, by omega, by go_num, rfl⟩
          · have hlt3 : ¬ (left2 : Int) < 3 := by omega
            go_wp2
            go_meet
            case rel => exact ⟨rfl, left2, freshN done2, by rw [if_neg (by omega)]; rfl, by rw [if_neg (by omega)]; rfl, by omega, by omega, rfl, rfl⟩
        case rest => 
          obtain ⟨rfl, l1, pn, hl1, hpn, h3, h108, rfl, rfl⟩ := hcut
          have hdd : decide ((left2 : Int) < 3) = decide (left2 < 3) := by rw [Bool.eq_iff_iff]; simp; omega
          rw [hdd]
          clear hdd
          obtain ⟨fr, hfr⟩ : ∃ fr : Bool, fr = decide (left2 < 3) := ⟨_, rfl⟩
          rw [← hfr]
          have hnn : (if (s : Int) - at_ < (l1 : Int) - 2 then (s : Int) - at_ else (l1 : Int) - 2) = ((min (l1 - 2) (s - at_) : Nat) : Int) := by
            split <;> omega
          have hns : at_ + min (l1 - 2) (s - at_) ≤ s := by omega
          have hn1 : min (l1 - 2) (s - at_) + 2 ≤ l1 := by omega
          have hn0 : at_ < s → 1 ≤ min (l1 - 2) (s - at_) := by omega
          go_upto_region 10 with (fail)
          clear hnn
          have hnx : nextEv i s at_ left2 = ⟨i, at_, min (l1 - 2) (s - at_), kindOf (at_ == 0) (at_ + min (l1 - 2) (s - at_) == s), decide (left2 < 3)⟩ := by rw [hl1.out]; rfl
          have hnl : nextLeft s at_ left2 = l1 - (2 + min (l1 - 2) (s - at_)) := by rw [hl1.out]; rfl
          have HX := Lib.hid hnx
          have HL := Lib.hid hnl
          clear hnx hnl hl1
          generalize min (l1 - 2) (s - at_) = n at HX HL hns hn1 hn0 ⊢
          have hb1 : ((at_ : Int) == 0) = (at_ == 0) := by rw [Bool.eq_iff_iff]; simp
          have he1 : (((at_ : Int) + (n : Int)) == (s : Int)) = (at_ + n == s) := by rw [Bool.eq_iff_iff]; simp; omega
          go_upto_block 4 with (fail)
          clear hb1 he1
          obtain ⟨bg, hbg⟩ : ∃ bg : Bool, bg = (at_ == 0) := ⟨_, rfl⟩
          obtain ⟨en, hen⟩ : ∃ en : Bool, en = (at_ + n == s) := ⟨_, rfl⟩
          rw [← hbg, ← hen]
          go_cut [12] (fun k wd => wd = wc ∧ k = .int .u8 (kindOf bg en))
          case first =>
            clear hbg hen HX HL hn0 hns hn1 hfr hfn hat
            rcases bg with _ | _ <;> rcases en with _ | _
            all_goals
              go_wp2
              go_meet
              case rel => exact ⟨rfl, rfl⟩
          case rest => 
            obtain ⟨rfl, rfl⟩ := hcut
            have hnx' : nextEv i s at_ left2 = ⟨i, at_, n, kindOf bg en, fr⟩ := by rw [HX.out, hbg, hen, hfr]
            clear HX
            have HB := Lib.hid hbg
            have HE := Lib.hid hen
            have HF := Lib.hid hfr
            clear hbg hen hfr
            have hsn : pn = freshN (done2 ++ [nextEv i s at_ left2]) := by
              rw [freshN_snoc, hpn.out, hnx']
              show _ = freshN done2 + if fr = true then 1 else 0
              rw [HF.out]
              simp
            have HSN := Lib.hid hsn
            have HNX := Lib.hid hnx'
            clear hsn hnx'
            have hargs : (nextEv i s at_ left2).args = #[.int .i64 i, .int .i64 at_, .int .i64 n, .int .u8 (kindOf bg en), .bool fr] := by rw [HNX.out]; rfl
            have hnn : (nextEv i s at_ left2).n = n := by rw [HNX.out]
            have HNN := Lib.hid hnn
            clear hnn
            obtain ⟨f', rfl⟩ : ∃ f', f = f' + 1 := ⟨f - 1, by omega⟩
            have HA := Lib.hid hargs
            clear hargs
            by_cases hE : at_ + n = s
            · have hen1 : en = true := by rw [HE.out, hE]; simp
              have hd3 := hd2.out
              rw [frags_end i s f' at_ left2 (by rw [HNN.out]; exact hE)] at hd3
              have hcall := T.call done2 (nextEv i s at_ left2) (plan (i + 1) (sizes.drop (i + 1)) (nextLeft s at_ left2)) wc (by simpa using hd3) hI3
              rw [HA.out] at hcall
              subst hen1
              have HD3 := Lib.hid hd3
              have HC := Lib.hid hcall
              clear hd3 hcall hd2 HB HE HF
              go_wp2_with fail
              refine HC.out.mono ?_
              rintro e w' ⟨rfl, hI4⟩
              clear hI3
              go_wp2
              go_roundw
              case rel => exact ⟨i + 1, nextLeft s at_ left2, done2 ++ [nextEv i s at_ left2], by omega, by rw [HL.out]; omega, by go_num, by rw [HL.out]; go_num, by rw [← HSN.out], HD3, hI4⟩
              case measure => simp [intOf]; omega
            · have hen1 : en = false := by rw [HE.out]; simpa using hE
              have hd3 := hd2.out
              rw [frags_more i s f' at_ left2 (by rw [HNN.out]; exact hE)] at hd3
              simp only [List.append_assoc, List.cons_append] at hd3
              have hcall := T.call done2 (nextEv i s at_ left2) _ wc hd3 hI3
              rw [HNN.out] at hd3
              rw [HA.out] at hcall
              subst hen1
              have HD3 := Lib.hid hd3
              have HC := Lib.hid hcall
              clear hd3 hcall hd2 HB HE HF
              have hat2 : at_ < s := by omega
              have hn1' := hn0 hat2
              go_wp2_with fail
              refine HC.out.mono ?_
              rintro e w' ⟨rfl, hI4⟩
              clear hI3
              go_wp2
              go_roundw
              case rel => exact ⟨at_ + n, nextLeft s at_ left2, f', done2 ++ [nextEv i s at_ left2], by omega, by omega, by rw [HL.out]; omega, by go_num, by rw [HL.out]; go_num, by rw [← HSN.out], by have := HD3.out; simpa only [Hid, List.append_assoc, List.cons_append, List.nil_append] using this, hI4⟩
              case measure => simp [intOf]; omega
    · have hie : i = sizes.length := by omega
      subst hie
      have hd3 := hd.out
      rw [List.drop_length, plan, List.append_nil] at hd3
      subst hd3
      clear hd
      go_wp2
      go_ret
      exact ⟨rfl, hI2⟩

end Go.Proofs.Ytedmhhllkkgbjaa
