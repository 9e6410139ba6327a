/- like: are the mails those? Asked where they are. -/
import Derived.Test.YtedmhhllkkgbjaaRef1
namespace Go.Proofs.Ytedmhhllkkgbjaa
open Go.RowKit

def LikeInv (w : World) (b : Nat) (v u : Value) (B : Nat) (l : List Mail) (wr : World) : Prop := NetAt wr b v l ∧ RowOf wr B u l ∧ Fr (fun _ => False) w wr
theorem RowOf.fr {w w' : World} {B : Nat} {u : Value} {l : List Mail} {S : Nat → Prop} (h : RowOf w B u l) (hF : Fr S w w') (hn : ∀ k, u.ownBlock = some k → ¬ S k) : RowOf w' B u l := ⟨hF.own h.1 hn, h.2⟩

def LikePost (w : World) (e : Ending) (w' : World) : Prop := e = .returned (.bool true) ∧ Fr (fun _ => False) w w'

set_option maxRecDepth 100000 in
set_option maxHeartbeats 2000000 in
theorem like_yes {w : World} {b B : Nat} {v : Value} {A : Option Addr} {c : Nat} {l : List Mail} (h : NetAt w b v l) (hr : RowOf w B (.slice A l.length c) l) (hl : l.length < 1000000) :
    Calls Try.prog 26 #[.pointer (some ⟨b, 0, none⟩), .slice A l.length c] w (LikePost w) := by
  go_enter Try.func26, Try.ntmps26
  go_wp2_with fail
  refine (len_any h).mono ?_
  rintro e w' ⟨rfl, rfl⟩
  have I0 : LikeInv w b v (.slice A l.length c) B l w := ⟨h, hr, Fr.refl _ _⟩
  have hne : ((l.length : Int) != (l.length : Int)) = false := by simp
  go_wp2_with fail
  go_loopw [5] (fun s wr => ∃ k : Nat, k ≤ l.length ∧ s = .int .i64 k ∧ LikeInv w b v (.slice A l.length c) B l wr) (fun s _ => l.length - (intOf s).toNat)
  case atStart => exact ⟨0, by omega, rfl, I0⟩
  case round =>
    obtain ⟨k, hk, rfl, H, R, hF⟩ := hrel
    have HF := Lib.hid hF
    clear hF I0 h hr
    by_cases hlt : k < l.length
    · obtain ⟨m, hm⟩ : ∃ m, l[k]? = some m := ⟨_, List.getElem?_eq_getElem hlt⟩
      have Hm := Lib.hid hm
      clear hm
      go_wp2_with fail
      refine (at_yes H k m Hm.out).mono ?_
      rintro e w2 ⟨rfl, hF2⟩
      have H2 := H.kept hF2 (fun _ _ x => x)
      have R2 := R.fr hF2 (fun _ _ x => x)
      have HF2 := Lib.hid hF2
      clear hF2 H R
      unfold Mail.val
      go_wp2_with fail
      obtain ⟨w3, he, hn, hF3, hsz⟩ := alloc1 w2 (.cells #[.int .i64 m.fr, .int .i64 m.rc, .string m.text] 29)
      rw [he]
      have H3 := H2.kept hF3 (fun _ _ x => x)
      have R3 := R2.fr hF3 (fun _ _ x => x)
      have HF3 := Lib.hid hF3
      clear he hsz hF3 H2 R2
      generalize w2.heap.size = g at hn ⊢
      have hc0 : w3.cell? ⟨g, 0, none⟩ = some (.int .i64 m.fr) := blk_cell hn 0
      have hc1 : w3.cell? ⟨g, 1, none⟩ = some (.int .i64 m.rc) := blk_cell hn 1
      have hc2 : w3.cell? ⟨g, 2, none⟩ = some (.string m.text) := blk_cell hn 2
      obtain ⟨g4, c4, hv, _, _, hcell⟩ := own_row R3.1 (by omega)
      simp only [Value.slice.injEq, true_and] at hv
      obtain ⟨rfl, rfl⟩ := hv
      obtain ⟨k0, k1, k2⟩ := mcells_at l k m Hm.out
      have d0 := hcell _ _ k0
      have d1 := hcell _ _ k1
      have d2 := hcell _ _ k2
      clear hcell k0 k1 k2
      have hki : (k : Int) < l.length := by omega
      go_quiet (fail)
      go_wp2
      go_roundw
      case rel => exact ⟨k + 1, by omega, by go_num, ⟨H3.blk, H3.own⟩, R3, (((HF.out.trans HF2.out (fun _ _ x => x)).trans HF3.out (fun _ _ x => x)).drewN nq)⟩
      case measure => simp [intOf]; omega
    · go_wp2
      go_ret
      exact ⟨rfl, HF.out⟩
end Go.Proofs.Ytedmhhllkkgbjaa
