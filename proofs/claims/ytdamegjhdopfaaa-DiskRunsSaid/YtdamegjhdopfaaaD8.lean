/- A disk: Fuse; a disk that nobody made. -/
import Derived.Test.YtdamegjhdopfaaaD7
namespace Go.Proofs.Ytdamegjhdopfaaa
open Go.RowKit Go.WideShapes
set_option linter.unusedSimpArgs false

def Dk.fuseE (d : Dk) (n : Int) : Int := if d.down then 30 else if n < 0 ∨ 1048576 < n then 5 else 0
def Dk.setFuse (d : Dk) (n : Int) : Dk := if d.fuseE n = 0 then { d with fuse := n, down := decide (n = 0) } else d
def FusePost (w : World) (g : Nat) (T : Nat → Prop) (d' : Dk) (r : Int) (e : Ending) (w' : World) : Prop :=
  e = .returned (.int .i64 r) ∧ DkAt w' g T d' ∧ Fr (fun k => k = g) w w'
set_option maxRecDepth 100000 in
set_option maxHeartbeats 1000000 in
theorem fuse_any {w : World} {g : Nat} {T : Nat → Prop} {d : Dk} (h : DkAt w g T d) (n : Int) : Calls Try.prog 29 #[.pointer (some ⟨g, 0, none⟩), .int .i64 n] w (FusePost w g T (d.setFuse n) (d.fuseE n)) := by
  have H := Lib.hid h
  have hsame : ∀ r : Int, d.fuseE n = r → r ≠ 0 → FusePost w g T (d.setFuse n) (d.fuseE n) (.returned (.int .i64 r)) w := fun r h1 h2 => by
    unfold Dk.setFuse
    rw [h1, if_neg h2]
    exact ⟨rfl, h, Fr.refl _ _⟩
  have HSAME := Lib.hid hsame
  clear h hsame
  go_enter Try.func29, Try.ntmps29
  go_wp2_with fail
  refine (up_any H.out).mono ?_
  rintro e w1 ⟨rfl, rfl⟩
  cases hdn : d.down with
  | true =>
    have hup : d.up = 30 := by simp [Dk.up, hdn]
    have HE := Lib.hid (HSAME.out 30 (by simp [Dk.fuseE, hdn]) (by omega))
    rw [hup]
    clear hdn hup
    go_wp2_with fail
    go_ret
    exact HE.out
  | false =>
    have hup : d.up = 0 := by simp [Dk.up, hdn]
    rw [hup]
    have HDN := Lib.hid hdn
    clear hup hdn
    by_cases h1 : n < 0
    · have HE := Lib.hid (HSAME.out 5 (by unfold Dk.fuseE; rw [HDN.out, if_neg (by simp), if_pos (.inl h1)]) (by omega))
      go_wp2_with fail
      go_ret
      exact HE.out
    · by_cases h2 : 1048576 < n
      · have HE := Lib.hid (HSAME.out 5 (by unfold Dk.fuseE; rw [HDN.out, if_neg (by simp), if_pos (.inr h2)]) (by omega))
        go_wp2_with fail
        go_ret
        exact HE.out
      · have hre : d.fuseE n = 0 := by unfold Dk.fuseE; rw [HDN.out, if_neg (by simp), if_neg (by omega)]
        have hrw : d.setFuse n = { d with fuse := n, down := decide (n = 0) } := by unfold Dk.setFuse; rw [if_pos hre]
        have HRE := Lib.hid hre
        have HRW := Lib.hid hrw
        obtain ⟨FA, fc, bm, km, Dm, hd, q1, q2, q3⟩ := H.out
        have c3 : w1.cell? ⟨g, 3, none⟩ = some (.int .i64 d.fuse) := blk_cell q1.box 3
        have c4 : w1.cell? ⟨g, 4, none⟩ = some (.bool d.down) := blk_cell q1.box 4
        have f3 := blk_frozen q1.box 3
        have f4 := blk_frozen q1.box 4
        have hF : Fr (fun k => k = g) w1 ((w1.setCell ⟨g, 3, none⟩ (.int .i64 n)).setCell ⟨g, 4, none⟩ (.bool (n == 0))) := setg_fr (setg_fr (Fr.refl _ w1) 3 _) 4 _
        have hb : (n == 0) = decide (n = 0) := by by_cases e : n = 0 <;> simp [e]
        have hin := q1.boxed hF d.done n (n == 0) (by simpa using blk_set (blk_set q1.box 3 (.int .i64 n)) 4 (.bool (n == 0))) q1.dones (by omega)
        have hend : FusePost w1 g T (d.setFuse n) (d.fuseE n) (.returned (.int .i64 0)) ((w1.setCell ⟨g, 3, none⟩ (.int .i64 n)).setCell ⟨g, 4, none⟩ (.bool (n == 0))) := by
          rw [HRE.out, HRW.out, ← hb]
          exact ⟨rfl, ⟨FA, fc, bm, km, Dm, hd, hin, q2, fun k hk => Nat.lt_of_lt_of_le (q3 k hk) hF.size⟩, hF⟩
        have HEND := Lib.hid hend
        clear hre hrw q1 q2 q3 hF hb hin hend HSAME
        go_wp2_with fail
        go_ret
        exact HEND.out

/-- nobody made it -/
def NoDk (w : World) (p : Value) : Prop := p = .pointer none ∨ ∃ g, p = .pointer (some ⟨g, 0, none⟩) ∧ w.cell? ⟨g, 0, none⟩ = some (.slice none 0 0)
theorem made_no {w : World} {p : Value} (h : NoDk w p) : Calls Try.prog 57 #[p] w (fun e w' => e = .returned (.bool false) ∧ w' = w) := by
  rcases h with rfl | ⟨g, rfl, hc⟩
  · exact made_nil w
  · go_enter Try.func57, Try.ntmps57
    go_wp2
    go_ret
    exact ⟨rfl, rfl⟩
theorem up_no {w : World} {p : Value} (h : NoDk w p) : Calls Try.prog 51 #[p] w (fun e w' => e = .returned (.int .i64 4) ∧ w' = w) := by
  have H := Lib.hid h
  clear h
  go_enter Try.func51, Try.ntmps51
  go_wp2_with fail
  refine (made_no H.out).mono ?_
  rintro e w1 ⟨rfl, rfl⟩
  go_wp2_with fail
  go_ret
  exact ⟨rfl, rfl⟩
theorem size_no {w : World} {p : Value} (h : NoDk w p) : Calls Try.prog 34 #[p] w (fun e w' => e = .returned (.int .i64 0) ∧ w' = w) := by
  have H := Lib.hid h
  clear h
  go_enter Try.func34, Try.ntmps34
  go_wp2_with fail
  refine (made_no H.out).mono ?_
  rintro e w1 ⟨rfl, rfl⟩
  go_wp2_with fail
  go_ret
  exact ⟨rfl, rfl⟩
theorem done_no {w : World} {p : Value} (h : NoDk w p) : Calls Try.prog 31 #[p] w (fun e w' => e = .returned (.int .i64 0) ∧ w' = w) := by
  have H := Lib.hid h
  clear h
  go_enter Try.func31, Try.ntmps31
  go_wp2_with fail
  refine (made_no H.out).mono ?_
  rintro e w1 ⟨rfl, rfl⟩
  go_wp2_with fail
  go_ret
  exact ⟨rfl, rfl⟩
theorem down_no {w : World} {p : Value} (h : NoDk w p) : Calls Try.prog 30 #[p] w (fun e w' => e = .returned (.bool false) ∧ w' = w) := by
  have H := Lib.hid h
  clear h
  go_enter Try.func30, Try.ntmps30
  go_wp2_with fail
  refine (made_no H.out).mono ?_
  rintro e w1 ⟨rfl, rfl⟩
  go_wp2_with fail
  go_ret
  exact ⟨rfl, rfl⟩
theorem read_no {w : World} {p : Value} (h : NoDk w p) (i : Int) : Calls Try.prog 24 #[p, .int .i64 i] w (fun e w' => e = .returned (.tuple #[.slice none 0 0, .int .i64 4]) ∧ w' = w) := by
  have H := Lib.hid h
  clear h
  go_enter Try.func24, Try.ntmps24
  go_wp2_with fail
  refine (up_no H.out).mono ?_
  rintro e w1 ⟨rfl, rfl⟩
  go_wp2_with fail
  go_ret2
  exact ⟨rfl, rfl⟩
theorem write_no {w : World} {p : Value} (h : NoDk w p) (i : Int) (b : Value) : Calls Try.prog 18 #[p, .int .i64 i, b] w (fun e w' => e = .returned (.int .i64 4) ∧ w' = w) := by
  have H := Lib.hid h
  clear h
  go_enter Try.func18, Try.ntmps18
  go_wp2_with fail
  refine (up_no H.out).mono ?_
  rintro e w1 ⟨rfl, rfl⟩
  go_wp2_with fail
  go_ret
  exact ⟨rfl, rfl⟩
theorem flush_no {w : World} {p : Value} (h : NoDk w p) : Calls Try.prog 28 #[p] w (fun e w' => e = .returned (.int .i64 4) ∧ w' = w) := by
  have H := Lib.hid h
  clear h
  go_enter Try.func28, Try.ntmps28
  go_wp2_with fail
  refine (up_no H.out).mono ?_
  rintro e w1 ⟨rfl, rfl⟩
  go_wp2_with fail
  go_ret
  exact ⟨rfl, rfl⟩
theorem fuse_no {w : World} {p : Value} (h : NoDk w p) (n : Int) : Calls Try.prog 29 #[p, .int .i64 n] w (fun e w' => e = .returned (.int .i64 4) ∧ w' = w) := by
  have H := Lib.hid h
  clear h
  go_enter Try.func29, Try.ntmps29
  go_wp2_with fail
  refine (up_no H.out).mono ?_
  rintro e w1 ⟨rfl, rfl⟩
  go_wp2_with fail
  go_ret
  exact ⟨rfl, rfl⟩
theorem rot_no {w : World} {p : Value} (h : NoDk w p) (i j : Int) (m : Int) : Calls Try.prog 26 #[p, .int .i64 i, .int .i64 j, .int .u8 m] w (fun e w' => e = .returned (.int .i64 4) ∧ w' = w) := by
  have H := Lib.hid h
  clear h
  go_enter Try.func26, Try.ntmps26
  go_wp2_with fail
  refine (made_no H.out).mono ?_
  rintro e w1 ⟨rfl, rfl⟩
  go_wp2_with fail
  go_ret
  exact ⟨rfl, rfl⟩
theorem loose_no {w : World} {p : Value} (h : NoDk w p) : Calls Try.prog 27 #[p] w (fun e w' => e = .returned (.slice none 0 0) ∧ w' = w) := by
  have H := Lib.hid h
  clear h
  go_enter Try.func27, Try.ntmps27
  go_wp2_with fail
  refine (made_no H.out).mono ?_
  rintro e w1 ⟨rfl, rfl⟩
  go_wp2_with fail
  go_ret
  exact ⟨rfl, rfl⟩
theorem crash_no {w : World} {p : Value} (h : NoDk w p) (A : Option Addr) (n c : Nat) : Calls Try.prog 23 #[p, .slice A n c] w (fun e w' => e = .returned (.tuple #[.pointer none, .int .i64 4]) ∧ w' = w) := by
  have H := Lib.hid h
  clear h
  go_enter Try.func23, Try.ntmps23
  go_wp2_with fail
  refine (made_no H.out).mono ?_
  rintro e w1 ⟨rfl, rfl⟩
  go_wp2_with fail
  go_ret2
  exact ⟨rfl, rfl⟩
end Go.Proofs.Ytdamegjhdopfaaa
