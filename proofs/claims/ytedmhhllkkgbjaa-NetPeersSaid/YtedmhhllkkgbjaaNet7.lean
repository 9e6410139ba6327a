/- NewPeer at 1, awake. -/
import Derived.Test.YtedmhhllkkgbjaaNet6
namespace Go.Proofs.Ytedmhhllkkgbjaa
open Go.RowKit

theorem send_raw {w : World} {b : Nat} {v : Value} {l : List Mail} (h : NetAt w b v l) (f r : Int) (t : ByteArray) :
    Calls Try.prog 16 #[.pointer (some ⟨b, 0, none⟩), .agg #[.int .i64 f, .int .i64 r, .string t]] w (SendPost w b v l ⟨f, r, t⟩) := send_any h ⟨f, r, t⟩

def SendOk (w : World) (b : Nat) (v : Value) (l' : List Mail) (e : Ending) (w' : World) : Prop :=
  e = .returned (.int .i64 0) ∧ ∃ v', NetAt w' b v' l' ∧ Fr (Foot b v) w w' ∧ Moved w v v'
theorem send_ok {w : World} {b : Nat} {v : Value} {l : List Mail} (h : NetAt w b v l) (f r : Int) (t : ByteArray) (hb : badMail ⟨f, r, t⟩ = false) (hl : l.length < 256) :
    Calls Try.prog 16 #[.pointer (some ⟨b, 0, none⟩), .agg #[.int .i64 f, .int .i64 r, .string t]] w (SendOk w b v (l ++ [⟨f, r, t⟩])) :=
  (send_raw h f r t).mono fun e w' hh => by
    have hl' : ¬ 256 ≤ l.length := by omega
    simp only [SendPost, NetPost, sendE, sendL, hb, hl', if_false, Bool.false_eq_true] at hh
    exact hh

theorem newPeer_one (w : World) : Calls Try.prog 37 #[.int .i64 1] w fun e w' => ∃ g, e = .returned (.tuple #[.pointer (some ⟨g, 0, none⟩), .int .i64 0]) ∧ Fr (fun _ => False) w w' := by
  have hmm := @run_makeMap Try.prog
  go_enter Try.func37, Try.ntmps37
  go_wp2
  go_ret2
  exact ⟨_, rfl, (((Fr.refl _ w).alloc _).alloc _).alloc _⟩

theorem step_fresh {w0 w w' : World} {b : Nat} {v v' : Value} (h0 : Fr (fun _ => False) w0 w) (hb : w0.heap.size ≤ b) (hv : ∀ k, v.ownBlock = some k → w0.heap.size ≤ k) (hF : Fr (Foot b v) w w') (hm : Moved w v v') :
    Fr (fun _ => False) w0 w' ∧ ∀ k, v'.ownBlock = some k → w0.heap.size ≤ k := by
  refine ⟨h0.trans hF (fun k hk h => ?_), fun k hk => ?_⟩
  · rcases h with rfl | h
    · omega
    · have := hv k h.symm; omega
  · rcases hm with hm | ⟨g, hg, hs⟩
    · exact hv k (hm ▸ hk)
    · rw [hg, Option.some.injEq] at hk
      have := h0.size
      omega

def AwakePost (w : World) (e : Ending) (w' : World) : Prop := e = .returned (.bool true) ∧ Fr (fun _ => False) w w'

theorem badA : badMail ⟨0, 1, ⟨#[97]⟩⟩ = false := by decide
theorem badB : badMail ⟨0, 1, ⟨#[98]⟩⟩ = false := by decide

set_option maxRecDepth 100000 in
set_option maxHeartbeats 1000000 in
theorem awake_net (w : World) : Calls Try.prog 15 #[] w (AwakePost w) := by
  go_enter Try.func15, Try.ntmps15
  go_wp2_with fail
  refine (net_New w).mono ?_
  rintro e w1 ⟨rfl, rfl⟩
  obtain ⟨w1, he, hn1, hF1, hz1⟩ := alloc1 w (.cells #[.slice none 0 0, .bool true] 96)
  rw [he]
  have H1 : NetAt w1 w.heap.size (.slice none 0 0) [] := ⟨hn1, World.ownsRow_nil _ _ _ _⟩
  have HF1 := Lib.hid hF1
  clear he hn1 hF1 hz1
  generalize hb : w.heap.size = b at H1 ⊢
  have HB := Lib.hid hb
  clear hb
  go_wp2_with fail
  refine (send_ok H1 0 1 ⟨#[97]⟩ badA (by decide)).mono ?_
  rintro e w2 ⟨rfl, v2, H2, hF2, hm2⟩
  have HF2 := Lib.hid hF2
  have HM2 := Lib.hid hm2
  clear hF2 hm2
  go_wp2_with fail
  refine (send_ok H2 0 1 ⟨#[98]⟩ badB (by decide)).mono ?_
  rintro e w3 ⟨rfl, v3, H3, hF3, hm3⟩
  have HF3 := Lib.hid hF3
  have HM3 := Lib.hid hm3
  clear hF3 hm3
  go_wp2_with fail
  refine (twin_any H3 0).mono ?_
  rintro e w4 ⟨rfl, v4, H4, hF4, hm4⟩
  have HF4 := Lib.hid hF4
  have HM4 := Lib.hid hm4
  clear hF4 hm4
  have t4 : twinE ([] ++ [⟨0, 1, ⟨#[97]⟩⟩] ++ [⟨0, 1, ⟨#[98]⟩⟩]) 0 = 0 := by decide
  rw [t4]
  go_wp2_with fail
  refine (take_any H4 0 (by decide)).mono ?_
  rintro e w5 ⟨rfl, v5, H5, hF5, hm5⟩
  have HF5 := Lib.hid hF5
  have HM5 := Lib.hid hm5
  clear hF5 hm5 t4
  have t5 : (takeM (twinL ([] ++ [⟨0, 1, ⟨#[97]⟩⟩] ++ [⟨0, 1, ⟨#[98]⟩⟩]) 0) 0) = ⟨0, 1, ⟨#[97]⟩⟩ := by rfl
  have t6 : (takeE (twinL ([] ++ [⟨0, 1, ⟨#[97]⟩⟩] ++ [⟨0, 1, ⟨#[98]⟩⟩]) 0) 0) = 0 := by rfl
  rw [t5, t6]
  unfold Mail.val
  clear t5 t6
  go_wp2_with fail
  obtain ⟨w6, he, hn6, hF6, hz6⟩ := alloc1 w5 (.cells #[.int .i64 0, .int .i64 1, .string ⟨#[97]⟩] 29)
  rw [he]
  have H6 := H5.kept hF6 (fun _ _ x => x)
  have HF6 := Lib.hid hF6
  clear he hF6 hz6
  generalize w5.heap.size = g6 at hn6 ⊢
  refine (newPeer_one w6).mono ?_
  rintro e w7 ⟨g7, rfl, hF7⟩
  have H7 := H6.kept hF7 (fun _ _ x => x)
  have hn7 := hF7.blk0 hn6
  have HF7 := Lib.hid hF7
  clear hF7 hn6
  have c2 : w7.cell? ⟨g6, 2, none⟩ = some (.string ⟨#[97]⟩) := blk_cell hn7 2
  go_wp2_with fail
  refine (len_any H7).mono ?_
  rintro e w' ⟨rfl, rfl⟩
  have t7 : (takeL (twinL ([] ++ [⟨0, 1, ⟨#[97]⟩⟩] ++ [⟨0, 1, ⟨#[98]⟩⟩]) 0) 0).length = 2 := by rfl
  rw [t7]
  go_wp2
  go_ret
  have s1 := HB.out
  obtain ⟨f2, o2⟩ := step_fresh HF1.out (by omega) (fun k hk => by simp [Value.ownBlock] at hk) HF2.out HM2.out
  obtain ⟨f3, o3⟩ := step_fresh f2 (by omega) o2 HF3.out HM3.out
  obtain ⟨f4, o4⟩ := step_fresh f3 (by omega) o3 HF4.out HM4.out
  obtain ⟨f5, _⟩ := step_fresh f4 (by omega) o4 HF5.out HM5.out
  exact ⟨rfl, (f5.trans HF6.out (fun _ _ x => x)).trans HF7.out (fun _ _ x => x)⟩
end Go.Proofs.Ytedmhhllkkgbjaa
