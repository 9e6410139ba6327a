/- NetNobody's walk. -/
import Derived.Test.YtedmhhllkkgbjaaNob1
namespace Go.Proofs.Ytedmhhllkkgbjaa
open Go.RowKit

theorem alloc4 (w : World) (o1 o2 o3 o4 : Obj) : ∃ w4, (((w.alloc o1).alloc o2).alloc o3).alloc o4 = w4 ∧ w4.heap[w.heap.size]? = some o1 ∧ w4.heap[w.heap.size + 1]? = some o2 ∧ w4.heap[w.heap.size + 1 + 1]? = some o3 ∧ w4.heap[w.heap.size + 1 + 1 + 1]? = some o4 ∧ Fr (fun _ => False) w w4 ∧ w4.heap.size = w.heap.size + 4 :=
  ⟨_, rfl, blk_alloc (blk_alloc (blk_alloc (blk_new w o1) o2) o3) o4, blk_alloc (blk_alloc (blk_new1 w o1 o2) o3) o4,
    by simpa using blk_alloc (blk_new ((w.alloc o1).alloc o2) o3) o4, by simpa using blk_new (((w.alloc o1).alloc o2).alloc o3) o4, ((((Fr.refl _ _).alloc o1).alloc o2).alloc o3).alloc o4, by simp⟩

/-- Within the loops: what was boxed ahead, and the list of two. -/
def NobInv (W : World) (gm gx gl g1 : Nat) (m : Mail) (a b c : Int) (s : ByteArray) (n : Int) (el : TypeId) (raw : Obj) (wr : World) : Prop :=
  wr.heap[gm]? = some (.cells #[.int .i64 m.fr, .int .i64 m.rc, .string m.text] 29 (0, 0)) ∧ wr.heap[gx]? = some (.cells #[.int .i64 a, .int .i64 b, .int .i64 c, .string s, .int .i64 n] 71 (0, 0)) ∧
  wr.heap[gl]? = some (.cells #[.pointer none, .pointer (some ⟨g1, 0, none⟩)] el (0, 0)) ∧ wr.heap[g1]? = some raw ∧ Fr (fun _ => False) W wr
theorem NobInv.fr {W w w' : World} {gm gx gl g1 : Nat} {m : Mail} {a b c : Int} {s : ByteArray} {n : Int} {el : TypeId} {raw : Obj} (h : NobInv W gm gx gl g1 m a b c s n el raw w) (hF : Fr (fun _ => False) w w') : NobInv W gm gx gl g1 m a b c s n el raw w' :=
  ⟨hF.blk0 h.1, hF.blk0 h.2.1, hF.blk0 h.2.2.1, hF.blk0 h.2.2.2.1, h.2.2.2.2.trans hF (fun _ _ x => x)⟩

def NobPost (w : World) (e : Ending) (w' : World) : Prop := e = .returned (.bool true) ∧ Below w.heap.size w w'

set_option maxRecDepth 100000 in
set_option maxHeartbeats 4000000 in
theorem netNobody_any (w : World) (m : Mail) (i : Int) (a b c : Int) (s : ByteArray) (n : Int) :
    Calls Try.prog 13 #[.agg #[.int .i64 m.fr, .int .i64 m.rc, .string m.text], .int .i64 i, .agg #[.int .i64 a, .int .i64 b, .int .i64 c, .string s, .int .i64 n]] w (NobPost w) := by
  go_enter Try.func13, Try.ntmps13
  go_upto_region 4 with (fail)
  obtain ⟨w4, he, n1, n2, n3, n4, hF, hsz⟩ := alloc4 w (.cells #[.int .i64 m.fr, .int .i64 m.rc, .string m.text] 29) (.cells #[.int .i64 a, .int .i64 b, .int .i64 c, .string s, .int .i64 n] 71) (.cells #[.slice none 0 0, .bool false] 96) (.cells #[.pointer none, .pointer (some ⟨w.heap.size + 1 + 1, 0, none⟩)] 22)
  rw [he]
  have I0 : NobInv w w.heap.size (w.heap.size + 1) (w.heap.size + 1 + 1 + 1) (w.heap.size + 1 + 1) m a b c s n 22 (.cells #[.slice none 0 0, .bool false] 96) w4 := ⟨n1, n2, n4, n3, hF⟩
  clear he n1 n2 n3 n4 hF hsz
  generalize w.heap.size + 1 + 1 + 1 = gl at I0 ⊢
  generalize w.heap.size + 1 + 1 = g1 at I0 ⊢
  generalize w.heap.size + 1 = gx at I0 ⊢
  generalize w.heap.size = gm at I0 ⊢
  go_wp2_with fail
  go_loopw [10] (fun q wr => ∃ k : Nat, k ≤ 2 ∧ q = .int .i64 k ∧ NobInv w gm gx gl g1 m a b c s n 22 (.cells #[.slice none 0 0, .bool false] 96) wr) (fun q _ => 2 - (intOf q).toNat)
  case atStart => exact ⟨0, by omega, rfl, I0⟩
  case round =>
    obtain ⟨k, hk, rfl, I⟩ := hrel
    clear I0
    by_cases hlt : k < 2
    · obtain ⟨v, hv, hcell⟩ : ∃ v, NoNet wr v ∧ wr.cell? ⟨gl, k, none⟩ = some v := by
        match k, hlt with
        | 0, _ => exact ⟨_, .inl rfl, blk_cell I.2.2.1 0⟩
        | 1, _ => exact ⟨_, .inr ⟨g1, rfl, I.2.2.2.1⟩, blk_cell I.2.2.1 1⟩
      go_wp2_with fail
      refine (no_at hv i).mono ?_
      rintro e w1 ⟨rfl, hF1⟩
      have hv1 := hv.fr hF1
      have I1 := I.fr hF1
      clear hF1 hv I hcell
      go_wp2_with fail
      refine (no_take (hv1.alloc _) i).mono ?_
      rintro e w2 ⟨rfl, hF2⟩
      have hF2' := ((Fr.refl (fun _ => False) w1).alloc _).trans hF2 (fun _ _ x => x)
      have hv2 := hv1.fr hF2'
      have I2 := I1.fr hF2'
      clear hF2 hF2' hv1 I1
      go_upto_region 10 with (fail)
      obtain ⟨w3, he, hn3, hF3, hsz⟩ := alloc1 w2 (.cells #[.int .i64 0, .int .i64 0, .string ⟨#[]⟩] 29)
      rw [he]
      have hv3 := hv2.fr hF3
      have I3 := I2.fr hF3
      clear he hn3 hF3 hsz hv2 I2
      have x0 : w3.cell? ⟨gm, 0, none⟩ = some (.int .i64 m.fr) := blk_cell I3.1 0
      have x1 : w3.cell? ⟨gm, 1, none⟩ = some (.int .i64 m.rc) := blk_cell I3.1 1
      have x2 : w3.cell? ⟨gm, 2, none⟩ = some (.string m.text) := blk_cell I3.1 2
      go_wp2_with fail
      refine (no_send hv3 m).mono ?_
      rintro e w5 ⟨rfl, hF5⟩
      have hv5 := hv3.fr hF5
      have I5 := I3.fr hF5
      clear hF5 hv3 I3 x0 x1 x2
      go_wp2_with fail
      refine (no_lose hv5 i).mono ?_
      rintro e w6 ⟨rfl, hF6⟩
      have hv6 := hv5.fr hF6
      have I6 := I5.fr hF6
      clear hF6 hv5 I5
      go_wp2_with fail
      refine (no_twin hv6 i).mono ?_
      rintro e w7 ⟨rfl, hF7⟩
      have hv7 := hv6.fr hF7
      have I7 := I6.fr hF7
      clear hF7 hv6 I6
      go_wp2_with fail
      refine (no_len hv7).mono ?_
      rintro e w8 ⟨rfl, rfl⟩
      go_wp2
      go_roundw
      case rel => exact ⟨k + 1, by omega, by go_num, I7⟩
      case measure => simp [intOf]; omega
    · have hF := Lib.hid I.2.2.2.2
      have J := Lib.hid I
      clear I
      go_upto_region 13 with (fail)
      obtain ⟨w2, he, n1, n2, hF2, hsz⟩ := alloc2 wr (.cells #[.int .i64 0, .slice none 0 0, .map none, .map none] 103) (.cells #[.pointer none, .pointer (some ⟨wr.heap.size, 0, none⟩)] 66)
      rw [he]
      have I2 : NobInv w gm gx (wr.heap.size + 1) wr.heap.size m a b c s n 66 (.cells #[.int .i64 0, .slice none 0 0, .map none, .map none] 103) w2 := ⟨hF2.blk0 J.out.1, hF2.blk0 J.out.2.1, n2, n1, hF.out.trans hF2 (fun _ _ x => x)⟩
      clear he n1 n2 hF2 hsz hF J hlt
      generalize wr.heap.size + 1 = hl at I2 ⊢
      generalize wr.heap.size = h1 at I2 ⊢
      go_wp2_with fail
      go_loopw [17] (fun q wr => ∃ k : Nat, k ≤ 2 ∧ q = .int .i64 k ∧ NobInv w gm gx hl h1 m a b c s n 66 (.cells #[.int .i64 0, .slice none 0 0, .map none, .map none] 103) wr) (fun q _ => 2 - (intOf q).toNat)
      case atStart => exact ⟨0, by omega, rfl, I2⟩
      case round =>
        obtain ⟨k2, hk2, rfl, I⟩ := hrel
        clear I2
        by_cases hlt : k2 < 2
        · obtain ⟨v, hv, hcell⟩ : ∃ v, NoPeer wr v ∧ wr.cell? ⟨hl, k2, none⟩ = some v := by
            match k2, hlt with
            | 0, _ => exact ⟨_, .inl rfl, blk_cell I.2.2.1 0⟩
            | 1, _ => exact ⟨_, .inr ⟨h1, rfl, I.2.2.2.1⟩, blk_cell I.2.2.1 1⟩
          go_wp2_with fail
          refine (no_offer hv ⟨#[97]⟩ 1).mono ?_
          rintro e w1 ⟨rfl, hF1⟩
          have hv1 := hv.fr hF1
          have I1 := I.fr hF1
          clear hF1 hv I hcell
          unfold zmsg
          go_upto_region 18 with (fail)
          obtain ⟨w3, he, hn3, hF3, hsz⟩ := alloc1 w1 (.cells #[.int .i64 0, .int .i64 0, .int .i64 0, .string ⟨#[]⟩, .int .i64 0] 71)
          rw [he]
          have hv3 := hv1.fr hF3
          have I3 := I1.fr hF3
          clear he hn3 hF3 hsz hv1 I1
          have x0 : w3.cell? ⟨gx, 0, none⟩ = some (.int .i64 a) := blk_cell I3.2.1 0
          have x1 : w3.cell? ⟨gx, 1, none⟩ = some (.int .i64 b) := blk_cell I3.2.1 1
          have x2 : w3.cell? ⟨gx, 2, none⟩ = some (.int .i64 c) := blk_cell I3.2.1 2
          have x3 : w3.cell? ⟨gx, 3, none⟩ = some (.string s) := blk_cell I3.2.1 3
          have x4 : w3.cell? ⟨gx, 4, none⟩ = some (.int .i64 n) := blk_cell I3.2.1 4
          go_wp2_with fail
          refine (no_hear hv3 a b c s n).mono ?_
          rintro e w5 ⟨rfl, hF5⟩
          have hv5 := hv3.fr hF5
          have I5 := I3.fr hF5
          clear hF5 hv3 I3 x0 x1 x2 x3 x4
          unfold zmsg
          go_upto_region 19 with (fail)
          obtain ⟨w6, he, hn6, hF6, hsz⟩ := alloc1 w5 (.cells #[.int .i64 0, .int .i64 0, .int .i64 0, .string ⟨#[]⟩, .int .i64 0] 71)
          rw [he]
          have hv6 := hv5.fr hF6
          have I6 := I5.fr hF6
          clear he hn6 hF6 hsz hv5 I5
          go_wp2_with fail
          refine (no_again hv6).mono ?_
          rintro e w8 ⟨rfl, rfl⟩
          go_wp2_with fail
          refine (no_got hv6).mono ?_
          rintro e w8 ⟨rfl, rfl⟩
          go_wp2_with fail
          refine (no_sent hv6).mono ?_
          rintro e w8 ⟨rfl, rfl⟩
          go_wp2
          go_roundw
          case rel => exact ⟨k2 + 1, by omega, by go_num, I6⟩
          case measure => simp [intOf]; omega
        · have hF := Lib.hid I.2.2.2.2
          clear I
          go_wp2_with fail
          refine (awake_net _).mono ?_
          rintro e w8 ⟨rfl, hF8⟩
          have hF9 := Lib.hid (hF.out.trans hF8 (fun _ _ x => x))
          clear hF8
          go_wp2
          go_ret
          exact ⟨rfl, hF9.out.below0⟩
end Go.Proofs.Ytedmhhllkkgbjaa
