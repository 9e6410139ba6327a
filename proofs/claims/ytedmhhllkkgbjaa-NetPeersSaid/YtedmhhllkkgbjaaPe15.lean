/- The document's Peer: Again. -/
import Derived.Test.YtedmhhllkkgbjaaPe14
namespace Go.Proofs.Ytedmhhllkkgbjaa
open Go.RowKit Go.WideShapes
set_option linter.unusedSimpArgs false
set_option linter.unusedVariables false

def RaInv (w0 : World) (L : List (Msg × Bool)) (B : Nat) (u k : Value) (wr : World) : Prop :=
  ∃ (i : Nat) (U : Option Addr) (uc : Nat), i ≤ L.length ∧ k = .int .i64 i ∧ u = .slice U (undone (L.take i)).length uc ∧ Hid (wr.ownsRow B 71 5 u (undone (L.take i)).length ((undone (L.take i)).flatMap Msg.cells)) ∧ Hid (Fr (fun _ => False) w0 wr)

set_option maxRecDepth 100000 in
set_option maxHeartbeats 4000000 in
theorem ragain_any {w : World} (n : Int) (LA GA : Option Addr) (lc gn gc : Nat) (L : List (Msg × Bool)) (hl : L.length ≤ 1000000) (hR : ReadO w LA L) : Calls Try.prog 46 #[.agg #[.int .i64 n, .slice LA L.length lc, .slice GA gn gc]] w (MsgsPost w (undone L)) := by
  obtain ⟨w2, he, hn2, hF2, hz2⟩ := alloc1 w (.cells #[.int .i64 n, .slice LA L.length lc, .slice GA gn gc] 79)
  have HR := Lib.hid (hR.fr hF2 (fun _ _ _ h => h))
  have HE := Lib.hid he
  have HN2 := Lib.hid hn2
  have HF2 := Lib.hid hF2
  clear hR he hn2 hF2 hz2
  go_enter Try.func46, Try.ntmps46
  go_wp2
  rw [HE.out]
  obtain ⟨g1, hg1⟩ : ∃ g1, g1 = w.heap.size := ⟨_, rfl⟩
  have HG1 := Lib.hid hg1
  rw [← hg1] at HN2 ⊢
  clear hg1 HE
  go_loopw [3, 4] (fun u k wr => RaInv w2 L w2.heap.size u k wr) (fun _ k _ => L.length - (intOf k).toNat)
  case atStart => exact ⟨0, none, 0, by omega, rfl, rfl, ⟨rfl, .inl ⟨rfl, rfl⟩⟩, Fr.refl _ _⟩
  case round =>
    obtain ⟨i, U, uc, hi, rfl, rfl, HO, HF⟩ := hrel
    have b1 : wr.cell? ⟨g1, 1, none⟩ = some (.slice LA L.length lc) := HF.out.cell0 (blk_cell HN2.out 1)
    by_cases hlt : i < L.length
    · obtain ⟨x, hx⟩ : ∃ x, L[i]? = some x := ⟨_, List.getElem?_eq_getElem hlt⟩
      obtain ⟨gq, oq, rfl, hc⟩ := HR.out i x hx
      have HX := Lib.hid hx
      obtain ⟨⟨xk, xp, xs, xt, xn⟩, xb⟩ := x
      have y0 := HF.out.cell0 (hc 0 _ rfl)
      have y1 := HF.out.cell0 (hc 1 _ rfl)
      have y2 := HF.out.cell0 (hc 2 _ rfl)
      have y3 := HF.out.cell0 (hc 3 _ rfl)
      have y4 := HF.out.cell0 (hc 4 _ rfl)
      have y5 := HF.out.cell0 (hc 5 _ rfl)
      simp only [Nat.add_zero] at y0
      simp only at y0 y1 y2 y3 y4 y5
      have hii : (i : Int) < L.length := by omega
      clear hx hc
      cases xb with
      | false =>
        have HO3 : Hid ((wr.alloc (.cells #[.int .i64 xk, .int .i64 xp, .int .i64 xs, .string xt, .int .i64 xn] 71)).ownsRow w2.heap.size 71 5 (.slice U (undone (L.take i)).length uc) (undone (L.take i)).length ((undone (L.take i)).flatMap Msg.cells)) := ((Fr.refl (fun _ => False) wr).alloc _).own0 HO.out
        have HF3 : Hid (Fr (fun _ => False) w2 (wr.alloc (.cells #[.int .i64 xk, .int .i64 xp, .int .i64 xs, .string xt, .int .i64 xn] 71))) := HF.out.alloc _
        have hln : (undone (L.take i)).length ≤ 1000000 := Nat.le_trans (undone_le _) (by rw [List.length_take]; omega)
        have HT : Hid (undone (L.take (i + 1)) = undone (L.take i) ++ [⟨xk, xp, xs, xt, xn⟩]) := by show _ = _; rw [take_one HX.out, undone_app]; rfl
        have hbw : w2.heap.size ≤ (wr.alloc (.cells #[.int .i64 xk, .int .i64 xp, .int .i64 xs, .string xt, .int .i64 xn] 71)).heap.size := HF3.out.size
        go_wp2_with (at_builtin; refine wpl_app rfl (.tmp 19) (.tmp 26) 65 rfl w2.heap.size 71 _ 5 48 Try.underlying65 Try.info71 rfl (by decide) (.slice U (undone (L.take i)).length uc) (undone (L.take i)).length ((undone (L.take i)).flatMap Msg.cells) rfl HO3.out ⟨wr.heap.size, 0, none⟩ 1 1 [.int .i64 xk, .int .i64 xp, .int .i64 xs, .string xt, .int .i64 xn] rfl rfl (news_of (blk_new _ _)) (by simp [Value.oneCell']) (by simp [maxLen]; omega) (by omega) hbw ?_; intro v3 w3 ho3 hg3 hm3; obtain ⟨A3, c3, rfl⟩ := own_slice ho3)
        refine ⟨⟨i + 1, A3, c3, by omega, by go_num, by rw [HT.out, List.length_append]; rfl, ?_, ?_⟩, by simp [intOf]; omega⟩
        · show w3.ownsRow _ _ _ _ _ _
          rw [HT.out, List.length_append, List.flatMap_append]
          simpa [Msg.cells] using ho3
        · exact HF3.out.grown hg3 (fun k hk => .inl ((HO3.out.lt k hk).1))
      | true =>
        have HT : Hid (undone (L.take (i + 1)) = undone (L.take i)) := by show _ = _; rw [take_one HX.out, undone_app]; simp [undone]
        go_wp2
        exact ⟨⟨i + 1, U, uc, by omega, by go_num, by rw [HT.out], by show World.ownsRow _ _ _ _ _ _ _; rw [HT.out]; exact HO.out, HF.out⟩, by simp [intOf]; omega⟩
    · have hii : ¬ (i : Int) < L.length := by omega
      have hi' : i = L.length := by omega
      have HI := Lib.hid hi'
      clear hi'
      go_wp2
      go_ret
      have hi' : i = L.length := HI.out
      subst hi'
      rw [List.take_length] at HO ⊢
      exact ⟨U, uc, rfl, readM_own HO.out, HF2.out.trans HF.out (fun _ _ h => h), fun g o e => by subst e; exact Nat.le_trans HF2.out.size (HO.out.lt g rfl).1⟩
end Go.Proofs.Ytedmhhllkkgbjaa
