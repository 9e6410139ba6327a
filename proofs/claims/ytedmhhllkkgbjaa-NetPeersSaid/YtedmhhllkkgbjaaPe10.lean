/- net.Peer.Again. -/
import Derived.Test.YtedmhhllkkgbjaaPe9
namespace Go.Proofs.Ytedmhhllkkgbjaa
open Go.RowKit Go.WideShapes
set_option linter.unusedSimpArgs false
set_option linter.unusedVariables false

/-- what has no ack yet -/
def undone (L : List (Msg × Bool)) : List Msg := (L.filter (fun x => !x.2)).map (·.1)
theorem undone_app (L L' : List (Msg × Bool)) : undone (L ++ L') = undone L ++ undone L' := by simp [undone]
theorem undone_len (L : List (Msg × Bool)) : (undone L).length = cnt L := by simp [undone, cnt, List.countP_eq_length_filter]
theorem take_one {α : Type} {L : List α} {i : Nat} {x : α} (h : L[i]? = some x) : L.take (i + 1) = L.take i ++ [x] := by rw [List.take_add_one, h]; rfl
theorem undone_le (L : List (Msg × Bool)) : (undone L).length ≤ L.length := by rw [undone_len]; exact List.countP_le_length

def AgInv (w0 : World) (L : List (Msg × Bool)) (B : Nat) (u k : Value) (wr : World) : Prop :=
  ∃ (i : Nat) (U : Option Addr) (uc : Nat), i ≤ L.length ∧ k = .int .i64 i ∧ u = .slice U (undone (L.take i)).length uc ∧ Hid (wr.ownsRow B 71 5 u (undone (L.take i)).length ((undone (L.take i)).flatMap Msg.cells)) ∧ Hid (Fr (fun _ => False) w0 wr)

set_option maxRecDepth 100000 in
set_option maxHeartbeats 4000000 in
theorem again_any {w : World} {g : Nat} {n : Int} {SA : Option Addr} {sc bw bg kw kg : Nat} {Dw Dg : DataW Msg} {L : List (Msg × Bool)} (h : PeerAt w g n (.slice SA L.length sc) bw bg kw kg Dw Dg) (hn : n ≠ 0) (hl : L.length ≤ 1000000) (hR : ReadM w SA (L.map (·.1))) (hW : WaitIs Dw L) (hq : ∀ (i : Nat) (x : Msg × Bool), L[i]? = some x → x.1.seq = (i : Int)) : Calls Try.prog 45 #[.pointer (some ⟨g, 0, none⟩)] w (MsgsPost w (undone L)) := by
  have d1 : w.cell? ⟨g, 1, none⟩ = some (.slice SA L.length sc) := blk_cell h.box 1
  have d2 : w.cell? ⟨g, 2, none⟩ = some (.map (some bw)) := blk_cell h.box 2
  have HH := Lib.hid h
  have HR := Lib.hid hR
  have HW := Lib.hid hW
  have HQ := Lib.hid hq
  clear h hR hW hq
  go_enter Try.func45, Try.ntmps45
  go_wp2_with fail
  refine (peer_some HH.out.box hn).mono ?_
  rintro e w' ⟨rfl, rfl⟩
  have D2 := Lib.hid d2
  clear d2
  go_wp2_with fail
  have D1 := Lib.hid d1
  clear d1
  go_loopw [3, 14] (fun u k wr => AgInv w' L w'.heap.size u k wr) (fun _ k _ => L.length - (intOf k).toNat)
  case atStart => exact ⟨0, none, 0, by omega, rfl, rfl, ⟨rfl, .inl ⟨rfl, rfl⟩⟩, Fr.refl _ _⟩
  case round =>
    obtain ⟨i, U, uc, hi, rfl, rfl, HO, HF⟩ := hrel
    by_cases hlt : i < L.length
    · obtain ⟨x, hx⟩ : ∃ x, L[i]? = some x := ⟨_, List.getElem?_eq_getElem hlt⟩
      have hxm : (L.map (·.1))[i]? = some x.1 := by rw [List.getElem?_map, hx]; rfl
      obtain ⟨gq, oq, rfl, hc⟩ := HR.out i x.1 hxm
      have hsq := HQ.out i x hx
      obtain ⟨⟨xk, xp, xs, xt, xn⟩, xb⟩ := x
      simp only at hsq hc
      subst hsq
      have y0 := HF.out.cell0 (hc 0 _ rfl)
      have y1 := HF.out.cell0 (hc 1 _ rfl)
      have y2 := HF.out.cell0 (hc 2 _ rfl)
      have y3 := HF.out.cell0 (hc 3 _ rfl)
      have y4 := HF.out.cell0 (hc 4 _ rfl)
      simp only [Nat.add_zero] at y0
      simp only at y0 y1 y2 y3 y4
      have hii : (i : Int) < L.length := by omega
      have HX := Lib.hid hx
      clear hx hxm hc
      have hwf : (Lit.int .i64 (i : Int)).wf = true := by simp [Lit.wf, show IntKind.i64.min = -9223372036854775808 from rfl, show IntKind.i64.max = 9223372036854775807 from rfl]; omega
      have HL0 := Lib.hid (wait_look HH.out.waits HW.out.vals hwf)
      clear hwf
      go_upto_region 7 with (fail)
      obtain ⟨w2, he, hn2, hF2, hsz2⟩ := alloc1 wr (.cells #[.int .i64 xk, .int .i64 xp, .int .i64 i, .string xt, .int .i64 xn] 71)
      rw [he]
      have HO2 := Lib.hid (hF2.own0 HO.out)
      have HF2 : Hid (Fr (fun _ => False) w' w2) := HF.out.trans hF2 (fun _ _ h => h)
      clear he hF2 hsz2 y0 y1 y2 y3 y4 HO HF
      have d2 : w2.cell? ⟨g, 2, none⟩ = some (.map (some bw)) := HF2.out.cell0 D2.out
      have c2 : w2.cell? ⟨wr.heap.size, 2, none⟩ = some (.int .i64 i) := blk_cell hn2 2
      have hlk := HL0.out w2.drew (HF2.out.drew.block _ HH.out.waits.lt (fun h => h))
      rw [HW.out.has] at hlk
      have hS0 : w2.drew.cell? ⟨g, 2, none⟩ = some (.map (some bw)) ∧ w2.drew.cell? ⟨wr.heap.size, 2, none⟩ = some (.int .i64 i) ∧ (Instr.lookup 100 (.map (some bw)) (.int .i64 i) false).run Try.prog w2.drew = .ok (.bool (opens L i)) w2.drew := ⟨d2, c2, hlk⟩
      clear hlk d2 c2
      have hop : opens L i = !xb := by unfold opens; rw [Int.toNat_natCast, HX.out]; simp
      rw [hop] at hS0
      have HN2 := Lib.hid hn2
      generalize wr.heap.size = g2 at *
      clear hn2 hop
      cases xb with
      | false =>
        go_region_held3 (fun w' => w'.cell? ⟨g, 2, none⟩ = some (.map (some bw)) ∧ w'.cell? ⟨g2, 2, none⟩ = some (.int .i64 i) ∧ (Instr.lookup 100 (.map (some bw)) (.int .i64 i) false).run Try.prog w' = .ok (.bool true) w') (exact hS0) (fail)
        have HO3 : Hid ((w2.drew.alloc (.cells #[.int .i64 xk, .int .i64 xp, .int .i64 i, .string xt, .int .i64 xn] 71)).ownsRow w'.heap.size 71 5 (.slice U (undone (L.take i)).length uc) (undone (L.take i)).length ((undone (L.take i)).flatMap Msg.cells)) := ((Fr.refl (fun _ => False) w2).drew.alloc _).own0 HO2.out
        have HF3 : Hid (Fr (fun _ => False) w' (w2.drew.alloc (.cells #[.int .i64 xk, .int .i64 xp, .int .i64 i, .string xt, .int .i64 xn] 71))) := HF2.out.drew.alloc _
        have y0 : w2.drew.cell? ⟨g2, 0, none⟩ = some (.int .i64 xk) := blk_cell HN2.out 0
        have y1 : w2.drew.cell? ⟨g2, 1, none⟩ = some (.int .i64 xp) := blk_cell HN2.out 1
        have y2 : w2.drew.cell? ⟨g2, 2, none⟩ = some (.int .i64 i) := blk_cell HN2.out 2
        have y3 : w2.drew.cell? ⟨g2, 3, none⟩ = some (.string xt) := blk_cell HN2.out 3
        have y4 : w2.drew.cell? ⟨g2, 4, none⟩ = some (.int .i64 xn) := blk_cell HN2.out 4
        have hln : (undone (L.take i)).length ≤ 1000000 := Nat.le_trans (undone_le _) (by rw [List.length_take]; omega)
        have HT : Hid (undone (L.take (i + 1)) = undone (L.take i) ++ [⟨xk, xp, i, xt, xn⟩]) := by show _ = _; rw [take_one HX.out, undone_app]; rfl
        clear hS0
        go_wp2_with (at_builtin; refine wpl_app rfl (.tmp 25) (.tmp 27) 65 rfl w'.heap.size 71 _ 5 48 Try.underlying65 Try.info71 rfl (by decide) (.slice U (undone (L.take i)).length uc) (undone (L.take i)).length ((undone (L.take i)).flatMap Msg.cells) rfl HO3.out ⟨w2.heap.size, 0, none⟩ 1 1 [.int .i64 xk, .int .i64 xp, .int .i64 i, .string xt, .int .i64 xn] rfl rfl (news_of (blk_new _ _)) (by simp [Value.oneCell']) (by simp [maxLen]; omega) (by omega) HF3.out.size ?_; intro v3 w3 ho3 hg3 hm3; obtain ⟨A3, c3, rfl⟩ := own_slice ho3)
        refine ⟨⟨i + 1, A3, c3, by omega, by go_num, by rw [HT.out, List.length_append]; rfl, ?_, ?_⟩, by simp [intOf]; omega⟩
        · show w3.ownsRow _ _ _ _ _ _
          rw [HT.out, List.length_append, List.flatMap_append]
          simpa [Msg.cells] using ho3
        · exact HF3.out.grown hg3 (fun k hk => .inl ((HO3.out.lt k hk).1))
      | true =>
        go_region_held3 (fun w' => w'.cell? ⟨g, 2, none⟩ = some (.map (some bw)) ∧ w'.cell? ⟨g2, 2, none⟩ = some (.int .i64 i) ∧ (Instr.lookup 100 (.map (some bw)) (.int .i64 i) false).run Try.prog w' = .ok (.bool false) w') (exact hS0) (fail)
        have HT : Hid (undone (L.take (i + 1)) = undone (L.take i)) := by show _ = _; rw [take_one HX.out, undone_app]; simp [undone]
        clear hS0
        go_wp2
        exact ⟨⟨i + 1, U, uc, by omega, by go_num, by rw [HT.out], by show World.ownsRow _ _ _ _ _ _ _; rw [HT.out]; exact HO2.out, HF2.out.drew⟩, by simp [intOf]; omega⟩
    · have hii : ¬ (i : Int) < L.length := by omega
      have hi' : i = L.length := by omega
      have HI := Lib.hid hi'
      clear hi'
      go_wp2
      go_ret
      have hi' : i = L.length := HI.out
      subst hi'
      rw [List.take_length] at HO ⊢
      exact ⟨U, uc, rfl, readM_own HO.out, HF.out, fun g o e => by subst e; exact (HO.out.lt g rfl).1⟩
end Go.Proofs.Ytedmhhllkkgbjaa
