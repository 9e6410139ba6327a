/- The document's Peer: Hear of a transfer, the walk. -/
import Derived.Test.YtedmhhllkkgbjaaPe20
namespace Go.Proofs.Ytedmhhllkkgbjaa
open Go.RowKit Go.WideShapes
set_option linter.unusedSimpArgs false
set_option linter.unusedVariables false

def RTakePost (w : World) (n : Int) (LA : Option Addr) (ln lc : Nat) (GA : Option Addr) (G : List Msg) (m : Msg) (e : Ending) (w' : World) : Prop :=
  ∃ A c G', e = .returned (.tuple #[rpeer n LA ln lc A G'.length c, (ack n m.seq).v, .bool true]) ∧ GotR m G G' ∧ ReadM w' A G' ∧ Fr (fun _ => False) w w' ∧ (A = GA ∨ ∀ g o, A = some ⟨g, o, none⟩ → w.heap.size ≤ g)
def HrInv (w0 : World) (G : List Msg) (m : Msg) (B : Nat) (u d t k : Value) (wr : World) : Prop :=
  ∃ (i : Nat) (U : Option Addr) (uc : Nat) (a : List Msg) (bd bt : Bool), i ≤ G.length ∧ k = .int .i64 i ∧ u = .slice U a.length uc ∧ d = .bool bd ∧ t = .bool bt ∧ Hid (GI m.seq m (G.take i) a bd bt) ∧ Hid (wr.ownsRow B 71 5 u a.length (a.flatMap Msg.cells)) ∧ Hid (Fr (fun _ => False) w0 wr)

set_option maxRecDepth 100000 in
set_option maxHeartbeats 8000000 in
theorem rhear_take (w : World) (n : Int) (LA GA : Option Addr) (ln lc gc : Nat) (G : List Msg) (m : Msg) (hp : m.peer = n) (hs : 0 ≤ m.seq) (hk : m.kind = 1) (hl : G.length ≤ 1000000) (hR : ReadM w GA G) :
    Calls Try.prog 43 #[.agg #[.int .i64 n, .slice LA ln lc, .slice GA G.length gc], .agg #[.int .i64 m.kind, .int .i64 m.peer, .int .i64 m.seq, .string m.key, .int .i64 m.n]] w (RTakePost w n LA ln lc GA G m) := by
  obtain ⟨mk, mp, ms, mt, mn⟩ := m
  simp only at *
  have hpb : (mp != n) = false := by simpa using hp
  have hk1 : (mk != 1) = false := by simpa using hk
  have hk2 : (mk == 2) = false := by rw [hk]; rfl
  clear hp hk
  have hs' : ¬ ms < 0 := by omega
  obtain ⟨w2, he, hn1, hnm, hn2, hn3, hF, hsz⟩ := alloc4 w (.cells #[.int .i64 n, .slice LA ln lc, .slice GA G.length gc] 79) (.cells #[.int .i64 mk, .int .i64 mp, .int .i64 ms, .string mt, .int .i64 mn] 71) (.cells #[.int .i64 0, .slice none 0 0, .slice none 0 0] 79) (.cells #[.int .i64 0, .int .i64 0, .int .i64 0, .string ⟨#[]⟩, .int .i64 0] 71)
  have HE := Lib.hid he
  have HF := Lib.hid hF
  have HN1 := Lib.hid hn1
  have HNM := Lib.hid hnm
  have HN2 := Lib.hid hn2
  have HN3 := Lib.hid hn3
  have HSZ := Lib.hid hsz
  clear he hF hsz hn1 hn2 hn3 hnm
  have HRG := Lib.hid (hR.fr HF.out (fun _ _ _ h => h))
  have HR0 := Lib.hid hR
  clear hR
  go_enter Try.func43, Try.ntmps43
  go_upto_region 1 with (fail)
  rw [HE.out]
  obtain ⟨m0, hm0⟩ : ∃ m0, m0 = w.heap.size + 1 := ⟨_, rfl⟩
  obtain ⟨b1, hb1⟩ : ∃ b1, b1 = w.heap.size + 1 + 1 := ⟨_, rfl⟩
  obtain ⟨b2, hb2⟩ : ∃ b2, b2 = w.heap.size + 1 + 1 + 1 := ⟨_, rfl⟩
  have HM0 := Lib.hid hm0
  have HB1 := Lib.hid hb1
  have HB2 := Lib.hid hb2
  rw [← hb2] at HN3 ⊢
  rw [← hb1] at HN2 ⊢
  rw [← hm0] at HNM ⊢
  clear hb1 hb2 hm0
  have c0 : w2.cell? ⟨w.heap.size, 0, none⟩ = some (.int .i64 n) := blk_cell HN1.out 0
  have c1 : w2.cell? ⟨w.heap.size, 1, none⟩ = some (.slice LA ln lc) := blk_cell HN1.out 1
  have c2 : w2.cell? ⟨w.heap.size, 2, none⟩ = some (.slice GA G.length gc) := blk_cell HN1.out 2
  have e0 : w2.cell? ⟨m0, 0, none⟩ = some (.int .i64 mk) := blk_cell HNM.out 0
  have e1 : w2.cell? ⟨m0, 1, none⟩ = some (.int .i64 mp) := blk_cell HNM.out 1
  have e2 : w2.cell? ⟨m0, 2, none⟩ = some (.int .i64 ms) := blk_cell HNM.out 2
  have C0 := Lib.hid c0
  have C1 := Lib.hid c1
  have C2 := Lib.hid c2
  have E0 := Lib.hid e0
  have E1 := Lib.hid e1
  have E2 := Lib.hid e2
  have E3 : Hid (w2.cell? ⟨m0, 3, none⟩ = some (.string mt)) := blk_cell HNM.out 3
  have E4 : Hid (w2.cell? ⟨m0, 4, none⟩ = some (.int .i64 mn)) := blk_cell HNM.out 4
  go_wp2_with fail
  clear c0 c1 c2 e0 e1 e2
  go_loopw [7, 8, 9, 10] (fun u d t k wr => HrInv w2 G ⟨mk, mp, ms, mt, mn⟩ w2.heap.size u d t k wr) (fun _ _ _ k _ => G.length - (intOf k).toNat)
  case atStart => exact ⟨0, none, 0, [], false, false, by omega, rfl, rfl, rfl, rfl, GI.nil _ _, ⟨rfl, .inl ⟨rfl, rfl⟩⟩, Fr.refl _ _⟩
  case round =>
    obtain ⟨i, U, uc, a, bd, bt, hi, rfl, rfl, rfl, rfl, HGI, HO, HF2⟩ := hrel
    by_cases hlt : i < G.length
    · obtain ⟨x, hx⟩ : ∃ x, G[i]? = some x := ⟨_, List.getElem?_eq_getElem hlt⟩
      obtain ⟨gq, oq, rfl, hc⟩ := HRG.out i x hx
      have HX := Lib.hid hx
      obtain ⟨xk, xp, xs, xt, xn⟩ := x
      have y0 := hc 0 _ rfl
      simp only [Nat.add_zero] at y0
      have Y0 := Lib.hid y0
      have Y1 := Lib.hid (hc 1 _ rfl)
      have Y2 := Lib.hid (hc 2 _ rfl)
      have Y3 := Lib.hid (hc 3 _ rfl)
      have Y4 := Lib.hid (hc 4 _ rfl)
      have hii : (i : Int) < G.length := by omega
      clear hx hc y0
      have HF := HF2
      have c1 : wr.cell? ⟨w.heap.size, 1, none⟩ = some (.slice LA ln lc) := HF2.out.cell0 C1.out
      have c2 : wr.cell? ⟨w.heap.size, 2, none⟩ = some (.slice (some ⟨gq, oq, none⟩) G.length gc) := HF2.out.cell0 C2.out
      have e0 : wr.cell? ⟨m0, 0, none⟩ = some (.int .i64 mk) := HF2.out.cell0 E0.out
      have e1 : wr.cell? ⟨m0, 1, none⟩ = some (.int .i64 mp) := HF2.out.cell0 E1.out
      have e2 : wr.cell? ⟨m0, 2, none⟩ = some (.int .i64 ms) := HF2.out.cell0 E2.out
      have e3 : wr.cell? ⟨m0, 3, none⟩ = some (.string mt) := HF2.out.cell0 E3.out
      have e4 : wr.cell? ⟨m0, 4, none⟩ = some (.int .i64 mn) := HF2.out.cell0 E4.out
      have y0 := HF2.out.cell0 Y0.out
      have y1 := HF2.out.cell0 Y1.out
      have y2 := HF2.out.cell0 Y2.out
      have y3 := HF2.out.cell0 Y3.out
      have y4 := HF2.out.cell0 Y4.out

      cases bt with
      | false =>
        cases bd with
        | true =>
          go_upto_region 16 with (fail)
          go_quiet (fail)
          have HFq : Hid (Fr (fun _ => False) w2 (wr.drewN nq)) := HF.out.drewN nq
          have HOq : Hid ((wr.drewN nq).ownsRow w2.heap.size 71 5 (.slice U a.length uc) a.length (a.flatMap Msg.cells)) := HO.out
          generalize wr.drewN nq = wq at HFq HOq ⊢
          clear c1 c2 e0 e1 e2 e3 e4 y0 y1 y2 y3 y4
          have c1 : wq.cell? ⟨w.heap.size, 1, none⟩ = some (.slice LA ln lc) := HFq.out.cell0 C1.out
          have c2 : wq.cell? ⟨w.heap.size, 2, none⟩ = some (.slice (some ⟨gq, oq, none⟩) G.length gc) := HFq.out.cell0 C2.out
          have e0 : wq.cell? ⟨m0, 0, none⟩ = some (.int .i64 mk) := HFq.out.cell0 E0.out
          have e1 : wq.cell? ⟨m0, 1, none⟩ = some (.int .i64 mp) := HFq.out.cell0 E1.out
          have e2 : wq.cell? ⟨m0, 2, none⟩ = some (.int .i64 ms) := HFq.out.cell0 E2.out
          have e3 : wq.cell? ⟨m0, 3, none⟩ = some (.string mt) := HFq.out.cell0 E3.out
          have e4 : wq.cell? ⟨m0, 4, none⟩ = some (.int .i64 mn) := HFq.out.cell0 E4.out
          have y0 := HFq.out.cell0 Y0.out
          have y1 := HFq.out.cell0 Y1.out
          have y2 := HFq.out.cell0 Y2.out
          have y3 := HFq.out.cell0 Y3.out
          have y4 := HFq.out.cell0 Y4.out
          have HOa : Hid ((wq.alloc (.cells #[.int .i64 xk, .int .i64 xp, .int .i64 xs, .string xt, .int .i64 xn] 71)).ownsRow w2.heap.size 71 5 (.slice U (a).length uc) (a).length ((a).flatMap Msg.cells)) := ((Fr.refl (fun _ => False) wq).alloc _).own0 HOq.out
          have HFa : Hid (Fr (fun _ => False) w2 (wq.alloc (.cells #[.int .i64 xk, .int .i64 xp, .int .i64 xs, .string xt, .int .i64 xn] 71))) := HFq.out.alloc _
          have hln : (a).length ≤ 1000003 := by have := HGI.out.len; rw [List.length_take] at this; omega
          go_upto_region 20 with (at_builtin; refine wpl_app rfl (.tmp 74) (.tmp 80) 65 rfl w2.heap.size 71 _ 5 48 Try.underlying65 Try.info71 rfl (by decide) (.slice U (a).length uc) (a).length ((a).flatMap Msg.cells) rfl HOa.out ⟨wq.heap.size, 0, none⟩ 1 1 [.int .i64 xk, .int .i64 xp, .int .i64 xs, .string xt, .int .i64 xn] rfl rfl (news_of (blk_new _ _)) (by simp [Value.oneCell']) (by simp [maxLen]; omega) (by omega) HFa.out.size ?_; intro v4 w4 ho4 hg4 hm4; obtain ⟨A4, c4, rfl⟩ := own_slice ho4)
          have HO4 : Hid (w4.ownsRow w2.heap.size 71 5 (.slice A4 ((a) ++ [(⟨xk, xp, xs, xt, xn⟩ : Msg)]).length c4) ((a) ++ [(⟨xk, xp, xs, xt, xn⟩ : Msg)]).length (((a) ++ [(⟨xk, xp, xs, xt, xn⟩ : Msg)]).flatMap Msg.cells)) := by
            show World.ownsRow _ _ _ _ _ _ _
            rw [List.length_append, List.flatMap_append]
            simpa [Msg.cells] using ho4
          have HF4 : Hid (Fr (fun _ => False) w2 w4) := HFa.out.grown hg4 (fun k hk => .inl ((HOa.out.lt k hk).1))
          clear ho4 hg4 hm4 HOa HFa
          rw [show (a).length + 1 = ((a) ++ [(⟨xk, xp, xs, xt, xn⟩ : Msg)]).length from by simp]
          clear c1 c2 e0 e1 e2 e3 e4 y0 y1 y2 y3 y4
          have c1 : w4.cell? ⟨w.heap.size, 1, none⟩ = some (.slice LA ln lc) := HF4.out.cell0 C1.out
          have c2 : w4.cell? ⟨w.heap.size, 2, none⟩ = some (.slice (some ⟨gq, oq, none⟩) G.length gc) := HF4.out.cell0 C2.out
          have e0 : w4.cell? ⟨m0, 0, none⟩ = some (.int .i64 mk) := HF4.out.cell0 E0.out
          have e1 : w4.cell? ⟨m0, 1, none⟩ = some (.int .i64 mp) := HF4.out.cell0 E1.out
          have e2 : w4.cell? ⟨m0, 2, none⟩ = some (.int .i64 ms) := HF4.out.cell0 E2.out
          have e3 : w4.cell? ⟨m0, 3, none⟩ = some (.string mt) := HF4.out.cell0 E3.out
          have e4 : w4.cell? ⟨m0, 4, none⟩ = some (.int .i64 mn) := HF4.out.cell0 E4.out
          have y0 := HF4.out.cell0 Y0.out
          have y1 := HF4.out.cell0 Y1.out
          have y2 := HF4.out.cell0 Y2.out
          have y3 := HF4.out.cell0 Y3.out
          have y4 := HF4.out.cell0 Y4.out
          cases hxe : (xs == ms) with
          | true =>
            go_quiet (fail)
            go_wp2
            exact ⟨⟨i + 1, A4, c4, a ++ [(⟨xk, xp, xs, xt, xn⟩ : Msg)], _, _, by omega, by go_num, rfl, rfl, rfl, by show GI _ _ _ _ _ _; rw [take_one HX.out]; exact HGI.out.done ⟨xk, xp, xs, xt, xn⟩ _ (by simp [hxe]), HO4.out, HF4.out.drewN _⟩, by simp [intOf]; omega⟩
          | false =>
            go_quiet (fail)
            go_wp2
            exact ⟨⟨i + 1, A4, c4, a ++ [(⟨xk, xp, xs, xt, xn⟩ : Msg)], _, _, by omega, by go_num, rfl, rfl, rfl, by show GI _ _ _ _ _ _; rw [take_one HX.out]; exact HGI.out.done ⟨xk, xp, xs, xt, xn⟩ _ (by simp [hxe]), HO4.out, HF4.out.drewN _⟩, by simp [intOf]; omega⟩
        | false =>
          by_cases hlt' : ms < xs
          · go_upto_region 16 with (fail)
            go_quiet (fail)
            have HFq : Hid (Fr (fun _ => False) w2 (wr.drewN nq)) := HF.out.drewN nq
            have HOq : Hid ((wr.drewN nq).ownsRow w2.heap.size 71 5 (.slice U a.length uc) a.length (a.flatMap Msg.cells)) := HO.out
            generalize wr.drewN nq = wq at HFq HOq ⊢
            clear c1 c2 e0 e1 e2 e3 e4 y0 y1 y2 y3 y4
            have c1 : wq.cell? ⟨w.heap.size, 1, none⟩ = some (.slice LA ln lc) := HFq.out.cell0 C1.out
            have c2 : wq.cell? ⟨w.heap.size, 2, none⟩ = some (.slice (some ⟨gq, oq, none⟩) G.length gc) := HFq.out.cell0 C2.out
            have e0 : wq.cell? ⟨m0, 0, none⟩ = some (.int .i64 mk) := HFq.out.cell0 E0.out
            have e1 : wq.cell? ⟨m0, 1, none⟩ = some (.int .i64 mp) := HFq.out.cell0 E1.out
            have e2 : wq.cell? ⟨m0, 2, none⟩ = some (.int .i64 ms) := HFq.out.cell0 E2.out
            have e3 : wq.cell? ⟨m0, 3, none⟩ = some (.string mt) := HFq.out.cell0 E3.out
            have e4 : wq.cell? ⟨m0, 4, none⟩ = some (.int .i64 mn) := HFq.out.cell0 E4.out
            have y0 := HFq.out.cell0 Y0.out
            have y1 := HFq.out.cell0 Y1.out
            have y2 := HFq.out.cell0 Y2.out
            have y3 := HFq.out.cell0 Y3.out
            have y4 := HFq.out.cell0 Y4.out
            have HOa : Hid ((wq.alloc (.cells #[.int .i64 mk, .int .i64 mp, .int .i64 ms, .string mt, .int .i64 mn] 71)).ownsRow w2.heap.size 71 5 (.slice U (a).length uc) (a).length ((a).flatMap Msg.cells)) := ((Fr.refl (fun _ => False) wq).alloc _).own0 HOq.out
            have HFa : Hid (Fr (fun _ => False) w2 (wq.alloc (.cells #[.int .i64 mk, .int .i64 mp, .int .i64 ms, .string mt, .int .i64 mn] 71))) := HFq.out.alloc _
            have hln : (a).length ≤ 1000003 := by have := HGI.out.len; rw [List.length_take] at this; omega
            go_upto_region 19 with (at_builtin; refine wpl_app rfl (.tmp 70) (.tmp 72) 65 rfl w2.heap.size 71 _ 5 48 Try.underlying65 Try.info71 rfl (by decide) (.slice U (a).length uc) (a).length ((a).flatMap Msg.cells) rfl HOa.out ⟨wq.heap.size, 0, none⟩ 1 1 [.int .i64 mk, .int .i64 mp, .int .i64 ms, .string mt, .int .i64 mn] rfl rfl (news_of (blk_new _ _)) (by simp [Value.oneCell']) (by simp [maxLen]; omega) (by omega) HFa.out.size ?_; intro v3 w3 ho3 hg3 hm3; obtain ⟨A3, c3, rfl⟩ := own_slice ho3)
            have HO3 : Hid (w3.ownsRow w2.heap.size 71 5 (.slice A3 ((a) ++ [(⟨mk, mp, ms, mt, mn⟩ : Msg)]).length c3) ((a) ++ [(⟨mk, mp, ms, mt, mn⟩ : Msg)]).length (((a) ++ [(⟨mk, mp, ms, mt, mn⟩ : Msg)]).flatMap Msg.cells)) := by
              show World.ownsRow _ _ _ _ _ _ _
              rw [List.length_append, List.flatMap_append]
              simpa [Msg.cells] using ho3
            have HF3 : Hid (Fr (fun _ => False) w2 w3) := HFa.out.grown hg3 (fun k hk => .inl ((HOa.out.lt k hk).1))
            clear ho3 hg3 hm3 HOa HFa
            rw [show (a).length + 1 = ((a) ++ [(⟨mk, mp, ms, mt, mn⟩ : Msg)]).length from by simp]
            clear c1 c2 e0 e1 e2 e3 e4 y0 y1 y2 y3 y4
            obtain ⟨a2, ha2⟩ : ∃ a2, a2 = a ++ [(⟨mk, mp, ms, mt, mn⟩ : Msg)] := ⟨_, rfl⟩
            have HA2 := Lib.hid ha2
            have HL2 : Hid (a2.length = a.length + 1) := by show _ = _; rw [ha2]; simp
            rw [← ha2] at HO3 ⊢
            clear ha2
            have c1 : w3.cell? ⟨w.heap.size, 1, none⟩ = some (.slice LA ln lc) := HF3.out.cell0 C1.out
            have c2 : w3.cell? ⟨w.heap.size, 2, none⟩ = some (.slice (some ⟨gq, oq, none⟩) G.length gc) := HF3.out.cell0 C2.out
            have e0 : w3.cell? ⟨m0, 0, none⟩ = some (.int .i64 mk) := HF3.out.cell0 E0.out
            have e1 : w3.cell? ⟨m0, 1, none⟩ = some (.int .i64 mp) := HF3.out.cell0 E1.out
            have e2 : w3.cell? ⟨m0, 2, none⟩ = some (.int .i64 ms) := HF3.out.cell0 E2.out
            have e3 : w3.cell? ⟨m0, 3, none⟩ = some (.string mt) := HF3.out.cell0 E3.out
            have e4 : w3.cell? ⟨m0, 4, none⟩ = some (.int .i64 mn) := HF3.out.cell0 E4.out
            have y0 := HF3.out.cell0 Y0.out
            have y1 := HF3.out.cell0 Y1.out
            have y2 := HF3.out.cell0 Y2.out
            have y3 := HF3.out.cell0 Y3.out
            have y4 := HF3.out.cell0 Y4.out
            have HOa : Hid ((w3.alloc (.cells #[.int .i64 xk, .int .i64 xp, .int .i64 xs, .string xt, .int .i64 xn] 71)).ownsRow w2.heap.size 71 5 (.slice A3 (a2).length c3) (a2).length ((a2).flatMap Msg.cells)) := ((Fr.refl (fun _ => False) w3).alloc _).own0 HO3.out
            have HFa : Hid (Fr (fun _ => False) w2 (w3.alloc (.cells #[.int .i64 xk, .int .i64 xp, .int .i64 xs, .string xt, .int .i64 xn] 71))) := HF3.out.alloc _
            have hln : (a2).length ≤ 1000003 := by have := HGI.out.len; rw [List.length_take] at this; have := HL2.out; omega
            go_upto_region 20 with (at_builtin; refine wpl_app rfl (.tmp 74) (.tmp 80) 65 rfl w2.heap.size 71 _ 5 48 Try.underlying65 Try.info71 rfl (by decide) (.slice A3 (a2).length c3) (a2).length ((a2).flatMap Msg.cells) rfl HOa.out ⟨w3.heap.size, 0, none⟩ 1 1 [.int .i64 xk, .int .i64 xp, .int .i64 xs, .string xt, .int .i64 xn] rfl rfl (news_of (blk_new _ _)) (by simp [Value.oneCell']) (by simp [maxLen]; omega) (by omega) HFa.out.size ?_; intro v4 w4 ho4 hg4 hm4; obtain ⟨A4, c4, rfl⟩ := own_slice ho4)
            have HO4 : Hid (w4.ownsRow w2.heap.size 71 5 (.slice A4 ((a2) ++ [(⟨xk, xp, xs, xt, xn⟩ : Msg)]).length c4) ((a2) ++ [(⟨xk, xp, xs, xt, xn⟩ : Msg)]).length (((a2) ++ [(⟨xk, xp, xs, xt, xn⟩ : Msg)]).flatMap Msg.cells)) := by
              show World.ownsRow _ _ _ _ _ _ _
              rw [List.length_append, List.flatMap_append]
              simpa [Msg.cells] using ho4
            have HF4 : Hid (Fr (fun _ => False) w2 w4) := HFa.out.grown hg4 (fun k hk => .inl ((HOa.out.lt k hk).1))
            clear ho4 hg4 hm4 HOa HFa
            rw [show (a2).length + 1 = ((a2) ++ [(⟨xk, xp, xs, xt, xn⟩ : Msg)]).length from by simp]
            clear c1 c2 e0 e1 e2 e3 e4 y0 y1 y2 y3 y4
            have c1 : w4.cell? ⟨w.heap.size, 1, none⟩ = some (.slice LA ln lc) := HF4.out.cell0 C1.out
            have c2 : w4.cell? ⟨w.heap.size, 2, none⟩ = some (.slice (some ⟨gq, oq, none⟩) G.length gc) := HF4.out.cell0 C2.out
            have e0 : w4.cell? ⟨m0, 0, none⟩ = some (.int .i64 mk) := HF4.out.cell0 E0.out
            have e1 : w4.cell? ⟨m0, 1, none⟩ = some (.int .i64 mp) := HF4.out.cell0 E1.out
            have e2 : w4.cell? ⟨m0, 2, none⟩ = some (.int .i64 ms) := HF4.out.cell0 E2.out
            have e3 : w4.cell? ⟨m0, 3, none⟩ = some (.string mt) := HF4.out.cell0 E3.out
            have e4 : w4.cell? ⟨m0, 4, none⟩ = some (.int .i64 mn) := HF4.out.cell0 E4.out
            have y0 := HF4.out.cell0 Y0.out
            have y1 := HF4.out.cell0 Y1.out
            have y2 := HF4.out.cell0 Y2.out
            have y3 := HF4.out.cell0 Y3.out
            have y4 := HF4.out.cell0 Y4.out
            cases hxe : (xs == ms) with
            | true =>
              go_quiet (fail)
              go_wp2
              exact ⟨⟨i + 1, A4, c4, a2 ++ [(⟨xk, xp, xs, xt, xn⟩ : Msg)], _, _, by omega, by go_num, rfl, rfl, rfl, by show GI _ _ _ _ _ _; rw [take_one HX.out]; exact (by rw [HA2.out]; exact HGI.out.put ⟨xk, xp, xs, xt, xn⟩ hlt' _ (by simp [hxe])), HO4.out, HF4.out.drewN _⟩, by simp [intOf]; omega⟩
            | false =>
              go_quiet (fail)
              go_wp2
              exact ⟨⟨i + 1, A4, c4, a2 ++ [(⟨xk, xp, xs, xt, xn⟩ : Msg)], _, _, by omega, by go_num, rfl, rfl, rfl, by show GI _ _ _ _ _ _; rw [take_one HX.out]; exact (by rw [HA2.out]; exact HGI.out.put ⟨xk, xp, xs, xt, xn⟩ hlt' _ (by simp [hxe])), HO4.out, HF4.out.drewN _⟩, by simp [intOf]; omega⟩
          · go_upto_region 16 with (fail)
            go_quiet (fail)
            have HFq : Hid (Fr (fun _ => False) w2 (wr.drewN nq)) := HF.out.drewN nq
            have HOq : Hid ((wr.drewN nq).ownsRow w2.heap.size 71 5 (.slice U a.length uc) a.length (a.flatMap Msg.cells)) := HO.out
            generalize wr.drewN nq = wq at HFq HOq ⊢
            clear c1 c2 e0 e1 e2 e3 e4 y0 y1 y2 y3 y4
            have c1 : wq.cell? ⟨w.heap.size, 1, none⟩ = some (.slice LA ln lc) := HFq.out.cell0 C1.out
            have c2 : wq.cell? ⟨w.heap.size, 2, none⟩ = some (.slice (some ⟨gq, oq, none⟩) G.length gc) := HFq.out.cell0 C2.out
            have e0 : wq.cell? ⟨m0, 0, none⟩ = some (.int .i64 mk) := HFq.out.cell0 E0.out
            have e1 : wq.cell? ⟨m0, 1, none⟩ = some (.int .i64 mp) := HFq.out.cell0 E1.out
            have e2 : wq.cell? ⟨m0, 2, none⟩ = some (.int .i64 ms) := HFq.out.cell0 E2.out
            have e3 : wq.cell? ⟨m0, 3, none⟩ = some (.string mt) := HFq.out.cell0 E3.out
            have e4 : wq.cell? ⟨m0, 4, none⟩ = some (.int .i64 mn) := HFq.out.cell0 E4.out
            have y0 := HFq.out.cell0 Y0.out
            have y1 := HFq.out.cell0 Y1.out
            have y2 := HFq.out.cell0 Y2.out
            have y3 := HFq.out.cell0 Y3.out
            have y4 := HFq.out.cell0 Y4.out
            have HOa : Hid ((wq.alloc (.cells #[.int .i64 xk, .int .i64 xp, .int .i64 xs, .string xt, .int .i64 xn] 71)).ownsRow w2.heap.size 71 5 (.slice U (a).length uc) (a).length ((a).flatMap Msg.cells)) := ((Fr.refl (fun _ => False) wq).alloc _).own0 HOq.out
            have HFa : Hid (Fr (fun _ => False) w2 (wq.alloc (.cells #[.int .i64 xk, .int .i64 xp, .int .i64 xs, .string xt, .int .i64 xn] 71))) := HFq.out.alloc _
            have hln : (a).length ≤ 1000003 := by have := HGI.out.len; rw [List.length_take] at this; omega
            go_upto_region 20 with (at_builtin; refine wpl_app rfl (.tmp 74) (.tmp 80) 65 rfl w2.heap.size 71 _ 5 48 Try.underlying65 Try.info71 rfl (by decide) (.slice U (a).length uc) (a).length ((a).flatMap Msg.cells) rfl HOa.out ⟨wq.heap.size, 0, none⟩ 1 1 [.int .i64 xk, .int .i64 xp, .int .i64 xs, .string xt, .int .i64 xn] rfl rfl (news_of (blk_new _ _)) (by simp [Value.oneCell']) (by simp [maxLen]; omega) (by omega) HFa.out.size ?_; intro v4 w4 ho4 hg4 hm4; obtain ⟨A4, c4, rfl⟩ := own_slice ho4)
            have HO4 : Hid (w4.ownsRow w2.heap.size 71 5 (.slice A4 ((a) ++ [(⟨xk, xp, xs, xt, xn⟩ : Msg)]).length c4) ((a) ++ [(⟨xk, xp, xs, xt, xn⟩ : Msg)]).length (((a) ++ [(⟨xk, xp, xs, xt, xn⟩ : Msg)]).flatMap Msg.cells)) := by
              show World.ownsRow _ _ _ _ _ _ _
              rw [List.length_append, List.flatMap_append]
              simpa [Msg.cells] using ho4
            have HF4 : Hid (Fr (fun _ => False) w2 w4) := HFa.out.grown hg4 (fun k hk => .inl ((HOa.out.lt k hk).1))
            clear ho4 hg4 hm4 HOa HFa
            rw [show (a).length + 1 = ((a) ++ [(⟨xk, xp, xs, xt, xn⟩ : Msg)]).length from by simp]
            clear c1 c2 e0 e1 e2 e3 e4 y0 y1 y2 y3 y4
            have c1 : w4.cell? ⟨w.heap.size, 1, none⟩ = some (.slice LA ln lc) := HF4.out.cell0 C1.out
            have c2 : w4.cell? ⟨w.heap.size, 2, none⟩ = some (.slice (some ⟨gq, oq, none⟩) G.length gc) := HF4.out.cell0 C2.out
            have e0 : w4.cell? ⟨m0, 0, none⟩ = some (.int .i64 mk) := HF4.out.cell0 E0.out
            have e1 : w4.cell? ⟨m0, 1, none⟩ = some (.int .i64 mp) := HF4.out.cell0 E1.out
            have e2 : w4.cell? ⟨m0, 2, none⟩ = some (.int .i64 ms) := HF4.out.cell0 E2.out
            have e3 : w4.cell? ⟨m0, 3, none⟩ = some (.string mt) := HF4.out.cell0 E3.out
            have e4 : w4.cell? ⟨m0, 4, none⟩ = some (.int .i64 mn) := HF4.out.cell0 E4.out
            have y0 := HF4.out.cell0 Y0.out
            have y1 := HF4.out.cell0 Y1.out
            have y2 := HF4.out.cell0 Y2.out
            have y3 := HF4.out.cell0 Y3.out
            have y4 := HF4.out.cell0 Y4.out
            cases hxe : (xs == ms) with
            | true =>
              go_quiet (fail)
              go_wp2
              exact ⟨⟨i + 1, A4, c4, a ++ [(⟨xk, xp, xs, xt, xn⟩ : Msg)], _, _, by omega, by go_num, rfl, rfl, rfl, by show GI _ _ _ _ _ _; rw [take_one HX.out]; exact HGI.out.on ⟨xk, xp, xs, xt, xn⟩ hlt' _ (by simp [hxe]), HO4.out, HF4.out.drewN _⟩, by simp [intOf]; omega⟩
            | false =>
              go_quiet (fail)
              go_wp2
              exact ⟨⟨i + 1, A4, c4, a ++ [(⟨xk, xp, xs, xt, xn⟩ : Msg)], _, _, by omega, by go_num, rfl, rfl, rfl, by show GI _ _ _ _ _ _; rw [take_one HX.out]; exact HGI.out.on ⟨xk, xp, xs, xt, xn⟩ hlt' _ (by simp [hxe]), HO4.out, HF4.out.drewN _⟩, by simp [intOf]; omega⟩
      | true =>
        cases bd with
        | true =>
          go_upto_region 16 with (fail)
          go_quiet (fail)
          have HFq : Hid (Fr (fun _ => False) w2 (wr.drewN nq)) := HF.out.drewN nq
          have HOq : Hid ((wr.drewN nq).ownsRow w2.heap.size 71 5 (.slice U a.length uc) a.length (a.flatMap Msg.cells)) := HO.out
          generalize wr.drewN nq = wq at HFq HOq ⊢
          clear c1 c2 e0 e1 e2 e3 e4 y0 y1 y2 y3 y4
          have c1 : wq.cell? ⟨w.heap.size, 1, none⟩ = some (.slice LA ln lc) := HFq.out.cell0 C1.out
          have c2 : wq.cell? ⟨w.heap.size, 2, none⟩ = some (.slice (some ⟨gq, oq, none⟩) G.length gc) := HFq.out.cell0 C2.out
          have e0 : wq.cell? ⟨m0, 0, none⟩ = some (.int .i64 mk) := HFq.out.cell0 E0.out
          have e1 : wq.cell? ⟨m0, 1, none⟩ = some (.int .i64 mp) := HFq.out.cell0 E1.out
          have e2 : wq.cell? ⟨m0, 2, none⟩ = some (.int .i64 ms) := HFq.out.cell0 E2.out
          have e3 : wq.cell? ⟨m0, 3, none⟩ = some (.string mt) := HFq.out.cell0 E3.out
          have e4 : wq.cell? ⟨m0, 4, none⟩ = some (.int .i64 mn) := HFq.out.cell0 E4.out
          have y0 := HFq.out.cell0 Y0.out
          have y1 := HFq.out.cell0 Y1.out
          have y2 := HFq.out.cell0 Y2.out
          have y3 := HFq.out.cell0 Y3.out
          have y4 := HFq.out.cell0 Y4.out
          have HOa : Hid ((wq.alloc (.cells #[.int .i64 xk, .int .i64 xp, .int .i64 xs, .string xt, .int .i64 xn] 71)).ownsRow w2.heap.size 71 5 (.slice U (a).length uc) (a).length ((a).flatMap Msg.cells)) := ((Fr.refl (fun _ => False) wq).alloc _).own0 HOq.out
          have HFa : Hid (Fr (fun _ => False) w2 (wq.alloc (.cells #[.int .i64 xk, .int .i64 xp, .int .i64 xs, .string xt, .int .i64 xn] 71))) := HFq.out.alloc _
          have hln : (a).length ≤ 1000003 := by have := HGI.out.len; rw [List.length_take] at this; omega
          go_upto_region 20 with (at_builtin; refine wpl_app rfl (.tmp 74) (.tmp 80) 65 rfl w2.heap.size 71 _ 5 48 Try.underlying65 Try.info71 rfl (by decide) (.slice U (a).length uc) (a).length ((a).flatMap Msg.cells) rfl HOa.out ⟨wq.heap.size, 0, none⟩ 1 1 [.int .i64 xk, .int .i64 xp, .int .i64 xs, .string xt, .int .i64 xn] rfl rfl (news_of (blk_new _ _)) (by simp [Value.oneCell']) (by simp [maxLen]; omega) (by omega) HFa.out.size ?_; intro v4 w4 ho4 hg4 hm4; obtain ⟨A4, c4, rfl⟩ := own_slice ho4)
          have HO4 : Hid (w4.ownsRow w2.heap.size 71 5 (.slice A4 ((a) ++ [(⟨xk, xp, xs, xt, xn⟩ : Msg)]).length c4) ((a) ++ [(⟨xk, xp, xs, xt, xn⟩ : Msg)]).length (((a) ++ [(⟨xk, xp, xs, xt, xn⟩ : Msg)]).flatMap Msg.cells)) := by
            show World.ownsRow _ _ _ _ _ _ _
            rw [List.length_append, List.flatMap_append]
            simpa [Msg.cells] using ho4
          have HF4 : Hid (Fr (fun _ => False) w2 w4) := HFa.out.grown hg4 (fun k hk => .inl ((HOa.out.lt k hk).1))
          clear ho4 hg4 hm4 HOa HFa
          rw [show (a).length + 1 = ((a) ++ [(⟨xk, xp, xs, xt, xn⟩ : Msg)]).length from by simp]
          clear c1 c2 e0 e1 e2 e3 e4 y0 y1 y2 y3 y4
          have c1 : w4.cell? ⟨w.heap.size, 1, none⟩ = some (.slice LA ln lc) := HF4.out.cell0 C1.out
          have c2 : w4.cell? ⟨w.heap.size, 2, none⟩ = some (.slice (some ⟨gq, oq, none⟩) G.length gc) := HF4.out.cell0 C2.out
          have e0 : w4.cell? ⟨m0, 0, none⟩ = some (.int .i64 mk) := HF4.out.cell0 E0.out
          have e1 : w4.cell? ⟨m0, 1, none⟩ = some (.int .i64 mp) := HF4.out.cell0 E1.out
          have e2 : w4.cell? ⟨m0, 2, none⟩ = some (.int .i64 ms) := HF4.out.cell0 E2.out
          have e3 : w4.cell? ⟨m0, 3, none⟩ = some (.string mt) := HF4.out.cell0 E3.out
          have e4 : w4.cell? ⟨m0, 4, none⟩ = some (.int .i64 mn) := HF4.out.cell0 E4.out
          have y0 := HF4.out.cell0 Y0.out
          have y1 := HF4.out.cell0 Y1.out
          have y2 := HF4.out.cell0 Y2.out
          have y3 := HF4.out.cell0 Y3.out
          have y4 := HF4.out.cell0 Y4.out
          go_quiet (fail)
          go_wp2
          exact ⟨⟨i + 1, A4, c4, a ++ [(⟨xk, xp, xs, xt, xn⟩ : Msg)], _, _, by omega, by go_num, rfl, rfl, rfl, by show GI _ _ _ _ _ _; rw [take_one HX.out]; exact HGI.out.done ⟨xk, xp, xs, xt, xn⟩ _ (by simp), HO4.out, HF4.out.drewN _⟩, by simp [intOf]; omega⟩
        | false =>
          by_cases hlt' : ms < xs
          · go_upto_region 16 with (fail)
            go_quiet (fail)
            have HFq : Hid (Fr (fun _ => False) w2 (wr.drewN nq)) := HF.out.drewN nq
            have HOq : Hid ((wr.drewN nq).ownsRow w2.heap.size 71 5 (.slice U a.length uc) a.length (a.flatMap Msg.cells)) := HO.out
            generalize wr.drewN nq = wq at HFq HOq ⊢
            clear c1 c2 e0 e1 e2 e3 e4 y0 y1 y2 y3 y4
            have c1 : wq.cell? ⟨w.heap.size, 1, none⟩ = some (.slice LA ln lc) := HFq.out.cell0 C1.out
            have c2 : wq.cell? ⟨w.heap.size, 2, none⟩ = some (.slice (some ⟨gq, oq, none⟩) G.length gc) := HFq.out.cell0 C2.out
            have e0 : wq.cell? ⟨m0, 0, none⟩ = some (.int .i64 mk) := HFq.out.cell0 E0.out
            have e1 : wq.cell? ⟨m0, 1, none⟩ = some (.int .i64 mp) := HFq.out.cell0 E1.out
            have e2 : wq.cell? ⟨m0, 2, none⟩ = some (.int .i64 ms) := HFq.out.cell0 E2.out
            have e3 : wq.cell? ⟨m0, 3, none⟩ = some (.string mt) := HFq.out.cell0 E3.out
            have e4 : wq.cell? ⟨m0, 4, none⟩ = some (.int .i64 mn) := HFq.out.cell0 E4.out
            have y0 := HFq.out.cell0 Y0.out
            have y1 := HFq.out.cell0 Y1.out
            have y2 := HFq.out.cell0 Y2.out
            have y3 := HFq.out.cell0 Y3.out
            have y4 := HFq.out.cell0 Y4.out
            have HOa : Hid ((wq.alloc (.cells #[.int .i64 mk, .int .i64 mp, .int .i64 ms, .string mt, .int .i64 mn] 71)).ownsRow w2.heap.size 71 5 (.slice U (a).length uc) (a).length ((a).flatMap Msg.cells)) := ((Fr.refl (fun _ => False) wq).alloc _).own0 HOq.out
            have HFa : Hid (Fr (fun _ => False) w2 (wq.alloc (.cells #[.int .i64 mk, .int .i64 mp, .int .i64 ms, .string mt, .int .i64 mn] 71))) := HFq.out.alloc _
            have hln : (a).length ≤ 1000003 := by have := HGI.out.len; rw [List.length_take] at this; omega
            go_upto_region 19 with (at_builtin; refine wpl_app rfl (.tmp 70) (.tmp 72) 65 rfl w2.heap.size 71 _ 5 48 Try.underlying65 Try.info71 rfl (by decide) (.slice U (a).length uc) (a).length ((a).flatMap Msg.cells) rfl HOa.out ⟨wq.heap.size, 0, none⟩ 1 1 [.int .i64 mk, .int .i64 mp, .int .i64 ms, .string mt, .int .i64 mn] rfl rfl (news_of (blk_new _ _)) (by simp [Value.oneCell']) (by simp [maxLen]; omega) (by omega) HFa.out.size ?_; intro v3 w3 ho3 hg3 hm3; obtain ⟨A3, c3, rfl⟩ := own_slice ho3)
            have HO3 : Hid (w3.ownsRow w2.heap.size 71 5 (.slice A3 ((a) ++ [(⟨mk, mp, ms, mt, mn⟩ : Msg)]).length c3) ((a) ++ [(⟨mk, mp, ms, mt, mn⟩ : Msg)]).length (((a) ++ [(⟨mk, mp, ms, mt, mn⟩ : Msg)]).flatMap Msg.cells)) := by
              show World.ownsRow _ _ _ _ _ _ _
              rw [List.length_append, List.flatMap_append]
              simpa [Msg.cells] using ho3
            have HF3 : Hid (Fr (fun _ => False) w2 w3) := HFa.out.grown hg3 (fun k hk => .inl ((HOa.out.lt k hk).1))
            clear ho3 hg3 hm3 HOa HFa
            rw [show (a).length + 1 = ((a) ++ [(⟨mk, mp, ms, mt, mn⟩ : Msg)]).length from by simp]
            clear c1 c2 e0 e1 e2 e3 e4 y0 y1 y2 y3 y4
            obtain ⟨a2, ha2⟩ : ∃ a2, a2 = a ++ [(⟨mk, mp, ms, mt, mn⟩ : Msg)] := ⟨_, rfl⟩
            have HA2 := Lib.hid ha2
            have HL2 : Hid (a2.length = a.length + 1) := by show _ = _; rw [ha2]; simp
            rw [← ha2] at HO3 ⊢
            clear ha2
            have c1 : w3.cell? ⟨w.heap.size, 1, none⟩ = some (.slice LA ln lc) := HF3.out.cell0 C1.out
            have c2 : w3.cell? ⟨w.heap.size, 2, none⟩ = some (.slice (some ⟨gq, oq, none⟩) G.length gc) := HF3.out.cell0 C2.out
            have e0 : w3.cell? ⟨m0, 0, none⟩ = some (.int .i64 mk) := HF3.out.cell0 E0.out
            have e1 : w3.cell? ⟨m0, 1, none⟩ = some (.int .i64 mp) := HF3.out.cell0 E1.out
            have e2 : w3.cell? ⟨m0, 2, none⟩ = some (.int .i64 ms) := HF3.out.cell0 E2.out
            have e3 : w3.cell? ⟨m0, 3, none⟩ = some (.string mt) := HF3.out.cell0 E3.out
            have e4 : w3.cell? ⟨m0, 4, none⟩ = some (.int .i64 mn) := HF3.out.cell0 E4.out
            have y0 := HF3.out.cell0 Y0.out
            have y1 := HF3.out.cell0 Y1.out
            have y2 := HF3.out.cell0 Y2.out
            have y3 := HF3.out.cell0 Y3.out
            have y4 := HF3.out.cell0 Y4.out
            have HOa : Hid ((w3.alloc (.cells #[.int .i64 xk, .int .i64 xp, .int .i64 xs, .string xt, .int .i64 xn] 71)).ownsRow w2.heap.size 71 5 (.slice A3 (a2).length c3) (a2).length ((a2).flatMap Msg.cells)) := ((Fr.refl (fun _ => False) w3).alloc _).own0 HO3.out
            have HFa : Hid (Fr (fun _ => False) w2 (w3.alloc (.cells #[.int .i64 xk, .int .i64 xp, .int .i64 xs, .string xt, .int .i64 xn] 71))) := HF3.out.alloc _
            have hln : (a2).length ≤ 1000003 := by have := HGI.out.len; rw [List.length_take] at this; have := HL2.out; omega
            go_upto_region 20 with (at_builtin; refine wpl_app rfl (.tmp 74) (.tmp 80) 65 rfl w2.heap.size 71 _ 5 48 Try.underlying65 Try.info71 rfl (by decide) (.slice A3 (a2).length c3) (a2).length ((a2).flatMap Msg.cells) rfl HOa.out ⟨w3.heap.size, 0, none⟩ 1 1 [.int .i64 xk, .int .i64 xp, .int .i64 xs, .string xt, .int .i64 xn] rfl rfl (news_of (blk_new _ _)) (by simp [Value.oneCell']) (by simp [maxLen]; omega) (by omega) HFa.out.size ?_; intro v4 w4 ho4 hg4 hm4; obtain ⟨A4, c4, rfl⟩ := own_slice ho4)
            have HO4 : Hid (w4.ownsRow w2.heap.size 71 5 (.slice A4 ((a2) ++ [(⟨xk, xp, xs, xt, xn⟩ : Msg)]).length c4) ((a2) ++ [(⟨xk, xp, xs, xt, xn⟩ : Msg)]).length (((a2) ++ [(⟨xk, xp, xs, xt, xn⟩ : Msg)]).flatMap Msg.cells)) := by
              show World.ownsRow _ _ _ _ _ _ _
              rw [List.length_append, List.flatMap_append]
              simpa [Msg.cells] using ho4
            have HF4 : Hid (Fr (fun _ => False) w2 w4) := HFa.out.grown hg4 (fun k hk => .inl ((HOa.out.lt k hk).1))
            clear ho4 hg4 hm4 HOa HFa
            rw [show (a2).length + 1 = ((a2) ++ [(⟨xk, xp, xs, xt, xn⟩ : Msg)]).length from by simp]
            clear c1 c2 e0 e1 e2 e3 e4 y0 y1 y2 y3 y4
            have c1 : w4.cell? ⟨w.heap.size, 1, none⟩ = some (.slice LA ln lc) := HF4.out.cell0 C1.out
            have c2 : w4.cell? ⟨w.heap.size, 2, none⟩ = some (.slice (some ⟨gq, oq, none⟩) G.length gc) := HF4.out.cell0 C2.out
            have e0 : w4.cell? ⟨m0, 0, none⟩ = some (.int .i64 mk) := HF4.out.cell0 E0.out
            have e1 : w4.cell? ⟨m0, 1, none⟩ = some (.int .i64 mp) := HF4.out.cell0 E1.out
            have e2 : w4.cell? ⟨m0, 2, none⟩ = some (.int .i64 ms) := HF4.out.cell0 E2.out
            have e3 : w4.cell? ⟨m0, 3, none⟩ = some (.string mt) := HF4.out.cell0 E3.out
            have e4 : w4.cell? ⟨m0, 4, none⟩ = some (.int .i64 mn) := HF4.out.cell0 E4.out
            have y0 := HF4.out.cell0 Y0.out
            have y1 := HF4.out.cell0 Y1.out
            have y2 := HF4.out.cell0 Y2.out
            have y3 := HF4.out.cell0 Y3.out
            have y4 := HF4.out.cell0 Y4.out
            go_quiet (fail)
            go_wp2
            exact ⟨⟨i + 1, A4, c4, a2 ++ [(⟨xk, xp, xs, xt, xn⟩ : Msg)], _, _, by omega, by go_num, rfl, rfl, rfl, by show GI _ _ _ _ _ _; rw [take_one HX.out]; exact (by rw [HA2.out]; exact HGI.out.put ⟨xk, xp, xs, xt, xn⟩ hlt' _ (by simp)), HO4.out, HF4.out.drewN _⟩, by simp [intOf]; omega⟩
          · go_upto_region 16 with (fail)
            go_quiet (fail)
            have HFq : Hid (Fr (fun _ => False) w2 (wr.drewN nq)) := HF.out.drewN nq
            have HOq : Hid ((wr.drewN nq).ownsRow w2.heap.size 71 5 (.slice U a.length uc) a.length (a.flatMap Msg.cells)) := HO.out
            generalize wr.drewN nq = wq at HFq HOq ⊢
            clear c1 c2 e0 e1 e2 e3 e4 y0 y1 y2 y3 y4
            have c1 : wq.cell? ⟨w.heap.size, 1, none⟩ = some (.slice LA ln lc) := HFq.out.cell0 C1.out
            have c2 : wq.cell? ⟨w.heap.size, 2, none⟩ = some (.slice (some ⟨gq, oq, none⟩) G.length gc) := HFq.out.cell0 C2.out
            have e0 : wq.cell? ⟨m0, 0, none⟩ = some (.int .i64 mk) := HFq.out.cell0 E0.out
            have e1 : wq.cell? ⟨m0, 1, none⟩ = some (.int .i64 mp) := HFq.out.cell0 E1.out
            have e2 : wq.cell? ⟨m0, 2, none⟩ = some (.int .i64 ms) := HFq.out.cell0 E2.out
            have e3 : wq.cell? ⟨m0, 3, none⟩ = some (.string mt) := HFq.out.cell0 E3.out
            have e4 : wq.cell? ⟨m0, 4, none⟩ = some (.int .i64 mn) := HFq.out.cell0 E4.out
            have y0 := HFq.out.cell0 Y0.out
            have y1 := HFq.out.cell0 Y1.out
            have y2 := HFq.out.cell0 Y2.out
            have y3 := HFq.out.cell0 Y3.out
            have y4 := HFq.out.cell0 Y4.out
            have HOa : Hid ((wq.alloc (.cells #[.int .i64 xk, .int .i64 xp, .int .i64 xs, .string xt, .int .i64 xn] 71)).ownsRow w2.heap.size 71 5 (.slice U (a).length uc) (a).length ((a).flatMap Msg.cells)) := ((Fr.refl (fun _ => False) wq).alloc _).own0 HOq.out
            have HFa : Hid (Fr (fun _ => False) w2 (wq.alloc (.cells #[.int .i64 xk, .int .i64 xp, .int .i64 xs, .string xt, .int .i64 xn] 71))) := HFq.out.alloc _
            have hln : (a).length ≤ 1000003 := by have := HGI.out.len; rw [List.length_take] at this; omega
            go_upto_region 20 with (at_builtin; refine wpl_app rfl (.tmp 74) (.tmp 80) 65 rfl w2.heap.size 71 _ 5 48 Try.underlying65 Try.info71 rfl (by decide) (.slice U (a).length uc) (a).length ((a).flatMap Msg.cells) rfl HOa.out ⟨wq.heap.size, 0, none⟩ 1 1 [.int .i64 xk, .int .i64 xp, .int .i64 xs, .string xt, .int .i64 xn] rfl rfl (news_of (blk_new _ _)) (by simp [Value.oneCell']) (by simp [maxLen]; omega) (by omega) HFa.out.size ?_; intro v4 w4 ho4 hg4 hm4; obtain ⟨A4, c4, rfl⟩ := own_slice ho4)
            have HO4 : Hid (w4.ownsRow w2.heap.size 71 5 (.slice A4 ((a) ++ [(⟨xk, xp, xs, xt, xn⟩ : Msg)]).length c4) ((a) ++ [(⟨xk, xp, xs, xt, xn⟩ : Msg)]).length (((a) ++ [(⟨xk, xp, xs, xt, xn⟩ : Msg)]).flatMap Msg.cells)) := by
              show World.ownsRow _ _ _ _ _ _ _
              rw [List.length_append, List.flatMap_append]
              simpa [Msg.cells] using ho4
            have HF4 : Hid (Fr (fun _ => False) w2 w4) := HFa.out.grown hg4 (fun k hk => .inl ((HOa.out.lt k hk).1))
            clear ho4 hg4 hm4 HOa HFa
            rw [show (a).length + 1 = ((a) ++ [(⟨xk, xp, xs, xt, xn⟩ : Msg)]).length from by simp]
            clear c1 c2 e0 e1 e2 e3 e4 y0 y1 y2 y3 y4
            have c1 : w4.cell? ⟨w.heap.size, 1, none⟩ = some (.slice LA ln lc) := HF4.out.cell0 C1.out
            have c2 : w4.cell? ⟨w.heap.size, 2, none⟩ = some (.slice (some ⟨gq, oq, none⟩) G.length gc) := HF4.out.cell0 C2.out
            have e0 : w4.cell? ⟨m0, 0, none⟩ = some (.int .i64 mk) := HF4.out.cell0 E0.out
            have e1 : w4.cell? ⟨m0, 1, none⟩ = some (.int .i64 mp) := HF4.out.cell0 E1.out
            have e2 : w4.cell? ⟨m0, 2, none⟩ = some (.int .i64 ms) := HF4.out.cell0 E2.out
            have e3 : w4.cell? ⟨m0, 3, none⟩ = some (.string mt) := HF4.out.cell0 E3.out
            have e4 : w4.cell? ⟨m0, 4, none⟩ = some (.int .i64 mn) := HF4.out.cell0 E4.out
            have y0 := HF4.out.cell0 Y0.out
            have y1 := HF4.out.cell0 Y1.out
            have y2 := HF4.out.cell0 Y2.out
            have y3 := HF4.out.cell0 Y3.out
            have y4 := HF4.out.cell0 Y4.out
            go_quiet (fail)
            go_wp2
            exact ⟨⟨i + 1, A4, c4, a ++ [(⟨xk, xp, xs, xt, xn⟩ : Msg)], _, _, by omega, by go_num, rfl, rfl, rfl, by show GI _ _ _ _ _ _; rw [take_one HX.out]; exact HGI.out.on ⟨xk, xp, xs, xt, xn⟩ hlt' _ (by simp), HO4.out, HF4.out.drewN _⟩, by simp [intOf]; omega⟩

    · have hii : ¬ (i : Int) < G.length := by omega
      have hi' : i = G.length := by omega
      have HI := Lib.hid hi'
      clear hi'
      have c1 : wr.cell? ⟨w.heap.size, 1, none⟩ = some (.slice LA ln lc) := HF2.out.cell0 C1.out
      have c2 : wr.cell? ⟨w.heap.size, 2, none⟩ = some (.slice GA G.length gc) := HF2.out.cell0 C2.out
      have e0 : wr.cell? ⟨m0, 0, none⟩ = some (.int .i64 mk) := HF2.out.cell0 E0.out
      have e1 : wr.cell? ⟨m0, 1, none⟩ = some (.int .i64 mp) := HF2.out.cell0 E1.out
      have e2 : wr.cell? ⟨m0, 2, none⟩ = some (.int .i64 ms) := HF2.out.cell0 E2.out
      have e3 : wr.cell? ⟨m0, 3, none⟩ = some (.string mt) := HF2.out.cell0 E3.out
      have e4 : wr.cell? ⟨m0, 4, none⟩ = some (.int .i64 mn) := HF2.out.cell0 E4.out
      cases bt with
      | true =>
        cases bd with
        | true =>
          go_upto_region 25 with (fail)
          clear c1 c2 e0 e1 e2 e3 e4
          have HB25 := Lib.hid (HF2.out.blk0 HN1.out)
          have HM25 := Lib.hid (HF2.out.blk0 HNM.out)
          have H125 := Lib.hid (HF2.out.blk0 HN2.out)
          have H225 := Lib.hid (HF2.out.blk0 HN3.out)
          have HF25 : Hid (Fr (fun _ => False) w wr) := HF.out.trans HF2.out (fun _ _ h => h)
          have HGR : Hid (GotR ⟨mk, mp, ms, mt, mn⟩ G G) := by
            have hg := HGI.out
            rw [HI.out, List.take_length] at hg
            exact GotR.there hg
          have hord : w.heap.size + 4 ≤ w2.heap.size ∧ m0 = w.heap.size + 1 ∧ b1 = w.heap.size + 1 + 1 ∧ b2 = w.heap.size + 1 + 1 + 1 := ⟨by have := HSZ.out; omega, HM0.out, HB1.out, HB2.out⟩
          have HORD := Lib.hid hord
          generalize hb0 : w.heap.size = b0 at HB25 hord ⊢
          have HB0 := Lib.hid hb0
          clear hb0
          have k0 : wr.cell? ⟨b0, 0, none⟩ = some (.int .i64 n) := blk_cell HB25.out 0
          have k1 : wr.cell? ⟨b0, 1, none⟩ = some (.slice LA ln lc) := blk_cell HB25.out 1
          have k2 : wr.cell? ⟨b0, 2, none⟩ = some (.slice GA G.length gc) := blk_cell HB25.out 2
          have k3 : wr.cell? ⟨m0, 2, none⟩ = some (.int .i64 ms) := blk_cell HM25.out 2
          have hS : ∀ W : World, Fr (fun k => k = b1 ∨ k = b2) wr W → W.cell? ⟨b0, 0, none⟩ = some (.int .i64 n) ∧ W.cell? ⟨b0, 1, none⟩ = some (.slice LA ln lc) ∧ W.cell? ⟨b0, 2, none⟩ = some (.slice GA G.length gc) ∧ W.cell? ⟨m0, 2, none⟩ = some (.int .i64 ms) := fun W hF => by
            have t0 : ¬ (b0 = b1 ∨ b0 = b2) := by omega
            have t3 : ¬ (m0 = b1 ∨ m0 = b2) := by omega
            exact ⟨hF.cell k0 t0, hF.cell k1 t0, hF.cell k2 t0, hF.cell k3 t3⟩
          have HS := Lib.hid hS
          have hne12 : ¬ b1 = b2 := by omega
          have hne21 : ¬ b2 = b1 := by omega
          clear hS k0 k1 k2 k3 hord
          have z0 := blk_frozen H125.out 0
          have z1 := blk_frozen H125.out 1
          have z2 := blk_frozen H125.out 2
          have q0 : wr.cell? ⟨b1, 0, none⟩ = some (.int .i64 0) := blk_cell H125.out 0
          have q1 : wr.cell? ⟨b1, 1, none⟩ = some (.slice none 0 0) := blk_cell H125.out 1
          have q2 : wr.cell? ⟨b1, 2, none⟩ = some (.slice none 0 0) := blk_cell H125.out 2
          have x0 := blk_frozen H225.out 0
          have x1 := blk_frozen H225.out 1
          have x2 := blk_frozen H225.out 2
          have x3 := blk_frozen H225.out 3
          have x4 := blk_frozen H225.out 4
          have p0 : wr.cell? ⟨b2, 0, none⟩ = some (.int .i64 0) := blk_cell H225.out 0
          have p1 : wr.cell? ⟨b2, 1, none⟩ = some (.int .i64 0) := blk_cell H225.out 1
          have p2 : wr.cell? ⟨b2, 2, none⟩ = some (.int .i64 0) := blk_cell H225.out 2
          have p3 : wr.cell? ⟨b2, 3, none⟩ = some (.string ⟨#[]⟩) := blk_cell H225.out 3
          have p4 : wr.cell? ⟨b2, 4, none⟩ = some (.int .i64 0) := blk_cell H225.out 4
          have hf3 : Fr (fun k => k = b1 ∨ k = b2) wr (((wr.setCell ⟨b1, 0, none⟩ (.int .i64 n)).setCell ⟨b1, 1, none⟩ (.slice LA ln lc)).setCell ⟨b1, 2, none⟩ (.slice GA G.length gc)) := (set3_frx wr b1 (.int .i64 n) (.slice LA ln lc) (.slice GA G.length gc)).mono (fun _ _ h => .inl h)
          have HF3 := Lib.hid hf3
          have HF5 := Lib.hid (hf3.trans' (set5_fr _ b2 (.int .i64 2) (.int .i64 n) (.int .i64 ms) (.string ⟨#[]⟩) (.int .i64 0)) (S'' := fun k => k = b1 ∨ k = b2) (fun _ _ h => h) (fun _ _ h => .inr h))
          clear hf3
          refine wp_region_noPanic ?_
          refine wp_region_T (fun W => W.cell? ⟨b0, 0, none⟩ = some (.int .i64 n) ∧ W.cell? ⟨b0, 1, none⟩ = some (.slice LA ln lc) ∧ W.cell? ⟨b0, 2, none⟩ = some (.slice GA G.length gc) ∧ W.cell? ⟨m0, 2, none⟩ = some (.int .i64 ms)) 8 (by kernel_rfl) (HS.out _ (Fr.refl _ _).drew) (fun hS0 => ?_)
          refine wpAnyT_taked (i := 0) (d := 104) (v := ?_) rfl rfl (by kernel_rfl) (by kernel_rfl) (by kernel_rfl) (by kernel_rfl) rfl (fun _ _ _ h => h) (Or.inl ⟨by rfl, ?_⟩) (by assumption) ?_
          rotate_left 1
          · rintro w' ⟨hs0, hs1, hs2, hs3⟩
            go_simp
            try (with_reducible rfl)
          try simp only [Act.put, List.setIfInBounds_toArray, List.set_cons_zero, List.set_cons_succ]
          refine wpAnyT_taked (i := 1) (d := 105) (v := ?_) rfl rfl (by kernel_rfl) (by kernel_rfl) (by kernel_rfl) (by kernel_rfl) rfl (fun _ _ _ h => h) (Or.inl ⟨by rfl, ?_⟩) (by assumption) ?_
          rotate_left 1
          · rintro w' ⟨hs0, hs1, hs2, hs3⟩
            go_simp
            try (with_reducible rfl)
          try simp only [Act.put, List.setIfInBounds_toArray, List.set_cons_zero, List.set_cons_succ]
          refine wpAnyT_taked (i := 2) (d := 106) (v := ?_) rfl rfl (by kernel_rfl) (by kernel_rfl) (by kernel_rfl) (by kernel_rfl) rfl (fun _ _ _ h => h) (Or.inl ⟨by rfl, ?_⟩) (by assumption) ?_
          rotate_left 1
          · rintro w' ⟨hs0, hs1, hs2, hs3⟩
            go_simp
            try (with_reducible rfl)
          try simp only [Act.put, List.setIfInBounds_toArray, List.set_cons_zero, List.set_cons_succ]
          refine wpAnyT_taked (i := 3) (d := 107) (v := ?_) rfl rfl (by kernel_rfl) (by kernel_rfl) (by kernel_rfl) (by kernel_rfl) rfl (fun _ _ _ h => h) (Or.inl ⟨by rfl, ?_⟩) (by assumption) ?_
          rotate_left 1
          · rintro w' ⟨hs0, hs1, hs2, hs3⟩
            go_simp
            try (with_reducible rfl)
          try simp only [Act.put, List.setIfInBounds_toArray, List.set_cons_zero, List.set_cons_succ]
          refine wpAnyT_taked (i := 4) (d := 108) (v := ?_) rfl rfl (by kernel_rfl) (by kernel_rfl) (by kernel_rfl) (by kernel_rfl) rfl (fun _ _ _ h => h) (Or.inl ⟨by rfl, ?_⟩) (by assumption) ?_
          rotate_left 1
          · rintro w' ⟨hs0, hs1, hs2, hs3⟩
            go_simp
            try (with_reducible rfl)
          try simp only [Act.put, List.setIfInBounds_toArray, List.set_cons_zero, List.set_cons_succ]
          refine wpAnyT_taked (i := 5) (d := 109) (v := ?_) rfl rfl (by kernel_rfl) (by kernel_rfl) (by kernel_rfl) (by kernel_rfl) rfl (fun _ _ _ h => h) (Or.inl ⟨by rfl, ?_⟩) (by assumption) ?_
          rotate_left 1
          · rintro w' ⟨hs0, hs1, hs2, hs3⟩
            go_simp
            try (with_reducible rfl)
          try simp only [Act.put, List.setIfInBounds_toArray, List.set_cons_zero, List.set_cons_succ]
          clear hS0
          refine wpAnyT_one (i := 6) (by kernel_rfl) rfl rfl (fun K hK => ?_)
          go_simp
          refine hK.out _ _ (HS.out _ HF3.out.drew) ?_
          clear hK K
          try simp only [Act.put, List.setIfInBounds_toArray, List.set_cons_zero, List.set_cons_succ]
          refine wpAnyT_one (i := 7) (by kernel_rfl) rfl rfl (fun K hK => ?_)
          go_simp
          refine hK.out _ _ (HS.out _ HF5.out.drew) ?_
          clear hK K
          try simp only [Act.put, List.setIfInBounds_toArray, List.set_cons_zero, List.set_cons_succ]
          refine wpAnyT_last (by kernel_rfl) rfl (by kernel_rfl) (fun K hK => ?_)
          go_simp
          refine hK.out _ _ ?_
          clear hK K
          refine NoPanic.normal ?_
          go_wp2
          have h3 := set3 (x := .int .i64 n) (y := .slice LA ln lc) (z := .slice GA G.length gc) H125.out
          have hF3 := set3_frx wr b1 (.int .i64 n) (.slice LA ln lc) (.slice GA G.length gc)
          have h5 := set5 (a := .int .i64 2) (b := .int .i64 n) (c := .int .i64 ms) (d := .string ⟨#[]⟩) (e := .int .i64 0) (hF3.blk H225.out hne21)
          have hF5 := set5_fr (((wr.setCell ⟨b1, 0, none⟩ (.int .i64 n)).setCell ⟨b1, 1, none⟩ (.slice LA ln lc)).setCell ⟨b1, 2, none⟩ (.slice GA G.length gc)) b2 (.int .i64 2) (.int .i64 n) (.int .i64 ms) (.string ⟨#[]⟩) (.int .i64 0)
          have h3f := hF5.blk h3 hne12
          have HFIN : Fr (fun _ => False) w _ := HF25.out.trans' HF5.out.drew (fun _ _ h => h) (fun k hk e => by have := HORD.out; rcases e with e | e <;> omega)
          refine rhear_end (m := ack n ms) (blk_drew h3f) (blk_drew h5) rfl rfl rfl ⟨GA, gc, G, rfl, HGR.out, HR0.out.fr HFIN (fun _ _ _ h => h), HFIN, .inl rfl⟩
        | false =>
          have HOa : Hid ((wr.alloc (.cells #[.int .i64 mk, .int .i64 mp, .int .i64 ms, .string mt, .int .i64 mn] 71)).ownsRow w2.heap.size 71 5 (.slice U (a).length uc) (a).length ((a).flatMap Msg.cells)) := ((Fr.refl (fun _ => False) wr).alloc _).own0 HO.out
          have HFa : Hid (Fr (fun _ => False) w2 (wr.alloc (.cells #[.int .i64 mk, .int .i64 mp, .int .i64 ms, .string mt, .int .i64 mn] 71))) := HF2.out.alloc _
          have hln : (a).length ≤ 1000003 := by have := HGI.out.len; rw [List.length_take] at this; omega
          go_upto_region 23 with (at_builtin; refine wpl_app rfl (.tmp 96) (.tmp 98) 65 rfl w2.heap.size 71 _ 5 48 Try.underlying65 Try.info71 rfl (by decide) (.slice U (a).length uc) (a).length ((a).flatMap Msg.cells) rfl HOa.out ⟨wr.heap.size, 0, none⟩ 1 1 [.int .i64 mk, .int .i64 mp, .int .i64 ms, .string mt, .int .i64 mn] rfl rfl (news_of (blk_new _ _)) (by simp [Value.oneCell']) (by simp [maxLen]; omega) (by omega) HFa.out.size ?_; intro v3 w3 ho3 hg3 hm3; obtain ⟨A3, c3, rfl⟩ := own_slice ho3)
          have HO3 : Hid (w3.ownsRow w2.heap.size 71 5 (.slice A3 ((a) ++ [(⟨mk, mp, ms, mt, mn⟩ : Msg)]).length c3) ((a) ++ [(⟨mk, mp, ms, mt, mn⟩ : Msg)]).length (((a) ++ [(⟨mk, mp, ms, mt, mn⟩ : Msg)]).flatMap Msg.cells)) := by
            show World.ownsRow _ _ _ _ _ _ _
            rw [List.length_append, List.flatMap_append]
            simpa [Msg.cells] using ho3
          have HF3 : Hid (Fr (fun _ => False) w2 w3) := HFa.out.grown hg3 (fun k hk => .inl ((HOa.out.lt k hk).1))
          clear ho3 hg3 hm3 HOa HFa
          rw [show (a).length + 1 = ((a) ++ [(⟨mk, mp, ms, mt, mn⟩ : Msg)]).length from by simp]
          obtain ⟨a2, ha2⟩ : ∃ a2, a2 = a ++ [(⟨mk, mp, ms, mt, mn⟩ : Msg)] := ⟨_, rfl⟩
          have HA2 := Lib.hid ha2
          rw [← ha2] at HO3 ⊢
          clear ha2
          clear c1 c2 e0 e1 e2 e3 e4
          have c1 : w3.cell? ⟨w.heap.size, 1, none⟩ = some (.slice LA ln lc) := HF3.out.cell0 C1.out
          have c2 : w3.cell? ⟨w.heap.size, 2, none⟩ = some (.slice GA G.length gc) := HF3.out.cell0 C2.out
          have e0 : w3.cell? ⟨m0, 0, none⟩ = some (.int .i64 mk) := HF3.out.cell0 E0.out
          have e1 : w3.cell? ⟨m0, 1, none⟩ = some (.int .i64 mp) := HF3.out.cell0 E1.out
          have e2 : w3.cell? ⟨m0, 2, none⟩ = some (.int .i64 ms) := HF3.out.cell0 E2.out
          have e3 : w3.cell? ⟨m0, 3, none⟩ = some (.string mt) := HF3.out.cell0 E3.out
          have e4 : w3.cell? ⟨m0, 4, none⟩ = some (.int .i64 mn) := HF3.out.cell0 E4.out
          go_upto_region 25 with (fail)
          clear c1 c2 e0 e1 e2 e3 e4
          have HB25 := Lib.hid (HF3.out.blk0 HN1.out)
          have HM25 := Lib.hid (HF3.out.blk0 HNM.out)
          have H125 := Lib.hid (HF3.out.blk0 HN2.out)
          have H225 := Lib.hid (HF3.out.blk0 HN3.out)
          have HF25 : Hid (Fr (fun _ => False) w w3) := HF.out.trans HF3.out (fun _ _ h => h)
          have HGR : Hid (GotR ⟨mk, mp, ms, mt, mn⟩ G G) := by
            have hg := HGI.out
            rw [HI.out, List.take_length] at hg
            exact GotR.there hg
          have hord : w.heap.size + 4 ≤ w2.heap.size ∧ m0 = w.heap.size + 1 ∧ b1 = w.heap.size + 1 + 1 ∧ b2 = w.heap.size + 1 + 1 + 1 := ⟨by have := HSZ.out; omega, HM0.out, HB1.out, HB2.out⟩
          have HORD := Lib.hid hord
          generalize hb0 : w.heap.size = b0 at HB25 hord ⊢
          have HB0 := Lib.hid hb0
          clear hb0
          have k0 : w3.cell? ⟨b0, 0, none⟩ = some (.int .i64 n) := blk_cell HB25.out 0
          have k1 : w3.cell? ⟨b0, 1, none⟩ = some (.slice LA ln lc) := blk_cell HB25.out 1
          have k2 : w3.cell? ⟨b0, 2, none⟩ = some (.slice GA G.length gc) := blk_cell HB25.out 2
          have k3 : w3.cell? ⟨m0, 2, none⟩ = some (.int .i64 ms) := blk_cell HM25.out 2
          have hS : ∀ W : World, Fr (fun k => k = b1 ∨ k = b2) w3 W → W.cell? ⟨b0, 0, none⟩ = some (.int .i64 n) ∧ W.cell? ⟨b0, 1, none⟩ = some (.slice LA ln lc) ∧ W.cell? ⟨b0, 2, none⟩ = some (.slice GA G.length gc) ∧ W.cell? ⟨m0, 2, none⟩ = some (.int .i64 ms) := fun W hF => by
            have t0 : ¬ (b0 = b1 ∨ b0 = b2) := by omega
            have t3 : ¬ (m0 = b1 ∨ m0 = b2) := by omega
            exact ⟨hF.cell k0 t0, hF.cell k1 t0, hF.cell k2 t0, hF.cell k3 t3⟩
          have HS := Lib.hid hS
          have hne12 : ¬ b1 = b2 := by omega
          have hne21 : ¬ b2 = b1 := by omega
          clear hS k0 k1 k2 k3 hord
          have z0 := blk_frozen H125.out 0
          have z1 := blk_frozen H125.out 1
          have z2 := blk_frozen H125.out 2
          have q0 : w3.cell? ⟨b1, 0, none⟩ = some (.int .i64 0) := blk_cell H125.out 0
          have q1 : w3.cell? ⟨b1, 1, none⟩ = some (.slice none 0 0) := blk_cell H125.out 1
          have q2 : w3.cell? ⟨b1, 2, none⟩ = some (.slice none 0 0) := blk_cell H125.out 2
          have x0 := blk_frozen H225.out 0
          have x1 := blk_frozen H225.out 1
          have x2 := blk_frozen H225.out 2
          have x3 := blk_frozen H225.out 3
          have x4 := blk_frozen H225.out 4
          have p0 : w3.cell? ⟨b2, 0, none⟩ = some (.int .i64 0) := blk_cell H225.out 0
          have p1 : w3.cell? ⟨b2, 1, none⟩ = some (.int .i64 0) := blk_cell H225.out 1
          have p2 : w3.cell? ⟨b2, 2, none⟩ = some (.int .i64 0) := blk_cell H225.out 2
          have p3 : w3.cell? ⟨b2, 3, none⟩ = some (.string ⟨#[]⟩) := blk_cell H225.out 3
          have p4 : w3.cell? ⟨b2, 4, none⟩ = some (.int .i64 0) := blk_cell H225.out 4
          have hf3 : Fr (fun k => k = b1 ∨ k = b2) w3 (((w3.setCell ⟨b1, 0, none⟩ (.int .i64 n)).setCell ⟨b1, 1, none⟩ (.slice LA ln lc)).setCell ⟨b1, 2, none⟩ (.slice GA G.length gc)) := (set3_frx w3 b1 (.int .i64 n) (.slice LA ln lc) (.slice GA G.length gc)).mono (fun _ _ h => .inl h)
          have HF3 := Lib.hid hf3
          have HF5 := Lib.hid (hf3.trans' (set5_fr _ b2 (.int .i64 2) (.int .i64 n) (.int .i64 ms) (.string ⟨#[]⟩) (.int .i64 0)) (S'' := fun k => k = b1 ∨ k = b2) (fun _ _ h => h) (fun _ _ h => .inr h))
          clear hf3
          refine wp_region_noPanic ?_
          refine wp_region_T (fun W => W.cell? ⟨b0, 0, none⟩ = some (.int .i64 n) ∧ W.cell? ⟨b0, 1, none⟩ = some (.slice LA ln lc) ∧ W.cell? ⟨b0, 2, none⟩ = some (.slice GA G.length gc) ∧ W.cell? ⟨m0, 2, none⟩ = some (.int .i64 ms)) 8 (by kernel_rfl) (HS.out _ (Fr.refl _ _).drew) (fun hS0 => ?_)
          refine wpAnyT_taked (i := 0) (d := 104) (v := ?_) rfl rfl (by kernel_rfl) (by kernel_rfl) (by kernel_rfl) (by kernel_rfl) rfl (fun _ _ _ h => h) (Or.inl ⟨by rfl, ?_⟩) (by assumption) ?_
          rotate_left 1
          · rintro w' ⟨hs0, hs1, hs2, hs3⟩
            go_simp
            try (with_reducible rfl)
          try simp only [Act.put, List.setIfInBounds_toArray, List.set_cons_zero, List.set_cons_succ]
          refine wpAnyT_taked (i := 1) (d := 105) (v := ?_) rfl rfl (by kernel_rfl) (by kernel_rfl) (by kernel_rfl) (by kernel_rfl) rfl (fun _ _ _ h => h) (Or.inl ⟨by rfl, ?_⟩) (by assumption) ?_
          rotate_left 1
          · rintro w' ⟨hs0, hs1, hs2, hs3⟩
            go_simp
            try (with_reducible rfl)
          try simp only [Act.put, List.setIfInBounds_toArray, List.set_cons_zero, List.set_cons_succ]
          refine wpAnyT_taked (i := 2) (d := 106) (v := ?_) rfl rfl (by kernel_rfl) (by kernel_rfl) (by kernel_rfl) (by kernel_rfl) rfl (fun _ _ _ h => h) (Or.inl ⟨by rfl, ?_⟩) (by assumption) ?_
          rotate_left 1
          · rintro w' ⟨hs0, hs1, hs2, hs3⟩
            go_simp
            try (with_reducible rfl)
          try simp only [Act.put, List.setIfInBounds_toArray, List.set_cons_zero, List.set_cons_succ]
          refine wpAnyT_taked (i := 3) (d := 107) (v := ?_) rfl rfl (by kernel_rfl) (by kernel_rfl) (by kernel_rfl) (by kernel_rfl) rfl (fun _ _ _ h => h) (Or.inl ⟨by rfl, ?_⟩) (by assumption) ?_
          rotate_left 1
          · rintro w' ⟨hs0, hs1, hs2, hs3⟩
            go_simp
            try (with_reducible rfl)
          try simp only [Act.put, List.setIfInBounds_toArray, List.set_cons_zero, List.set_cons_succ]
          refine wpAnyT_taked (i := 4) (d := 108) (v := ?_) rfl rfl (by kernel_rfl) (by kernel_rfl) (by kernel_rfl) (by kernel_rfl) rfl (fun _ _ _ h => h) (Or.inl ⟨by rfl, ?_⟩) (by assumption) ?_
          rotate_left 1
          · rintro w' ⟨hs0, hs1, hs2, hs3⟩
            go_simp
            try (with_reducible rfl)
          try simp only [Act.put, List.setIfInBounds_toArray, List.set_cons_zero, List.set_cons_succ]
          refine wpAnyT_taked (i := 5) (d := 109) (v := ?_) rfl rfl (by kernel_rfl) (by kernel_rfl) (by kernel_rfl) (by kernel_rfl) rfl (fun _ _ _ h => h) (Or.inl ⟨by rfl, ?_⟩) (by assumption) ?_
          rotate_left 1
          · rintro w' ⟨hs0, hs1, hs2, hs3⟩
            go_simp
            try (with_reducible rfl)
          try simp only [Act.put, List.setIfInBounds_toArray, List.set_cons_zero, List.set_cons_succ]
          clear hS0
          refine wpAnyT_one (i := 6) (by kernel_rfl) rfl rfl (fun K hK => ?_)
          go_simp
          refine hK.out _ _ (HS.out _ HF3.out.drew) ?_
          clear hK K
          try simp only [Act.put, List.setIfInBounds_toArray, List.set_cons_zero, List.set_cons_succ]
          refine wpAnyT_one (i := 7) (by kernel_rfl) rfl rfl (fun K hK => ?_)
          go_simp
          refine hK.out _ _ (HS.out _ HF5.out.drew) ?_
          clear hK K
          try simp only [Act.put, List.setIfInBounds_toArray, List.set_cons_zero, List.set_cons_succ]
          refine wpAnyT_last (by kernel_rfl) rfl (by kernel_rfl) (fun K hK => ?_)
          go_simp
          refine hK.out _ _ ?_
          clear hK K
          refine NoPanic.normal ?_
          go_wp2
          have h3 := set3 (x := .int .i64 n) (y := .slice LA ln lc) (z := .slice GA G.length gc) H125.out
          have hF3 := set3_frx w3 b1 (.int .i64 n) (.slice LA ln lc) (.slice GA G.length gc)
          have h5 := set5 (a := .int .i64 2) (b := .int .i64 n) (c := .int .i64 ms) (d := .string ⟨#[]⟩) (e := .int .i64 0) (hF3.blk H225.out hne21)
          have hF5 := set5_fr (((w3.setCell ⟨b1, 0, none⟩ (.int .i64 n)).setCell ⟨b1, 1, none⟩ (.slice LA ln lc)).setCell ⟨b1, 2, none⟩ (.slice GA G.length gc)) b2 (.int .i64 2) (.int .i64 n) (.int .i64 ms) (.string ⟨#[]⟩) (.int .i64 0)
          have h3f := hF5.blk h3 hne12
          have HFIN : Fr (fun _ => False) w _ := HF25.out.trans' HF5.out.drew (fun _ _ h => h) (fun k hk e => by have := HORD.out; rcases e with e | e <;> omega)
          refine rhear_end (m := ack n ms) (blk_drew h3f) (blk_drew h5) rfl rfl rfl ⟨GA, gc, G, rfl, HGR.out, HR0.out.fr HFIN (fun _ _ _ h => h), HFIN, .inl rfl⟩
      | false =>
        cases bd with
        | true =>
          have f2 := blk_frozen (HF2.out.blk0 HN1.out) 2
          go_upto_region 25 with (fail)
          clear c1 c2 e0 e1 e2 e3 e4
          clear f2
          have hgU : ∀ g o, U = some ⟨g, o, none⟩ → w2.heap.size ≤ g := fun g o e => by have h := HO.out; rw [e] at h; exact (h.lt g rfl).1
          have hbk := HF2.out.blk0 HN1.out
          have hbl : w.heap.size + 4 = w2.heap.size := HSZ.out.symm
          have hF6 : Fr (fun k => k = w.heap.size) wr (wr.setCell ⟨w.heap.size, 2, none⟩ (.slice U (a).length uc)) := Fr.setCell (S := fun k => k = w.heap.size) (p := ⟨w.heap.size, 2, none⟩) (Fr.refl _ _) (.inr rfl) _
          have hb6 : (wr.setCell ⟨w.heap.size, 2, none⟩ (.slice U (a).length uc)).heap[w.heap.size]? = some (.cells #[.int .i64 n, .slice LA ln lc, .slice U (a).length uc] 79 (0, 0)) := by simpa using blk_set hbk 2 (.slice U (a).length uc)
          have HB25 := Lib.hid hb6
          have HM25 := Lib.hid (hF6.blk (HF2.out.blk0 HNM.out) (by have := HM0.out; omega))
          have H125 := Lib.hid (hF6.blk (HF2.out.blk0 HN2.out) (by have := HB1.out; omega))
          have H225 := Lib.hid (hF6.blk (HF2.out.blk0 HN3.out) (by have := HB2.out; omega))
          have HR25 := Lib.hid ((readM_own HO.out).fr hF6 (fun g o e h => by have := hgU g o e; omega))
          have HF25 : Hid (Fr (fun _ => False) w (wr.setCell ⟨w.heap.size, 2, none⟩ (.slice U (a).length uc))) := (HF.out.trans HF2.out (fun _ _ h => h)).trans hF6 (fun k hk e => by omega)
          have HGR : Hid (GotR ⟨mk, mp, ms, mt, mn⟩ G (a)) := by
            have hg := HGI.out
            rw [HI.out, List.take_length] at hg
            exact GotR.done hg
          have HA : Hid (U = GA ∨ ∀ g o, U = some ⟨g, o, none⟩ → w.heap.size ≤ g) := .inr (fun g o e => by have := hgU g o e; omega)
          have HAB : Hid (∀ g o, U = some ⟨g, o, none⟩ → ¬ (g = w.heap.size + 1 + 1 ∨ g = w.heap.size + 1 + 1 + 1)) := fun g o e h => by have := hgU g o e; omega
          clear hF6 hb6 hbk hbl hgU
          generalize wr.setCell ⟨w.heap.size, 2, none⟩ (.slice U (a).length uc) = wz at *
          generalize hgl : (a).length = gl at *
          have HGL := Lib.hid hgl
          clear hgl
          have hord : w.heap.size + 4 ≤ w2.heap.size ∧ m0 = w.heap.size + 1 ∧ b1 = w.heap.size + 1 + 1 ∧ b2 = w.heap.size + 1 + 1 + 1 := ⟨by have := HSZ.out; omega, HM0.out, HB1.out, HB2.out⟩
          have HORD := Lib.hid hord
          generalize hb0 : w.heap.size = b0 at HB25 hord ⊢
          have HB0 := Lib.hid hb0
          clear hb0
          have k0 : wz.cell? ⟨b0, 0, none⟩ = some (.int .i64 n) := blk_cell HB25.out 0
          have k1 : wz.cell? ⟨b0, 1, none⟩ = some (.slice LA ln lc) := blk_cell HB25.out 1
          have k2 : wz.cell? ⟨b0, 2, none⟩ = some (.slice U gl uc) := blk_cell HB25.out 2
          have k3 : wz.cell? ⟨m0, 2, none⟩ = some (.int .i64 ms) := blk_cell HM25.out 2
          have hS : ∀ W : World, Fr (fun k => k = b1 ∨ k = b2) wz W → W.cell? ⟨b0, 0, none⟩ = some (.int .i64 n) ∧ W.cell? ⟨b0, 1, none⟩ = some (.slice LA ln lc) ∧ W.cell? ⟨b0, 2, none⟩ = some (.slice U gl uc) ∧ W.cell? ⟨m0, 2, none⟩ = some (.int .i64 ms) := fun W hF => by
            have t0 : ¬ (b0 = b1 ∨ b0 = b2) := by omega
            have t3 : ¬ (m0 = b1 ∨ m0 = b2) := by omega
            exact ⟨hF.cell k0 t0, hF.cell k1 t0, hF.cell k2 t0, hF.cell k3 t3⟩
          have HS := Lib.hid hS
          have hne12 : ¬ b1 = b2 := by omega
          have hne21 : ¬ b2 = b1 := by omega
          clear hS k0 k1 k2 k3 hord
          have z0 := blk_frozen H125.out 0
          have z1 := blk_frozen H125.out 1
          have z2 := blk_frozen H125.out 2
          have q0 : wz.cell? ⟨b1, 0, none⟩ = some (.int .i64 0) := blk_cell H125.out 0
          have q1 : wz.cell? ⟨b1, 1, none⟩ = some (.slice none 0 0) := blk_cell H125.out 1
          have q2 : wz.cell? ⟨b1, 2, none⟩ = some (.slice none 0 0) := blk_cell H125.out 2
          have x0 := blk_frozen H225.out 0
          have x1 := blk_frozen H225.out 1
          have x2 := blk_frozen H225.out 2
          have x3 := blk_frozen H225.out 3
          have x4 := blk_frozen H225.out 4
          have p0 : wz.cell? ⟨b2, 0, none⟩ = some (.int .i64 0) := blk_cell H225.out 0
          have p1 : wz.cell? ⟨b2, 1, none⟩ = some (.int .i64 0) := blk_cell H225.out 1
          have p2 : wz.cell? ⟨b2, 2, none⟩ = some (.int .i64 0) := blk_cell H225.out 2
          have p3 : wz.cell? ⟨b2, 3, none⟩ = some (.string ⟨#[]⟩) := blk_cell H225.out 3
          have p4 : wz.cell? ⟨b2, 4, none⟩ = some (.int .i64 0) := blk_cell H225.out 4
          have hf3 : Fr (fun k => k = b1 ∨ k = b2) wz (((wz.setCell ⟨b1, 0, none⟩ (.int .i64 n)).setCell ⟨b1, 1, none⟩ (.slice LA ln lc)).setCell ⟨b1, 2, none⟩ (.slice U gl uc)) := (set3_frx wz b1 (.int .i64 n) (.slice LA ln lc) (.slice U gl uc)).mono (fun _ _ h => .inl h)
          have HF3 := Lib.hid hf3
          have HF5 := Lib.hid (hf3.trans' (set5_fr _ b2 (.int .i64 2) (.int .i64 n) (.int .i64 ms) (.string ⟨#[]⟩) (.int .i64 0)) (S'' := fun k => k = b1 ∨ k = b2) (fun _ _ h => h) (fun _ _ h => .inr h))
          clear hf3
          refine wp_region_noPanic ?_
          refine wp_region_T (fun W => W.cell? ⟨b0, 0, none⟩ = some (.int .i64 n) ∧ W.cell? ⟨b0, 1, none⟩ = some (.slice LA ln lc) ∧ W.cell? ⟨b0, 2, none⟩ = some (.slice U gl uc) ∧ W.cell? ⟨m0, 2, none⟩ = some (.int .i64 ms)) 8 (by kernel_rfl) (HS.out _ (Fr.refl _ _).drew) (fun hS0 => ?_)
          refine wpAnyT_taked (i := 0) (d := 104) (v := ?_) rfl rfl (by kernel_rfl) (by kernel_rfl) (by kernel_rfl) (by kernel_rfl) rfl (fun _ _ _ h => h) (Or.inl ⟨by rfl, ?_⟩) (by assumption) ?_
          rotate_left 1
          · rintro w' ⟨hs0, hs1, hs2, hs3⟩
            go_simp
            try (with_reducible rfl)
          try simp only [Act.put, List.setIfInBounds_toArray, List.set_cons_zero, List.set_cons_succ]
          refine wpAnyT_taked (i := 1) (d := 105) (v := ?_) rfl rfl (by kernel_rfl) (by kernel_rfl) (by kernel_rfl) (by kernel_rfl) rfl (fun _ _ _ h => h) (Or.inl ⟨by rfl, ?_⟩) (by assumption) ?_
          rotate_left 1
          · rintro w' ⟨hs0, hs1, hs2, hs3⟩
            go_simp
            try (with_reducible rfl)
          try simp only [Act.put, List.setIfInBounds_toArray, List.set_cons_zero, List.set_cons_succ]
          refine wpAnyT_taked (i := 2) (d := 106) (v := ?_) rfl rfl (by kernel_rfl) (by kernel_rfl) (by kernel_rfl) (by kernel_rfl) rfl (fun _ _ _ h => h) (Or.inl ⟨by rfl, ?_⟩) (by assumption) ?_
          rotate_left 1
          · rintro w' ⟨hs0, hs1, hs2, hs3⟩
            go_simp
            try (with_reducible rfl)
          try simp only [Act.put, List.setIfInBounds_toArray, List.set_cons_zero, List.set_cons_succ]
          refine wpAnyT_taked (i := 3) (d := 107) (v := ?_) rfl rfl (by kernel_rfl) (by kernel_rfl) (by kernel_rfl) (by kernel_rfl) rfl (fun _ _ _ h => h) (Or.inl ⟨by rfl, ?_⟩) (by assumption) ?_
          rotate_left 1
          · rintro w' ⟨hs0, hs1, hs2, hs3⟩
            go_simp
            try (with_reducible rfl)
          try simp only [Act.put, List.setIfInBounds_toArray, List.set_cons_zero, List.set_cons_succ]
          refine wpAnyT_taked (i := 4) (d := 108) (v := ?_) rfl rfl (by kernel_rfl) (by kernel_rfl) (by kernel_rfl) (by kernel_rfl) rfl (fun _ _ _ h => h) (Or.inl ⟨by rfl, ?_⟩) (by assumption) ?_
          rotate_left 1
          · rintro w' ⟨hs0, hs1, hs2, hs3⟩
            go_simp
            try (with_reducible rfl)
          try simp only [Act.put, List.setIfInBounds_toArray, List.set_cons_zero, List.set_cons_succ]
          refine wpAnyT_taked (i := 5) (d := 109) (v := ?_) rfl rfl (by kernel_rfl) (by kernel_rfl) (by kernel_rfl) (by kernel_rfl) rfl (fun _ _ _ h => h) (Or.inl ⟨by rfl, ?_⟩) (by assumption) ?_
          rotate_left 1
          · rintro w' ⟨hs0, hs1, hs2, hs3⟩
            go_simp
            try (with_reducible rfl)
          try simp only [Act.put, List.setIfInBounds_toArray, List.set_cons_zero, List.set_cons_succ]
          clear hS0
          refine wpAnyT_one (i := 6) (by kernel_rfl) rfl rfl (fun K hK => ?_)
          go_simp
          refine hK.out _ _ (HS.out _ HF3.out.drew) ?_
          clear hK K
          try simp only [Act.put, List.setIfInBounds_toArray, List.set_cons_zero, List.set_cons_succ]
          refine wpAnyT_one (i := 7) (by kernel_rfl) rfl rfl (fun K hK => ?_)
          go_simp
          refine hK.out _ _ (HS.out _ HF5.out.drew) ?_
          clear hK K
          try simp only [Act.put, List.setIfInBounds_toArray, List.set_cons_zero, List.set_cons_succ]
          refine wpAnyT_last (by kernel_rfl) rfl (by kernel_rfl) (fun K hK => ?_)
          go_simp
          refine hK.out _ _ ?_
          clear hK K
          refine NoPanic.normal ?_
          go_wp2
          have h3 := set3 (x := .int .i64 n) (y := .slice LA ln lc) (z := .slice U gl uc) H125.out
          have hF3 := set3_frx wz b1 (.int .i64 n) (.slice LA ln lc) (.slice U gl uc)
          have h5 := set5 (a := .int .i64 2) (b := .int .i64 n) (c := .int .i64 ms) (d := .string ⟨#[]⟩) (e := .int .i64 0) (hF3.blk H225.out hne21)
          have hF5 := set5_fr (((wz.setCell ⟨b1, 0, none⟩ (.int .i64 n)).setCell ⟨b1, 1, none⟩ (.slice LA ln lc)).setCell ⟨b1, 2, none⟩ (.slice U gl uc)) b2 (.int .i64 2) (.int .i64 n) (.int .i64 ms) (.string ⟨#[]⟩) (.int .i64 0)
          have h3f := hF5.blk h3 hne12
          have HFIN : Fr (fun _ => False) w _ := HF25.out.trans' HF5.out.drew (fun _ _ h => h) (fun k hk e => by have := HORD.out; rcases e with e | e <;> omega)
          refine rhear_end (m := ack n ms) (blk_drew h3f) (blk_drew h5) rfl rfl rfl ⟨U, uc, a, by rw [HGL.out], HGR.out, HR25.out.fr HF5.out.drew (fun g o e h => by have h1 := HAB.out g o e; have := HORD.out; rcases h with h | h <;> omega), HFIN, HA.out⟩
        | false =>
          have HOa : Hid ((wr.alloc (.cells #[.int .i64 mk, .int .i64 mp, .int .i64 ms, .string mt, .int .i64 mn] 71)).ownsRow w2.heap.size 71 5 (.slice U (a).length uc) (a).length ((a).flatMap Msg.cells)) := ((Fr.refl (fun _ => False) wr).alloc _).own0 HO.out
          have HFa : Hid (Fr (fun _ => False) w2 (wr.alloc (.cells #[.int .i64 mk, .int .i64 mp, .int .i64 ms, .string mt, .int .i64 mn] 71))) := HF2.out.alloc _
          have hln : (a).length ≤ 1000003 := by have := HGI.out.len; rw [List.length_take] at this; omega
          go_upto_region 23 with (at_builtin; refine wpl_app rfl (.tmp 96) (.tmp 98) 65 rfl w2.heap.size 71 _ 5 48 Try.underlying65 Try.info71 rfl (by decide) (.slice U (a).length uc) (a).length ((a).flatMap Msg.cells) rfl HOa.out ⟨wr.heap.size, 0, none⟩ 1 1 [.int .i64 mk, .int .i64 mp, .int .i64 ms, .string mt, .int .i64 mn] rfl rfl (news_of (blk_new _ _)) (by simp [Value.oneCell']) (by simp [maxLen]; omega) (by omega) HFa.out.size ?_; intro v3 w3 ho3 hg3 hm3; obtain ⟨A3, c3, rfl⟩ := own_slice ho3)
          have HO3 : Hid (w3.ownsRow w2.heap.size 71 5 (.slice A3 ((a) ++ [(⟨mk, mp, ms, mt, mn⟩ : Msg)]).length c3) ((a) ++ [(⟨mk, mp, ms, mt, mn⟩ : Msg)]).length (((a) ++ [(⟨mk, mp, ms, mt, mn⟩ : Msg)]).flatMap Msg.cells)) := by
            show World.ownsRow _ _ _ _ _ _ _
            rw [List.length_append, List.flatMap_append]
            simpa [Msg.cells] using ho3
          have HF3 : Hid (Fr (fun _ => False) w2 w3) := HFa.out.grown hg3 (fun k hk => .inl ((HOa.out.lt k hk).1))
          clear ho3 hg3 hm3 HOa HFa
          rw [show (a).length + 1 = ((a) ++ [(⟨mk, mp, ms, mt, mn⟩ : Msg)]).length from by simp]
          obtain ⟨a2, ha2⟩ : ∃ a2, a2 = a ++ [(⟨mk, mp, ms, mt, mn⟩ : Msg)] := ⟨_, rfl⟩
          have HA2 := Lib.hid ha2
          rw [← ha2] at HO3 ⊢
          clear ha2
          clear c1 c2 e0 e1 e2 e3 e4
          have c1 : w3.cell? ⟨w.heap.size, 1, none⟩ = some (.slice LA ln lc) := HF3.out.cell0 C1.out
          have c2 : w3.cell? ⟨w.heap.size, 2, none⟩ = some (.slice GA G.length gc) := HF3.out.cell0 C2.out
          have e0 : w3.cell? ⟨m0, 0, none⟩ = some (.int .i64 mk) := HF3.out.cell0 E0.out
          have e1 : w3.cell? ⟨m0, 1, none⟩ = some (.int .i64 mp) := HF3.out.cell0 E1.out
          have e2 : w3.cell? ⟨m0, 2, none⟩ = some (.int .i64 ms) := HF3.out.cell0 E2.out
          have e3 : w3.cell? ⟨m0, 3, none⟩ = some (.string mt) := HF3.out.cell0 E3.out
          have e4 : w3.cell? ⟨m0, 4, none⟩ = some (.int .i64 mn) := HF3.out.cell0 E4.out
          have f2 := blk_frozen (HF3.out.blk0 HN1.out) 2
          go_upto_region 25 with (fail)
          clear c1 c2 e0 e1 e2 e3 e4
          clear f2
          have hgU : ∀ g o, A3 = some ⟨g, o, none⟩ → w2.heap.size ≤ g := fun g o e => by have h := HO3.out; rw [e] at h; exact (h.lt g rfl).1
          have hbk := HF3.out.blk0 HN1.out
          have hbl : w.heap.size + 4 = w2.heap.size := HSZ.out.symm
          have hF6 : Fr (fun k => k = w.heap.size) w3 (w3.setCell ⟨w.heap.size, 2, none⟩ (.slice A3 (a2).length c3)) := Fr.setCell (S := fun k => k = w.heap.size) (p := ⟨w.heap.size, 2, none⟩) (Fr.refl _ _) (.inr rfl) _
          have hb6 : (w3.setCell ⟨w.heap.size, 2, none⟩ (.slice A3 (a2).length c3)).heap[w.heap.size]? = some (.cells #[.int .i64 n, .slice LA ln lc, .slice A3 (a2).length c3] 79 (0, 0)) := by simpa using blk_set hbk 2 (.slice A3 (a2).length c3)
          have HB25 := Lib.hid hb6
          have HM25 := Lib.hid (hF6.blk (HF3.out.blk0 HNM.out) (by have := HM0.out; omega))
          have H125 := Lib.hid (hF6.blk (HF3.out.blk0 HN2.out) (by have := HB1.out; omega))
          have H225 := Lib.hid (hF6.blk (HF3.out.blk0 HN3.out) (by have := HB2.out; omega))
          have HR25 := Lib.hid ((readM_own HO3.out).fr hF6 (fun g o e h => by have := hgU g o e; omega))
          have HF25 : Hid (Fr (fun _ => False) w (w3.setCell ⟨w.heap.size, 2, none⟩ (.slice A3 (a2).length c3))) := (HF.out.trans HF3.out (fun _ _ h => h)).trans hF6 (fun k hk e => by omega)
          have HGR : Hid (GotR ⟨mk, mp, ms, mt, mn⟩ G (a2)) := by
            have hg := HGI.out
            rw [HI.out, List.take_length] at hg
            exact by rw [HA2.out]; exact GotR.last hg
          have HA : Hid (A3 = GA ∨ ∀ g o, A3 = some ⟨g, o, none⟩ → w.heap.size ≤ g) := .inr (fun g o e => by have := hgU g o e; omega)
          have HAB : Hid (∀ g o, A3 = some ⟨g, o, none⟩ → ¬ (g = w.heap.size + 1 + 1 ∨ g = w.heap.size + 1 + 1 + 1)) := fun g o e h => by have := hgU g o e; omega
          clear hF6 hb6 hbk hbl hgU
          generalize w3.setCell ⟨w.heap.size, 2, none⟩ (.slice A3 (a2).length c3) = wz at *
          generalize hgl : (a2).length = gl at *
          have HGL := Lib.hid hgl
          clear hgl
          have hord : w.heap.size + 4 ≤ w2.heap.size ∧ m0 = w.heap.size + 1 ∧ b1 = w.heap.size + 1 + 1 ∧ b2 = w.heap.size + 1 + 1 + 1 := ⟨by have := HSZ.out; omega, HM0.out, HB1.out, HB2.out⟩
          have HORD := Lib.hid hord
          generalize hb0 : w.heap.size = b0 at HB25 hord ⊢
          have HB0 := Lib.hid hb0
          clear hb0
          have k0 : wz.cell? ⟨b0, 0, none⟩ = some (.int .i64 n) := blk_cell HB25.out 0
          have k1 : wz.cell? ⟨b0, 1, none⟩ = some (.slice LA ln lc) := blk_cell HB25.out 1
          have k2 : wz.cell? ⟨b0, 2, none⟩ = some (.slice A3 gl c3) := blk_cell HB25.out 2
          have k3 : wz.cell? ⟨m0, 2, none⟩ = some (.int .i64 ms) := blk_cell HM25.out 2
          have hS : ∀ W : World, Fr (fun k => k = b1 ∨ k = b2) wz W → W.cell? ⟨b0, 0, none⟩ = some (.int .i64 n) ∧ W.cell? ⟨b0, 1, none⟩ = some (.slice LA ln lc) ∧ W.cell? ⟨b0, 2, none⟩ = some (.slice A3 gl c3) ∧ W.cell? ⟨m0, 2, none⟩ = some (.int .i64 ms) := fun W hF => by
            have t0 : ¬ (b0 = b1 ∨ b0 = b2) := by omega
            have t3 : ¬ (m0 = b1 ∨ m0 = b2) := by omega
            exact ⟨hF.cell k0 t0, hF.cell k1 t0, hF.cell k2 t0, hF.cell k3 t3⟩
          have HS := Lib.hid hS
          have hne12 : ¬ b1 = b2 := by omega
          have hne21 : ¬ b2 = b1 := by omega
          clear hS k0 k1 k2 k3 hord
          have z0 := blk_frozen H125.out 0
          have z1 := blk_frozen H125.out 1
          have z2 := blk_frozen H125.out 2
          have q0 : wz.cell? ⟨b1, 0, none⟩ = some (.int .i64 0) := blk_cell H125.out 0
          have q1 : wz.cell? ⟨b1, 1, none⟩ = some (.slice none 0 0) := blk_cell H125.out 1
          have q2 : wz.cell? ⟨b1, 2, none⟩ = some (.slice none 0 0) := blk_cell H125.out 2
          have x0 := blk_frozen H225.out 0
          have x1 := blk_frozen H225.out 1
          have x2 := blk_frozen H225.out 2
          have x3 := blk_frozen H225.out 3
          have x4 := blk_frozen H225.out 4
          have p0 : wz.cell? ⟨b2, 0, none⟩ = some (.int .i64 0) := blk_cell H225.out 0
          have p1 : wz.cell? ⟨b2, 1, none⟩ = some (.int .i64 0) := blk_cell H225.out 1
          have p2 : wz.cell? ⟨b2, 2, none⟩ = some (.int .i64 0) := blk_cell H225.out 2
          have p3 : wz.cell? ⟨b2, 3, none⟩ = some (.string ⟨#[]⟩) := blk_cell H225.out 3
          have p4 : wz.cell? ⟨b2, 4, none⟩ = some (.int .i64 0) := blk_cell H225.out 4
          have hf3 : Fr (fun k => k = b1 ∨ k = b2) wz (((wz.setCell ⟨b1, 0, none⟩ (.int .i64 n)).setCell ⟨b1, 1, none⟩ (.slice LA ln lc)).setCell ⟨b1, 2, none⟩ (.slice A3 gl c3)) := (set3_frx wz b1 (.int .i64 n) (.slice LA ln lc) (.slice A3 gl c3)).mono (fun _ _ h => .inl h)
          have HF3 := Lib.hid hf3
          have HF5 := Lib.hid (hf3.trans' (set5_fr _ b2 (.int .i64 2) (.int .i64 n) (.int .i64 ms) (.string ⟨#[]⟩) (.int .i64 0)) (S'' := fun k => k = b1 ∨ k = b2) (fun _ _ h => h) (fun _ _ h => .inr h))
          clear hf3
          refine wp_region_noPanic ?_
          refine wp_region_T (fun W => W.cell? ⟨b0, 0, none⟩ = some (.int .i64 n) ∧ W.cell? ⟨b0, 1, none⟩ = some (.slice LA ln lc) ∧ W.cell? ⟨b0, 2, none⟩ = some (.slice A3 gl c3) ∧ W.cell? ⟨m0, 2, none⟩ = some (.int .i64 ms)) 8 (by kernel_rfl) (HS.out _ (Fr.refl _ _).drew) (fun hS0 => ?_)
          refine wpAnyT_taked (i := 0) (d := 104) (v := ?_) rfl rfl (by kernel_rfl) (by kernel_rfl) (by kernel_rfl) (by kernel_rfl) rfl (fun _ _ _ h => h) (Or.inl ⟨by rfl, ?_⟩) (by assumption) ?_
          rotate_left 1
          · rintro w' ⟨hs0, hs1, hs2, hs3⟩
            go_simp
            try (with_reducible rfl)
          try simp only [Act.put, List.setIfInBounds_toArray, List.set_cons_zero, List.set_cons_succ]
          refine wpAnyT_taked (i := 1) (d := 105) (v := ?_) rfl rfl (by kernel_rfl) (by kernel_rfl) (by kernel_rfl) (by kernel_rfl) rfl (fun _ _ _ h => h) (Or.inl ⟨by rfl, ?_⟩) (by assumption) ?_
          rotate_left 1
          · rintro w' ⟨hs0, hs1, hs2, hs3⟩
            go_simp
            try (with_reducible rfl)
          try simp only [Act.put, List.setIfInBounds_toArray, List.set_cons_zero, List.set_cons_succ]
          refine wpAnyT_taked (i := 2) (d := 106) (v := ?_) rfl rfl (by kernel_rfl) (by kernel_rfl) (by kernel_rfl) (by kernel_rfl) rfl (fun _ _ _ h => h) (Or.inl ⟨by rfl, ?_⟩) (by assumption) ?_
          rotate_left 1
          · rintro w' ⟨hs0, hs1, hs2, hs3⟩
            go_simp
            try (with_reducible rfl)
          try simp only [Act.put, List.setIfInBounds_toArray, List.set_cons_zero, List.set_cons_succ]
          refine wpAnyT_taked (i := 3) (d := 107) (v := ?_) rfl rfl (by kernel_rfl) (by kernel_rfl) (by kernel_rfl) (by kernel_rfl) rfl (fun _ _ _ h => h) (Or.inl ⟨by rfl, ?_⟩) (by assumption) ?_
          rotate_left 1
          · rintro w' ⟨hs0, hs1, hs2, hs3⟩
            go_simp
            try (with_reducible rfl)
          try simp only [Act.put, List.setIfInBounds_toArray, List.set_cons_zero, List.set_cons_succ]
          refine wpAnyT_taked (i := 4) (d := 108) (v := ?_) rfl rfl (by kernel_rfl) (by kernel_rfl) (by kernel_rfl) (by kernel_rfl) rfl (fun _ _ _ h => h) (Or.inl ⟨by rfl, ?_⟩) (by assumption) ?_
          rotate_left 1
          · rintro w' ⟨hs0, hs1, hs2, hs3⟩
            go_simp
            try (with_reducible rfl)
          try simp only [Act.put, List.setIfInBounds_toArray, List.set_cons_zero, List.set_cons_succ]
          refine wpAnyT_taked (i := 5) (d := 109) (v := ?_) rfl rfl (by kernel_rfl) (by kernel_rfl) (by kernel_rfl) (by kernel_rfl) rfl (fun _ _ _ h => h) (Or.inl ⟨by rfl, ?_⟩) (by assumption) ?_
          rotate_left 1
          · rintro w' ⟨hs0, hs1, hs2, hs3⟩
            go_simp
            try (with_reducible rfl)
          try simp only [Act.put, List.setIfInBounds_toArray, List.set_cons_zero, List.set_cons_succ]
          clear hS0
          refine wpAnyT_one (i := 6) (by kernel_rfl) rfl rfl (fun K hK => ?_)
          go_simp
          refine hK.out _ _ (HS.out _ HF3.out.drew) ?_
          clear hK K
          try simp only [Act.put, List.setIfInBounds_toArray, List.set_cons_zero, List.set_cons_succ]
          refine wpAnyT_one (i := 7) (by kernel_rfl) rfl rfl (fun K hK => ?_)
          go_simp
          refine hK.out _ _ (HS.out _ HF5.out.drew) ?_
          clear hK K
          try simp only [Act.put, List.setIfInBounds_toArray, List.set_cons_zero, List.set_cons_succ]
          refine wpAnyT_last (by kernel_rfl) rfl (by kernel_rfl) (fun K hK => ?_)
          go_simp
          refine hK.out _ _ ?_
          clear hK K
          refine NoPanic.normal ?_
          go_wp2
          have h3 := set3 (x := .int .i64 n) (y := .slice LA ln lc) (z := .slice A3 gl c3) H125.out
          have hF3 := set3_frx wz b1 (.int .i64 n) (.slice LA ln lc) (.slice A3 gl c3)
          have h5 := set5 (a := .int .i64 2) (b := .int .i64 n) (c := .int .i64 ms) (d := .string ⟨#[]⟩) (e := .int .i64 0) (hF3.blk H225.out hne21)
          have hF5 := set5_fr (((wz.setCell ⟨b1, 0, none⟩ (.int .i64 n)).setCell ⟨b1, 1, none⟩ (.slice LA ln lc)).setCell ⟨b1, 2, none⟩ (.slice A3 gl c3)) b2 (.int .i64 2) (.int .i64 n) (.int .i64 ms) (.string ⟨#[]⟩) (.int .i64 0)
          have h3f := hF5.blk h3 hne12
          have HFIN : Fr (fun _ => False) w _ := HF25.out.trans' HF5.out.drew (fun _ _ h => h) (fun k hk e => by have := HORD.out; rcases e with e | e <;> omega)
          refine rhear_end (m := ack n ms) (blk_drew h3f) (blk_drew h5) rfl rfl rfl ⟨A3, c3, a2, by rw [HGL.out], HGR.out, HR25.out.fr HF5.out.drew (fun g o e h => by have h1 := HAB.out g o e; have := HORD.out; rcases h with h | h <;> omega), HFIN, HA.out⟩

end Go.Proofs.Ytedmhhllkkgbjaa
