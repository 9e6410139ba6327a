/- The document's Peer: NewPeer, Sent, Again; NewPeer refused. -/
import Derived.Test.YtedmhhllkkgbjaaPe13
namespace Go.Proofs.Ytedmhhllkkgbjaa
open Go.RowKit Go.WideShapes
set_option linter.unusedSimpArgs false
set_option linter.unusedVariables false

def ocells (x : Msg × Bool) : List Value := [.int .i64 x.1.kind, .int .i64 x.1.peer, .int .i64 x.1.seq, .string x.1.key, .int .i64 x.1.n, .bool x.2]
def ReadO (w : World) (A : Option Addr) (L : List (Msg × Bool)) : Prop :=
  ∀ (i : Nat) (x : Msg × Bool), L[i]? = some x → ∃ g o, A = some ⟨g, o, none⟩ ∧ ∀ (j : Nat) (u : Value), (ocells x)[j]? = some u → w.cell? ⟨g, o + i * 6 + j, none⟩ = some u
theorem ReadO.fr {w w' : World} {A : Option Addr} {L : List (Msg × Bool)} (h : ReadO w A L) {S : Nat → Prop} (hF : Fr S w w') (hS : ∀ g o, A = some ⟨g, o, none⟩ → ¬ S g) : ReadO w' A L := by
  intro i m hm
  obtain ⟨g, o, e, hc⟩ := h i m hm
  exact ⟨g, o, e, fun j u hu => hF.cell (hc j u hu) (hS g o e)⟩
def rpeer (n : Int) (LA : Option Addr) (ln lc : Nat) (GA : Option Addr) (gn gc : Nat) : Value := .agg #[.int .i64 n, .slice LA ln lc, .slice GA gn gc]

theorem rnew_ok (w : World) (n : Int) (h1 : 1 ≤ n) (h2 : n ≤ 15) : Calls Try.prog 40 #[.int .i64 n] w (fun e w' => e = .returned (.tuple #[rpeer n none 0 0 none 0 0, .int .i64 0]) ∧ Fr (fun _ => False) w w') := by
  have h3 : ¬ n < 1 := by omega
  have h4 : ¬ 15 < n := by omega
  go_enter Try.func40, Try.ntmps40
  go_wp2
  have hF := (Fr.refl (fun _ => False) w).alloc (.cells #[.int .i64 n, .slice none 0 0, .slice none 0 0] 79)
  have hb := blk_new w (.cells #[.int .i64 n, .slice none 0 0, .slice none 0 0] 79)
  generalize w.alloc (.cells #[.int .i64 n, .slice none 0 0, .slice none 0 0] 79) = w1 at *
  have r0 : w1.cell? ⟨w.heap.size, 0, none⟩ = some (.int .i64 n) := blk_cell hb 0
  have r1 : w1.cell? ⟨w.heap.size, 1, none⟩ = some (.slice none 0 0) := blk_cell hb 1
  have r2 : w1.cell? ⟨w.heap.size, 2, none⟩ = some (.slice none 0 0) := blk_cell hb 2
  exact bodyPost_ret (v := .tuple #[rpeer n none 0 0 none 0 0, .int .i64 0]) (by simp [results, Try.results40, go_sem, r0, r1, r2, rpeer]) rfl ⟨rfl, hF⟩
theorem rnew_bad (w : World) (n : Int) (h : n < 1 ∨ 15 < n) : Calls Try.prog 40 #[.int .i64 n] w (fun e w' => e = .returned (.tuple #[rpeer 0 none 0 0 none 0 0, .int .i64 210]) ∧ Fr (fun _ => False) w w') := by
  have hF := (Fr.refl (fun _ => False) w).alloc (.cells #[.int .i64 0, .slice none 0 0, .slice none 0 0] 79)
  by_cases h1 : n < 1
  · go_enter Try.func40, Try.ntmps40
    go_wp2
    have hb := blk_new w (.cells #[.int .i64 0, .slice none 0 0, .slice none 0 0] 79)
    generalize w.alloc (.cells #[.int .i64 0, .slice none 0 0, .slice none 0 0] 79) = w1 at *
    have r0 : w1.cell? ⟨w.heap.size, 0, none⟩ = some (.int .i64 0) := blk_cell hb 0
    have r1 : w1.cell? ⟨w.heap.size, 1, none⟩ = some (.slice none 0 0) := blk_cell hb 1
    have r2 : w1.cell? ⟨w.heap.size, 2, none⟩ = some (.slice none 0 0) := blk_cell hb 2
    exact bodyPost_ret (v := .tuple #[rpeer 0 none 0 0 none 0 0, .int .i64 210]) (by simp [results, Try.results40, go_sem, r0, r1, r2, rpeer]) rfl ⟨rfl, hF⟩
  · have h2 : 15 < n := by omega
    go_enter Try.func40, Try.ntmps40
    go_wp2
    have hb := blk_new w (.cells #[.int .i64 0, .slice none 0 0, .slice none 0 0] 79)
    generalize w.alloc (.cells #[.int .i64 0, .slice none 0 0, .slice none 0 0] 79) = w1 at *
    have r0 : w1.cell? ⟨w.heap.size, 0, none⟩ = some (.int .i64 0) := blk_cell hb 0
    have r1 : w1.cell? ⟨w.heap.size, 1, none⟩ = some (.slice none 0 0) := blk_cell hb 1
    have r2 : w1.cell? ⟨w.heap.size, 2, none⟩ = some (.slice none 0 0) := blk_cell hb 2
    exact bodyPost_ret (v := .tuple #[rpeer 0 none 0 0 none 0 0, .int .i64 210]) (by simp [results, Try.results40, go_sem, r0, r1, r2, rpeer]) rfl ⟨rfl, hF⟩
theorem newPeer_bad (w : World) (n : Int) (h : n < 1 ∨ 15 < n) : Calls Try.prog 37 #[.int .i64 n] w (fun e w' => e = .returned (.tuple #[.pointer none, .int .i64 210]) ∧ Fr (fun _ => False) w w') := by
  by_cases h1 : n < 1
  · go_enter Try.func37, Try.ntmps37
    go_wp2
    go_ret2
    exact ⟨rfl, Fr.refl _ w⟩
  · have h2 : 15 < n := by omega
    go_enter Try.func37, Try.ntmps37
    go_wp2
    go_ret2
    exact ⟨rfl, Fr.refl _ w⟩

def firsts (L : List (Msg × Bool)) : List Msg := L.map (·.1)
theorem firsts_app (L L' : List (Msg × Bool)) : firsts (L ++ L') = firsts L ++ firsts L' := List.map_append
theorem firsts_len (L : List (Msg × Bool)) : (firsts L).length = L.length := List.length_map _
def SeInv (w0 : World) (L : List (Msg × Bool)) (B : Nat) (u k : Value) (wr : World) : Prop :=
  ∃ (i : Nat) (U : Option Addr) (uc : Nat), i ≤ L.length ∧ k = .int .i64 i ∧ u = .slice U (firsts (L.take i)).length uc ∧ Hid (wr.ownsRow B 71 5 u (firsts (L.take i)).length ((firsts (L.take i)).flatMap Msg.cells)) ∧ Hid (Fr (fun _ => False) w0 wr)

set_option maxRecDepth 100000 in
set_option maxHeartbeats 4000000 in
theorem rsent_any {w : World} (n : Int) (LA GA : Option Addr) (lc gn gc : Nat) (L : List (Msg × Bool)) (hl : L.length ≤ 1000000) (hR : ReadO w LA L) : Calls Try.prog 48 #[.agg #[.int .i64 n, .slice LA L.length lc, .slice GA gn gc]] w (MsgsPost w (firsts L)) := by
  obtain ⟨w2, he, hn2, hF2, hz2⟩ := alloc1 w (.cells #[.int .i64 n, .slice LA L.length lc, .slice GA gn gc] 79)
  have HR := Lib.hid (hR.fr hF2 (fun _ _ _ h => h))
  have HE := Lib.hid he
  have HN2 := Lib.hid hn2
  have HF2 := Lib.hid hF2
  clear hR he hn2 hF2 hz2
  go_enter Try.func48, Try.ntmps48
  go_wp2
  rw [HE.out]
  obtain ⟨g1, hg1⟩ : ∃ g1, g1 = w.heap.size := ⟨_, rfl⟩
  have HG1 := Lib.hid hg1
  rw [← hg1] at HN2 ⊢
  clear hg1 HE
  go_loopw [3, 4] (fun u k wr => SeInv w2 L w2.heap.size u k wr) (fun _ k _ => L.length - (intOf k).toNat)
  case atStart => exact ⟨0, none, 0, by omega, rfl, rfl, ⟨rfl, .inl ⟨rfl, rfl⟩⟩, Fr.refl _ _⟩
  case round =>
    obtain ⟨i, U, uc, hi, rfl, rfl, HO, HF⟩ := hrel
    have b1 : wr.cell? ⟨g1, 1, none⟩ = some (.slice LA L.length lc) := HF.out.cell0 (blk_cell HN2.out 1)
    by_cases hlt : i < L.length
    · obtain ⟨x, hx⟩ : ∃ x, L[i]? = some x := ⟨_, List.getElem?_eq_getElem hlt⟩
      obtain ⟨gq, oq, rfl, hc⟩ := HR.out i x hx
      have HX := Lib.hid hx
      obtain ⟨⟨xk, xp, xs, xt, xn⟩, xb⟩ := x
      have y0 := HF.out.cell0 (hc 0 _ rfl)
      have y1 := HF.out.cell0 (hc 1 _ rfl)
      have y2 := HF.out.cell0 (hc 2 _ rfl)
      have y3 := HF.out.cell0 (hc 3 _ rfl)
      have y4 := HF.out.cell0 (hc 4 _ rfl)
      simp only [Nat.add_zero] at y0
      simp only at y0 y1 y2 y3 y4
      have hii : (i : Int) < L.length := by omega
      clear hx hc
      have HO3 : Hid ((wr.alloc (.cells #[.int .i64 xk, .int .i64 xp, .int .i64 xs, .string xt, .int .i64 xn] 71)).ownsRow w2.heap.size 71 5 (.slice U (firsts (L.take i)).length uc) (firsts (L.take i)).length ((firsts (L.take i)).flatMap Msg.cells)) := ((Fr.refl (fun _ => False) wr).alloc _).own0 HO.out
      have HF3 : Hid (Fr (fun _ => False) w2 (wr.alloc (.cells #[.int .i64 xk, .int .i64 xp, .int .i64 xs, .string xt, .int .i64 xn] 71))) := HF.out.alloc _
      have hln : (firsts (L.take i)).length ≤ 1000000 := by rw [firsts_len, List.length_take]; omega
      have HT : Hid (firsts (L.take (i + 1)) = firsts (L.take i) ++ [⟨xk, xp, xs, xt, xn⟩]) := by show _ = _; rw [take_one HX.out, firsts_app]; rfl
      have hbw : w2.heap.size ≤ (wr.alloc (.cells #[.int .i64 xk, .int .i64 xp, .int .i64 xs, .string xt, .int .i64 xn] 71)).heap.size := HF3.out.size
      go_wp2_with (at_builtin; refine wpl_app rfl (.tmp 12) (.tmp 19) 65 rfl w2.heap.size 71 _ 5 48 Try.underlying65 Try.info71 rfl (by decide) (.slice U (firsts (L.take i)).length uc) (firsts (L.take i)).length ((firsts (L.take i)).flatMap Msg.cells) rfl HO3.out ⟨wr.heap.size, 0, none⟩ 1 1 [.int .i64 xk, .int .i64 xp, .int .i64 xs, .string xt, .int .i64 xn] rfl rfl (news_of (blk_new _ _)) (by simp [Value.oneCell']) (by simp [maxLen]; omega) (by omega) hbw ?_; intro v3 w3 ho3 hg3 hm3; obtain ⟨A3, c3, rfl⟩ := own_slice ho3)
      refine ⟨⟨i + 1, A3, c3, by omega, by go_num, by rw [HT.out, List.length_append]; rfl, ?_, ?_⟩, by simp [intOf]; omega⟩
      · show w3.ownsRow _ _ _ _ _ _
        rw [HT.out, List.length_append, List.flatMap_append]
        simpa [Msg.cells] using ho3
      · exact HF3.out.grown hg3 (fun k hk => .inl ((HO3.out.lt k hk).1))
    · have hii : ¬ (i : Int) < L.length := by omega
      have hi' : i = L.length := by omega
      have HI := Lib.hid hi'
      clear hi'
      go_wp2
      go_ret
      have hi' : i = L.length := HI.out
      subst hi'
      rw [List.take_length] at HO ⊢
      exact ⟨U, uc, rfl, readM_own HO.out, HF2.out.trans HF.out (fun _ _ h => h), fun g o e => by subst e; exact Nat.le_trans HF2.out.size (HO.out.lt g rfl).1⟩
end Go.Proofs.Ytedmhhllkkgbjaa
