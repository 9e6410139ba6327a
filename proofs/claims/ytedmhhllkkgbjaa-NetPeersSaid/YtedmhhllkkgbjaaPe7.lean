/- net.Peer: Again, Sent, put; messages held against one another. -/
import Derived.Test.YtedmhhllkkgbjaaPe6
import Derived.Lib.SliceRun
namespace Go.Proofs.Ytedmhhllkkgbjaa
open Go.RowKit Go.WideShapes
set_option linter.unusedSimpArgs false
set_option linter.unusedVariables false

set_option maxRecDepth 100000 in
set_option maxHeartbeats 4000000 in
theorem sames_any (A A' : Option Addr) (c c' : Nat) (xs : List Msg) (w : World) (hl : xs.length ≤ 1000000000) (hR : ReadM w A xs) (hR' : ReadM w A' xs) :
    Calls Try.prog 44 #[.slice A xs.length c, .slice A' xs.length c'] w (fun e w' => e = .returned (.bool true) ∧ Fr (fun _ => False) w w') := by
  have HR := Lib.hid hR
  have HR' := Lib.hid hR'
  clear hR hR'
  go_enter Try.func44, Try.ntmps44
  go_wp2_with fail
  go_loopw [5] (fun k wr => ∃ i : Nat, i ≤ xs.length ∧ k = .int .i64 i ∧ Fr (fun _ => False) w wr) (fun k _ => xs.length - (intOf k).toNat)
  case atStart => exact ⟨0, by omega, rfl, Fr.refl _ _⟩
  case round =>
    obtain ⟨i, hi, rfl, hF⟩ := hrel
    by_cases hlt : i < xs.length
    · obtain ⟨x, hx⟩ : ∃ x, xs[i]? = some x := ⟨_, List.getElem?_eq_getElem hlt⟩
      obtain ⟨gq, oq, rfl, hq⟩ := HR.out i x hx
      obtain ⟨gq', oq', rfl, hq'⟩ := HR'.out i x hx
      obtain ⟨xk, xp, xs', xt, xn⟩ := x
      have y0 := hF.cell0 (hq 0 _ rfl)
      have y1 := hF.cell0 (hq 1 _ rfl)
      have y2 := hF.cell0 (hq 2 _ rfl)
      have y3 := hF.cell0 (hq 3 _ rfl)
      have y4 := hF.cell0 (hq 4 _ rfl)
      have z0 := hF.cell0 (hq' 0 _ rfl)
      have z1 := hF.cell0 (hq' 1 _ rfl)
      have z2 := hF.cell0 (hq' 2 _ rfl)
      have z3 := hF.cell0 (hq' 3 _ rfl)
      have z4 := hF.cell0 (hq' 4 _ rfl)
      simp only [Nat.add_zero] at y0 z0
      have hii : (i : Int) < xs.length := by omega
      have HF := Lib.hid hF
      clear hF hx hq hq'
      go_upto_region 6 with (fail)
      go_quiet (fail)
      go_wp2
      exact ⟨⟨i + 1, by omega, by go_num, HF.out.drewN _⟩, by simp [intOf]; omega⟩
    · have h3 : ¬ (i : Int) < xs.length := by omega
      have HF := Lib.hid hF
      clear hF
      go_wp2
      go_ret
      exact ⟨rfl, HF.out⟩

theorem own_up {w : World} {base n : Nat} {e : TypeId} {size : Nat} {v : Value} {xs : List Value} (h : w.ownsRow 0 e size v n xs) (hb : ∀ k, v.ownBlock = some k → base ≤ k) : w.ownsRow base e size v n xs := by
  refine ⟨h.1, ?_⟩
  rcases h.2 with h2 | ⟨g, cap, cur, rfl, hg, r⟩
  · exact .inl h2
  · exact .inr ⟨g, cap, cur, rfl, hb g rfl, r⟩

/-- a new row of messages is told -/
def MsgsPost (w : World) (ms : List Msg) (e : Ending) (w' : World) : Prop :=
  ∃ A c, e = .returned (.slice A ms.length c) ∧ ReadM w' A ms ∧ Fr (fun _ => False) w w' ∧ (∀ g o, A = some ⟨g, o, none⟩ → w.heap.size ≤ g)

set_option maxRecDepth 100000 in
/-- slices.Clone of messages -/
theorem clone_any (A : Option Addr) (c : Nat) (xs : List Msg) (w : World) (hl : xs.length ≤ 1000000) (hR : ReadM w A xs) : Calls Try.prog 66 #[.slice A xs.length c] w (MsgsPost w xs) := by
  cases A with
  | none =>
    have h0 : xs = [] := by
      cases xs with
      | nil => rfl
      | cons x xs => obtain ⟨g, o, e, _⟩ := hR 0 x rfl; cases e
    subst h0
    have hnil : ∀ W : World, (binOp .eql 65 (.slice none 0 c) (.slice none 0 0)).run Try.prog W = .ok (.bool true) W := fun W => Lib.run_eql_slice_nil W 65 71 none 0 c 0 0 Try.underlying65
    go_enter Try.func66, Try.ntmps66
    go_wp2
    go_ret
    exact ⟨none, 0, rfl, fun i m h => by simp at h, Fr.refl _ _, fun g o e => by cases e⟩
  | some ad =>
    have HR := Lib.hid hR
    clear hR
    have HE1 : Hid ((w.alloc (.cells #[] 71)).heap[w.heap.size]? = some (.cells #[] 71 (0, 0))) := blk_new _ _
    have HF1 : Hid (Fr (fun _ => False) w (w.alloc (.cells #[] 71))) := (Fr.refl _ w).alloc _
    have HNW : Hid (∀ ad', some ad = some ad' → ∀ j u, (xs.flatMap Msg.cells)[j]? = some u → (w.alloc (.cells #[] 71)).cell? (ad'.add j) = some u) := by
      intro ad' e j u hu
      cases e
      have hj : j < xs.length * 5 := by have := (List.getElem?_eq_some_iff.1 hu).1; rwa [mcells_len] at this
      obtain ⟨m, hm⟩ : ∃ m, xs[j / 5]? = some m := ⟨_, List.getElem?_eq_getElem (by omega)⟩
      obtain ⟨g, o, e, hc⟩ := HR.out (j / 5) m hm
      cases e
      have hj5 : j % 5 < 5 := Nat.mod_lt _ (by omega)
      have h1 := flat_at (f := Msg.cells) (s := 5) (fun _ => rfl) xs (j / 5) (j % 5) m (m.cells[j % 5]'hj5) hm (List.getElem?_eq_getElem hj5)
      rw [show j / 5 * 5 + j % 5 = j from by omega, hu] at h1
      have h2 := hc (j % 5) _ (List.getElem?_eq_getElem hj5)
      rw [Nat.add_assoc, show j / 5 * 5 + j % 5 = j from by omega, ← Option.some.inj h1] at h2
      rw [add_some]
      exact HF1.out.cell0 h2
    have HONE : Hid (∀ u ∈ xs.flatMap Msg.cells, u.oneCell' = true) := by
      intro u hu
      obtain ⟨m, _, hu⟩ := List.mem_flatMap.1 hu
      simp [Msg.cells] at hu
      rcases hu with rfl | rfl | rfl | rfl | rfl <;> rfl
    have hnil : ∀ W : World, (binOp .eql 65 (.slice (some ad) xs.length c) (.slice none 0 0)).run Try.prog W = .ok (.bool false) W := fun W => Lib.run_eql_slice_nil W 65 71 (some ad) xs.length c 0 0 Try.underlying65
    go_enter Try.func66, Try.ntmps66
    go_wp2_with (at_builtin; refine wpl_appx rfl (.tmp 5) (.tmp 6) 65 rfl w.heap.size 71 _ 5 48 Try.underlying65 Try.info71 rfl (by decide) (.slice (some ⟨w.heap.size, 0, none⟩) 0 0) 0 [] rfl (own_up (own_empty 5 HE1.out rfl) (fun k hk => by obtain rfl := Option.some.inj hk; exact Nat.le_refl _)) (some ad) xs.length c (xs.flatMap Msg.cells) rfl (by rw [mcells_len]) HNW.out (fun e => by cases e) HONE.out (by simp [maxLen]; omega) (by omega) HF1.out.size ?_; intro v2 w2 ho2 hg2 hm2; rw [Nat.zero_add, List.nil_append] at ho2; obtain ⟨A2, c2, rfl⟩ := own_slice ho2)
    go_ret
    refine ⟨A2, c2, rfl, readM_own ho2, HF1.out.grown hg2 (fun k hk => .inl (by obtain rfl := Option.some.inj hk; exact Nat.le_refl _)), fun g o e => by subst e; exact (ho2.lt g rfl).1⟩

set_option maxRecDepth 100000 in
theorem sent_any {w : World} {g : Nat} {n : Int} {SA : Option Addr} {sc bw bg kw kg : Nat} {Dw Dg : DataW Msg} {sent : List Msg} (h : PeerAt w g n (.slice SA sent.length sc) bw bg kw kg Dw Dg) (hn : n ≠ 0) (hl : sent.length ≤ 1000000) (hR : ReadM w SA sent) : Calls Try.prog 47 #[.pointer (some ⟨g, 0, none⟩)] w (MsgsPost w sent) := by
  have d1 : w.cell? ⟨g, 1, none⟩ = some (.slice SA sent.length sc) := blk_cell h.box 1
  have HH := Lib.hid h
  have HR := Lib.hid hR
  clear h hR
  go_enter Try.func47, Try.ntmps47
  go_wp2_with fail
  refine (peer_some HH.out.box hn).mono ?_
  rintro e w' ⟨rfl, rfl⟩
  go_wp2_with fail
  refine (clone_any SA sc sent w' hl HR.out).mono ?_
  rintro e w2 ⟨A, c, rfl, h1, h2, h3⟩
  have HQ := Lib.hid (And.intro h1 (And.intro h2 h3))
  clear h1 h2 h3
  go_wp2
  go_ret
  exact ⟨A, c, rfl, HQ.out.1, HQ.out.2.1, HQ.out.2.2⟩
end Go.Proofs.Ytedmhhllkkgbjaa
