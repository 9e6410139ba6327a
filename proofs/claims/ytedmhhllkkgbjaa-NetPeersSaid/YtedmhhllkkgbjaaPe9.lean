/- net.Peer: which transfers wait; Hear of an ack. -/
import Derived.Test.YtedmhhllkkgbjaaPe7
import Derived.Test.YtedmhhllkkgbjaaPe8
namespace Go.Proofs.Ytedmhhllkkgbjaa
open Go.RowKit Go.WideShapes
set_option linter.unusedSimpArgs false
set_option linter.unusedVariables false

/-- what was sent, and whether it has its ack -/
def opens (L : List (Msg × Bool)) (s : Int) : Bool := decide (0 ≤ s) && (L[s.toNat]?).any (fun x => !x.2)
def cnt (L : List (Msg × Bool)) : Nat := L.countP (fun x => !x.2)
def ackL (L : List (Msg × Bool)) (s : Int) : List (Msg × Bool) := L.modify s.toNat (fun x => (x.1, true))
structure WaitIs (D : DataW Msg) (L : List (Msg × Bool)) : Prop where
  tidy : Maps.Tidy D
  size : Maps.size D = cnt L
  has : ∀ s : Int, Maps.has D (.int .i64 s) = opens L s
  vals : ∀ kl, Maps.has D kl = true → ∀ z, D.atKey kl z = .lit (.bool true)
theorem WaitIs.nil : WaitIs (.map []) [] := ⟨Maps.tidy_empty, rfl, fun s => by simp [opens, Maps.has], fun kl h => by cases h⟩
theorem isKey (s : Int) : WideAt.IsKeyLit (.int .i64 s) := by simp [WideAt.IsKeyLit]
theorem WaitIs.put {D : DataW Msg} {L : List (Msg × Bool)} (h : WaitIs D L) (m : Msg) : WaitIs (D.put (.int .i64 L.length) (.lit (.bool true))) (L ++ [(m, false)]) := by
  have h0 : opens L (L.length : Int) = false := by simp [opens]
  refine ⟨h.tidy.put (isKey _) _, ?_, fun s => ?_, fun kl hkl z => ?_⟩
  · rw [Maps.size_put h.tidy, h.has, h0, h.size]
    simp [cnt, List.countP_append]
  · by_cases hs : s = L.length
    · subst hs
      rw [Maps.has_put_same h.tidy.isMap (isKey _)]
      simp [opens]
    · rw [Maps.has_put_other (fun e => hs (by simpa using e)), h.has]
      unfold opens
      by_cases h1 : 0 ≤ s
      · have h2 : s.toNat ≠ L.length := by omega
        rw [List.getElem?_append]
        split
        · rfl
        · have h3 : L[s.toNat]? = none := List.getElem?_eq_none (by omega)
          have h4 : [(m, false)][s.toNat - L.length]? = none := List.getElem?_eq_none (by simp; omega)
          rw [h3, h4]
      · simp [h1]
  · by_cases hs : kl = .int .i64 L.length
    · subst hs
      exact Maps.atKey_put_same h.tidy.isMap (isKey _) _ _
    · rw [Maps.has_put_other hs] at hkl
      rw [Maps.atKey_put_other hs]
      exact h.vals kl hkl z
theorem cnt_modify : ∀ (L : List (Msg × Bool)) (k : Nat), cnt (L.modify k (fun x => (x.1, true))) + (if (L[k]?).any (fun x => !x.2) then 1 else 0) = cnt L
  | [], k => by cases k <;> simp [cnt, List.modify_nil]
  | x :: r, 0 => by obtain ⟨m, b⟩ := x; cases b <;> simp [cnt, List.countP_cons]
  | x :: r, k + 1 => by
    have := cnt_modify r k
    simp only [List.modify_succ_cons, List.getElem?_cons_succ]
    unfold cnt at this ⊢
    rw [List.countP_cons, List.countP_cons]
    omega
theorem opens_ack (L : List (Msg × Bool)) (s t : Int) (hs : 0 ≤ s) : opens (ackL L s) t = (opens L t && !decide (t = s)) := by
  unfold opens ackL
  by_cases h0 : 0 ≤ t
  · by_cases ht : t = s
    · subst ht
      rw [List.getElem?_modify]
      simp
      cases L[t.toNat]? <;> simp
    · have : t.toNat ≠ s.toNat := by omega
      rw [List.getElem?_modify]
      simp [h0, ht, this.symm]
  · simp [h0]
theorem WaitIs.del {D : DataW Msg} {L : List (Msg × Bool)} (h : WaitIs D L) (s : Int) (hs : 0 ≤ s) : WaitIs (D.del (.int .i64 s)) (ackL L s) := by
  refine ⟨h.tidy.del _, ?_, fun t => ?_, fun kl hkl z => ?_⟩
  · have h1 := Maps.size_del (k := .int .i64 s) h.tidy
    have h2 := cnt_modify L s.toNat
    rw [h.has, h.size] at h1
    unfold ackL
    unfold opens at h1
    simp only [hs, decide_true, Bool.true_and] at h1
    split at h1 <;> simp_all <;> omega
  · rw [opens_ack L s t hs]
    by_cases ht : t = s
    · subst ht
      rw [Maps.has_del_same]
      simp
    · rw [Maps.has_del_other (fun e => ht (by simpa using e)), h.has]
      simp [ht]
  · by_cases hk : kl = .int .i64 s
    · subst hk
      rw [Maps.has_del_same] at hkl
      cases hkl
    · rw [Maps.has_del_other hk] at hkl
      rw [Maps.atKey_del_other hk]
      exact h.vals kl hkl z
theorem plain_bool (x : Bool) : plainElem (H := Msg) Try.prog 4 (.bool x) = some (.lit (.bool x), []) := by simp [plainElem, Try.underlying4]
set_option maxRecDepth 100000 in
theorem plain_bool_inv {v : Value} {d : DataW Msg} {ps : List MemPlace} (h : plainElem (H := Msg) Try.prog 4 v = some (d, ps)) : ∃ x, v = .bool x ∧ d = .lit (.bool x) := by
  unfold plainElem at h
  rw [Try.underlying4] at h
  cases v <;> simp at h
  exact ⟨_, rfl, h.1.symm⟩
set_option maxRecDepth 100000 in
theorem wait_look {w : World} {b n : Nat} {D : DataW Msg} (h : w.ownsMap Try.prog 3 (plainElem Try.prog 4) b n D) (hv : ∀ kl, Maps.has D kl = true → ∀ z, D.atKey kl z = .lit (.bool true)) {s : Int} (hw : (Lit.int .i64 s).wf = true) :
    ∀ W : World, W.heap[b]? = w.heap[b]? → (Instr.lookup 100 (.map (some b)) (.int .i64 s) false).run Try.prog W = .ok (.bool (Maps.has D (.int .i64 s))) W := by
  intro W hW
  have hz : (zeroValue 4).run Try.prog W = .ok (.bool false) W := by kernel_rfl
  obtain ⟨v, ps, hrun, hR⟩ := (owns_blk h hW).lookup Try.intKeyed Try.underlying100 hz (plain_bool false) (key_int hw)
  obtain ⟨x, rfl, hx⟩ := plain_bool_inv hR
  rw [hrun]
  cases hh : Maps.has D (.int .i64 s) with
  | true =>
    rw [hv _ hh] at hx
    simp at hx
    rw [hx]
  | false =>
    rw [Maps.atKey_of_not_has hh] at hx
    simp at hx
    rw [hx]

def AckPost (w : World) (g : Nat) (n : Int) (S : Value) (bw bg kw kg : Nat) (Dw Dg : DataW Msg) (s : Int) (e : Ending) (w' : World) : Prop :=
  e = .returned (.tuple #[zmsg, .bool false]) ∧ PeerAt w' g n S bw bg kw kg (Dw.del (.int .i64 s)) Dg ∧ Fr (fun k => k = bw) w w'
set_option maxRecDepth 100000 in
set_option maxHeartbeats 4000000 in
theorem hear_ack {w : World} {g : Nat} {n : Int} {S : Value} {bw bg kw kg : Nat} {Dw Dg : DataW Msg} (h : PeerAt w g n S bw bg kw kg Dw Dg) (hn : n ≠ 0) (m : Msg) (hp : m.peer = n) (hs : 0 ≤ m.seq) (hk : m.kind = 2) (hw : (Lit.int .i64 m.seq).wf = true) : Calls Try.prog 38 #[.pointer (some ⟨g, 0, none⟩), .agg #[.int .i64 m.kind, .int .i64 m.peer, .int .i64 m.seq, .string m.key, .int .i64 m.n]] w (AckPost w g n S bw bg kw kg Dw Dg m.seq) := by
  obtain ⟨mk, mp, ms, mt, mn⟩ := m
  simp only at *
  have HH := Lib.hid h
  have HW := Lib.hid hw
  clear h hw
  subst hp hk
  have hs' : ¬ ms < 0 := by omega
  go_enter Try.func38, Try.ntmps38
  go_wp2
  obtain ⟨w2, he, hn1, hn2, hF, hsz⟩ := alloc2 w (.cells #[.int .i64 2, .int .i64 mp, .int .i64 ms, .string mt, .int .i64 mn] 71) (.cells #[.int .i64 0, .int .i64 0, .int .i64 0, .string ⟨#[]⟩, .int .i64 0] 71)
  rw [he]
  have H2 := Lib.hid (HH.out.fr0 hF)
  have HF := Lib.hid hF
  have hgl : g < w.heap.size := blk_lt HH.out.box
  clear he hF hsz
  generalize hg2 : w.heap.size + 1 = g2 at hn2 ⊢
  have HG2 := Lib.hid hg2
  clear hg2
  generalize hg1 : w.heap.size = g1 at hn1 hgl ⊢
  have HG1 := Lib.hid hg1
  clear hg1
  have c0 : w2.cell? ⟨g1, 0, none⟩ = some (.int .i64 2) := blk_cell hn1 0
  have c1 : w2.cell? ⟨g1, 1, none⟩ = some (.int .i64 mp) := blk_cell hn1 1
  have c2 : w2.cell? ⟨g1, 2, none⟩ = some (.int .i64 ms) := blk_cell hn1 2
  have d0 : w2.cell? ⟨g, 0, none⟩ = some (.int .i64 mp) := blk_cell H2.out.box 0
  have HN1 := Lib.hid hn1
  have HN2 := Lib.hid hn2
  clear hn1 hn2
  go_quiet ((go_at_call 61; exact Calls.quiet_of_same (peer_some (((Fr.refl (fun _ => False) w2).drewN _).blk0 H2.out.box) hn)))
  have H3 := Lib.hid (H2.out.fr0 ((Fr.refl (fun _ => False) w2).drewN nq))
  have HF3 : Hid (Fr (fun _ => False) w (w2.drewN nq)) := HF.out.drewN nq
  have HN13 : Hid ((w2.drewN nq).heap[g1]? = some (.cells #[.int .i64 2, .int .i64 mp, .int .i64 ms, .string mt, .int .i64 mn] 71 (0, 0))) := HN1.out
  have HN23 : Hid ((w2.drewN nq).heap[g2]? = some (.cells #[.int .i64 0, .int .i64 0, .int .i64 0, .string ⟨#[]⟩, .int .i64 0] 71 (0, 0))) := HN2.out
  generalize w2.drewN nq = w3 at H3 HF3 HN13 HN23 ⊢
  clear c0 c1 c2 d0 H2 HN1 HN2 HF
  have c0 : w3.cell? ⟨g1, 0, none⟩ = some (.int .i64 2) := blk_cell HN13.out 0
  have c2 : w3.cell? ⟨g1, 2, none⟩ = some (.int .i64 ms) := blk_cell HN13.out 2
  have d2 : w3.cell? ⟨g, 2, none⟩ = some (.map (some bw)) := blk_cell H3.out.box 2
  have H3d : PeerAt w3.drew g mp S bw bg kw kg Dw Dg := H3.out.fr0 (Fr.refl (fun _ => False) w3).drew
  obtain ⟨w5, hdrop, hown, hturn⟩ := H3d.waits.drop Try.intKeyed Try.underlying100 (key_int HW.out) 0
  have hF5 : Fr (fun k => k = bw) w3.drew w5 := (Fr.refl _ _).grown hturn.grown (fun k hk => .inr (Option.some.inj hk).symm)
  have hgb := H3.out.gbw
  have hg1b : g1 ≠ bw := fun e => by obtain ⟨_, _, h2, _⟩ := H3.out.waits; rw [← e] at h2; have := HN13.out.symm.trans h2; cases this
  have hg2b : g2 ≠ bw := fun e => by obtain ⟨_, _, h2, _⟩ := H3.out.waits; rw [← e] at h2; have := HN23.out.symm.trans h2; cases this
  have hS0 : w3.drew.cell? ⟨g, 2, none⟩ = some (.map (some bw)) ∧ w3.drew.cell? ⟨g1, 2, none⟩ = some (.int .i64 ms) := ⟨d2, c2⟩
  have hS1 : w5.cell? ⟨g, 2, none⟩ = some (.map (some bw)) ∧ w5.cell? ⟨g1, 2, none⟩ = some (.int .i64 ms) := ⟨hF5.cell hS0.1 hgb.1, hF5.cell hS0.2 hg1b⟩
  have H5 : Hid (PeerAt w5 g mp S bw bg kw kg (Dw.del (.int .i64 ms)) Dg) :=
    ⟨hF5.blk H3d.box hgb.1, hown, owns_blk H3d.got (hF5.block _ H3d.got.lt (fun e => H3d.ne e.symm)), H3d.ne⟩
  have HF5 : Hid (Fr (fun k => k = bw) w w5) := (HF3.out.drew.none (S := fun k => k = bw)).trans hF5 (fun _ _ h => h)
  have HN15 : Hid (w5.heap[g1]? = some (.cells #[.int .i64 2, .int .i64 mp, .int .i64 ms, .string mt, .int .i64 mn] 71 (0, 0))) := hF5.blk HN13.out hg1b
  have HN25 : Hid (w5.heap[g2]? = some (.cells #[.int .i64 0, .int .i64 0, .int .i64 0, .string ⟨#[]⟩, .int .i64 0] 71 (0, 0))) := hF5.blk HN23.out hg2b
  clear hown hturn hF5 H3d hgb hg1b hg2b HN13 HN23 H3 HF3
  go_upto_region 5 with (fail)
  go_region_held3 (fun w' => w'.cell? ⟨g, 2, none⟩ = some (.map (some bw)) ∧ w'.cell? ⟨g1, 2, none⟩ = some (.int .i64 ms)) (first | exact hS0 | exact hS1) (fail)
  have z0 := blk_frozen HN25.out 0
  have z1 := blk_frozen HN25.out 1
  have z2 := blk_frozen HN25.out 2
  have z3 := blk_frozen HN25.out 3
  have z4 := blk_frozen HN25.out 4
  have q0 : w5.cell? ⟨g2, 0, none⟩ = some (.int .i64 0) := blk_cell HN25.out 0
  have q1 : w5.cell? ⟨g2, 1, none⟩ = some (.int .i64 0) := blk_cell HN25.out 1
  have q2 : w5.cell? ⟨g2, 2, none⟩ = some (.int .i64 0) := blk_cell HN25.out 2
  have q3 : w5.cell? ⟨g2, 3, none⟩ = some (.string ⟨#[]⟩) := blk_cell HN25.out 3
  have q4 : w5.cell? ⟨g2, 4, none⟩ = some (.int .i64 0) := blk_cell HN25.out 4
  go_wp2
  have hn6 := set5 (a := .int .i64 0) (b := .int .i64 0) (c := .int .i64 0) (d := .string ⟨#[]⟩) (e := .int .i64 0) HN25.out
  have hF6 := set5_fr w5 g2 (.int .i64 0) (.int .i64 0) (.int .i64 0) (.string ⟨#[]⟩) (.int .i64 0)
  have hF7 : Fr (fun k => k = bw) w _ := HF5.out.trans' hF6 (fun _ _ h => h) (fun k hk e => by have := HG2.out; have := HG1.out; omega)
  have hg2g : g ≠ g2 := by have := HG2.out; have := HG1.out; omega
  have hg2w : ¬ bw = g2 := fun e => by obtain ⟨_, _, h2, _⟩ := H5.out.waits; rw [e] at h2; have := HN25.out.symm.trans h2; cases this
  have hg2b : ¬ bg = g2 := fun e => by obtain ⟨_, _, h2, _⟩ := H5.out.got; rw [e] at h2; have := HN25.out.symm.trans h2; cases this
  have H6 := H5.out.fr hF6 hg2g hg2w hg2b
  clear hF6
  generalize (((((w5.setCell ⟨g2, 0, none⟩ (.int .i64 0)).setCell ⟨g2, 1, none⟩ (.int .i64 0)).setCell ⟨g2, 2, none⟩ (.int .i64 0)).setCell ⟨g2, 3, none⟩ (.string ⟨#[]⟩)).setCell ⟨g2, 4, none⟩ (.int .i64 0)) = w6 at *
  have r0 : w6.cell? ⟨g2, 0, none⟩ = some (.int .i64 0) := blk_cell hn6 0
  have r1 : w6.cell? ⟨g2, 1, none⟩ = some (.int .i64 0) := blk_cell hn6 1
  have r2 : w6.cell? ⟨g2, 2, none⟩ = some (.int .i64 0) := blk_cell hn6 2
  have r3 : w6.cell? ⟨g2, 3, none⟩ = some (.string ⟨#[]⟩) := blk_cell hn6 3
  have r4 : w6.cell? ⟨g2, 4, none⟩ = some (.int .i64 0) := blk_cell hn6 4
  exact bodyPost_ret (v := .tuple #[zmsg, .bool false]) (by simp [results, Try.results38, go_sem, r0, r1, r2, r3, r4, zmsg]) rfl ⟨rfl, H6, hF7⟩
end Go.Proofs.Ytedmhhllkkgbjaa
