/- net.Peer.Offer taken. -/
import Derived.Test.YtedmhhllkkgbjaaPe12
namespace Go.Proofs.Ytedmhhllkkgbjaa
open Go.RowKit Go.WideShapes
set_option linter.unusedSimpArgs false
set_option linter.unusedVariables false

def OfferPost (w : World) (g : Nat) (n : Int) (S : Value) (bw bg kw kg : Nat) (Dw Dg : DataW Msg) (sent : List Msg) (m : Msg) (e : Ending) (w' : World) : Prop :=
  e = .returned (.tuple #[m.v, .int .i64 0]) ∧ ∃ S', PeerAt w' g n S' bw bg (kw + 1) kg (Dw.put (.int .i64 m.seq) (.lit (.bool true))) Dg ∧ w'.ownsRow 0 71 5 S' (sent ++ [m]).length ((sent ++ [m]).flatMap Msg.cells) ∧ Fr (fun k => Foot g S k ∨ k = bw) w w' ∧ Moved w S S'

theorem own_map {w : World} {B n b c : Nat} {e : TypeId} {size : Nat} {v : Value} {xs : List Value} {k : TypeId} {R : Value → Option (DataW Msg × List MemPlace)} {D : DataW Msg} (h : w.ownsRow B e size v n xs) (hm : w.ownsMap Try.prog k R b c D) : some b ≠ v.ownBlock := by
  obtain ⟨es, cl, hb, _⟩ := hm
  exact fun e => own_iter h hb (fun _ _ _ e => by cases e) _ e.symm rfl

set_option maxRecDepth 100000 in
set_option maxHeartbeats 4000000 in
theorem offer_ok {w : World} {g : Nat} {n : Int} {SA : Option Addr} {sc bw bg kw kg : Nat} {Dw Dg : DataW Msg} {sent : List Msg} (h : PeerAt w g n (.slice SA sent.length sc) bw bg kw kg Dw Dg) (hn : n ≠ 0) (key : ByteArray) (x : Int)
    (h1 : ¬ (key.size : Int) < 1) (h2 : ¬ 16 < (key.size : Int)) (h3 : ¬ x < 1) (h4 : ¬ 1125899906842624 < x) (h5 : ¬ 64 ≤ (Maps.size Dw : Int)) (hkw : kw < maxLen) (ho : w.ownsRow 0 71 5 (.slice SA sent.length sc) sent.length (sent.flatMap Msg.cells)) (hl : sent.length < 1000000) :
    Calls Try.prog 41 #[.pointer (some ⟨g, 0, none⟩), .string key, .int .i64 x] w (OfferPost w g n (.slice SA sent.length sc) bw bg kw kg Dw Dg sent ⟨1, n, sent.length, key, x⟩) := by
  have HH := Lib.hid h
  have hwf : (Lit.int .i64 (sent.length : Int)).wf = true := by simp [Lit.wf, show IntKind.i64.min = -9223372036854775808 from rfl, show IntKind.i64.max = 9223372036854775807 from rfl]; omega
  have HWF := Lib.hid hwf
  have hgl : g < w.heap.size := blk_lt h.box
  have hbl : bw < w.heap.size := h.waits.lt
  have HSL := Lib.hid (own_lt ho)
  clear h hwf
  obtain ⟨w2, he, hn2, hF, hsz⟩ := alloc1 w (.cells #[.int .i64 0, .int .i64 0, .int .i64 0, .string ⟨#[]⟩, .int .i64 0] 71)
  have HE := Lib.hid he
  have H2 := Lib.hid (HH.out.fr0 hF)
  have HO2 := Lib.hid (hF.own0 ho)
  have HF := Lib.hid hF
  have HN2 := Lib.hid hn2
  have HSZ := Lib.hid hsz
  clear he hF hsz hn2
  go_enter Try.func41, Try.ntmps41
  go_wp2_with fail
  rw [HE.out]
  refine (peer_some H2.out.box hn).mono ?_
  rintro e w' ⟨rfl, rfl⟩
  have d0 : w'.cell? ⟨g, 0, none⟩ = some (.int .i64 n) := blk_cell H2.out.box 0
  have d1 : w'.cell? ⟨g, 1, none⟩ = some (.slice SA sent.length sc) := blk_cell H2.out.box 1
  have d2 : w'.cell? ⟨g, 2, none⟩ = some (.map (some bw)) := blk_cell H2.out.box 2
  have hlen := H2.out.waits.len Try.underlying100 3
  go_upto_region 7 with (fail)
  have hS : ∀ W : World, Fr (fun _ => False) w' W → W.cell? ⟨g, 0, none⟩ = some (.int .i64 n) ∧ W.cell? ⟨g, 1, none⟩ = some (.slice SA sent.length sc) := fun W hF => ⟨hF.cell0 d0, hF.cell0 d1⟩
  have HS := Lib.hid hS
  clear hS hlen d0 d1 d2
  go_region_held3 (fun w' => w'.cell? ⟨g, 0, none⟩ = some (.int .i64 n) ∧ w'.cell? ⟨g, 1, none⟩ = some (.slice SA sent.length sc)) (first | exact HS.out _ (Fr.refl _ _).drew | exact HS.out _ (((Fr.refl _ _).alloc _).drew) | exact HS.out _ ((Fr.refl _ _).alloc _) | exact HS.out _ ((Fr.refl _ _).drew.alloc _)) (fail)
  obtain ⟨w4, he4, hn4, hF4, hz4⟩ : ∃ w4, (w'.alloc (Obj.cells #[.int .i64 1, .int .i64 n, .int .i64 sent.length, .string key, .int .i64 x] 71)).drew = w4 ∧ w4.heap[w'.heap.size]? = some (Obj.cells #[.int .i64 1, .int .i64 n, .int .i64 sent.length, .string key, .int .i64 x] 71 (0, 0)) ∧ Fr (fun _ => False) w' w4 ∧ w4.heap.size = w'.heap.size + 1 := ⟨_, rfl, blk_new _ _, ((Fr.refl _ w').alloc _).drew, by simp [World.drew]⟩
  rw [he4]
  have H4 := Lib.hid (H2.out.fr0 hF4)
  have HO4 := Lib.hid (hF4.own0 HO2.out)
  have HF4 : Hid (Fr (fun _ => False) w w4) := HF.out.trans hF4 (fun _ _ h => h)
  have HN24 := Lib.hid (hF4.blk0 HN2.out)
  have HN4 := Lib.hid hn4
  have hg6 : w.heap.size < w'.heap.size := by have := HSZ.out; omega
  clear he4 hF4 HS HN2 H2 HO2 HF hn4 ho HE
  generalize w'.heap.size = g8 at *
  have HSZ2 := HSZ.out
  have HG8 : Hid (g8 = w.heap.size + 1) := HSZ2
  clear HSZ HSZ2
  have hlen2 : w.heap.size + 2 ≤ w4.heap.size := by have := HG8.out; omega
  have c0 : w4.cell? ⟨g8, 0, none⟩ = some (.int .i64 1) := blk_cell HN4.out 0
  have c1 : w4.cell? ⟨g8, 1, none⟩ = some (.int .i64 n) := blk_cell HN4.out 1
  have c2 : w4.cell? ⟨g8, 2, none⟩ = some (.int .i64 sent.length) := blk_cell HN4.out 2
  have c3 : w4.cell? ⟨g8, 3, none⟩ = some (.string key) := blk_cell HN4.out 3
  have c4 : w4.cell? ⟨g8, 4, none⟩ = some (.int .i64 x) := blk_cell HN4.out 4
  go_upto_region 8 with (fail)
  go_region_with (go_at_call 65; refine (put_msg w4.drew g n (.slice SA sent.length sc) (.map (some bw)) (.map (some bg)) sent ⟨1, n, sent.length, key, x⟩ H4.out.box HO4.out hl).mono ?_; rintro e w5 ⟨rfl, v5, hb5, ho5, hF5, hm5⟩)
  have hfg8 : ¬ Foot g (.slice SA sent.length sc) g8 := fun e => by
    rcases e with e | e
    · omega
    · have := HSL.out g8 e.symm; omega
  have hfg6 : ¬ Foot g (.slice SA sent.length sc) w.heap.size := fun e => by
    rcases e with e | e
    · omega
    · have := HSL.out _ e.symm; omega
  have hfw : ¬ Foot g (.slice SA sent.length sc) bw := fun e => by
    rcases e with e | e
    · exact H4.out.gbw.1 e.symm
    · exact own_map HO4.out H4.out.waits e
  have hfb : ¬ Foot g (.slice SA sent.length sc) bg := fun e => by
    rcases e with e | e
    · exact H4.out.gbw.2 e.symm
    · exact own_map HO4.out H4.out.got e
  have H5 : PeerAt w5 g n v5 bw bg kw kg Dw Dg := ⟨hb5, owns_blk H4.out.waits (hF5.block _ H4.out.waits.lt hfw), owns_blk H4.out.got (hF5.block _ H4.out.got.lt hfb), H4.out.ne⟩
  have HN5 : Hid (w5.heap[g8]? = some (Obj.cells #[.int .i64 1, .int .i64 n, .int .i64 sent.length, .string key, .int .i64 x] 71 (0, 0))) := hF5.blk HN4.out hfg8
  have HN25 : Hid (w5.heap[w.heap.size]? = some (Obj.cells #[.int .i64 0, .int .i64 0, .int .i64 0, .string ⟨#[]⟩, .int .i64 0] 71 (0, 0))) := hF5.blk HN24.out hfg6
  have hmv : Moved w (.slice SA sent.length sc) v5 := Moved.trans (Moved.refl w _) hm5 HF4.out.size
  have HMV := Lib.hid hmv
  have hv5 : v5.ownBlock ≠ some w.heap.size := fun e => by
    rcases hm5 with h | ⟨q, h, hq⟩
    · have h8 := HSL.out w.heap.size (by rw [← h, e]); omega
    · have h8 : w4.heap.size ≤ q := hq
      rw [e] at h
      have := Option.some.inj h
      omega
  have HV5 := Lib.hid hv5
  clear hv5
  have HF5 : Hid (Fr (Foot g (.slice SA sent.length sc)) w w5) := HF4.out.none.drew.trans hF5 (fun _ _ h => h)
  have HFW := Lib.hid (And.intro hfw hfb)
  have hbg := H4.out.gbw
  clear hmv hm5 hF5 hfg8 hfg6 hfw hfb hb5 c0 c1 c2 c3 c4 HN4 HN24 HO4 H4 HF4 hz4
  have H5d : PeerAt w5.drew g n v5 bw bg kw kg Dw Dg := H5.fr0 (Fr.refl (fun _ => False) w5).drew
  obtain ⟨w6, hupd, hown, hgr⟩ := H5d.waits.update Try.intKeyed Try.underlying100 hkw (val := .bool true) (d := .lit (.bool true)) (ps := []) (key_int HWF.out) (plain_bool true)
  have hF6 : Fr (fun k => k = bw) w5.drew w6 := (Fr.refl _ _).grown hgr (fun k hk => .inr (Option.some.inj hk).symm)
  have hg8w : g8 ≠ bw := by omega
  have hg6w : w.heap.size ≠ bw := by omega
  have c2 : w5.drew.cell? ⟨g8, 2, none⟩ = some (.int .i64 sent.length) := blk_cell HN5.out 2
  have d2 : w5.drew.cell? ⟨g, 2, none⟩ = some (.map (some bw)) := blk_cell H5d.box 2
  have hS0 : w5.drew.cell? ⟨g, 2, none⟩ = some (.map (some bw)) ∧ w5.drew.cell? ⟨g8, 2, none⟩ = some (.int .i64 sent.length) := ⟨d2, c2⟩
  have hS1 : w6.cell? ⟨g, 2, none⟩ = some (.map (some bw)) ∧ w6.cell? ⟨g8, 2, none⟩ = some (.int .i64 sent.length) := ⟨hF6.cell d2 hbg.1, hF6.cell c2 hg8w⟩
  have H6 : Hid (PeerAt w6 g n v5 bw bg (kw + 1) kg (Dw.put (.int .i64 sent.length) (.lit (.bool true))) Dg) :=
    ⟨hF6.blk H5d.box hbg.1, hown, owns_blk H5d.got (hF6.block _ H5d.got.lt (fun e => H5d.ne e.symm)), H5d.ne⟩
  have HO6 := Lib.hid (hF6.own (w := w5.drew) ho5 (fun k hk e => own_map ho5 H5.waits (by rw [hk, e])))
  have HN6 : Hid (w6.heap[g8]? = some (Obj.cells #[.int .i64 1, .int .i64 n, .int .i64 sent.length, .string key, .int .i64 x] 71 (0, 0))) := hF6.blk HN5.out hg8w
  have HN26 : Hid (w6.heap[w.heap.size]? = some (Obj.cells #[.int .i64 0, .int .i64 0, .int .i64 0, .string ⟨#[]⟩, .int .i64 0] 71 (0, 0))) := hF6.blk HN25.out hg6w
  have HF6 : Hid (Fr (fun k => Foot g (.slice SA sent.length sc) k ∨ k = bw) w w6) := HF5.out.drew.trans' hF6 (fun _ _ h => .inl h) (fun _ _ h => .inr h)
  clear hown hgr hF6 H5d H5 ho5 HN5 HN25 HF5 c2 d2
  go_upto_region 9 with (fail)
  go_region_held3 (fun w' => w'.cell? ⟨g, 2, none⟩ = some (.map (some bw)) ∧ w'.cell? ⟨g8, 2, none⟩ = some (.int .i64 sent.length)) (first | exact hS0 | exact hS1) (fail)
  clear hS0 hS1
  generalize hG6 : w.heap.size = g6 at *
  have HG6 := Lib.hid hG6
  clear hG6
  have c0 : w6.cell? ⟨g8, 0, none⟩ = some (.int .i64 1) := blk_cell HN6.out 0
  have c1 : w6.cell? ⟨g8, 1, none⟩ = some (.int .i64 n) := blk_cell HN6.out 1
  have c2 : w6.cell? ⟨g8, 2, none⟩ = some (.int .i64 sent.length) := blk_cell HN6.out 2
  have c3 : w6.cell? ⟨g8, 3, none⟩ = some (.string key) := blk_cell HN6.out 3
  have c4 : w6.cell? ⟨g8, 4, none⟩ = some (.int .i64 x) := blk_cell HN6.out 4
  have z0 := blk_frozen HN26.out 0
  have z1 := blk_frozen HN26.out 1
  have z2 := blk_frozen HN26.out 2
  have z3 := blk_frozen HN26.out 3
  have z4 := blk_frozen HN26.out 4
  have q0 : w6.cell? ⟨g6, 0, none⟩ = some (.int .i64 0) := blk_cell HN26.out 0
  have q1 : w6.cell? ⟨g6, 1, none⟩ = some (.int .i64 0) := blk_cell HN26.out 1
  have q2 : w6.cell? ⟨g6, 2, none⟩ = some (.int .i64 0) := blk_cell HN26.out 2
  have q3 : w6.cell? ⟨g6, 3, none⟩ = some (.string ⟨#[]⟩) := blk_cell HN26.out 3
  have q4 : w6.cell? ⟨g6, 4, none⟩ = some (.int .i64 0) := blk_cell HN26.out 4
  go_wp2
  have hn7 := set5 (a := .int .i64 1) (b := .int .i64 n) (c := .int .i64 sent.length) (d := .string key) (e := .int .i64 x) HN26.out
  have hF7 := set5_fr w6 g6 (.int .i64 1) (.int .i64 n) (.int .i64 sent.length) (.string key) (.int .i64 x)
  have HF7 : Fr (fun k => Foot g (.slice SA sent.length sc) k ∨ k = bw) w _ := HF6.out.trans' hF7 (fun _ _ h => h) (fun k hk e => by have := HG6.out; omega)
  have H7 := H6.out.fr hF7 (fun e => by omega) (fun e => by omega) (fun e => by obtain ⟨_, _, h2, _⟩ := H6.out.got; rw [e] at h2; have := HN26.out.symm.trans h2; cases this)
  have HO7 := hF7.own HO6.out (fun k hk e => HV5.out (by rw [hk, e]))
  clear hF7
  generalize (((((w6.setCell ⟨g6, 0, none⟩ (.int .i64 1)).setCell ⟨g6, 1, none⟩ (.int .i64 n)).setCell ⟨g6, 2, none⟩ (.int .i64 sent.length)).setCell ⟨g6, 3, none⟩ (.string key)).setCell ⟨g6, 4, none⟩ (.int .i64 x)) = w7 at *
  have r0 : w7.cell? ⟨g6, 0, none⟩ = some (.int .i64 1) := blk_cell hn7 0
  have r1 : w7.cell? ⟨g6, 1, none⟩ = some (.int .i64 n) := blk_cell hn7 1
  have r2 : w7.cell? ⟨g6, 2, none⟩ = some (.int .i64 sent.length) := blk_cell hn7 2
  have r3 : w7.cell? ⟨g6, 3, none⟩ = some (.string key) := blk_cell hn7 3
  have r4 : w7.cell? ⟨g6, 4, none⟩ = some (.int .i64 x) := blk_cell hn7 4
  exact bodyPost_ret (v := .tuple #[.agg #[.int .i64 1, .int .i64 n, .int .i64 sent.length, .string key, .int .i64 x], .int .i64 0]) (by simp [results, Try.results41, go_sem, r0, r1, r2, r3, r4]) rfl ⟨rfl, v5, H7, HO7, HF7, HMV.out⟩
end Go.Proofs.Ytedmhhllkkgbjaa
