/- The document's disk: Loose. -/
import Derived.Test.YtdamegjhdopfaaaE4
namespace Go.Proofs.Ytdamegjhdopfaaa
open Go.RowKit Go.WideShapes
set_option linter.unusedSimpArgs false
set_option linter.unusedVariables false

/-- the loose sectors of the first k -/
structure LosK (d : Dk) (k : Nat) (acc : List Lo) : Prop where
  mem : ∀ m : Lo, m ∈ acc ↔ m.s.val < k ∧ 0 < (d.L (m.s.val : Int)).length ∧ m.many = (d.L (m.s.val : Int)).length
  rise : acc.Pairwise (fun x y => x.s.val < y.s.val)
theorem LosK.nil (d : Dk) : LosK d 0 [] := ⟨fun m => ⟨fun h => (by cases h), fun h => absurd h.1 (Nat.not_lt_zero _)⟩, List.Pairwise.nil⟩
theorem LosK.skip {d : Dk} {k : Nat} {acc : List Lo} (h : LosK d k acc) (h0 : (d.L (k : Int)).length = 0) : LosK d (k + 1) acc := by
  refine ⟨fun m => (h.mem m).trans ⟨fun hm => ⟨by omega, hm.2⟩, fun hm => ⟨?_, hm.2⟩⟩, h.rise⟩
  have h1 := hm.1
  rcases Nat.lt_or_ge m.s.val k with h2 | h2
  · exact h2
  · have : m.s.val = k := by omega
    rw [this] at hm
    omega
theorem LosK.more {d : Dk} {k : Nat} {acc : List Lo} (h : LosK d k acc) (hk : k < 4096) (h0 : 0 < (d.L (k : Int)).length) : LosK d (k + 1) (acc ++ [⟨⟨k, hk⟩, (d.L (k : Int)).length⟩]) := by
  refine ⟨fun m => ?_, ?_⟩
  · rw [List.mem_append, List.mem_singleton, h.mem]
    constructor
    · rintro (hm | rfl)
      · exact ⟨by omega, hm.2⟩
      · exact ⟨by show k < k + 1; omega, h0, rfl⟩
    · intro hm
      have h1 := hm.1
      rcases Nat.lt_or_ge m.s.val k with h2 | h2
      · exact .inl ⟨h2, hm.2⟩
      · right
        have h3 : m.s.val = k := by omega
        obtain ⟨⟨s, hs⟩, many⟩ := m
        simp only at h3 hm
        subst h3
        rw [hm.2.2]
  · rw [List.pairwise_append]
    refine ⟨h.rise, List.pairwise_singleton _ _, fun x hx y hy => ?_⟩
    rw [List.mem_singleton.1 hy]
    exact ((h.mem x).1 hx).1
theorem LosK.len {d : Dk} {k : Nat} {acc : List Lo} (h : LosK d k acc) : acc.length ≤ 4096 := by
  have hn : (acc.map (·.s)).Nodup := by
    rw [List.Nodup, List.pairwise_map]
    exact h.rise.imp (fun {a b} h e => by rw [e] at h; exact Nat.lt_irrefl _ h)
  have := nodup_len hn (l2 := List.finRange 4096) (fun x _ => List.mem_finRange x)
  simpa using this
theorem LosK.all {d : Dk} {acc : List Lo} (h : LosK d d.F.length acc) (hp : d.Pure) : acc = losOf d := by
  have hn : acc.Nodup := h.rise.imp (fun {a b} h e => by rw [e] at h; exact Nat.lt_irrefl _ h)
  refine los_same d ((List.perm_ext_iff_of_nodup hn (nodup_map (los_nodup d))).2 (fun m => ?_)) (h.rise.imp (fun {x y} h => by omega))
  rw [h.mem, mem_los]
  refine ⟨fun hm => hm.2, fun hm => ⟨?_, hm⟩⟩
  have := hp.within (m.s.val : Int) (fun e => by have := hm.1; rw [e] at this; simp at this)
  omega

set_option maxRecDepth 100000 in
set_option maxHeartbeats 2000000 in
theorem rloose_any {w : World} {g : Nat} {T : Nat → Prop} {d : Dk} (h : RdAt w g T d) (hputs : d.puts ≤ 1000000) (l : List Lo) (hl : l = losOf d) : Calls Try.prog 21 #[.pointer (some ⟨g, 0, none⟩)] w (LoosePost w l) := by
  obtain ⟨sb, U, hs, h1, h2, h3, h4, h5⟩ := h
  have H1 := Lib.hid h1
  have HALL : Hid (∀ acc, LosK d d.F.length acc → acc = l) := (by rw [hl]; exact fun acc ha => ha.all h1.pure : ∀ acc, LosK d d.F.length acc → acc = l)
  have HPT := Lib.hid hputs
  have hfew := h1.pure.few
  have c0 : w.cell? ⟨g, 0, none⟩ = some (.slice (some ⟨sb, 0, none⟩) d.F.length d.F.length) := blk_cell h1.box 0
  clear h1 h2 h3 h4 h5 hl hputs
  obtain ⟨n, hn⟩ : ∃ n, n = d.F.length := ⟨_, rfl⟩
  rw [← hn] at c0 hfew HALL
  have HN := Lib.hid hn
  have J0 : Hid (LosK d 0 []) := LosK.nil d
  have O0 : Hid (w.ownsRow w.heap.size 48 2 (.slice none ([] : List Lo).length 0) ([] : List Lo).length (([] : List Lo).flatMap Lo.cells)) := ⟨rfl, .inl ⟨rfl, rfl⟩⟩
  have F0 : Hid (Fr (fun _ => False) w w) := Fr.refl _ _
  clear hn
  go_enter Try.func21, Try.ntmps21
  go_wp2_with fail
  go_loopw [4, 3] (fun k u wr => ∃ (i : Nat) (acc : List Lo) (U : Option Addr) (uc : Nat), i ≤ n ∧ k = .int .i64 i ∧ u = .slice U acc.length uc ∧ Hid (LosK d i acc) ∧ Hid (wr.ownsRow w.heap.size 48 2 (.slice U acc.length uc) acc.length (acc.flatMap Lo.cells)) ∧ Hid (Fr (fun _ => False) w wr)) (fun k _ _ => n - (intOf k).toNat)
  case atStart => exact ⟨0, [], none, 0, by omega, rfl, rfl, J0, O0, F0⟩
  case round =>
    clear J0 O0 F0
    obtain ⟨i, acc, UA, uc, hi, rfl, rfl, J, O, F⟩ := hrel
    have c0r := F.out.cell0 c0
    rcases Nat.lt_or_ge i n with hlt | hlt
    · have hii : (i : Int) < n := by omega
      obtain ⟨o, ho, his, cf, cl⟩ := H1.out.cells (i := i) (by rw [← HN.out]; exact hlt)
      have clr := F.out.cell0 cl
      have hL : (d.L (i : Int)).length ≤ 1000000 := Nat.le_trans (H1.out.pure.lens i) HPT.out
      have hacc := J.out.len
      obtain ⟨m, hm⟩ : ∃ m, m = (d.L (i : Int)).length := ⟨_, rfl⟩
      rw [← hm] at clr hL
      have HM := Lib.hid hm
      clear ho his cf cl hm c0
      by_cases h0 : m = 0
      · subst h0
        have JN := Lib.hid (J.out.skip HM.out.symm)
        go_wp2_with fail
        exact ⟨⟨i + 1, acc, UA, uc, by omega, by go_num, rfl, JN, O, F⟩, by simp [intOf]; omega⟩
      · have hmi : (0 : Int) < m := by omega
        have JN := Lib.hid (J.out.more (by omega : i < 4096) (by rw [← HM.out]; omega))
        have HFA : Hid (Fr (fun _ => False) w (wr.alloc (.cells #[.int .i64 i, .int .i64 m] 48))) := F.out.alloc _
        have HOA : Hid ((wr.alloc (.cells #[.int .i64 i, .int .i64 m] 48)).ownsRow w.heap.size 48 2 (.slice UA acc.length uc) acc.length (acc.flatMap Lo.cells)) := ((Fr.refl (fun _ => False) wr).alloc _).own0 O.out
        clear h0
        go_wp2_with (at_builtin; refine wpl_app rfl (.tmp 26) (.tmp 38) 39 rfl w.heap.size 48 _ 2 16 Try.underlying39 lo_info rfl (by decide) (.slice UA acc.length uc) acc.length (acc.flatMap Lo.cells) rfl HOA.out ⟨wr.heap.size, 0, none⟩ 1 1 [.int .i64 i, .int .i64 m] rfl rfl (news_of (blk_new _ _)) (by simp [Value.oneCell']) (by simp [maxLen]; omega) (by omega) HFA.out.size ?_; intro v3 w3 ho3 hg3 hm3; obtain ⟨A3, c3, rfl⟩ := own_slice ho3)
        refine ⟨⟨i + 1, _, A3, c3, by omega, by go_num, by rw [List.length_append]; rfl, JN, ?_, HFA.out.grown hg3 (fun k hk => .inl (HOA.out.lt k hk).1)⟩, by simp [intOf]; omega⟩
        show w3.ownsRow _ _ _ _ _ _
        rw [List.length_append, List.flatMap_append, ← HM.out]
        simpa [Lo.cells] using ho3
    · have hii : ¬ (i : Int) < n := by omega
      obtain rfl : i = n := by omega
      have hal := HALL.out acc J.out
      have HE : Hid (LoosePost w l (.returned (.slice UA acc.length uc)) wr) := ⟨_, rfl, by rw [← hal]; exact O.out, F.out⟩
      clear hal
      go_wp2_with fail
      go_ret
      exact HE.out
end Go.Proofs.Ytdamegjhdopfaaa
