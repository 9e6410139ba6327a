/- Clone, Delete, out, Take. -/
import Derived.Test.YtedmhhllkkgbjaaNet3
namespace Go.Proofs.Ytedmhhllkkgbjaa
open Go.RowKit

theorem oneCells (l : List Mail) : ∀ u ∈ mcells l, u.oneCell' = true := by
  intro u hu
  obtain ⟨m, _, hm⟩ := List.mem_flatMap.1 hu
  simp only [Mail.cells, List.mem_cons, List.not_mem_nil, or_false] at hm
  rcases hm with rfl | rfl | rfl <;> rfl

theorem own_base0 {w : World} {base n : Nat} {e : TypeId} {size : Nat} {v : Value} {xs : List Value} (h : w.ownsRow base e size v n xs) : w.ownsRow 0 e size v n xs := by
  refine ⟨h.1, ?_⟩
  rcases h.2 with h | ⟨g, cap, cur, hv, _, r⟩
  · exact .inl h
  · exact .inr ⟨g, cap, cur, hv, Nat.zero_le _, r⟩

def ClonePost (w : World) (l : List Mail) (e : Ending) (w' : World) : Prop :=
  ∃ g c, e = .returned (.slice (some ⟨g, 0, none⟩) l.length c) ∧ w.heap.size ≤ g ∧ w'.ownsRow 0 29 3 (.slice (some ⟨g, 0, none⟩) l.length c) l.length (mcells l) ∧ Fr (fun _ => False) w w'

set_option maxHeartbeats 400000 in
theorem clone_mails {w : World} {g c : Nat} {l : List Mail} (h : w.ownsRow 0 29 3 (.slice (some ⟨g, 0, none⟩) l.length c) l.length (mcells l)) (hl : 0 < l.length) (hl2 : l.length < 1000000) :
    Calls Try.prog 69 #[.slice (some ⟨g, 0, none⟩) l.length c] w (ClonePost w l) := by
  have qT : ∀ (w : World) (a : Option Addr) (n c n' c' : Nat), (binOp .eql 36 (.slice a n c) (.slice none n' c')).run Try.prog w = .ok (.bool a.isNone) w := fun w a n c n' c' => Lib.run_eql_slice_nil w _ _ a n c n' c' Try.underlying36
  go_enter Try.func69, Try.ntmps69
  go_wp2_with (at_builtin; refine wpl_app rfl (.tmp 5) (.tmp 6) 36 rfl w.heap.size 29 _ 3 32 Try.underlying36 Try.info29 rfl (by decide) (.slice (some ⟨w.heap.size, 0, none⟩) 0 0) 0 [] rfl (World.ownsRow_made w #[] 0 (Nat.le_refl _) (by simp [maxLen]) (by simp)) ⟨g, 0, none⟩ l.length c (mcells l) rfl (mcells_length l) ((h.alloc _).cells rfl) (oneCells l) (by simp [maxLen]; omega) (by omega) (by simp) ?_; intro v2 w2 ho2 hg2 hm2)
  have hF := ((Fr.refl (fun _ => False) w).alloc (.cells #[] 29)).grown hg2 (fun k hk => .inl (by simp only [Value.ownBlock, Option.some.injEq] at hk; omega))
  simp only [Nat.zero_add, List.nil_append] at ho2
  have ho0 := ho2
  obtain ⟨h1, ⟨_, h2⟩ | ⟨g2, c2, cur, rfl, hg3, rest⟩⟩ := ho2
  · omega
  go_wp2
  go_ret
  exact ⟨g2, c2, rfl, hg3, own_base0 ho0, hF⟩

theorem mcells_take (l : List Mail) (i : Nat) : mcells (l.take i) = (mcells l).take (i * 3) := flat_take Mail.cells 3 (fun _ => rfl) l i
theorem mcells_drop (l : List Mail) (i : Nat) : mcells (l.drop i) = (mcells l).drop (i * 3) := flat_drop Mail.cells 3 (fun _ => rfl) l i
theorem mcells_append (l k : List Mail) : mcells (l ++ k) = mcells l ++ mcells k := by simp [mcells]
theorem erase_eq (l : List Mail) (i : Nat) : l.eraseIdx i = l.take i ++ l.drop (i + 1) := List.eraseIdx_eq_take_drop_succ l i

theorem own_take {w : World} {g n c i : Nat} {l : List Mail} (h : w.ownsRow 0 29 3 (.slice (some ⟨g, 0, none⟩) n c) n (mcells l)) (hl : l.length = n) (hi : i ≤ n) : w.ownsRow 0 29 3 (.slice (some ⟨g, 0, none⟩) i c) i (mcells (l.take i)) := by
  obtain ⟨h1, ⟨h2, _⟩ | ⟨g2, c2, cur, hv, hg, hh, hc, hm, hs, ht⟩⟩ := h
  · cases h2
  · simp only [Value.slice.injEq, Option.some.injEq, Addr.mk.injEq, and_true, true_and] at hv
    obtain ⟨rfl, rfl⟩ := hv
    refine ⟨by rw [mcells_length, List.length_take]; congr 1; omega, .inr ⟨g, c, cur, rfl, hg, hh, by omega, hm, hs, ?_⟩⟩
    rw [mcells_take, ← ht, List.take_take]
    congr 1
    omega

def DelPost (w : World) (g k c i : Nat) (l : List Mail) (e : Ending) (w' : World) : Prop :=
  e = .returned (.slice (some ⟨g, 0, none⟩) k c) ∧ w'.ownsRow 0 29 3 (.slice (some ⟨g, 0, none⟩) k c) k (mcells (l.eraseIdx i)) ∧ Fr (fun x => x = g) w w'

theorem own_block {w : World} {base g n c : Nat} {e : TypeId} {size : Nat} {xs : List Value} (h : w.ownsRow base e size (.slice (some ⟨g, 0, none⟩) n c) n xs) :
    ∃ cur, w.heap[g]? = some (.cells cur e (0, 0)) ∧ n ≤ c ∧ c ≤ maxLen ∧ cur.size = c * size ∧ cur.toList.take (n * size) = xs := by
  obtain ⟨_, ⟨h2, _⟩ | ⟨g2, c2, cur, hv, hg, hh, hc, hm, hs, ht⟩⟩ := h
  · cases h2
  · simp only [Value.slice.injEq, Option.some.injEq, Addr.mk.injEq, and_true, true_and] at hv
    obtain ⟨rfl, rfl⟩ := hv
    exact ⟨cur, hh, hc, hm, hs, ht⟩
theorem own_of_block {w : World} {g n c : Nat} {e : TypeId} {size : Nat} {xs : List Value} {cur : Array Value} (hh : w.heap[g]? = some (.cells cur e (0, 0))) (hc : n ≤ c) (hm : c ≤ maxLen) (hs : cur.size = c * size) (ht : cur.toList.take (n * size) = xs) (hx : xs.length = n * size) :
    w.ownsRow 0 e size (.slice (some ⟨g, 0, none⟩) n c) n xs := ⟨hx, .inr ⟨g, c, cur, rfl, Nat.zero_le _, hh, hc, hm, hs, ht⟩⟩

set_option maxRecDepth 100000 in
set_option maxHeartbeats 400000 in
theorem delete_mails {w : World} {g c k i : Nat} {l : List Mail} (h : w.ownsRow 0 29 3 (.slice (some ⟨g, 0, none⟩) (k + 1) c) (k + 1) (mcells l)) (hl : l.length = k + 1) (hk : k < 1000000) (hi : i ≤ k) (hc : k + 1 ≤ c) (_hcm : c ≤ 9223372036854775807) :
    Calls Try.prog 68 #[.slice (some ⟨g, 0, none⟩) (k + 1) c, .int .i64 i, .int .i64 (i + 1)] w (DelPost w g k c i l) := by
  obtain ⟨ad, hcut, hnews⟩ := cut_from (P := Try.prog) 36 29 _ 3 32 Try.underlying36 Try.info29 g (k + 1) c (i + 1) (by omega)
  have hic : i ≤ c := by omega
  have Hl := Lib.hid hl
  clear hl
  have N := Lib.hid hnews
  clear hnews
  have hii : ((i : Int) == (i : Int) + 1) = false := by simp; omega
  rw [show ((i + 1 : Nat) : Int) = (i : Int) + 1 by omega] at hcut
  go_enter Try.func68, Try.ntmps68
  go_wp2_with fail
  go_region_law (refine step_fits rfl (.tmp 22) (.tmp 25) 36 rfl 0 29 _ 3 32 Try.underlying36 Try.info29 g i c k (mcells (l.take i)) (by simp [Act.eval, Act.put]) (own_take (own_drew h) Hl.out (by omega)) ad (k - i) (c - (i + 1)) (mcells (l.drop (i + 1))) (by simp [Act.eval, Act.put]) (by rw [mcells_length, List.length_drop, Hl.out]; congr 1; omega) (by rw [mcells_drop]; exact N.out _ 0 _ (own_drew h)) (oneCells _) (by omega) (by omega) ?_; intro w2 ho2 hg2)
  all_goals
    obtain ⟨cur, hcur, _, hcm2, hcs, hct⟩ := own_block ho2
    have hl2 := ho2.1
    have HG := Lib.hid hg2
    have HT := Lib.hid hct
    have HX := Lib.hid hl2
    have HS := Lib.hid hcs
    clear hg2 hct ho2 hl2 hcs
    go_wp2_with ((with_reducible refine gate_bi (b' := .clear) rfl ?_); refine wpl_clear rfl (.tmp 31) 36 rfl 29 _ 3 32 Try.underlying36 Try.info29 rfl (by simp [Value.cells, Value.oneCell']) (by decide) g (k * 3) 0 (c - k) rfl cur hcur (by rw [HS.out]; omega) ?_; intro w3 cur3 hb3 hs3 ht3 hF3)
    go_ret
    have hE : mcells (l.eraseIdx i) = mcells (l.take i) ++ mcells (l.drop (i + 1)) := by rw [erase_eq, mcells_append]
    refine ⟨rfl, own_of_block hb3 (by omega) hcm2 (hs3.trans HS.out) (ht3.trans (HT.out.trans hE.symm)) (by rw [hE]; exact HX.out), ?_⟩
    exact ((Fr.refl (fun x => x = g) w).drew.grown HG.out (fun x hx => .inr (Option.some.inj hx).symm)).trans hF3 (fun _ _ x => x)
end Go.Proofs.Ytedmhhllkkgbjaa
