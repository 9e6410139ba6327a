/- The document's disk: Fuse; what one sector's heads that are written make of it. -/
import Derived.Test.YtdamegjhdopfaaaE9
namespace Go.Proofs.Ytdamegjhdopfaaa
open Go.RowKit Go.WideShapes
set_option linter.unusedSimpArgs false
set_option linter.unusedVariables false

theorem Dk.Pure.setFuse {d : Dk} (h : d.Pure) (n : Int) : (d.setFuse n).Pure := by
  unfold Dk.setFuse
  split
  · rename_i e
    have hn : ¬ (n < 0 ∨ 1048576 < n) := fun h' => by
      unfold Dk.fuseE at e
      split at e
      · omega
      · first | omega | (rw [if_pos h'] at e; omega)
    exact ⟨h.secs, h.pos, h.few, h.lsecs, h.within, h.lens, h.dones, (by show -1 ≤ n ∧ n ≤ 1048576; omega), rfl⟩
  · exact h
def RFusePost (w : World) (g : Nat) (T : Nat → Prop) (d' : Dk) (r : Int) (e : Ending) (w' : World) : Prop :=
  e = .returned (.int .i64 r) ∧ RdAt w' g T d' ∧ Fr (fun k => k = g) w w'
set_option maxRecDepth 100000 in
theorem rfuse_any {w : World} {g : Nat} {T : Nat → Prop} {d : Dk} (h : RdAt w g T d) (n : Int) : Calls Try.prog 66 #[.pointer (some ⟨g, 0, none⟩), .int .i64 n] w (RFusePost w g T (d.setFuse n) (d.fuseE n)) := by
  have hsame : ∀ r : Int, d.fuseE n = r → r ≠ 0 → RFusePost w g T (d.setFuse n) (d.fuseE n) (.returned (.int .i64 r)) w := fun r h1 h2 => by
    unfold Dk.setFuse
    rw [h1, if_neg h2]
    exact ⟨rfl, h, Fr.refl _ _⟩
  have HSAME := Lib.hid hsame
  have H := Lib.hid h
  obtain ⟨sb, U, hs, h1, h2, h3, h4, h5⟩ := h
  have hbox := h1.box
  have c1 : w.cell? ⟨g, 1, none⟩ = some (.bool (decide (0 ≤ d.fuse))) := blk_cell hbox 1
  have c2 : w.cell? ⟨g, 2, none⟩ = some (.int .i64 d.left) := blk_cell hbox 2
  have f1 := blk_frozen hbox 1
  have f2 := blk_frozen hbox 2
  have HP := Lib.hid (h1.pure.setFuse n)
  have H1 := Lib.hid h1
  have H4 := Lib.hid h4
  have H5 := Lib.hid h5
  have HG := Lib.hid h2
  have HS := Lib.hid h3
  clear h1 h2 h3 h4 h5 hsame hbox
  go_enter Try.func66, Try.ntmps66
  go_wp2_with fail
  refine (rdown_any H.out).mono ?_
  rintro e w1 ⟨rfl, rfl⟩
  cases hdn : d.down with
  | true =>
    have HE := Lib.hid (HSAME.out 30 (by unfold Dk.fuseE; rw [hdn]; rfl) (by omega))
    clear hdn
    go_wp2_with fail
    go_ret
    exact HE.out
  | false =>
    by_cases hn : n < 0
    · have HE := Lib.hid (HSAME.out 5 (by unfold Dk.fuseE; rw [hdn, if_neg (by simp), if_pos (.inl hn)]) (by omega))
      clear hdn
      go_wp2_with fail
      go_ret
      exact HE.out
    · by_cases hn2 : 1048576 < n
      · have HE := Lib.hid (HSAME.out 5 (by unfold Dk.fuseE; rw [hdn, if_neg (by simp), if_pos (.inr hn2)]) (by omega))
        clear hdn
        go_wp2_with fail
        go_ret
        exact HE.out
      · have HFE : Hid (d.fuseE n = 0) := (by unfold Dk.fuseE; rw [hdn, if_neg (by simp), if_neg (by omega)] : d.fuseE n = 0)
        clear hdn
        go_wp2_with fail
        go_ret
        have hF : Fr (fun k => k = g) w1 ((w1.setCell ⟨g, 1, none⟩ (.bool true)).setCell ⟨g, 2, none⟩ (.int .i64 n)) := setg_fr (setg_fr (Fr.refl _ w1) 1 _) 2 _
        have hsf : d.setFuse n = { d with fuse := n, down := decide (n = 0) } := by unfold Dk.setFuse; rw [HFE.out, if_pos rfl]
        refine ⟨by rw [HFE.out]; rfl, ⟨sb, U, hs, H1.out.boxed hF (d.setFuse n) (by rw [hsf]) (by rw [hsf]) HP.out ?_, HG.out, HS.out, H4.out, fun k hk => Nat.lt_of_lt_of_le (H5.out k hk) hF.size⟩, hF⟩
        have hl : (d.setFuse n).left = n := by rw [hsf]; exact if_pos (by show 0 ≤ n; omega)
        have hfu : (d.setFuse n).fuse = n := by rw [hsf]
        have hdo : (d.setFuse n).done = d.done := by rw [hsf]
        rw [hl, hfu, hdo, decide_eq_true (by omega)]
        have := blk_set (blk_set H1.out.box 1 (.bool true)) 2 (.int .i64 n)
        simpa using this

/-- a sector's heads are written -/
theorem RdIn.put {w w' : World} {g sb : Nat} {U U' : Nat → Prop} {hs : List Oh} {d : Dk} (h : RdIn w g sb U hs d) {i : Nat} (hi : i < d.F.length) (o' : Oh) (d' : Dk)
    (hF : Fr (fun q => q = sb) w w') (hrow : w'.heap[sb]? = some (.cells ((hs.set i o').flatMap Oh.cells).toArray 52 (0, 0)))
    (e1 : d'.F.length = d.F.length) (e2 : d'.fuse = d.fuse) (e3 : d'.done = d.done) (hoth : ∀ j, j ≠ i → d'.F.getD j [] = d.F.getD j [] ∧ d'.L (j : Int) = d.L (j : Int))
    (ho' : o'.is U' w' (d'.F.getD i []) (d'.L (i : Int))) (hU : ∀ k, U k → U' k) (hg' : ¬ U' g) (hs' : ¬ U' sb) (hp : d'.Pure) : RdIn w' g sb U' (hs.set i o') d' := by
  have hu : ∀ k, U k → ¬ k = sb := fun k hk e => h.us (by rw [← e]; exact hk)
  have hl : d'.left = d.left := by unfold Dk.left; rw [e2]
  refine ⟨by rw [e1, e2, hl, e3]; exact hF.blk h.box (fun e => h.ne e.symm), hrow, by rw [List.length_set, e1]; exact h.len, fun j p hp => ?_, hp, hg', hs'⟩
  rw [List.getElem?_set] at hp
  by_cases hji : i = j
  · subst hji
    rw [if_pos rfl, if_pos (by rw [h.len]; exact hi)] at hp
    obtain rfl := Option.some.inj hp
    exact ho'
  · rw [if_neg hji] at hp
    obtain ⟨h1, h2, h3, h4⟩ := h.is j p hp
    obtain ⟨q1, q2⟩ := hoth j (fun e => hji e.symm)
    exact ⟨h1, by rw [q2]; exact h2, by rw [q1]; exact (h3.fr hF hu).mono hU, by rw [q2]; exact (h4.fr hF hu).mono hU⟩
theorem Dk.Pure.at {d : Dk} (h : d.Pure) (i : Nat) (hi : i < d.F.length) : Sec (d.at i) := by
  unfold Dk.at
  cases hc : (d.L (i : Int)).getLast? with
  | none =>
    obtain ⟨x, hx⟩ : ∃ x, d.F[i]? = some x := ⟨_, List.getElem?_eq_getElem hi⟩
    simp only [Option.getD_none, List.getD, hx, Option.getD_some]
    exact h.secs x (List.mem_of_getElem? hx)
  | some s =>
    exact h.lsecs _ s (List.mem_of_getLast? hc)
theorem Dk.Pure.part {d : Dk} (h : d.Pure) (ps : List Int) : (d.part ps).Pure := by
  refine ⟨fun s hs => ?_, by rw [part_len]; exact h.pos, by rw [part_len]; exact h.few, fun i s hs => ?_, fun i hi => ?_, fun i => ?_, h.dones, h.fuses, h.dw⟩
  · have hs' : s ∈ (List.range d.F.length).map (fun (i : Nat) => if (i : Int) ∈ ps then d.at i else d.F.getD i []) := hs
    rw [List.mem_map] at hs'
    obtain ⟨i, hi, rfl⟩ := hs'
    rw [List.mem_range] at hi
    split
    · exact h.at i hi
    · obtain ⟨x, hx⟩ : ∃ x, d.F[i]? = some x := ⟨_, List.getElem?_eq_getElem hi⟩
      simp only [List.getD, hx, Option.getD_some]
      exact h.secs x (List.mem_of_getElem? hx)
  · have hs' : s ∈ (if i ∈ ps then [] else d.L i) := hs
    split at hs'
    · cases hs'
    · exact h.lsecs i s hs'
  · have hi' : (if i ∈ ps then [] else d.L i) ≠ [] := hi
    rw [part_len]
    split at hi'
    · exact absurd rfl hi'
    · exact h.within i hi'
  · show (if i ∈ ps then [] else d.L i).length ≤ d.puts
    split
    · exact Nat.zero_le _
    · exact h.lens i
theorem Dk.Pure.flushed {d : Dk} (h : d.Pure) : d.flushed.Pure := by
  refine ⟨fun s hs => ?_, by simp [Dk.flushed]; exact h.pos, by simp [Dk.flushed]; exact h.few, fun i s hs => (by cases hs), fun i hi => absurd rfl hi, fun _ => Nat.zero_le _, h.dones, h.fuses, h.dw⟩
  have hs' : s ∈ (List.range d.F.length).map d.at := hs
  rw [List.mem_map] at hs'
  obtain ⟨i, hi, rfl⟩ := hs'
  exact h.at i (List.mem_range.1 hi)
end Go.Proofs.Ytdamegjhdopfaaa
