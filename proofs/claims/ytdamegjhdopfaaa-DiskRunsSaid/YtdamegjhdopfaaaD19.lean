/- A disk: what Flush does to it, sector by sector. -/
import Derived.Test.YtdamegjhdopfaaaD18
namespace Go.Proofs.Ytdamegjhdopfaaa
open Go.RowKit Go.WideShapes
set_option linter.unusedSimpArgs false
set_option linter.unusedVariables false

theorem fr_turned {w w' : World} {b : Nat} (h : w.mapTurned w' b) : Fr (fun k => k = b) w w' :=
  (Fr.refl _ _).grown h.grown (fun k hk => .inr (Option.some.inj hk).symm)

section
variable {w w' : World} {g : Nat} {FA : Option Addr} {fc bm km : Nat} {Dm : DataW Hd} {hd : Int → Hd} {d : Dk}
/-- the keys of its map -/
theorem key_facts (h : DkIn w g FA fc bm km Dm hd d) {ss : List Int} (hp : ss.Perm (intKeys Dm)) : ss.Nodup ∧ ∀ x, x ∈ ss ↔ d.L x ≠ [] := by
  obtain ⟨es, rfl, hpw, hkl⟩ := h.map.entries Try.intKeyed
  have hk : ∀ p ∈ es, ∃ x, p.1 = .int .i64 x := fun p hp => h.heads.keys p.1 (List.any_eq_true.2 ⟨p, hp, WideAt.sameKey_self (hkl p hp)⟩)
  have hin : ∀ x, d.L x ≠ [] ↔ Maps.has (.map es) (.int .i64 x) = true := fun x => by
    rw [h.heads.has, h.num]
    simp only [decide_eq_true_eq]
    constructor
    · intro hx; exact List.length_pos_iff.2 hx
    · intro hx; exact List.length_pos_iff.1 hx
  have hnd : ((losOf d).map (fun m => (m.s.val : Int))).Nodup := by
    rw [List.Nodup, List.pairwise_map]
    exact (los_rise d).imp (fun {a b} h e => by omega)
  have hm : ∀ x, x ∈ (losOf d).map (fun m => (m.s.val : Int)) ↔ Maps.has (.map es) (.int .i64 x) = true := fun x => by
    rw [← hin, List.mem_map]
    constructor
    · rintro ⟨m, hm, rfl⟩
      exact List.length_pos_iff.1 ((mem_los d m).1 hm).1
    · intro hx
      obtain ⟨h1, h2⟩ := h.within x hx
      have h3 := h.few
      refine ⟨⟨⟨x.toNat, by omega⟩, (d.L x).length⟩, (mem_los d _).2 ?_, ?_⟩
      · have e : ((x.toNat : Nat) : Int) = x := by omega
        show 0 < (d.L ((x.toNat : Nat) : Int)).length ∧ (d.L x).length = (d.L ((x.toNat : Nat) : Int)).length
        rw [e]
        exact ⟨List.length_pos_iff.2 hx, rfl⟩
      · show ((x.toNat : Nat) : Int) = x
        omega
  have hpm := hp.trans (perm_intKeys hpw hk hnd hm).symm
  exact ⟨hpm.nodup_iff.2 hnd, fun x => by rw [hpm.mem_iff, hm, ← hin]⟩
/-- a fixed sector is written -/
theorem DkIn.fixedAt (h : DkIn w g FA fc bm km Dm hd d) {fg i : Nat} (hfg : FA = some ⟨fg, 0, none⟩) (s : List Int) (hs : Sec s) (hF : Fr (fun k => k = fg) w w') (ho : w'.ownsRow 0 106 128 (.slice FA d.F.length fc) d.F.length ((d.F.set i s).flatMap by8)) :
    DkIn w' g FA fc bm km Dm hd { d with F := d.F.set i s } := by
  have hgf : g ≠ fg := fun e => own_ne h.row h.box (by decide) (by rw [hfg, e]; rfl)
  have hmf : bm ≠ fg := fun e => own_map h.row h.map fg (by rw [hfg]; rfl) e.symm
  have hrf : ∀ i k, (hd i).v.ownBlock = some k → k ≠ fg := fun i k hk e => h.apartF i k hk (by rw [hfg, e]; rfl)
  have hl : (d.F.set i s).length = d.F.length := List.length_set
  refine ⟨by show w'.heap[g]? = some (.cells #[.slice FA (d.F.set i s).length fc, _, _, _, _] _ _); rw [hl]; exact hF.blk h.box hgf, by show w'.ownsRow 0 _ 128 (.slice FA (d.F.set i s).length fc) (d.F.set i s).length _; rw [hl]; exact ho, fun x hx => ?_, by show 0 < (d.F.set i s).length; rw [hl]; exact h.pos, by show (d.F.set i s).length ≤ 4096; rw [hl]; exact h.few, owns_blk h.map (hF.block _ h.map.lt hmf), h.heads, h.num, fun k => hF.own (h.rows k) (hrf k), h.lsecs, fun k hk => by show 0 ≤ k ∧ k < ((d.F.set i s).length : Int); rw [hl]; exact h.within k hk, h.kms, h.lens, h.dones, h.fuses, h.apart, fun p k hk => by show (Value.slice FA (d.F.set i s).length fc).ownBlock ≠ some k; rw [hl]; exact h.apartF p k hk⟩
  rcases List.mem_or_eq_of_mem_set hx with hx | rfl
  · exact h.secs x hx
  · exact hs
/-- a sector has no loose writes any more -/
theorem DkIn.dropped (h : DkIn w g FA fc bm km Dm hd d) (i : Int) (hm : w'.ownsMap Try.prog 3 hdR bm km (Dm.del (.int .i64 i))) (hF : Fr (fun k => k = bm) w w') :
    DkIn w' g FA fc bm km (Dm.del (.int .i64 i)) (setHd hd i noHd) { d with L := fun k => if k = i then [] else d.L k } := by
  have hgm : g ≠ bm := fun e => by obtain ⟨_, _, hm, _⟩ := h.map; rw [← e] at hm; have := h.box.symm.trans hm; cases this
  refine ⟨hF.blk h.box hgm, hF.own h.row (own_map h.row h.map), h.secs, h.pos, h.few, hm, h.heads.del i, fun k => ?_, fun k => ?_, fun k x hx => ?_, fun k hk => ?_, h.kms, fun k => ?_, h.dones, h.fuses, fun p q k hp hq => ?_, fun p k hp => ?_⟩
  · show (setHd hd i noHd k).n = (if k = i then [] else d.L k).length
    unfold setHd
    by_cases hk : k = i
    · rw [if_pos hk, if_pos hk]; rfl
    · rw [if_neg hk, if_neg hk]; exact h.num k
  · show w'.ownsRow 0 _ 128 (setHd hd i noHd k).v (if k = i then [] else d.L k).length ((if k = i then [] else d.L k).flatMap by8)
    unfold setHd
    by_cases hk : k = i
    · rw [if_pos hk, if_pos hk]; exact ⟨rfl, .inl ⟨rfl, rfl⟩⟩
    · rw [if_neg hk, if_neg hk]; exact hF.own (h.rows k) (own_map (h.rows k) h.map)
  · have hx' : x ∈ (if k = i then [] else d.L k) := hx
    by_cases hk : k = i
    · rw [if_pos hk] at hx'; cases hx'
    · rw [if_neg hk] at hx'; exact h.lsecs k x hx'
  · have hk' : (if k = i then [] else d.L k) ≠ [] := hk
    by_cases hki : k = i
    · rw [if_pos hki] at hk'; exact absurd rfl hk'
    · rw [if_neg hki] at hk'; exact h.within k hk'
  · show (if k = i then [] else d.L k).length ≤ d.puts
    by_cases hk : k = i
    · rw [if_pos hk]; exact Nat.zero_le _
    · rw [if_neg hk]; exact h.lens k
  · unfold setHd at hp hq
    by_cases hpi : p = i
    · rw [if_pos hpi] at hp; cases hp
    · by_cases hqi : q = i
      · rw [if_pos hqi] at hq; cases hq
      · rw [if_neg hpi] at hp; rw [if_neg hqi] at hq; exact h.apart p q k hp hq
  · unfold setHd at hp
    by_cases hpi : p = i
    · rw [if_pos hpi] at hp; cases hp
    · rw [if_neg hpi] at hp; exact h.apartF p k hp
end

/-- a disk of which some sectors are flushed -/
def Dk.part (d : Dk) (ps : List Int) : Dk := { d with F := (List.range d.F.length).map (fun (i : Nat) => if (i : Int) ∈ ps then d.at i else d.F.getD i []), L := fun k => if k ∈ ps then [] else d.L k }
def Dk.flushed (d : Dk) : Dk := { d with F := (List.range d.F.length).map d.at, L := fun _ => [] }
theorem part_nil (d : Dk) : d.part [] = d := by
  unfold Dk.part
  have e : (List.range d.F.length).map (fun (i : Nat) => if (i : Int) ∈ ([] : List Int) then d.at i else d.F.getD i []) = d.F := by
    apply List.ext_getElem
    · simp
    · intro i h1 h2
      simp [List.getElem?_eq_getElem h2]
  rw [e]
  simp
theorem part_len (d : Dk) (ps : List Int) : (d.part ps).F.length = d.F.length := by simp [Dk.part]
theorem part_at (d : Dk) (ps : List Int) (p : Nat) (hp : (p : Int) ∉ ps) (hpl : p < d.F.length) : (d.part ps).at p = d.at p := by
  unfold Dk.at Dk.part
  simp [hp, hpl]
theorem part_step (d : Dk) (ps : List Int) (p : Nat) (hp : (p : Int) ∉ ps) (hpl : p < d.F.length) : ({ d.part ps with F := (d.part ps).F.set p (d.at p), L := fun k => if k = (p : Int) then [] else (d.part ps).L k } : Dk) = d.part (ps ++ [(p : Int)]) := by
  unfold Dk.part
  simp only [Dk.mk.injEq, and_true, true_and]
  refine ⟨?_, funext fun k => ?_⟩
  · apply List.ext_getElem
    · simp
    · intro i h1 h2
      simp only [List.length_map, List.length_range] at h2
      rw [List.getElem_set]
      simp only [List.getElem_map, List.getElem_range, List.mem_append, List.mem_singleton]
      by_cases hi : p = i
      · subst hi; simp
      · have : ¬ (i : Int) = (p : Int) := by omega
        simp [hi, this]
  · by_cases h1 : k = (p : Int)
    · simp [h1]
    · by_cases h2 : k ∈ ps <;> simp [h1, h2]
theorem part_all (d : Dk) (ps : List Int) (h : ∀ x, x ∈ ps ↔ d.L x ≠ []) : d.part ps = d.flushed := by
  unfold Dk.part Dk.flushed
  simp only [Dk.mk.injEq, and_true, true_and]
  refine ⟨?_, funext fun k => ?_⟩
  · apply List.map_congr_left
    intro i hi
    by_cases h1 : (i : Int) ∈ ps
    · rw [if_pos h1]
    · rw [if_neg h1]
      have h2 : d.L (i : Int) = [] := by
        cases hc : d.L (i : Int) with
        | nil => rfl
        | cons x r => exact absurd ((h _).2 (by rw [hc]; simp)) h1
      unfold Dk.at
      rw [h2]
      simp
  · by_cases h1 : k ∈ ps
    · rw [if_pos h1]
    · rw [if_neg h1]
      cases hc : d.L k with
      | nil => rfl
      | cons x r => exact absurd ((h _).2 (by rw [hc]; simp)) h1
end Go.Proofs.Ytdamegjhdopfaaa
