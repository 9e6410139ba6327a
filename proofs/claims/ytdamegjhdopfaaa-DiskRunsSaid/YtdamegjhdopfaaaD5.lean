/- A disk: Write. -/
import Derived.Test.YtdamegjhdopfaaaD4
import Derived.Great.BuildSlice
namespace Go.Proofs.Ytdamegjhdopfaaa
open Go.RowKit Go.WideShapes
set_option linter.unusedSimpArgs false

def Dk.wr (d : Dk) (i : Int) (s : List Int) : Dk := { d with L := fun k => if k = i then d.L k ++ [s] else d.L k, puts := d.puts + 1 }
/-- bytes that are read -/
def ReadU (w : World) (A : Option Addr) (l : List Int) : Prop := ∀ (i : Nat) (x : Int), l[i]? = some x → ∃ g o, A = some ⟨g, o, none⟩ ∧ w.cell? ⟨g, o + i, none⟩ = some (.int .u8 x)
theorem ReadU.fr {w w' : World} {A : Option Addr} {l : List Int} (h : ReadU w A l) {S : Nat → Prop} (hF : Fr S w w') (hS : ∀ g o, A = some ⟨g, o, none⟩ → ¬ S g) : ReadU w' A l := fun i x hx => by
  obtain ⟨g, o, e, hc⟩ := h i x hx
  exact ⟨g, o, e, hF.cell hc (hS g o e)⟩
theorem ReadU.news {w : World} {A : Option Addr} {l : List Int} (h : ReadU w A l) (hl : 0 < l.length) : ∃ ad, A = some ad ∧ ∀ j v, (by8 l)[j]? = some v → w.cell? (ad.add j) = some v := by
  obtain ⟨x, r, rfl⟩ : ∃ x r, l = x :: r := by cases l with | nil => simp at hl | cons x r => exact ⟨x, r, rfl⟩
  obtain ⟨g, o, e, _⟩ := h 0 x rfl
  refine ⟨_, e, fun j v hv => ?_⟩
  unfold by8 at hv
  rw [List.getElem?_map] at hv
  obtain ⟨y, hy, rfl⟩ := Option.map_eq_some_iff.1 hv
  obtain ⟨g', o', e', hc⟩ := h j y hy
  rw [e'] at e
  cases e
  rw [add_some]
  exact hc

theorem sec_infos : (Try.prog.info? 106).map (fun i => (i.zero, i.size, i.bytes)) = some (some (.agg (by8 zeroS).toArray), 128, 128) := by kernel_rfl
/-- a literal of one sector -/
theorem fill_all : ∀ (vs : List Value) (pre cs : List Value), vs.length = cs.length → (vs.zipIdx pre.length).foldl (fun (a : Array Value) (p : Value × Nat) => a.setIfInBounds p.2 p.1) (pre ++ cs).toArray = (pre ++ vs).toArray
  | [], pre, cs, h => by
    have : cs = [] := List.eq_nil_of_length_eq_zero h.symm
    simp [this]
  | v :: vs, pre, cs, h => by
    obtain ⟨c, r, rfl⟩ : ∃ c r, cs = c :: r := by cases cs with | nil => simp at h | cons c r => exact ⟨c, r, rfl⟩
    rw [List.zipIdx_cons, List.foldl_cons]
    have e : (pre ++ c :: r).toArray.setIfInBounds pre.length v = ((pre ++ [v]) ++ r).toArray := by simp
    rw [e]
    have := fill_all vs (pre ++ [v]) r (by simpa using h)
    simpa using this
theorem run_lit1 (s : List Int) (hs : s.length = 128) (W : World) : (Instr.buildSlice 71 1 #[(0, .agg (by8 s).toArray)]).run Try.prog W = .ok (.slice (some ⟨W.heap.size, 0, none⟩) 1 1) (W.alloc (.cells (by8 s).toArray 106)) := by
  obtain ⟨i, hi, h1⟩ := Option.map_eq_some_iff.1 sec_infos
  simp only [Prod.mk.injEq] at h1
  obtain ⟨hz, hsz, hb⟩ := h1
  refine run_buildSlice W 71 106 1 _ (by8 s).toArray i _ Try.underlying71 hi hz (by rw [hsz]; omega) (by rw [hsz]; omega) ?_
  rw [hsz]
  have hbase : ((Array.range (1 * 128)).map ((Value.agg (by8 zeroS).toArray).cells[· % (Value.agg (by8 zeroS).toArray).cells.size]!)) = (by8 zeroS).toArray := by kernel_rfl
  rw [hbase]
  have hl : (by8 s).toArray.size = 128 := by simp [by8_len, hs]
  have hz2 : (by8 zeroS).toArray.size = 128 := by simp [zero_len]
  have hf := fill_all (by8 s) [] (by8 zeroS) (by rw [by8_len, hs, zero_len])
  simp only [Instr.fill, Value.cells, hl, hz2]
  have hf2 : (by8 s).toArray.zipIdx.foldl (fun cs x => cs.setIfInBounds (0 * 128 + x.2) x.1) (by8 zeroS).toArray = (by8 s).toArray := by
    rw [← Array.foldl_toList]
    simpa using hf
  simpa using hf2
theorem step_lit1 {ops : Array Oper} {o : Oper} {a : Act} {w : World} {K : Act → World → Prop} {Q : Exit → Act → World → Prop} {E : Prop} (hg : o.guard = none) (x : Operand) (hop : o.op = .buildSlice 71 1 #[(0, x)]) (s : List Int) (hs : s.length = 128) (hx : a.eval x = .agg (by8 s).toArray)
    (h : K (a.put o.dst (.slice (some ⟨w.heap.size, 0, none⟩) 1 1)) (w.alloc (.cells (by8 s).toArray 106))) : if Region.wanted o (yielded ops a.tmps) = true then Oper.wp Try.prog o a w K Q else E := by
  have hw : Region.wanted o (yielded ops a.tmps) = true := by simp [Region.wanted, hg]
  rw [if_pos hw]
  have hr := run_lit1 s hs w
  have he : (#[(0, x)] : Array (Nat × Operand)).map (fun (i, y) => (i, a.eval y)) = #[(0, .agg (by8 s).toArray)] := by simp [hx]
  unfold Oper.wp execOp
  simp only [hop, he, Sem.run_bind, hr, Result.andThen_ok]
  exact h
theorem own_iter {w : World} {B n r : Nat} {e : TypeId} {size : Nat} {v : Value} {xs : List Value} {o : Obj} (h : w.ownsRow B e size v n xs) (hr : w.heap[r]? = some o) (ho : ∀ cs t f, o ≠ .cells cs t f) : ∀ k, v.ownBlock = some k → k ≠ r := by
  intro k hk e
  subst e
  rcases h.2 with ⟨rfl, _⟩ | ⟨g, cap, cur, rfl, _, hh, _⟩
  · cases hk
  · obtain rfl : g = k := by simpa [Value.ownBlock] using hk
    exact ho _ _ _ (Option.some.inj (hr.symm.trans hh))
theorem own_map {w : World} {B n b c : Nat} {e : TypeId} {size : Nat} {v : Value} {xs : List Value} {k : TypeId} {R : Value → Option (DataW Hd × List MemPlace)} {D : DataW Hd} (h : w.ownsRow B e size v n xs) (hm : w.ownsMap Try.prog k R b c D) : ∀ q, v.ownBlock = some q → q ≠ b := by
  obtain ⟨es, cl, hb, _⟩ := hm
  exact own_iter h hb (fun _ _ _ e => by cases e)

/-- one write more of a sector -/
theorem DkIn.written {w w6 w7 : World} {g : Nat} {FA : Option Addr} {fc bm km : Nat} {Dm : DataW Hd} {hd : Int → Hd} {d : Dk} (h : DkIn w g FA fc bm km Dm hd d) (i : Int) (hi : 0 ≤ i ∧ i < d.F.length) (s : List Int) (hs : Sec s) (A : Option Addr) (c : Nat)
    (hF6 : Fr (fun k => (hd i).v.ownBlock = some k) w w6) (ho : w6.ownsRow 0 106 128 (.slice A ((d.L i).length + 1) c) ((d.L i).length + 1) ((d.L i ++ [s]).flatMap by8))
    (hA : (Value.slice A ((d.L i).length + 1) c).ownBlock = (hd i).v.ownBlock ∨ ∃ b, (Value.slice A ((d.L i).length + 1) c).ownBlock = some b ∧ w.heap.size ≤ b)
    (hm : w7.ownsMap Try.prog 3 hdR bm (km + 1) (Dm.put (.int .i64 i) (.held ⟨A, (d.L i).length + 1, c⟩))) (hF7 : Fr (fun k => k = bm) w6 w7) :
    DkIn w7 g FA fc bm (km + 1) (Dm.put (.int .i64 i) (.held ⟨A, (d.L i).length + 1, c⟩)) (setHd hd i ⟨A, (d.L i).length + 1, c⟩) (d.wr i s) := by
  have hgm : g ≠ bm := fun e => by obtain ⟨_, _, hm, _⟩ := h.map; rw [← e] at hm; have := h.box.symm.trans hm; cases this
  have hgi : ∀ k, (hd k).v.ownBlock ≠ some g := fun k e => own_ne (h.rows k) h.box (by decide) e.symm
  have hmi : ∀ k, (hd k).v.ownBlock ≠ some bm := fun k e => own_map (h.rows k) h.map _ e rfl
  have hm6 : w6.ownsMap Try.prog 3 hdR bm km Dm := owns_blk h.map (hF6.block _ h.map.lt (hmi i))
  have hlt : ∀ k q, (hd k).v.ownBlock = some q → q < w.heap.size := fun k q hq => own_lt (h.rows k) q hq
  have hnew : ∀ q, (Value.slice A ((d.L i).length + 1) c).ownBlock = some q → (hd i).v.ownBlock = some q ∨ w.heap.size ≤ q := fun q hq => by
    rcases hA with hA | ⟨b, hA, hb⟩
    · exact .inl (hA ▸ hq)
    · rw [hA] at hq; cases hq; exact .inr hb
  have hself : setHd hd i ⟨A, (d.L i).length + 1, c⟩ i = ⟨A, (d.L i).length + 1, c⟩ := if_pos rfl
  have hoth : ∀ k, k ≠ i → setHd hd i ⟨A, (d.L i).length + 1, c⟩ k = hd k := fun k hk => if_neg hk
  have lself : (d.wr i s).L i = d.L i ++ [s] := if_pos rfl
  have loth : ∀ k, k ≠ i → (d.wr i s).L k = d.L k := fun k hk => if_neg hk
  refine ⟨hF7.blk (hF6.blk h.box (hgi i)) hgm, ?_, h.secs, h.pos, h.few, hm, h.heads.put i _ (by show 0 < _ + 1; omega), fun k => ?_, fun k => ?_, fun k x hx => ?_, fun k hk => ?_, by have := h.kms; show km + 1 ≤ d.puts + 1; omega, fun k => ?_, h.dones, h.fuses, fun p q k hp hq => ?_, fun p k hp hq => ?_⟩
  · have h6 := hF6.own h.row (fun k hk e => h.apartF i k e hk)
    exact hF7.own h6 (fun k hk e => own_map h6 hm6 k hk e)
  · by_cases hk : k = i
    · subst hk; rw [hself, lself]; simp
    · rw [hoth k hk, loth k hk]; exact h.num k
  · by_cases hk : k = i
    · subst hk
      rw [hself, lself, List.length_append]
      exact hF7.own ho (fun q hq e => own_map ho hm6 q hq e)
    · rw [hoth k hk, loth k hk]
      have h6 := hF6.own (h.rows k) (fun q hq e => hk (h.apart k i q hq e))
      exact hF7.own h6 (fun q hq e => own_map h6 hm6 q hq e)
  · by_cases hk : k = i
    · subst hk
      rw [lself] at hx
      rcases List.mem_append.1 hx with hx | hx
      · exact h.lsecs k x hx
      · rw [List.mem_singleton.1 hx]; exact hs
    · rw [loth k hk] at hx; exact h.lsecs k x hx
  · by_cases hk2 : k = i
    · subst hk2; exact hi
    · rw [loth k hk2] at hk; exact h.within k hk
  · have := h.lens k
    show _ ≤ d.puts + 1
    by_cases hk : k = i
    · subst hk; rw [lself, List.length_append]; simp; omega
    · rw [loth k hk]; omega
  · by_cases hpi : p = i
    · by_cases hqi : q = i
      · rw [hpi, hqi]
      · rw [hpi, hself] at hp
        rw [hoth q hqi] at hq
        rcases hnew k hp with h1 | h1
        · rw [hpi]; exact h.apart i q k h1 hq
        · have := hlt q k hq; omega
    · rw [hoth p hpi] at hp
      by_cases hqi : q = i
      · rw [hqi, hself] at hq
        rcases hnew k hq with h1 | h1
        · rw [hqi]; exact h.apart p i k hp h1
        · have := hlt p k hp; omega
      · rw [hoth q hqi] at hq
        exact h.apart p q k hp hq
  · by_cases hpi : p = i
    · rw [hpi, hself] at hp
      rcases hnew k hp with h1 | h1
      · exact h.apartF i k h1 hq
      · have := own_lt h.row k hq; omega
    · rw [hoth p hpi] at hp
      exact h.apartF p k hp hq
end Go.Proofs.Ytdamegjhdopfaaa
