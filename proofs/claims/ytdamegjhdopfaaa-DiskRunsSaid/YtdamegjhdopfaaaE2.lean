/- The document's disk: Read; bytes that are copied. -/
import Derived.Test.YtdamegjhdopfaaaE1
namespace Go.Proofs.Ytdamegjhdopfaaa
open Go.RowKit Go.WideShapes
set_option linter.unusedSimpArgs false
set_option linter.unusedVariables false

theorem byte_info : (Try.prog.info? 5).map (fun i => (i.zero, i.size, i.bytes)) = some (some (.int .u8 0), 1, 1) := by kernel_rfl
/-- append([]byte{}, x...) -/
theorem wpl_copy8 {ops : Array Oper} {rest : List Oper} {o : Oper} {a : Act} {w : World} {Q : Exit → Act → World → Prop}
    (hg : o.guard = none) (s x : Operand) (hop : o.op = Op.call { callee := Callee.builtin Builtin.append, args := #[s, x], argTypes := #[33, 33] })
    (b : Nat) (hs : a.eval s = .slice (some ⟨b, 0, none⟩) 0 0) (hE : w.heap[b]? = some (.cells #[] 5 (0, 0))) (A : Option Addr) (n c : Nat) (l : List Int) (hx : a.eval x = .slice A n c) (hn : n = l.length) (hR : ReadU w A l) (hpos : 0 < l.length) (hbig : l.length ≤ 1000000)
    (h : ∀ A' c' w', w'.ownsRow b 5 1 (.slice A' l.length c') l.length (by8 l) → Fr (fun k => k = b) w w' → (∀ k, (Value.slice A' l.length c').ownBlock = some k → k = b ∨ k = w.heap.size) → wpList Try.prog ops Q rest (a.put o.dst (.slice A' l.length c')) w') :
    wpList Try.prog ops Q (o :: rest) a w := by
  obtain ⟨ad, rfl, hnews⟩ := hR.news hpos
  refine wpl_app hg s x 33 hop b 5 _ 1 1 Try.underlying33 byte_info rfl (by decide) (.slice (some ⟨b, 0, none⟩) 0 0) 0 [] hs (own_up (own_empty 1 hE rfl) (fun k hk => Nat.le_of_eq (Option.some.inj hk))) ad n c (by8 l) hx (by rw [by8_len]; omega) hnews (by8_one l) (by simp only [maxLen]; omega) (by omega) (Nat.le_of_lt (blk_lt hE)) ?_
  intro v' w' ho hgr hmv
  rw [Nat.zero_add, List.nil_append] at ho
  obtain ⟨A', c', rfl⟩ := own_slice ho
  subst hn
  refine h A' c' w' ho ((Fr.refl _ w).grown hgr (fun k hk => .inr (Option.some.inj hk).symm)) (fun k hk => ?_)
  rcases hmv with e | e
  · rw [e] at hk; exact .inl (Option.some.inj hk).symm
  · rw [e] at hk; exact .inr (Option.some.inj hk).symm
theorem readV_own {w w' : World} {b n c : Nat} {A : Option Addr} {l : List Int} (h : w'.ownsRow b 5 1 (.slice A n c) l.length (by8 l)) (hb : w.heap.size ≤ b) : ReadV (fun k => w.heap.size ≤ k ∧ k < w'.heap.size) w' A l := by
  intro j x hx
  have hj := (List.getElem?_eq_some_iff.1 hx).1
  rcases h.2 with ⟨_, h0⟩ | ⟨g2, c2, cur, hv, hg2, _⟩
  · omega
  · simp only [Value.slice.injEq] at hv
    obtain ⟨rfl, rfl, rfl⟩ := hv
    have hl := own_lt h g2 rfl
    have hc := (own_news h).1 _ rfl j (.int .u8 x) (by unfold by8; rw [List.getElem?_map, hx]; rfl)
    rw [add_some] at hc
    exact ⟨g2, 0, rfl, ⟨by omega, hl⟩, hc⟩

set_option maxRecDepth 100000 in
set_option maxHeartbeats 1000000 in
theorem rread_any {w : World} {g : Nat} {T : Nat → Prop} {d : Dk} (h : RdAt w g T d) (hputs : d.puts ≤ 1000000) (i : Int) : Calls Try.prog 70 #[.pointer (some ⟨g, 0, none⟩), .int .i64 i] w (ReadPost w (d.readB i) (d.readE i)) := by
  have H := Lib.hid h
  obtain ⟨sb, U, hs, h1, _⟩ := h
  have c0 : w.cell? ⟨g, 0, none⟩ = some (.slice (some ⟨sb, 0, none⟩) d.F.length d.F.length) := blk_cell h1.box 0
  have HI := Lib.hid h1
  have HPT := Lib.hid hputs
  clear h1 hputs
  go_enter Try.func70, Try.ntmps70
  go_wp2_with fail
  refine (rdown_any H.out).mono ?_
  rintro e w1 ⟨rfl, rfl⟩
  cases hdn : d.down with
  | true =>
    have HE : Hid (ReadPost w1 (d.readB i) (d.readE i) (.returned (.tuple #[.slice none 0 0, .int .i64 30])) w1) := ⟨_, by simp [Dk.readE, hdn], ⟨by simp [Dk.readB, hdn, by8], .inl ⟨rfl, by simp [Dk.readB, hdn]⟩⟩, Fr.refl _ _⟩
    clear hdn
    go_wp2_with fail
    go_ret2
    exact HE.out
  | false =>
    have HDN := Lib.hid hdn
    clear hdn
    go_wp2_with fail
    refine (rhas_any H.out i).mono ?_
    rintro e w1 ⟨rfl, rfl⟩
    by_cases hi : 0 ≤ i ∧ i < d.F.length
    · obtain ⟨k, rfl⟩ := Int.eq_ofNat_of_zero_le hi.1
      have hk : k < d.F.length := by have := hi.2; omega
      have hki : (k : Int) < d.F.length := hi.2
      have hb : (decide (0 ≤ (k : Int)) && decide ((k : Int) < d.F.length)) = true := by simp; omega
      rw [hb]
      have hre : d.readE k = 0 := by unfold Dk.readE; rw [HDN.out, if_neg (by simp), if_pos hi]
      have hrb : d.readB k = d.at k := by unfold Dk.readB; rw [HDN.out, if_neg (by simp), if_pos hi]; simp
      have HRE := Lib.hid hre
      have HRB := Lib.hid hrb
      obtain ⟨o, ho, his, cf, cl⟩ := HI.out.cells hk
      have HIS := Lib.hid his
      have HPU := Lib.hid HI.out.pure
      clear hi hb hre hrb ho his
      go_upto_region 8 with fail
      obtain ⟨w3, he, hn3, hF3, hs3⟩ := alloc1 w1 (.cells #[.slice o.fa 128 o.fc, .slice o.la (d.L (k : Int)).length o.lc] 52)
      rw [he]
      have HN3 := Lib.hid hn3
      have HF3 := Lib.hid hF3
      have e0 : w3.cell? ⟨w1.heap.size, 0, none⟩ = some (.slice o.fa 128 o.fc) := blk_cell hn3 0
      have e1 : w3.cell? ⟨w1.heap.size, 1, none⟩ = some (.slice o.la (d.L (k : Int)).length o.lc) := blk_cell hn3 1
      have HS3 : Hid (w3.heap.size = w1.heap.size + 1) := hs3
      clear he hn3 hF3 hs3
      by_cases hL : d.L (k : Int) = []
      · have hll : (d.L (k : Int)).length = 0 := by rw [hL]; rfl
        have hat : d.at k = d.F.getD k [] := by unfold Dk.at; rw [hL]; rfl
        have hsec : Sec (d.F.getD k []) := by rw [List.getD, List.getElem?_eq_getElem hk]; exact HPU.out.secs _ (List.getElem_mem hk)
        have HR : Hid (ReadU (w3.alloc (.cells #[] 5)) o.fa (d.F.getD k [])) := (HIS.out.2.2.1.u.fr HF3.out (fun _ _ _ h => h)).fr ((Fr.refl (fun _ => False) _).alloc _) (fun _ _ _ h => h)
        rw [hat] at HRB
        have HS := Lib.hid hsec
        rw [hll] at e1
        clear hL hat hsec hll
        generalize d.F.getD k [] = s at *
        have e0' : (w3.alloc (.cells #[] 5)).cell? ⟨w1.heap.size, 0, none⟩ = some (.slice o.fa 128 o.fc) := ((Fr.refl (fun _ => False) w3).alloc _).cell0 e0
        have e1' : (w3.alloc (.cells #[] 5)).cell? ⟨w1.heap.size, 1, none⟩ = some (.slice o.la 0 o.lc) := ((Fr.refl (fun _ => False) w3).alloc _).cell0 e1
        go_wp2_with (at_builtin; refine wpl_copy8 rfl (.tmp 39) (.tmp 41) rfl w3.heap.size rfl (blk_new _ _) o.fa 128 o.fc s rfl HS.out.1.symm HR.out (by rw [HS.out.1]; omega) (by rw [HS.out.1]; omega) ?_; intro A4 c4 w4 ho4 hF4 hm4)
        go_ret2
        refine ⟨.slice A4 s.length c4, by rw [HRE.out]; rfl, ?_, (HF3.out.alloc _).trans' hF4 (fun _ _ h => h) (fun q hq e => by rw [e] at hq; have := HS3.out; omega)⟩
        rw [HRB.out]
        exact own_up (own_base ho4) (fun q hq => by have := (ho4.lt q hq).1; have := HS3.out; omega)
      · obtain ⟨x, hx1, hx2⟩ := getLast_at (d.L (k : Int)) hL
        have hll : 0 < (d.L (k : Int)).length := List.length_pos_iff.2 hL
        have hat : d.at k = x := by unfold Dk.at; rw [hx1]; rfl
        have hsec : Sec x := HPU.out.lsecs _ _ (List.mem_of_getElem? hx2)
        obtain ⟨pg, po, PA, pc, hla, _, hpc, hpr⟩ := HIS.out.2.2.2 _ _ hx2
        rw [hla] at e1
        have e2 : w3.cell? ⟨pg, po + ((d.L (k : Int)).length - 1), none⟩ = some (.slice PA 128 pc) := HF3.out.cell0 hpc
        have HR : Hid (ReadU (w3.alloc (.cells #[] 5)) PA x) := (hpr.u.fr HF3.out (fun _ _ _ h => h)).fr ((Fr.refl (fun _ => False) _).alloc _) (fun _ _ _ h => h)
        rw [hat] at HRB
        have HS := Lib.hid hsec
        have hlm : (d.L (k : Int)).length ≤ 1000000 := Nat.le_trans (HPU.out.lens _) HPT.out
        clear hL hx1 hx2 hat hsec hla hpc hpr
        generalize (d.L (k : Int)).length = m at *
        obtain ⟨q, rfl⟩ : ∃ q, m = q + 1 := ⟨m - 1, by omega⟩
        rw [show q + 1 - 1 = q by omega] at e2
        have hmi : ((q + 1 : Nat) : Int) - 1 = q := by omega
        have e1' : (w3.alloc (.cells #[] 5)).cell? ⟨w1.heap.size, 1, none⟩ = some (.slice (some ⟨pg, po, none⟩) (q + 1) o.lc) := ((Fr.refl (fun _ => False) w3).alloc _).cell0 e1
        have e2' : (w3.alloc (.cells #[] 5)).cell? ⟨pg, po + q, none⟩ = some (.slice PA 128 pc) := ((Fr.refl (fun _ => False) w3).alloc _).cell0 e2
        go_wp2_with (at_builtin; refine wpl_copy8 rfl (.tmp 29) (.tmp 37) rfl w3.heap.size rfl (blk_new _ _) PA 128 pc x rfl HS.out.1.symm HR.out (by rw [HS.out.1]; omega) (by rw [HS.out.1]; omega) ?_; intro A4 c4 w4 ho4 hF4 hm4)
        go_ret2
        refine ⟨.slice A4 x.length c4, by rw [HRE.out]; rfl, ?_, (HF3.out.alloc _).trans' hF4 (fun _ _ h => h) (fun q hq e => by rw [e] at hq; have := HS3.out; omega)⟩
        rw [HRB.out]
        exact own_up (own_base ho4) (fun q hq => by have := (ho4.lt q hq).1; have := HS3.out; omega)
    · have hb : (decide (0 ≤ i) && decide (i < d.F.length)) = false := by simp; omega
      rw [hb]
      have HE : Hid (ReadPost w1 (d.readB i) (d.readE i) (.returned (.tuple #[.slice none 0 0, .int .i64 5])) w1) := by
        have h1 : d.readB i = [] := by unfold Dk.readB; rw [HDN.out, if_neg (by simp), if_neg hi]
        have h2 : d.readE i = 5 := by unfold Dk.readE; rw [HDN.out, if_neg (by simp), if_neg hi]
        rw [h1, h2]
        exact ⟨_, rfl, ⟨by simp [by8], .inl ⟨rfl, rfl⟩⟩, Fr.refl _ _⟩
      clear hi hb
      go_wp2_with fail
      go_ret2
      exact HE.out
end Go.Proofs.Ytdamegjhdopfaaa
