import Derived.Test.YtapigbgcghekgaaM02
import Derived.Great.FillDense
import Derived.Great.BuildSlice
import Derived.Laws.MakeOwn
set_option linter.unusedVariables false
set_option linter.unusedSimpArgs false
set_option linter.unusedVariables false
set_option linter.unusedSimpArgs false
namespace Go.Iv
open Go.RowKit

theorem Rel.pi_drop {s : CS} {R : List Reg} {cells : List IV} {v : Value} (h : Rel s R (.pi cells) v) (n : Nat) : ∃ b o, v = .pointer (some ⟨b, o, none⟩) ∧ Rel s R (.pi (cells.drop n)) (.pointer (some ⟨b, o + n, none⟩)) := by
  cases h with
  | pi _ _ a off c hF hcell hrel =>
    refine ⟨a, off, rfl, .pi _ _ _ _ (fun j => c (n + j)) hF (fun j hj => ?_) (fun j x hx => ?_)⟩
    · rw [List.length_drop] at hj
      rw [show off + n + j = off + (n + j) by omega]
      exact hcell (n + j) (by omega)
    · rw [List.getElem?_drop] at hx
      exact hrel _ x hx

theorem Rel.pt_step {s : CS} {R : List Reg} {r ver row col : Nat} {v : Value} {o : Obj} (h : Rel s R (.pt r ver row col) v) (ho : lv R r ver o) (n : Nat) :
    ∃ b q, v = .pointer (some ⟨b, q, none⟩) ∧ Rel s R (.pt r ver row (col + n)) (.pointer (some ⟨b, q + n, none⟩)) := by
  obtain ⟨b, k, hb, hl, rfl⟩ := h.pt_inv ho
  refine ⟨b, _, rfl, ?_⟩
  rw [show row * o.sz + col + n = row * o.sz + (col + n) by omega]
  exact .pt _ _ _ o _ _ _ k ho hb hl

theorem fieldAddr_sound {P : Program} {s : CS} {R : List Reg} {w : World} {st : TypeId} {x v : IV} {a : Value} {f : Nat} (hx : Rel s R x a) (h : fieldAddrI (tysOf P) st x f R = some v) :
    ∃ y, (Instr.fieldAt st a f).run P w = .ok y w ∧ Rel s R v y := by
  unfold fieldAddrI at h
  split at h
  · rename_i fs hk
    obtain ⟨gs, hg, rfl⟩ := under_of hk
    split at h
    · rename_i off ft hf
      split at h
      · rename_i fi hfi
        rw [List.getElem?_map] at hf
        cases hgf : gs.toList[f]? with
        | none => rw [hgf] at hf; cases hf
        | some g =>
          rw [hgf] at hf
          injection hf with hf
          injection hf with h1 h2
          subst h1; subst h2
          obtain ⟨i, hi, hsz, _, _⟩ := tys_info hfi
          have hgf' : gs[f]? = some g := by simpa using hgf
          split at h
          · cases h
          · rename_i hne
            have hne' : ¬ i.size = 0 := by rw [hsz]; exact hne
            have place : ∀ b o, (fieldPlace ⟨b, o, none⟩ g).run P w = .ok ⟨b, o + g.offset, none⟩ w := by
              intro b o
              simp [fieldPlace, run_sizeOf' hi, hne', plain_add]
            split at h
            · injection h with h; subst h
              obtain ⟨b, o, rfl, hr⟩ := hx.pi_drop g.offset
              exact ⟨_, by simp [Instr.fieldAt, underlying, hg, hgf', Instr.sureAddr, place], hr⟩
            · split at h
              · rename_i o ho
                injection h with h; subst h
                obtain ⟨b, q, rfl, hr⟩ := hx.pt_step (liveR_lv ho) g.offset
                exact ⟨_, by simp [Instr.fieldAt, underlying, hg, hgf', Instr.sureAddr, place], hr⟩
              · cases h
            · cases h
      · cases h
    · cases h
  · cases h

theorem nat_inv {s : CS} {R : List Reg} {x : IV} {a : Value} {n : Nat} (hx : Rel s R x a) (h : natI x = some n) : ∃ k, a = .int k (n : Int) := by
  unfold natI at h
  split at h
  · rename_i k m
    cases hx
    split at h
    · rename_i hm
      injection h with h
      exact ⟨k, by rw [← h, Int.toNat_of_nonneg hm]⟩
    · cases h
  · cases h

theorem Rel.sl_inv {s : CS} {R : List Reg} {nl : Option Bool} {rows : List (List IV)} {v : Value} (h : Rel s R (.sl nl rows) v) (hne : rows ≠ []) :
    ∃ a off cap sz, ∃ c : Nat → Nat → Value, v = .slice (some ⟨a, off, none⟩) rows.length cap ∧ nl ≠ some true ∧ s.F a ∧ rows.length ≤ cap ∧ (∀ row ∈ rows, row.length = sz) ∧
      (∀ i j, i < rows.length → j < sz → s.w.cell? ⟨a, off + (i * sz + j), none⟩ = some (c i j)) ∧ (∀ i j x, rowAt rows i j = some x → Rel s [] x (c i j)) := by
  cases h with
  | slN => exact absurd rfl hne
  | slE => exact absurd rfl hne
  | sl _ _ _ a off cap sz c h1 h2 h3 h4 h5 h6 => exact ⟨a, off, cap, sz, c, rfl, h1, h2, h3, h4, h5, h6⟩

end Go.Iv
set_option linter.unusedVariables false
set_option linter.unusedSimpArgs false
namespace Go.Iv
open Go.RowKit

theorem sl_row {s : CS} {R : List Reg} {nl : Option Bool} {rows : List (List IV)} {v : Value} (h : Rel s R (.sl nl rows) v) {n sz : Nat} (hn : n < rows.length) (hs : (rows.getD n []).length = sz) :
    ∃ a off cap, v = .slice (some ⟨a, off, none⟩) rows.length cap ∧ Rel s R (.pi (rows.getD n [])) (.pointer (some ⟨a, off + n * sz, none⟩)) := by
  obtain ⟨a, off, cap, sz', c, rfl, h1, h2, h3, h4, h5, h6⟩ := h.sl_inv (by intro e; subst e; simp at hn)
  have hg : rows[n]? = some (rows.getD n []) := by rw [List.getD_eq_getElem?_getD, List.getElem?_eq_getElem hn]; rfl
  have hmem : rows.getD n [] ∈ rows := List.mem_of_getElem? hg
  have hsz : sz' = sz := by rw [← hs, h4 _ hmem]
  subst hsz
  refine ⟨a, off, cap, rfl, .pi _ _ _ _ (fun j => c n j) h2 (fun j hj => ?_) (fun j x hx => ?_)⟩
  · rw [hs] at hj
    rw [Nat.add_assoc]
    exact h5 n j hn hj
  · exact h6 n j x (by unfold rowAt; rw [hg]; exact hx)

theorem indexAddr_sound {P : Program} {s : CS} {R : List Reg} {w : World} {t : TypeId} {x ix v : IV} {a b : Value} (hx : Rel s R x a) (hix : Rel s R ix b) (h : indexAddrI (tysOf P) t x ix R = some v) :
    ∃ y, (Instr.indexAt t a b).run P w = .ok y w ∧ Rel s R v y := by
  unfold indexAddrI at h
  split at h
  · rename_i e nl rows n hk hn
    have hu : P.underlying t = some (.slice e) := under_of hk
    obtain ⟨k, rfl⟩ := nat_inv hix hn
    split at h
    · rename_i ei hei
      obtain ⟨i, hi, hsz, _, _⟩ := tys_info hei
      split at h
      · rename_i hc
        injection h with h; subst h
        obtain ⟨a', off, cap, rfl, hr⟩ := sl_row hx hc.1 hc.2
        refine ⟨_, ?_, hr⟩
        have h1 : (0 : Int) ≤ (n : Int) ∧ (n : Int) < (rows.length : Int) := ⟨by omega, by omega⟩
        simp [Instr.indexAt, asIntOf, underlying, hu, h1, run_sizeOf' hi, hsz, plain_add]
        intro hcon
        omega
      · cases h
    · cases h
  · rename_i e r ver off len n hk hn
    have hu : P.underlying t = some (.slice e) := under_of hk
    obtain ⟨k, rfl⟩ := nat_inv hix hn
    split at h
    · rename_i ei o hei ho
      obtain ⟨i, hi, hsz, _, _⟩ := tys_info hei
      split at h
      · rename_i hc
        injection h with h; subst h
        rcases hx.rf_inv (liveR_lv ho) with ⟨_, _, hl, _⟩ | ⟨b, k', hb, hl, rfl⟩
        · omega
        · refine ⟨.pointer (some ⟨b, (off + n) * o.sz + 0, none⟩), ?_, ?_⟩
          · have h1 : (0 : Int) ≤ (n : Int) ∧ (n : Int) < (len : Int) := ⟨by omega, by omega⟩
            simp [Instr.indexAt, asIntOf, underlying, hu, h1, run_sizeOf' hi, hsz, plain_add]
            rw [if_pos hc.1, ← hc.2, Nat.add_mul]

          · exact .pt _ _ _ o _ _ _ k' (liveR_lv ho) hb (by omega)
      · cases h
    · cases h
  · rename_i m e cells n hk hn
    have hu : P.underlying t = some (.array m e) := under_of hk
    obtain ⟨k, rfl⟩ := nat_inv hix hn
    split at h
    · rename_i ei hei
      obtain ⟨i, hi, hsz, _, _⟩ := tys_info hei
      split at h
      · rename_i hc
        injection h with h; subst h
        obtain ⟨b, o, rfl, hr⟩ := hx.pi_drop (n * ei.size)
        refine ⟨_, ?_, hr⟩
        have h1 : (0 : Int) ≤ (n : Int) ∧ (n : Int) < (m : Int) := ⟨by omega, by omega⟩
        simp [Instr.indexAt, asIntOf, underlying, hu, Instr.sureAddr, h1, run_sizeOf' hi, hsz, plain_add]
        intro hcon
        omega
      · cases h
    · cases h
  · rename_i m e r ver row col n hk hn
    have hu : P.underlying t = some (.array m e) := under_of hk
    obtain ⟨k, rfl⟩ := nat_inv hix hn
    split at h
    · rename_i ei o hei ho
      obtain ⟨i, hi, hsz, _, _⟩ := tys_info hei
      split at h
      · rename_i hc
        injection h with h; subst h
        obtain ⟨b, q, rfl, hr⟩ := hx.pt_step (liveR_lv ho) (n * ei.size)
        refine ⟨_, ?_, hr⟩
        have h1 : (0 : Int) ≤ (n : Int) ∧ (n : Int) < (m : Int) := ⟨by omega, by omega⟩
        simp [Instr.indexAt, asIntOf, underlying, hu, Instr.sureAddr, h1, run_sizeOf' hi, hsz, plain_add]
        intro hcon
        omega
      · cases h
    · cases h
  · cases h

theorem index_sound {P : Program} {s : CS} {R : List Reg} {w : World} {t : TypeId} {x ix v : IV} {a b : Value} (hx : Rel s R x a) (hix : Rel s R ix b) (h : indexI (tysOf P) t x ix = some v) :
    ∃ y, (Instr.index t a b).run P w = .ok y w ∧ Rel s R v y := by
  unfold indexI at h
  split at h
  · rename_i m e cs n hk hn
    have hu : P.underlying t = some (.array m e) := under_of hk
    obtain ⟨k, rfl⟩ := nat_inv hix hn
    split at h
    · rename_i ei hei
      obtain ⟨i, hi, hsz, _, _⟩ := tys_info hei
      split at h
      · rename_i hc
        obtain ⟨vs, rfl, hl⟩ := ag_inv hx
        obtain ⟨y, hy, hrel⟩ := part_sound (P := P) (w := w) hei hl h
        refine ⟨y, ?_, hrel⟩
        have h1 : (0 : Int) ≤ (n : Int) ∧ (n : Int) < (m : Int) := ⟨by omega, by omega⟩
        simp [Instr.index, asIntOf, underlying, hu, h1, run_sizeOf' hi, hsz, hy]
        intro hcon
        omega
      · cases h
    · cases h
  · rename_i bs n hk hn
    have hu : P.underlying t = some .string := under_of hk
    obtain ⟨k, rfl⟩ := nat_inv hix hn
    split at h
    · rename_i c hc
      injection h with h; subst h
      cases hx
      refine ⟨_, ?_, .i _ _ _⟩
      have h1 : (0 : Int) ≤ (n : Int) := by omega
      simp [Instr.index, asIntOf, underlying, hu, h1, hc]
    · cases h
  · cases h

theorem nums_len : ∀ {rows : List (List IV)} {ns : List Int}, numsI rows = some ns → ns.length = rows.length ∧ ∀ i, i < rows.length → rows[i]? = some [.i .u8 (ns.getD i 0)]
  | [], ns, h => by simp only [numsI] at h; injection h with h; subst h; exact ⟨rfl, fun i hi => by simp at hi⟩
  | [.i .u8 n] :: rows, ns, h => by
    simp only [numsI] at h
    split at h
    · rename_i ms hm
      injection h with h; subst h
      obtain ⟨h1, h2⟩ := nums_len hm
      refine ⟨by simp [h1], fun i hi => ?_⟩
      cases i with
      | zero => simp
      | succ i => simpa using h2 i (by simpa using hi)
    · cases h
theorem bytes_sound {P : Program} {s : CS} {R : List Reg} {src dst e : TypeId} {nl : Option Bool} {rows : List (List IV)} {ns : List Int} {a : Value} (hx : Rel s R (.sl nl rows) a) (hn : numsI rows = some ns)
    (hs : P.underlying src = some (.slice e)) (he : P.underlying e = some (.int .u8)) (hd : P.underlying dst = some .string) : (convert src dst a).run P s.w = .ok (.string (strOfNums ns)) s.w := by
  obtain ⟨h1, h2⟩ := nums_len hn
  cases hx with
  | slN _ _ hnn =>
    have : ns = [] := List.length_eq_zero_iff.1 h1
    subst this
    unfold convert
    simp [underlying, hs, hd, he, Conv.bytesToString]
    rfl
  | slE _ _ ad cap hnn =>
    have : ns = [] := List.length_eq_zero_iff.1 h1
    subst this
    rw [run_convert_bytes_string s.w src dst e _ 0 cap hs he hd, run_bytesToString s.w _ 0 cap [] (by have := run_loadCells (P := P) (w := s.w) ad 0 (fun _ => undef) (fun j hj => by omega); simpa using this)]
    rfl
  | sl _ _ _ b off cap sz c hnn hF hc hr hcell hrel =>
    refine run_convert_bytes_arg s.w src e hs he b off rows.length cap ns h1 (fun i hi => ?_) dst hd
    have hrow := h2 i hi
    have hsz : sz = 1 := by have := hr _ (List.mem_of_getElem? hrow); simpa using this.symm
    subst hsz
    have hcl := hcell i 0 hi (by omega)
    have hrl := hrel i 0 (.i .u8 (ns.getD i 0)) (by simp [rowAt, hrow])
    generalize hu : c i 0 = u at hrl hcl
    cases hrl
    simpa using hcl

theorem conv_sound {P : Program} {s : CS} {R : List Reg} {src dst : TypeId} {x v : IV} {a : Value} (hx : Rel s R x a) (h : convI (tysOf P) src dst x = some v) :
    ∃ y, (convert src dst a).run P s.w = .ok y s.w ∧ Rel s R v y := by
  unfold convI at h
  split at h
  · cases h
  rename_i hkn
  have hkn' : (tyK (tysOf P) src).known = true := by simpa only [Bool.not_eq_false] using hkn
  have hs : ∃ d, P.underlying src = some d := by
    have hu := under_of (P := P) (t := src) rfl
    cases hq : tyK (tysOf P) src <;> rw [hq] at hu hkn' <;> simp only [Under] at hu
    · exact ⟨_, hu⟩
    · exact ⟨_, hu⟩
    · exact ⟨_, hu⟩
    · exact ⟨_, hu⟩
    · obtain ⟨gs, hu, _⟩ := hu; exact ⟨_, hu⟩
    · exact ⟨_, hu⟩
    · exact ⟨_, hu⟩
    · obtain ⟨_, _, _, hu⟩ := hu; exact ⟨_, hu⟩
    · cases hkn'
  obtain ⟨d, hs⟩ := hs
  split at h
  · rename_i k q n hk
    have hu : P.underlying dst = some (.int k) := under_of hk
    injection h with h; subst h
    cases hx
    refine ⟨.int k (k.wrap n), ?_, .i _ _ _⟩
    have e : (convert src dst (.int q n)).run P s.w = (Conv.intToInt k n).run P s.w := by
      unfold convert
      simp only [Sem.run_bind, underlying, Sem.run_pure, Result.andThen_ok, program, hs, hu]
      cases d <;> simp [Sem.run, hs, hu]
    rw [e]; rfl
  · rename_i q n hk
    have hu : P.underlying dst = some .string := under_of hk
    injection h with h; subst h
    cases hx
    refine ⟨.string n, ?_, .s _ _⟩
    unfold convert
    simp only [Sem.run_bind, underlying, Sem.run_pure, Result.andThen_ok, program, hs, hu]
    cases d <;> simp [Sem.run, hs, hu]
  · rename_i nl rows hk
    have hu : P.underlying dst = some .string := under_of hk
    split at h
    · rename_i e he
      have hsr : P.underlying src = some (.slice e) := under_of he
      split at h
      · rename_i ns hek hn
        have hue : P.underlying e = some (.int .u8) := under_of hek
        injection h with h; subst h
        exact ⟨_, bytes_sound hx hn hsr hue hu, .s _ _⟩
      · cases h
    · cases h
  · cases h
end Go.Iv
set_option linter.unusedVariables false
set_option linter.unusedSimpArgs false
namespace Go.Iv
open Go.RowKit

/-- An optional bound and its value. -/
def BoundIs (o : Option Value) (l : Option Nat) : Prop := match o, l with
  | none, none => True
  | some v, some n => ∃ k, v = .int k (n : Int)
  | _, _ => False
theorem opt_bound {s : CS} {R : List Reg} {T : List IV} {a : Act} (hT : RelT s R T a.tmps) {o : Option Operand} {l : Option Nat} (h : optI T o = some l) : BoundIs (o.map a.eval) l := by
  unfold optI at h
  cases o with
  | none => injection h with h; subst h; trivial
  | some o =>
    simp only at h
    cases hn : natI (evI T o) with
    | none => rw [hn] at h; cases h
    | some n => rw [hn] at h; injection h with h; subst h; exact nat_inv (hT.ev o) hn

theorem run_bound {P : Program} {w : World} {k : IntKind} {n y : Nat} {c : BoundsCode} (h : n ≤ y) : (Instr.sliceBound (.int k (n : Int)) y c).run P w = .ok n w := by
  have h1 : (0 : Int) ≤ (n : Int) ∧ (n : Int) ≤ (y : Int) := ⟨by omega, by omega⟩
  simp [Instr.sliceBound, asIntOf, h1]
theorem run_bounds {P : Program} {w : World} {b : Bool} {len cap : Nat} {lo hi : Option Value} {l h : Option Nat} (hl : BoundIs lo l) (hh : BoundIs hi h)
    (h1 : l.getD 0 ≤ h.getD len) (h2 : h.getD len ≤ cap) : (Instr.sliceBounds b len cap lo hi none).run P w = .ok (l.getD 0, h.getD len, cap) w := by
  unfold Instr.sliceBounds
  cases lo <;> cases l <;> simp only [BoundIs] at hl <;> cases hi <;> cases h <;> simp only [BoundIs] at hh
  · simp
  · obtain ⟨k, rfl⟩ := hh; simp only [Option.getD] at h1 h2 ⊢; simp [run_bound h2]
  · obtain ⟨k, rfl⟩ := hl; simp only [Option.getD] at h1 h2 ⊢; simp [run_bound h1]
  · obtain ⟨k, rfl⟩ := hl; obtain ⟨k', rfl⟩ := hh; simp only [Option.getD] at h1 h2 ⊢; simp [run_bound h1, run_bound h2]
theorem run_bounds3 {P : Program} {w : World} {b : Bool} {len cap : Nat} {lo hi mx : Option Value} {l h : Option Nat} (hl : BoundIs lo l) (hh : BoundIs hi h) (hm : BoundIs mx (some 0))
    (h1 : l.getD 0 = 0) (h2 : h = some 0) : (Instr.sliceBounds b len cap lo hi mx).run P w = .ok (0, 0, 0) w := by
  subst h2
  unfold Instr.sliceBounds
  cases mx <;> simp only [BoundIs] at hm
  obtain ⟨km, rfl⟩ := hm
  cases hi <;> simp only [BoundIs] at hh
  obtain ⟨kh, rfl⟩ := hh
  have b0 : ∀ (k : IntKind) (y : Nat) (c : BoundsCode), (Instr.sliceBound (.int k ((0 : Nat) : Int)) y c).run P w = .ok 0 w := fun k y c => run_bound (Nat.zero_le _)
  cases lo <;> cases l <;> simp only [BoundIs] at hl
  · simp only [Sem.run_bind, b0, Result.andThen_ok, Sem.run_pure]
  · obtain ⟨k, rfl⟩ := hl
    simp only [Option.getD] at h1; subst h1
    simp only [Sem.run_bind, b0, Result.andThen_ok, Sem.run_pure]

theorem Rel.sl_cut {s : CS} {R : List Reg} {nl : Option Bool} {rows : List (List IV)} {A : Option Addr} {len cap : Nat} (h : Rel s R (.sl nl rows) (.slice A len cap)) (l u sz : Nat) (h1 : l ≤ u) (h2 : u ≤ rows.length) (hs : allLen sz rows = true) :
    len = rows.length ∧ len ≤ cap ∧ Rel s R (.sl (if nl = some true then some true else none) ((rows.take u).drop l)) (.slice (if cap = l then A else A.map (·.add (l * sz))) (u - l) (cap - l)) := by
  by_cases hne : rows = []
  · subst hne
    have : u = 0 := by simpa using h2
    subst this
    have : l = 0 := by omega
    subst this
    cases h with
    | slN _ _ hn => refine ⟨rfl, Nat.le_refl _, ?_⟩; simp; exact .slN _ _ (by split <;> simp)
    | slE _ _ a cap hn =>
      refine ⟨rfl, Nat.zero_le _, ?_⟩
      simp [hn]
      split <;> exact .slE _ _ _ _ (by simp)
    | sl _ _ _ a off cap sz' c h3 h4 h5 h6 h7 h8 =>
      refine ⟨rfl, Nat.zero_le _, ?_⟩
      simp [h3]
      split <;> exact .slE _ _ _ _ (by simp)
  · obtain ⟨a, off, cap', sz', c, he, h3, h4, h5, h6, h7, h8⟩ := h.sl_inv hne
    injection he with e1 e2 e3
    subst e1; subst e2; subst e3
    refine ⟨rfl, h5, ?_⟩
    rw [if_neg h3]
    have hsz : sz' = sz := by
      obtain ⟨row, hrow⟩ := List.exists_mem_of_ne_nil _ hne
      have := List.all_eq_true.1 hs row hrow
      rw [← h6 row hrow]; simpa using this
    subst hsz
    have hlen : ((rows.take u).drop l).length = u - l := by simp; omega
    by_cases hlu : l = u
    · subst hlu
      have : (rows.take l).drop l = [] := by apply List.eq_nil_of_length_eq_zero; rw [hlen]; omega
      rw [this]
      simp only [Nat.sub_self]
      split
      · exact .slE _ _ _ _ (by simp)
      · exact .slE _ _ _ _ (by simp)
    · have hc : ¬ cap = l := by omega
      rw [if_neg hc]
      simp only [Option.map_some, plain_add]
      rw [← hlen]
      refine .sl _ _ _ _ _ _ sz' (fun i j => c (l + i) j) (by simp) h4 (by rw [hlen]; omega) (fun row hrow => h6 row (List.mem_of_mem_take (List.mem_of_mem_drop hrow))) (fun i j hi hj => ?_) (fun i j x hx => ?_)
      · rw [hlen] at hi
        rw [show off + l * sz' + (i * sz' + j) = off + ((l + i) * sz' + j) by rw [Nat.add_mul]; omega]
        exact h7 (l + i) j (by omega) hj
      · refine h8 (l + i) j x ?_
        unfold rowAt at hx ⊢
        rw [List.getElem?_drop, List.getElem?_take] at hx
        by_cases hk : l + i < u
        · rw [if_pos hk] at hx; exact hx
        · rw [if_neg hk] at hx; cases hx

theorem run_bounds4 {P : Program} {w : World} {b : Bool} {len cap u m : Nat} {lo hi mx : Option Value} {l : Option Nat} (hl : BoundIs lo l) (hh : BoundIs hi (some u)) (hm : BoundIs mx (some m))
    (h1 : l.getD 0 ≤ u) (h2 : u ≤ m) (h3 : m ≤ cap) : (Instr.sliceBounds b len cap lo hi mx).run P w = .ok (l.getD 0, u, m) w := by
  unfold Instr.sliceBounds
  cases mx <;> simp only [BoundIs] at hm
  obtain ⟨km, rfl⟩ := hm
  cases hi <;> simp only [BoundIs] at hh
  obtain ⟨kh, rfl⟩ := hh
  cases lo <;> cases l <;> simp only [BoundIs] at hl
  · simp only [Option.getD] at h1 ⊢; simp [run_bound h3, run_bound h2]
  · obtain ⟨k, rfl⟩ := hl
    simp only [Option.getD] at h1 ⊢; simp [run_bound h3, run_bound h2, run_bound h1]
theorem sliceS_sound {P : Program} {w0 : Base} {s : CS} {R : List Reg} {w : World} {t el : TypeId} {ei : TI} {x v : IV} {a : Value} {lo hi mx : Option Value} {l h m : Option Nat} (hi0 : Inv w0 s R) (hx : Rel s R x a)
    (hu : P.underlying t = some (.slice el)) (hei : (tysOf P)[el]? = some ei) (hl : BoundIs lo l) (hh : BoundIs hi h) (hm : BoundIs mx m) (e : sliceS ei x l h m R = some v) :
    ∃ y, (Instr.sliceAt t a lo hi mx).run P w = .ok y w ∧ Rel s R v y := by
  have nomx : m = none → mx = none := fun hn => by subst hn; cases mx <;> simp only [BoundIs] at hm; rfl
  obtain ⟨i, hi', hsz, _, _⟩ := tys_info hei
  have hsize := run_sizeOf' hi' w
  have three : ∀ (A : Option Addr) (len cap : Nat), l.getD 0 = 0 → h = some 0 → m = some 0 → (Instr.sliceAt t (.slice A len cap) lo hi mx).run P w = .ok (.slice A 0 0) w := by
    intro A len cap h1 h2 h3
    subst h3
    have hb := run_bounds3 (P := P) (w := w) (b := true) (len := len) (cap := cap) hl hh hm h1 h2
    simp [Instr.sliceAt, underlying, hu, Instr.slice, hb, hsize]
  unfold sliceS at e
  split at e
  · rename_i nl rows
    have := nomx rfl; subst this
    split at e
    · rename_i hc
      injection e with e; subst e
      have hsl : ∃ A len cap, a = .slice A len cap := by cases hx <;> exact ⟨_, _, _, rfl⟩
      obtain ⟨A, len, cap, rfl⟩ := hsl
      obtain ⟨hlen, hcap, hr⟩ := hx.sl_cut (l.getD 0) (h.getD rows.length) ei.size hc.1 hc.2.1 hc.2.2
      subst hlen
      refine ⟨_, ?_, hr⟩
      simp [Instr.sliceAt, underlying, hu, Instr.slice, run_bounds hl hh hc.1 (Nat.le_trans hc.2.1 hcap), hsize, hsz]
    · cases e
  · rename_i nl rows
    split at e
    · rename_i hc
      split at e
      · injection e with e; subst e
        cases hx with
        | slN => exact ⟨_, three _ _ _ hc.1 hc.2 rfl, .seN _⟩
        | slE _ _ _ _ hn => simp at hn
        | sl _ _ _ a off cap sz c h3 => simp at h3
      · injection e with e; subst e
        cases hx with
        | slN _ _ hn => simp at hn
        | slE _ _ a cap hn => exact ⟨_, three _ _ _ hc.1 hc.2 rfl, .seE _ _⟩
        | sl _ _ _ a off cap sz c h3 => exact ⟨_, three _ _ _ hc.1 hc.2 rfl, .seE _ _⟩
      · cases e
    · cases e
  · have := nomx rfl; subst this
    split at e
    · rename_i hc
      injection e with e; subst e
      have hz : h.getD 0 = 0 := hc.2
      have hb := run_bounds (P := P) (w := w) (b := true) (len := 0) (cap := 0) hl hh (by omega) (by omega)
      rw [hc.1, hz] at hb
      cases hx with
      | seN => exact ⟨_, by simp [Instr.sliceAt, underlying, hu, Instr.slice, hb, hsize], .seN _⟩
      | seE _ a => exact ⟨_, by simp [Instr.sliceAt, underlying, hu, Instr.slice, hb, hsize]; rfl, .seE _ _⟩
    · cases e
  · split at e
    · rename_i hc
      injection e with e; subst e
      cases hx with
      | seN => exact ⟨_, three _ _ _ hc.1 hc.2 rfl, .seN _⟩
      | seE _ a => exact ⟨_, three _ _ _ hc.1 hc.2 rfl, .seE _ _⟩
    · cases e
  · rename_i r ver off len
    have := nomx rfl; subst this
    split at e
    · rename_i o ho
      split at e
      · rename_i hc
        have hsz' : i.size = o.sz := by rw [hsz, hc.2.2]
        rcases hx.rf_inv (liveR_lv ho) with ⟨hbn, ho0, hl0, A, rfl⟩ | ⟨b, k, hb, hlen, rfl⟩
        · have hrows : o.rows = [] := by
            have q := hi0.regs r ver o (liveR_lv ho)
            exact ((RegOK.none_ hbn).1 q).1
          have hz : h.getD len = 0 := by have := hc.2.1; rw [hrows] at this; simp at this; omega
          have hz2 : l.getD 0 = 0 := by have := hc.1; omega
          rw [if_pos hz2] at e
          injection e with e; subst e
          subst hl0
          have hbd := run_bounds (P := P) (w := w) (b := true) (len := 0) (cap := 0) hl hh (by rw [hz2, hz]; exact Nat.le_refl _) (by rw [hz]; exact Nat.le_refl _)
          rw [hz2, hz] at hbd
          rw [hz, ho0]
          exact ⟨.slice A 0 0, by simp [Instr.sliceAt, underlying, hu, Instr.slice, hbd, hsize], .rfN _ _ _ o _ (liveR_lv ho) hbn⟩
        · have hk : o.rows.length ≤ k := by
            have q := hi0.regs r ver o (liveR_lv ho)
            exact ((RegOK.some_ hb).1 q).2.2.2.1
          have hbd := run_bounds (P := P) (w := w) (b := true) (len := len) (cap := k - off) hl hh hc.1 (by omega)
          refine ⟨_, by simp [Instr.sliceAt, underlying, hu, Instr.slice, hbd, hsize, hsz']; rfl, ?_⟩
          split at e
          · rename_i hz
            injection e with e; subst e
            rw [hz]
            simp only [Nat.zero_mul, Nat.sub_zero, plain_add, Nat.add_zero, ite_self]
            exact .rf _ _ _ o _ _ _ _ (liveR_lv ho) hb hc.2.1
          · rename_i hz
            split at e
            · rename_i hlt
              injection e with e; subst e
              rw [if_neg (by omega)]
              simp only [plain_add]
              rw [show off * o.sz + l.getD 0 * o.sz = (off + l.getD 0) * o.sz by rw [Nat.add_mul], show k - off - l.getD 0 = k - (off + l.getD 0) by omega]
              exact .rf _ _ _ o _ _ _ _ (liveR_lv ho) hb (by omega)
            · rename_i hlt
              injection e with e; subst e
              have hz3 : h.getD len - l.getD 0 = 0 := by omega
              rw [hz3]
              split <;> exact .slE _ _ _ _ (by simp)
      · cases e
    · cases e
  · rename_i r ver off len m'
    split at e
    · cases e
    · rename_i u
      split at e
      · rename_i o ho
        split at e
        · rename_i hc
          injection e with e; subst e
          have hsz' : i.size = o.sz := by rw [hsz, hc.2.2.2.1]
          rcases hx.rf_inv (liveR_lv ho) with ⟨hbn, ho0, hl0, A, rfl⟩ | ⟨b, k, hb, hlen, rfl⟩
          · have hrows : o.rows = [] := by
              have q := hi0.regs r ver o (liveR_lv ho)
              exact ((RegOK.none_ hbn).1 q).1
            have := hc.2.2.2.2
            rw [hrows] at this
            simp at this
          · have hk : o.rows.length ≤ k := by
              have q := hi0.regs r ver o (liveR_lv ho)
              exact ((RegOK.some_ hb).1 q).2.2.2.1
            have hbd := run_bounds4 (P := P) (w := w) (b := true) (len := len) (cap := k - off) hl hh hm hc.1 hc.2.1 (by have := hc.2.2.1; omega)
            exact ⟨_, by simp [Instr.sliceAt, underlying, hu, Instr.slice, hbd, hsize, hsz']; rfl, .un _ _⟩
        · cases e
      · cases e
  · cases e

theorem slice_sound {P : Program} {w0 : Base} {s : CS} {R : List Reg} {w : World} {t : TypeId} {x v : IV} {a : Value} {lo hi mx : Option Value} {l h m : Option Nat} (hi0 : Inv w0 s R) (hx : Rel s R x a)
    (hl : BoundIs lo l) (hh : BoundIs hi h) (hm : BoundIs mx m) (e : sliceI (tysOf P) t x l h m R = some v) :
    ∃ y, (Instr.sliceAt t a lo hi mx).run P w = .ok y w ∧ Rel s R v y := by
  unfold sliceI at e
  split at e
  · rename_i hk
    have hu : P.underlying t = some .string := under_of hk
    split at e
    · rename_i b
      have : mx = none := by cases mx <;> simp only [BoundIs] at hm; rfl
      subst this
      split at e
      · rename_i hc
        injection e with e; subst e
        cases hx
        refine ⟨_, ?_, .s _ _⟩
        simp [Instr.sliceAt, underlying, hu, Instr.slice, run_bounds hl hh hc.1 hc.2]
      · cases e
    · cases e
  · rename_i el hk
    split at e
    · rename_i ei hei
      exact sliceS_sound hi0 hx (under_of hk) hei hl hh hm e
    · cases e
  · cases e
end Go.Iv
set_option linter.unusedVariables false
set_option linter.unusedSimpArgs false
namespace Go.Iv
open Go.RowKit

theorem pure0_rel {s : CS} {R : List Reg} {x : IV} {v : Value} (h : Rel s R x v) (hp : pure0 x = true) (R' : List Reg) : Rel s R' x v := by
  cases h <;> simp only [pure0] at hp <;> first | (cases hp; done) | skip
  case un => exact .un _ _
  case b => exact .b _ _
  case i => exact .i _ _ _
  case s => exact .s _ _
  case np => exact .np _
  case vp => exact .vp _ _
  case nf => exact .nf _
  case slN nl h => exact .slN _ _ h
  case slE nl a cap h => exact .slE _ _ _ _ h
  case sl nl rows a off cap sz c h1 h2 h3 h4 h5 h6 => exact .sl _ _ _ _ _ _ sz c h1 h2 h3 h4 h5 h6
  case seN => exact .seN _
  case seE => exact .seE _ _
  case pi cells a off c h1 h2 h3 => exact .pi _ _ _ _ c h1 h2 h3
theorem pureC_rel {s : CS} {R : List Reg} {x : IV} {v : Value} (h : Rel s R x v) (hp : pureC x = true) (R' : List Reg) : Rel s R' x v := by
  have all : ∀ (xs : List IV) (vs : Array Value), xs.all pure0 = true → (∀ (j : Nat) x v, xs[j]? = some x → vs[j]? = some v → Rel s R x v) → ∀ (j : Nat) x v, xs[j]? = some x → vs[j]? = some v → Rel s R' x v := by
    intro xs vs ha hr j x v hx hv
    exact pure0_rel (hr j x v hx hv) (List.all_eq_true.1 ha x (List.mem_of_getElem? hx)) R'
  cases h <;> simp only [pureC] at hp <;> first | (cases hp; done) | skip
  case un => exact .un _ _
  case b => exact .b _ _
  case i => exact .i _ _ _
  case s => exact .s _ _
  case np => exact .np _
  case vp => exact .vp _ _
  case nf => exact .nf _
  case slN nl h => exact .slN _ _ h
  case slE nl a cap h => exact .slE _ _ _ _ h
  case sl nl rows a off cap sz c h1 h2 h3 h4 h5 h6 => exact .sl _ _ _ _ _ _ sz c h1 h2 h3 h4 h5 h6
  case seN => exact .seN _
  case seE => exact .seE _ _
  case pi cells a off c h1 h2 h3 => exact .pi _ _ _ _ c h1 h2 h3
  case ag xs vs hl h => exact .ag _ _ _ hl (all xs vs hp h)
  case tu xs vs hl h => exact .tu _ _ _ hl (all xs vs hp h)
  case fn f xs ys vs us hl hl2 h h2 =>
    rw [Bool.and_eq_true] at hp
    exact .fn _ _ _ _ _ _ hl hl2 (all xs vs hp.1 h) (all ys us hp.2 h2)

/-- A register's rows, told as a slice that is read. -/
theorem reg_sl {w0 : Base} {s s1 : CS} {R : List Reg} {r ver off len : Nat} {o : Obj} {v : Value} (hi : Inv w0 s R) (hr : lv R r ver o) (hbx : o.box = false) (h : Rel s R (.rf r ver off len) v)
    (hw : s1.w = s.w) (hF : ∀ b, s.F b → s1.F b) (hb1 : ∀ b k, s.β r = some (b, k) → s1.F b) (R' : List Reg) : Rel s1 R' (.sl none ((o.rows.drop off).take len)) v := by
  rcases h.rf_inv hr with ⟨hbn, rfl, rfl, A, rfl⟩ | ⟨b, k, hb, hlen, rfl⟩
  · simp only [List.take_zero]
    cases A with
    | none => exact .slN _ _ (by simp)
    | some a => exact .slE _ _ _ _ (by simp)
  · obtain ⟨k1, k2, k3, k4, k5, cur, k6, k7, k8⟩ := (RegOK.some_ hb).1 (hi.regs r ver o hr)
    have hl : ((o.rows.drop off).take len).length = len := by simp; omega
    have e0 : Ext s [] s1 [] := ⟨hF, fun b _ => by rw [hw], fun q => by rw [getR_nil]; exact ⟨Nat.le_refl _, fun _ => ⟨id, fun o ho => by cases ho⟩⟩⟩
    have get : ∀ i, i < len → ((o.rows.drop off).take len)[i]? = o.rows[off + i]? := by
      intro i hi; rw [List.getElem?_take, if_pos hi, List.getElem?_drop]
    have H := Rel.sl (s := s1) R' none ((o.rows.drop off).take len) b (off * o.sz) (k - off) o.sz (fun i j => (s.w.cell? ⟨b, off * o.sz + (i * o.sz + j), none⟩).getD undef) (by simp) (hb1 b k hb) (by rw [hl]; omega)
      (fun row hrow => k5 row (List.mem_of_mem_drop (List.mem_of_mem_take hrow))) (fun i j hi' hj => ?_) (fun i j x hx => ?_)
    · rw [hl] at H; exact H
    · rw [hl] at hi'
      have hrow : o.rows[off + i]? = some (o.rows[off + i]'(by omega)) := List.getElem?_eq_getElem (by omega)
      have hcs : (o.rows[off + i]'(by omega))[j]? = some ((o.rows[off + i]'(by omega))[j]'(by rw [k5 _ (List.getElem_mem _)]; exact hj)) := List.getElem?_eq_getElem _
      obtain ⟨u, hu, _⟩ := reg_cell hi hr hb hrow hcs
      rw [hw]
      rw [show off * o.sz + (i * o.sz + j) = (off + i) * o.sz + j by rw [Nat.add_mul]; omega, hu]; rfl
    · unfold rowAt at hx
      by_cases hil : i < len
      · rw [get i hil] at hx
        cases hrow : o.rows[off + i]? with
        | none => rw [hrow] at hx; cases hx
        | some cs =>
          rw [hrow] at hx
          obtain ⟨u, hu, hrel, _⟩ := reg_cell hi hr hb hrow (show cs[j]? = some x from hx)
          rw [hbx] at hrel
          rw [show off * o.sz + (i * o.sz + j) = (off + i) * o.sz + j by rw [Nat.add_mul]; omega, hu]
          exact Rel.ext hrel e0
      · rw [List.getElem?_eq_none (by rw [hl]; omega)] at hx; cases hx

theorem fz1_sound {w0 : Base} {s : CS} {R R1 : List Reg} {x y : IV} {v : Value} (hi : Inv w0 s R) (h : Rel s R x v) (hf : fz1 R x = some (y, R1)) :
    ∃ s1 : CS, s1.w = s.w ∧ Inv w0 s1 R1 ∧ Ext s R s1 R1 ∧ Rel s1 [] y v := by
  unfold fz1 at hf
  split at hf
  · rename_i r ver off len
    split at hf
    · rename_i v' o hg
      split at hf
      · rename_i hc
        obtain ⟨rfl, hbx⟩ := hc
        injection hf with hf
        injection hf with h1 h2
        subst h1; subst h2
        obtain ⟨s1, hw, hb, hi1, he1, hF1⟩ := hi.free hg hbx
        exact ⟨s1, hw, hi1, he1, reg_sl hi hg hbx h hw he1.F hF1 []⟩
      · cases hf
    · cases hf
  · cases hf
  · cases hf
  · split at hf
    · rename_i hp
      injection hf with hf
      injection hf with h1 h2
      subst h1; subst h2
      exact ⟨s, rfl, hi, Ext.refl _ _, pureC_rel h hp _⟩
    · cases hf

theorem fzL_sound {w0 : Base} : ∀ (xs : List IV) {s : CS} {R R1 : List Reg} {ys : List IV} {vs : List Value}, Inv w0 s R → RelL s R xs vs → fzL R xs = some (ys, R1) →
    ∃ s1 : CS, s1.w = s.w ∧ Inv w0 s1 R1 ∧ Ext s R s1 R1 ∧ RelL s1 [] ys vs
  | [], s, R, R1, ys, vs, hi, h, hf => by
    injection hf with hf
    injection hf with h1 h2
    subst h1; subst h2
    have : vs = [] := by have := h.1; simp at this; exact List.eq_nil_of_length_eq_zero this.symm
    subst this
    exact ⟨s, rfl, hi, Ext.refl _ _, RelL.nil _ _⟩
  | x :: xs, s, R, R1, ys, vs, hi, h, hf => by
    obtain ⟨v, us, rfl, hx, hxs⟩ := h.uncons
    unfold fzL at hf
    split at hf
    · rename_i y R' h1
      split at hf
      · rename_i ys' R2 h2
        injection hf with hf
        injection hf with e1 e2
        subst e1; subst e2
        obtain ⟨s1, w1, i1, x1, r1⟩ := fz1_sound hi hx h1
        obtain ⟨s2, w2, i2, x2, r2⟩ := fzL_sound xs i1 (hxs.ext x1) h2
        exact ⟨s2, w2.trans w1, i2, x1.trans x2, RelL.cons (r1.ext x2.nil) r2⟩
      · cases hf
    · cases hf
end Go.Iv
set_option linter.unusedVariables false
set_option linter.unusedSimpArgs false
namespace Go.Iv
open Go.RowKit

theorem cells_nonagg {v : Value} (h : v.oneCell' = true) : v.cells = #[v] := by cases v <;> simp_all [Value.oneCell', Value.cells]
theorem okPart_one {s : CS} {R : List Reg} {x : IV} {v : Value} (h : Rel s R x v) (hp : okPart x = true) (ha : ∀ xs, x ≠ .ag xs) (ht : ∀ xs, x ≠ .tu xs) : v.oneCell' = true := by
  cases h <;> simp only [okPart] at hp <;> first | (cases hp; done) | rfl | skip
  · exact absurd rfl (ha _)
  · exact absurd rfl (ht _)
theorem okCell_rf {R : List Reg} {r ver off len : Nat} (h : okCell R (.rf r ver off len) = true) : ver = (getR R r).ver ∧ (getR R r).obj ≠ none := by
  simp only [okCell] at h
  cases hg : getR R r with
  | mk v o =>
    rw [hg] at h
    cases o with
    | none => simp at h
    | some o => exact ⟨by simpa [eq_comm] using h, by simp⟩
theorem okCell_pt {R : List Reg} {r ver off len : Nat} (h : okCell R (.pt r ver off len) = true) : ver = (getR R r).ver ∧ (getR R r).obj ≠ none := okCell_rf (off := off) (len := len) h
theorem okCell_one {s : CS} {R : List Reg} {x : IV} {v : Value} (h : Rel s R x v) (hp : okCell R x = true) : v.oneCell' = true := by
  cases h with
  | un => simp [okCell] at hp
  | ag => simp [okCell] at hp
  | tu => simp [okCell] at hp
  | stale _ _ _ _ _ _ h h2 => exact absurd (h2 (okCell_rf hp).1) (okCell_rf hp).2
  | staleP _ _ _ _ _ _ h h2 => exact absurd (h2 (okCell_pt hp).1) (okCell_pt hp).2
  | _ => rfl
theorem cellsI_one {x : IV} (h : ∀ xs, x ≠ .ag xs) : cellsI x = [x] := by cases x <;> first | rfl | exact absurd rfl (h _)

/-- A value's cells. -/
theorem cells_rel {s : CS} {R : List Reg} {x : IV} {v : Value} (h : Rel s R x v) (hp : (cellsI x).all (fun c => okPart c || okCell R c) = true) : RelL s R (cellsI x) v.cells.toList := by
  by_cases ha : ∃ xs, x = .ag xs
  · obtain ⟨xs, rfl⟩ := ha
    obtain ⟨vs, rfl, hl⟩ := ag_inv h
    exact hl
  · have hc : cellsI x = [x] := cellsI_one (fun xs e => ha ⟨xs, e⟩)
    rw [hc] at hp ⊢
    have hp' : okPart x = true ∨ okCell R x = true := by simpa using hp
    by_cases ht : ∃ xs, x = .tu xs
    · obtain ⟨xs, rfl⟩ := ht
      cases h with
      | tu _ _ vs hl h => exact RelL.cons (.tu _ _ _ hl h) (RelL.nil _ _)
    · have h1 : v.oneCell' = true := by
        rcases hp' with hp' | hp'
        · exact okPart_one h hp' (fun xs e => ha ⟨xs, e⟩) (fun xs e => ht ⟨xs, e⟩)
        · exact okCell_one h hp'
      rw [cells_nonagg h1]
      exact RelL.cons h (RelL.nil _ _)
theorem cells_ok {s : CS} {R : List Reg} {x : IV} {v : Value} (h : Rel s R x v) (hp : (cellsI x).all (okCell R) = true) : RelL s R (cellsI x) v.cells.toList ∧ ∀ u ∈ v.cells.toList, u.oneCell' = true := by
  have hr := cells_rel h (by
    rw [List.all_eq_true] at hp ⊢
    intro c hc
    rw [hp c hc, Bool.or_true])
  refine ⟨hr, fun u hu => ?_⟩
  obtain ⟨j, hj, e⟩ := List.mem_iff_getElem.1 hu
  have hj' : j < (cellsI x).length := by rw [hr.1]; exact hj
  have := hr.2 j _ u (List.getElem?_eq_getElem hj') (by rw [← e]; exact List.getElem?_eq_getElem hj)
  exact okCell_one this (List.all_eq_true.1 hp _ (List.getElem_mem hj'))
theorem fz1_ok {R R1 : List Reg} {x y : IV} (h : fz1 R x = some (y, R1)) : okPart x = true ∨ okCell R x = true := by
  unfold fz1 at h
  split at h
  · rename_i r ver off len
    split at h
    · rename_i v' o hg
      split at h
      · rename_i hc
        right
        simp only [okCell, hg]
        simpa using hc.1
      · cases h
    · cases h
  · cases h
  · cases h
  · rename_i h1 h2 h3
    left
    unfold okPart
    split
    · exact absurd rfl h3
    · exact absurd rfl (h1 _ _ _ _)
    · exact absurd rfl (h2 _ _ _ _)
    · rfl

theorem fz_cells {w0 : Base} {s : CS} {R R1 : List Reg} {x : IV} {v : Value} {ys : List IV} (hi : Inv w0 s R) (h : Rel s R x v) (hf : fzL R (cellsI x) = some (ys, R1)) :
    ∃ s1 : CS, s1.w = s.w ∧ Inv w0 s1 R1 ∧ Ext s R s1 R1 ∧ RelL s1 [] ys v.cells.toList := by
  have hr : RelL s R (cellsI x) v.cells.toList := by
    by_cases ha : ∃ xs, x = .ag xs
    · obtain ⟨xs, rfl⟩ := ha
      obtain ⟨vs, rfl, hl⟩ := ag_inv h
      exact hl
    · have hc : cellsI x = [x] := cellsI_one (fun xs e => ha ⟨xs, e⟩)
      have hf' := hf
      rw [hc] at hf'
      unfold fzL at hf'
      cases h1 : fz1 R x with
      | none => rw [h1] at hf'; cases hf'
      | some p =>
        have := fz1_ok (show fz1 R x = some (p.1, p.2) from h1)
        exact cells_rel h (by rw [hc]; simpa using this)
  exact fzL_sound _ hi hr hf

/-! ### flat rows -/
theorem chunk_flatten (sz : Nat) : ∀ (n : Nat) (l : List IV), l.length = n * sz → (chunk sz n l).flatten = l
  | 0, l, h => by
    have : l = [] := List.eq_nil_of_length_eq_zero (by omega)
    subst this; rfl
  | n + 1, l, h => by
    have h1 : l.length = n * sz + sz := by rw [h, Nat.add_mul]; omega
    simp only [chunk, List.flatten_cons]
    rw [chunk_flatten sz n (l.drop sz) (by simp; omega)]
    exact List.take_append_drop _ _
theorem chunk_len (sz n : Nat) (l : List IV) : (chunk sz n l).length = n := by
  induction n generalizing l with
  | zero => rfl
  | succ n ih => simp [chunk, ih]
theorem chunk_rows (sz : Nat) : ∀ (n : Nat) (l : List IV), l.length = n * sz → ∀ row ∈ chunk sz n l, row.length = sz
  | 0, l, h => by simp [chunk]
  | n + 1, l, h => by
    have h1 : l.length = n * sz + sz := by rw [h, Nat.add_mul]; omega
    intro row hr
    simp only [chunk, List.mem_cons] at hr
    rcases hr with rfl | hr
    · simp; omega
    · exact chunk_rows sz n (l.drop sz) (by simp; omega) row hr

theorem fillRow_len {row cs : List IV} {off : Nat} (h : off + cs.length ≤ row.length) : (fillRow row off cs).length = row.length := by simp [fillRow]; omega
theorem fillRow_rel {s : CS} {R : List Reg} {row cs : List IV} {vs us : List Value} {off : Nat} (h : RelL s R row vs) (k : RelL s R cs us) : RelL s R (fillRow row off cs) (vs.take off ++ us ++ vs.drop (off + us.length)) := by
  unfold fillRow
  rw [k.1]
  exact ((h.take off).append k).append (h.drop _)

/-- Parts and their values. -/
def RelPs (s : CS) (R : List Reg) : List (Nat × List IV) → List (Nat × Value) → Prop
  | [], [] => True
  | (i, cs) :: ps, (j, v) :: vs => i = j ∧ RelL s R cs v.cells.toList ∧ RelPs s R ps vs
  | _, _ => False
theorem RelPs.ext {s s' : CS} {R R' : List Reg} : ∀ {ps : List (Nat × List IV)} {vs : List (Nat × Value)}, RelPs s R ps vs → Ext s R s' R' → RelPs s' R' ps vs
  | [], [], _, _ => trivial
  | [], _ :: _, h, _ => h.elim
  | _ :: _, [], h, _ => h.elim
  | (i, cs) :: ps, (j, v) :: vs, h, e => ⟨h.1, h.2.1.ext e, RelPs.ext h.2.2 e⟩

theorem fill_sound {s : CS} {R : List Reg} (place : Nat → Option (Nat × Nat)) : ∀ (ps : List (Nat × List IV)) (vps : List (Nat × Value)) (cells r : List IV) (vs : Array Value),
    RelL s R cells vs.toList → RelPs s R ps vps → fillI place cells ps = some r → ∃ us, Instr.fill place vs vps = some us ∧ RelL s R r us.toList ∧ r.length = cells.length
  | [], [], cells, r, vs, h, _, hf => by injection hf with hf; subst hf; exact ⟨vs, rfl, h, rfl⟩
  | [], _ :: _, _, _, _, _, k, _ => k.elim
  | _ :: _, [], _, _, _, _, k, _ => k.elim
  | (i, cs) :: ps, (j, v) :: vps, cells, r, vs, h, k, hf => by
    obtain ⟨rfl, hv, hps⟩ := k
    unfold fillI at hf
    unfold Instr.fill
    split at hf
    · cases hf
    · rename_i off size hpl
      rw [hpl]
      split at hf
      · rename_i hc
        have hvs : v.cells.size = cs.length := by have := hv.1; simpa using this.symm
        have hcells : cells.length = vs.size := by simpa using h.1
        have hcond : ¬ (v.cells.size ≠ size || off + v.cells.size > vs.size) = true := by
          simp only [Bool.or_eq_true, decide_eq_true_eq, not_or]
          refine ⟨?_, ?_⟩
          · simp; omega
          · simp; omega
        simp only [hcond, if_false]
        have hset := Go.Great.foldl_set off v.cells.toList 0 vs
        have heq : ((v.cells.zipIdx.foldl (fun cs (x : Value × Nat) => cs.setIfInBounds (off + x.2) x.1) vs)).toList = vs.toList.take off ++ v.cells.toList ++ vs.toList.drop (off + v.cells.toList.length) := by
          rw [← Array.foldl_toList, Array.toList_zipIdx]
          apply List.ext_getElem?
          intro q
          have := hset.2 q
          rw [Array.getElem?_toList, this]
          simp only [Nat.add_zero]
          by_cases h1 : q < off
          · rw [if_neg (by omega), List.append_assoc, List.getElem?_append_left (by simp; omega), List.getElem?_take, if_pos h1]; simp
          · by_cases h2 : q < off + v.cells.toList.length
            · have h2' : q < off + v.cells.size := by simpa using h2
              rw [if_pos ⟨by omega, h2, by omega⟩, List.append_assoc, List.getElem?_append_right (by simp; omega), List.getElem?_append_left (by simp; omega)]
              congr 1; simp; omega
            · have h2' : ¬ q < off + v.cells.size := by simpa using h2
              rw [if_neg (by omega), List.getElem?_append_right (by simp; omega), List.getElem?_drop]
              rw [← Array.getElem?_toList]
              congr 1; simp; omega
        have hrel := fillRow_rel (off := off) h hv
        obtain ⟨us, h1, h2, h3⟩ := fill_sound place ps vps (fillRow cells off cs) r _ (by rw [heq]; exact hrel) hps hf
        exact ⟨us, h1, h2, h3.trans (fillRow_len hc.2)⟩
      · cases hf
end Go.Iv
set_option linter.unusedVariables false
set_option linter.unusedSimpArgs false
namespace Go.Iv
open Go.RowKit

theorem zero_of {P : Program} {t : TypeId} {ti : TI} (h : (tysOf P)[t]? = some ti) (hz : ti.zero.isEmpty = false) : ∃ i z, P.info? t = some i ∧ i.zero = some z ∧ i.size = ti.size ∧ i.bytes = ti.bytes ∧ ti.zero = z.cells.toList.map ofV0 := by
  obtain ⟨i, hi, hs, hb, hzz⟩ := tys_info h
  cases hq : i.zero with
  | none => rw [hq] at hzz; simp only at hzz; rw [hzz] at hz; simp at hz
  | some z => rw [hq] at hzz; exact ⟨i, z, hi, hq, hs, hb, hzz⟩

theorem places_run {P : Program} : ∀ (gs : List Field) (ps : List (Nat × Nat)), placesI (tysOf P) (gs.map fun f => (f.offset, f.type)) = some ps →
    gs.mapM (fun f => (P.info? f.type).map fun i => (f.offset, i.size)) = some ps
  | [], ps, h => by simp only [List.map_nil, placesI] at h; injection h with h; subst h; rfl
  | g :: gs, ps, h => by
    simp only [List.map_cons, placesI] at h
    split at h
    · rename_i fi hfi
      obtain ⟨i, hi, hs, _⟩ := tys_info hfi
      split at h
      · rename_i qs hq
        injection h with h; subst h
        rw [List.mapM_cons, places_run gs qs hq, hi]
        simp [hs]
      · cases h
    · cases h

theorem relPs_of {s : CS} {R : List Reg} {T : List IV} {a : Act} (hT : RelT s R T a.tmps) : ∀ (ps : List (Nat × Operand)), ((ps.map fun p => (p.1, evI T p.2)).all fun p => (cellsI p.2).all fun c => okPart c || okCell R c) = true →
    RelPs s R ((ps.map fun p => (p.1, evI T p.2)).map fun p => (p.1, cellsI p.2)) (ps.map fun p => (p.1, a.eval p.2))
  | [], _ => trivial
  | p :: ps, h => by
    simp only [List.map_cons, List.all_cons, Bool.and_eq_true] at h
    exact ⟨rfl, cells_rel (hT.ev p.2) h.1, relPs_of hT ps h.2⟩

theorem build_sound {P : Program} {s : CS} {R : List Reg} {T : List IV} {a : Act} {w : World} {t : TypeId} {parts : Array (Nat × Operand)} {v : IV} (hT : RelT s R T a.tmps)
    (h : buildI (tysOf P) t (parts.toList.map fun p => (p.1, evI T p.2)) R = some v) : ∃ y, (Instr.build t (parts.map fun (i, x) => (i, a.eval x))).run P w = .ok y w ∧ Rel s R v y := by
  unfold buildI at h
  split at h
  · rename_i ti hti
    split at h
    · cases h
    · rename_i hc
      rw [not_or] at hc
      have hz : ti.zero.isEmpty = false := by simpa using hc.1
      have hall : ((parts.toList.map fun p => (p.1, evI T p.2)).all fun p => (cellsI p.2).all fun c => okPart c || okCell R c) = true := by simpa only [Bool.not_eq_false] using hc.2
      obtain ⟨i, z, hi, hiz, hs, hb, hzero⟩ := zero_of hti hz
      have hps := relPs_of hT parts.toList hall
      have hcells : RelL s R ti.zero z.cells.toList := by rw [hzero]; exact relL_ofV0 _ _ _
      have hmap : (parts.map fun (i, x) => (i, a.eval x)).toList = parts.toList.map fun p => (p.1, a.eval p.2) := by simp
      have hu := under_tys hti
      split at h
      · rename_i fs hk
        rw [hk] at hu
        obtain ⟨gs, hg, rfl⟩ := hu
        split at h
        · rename_i ps hpl
          cases hf : fillI (ps[·]?) ti.zero ((parts.toList.map fun p => (p.1, evI T p.2)).map fun p => (p.1, cellsI p.2)) with
          | none => rw [hf] at h; cases h
          | some r =>
            rw [hf] at h
            injection h with h; subst h
            obtain ⟨us, h1, h2, h3⟩ := fill_sound (ps[·]?) _ _ _ _ _ hcells hps hf
            refine ⟨.agg us, run_build w t _ us ?_, .ag _ _ _ (by simpa using h2.1) (fun j x u hx hu => h2.2 j x u hx (by simpa using hu))⟩
            simp only [Program.built, hi, hg, hiz, places_run gs.toList ps hpl, hmap]
            rw [← h1]
            congr 1
            funext k
            simp
        · cases h
      · rename_i n e hk
        rw [hk] at hu
        have hu' : P.underlying t = some (.array n e) := hu
        split at h
        · rename_i ei hei
          obtain ⟨ie, hie, hse, _, _⟩ := tys_info hei
          cases hf : fillI (fun i => some (i * ei.size, ei.size)) ti.zero ((parts.toList.map fun p => (p.1, evI T p.2)).map fun p => (p.1, cellsI p.2)) with
          | none => rw [hf] at h; cases h
          | some r =>
            rw [hf] at h
            injection h with h; subst h
            obtain ⟨us, h1, h2, h3⟩ := fill_sound (fun i => some (i * ei.size, ei.size)) _ _ _ _ _ hcells hps hf
            refine ⟨.agg us, run_build w t _ us ?_, .ag _ _ _ (by simpa using h2.1) (fun j x u hx hu => h2.2 j x u hx (by simpa using hu))⟩
            simp only [Program.built, hi, hu', hiz, hie, hmap, hse]
            exact h1
        · cases h
      · cases h
  · cases h

theorem replicate_flat {s : CS} {R : List Reg} {z : Value} {zero : List IV} {n sz : Nat} (hz : zero = z.cells.toList.map ofV0) (hl : zero.length = sz) (h0 : 0 < sz) :
    RelL s R (List.replicate n zero).flatten (madeCells z.cells (n * sz)).toList := by
  have hlen : (List.replicate n zero).flatten.length = n * sz := by
    rw [flatten_len (sz := sz) _ (fun row hr => by rw [(List.mem_replicate.1 hr).2, hl])]; simp
  have hzs : z.cells.size = sz := by rw [← hl, hz]; simp
  refine ⟨by rw [hlen]; simp [madeCells], fun j x v hx hv => ?_⟩
  have hj : j < n * sz := by rw [← hlen]; exact (List.getElem?_eq_some_iff.1 hx).1
  have hdiv : j / sz < n := (Nat.div_lt_iff_lt_mul h0).2 hj
  have hmod : j % sz < sz := Nat.mod_lt _ h0
  have hrow : (List.replicate n zero)[j / sz]? = some zero := by rw [List.getElem?_replicate, if_pos hdiv]
  have hcs : zero[j % sz]? = some (zero[j % sz]'(by omega)) := List.getElem?_eq_getElem _
  have hf := flatten_get (sz := sz) _ (j / sz) (j % sz) zero _ (fun row hr => by rw [(List.mem_replicate.1 hr).2, hl]) hrow hcs
  rw [show j / sz * sz + j % sz = j from by rw [Nat.mul_comm]; exact Nat.div_add_mod j sz] at hf
  rw [hf] at hx
  injection hx with hx
  subst hx
  have hv' : v = z.cells[j % sz]'(by omega) := by
    have : (madeCells z.cells (n * sz)).toList[j]? = some (z.cells[j % z.cells.size]!) := by simp [madeCells, hj]
    rw [this] at hv
    injection hv with hv
    have e2 : j % z.cells.size < z.cells.size := by rw [hzs]; exact hmod
    rw [← hv, getElem!_pos z.cells _ e2]
    simp only [hzs]
  subst hv'
  have : zero[j % sz]'(by omega) = ofV0 (z.cells[j % sz]'(by omega)) := by simp [hz]
  rw [this]
  exact ofV0_rel _ _ _

theorem parts_sound {w0 : Base} {T : List IV} {a : Act} : ∀ (ps : List (Nat × Operand)) {s : CS} {R R1 : List Reg} {qs : List (Nat × List IV)}, Inv w0 s R → RelT s R T a.tmps → fzParts R (ps.map fun p => (p.1, evI T p.2)) = some (qs, R1) →
    ∃ s1 : CS, s1.w = s.w ∧ Inv w0 s1 R1 ∧ Ext s R s1 R1 ∧ RelPs s1 [] qs (ps.map fun p => (p.1, a.eval p.2))
  | [], s, R, R1, qs, hi, hT, h => by
    simp only [List.map_nil, fzParts] at h
    injection h with h; injection h with h1 h2
    subst h1; subst h2
    exact ⟨s, rfl, hi, Ext.refl _ _, trivial⟩
  | p :: ps, s, R, R1, qs, hi, hT, h => by
    simp only [List.map_cons, fzParts] at h
    split at h
    · rename_i ys R' h1
      split at h
      · rename_i ps' R2 h2
        injection h with h; injection h with e1 e2
        subst e1; subst e2
        obtain ⟨s1, w1, i1, x1, r1⟩ := fz_cells hi (hT.ev p.2) h1
        obtain ⟨s2, w2, i2, x2, r2⟩ := parts_sound ps i1 (hT.ext x1) h2
        exact ⟨s2, w2.trans w1, i2, x1.trans x2, rfl, r1.ext x2.nil, r2⟩
      · cases h
    · cases h

/-- A new block's cells, as rows that are read. -/
theorem new_rows {w : World} {s1 : CS} {e : TypeId} {cells : Array Value} {rows : List (List IV)} {sz b : Nat} (hb : s1.w.heap[b]? = some (.cells cells e)) (hF : s1.F b) (hrows : ∀ row ∈ rows, row.length = sz)
    (h : RelL s1 [] rows.flatten cells.toList) (nl : Option Bool) (hn : nl ≠ some true) (R : List Reg) : Rel s1 R (.sl nl rows) (.slice (some ⟨b, 0, none⟩) rows.length rows.length) := by
  have hlen := flatten_len rows hrows
  have hsz : cells.size = rows.length * sz := by have := h.1; rw [hlen] at this; simpa using this.symm
  refine .sl _ _ _ _ _ _ sz (fun i j => (cells[i * sz + j]?).getD undef) hn hF (Nat.le_refl _) hrows (fun i j hi hj => ?_) (fun i j x hx => ?_)
  · have : i * sz + j < cells.size := by
      rw [hsz]
      calc i * sz + j < i * sz + sz := by omega
        _ = (i + 1) * sz := by rw [Nat.add_mul]; omega
        _ ≤ rows.length * sz := Nat.mul_le_mul_right _ hi
    simp [World.cell?, hb, this]
  · unfold rowAt at hx
    cases hrow : rows[i]? with
    | none => rw [hrow] at hx; cases hx
    | some cs =>
      rw [hrow] at hx
      have hf := flatten_get rows i j cs x hrows hrow hx
      have hlt : i * sz + j < cells.size := by
        have := (List.getElem?_eq_some_iff.1 hf).1; rw [hlen] at this; omega
      exact h.2 _ x _ hf (by simp [hlt])

theorem buildSlice_sound {P : Program} {w0 : Base} {s : CS} {R R1 : List Reg} {T : List IV} {a : Act} {t : TypeId} {n : Nat} {parts : Array (Nat × Operand)} {v : IV} {an : An} (hi : Inv w0 s R) (hT : RelT s R T a.tmps)
    (h : opI (tysOf P) an (.buildSlice t n parts) T R = some (v, R1)) : ∃ y s1, (Instr.buildSlice t n (parts.map fun (i, x) => (i, a.eval x))).run P s.w = .ok y s1.w ∧ Inv w0 s1 R1 ∧ Ext s R s1 R1 ∧ Rel s1 R1 v y := by
  simp only [opI] at h
  split at h
  · rename_i e hk
    have hu : P.underlying t = some (.slice e) := under_of hk
    split at h
    · rename_i ei hei
      split at h
      · rename_i ps Rf hp
        split at h
        · rename_i cells hf
          split at h
          · rename_i hc
            obtain ⟨c1, c2, c3, c4⟩ := hc
            have hzne : ei.zero.isEmpty = false := by
              cases hq : ei.zero with
              | nil => rw [hq] at c3; simp at c3; omega
              | cons => rfl
            obtain ⟨ie, z, hie, hiz, hs, hb, hzero⟩ := zero_of hei hzne
            obtain ⟨s1, hw1, i1, x1, r1⟩ := parts_sound parts.toList hi hT hp
            have hzr : RelL s1 [] (List.replicate n ei.zero).flatten (madeCells z.cells (n * ei.size)).toList := replicate_flat hzero c3 c2
            obtain ⟨us, h1, h2, h3⟩ := fill_sound (fun i => some (i * ei.size, ei.size)) _ _ _ _ _ hzr r1 hf
            have hmap : (parts.map fun (i, x) => (i, a.eval x)).toList = parts.toList.map fun p => (p.1, a.eval p.2) := by simp
            have hlen : cells.length = n * ei.size := by
              rw [h3, flatten_len (sz := ei.size) _ (fun row hr => by rw [(List.mem_replicate.1 hr).2, c3])]; simp
            have hus : us.size = n * ei.size := by have := h2.1; rw [hlen] at this; simpa using this.symm
            have hrun : (Instr.buildSlice t n (parts.map fun (i, x) => (i, a.eval x))).run P s.w = .ok (.slice (some ⟨s.w.heap.size, 0, none⟩) n n) (s.w.alloc (.cells us e)) := by
              by_cases hn : n = 0
              · subst hn
                have he : us = #[] := by apply Array.eq_empty_of_size_eq_zero; omega
                subst he
                have this : Instr.fill (fun i => some (i * ie.size, ie.size)) #[] (Array.map (fun (x : Nat × Operand) => (x.1, a.eval x.2)) parts).toList = some #[] := by
                  have e0 : madeCells z.cells (0 * ei.size) = #[] := by simp [madeCells]
                  rw [e0] at h1
                  rw [hs, Array.toList_map]
                  exact h1
                have er : (Array.range 0).map (fun x => (#[] : Array Value)[x % (#[] : Array Value).size]!) = #[] := by simp [Array.range]
                simp only [Instr.buildSlice, Sem.run_bind, run_underlying hu, Result.andThen_ok, run_sizeOf' hie, Nat.zero_mul, if_true, Sem.run_pure, er, this, newRow, Nat.not_lt_zero, gt_iff_lt, if_false, run_newObj_alloc]
              · refine run_buildSlice s.w t e n _ us ie z hu hie hiz (by rw [hs]; omega) (by rw [hs]; intro e0; rcases Nat.mul_eq_zero.1 e0 with e0 | e0 <;> omega) ?_
                rw [hmap, hs]; exact h1
            have hfl := chunk_flatten ei.size n cells hlen
            have hrl : (chunk ei.size n cells).length = n := chunk_len _ _ _
            split at h
            · rename_i r
              injection h with h; injection h with e1 e2
              subst e1; subst e2
              have T1 := i1.take r { box := false, ety := e, sz := ei.size, rows := chunk ei.size n cells } (s1.w.alloc (.cells us e)) (some (s1.w.heap.size, n))
                ((Below.refl _ _).alloc (Nat.le_refl _) _)
                (fun b k hbk => by
                  injection hbk with hbk; injection hbk with q1 q2; subst q1; subst q2
                  refine ⟨Nat.le_refl _, by unfold maxLen; omega, by rw [hrl]; exact Nat.le_refl _, chunk_rows _ _ _ hlen, us, heap_alloc_new _ _, hus, ?_⟩
                  rw [hfl, hrl]
                  rw [List.take_of_length_le (by simp; omega)]
                  exact h2)
                (fun hn => by cases hn)
              refine ⟨.slice (some ⟨s.w.heap.size, 0, none⟩) n n, ⟨s1.w.alloc (.cells us e), s1.F, upd s1.β r (some (s1.w.heap.size, n))⟩, ?_, T1.1, x1.trans T1.2, ?_⟩
              · rw [hrun, hw1]
              · have := Rel.rf (s := ⟨s1.w.alloc (.cells us e), s1.F, upd s1.β r (some (s1.w.heap.size, n))⟩) (newR Rf r { box := false, ety := e, sz := ei.size, rows := chunk ei.size n cells }) r (verR Rf r) _ 0 n s1.w.heap.size n (lv_new _ _ _) (upd_same _ _ _) (by rw [hrl]; omega)
                rw [← hw1]
                simpa using this
            · injection h with h; injection h with e1 e2
              subst e1; subst e2
              obtain ⟨j1, j2⟩ := i1.pushF (.cells us e)
              refine ⟨.slice (some ⟨s.w.heap.size, 0, none⟩) n n, _, ?_, j1, x1.trans j2, ?_⟩
              · rw [hrun, hw1]
              · have := new_rows (w := s.w) (s1 := ⟨s1.w.alloc (.cells us e), fun b => s1.F b ∨ b = s1.w.heap.size, s1.β⟩) (e := e) (cells := us) (rows := chunk ei.size n cells) (sz := ei.size) (b := s1.w.heap.size) (heap_alloc_new _ _) (.inr rfl) (chunk_rows _ _ _ hlen) (by rw [hfl]; exact h2.ext j2.nil) (some false) (by simp) Rf
                rw [hrl] at this
                rw [← hw1]; exact this
          · cases h
        · cases h
      · cases h
    · cases h
  · cases h
end Go.Iv
