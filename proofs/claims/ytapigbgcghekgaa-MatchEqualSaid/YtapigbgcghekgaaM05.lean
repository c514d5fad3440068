import Derived.Test.YtapigbgcghekgaaM04
import Derived.WalkKit
import Derived.ProofKit
import Derived.OpenShut
import Derived.ShutString
import Derived.ChangeOld
import Derived.Below
import Derived.SizedLaws
set_option linter.unusedVariables false
set_option linter.unusedSimpArgs false
set_option linter.unusedVariables false
set_option linter.unusedSimpArgs false
namespace Go.Iv
open Go.RowKit

theorem clear_sound {P : Program} {w0 : Base} {s : CS} {R R1 : List Reg} {t ty : TypeId} {x : IV} {a : Value} (hi : Inv w0 s R) (hx : Rel s R x a) (h : clearI (tysOf P) t x R = some R1) :
    ∃ s1 : CS, (Builtin.clear_ #[t] ty #[a]).run P s.w = .ok (.tuple #[]) s1.w ∧ Inv w0 s1 R1 ∧ Ext s R s1 R1 := by
  unfold clearI at h
  split at h
  · rename_i e hk
    have ht : P.underlying t = some (.slice e) := under_of hk
    split at h
    · rename_i ei r ver off len hei
      split at h
      · rename_i o ho
        have hl := liveR_lv ho
        split at h
        · rename_i h0
          injection h with h; subst h; subst h0
          refine ⟨s, ?_, hi, Ext.refl _ _⟩
          rcases hx.rf_inv hl with ⟨_, _, _, A, rfl⟩ | ⟨b, k, hb, hlen, rfl⟩
          · cases A <;> simp [Builtin.clear_, run_underlying ht]
          · simp [Builtin.clear_, run_underlying ht]
        · rename_i h0
          split at h
          · cases h
          · rename_i hc
            rw [not_or, not_or, not_or, not_or] at hc
            injection h with h; subst h
            have hbx : o.box = false := by simpa using hc.1
            have hosz : o.sz = ei.size := by simpa using hc.2.1
            have hzl : ei.zero.length = ei.size := by simpa using hc.2.2.1
            have hzok : ei.zero.all (okCell []) = true := by simpa only [Bool.not_eq_false] using hc.2.2.2.1
            rcases hx.rf_inv hl with ⟨_, _, hl0, A, rfl⟩ | ⟨b, k, hb, hlen, rfl⟩
            · exact absurd hl0 h0
            · have hpos : 0 < ei.size ∨ ei.size = 0 := by omega
              by_cases hsz : ei.size = 0
              · -- no cells: zero is empty
                exfalso
                exact hc.2.2.2.2 hsz
              · have hzne : ei.zero.isEmpty = false := by
                  cases hq : ei.zero with
                  | nil => rw [hq] at hzl; simp at hzl; omega
                  | cons => rfl
                obtain ⟨i, z, hie, hiz, hs, hby, hzero⟩ := zero_of hei hzne
                have hzs : z.cells.size = ei.size := by rw [← hzl, hzero]; simp
                have hzz : (Builtin.zeroCells z.cells len).toList = (madeCells z.cells (len * ei.size)).toList := by simp [Builtin.zeroCells, madeCells, hzs]
                have hrel : RelL s [] (List.replicate len ei.zero).flatten (Builtin.zeroCells z.cells len).toList := by rw [hzz]; exact replicate_flat hzero hzl (by omega)
                have hok : okRows ei.size (List.replicate len ei.zero) = true := by
                  unfold okRows
                  rw [List.all_eq_true]
                  intro row hr
                  rw [(List.mem_replicate.1 hr).2, hzl, hzok]; simp
                obtain ⟨k1, k2, k3, k4, k5, cur, k6, k7, k8⟩ := (RegOK.some_ hb).1 (hi.regs r ver o hl)
                obtain ⟨s1, q1, qb, q2, q3⟩ := putRows (P := P) (q := off) (new := List.replicate len ei.zero) hi hl hbx hb (by omega) (by simp; omega) (.inr (by simpa using hlen)) (fun row hr => by rw [hosz]; exact allLen_mem (okRows_len hok) row hr) hrel (okRows_one hrel hok) ver (Nat.le_refl _)
                refine ⟨s1, ?_, q2, q3⟩
                cases len with
                | zero => exact absurd rfl h0
                | succ m => simp [Builtin.clear_, run_underlying ht, zeroValue, typeInfo, hie, hiz, q1]
      · cases h
    · cases h
  · cases h

theorem len_sound {P : Program} {s : CS} {R : List Reg} {w : World} {t ty e : TypeId} {x : IV} {a : Value} {n : Nat} (hx : Rel s R x a) (h : lenI x R = some n) (hk : tyK (tysOf P) t = .slice e) (hm : ∀ b, x ≠ .s b) :
    (Builtin.len_ #[t] ty #[a]).run P w = .ok (.int .i64 (n : Int)) w := by
  have ht : P.underlying t = some (.slice e) := under_of hk
  have hsl : ∃ A c, a = .slice A n c := by
    unfold lenI at h
    split at h
    · injection h with h; subst h; cases hx <;> exact ⟨_, _, rfl⟩
    · injection h with h; subst h; cases hx <;> exact ⟨_, _, rfl⟩
    · split at h
      · rename_i o ho
        injection h with h; subst h
        rcases hx.rf_inv (liveR_lv ho) with ⟨_, _, rfl, A, rfl⟩ | ⟨b, k, hb, hlen, rfl⟩
        · exact ⟨_, _, rfl⟩
        · exact ⟨_, _, rfl⟩
      · cases h
    · exact absurd rfl (hm _)
    · cases h
  obtain ⟨A, c, rfl⟩ := hsl
  simp [Builtin.len_, run_underlying ht, goInt]

theorem RelL.two {s : CS} {R : List Reg} {x y : IV} {vs : List Value} (h : RelL s R [x, y] vs) : ∃ a b, vs = [a, b] ∧ Rel s R x a ∧ Rel s R y b := by
  obtain ⟨a, us, rfl, h1, h2⟩ := h.uncons
  obtain ⟨b, us', rfl, h3, h4⟩ := h2.uncons
  have : us' = [] := by have := h4.1; simp at this; exact List.eq_nil_of_length_eq_zero this.symm
  subst this
  exact ⟨a, b, rfl, h1, h3⟩
theorem RelL.one {s : CS} {R : List Reg} {x : IV} {vs : List Value} (h : RelL s R [x] vs) : ∃ a, vs = [a] ∧ Rel s R x a := by
  obtain ⟨a, us, rfl, h1, h2⟩ := h.uncons
  have : us = [] := by have := h2.1; simp at this; exact List.eq_nil_of_length_eq_zero this.symm
  subst this
  exact ⟨a, rfl, h1⟩

theorem mm_sound {P : Program} {s : CS} {R : List Reg} {w : World} {x y v : IV} {a b : Value} {mx : Bool} {ty : TypeId} {ts : Array TypeId} (hx : Rel s R x a) (hy : Rel s R y b) (h : mmI mx x y = some v) :
    ∃ z, (if mx then Builtin.max_ ts ty #[a, b] else Builtin.min_ ts ty #[a, b]).run P w = .ok z w ∧ Rel s R v z := by
  unfold mmI at h
  split at h
  · cases hx; cases hy
    split at h
    · rename_i e; subst e
      injection h with h; subst h
      cases mx with
      | true => exact ⟨_, by simp [Builtin.max_, Builtin.max2], rel_int rfl⟩
      | false => exact ⟨_, by simp [Builtin.min_, Builtin.min2], rel_int rfl⟩
    · cases h
  · cases h

theorem builtin_sound {P : Program} {w0 : Base} {s : CS} {R R1 : List Reg} {an : An} {b : Builtin} {ts : List TypeId} {ty : TypeId} {consts : Array Bool} {xs : List IV} {vs : List Value} {v : IV} (hi : Inv w0 s R) (hx : RelL s R xs vs)
    (h : builtinI (tysOf P) an b ts xs R = some (v, R1)) : ∃ z s1, (builtin b ts.toArray ty consts vs.toArray).run P s.w = .ok (.value z) s1.w ∧ Inv w0 s1 R1 ∧ Ext s R s1 R1 ∧ Rel s1 R1 v z := by
  have lift : ∀ (m : Sem Value) (z : Value) (s1 : CS), m.run P s.w = .ok z s1.w → (do pure (.value (← m)) : Sem Next).run P s.w = .ok (.value z) s1.w := by
    intro m z s1 hm; simp [hm]
  unfold builtinI at h
  split at h
  · rename_i t u x y
    obtain ⟨a, b, rfl, h1, h2⟩ := hx.two
    obtain ⟨z, s1, q1, q2, q3, q4⟩ := append_sound (ty := ty) hi h1 h2 h
    exact ⟨z, s1, lift _ _ _ q1, q2, q3, q4⟩
  · rename_i t x
    obtain ⟨a, rfl, h1⟩ := hx.one
    split at h
    · rename_i b hk
      injection h with h; injection h with e1 e2; subst e1; subst e2
      have ht : P.underlying t = some .string := under_of hk
      cases h1
      exact ⟨_, s, lift _ _ _ (by simp [Builtin.len_, run_underlying ht, goInt]), hi, Ext.refl _ _, .i _ _ _⟩
    · cases h
    · rename_i e hk hm
      split at h
      · rename_i n hn
        injection h with h; injection h with e1 e2; subst e1; subst e2
        exact ⟨_, s, lift _ _ _ (len_sound h1 hn hk (fun b e => hm b e)), hi, Ext.refl _ _, .i _ _ _⟩
      · cases h
    · rename_i n e hk
      injection h with h; injection h with e1 e2; subst e1; subst e2
      have ht : P.underlying t = some (.array n e) := under_of hk
      exact ⟨_, s, lift _ _ _ (by simp [Builtin.len_, run_underlying ht, goInt]), hi, Ext.refl _ _, .i _ _ _⟩
    · cases h
  · rename_i t x
    obtain ⟨a, rfl, h1⟩ := hx.one
    split at h
    · rename_i e _ hk
      injection h with h; injection h with e1 e2; subst e1; subst e2
      have ht : P.underlying t = some (.slice e) := under_of hk
      have ha : a = .slice none 0 0 := by cases h1 with
        | slN => rfl
        | slE _ _ _ _ hn => simp at hn
        | sl _ _ _ _ _ _ _ _ hn => simp at hn
      subst ha
      exact ⟨_, s, lift _ _ _ (by simp [Builtin.cap_, run_underlying ht, goInt]), hi, Ext.refl _ _, .i _ _ _⟩
    · rename_i e _ hk
      injection h with h; injection h with e1 e2; subst e1; subst e2
      have ht : P.underlying t = some (.slice e) := under_of hk
      have ha : ∃ A, a = .slice A 0 0 := by cases h1 <;> exact ⟨_, rfl⟩
      obtain ⟨A, rfl⟩ := ha
      exact ⟨_, s, lift _ _ _ (by simp [Builtin.cap_, run_underlying ht, goInt]), hi, Ext.refl _ _, .i _ _ _⟩
    · cases h
  · rename_i t d
    obtain ⟨a, rfl, h1⟩ := hx.one
    split at h
    · rename_i R' hc
      injection h with h; injection h with e1 e2; subst e1; subst e2
      obtain ⟨s1, q1, q2, q3⟩ := clear_sound (ty := ty) hi h1 hc
      exact ⟨_, s1, lift _ _ _ q1, q2, q3, .tu _ _ _ rfl (fun j x v hx => by simp at hx)⟩
    · cases h
  · rename_i t u x y
    obtain ⟨a, b, rfl, h1, h2⟩ := hx.two
    cases hm : mmI false x y with
    | none => rw [hm] at h; cases h
    | some v' =>
      rw [hm] at h
      injection h with h; injection h with e1 e2; subst e1; subst e2
      obtain ⟨z, q1, q2⟩ := mm_sound (P := P) (w := s.w) (ty := ty) (ts := #[t, u]) h1 h2 hm
      exact ⟨z, s, lift _ _ _ q1, hi, Ext.refl _ _, q2⟩
  · rename_i t u x y
    obtain ⟨a, b, rfl, h1, h2⟩ := hx.two
    cases hm : mmI true x y with
    | none => rw [hm] at h; cases h
    | some v' =>
      rw [hm] at h
      injection h with h; injection h with e1 e2; subst e1; subst e2
      obtain ⟨z, q1, q2⟩ := mm_sound (P := P) (w := s.w) (ty := ty) (ts := #[t, u]) h1 h2 hm
      exact ⟨z, s, lift _ _ _ q1, hi, Ext.refl _ _, q2⟩
  · cases h
end Go.Iv
set_option linter.unusedVariables false
set_option linter.unusedSimpArgs false
namespace Go.Iv
open Go.RowKit

theorem b_inv {s : CS} {R : List Reg} {x : Bool} {v : Value} (h : Rel s R (.b x) v) : v = .bool x := by cases h; rfl
theorem fn_inv {s : CS} {R : List Reg} {f : Fn} {xs ys : List IV} {v : Value} (h : Rel s R (.fn f xs ys) v) : ∃ vs us, v = .func f vs us ∧ RelL s R xs vs.toList ∧ RelL s R ys us.toList := by
  cases h with
  | fn _ _ _ _ vs us h1 h2 h3 h4 => exact ⟨vs, us, rfl, ⟨by simpa using h1, fun j x v hx hv => h3 j x v hx (by simpa using hv)⟩, ⟨by simpa using h2, fun j x v hx hv => h4 j x v hx (by simpa using hv)⟩⟩
theorem tu_inv {s : CS} {R : List Reg} {xs : List IV} {v : Value} (h : Rel s R (.tu xs) v) : ∃ vs, v = .tuple vs ∧ RelL s R xs vs.toList := by
  cases h with
  | tu _ _ vs h1 h3 => exact ⟨vs, rfl, by simpa using h1, fun j x v hx hv => h3 j x v hx (by simpa using hv)⟩

theorem Res.val {P : Program} {w0 : Base} {s : CS} {R R1 : List Reg} {m : Sem Value} {v : IV} (h : ∃ y s1, m.run P s.w = .ok y s1.w ∧ Inv w0 s1 R1 ∧ Ext s R s1 R1 ∧ Rel s1 R1 v y) :
    Res w0 s R ((do pure (Next.value (← m)) : Sem Next).run P s.w) v R1 := by
  obtain ⟨y, s1, h1, h2, h3, h4⟩ := h
  exact ⟨y, s1, .inl (by simp [h1]), h2, h3, h4⟩
theorem Res.same {P : Program} {w0 : Base} {s : CS} {R : List Reg} {m : Sem Value} {v : IV} (hi : Inv w0 s R) (h : ∃ y, m.run P s.w = .ok y s.w ∧ Rel s R v y) :
    Res w0 s R ((do pure (Next.value (← m)) : Sem Next).run P s.w) v R :=
  Res.val (let ⟨y, h1, h2⟩ := h; ⟨y, s, h1, hi, Ext.refl _ _, h2⟩)

theorem map_some {α β : Type} {o : Option α} {f : α → β} {b : β} (h : o.map f = some b) : ∃ a, o = some a ∧ f a = b := Option.map_eq_some_iff.1 h

theorem op_sound {P : Program} {w0 : Base} {s : CS} {R R1 : List Reg} {T : List IV} {a : Act} {an : An} {o : Oper} {v : IV} (hi : Inv w0 s R) (hT : RelT s R T a.tmps) (h : opI (tysOf P) an o.op T R = some (v, R1)) :
    Res w0 s R ((execOp a.eval o).run P s.w) v R1 := by
  unfold execOp
  cases hop : o.op with
  | move x =>
    rw [hop] at h; injection h with h; injection h with e1 e2; subst e1; subst e2
    exact Res.ofPure hi rfl (hT.ev x)
  | assign x =>
    rw [hop] at h; injection h with h; injection h with e1 e2; subst e1; subst e2
    exact Res.ofPure hi rfl (hT.ev x)
  | pick c x y =>
    rw [hop] at h
    simp only [opI] at h
    split at h
    · rename_i b hb
      injection h with h; injection h with e1 e2; subst e1; subst e2
      have hc := hT.ev c
      rw [hb] at hc
      have hcv : a.eval c = .bool b := b_inv hc
      refine Res.ofPure (y := if b then a.eval x else a.eval y) hi ?_ ?_
      · simp only [hcv, asBool, Sem.run_bind, Sem.run_pure, Result.andThen_ok]
      · cases b
        · exact hT.ev y
        · exact hT.ev x
    · cases h
  | alloc e =>
    rw [hop] at h
    exact Res.val (alloc_sound hi h)
  | box e x =>
    rw [hop] at h
    exact Res.val (box_sound hi hT h)
  | build t parts =>
    rw [hop] at h
    simp only [opI] at h
    obtain ⟨r, h1, h2⟩ := map_some h
    injection h2 with e1 e2; subst e1; subst e2
    exact Res.same hi (build_sound hT h1)
  | buildSlice t n parts =>
    rw [hop] at h
    exact Res.val (buildSlice_sound hi hT h)
  | load t x =>
    rw [hop] at h
    simp only [opI] at h
    obtain ⟨r, h1, h2⟩ := map_some h
    injection h2 with e1 e2; subst e1; subst e2
    exact Res.same hi (load_sound hi (hT.ev x) h1)
  | store t x y =>
    rw [hop] at h
    simp only [opI] at h
    obtain ⟨r, h1, h2⟩ := map_some h
    injection h2 with e1 e2; subst e1; subst e2
    obtain ⟨s1, q1, q2, q3⟩ := store_sound hi (hT.ev x) (hT.ev y) h1
    exact ⟨undef, s1, .inr ⟨by simp [q1], rfl⟩, q2, q3, .tu _ _ _ rfl (fun j x v hx => by simp at hx)⟩
  | nilCheck x =>
    rw [hop] at h
    simp only [opI] at h
    have hx := hT.ev x
    split at h
    · rename_i c hc
      injection h with h; injection h with e1 e2; subst e1; subst e2
      rw [hc] at hx
      obtain ⟨b, q, hv, _⟩ := hx.pi_drop 0
      refine Res.ofPure (y := a.eval x) hi ?_ hx
      simp [hv]
    · rename_i r ver i j hc
      split at h
      · rename_i ob ho
        injection h with h; injection h with e1 e2; subst e1; subst e2
        rw [hc] at hx
        obtain ⟨b, q, hv, _⟩ := hx.pt_step (liveR_lv ho) 0
        refine Res.ofPure (y := a.eval x) hi ?_ hx
        simp [hv]
      · cases h
    · rename_i f az cs hc
      injection h with h; injection h with e1 e2; subst e1; subst e2
      rw [hc] at hx
      obtain ⟨vs, us, hv, _, _⟩ := fn_inv hx
      refine Res.ofPure (y := a.eval x) hi ?_ hx
      simp [hv]
    · cases h
  | binOp op t x y u =>
    rw [hop] at h
    simp only [opI] at h
    obtain ⟨r, h1, h2⟩ := map_some h
    injection h2 with e1 e2; subst e1; subst e2
    exact Res.same hi (bin_sound (hT.ev x) (hT.ev y) h1)
  | unOp op t x =>
    rw [hop] at h
    simp only [opI] at h
    obtain ⟨r, h1, h2⟩ := map_some h
    injection h2 with e1 e2; subst e1; subst e2
    exact Res.same hi (un_sound (hT.ev x) h1)
  | convert t u x =>
    rw [hop] at h
    simp only [opI] at h
    obtain ⟨r, h1, h2⟩ := map_some h
    injection h2 with e1 e2; subst e1; subst e2
    exact Res.same hi (conv_sound (hT.ev x) h1)
  | makeFunc f az cs =>
    rw [hop] at h
    injection h with h; injection h with e1 e2; subst e1; subst e2
    refine Res.same hi ⟨.func f (az.map a.eval) (cs.map a.eval), rfl, Rel.fn R f (az.toList.map (evI T)) (cs.toList.map (evI T)) _ _ (by simp) (by simp) (fun j x v hx hv => ?_) (fun j x v hx hv => ?_)⟩
    · rw [List.getElem?_map] at hx
      rw [Array.getElem?_map] at hv
      cases hq : az[j]? with
      | none => rw [hq] at hv; cases hv
      | some q =>
        rw [hq] at hv
        have : az.toList[j]? = some q := by simpa using hq
        rw [this] at hx
        injection hx with hx; injection hv with hv
        subst hx; subst hv
        exact hT.ev q
    · rw [List.getElem?_map] at hx
      rw [Array.getElem?_map] at hv
      cases hq : cs[j]? with
      | none => rw [hq] at hv; cases hv
      | some q =>
        rw [hq] at hv
        have : cs.toList[j]? = some q := by simpa using hq
        rw [this] at hx
        injection hx with hx; injection hv with hv
        subst hx; subst hv
        exact hT.ev q
  | makeSlice t l c =>
    rw [hop] at h
    exact Res.val (makeSlice_sound hi hT h)
  | slice t x lo h' mx =>
    rw [hop] at h
    simp only [opI] at h
    split at h
    · rename_i l hh m e1 e2 e3
      obtain ⟨r, h1, h2⟩ := map_some h
      injection h2 with e4 e5; subst e4; subst e5
      exact Res.same hi (slice_sound hi (hT.ev x) (opt_bound hT e1) (opt_bound hT e2) (opt_bound hT e3) h1)
    · cases h
  | fieldAddr t x f =>
    rw [hop] at h
    simp only [opI] at h
    obtain ⟨r, h1, h2⟩ := map_some h
    injection h2 with e1 e2; subst e1; subst e2
    exact Res.same hi (fieldAddr_sound (hT.ev x) h1)
  | field t x f =>
    rw [hop] at h
    simp only [opI] at h
    obtain ⟨r, h1, h2⟩ := map_some h
    injection h2 with e1 e2; subst e1; subst e2
    exact Res.same hi (field_sound (hT.ev x) h1)
  | indexAddr t x ix =>
    rw [hop] at h
    simp only [opI] at h
    obtain ⟨r, h1, h2⟩ := map_some h
    injection h2 with e1 e2; subst e1; subst e2
    exact Res.same hi (indexAddr_sound (hT.ev x) (hT.ev ix) h1)
  | index t x ix =>
    rw [hop] at h
    simp only [opI] at h
    obtain ⟨r, h1, h2⟩ := map_some h
    injection h2 with e1 e2; subst e1; subst e2
    exact Res.same hi (index_sound (hT.ev x) (hT.ev ix) h1)
  | extract x ix =>
    rw [hop] at h
    simp only [opI] at h
    split at h
    · rename_i xs hxs
      split at h
      · rename_i v' hv'
        injection h with h; injection h with e1 e2; subst e1; subst e2
        have hx := hT.ev x
        rw [hxs] at hx
        obtain ⟨vs, hv2, hl⟩ := tu_inv hx
        have hlt : ix < vs.size := by have := hl.1; have := (List.getElem?_eq_some_iff.1 hv').1; simp at *; omega
        refine Res.same hi ⟨vs[ix], ?_, hl.2 ix _ _ hv' (by simp [hlt])⟩
        rw [hv2]
        simp [Instr.extract, hlt]
      · cases h
    · cases h
  | _ => rw [hop] at h; cases h
end Go.Iv
set_option linter.unusedVariables false
set_option linter.unusedSimpArgs false
namespace Go.Iv
open Go.RowKit

theorem mapM_get {f : IV → Option IV} : ∀ (l ys : List IV), l.mapM f = some ys → ys.length = l.length ∧ ∀ (j : Nat) x, l[j]? = some x → ∃ y, f x = some y ∧ ys[j]? = some y
  | [], ys, h => by simp at h; subst h; exact ⟨rfl, fun j x hx => by simp at hx⟩
  | a :: l, ys, h => by
    rw [List.mapM_cons] at h
    cases ha : f a with
    | none => rw [ha] at h; cases h
    | some b =>
      cases hl : l.mapM f with
      | none => rw [ha, hl] at h; cases h
      | some bs =>
        rw [ha, hl] at h
        injection h with h
        subst h
        obtain ⟨h1, h2⟩ := mapM_get l bs hl
        refine ⟨by simp [h1], fun j x hx => ?_⟩
        cases j with
        | zero => simp at hx; subst hx; exact ⟨b, ha, rfl⟩
        | succ j => exact h2 j x (by simpa using hx)
theorem mapM_back {f : IV → Option IV} {l ys : List IV} (h : l.mapM f = some ys) {j : Nat} {y : IV} (hy : ys[j]? = some y) : ∃ x, l[j]? = some x ∧ f x = some y := by
  obtain ⟨h1, h2⟩ := mapM_get l ys h
  have hj : j < l.length := by rw [← h1]; exact (List.getElem?_eq_some_iff.1 hy).1
  obtain ⟨y', h3, h4⟩ := h2 j l[j] (List.getElem?_eq_getElem hj)
  rw [h4] at hy
  injection hy with hy
  subst hy
  exact ⟨_, List.getElem?_eq_getElem hj, h3⟩

/-- The registers' blocks, lent. -/
def CS.lent (s : CS) (R : List Reg) : CS := ⟨s.w, fun b => s.F b ∨ ∃ r ver o k, getR R r = ⟨ver, some o⟩ ∧ s.β r = some (b, k), s.β⟩
theorem lent_ext (s : CS) (R : List Reg) : Ext s [] (s.lent R) [] :=
  ⟨fun b hb => .inl hb, fun b hb => rfl, fun r => by rw [getR_nil]; exact ⟨Nat.le_refl _, fun _ => ⟨id, fun o ho => by cases ho⟩⟩⟩

theorem rd_sound {w0 : Base} {s : CS} {R : List Reg} (hi : Inv w0 s R) : ∀ (n : Nat) (x y : IV) (v : Value), rdI R n x = some y → Rel s R x v → Rel (s.lent R) [] y v := by
  have rf : ∀ r ver off len y v, (match liveR R r ver with | some o => if o.box then none else some (IV.sl none ((o.rows.drop off).take len)) | none => none) = some y → Rel s R (.rf r ver off len) v → Rel (s.lent R) [] y v := by
    intro r ver off len y v h hx
    split at h
    · rename_i o ho
      split at h
      · cases h
      · rename_i hbx
        injection h with h; subst h
        exact reg_sl hi (liveR_lv ho) (by simpa using hbx) hx (s1 := s.lent R) rfl (fun b hb => Or.inl hb) (fun b k hb => Or.inr ⟨r, ver, o, k, liveR_lv ho, hb⟩) []
    · cases h
  have pure : ∀ x y v, (if pureC x then some x else none) = some y → Rel s R x v → Rel (s.lent R) [] y v := by
    intro x y v h hx
    split at h
    · rename_i hp
      injection h with h; subst h
      exact (pureC_rel hx hp []).ext (lent_ext s R)
    · cases h
  intro n
  induction n with
  | zero =>
    intro x y v h hx
    cases x <;> simp only [rdI] at h <;> first | exact rf _ _ _ _ _ _ h hx | exact pure _ _ _ h hx
  | succ n ih =>
    intro x y v h hx
    cases x with
    | rf r ver off len => simp only [rdI] at h; exact rf _ _ _ _ _ _ h hx
    | pt r ver row col =>
      simp only [rdI] at h
      split at h
      · rename_i o ho
        split at h
        · rename_i cs hcs
          obtain ⟨ys, h1, h2⟩ := map_some h
          subst h2
          obtain ⟨b, k, hb, hl, rfl⟩ := hx.pt_inv (liveR_lv ho)
          refine .pi _ _ _ _ (fun j => (s.w.cell? ⟨b, row * o.sz + col + j, none⟩).getD undef) (.inr ⟨r, ver, o, k, liveR_lv ho, hb⟩) (fun j hj => ?_) (fun j x hxj => ?_)
          · have hyj : ys[j]? = some ys[j] := List.getElem?_eq_getElem hj
            obtain ⟨x0, hx0, _⟩ := mapM_back h1 hyj
            rw [List.getElem?_drop] at hx0
            obtain ⟨u, hu, _, _⟩ := reg_cell hi (liveR_lv ho) hb hcs hx0
            show s.w.cell? _ = _
            rw [show row * o.sz + col + j = row * o.sz + (col + j) by omega, hu]; rfl
          · obtain ⟨x0, hx0, hf⟩ := mapM_back h1 hxj
            rw [List.getElem?_drop] at hx0
            obtain ⟨u, hu, hrel, _⟩ := reg_cell hi (liveR_lv ho) hb hcs hx0
            rw [show row * o.sz + col + j = row * o.sz + (col + j) by omega, hu]
            exact ih x0 x u hf (hrel.box hi.ver)
        · cases h
      · cases h
    | ag xs =>
      simp only [rdI] at h
      obtain ⟨ys, h1, h2⟩ := map_some h
      subst h2
      obtain ⟨vs, rfl, hl⟩ := ag_inv hx
      refine .ag _ _ _ (by rw [(mapM_get _ _ h1).1]; simpa using hl.1) (fun j y u hy hu => ?_)
      obtain ⟨x0, hx0, hf⟩ := mapM_back h1 hy
      exact ih x0 y u hf (hl.2 j x0 u hx0 (by simpa using hu))
    | fn f az cs =>
      simp only [rdI] at h
      split at h
      · rename_i az' cs' h1 h2
        injection h with h; subst h
        obtain ⟨vs, us, rfl, hl, hl2⟩ := fn_inv hx
        refine .fn _ _ _ _ _ _ (by rw [(mapM_get _ _ h1).1]; simpa using hl.1) (by rw [(mapM_get _ _ h2).1]; simpa using hl2.1) (fun j y u hy hu => ?_) (fun j y u hy hu => ?_)
        · obtain ⟨x0, hx0, hf⟩ := mapM_back h1 hy
          exact ih x0 y u hf (hl.2 j x0 u hx0 (by simpa using hu))
        · obtain ⟨x0, hx0, hf⟩ := mapM_back h2 hy
          exact ih x0 y u hf (hl2.2 j x0 u hx0 (by simpa using hu))
      · cases h
    | _ => simp only [rdI] at h; exact pure _ _ _ h hx

theorem rdL_sound {w0 : Base} {s : CS} {R : List Reg} (hi : Inv w0 s R) {n : Nat} {xs ys : List IV} {vs : List Value} (h : xs.mapM (rdI R n) = some ys) (hx : RelL s R xs vs) : RelL (s.lent R) [] ys vs :=
  ⟨(mapM_get _ _ h).1.trans hx.1, fun j y v hy hv => by
    obtain ⟨x0, hx0, hf⟩ := mapM_back h hy
    exact rd_sound hi n x0 y v hf (hx.2 j x0 v hx0 hv)⟩

def Callable (P : Program) (f : FuncId) : Prop := ∃ fn, P.funcs[f]? = some fn ∧ (fn.name == "runtime.NumGoroutine") = false ∧ fn.body.isNone = false

/-- THE CONTRACT OF A CALL BY VALUES: f, called with what reads az xs, returns what reads az y (its own rows in 'Rr'); of what was there nothing is turned. al: the result may lead to what the arguments lead to. -/
structure PC (P : Program) (al : Bool) (f : FuncId) (xs : List IV) (y : IV) (Rr : List Reg) : Prop where
  cal : Callable P f
  run : ∀ (w : World) (F : Nat → Prop) (β : Nat → Option (Nat × Nat)) (vs : Array Value), (∀ b, F b → b < w.heap.size) → RelL ⟨w, F, β⟩ [] xs vs.toList →
    Calls P f vs w fun e w1 => ∃ v sc, e = .returned v ∧ sc.w = w1 ∧ Inv ⟨w, fun b => al = true ∧ F b, fun _ => none⟩ sc Rr ∧ Rel sc Rr y v

/-- THE CONTRACT OF A CALL WITH THE REGISTERS. -/
structure IC (P : Program) (f : FuncId) (xs : List IV) (R : List Reg) (y : IV) (R1 : List Reg) : Prop where
  cal : Callable P f
  run : ∀ (w0 : Base) (s : CS) (vs : Array Value), Inv w0 s R → RelL s R xs vs.toList →
    Calls P f vs s.w fun e w1 => ∃ v s1, e = .returned v ∧ s1.w = w1 ∧ Inv w0 s1 R1 ∧ Ext s R s1 R1 ∧ Rel s1 R1 y v

/-- A register is let go. -/
theorem Inv.drop {w0 : Base} {s : CS} {R : List Reg} (h : Inv w0 s R) {r ver : Nat} {o : Obj} (hr : lv R r ver o) : Inv w0 s (setR R r ⟨ver, none⟩) ∧ Ext s R s (setR R r ⟨ver, none⟩) := by
  have e : Ext s R s (setR R r ⟨ver, none⟩) := by
    refine ⟨fun q hq => hq, fun q hq => rfl, fun q => RegExt.set (g := ⟨ver, none⟩) (β := s.β) (β' := s.β) ?_ (fun _ _ => rfl) q⟩
    rw [show getR R r = ⟨ver, some o⟩ from hr]
    exact ⟨Nat.le_refl _, fun _ => ⟨fun _ => rfl, fun o1 ho1 => .inl rfl⟩⟩
  have get : ∀ q v1 o1, getR (setR R r ⟨ver, none⟩) q = ⟨v1, some o1⟩ → getR R q = ⟨v1, some o1⟩ ∧ q ≠ r := by
    intro q v1 o1 hq
    rw [getR_setR] at hq
    by_cases eq : q = r
    · rw [if_pos eq] at hq; cases hq
    · rw [if_neg eq] at hq; exact ⟨hq, eq⟩
  refine ⟨⟨h.below, h.fg, h.hF, fun q v2 o2 hq => ?_, fun q q' v1 o1 v2 o2 b2 k2 k2' hq hq' hb2 hb2' => h.inj q q' _ _ _ _ b2 k2 k2' (get _ _ _ hq).1 (get _ _ _ hq').1 hb2 hb2', h.ver.set r _ (fun _ => rfl), h.keep⟩, e⟩
  exact h.other e (get _ _ _ hq).1 rfl (fun b2 k2 hb2 => ⟨rfl, (h.blk_lt (get _ _ _ hq).1 hb2).2.1⟩)

/-- The caller's state and the callee's, at its end. -/
structure Imp (w0 wc : Base) (s : CS) (R : List Reg) (sc : CS) (Rr : List Reg) : Prop where
  w : s.w = sc.w
  F : ∀ b, sc.F b → s.F b
  hs : Inv w0 s R
  hc : Inv wc sc Rr
  dis : ∀ k ver o b c, getR Rr k = ⟨ver, some o⟩ → sc.β k = some (b, c) → ¬ s.F b ∧ w0.own b ∧ ∀ q v o' c', getR R q = ⟨v, some o'⟩ → s.β q ≠ some (b, c')

theorem Imp.ext0 {w0 wc : Base} {s sc : CS} {R Rr : List Reg} (h : Imp w0 wc s R sc Rr) : Ext sc [] s [] :=
  ⟨h.F, fun b _ => by rw [h.w], fun r => by rw [getR_nil]; exact ⟨Nat.le_refl _, fun _ => ⟨id, fun o ho => by cases ho⟩⟩⟩


/-- More is known that nobody will write; and the world may have grown. -/
theorem Inv.grow {w0 : Base} {s : CS} {R : List Reg} (h : Inv w0 s R) (w1 : World) (hbel : Below s.w.heap.size s.w w1) (G : Nat → Prop)
    (hG : ∀ b, G b → s.F b ∨ (b < w1.heap.size ∧ w0.own b ∧ ∀ q v o c, getR R q = ⟨v, some o⟩ → s.β q ≠ some (b, c))) :
    Inv w0 ⟨w1, fun b => s.F b ∨ G b, s.β⟩ R ∧ Ext s R ⟨w1, fun b => s.F b ∨ G b, s.β⟩ R := by
  have e : Ext s R ⟨w1, fun b => s.F b ∨ G b, s.β⟩ R := ⟨fun b hb => .inl hb, fun b hb => hbel.block b (h.hF b hb), fun q => RegExt.refl _ _⟩
  refine ⟨⟨h.below.trans (hbel.mono h.below.size), fun b hb => ?_, fun b hb => ?_, fun q v o hq => ?_, h.inj, h.ver, fun b o hb => ⟨(h.keepB hbel b o hb).1, fun q => q.elim (h.keep b o hb).2 (fun g => by
    rcases hG b g with k | k
    · exact (h.keep b o hb).2 k
    · have := k.2.1.2; rw [hb] at this; cases this)⟩⟩, e⟩
  · rcases hb with hb | hb
    · exact h.fg b hb
    · rcases hG b hb with k | k
      · exact h.fg b k
      · exact .inr k.2.1.1
  · rcases hb with hb | hb
    · exact Nat.lt_of_lt_of_le (h.hF b hb) hbel.size
    · rcases hG b hb with k | k
      · exact Nat.lt_of_lt_of_le (h.hF b k) hbel.size
      · exact k.1
  · refine h.other e hq rfl (fun b k hb => ⟨hbel.block b (h.blk_lt hq hb).1, ?_⟩)
    rintro (q1 | q1)
    · exact (h.blk_lt hq hb).2.1 q1
    · rcases hG b q1 with k1 | k1
      · exact (h.blk_lt hq hb).2.1 k1
      · exact k1.2.2 q v o k hq hb

theorem cutO_eq (o : Obj) (len : Nat) : cutO o len = { o with rows := o.rows.take len } := by
  unfold cutO
  split
  · rename_i h; subst h; rw [List.take_length]
  · rfl
theorem flatten_take : ∀ (rows : List (List IV)) (sz n : Nat), (∀ row ∈ rows, row.length = sz) → (rows.take n).flatten = rows.flatten.take (n * sz)
  | [], sz, n, h => by simp
  | row :: rows, sz, 0, h => by simp
  | row :: rows, sz, n + 1, h => by
    have h1 := h row (by simp)
    have e : (n + 1) * sz - sz = n * sz := by rw [Nat.succ_mul]; omega
    rw [List.take_succ_cons, List.flatten_cons, List.flatten_cons, flatten_take rows sz n (fun r hr => h r (by simp [hr])), List.take_append, h1, e]
    rw [List.take_of_length_le (l := row) (by rw [h1, Nat.succ_mul]; omega)]
theorem impC_sound {w0 wc : Base} {s sc : CS} {R Rr R1 Rr1 : List Reg} {l : List Nat} {x y : IV} {v : Value} (hI : Imp w0 wc s R sc Rr) (hx : Rel sc Rr x v) (h : impC l Rr R x = some (y, Rr1, R1)) :
    ∃ s1 sc1, Imp w0 wc s1 R1 sc1 Rr1 ∧ s1.w = s.w ∧ Ext s R s1 R1 ∧ Ext sc Rr sc1 Rr1 ∧ Rel s1 R1 y v := by
  unfold impC at h
  split at h
  · rename_i k ver off len
    split at h
    · rename_i o ho
      have hl := liveR_lv ho
      split at h
      · cases h
      · rename_i hc
        rw [not_or, not_or] at hc
        have hbx : o.box = false := by simpa using hc.1
        have hoff : off = 0 := by simpa using hc.2.1
        have hlen : len ≤ o.rows.length := by
          have := hc.2.2
          rw [not_and, Classical.not_not] at this
          by_cases e : o.rows.length = len
          · omega
          · exact this e
        subst hoff
        rw [cutO_eq] at h
        obtain ⟨d1, d2⟩ := hI.hc.drop hl
        split at h
        · -- into a register of ours
          rename_i g hg
          injection h with h; injection h with e1 e2; injection e2 with e2 e3
          subst e1; subst e2; subst e3
          have hadopt := hI.hs.adopt g { o with rows := o.rows.take len } s.w (sc.β k) (Below.refl _ _)
            (fun b c hb => by
              obtain ⟨q1, q2, q3⟩ := hI.dis k ver o b c hl hb
              obtain ⟨k1, k2, k3, k4, k5, cur, k6, k7, k8⟩ := (RegOK.some_ hb).1 (hI.hc.regs k ver o hl)
              refine ⟨q2, q1, fun q vv o' k' hq => q3 q vv o' k' hq, k3, by simp; omega, fun row hrow => k5 row (List.mem_of_mem_take hrow), cur, by rw [hI.w]; exact k6, k7, ?_⟩
              rw [hbx] at k8
              dsimp only
              rw [hbx]
              have e0 := RelL.ext k8 hI.ext0
              rw [flatten_take o.rows o.sz len k5]
              have e1 := e0.take (len * o.sz)
              rw [List.take_take] at e1
              rw [List.length_take, Nat.min_eq_left hlen]
              rwa [Nat.min_eq_left (Nat.mul_le_mul_right _ hlen)] at e1)
            (fun hb => by have := (RegOK.none_ hb).1 (hI.hc.regs k ver o hl); exact ⟨by dsimp only; rw [this.1]; simp, this.2⟩)
          refine ⟨⟨s.w, s.F, upd s.β g (sc.β k)⟩, sc, ⟨hI.w, hI.F, hadopt.1, d1, ?_⟩, rfl, hadopt.2, d2, ?_⟩
          · intro k' ver' o' b c hk' hb
            rw [getR_setR] at hk'
            by_cases ek : k' = k
            · rw [if_pos ek] at hk'; cases hk'
            · rw [if_neg ek] at hk'
              obtain ⟨q1, q2, q3⟩ := hI.dis k' ver' o' b c hk' hb
              refine ⟨q1, q2, fun q vv o2 c' hq hbq => ?_⟩
              change upd s.β g (sc.β k) q = _ at hbq
              unfold newR at hq
              rw [getR_setR] at hq
              by_cases eq : q = g
              · subst eq
                rw [upd_same] at hbq
                exact ek (hI.hc.inj k' k ver' o' ver o b c c' hk' hl hb hbq)
              · rw [if_neg eq] at hq
                rw [upd_other _ _ _ _ eq] at hbq
                exact q3 q vv o2 c' hq hbq
          · rcases hx.rf_inv hl with ⟨hbn, _, h0, A, rfl⟩ | ⟨b, c, hb, hle, rfl⟩
            · have := Rel.rfN (s := ⟨s.w, s.F, upd s.β g (sc.β k)⟩) (newR R g { o with rows := o.rows.take len }) g (verR R g) { o with rows := o.rows.take len } A (lv_new _ _ _) ((upd_same _ _ _).trans hbn)
              rw [h0] at this ⊢
              exact this
            · have := rf0 (s := ⟨s.w, s.F, upd s.β g (sc.β k)⟩) (len := len) (b := b) (k := c) (lv_new R g { o with rows := o.rows.take len }) ((upd_same _ _ _).trans hb) (by simp; omega)
              simpa using this
        · -- taken out
          injection h with h; injection h with e1 e2; injection e2 with e2 e3
          subst e1; subst e2; subst e3
          have gG := hI.hs.grow s.w (Below.refl _ _) (fun b => ∃ c, sc.β k = some (b, c)) (fun b ⟨c, hb⟩ => by
            obtain ⟨q1, q2, q3⟩ := hI.dis k ver o b c hl hb
            obtain ⟨k1, k2, k3, k4, k5, cur, k6, k7, k8⟩ := (RegOK.some_ hb).1 (hI.hc.regs k ver o hl)
            refine .inr ⟨?_, q2, fun q v o' c' => q3 q v o' c'⟩
            rw [hI.w]
            exact (Array.getElem?_eq_some_iff.1 k6).1)
          have gc := d1.grow sc.w (Below.refl _ _) (fun b => ∃ c, sc.β k = some (b, c)) (fun b ⟨c, hb⟩ => by
            obtain ⟨q1, q2, q3⟩ := hI.hc.blk_lt hl hb
            refine .inr ⟨q1, hI.hc.blk_own hl hb, fun q v o' c' hq hbq => ?_⟩
            rw [getR_setR] at hq
            by_cases ek : q = k
            · rw [if_pos ek] at hq; cases hq
            · rw [if_neg ek] at hq
              exact ek (hI.hc.inj q k v o' ver o b c' c hq hl hbq hb))
          have hrel : Rel ⟨sc.w, fun b => sc.F b ∨ ∃ c, sc.β k = some (b, c), sc.β⟩ [] (.sl none (o.rows.take len)) v := by
            have := reg_sl hI.hc hl hbx hx (s1 := ⟨sc.w, fun b => sc.F b ∨ ∃ c, sc.β k = some (b, c), sc.β⟩) rfl (fun b hb => Or.inl hb) (fun b k2 hb => Or.inr ⟨k2, hb⟩) []
            rwa [List.drop_zero] at this
          have hI1 : Imp w0 wc ⟨s.w, fun b => s.F b ∨ ∃ c, sc.β k = some (b, c), s.β⟩ R ⟨sc.w, fun b => sc.F b ∨ ∃ c, sc.β k = some (b, c), sc.β⟩ (setR Rr k ⟨ver, none⟩) := by
            refine ⟨hI.w, fun b hb => ?_, gG.1, gc.1, ?_⟩
            · rcases hb with hb | hb
              · exact .inl (hI.F b hb)
              · exact .inr hb
            · intro k' ver' o' b c hk' hb
              rw [getR_setR] at hk'
              by_cases ek : k' = k
              · rw [if_pos ek] at hk'; cases hk'
              · rw [if_neg ek] at hk'
                obtain ⟨q1, q2, q3⟩ := hI.dis k' ver' o' b c hk' hb
                refine ⟨?_, q2, q3⟩
                rintro (q | ⟨c', q⟩)
                · exact q1 q
                · exact ek (hI.hc.inj k' k ver' o' ver o b c c' hk' hl hb q)
          exact ⟨_, _, hI1, rfl, gG.2, d2.trans gc.2, (hrel.ext hI1.ext0).up R hI.hs.ver⟩
    · cases h
  · split at h
    · rename_i hp
      injection h with h; injection h with e1 e2; injection e2 with e2 e3
      subst e1; subst e2; subst e3
      exact ⟨s, sc, hI, rfl, Ext.refl _ _, Ext.refl _ _, ((pureC_rel hx hp []).ext hI.ext0).up R hI.hs.ver⟩
    · cases h

theorem impL_sound {w0 wc : Base} {l : List Nat} : ∀ (xs : List IV) {s sc : CS} {R Rr R1 : List Reg} {ys : List IV} {vs : List Value}, Imp w0 wc s R sc Rr → RelL sc Rr xs vs → impL l Rr R xs = some (ys, R1) →
    ∃ s1, Inv w0 s1 R1 ∧ s1.w = s.w ∧ Ext s R s1 R1 ∧ RelL s1 R1 ys vs
  | [], s, sc, R, Rr, R1, ys, vs, hI, hx, h => by
    simp only [impL] at h
    injection h with h; injection h with e1 e2; subst e1; subst e2
    have : vs = [] := List.length_eq_zero_iff.1 hx.1.symm
    subst this
    exact ⟨s, hI.hs, rfl, Ext.refl _ _, RelL.nil _ _⟩
  | x :: xs, s, sc, R, Rr, R1, ys, vs, hI, hx, h => by
    simp only [impL] at h
    split at h
    · rename_i y Rr1 R1' h1
      split at h
      · rename_i ys' R2 h2
        injection h with h; injection h with e1 e2; subst e1; subst e2
        obtain ⟨v, us, rfl, hv, hus⟩ := hx.uncons
        obtain ⟨s1, sc1, hI1, hw1, e1, ec1, hr1⟩ := impC_sound hI hv h1
        obtain ⟨s2, hi2, hw2, e2, hr2⟩ := impL_sound xs hI1 (hus.ext ec1) h2
        exact ⟨s2, hi2, hw2.trans hw1, e1.trans e2, RelL.cons (hr1.ext e2) hr2⟩
      · cases h
    · cases h

theorem impI_sound {w0 wc : Base} {l : List Nat} {x : IV} {s sc : CS} {R Rr R1 : List Reg} {y : IV} {v : Value} (hI : Imp w0 wc s R sc Rr) (hx : Rel sc Rr x v) (h : impI l Rr R x = some (y, R1)) :
    ∃ s1, Inv w0 s1 R1 ∧ s1.w = s.w ∧ Ext s R s1 R1 ∧ Rel s1 R1 y v := by
  unfold impI at h
  split at h
  · rename_i xs
    split at h
    · rename_i ys R2 h1
      injection h with h; injection h with e1 e2; subst e1; subst e2
      obtain ⟨vs, rfl, hl⟩ := ag_inv hx
      obtain ⟨s1, hi1, hw1, e1, hr1⟩ := impL_sound xs hI hl h1
      exact ⟨s1, hi1, hw1, e1, .ag _ _ _ (by simpa using hr1.1) (fun j x u hx hu => hr1.2 j x u hx (by simpa using hu))⟩
    · cases h
  · rename_i xs
    split at h
    · rename_i ys R2 h1
      injection h with h; injection h with e1 e2; subst e1; subst e2
      obtain ⟨vs, rfl, hl⟩ := tu_inv hx
      obtain ⟨s1, hi1, hw1, e1, hr1⟩ := impL_sound xs hI hl h1
      exact ⟨s1, hi1, hw1, e1, .tu _ _ _ (by simpa using hr1.1) (fun j x u hx hu => hr1.2 j x u hx (by simpa using hu))⟩
    · cases h
  · split at h
    · rename_i y' Rr' R1' h1
      injection h with h; injection h with e1 e2; subst e1; subst e2
      obtain ⟨s1, sc1, hI1, hw1, e1, ec1, hr1⟩ := impC_sound hI hx h1
      exact ⟨s1, hI1.hs, hw1, e1, hr1⟩
    · cases h

theorem pure_all {s : CS} {R : List Reg} {xs : List IV} {vs : List Value} (h : RelL s R xs vs) (hp : xs.all pureC = true) (R' : List Reg) : RelL s R' xs vs :=
  ⟨h.1, fun j x v hx hv => pureC_rel (h.2 j x v hx hv) (List.all_eq_true.1 hp x (List.mem_of_getElem? hx)) R'⟩


structure EnvOK (P : Program) (E : Env) : Prop where
  tys : E.tys = tysOf P
  pc : ∀ al f xs y Rr, E.pc al f xs y Rr → PC P al f xs y Rr
  ic : ∀ f xs R y R1, E.ic f xs R y R1 → IC P f xs R y R1

/-- A call by values. -/
theorem callP_sound {P : Program} {E : Env} {w0 : Base} {s : CS} {R : List Reg} {an : An} {f : FuncId} {xs : List IV} {vs : Array Value} {K : IV → List Reg → Prop} {tok : Tok K}
    (hE : EnvOK P E) (hi : Inv w0 s R) (hx : RelL s R xs vs.toList) (h : callP E an f xs R K tok) :
    Callable P f ∧ Calls P f vs s.w fun e w1 => ∃ v s1 y R1, e = .returned v ∧ s1.w = w1 ∧ Inv w0 s1 R1 ∧ Ext s R s1 R1 ∧ Rel s1 R1 y v ∧ K y R1 := by
  unfold callP onO at h
  split at h
  · rename_i p hp
    obtain ⟨y, Rr, h1, h2⟩ := h
    split at h2
    · rename_i q hq
      have go : ∀ (F : Nat → Prop) (al : Bool), (∀ b, F b → b < s.w.heap.size) → (∀ b, al = true → F b → s.F b) → PC P al f p.2 y Rr → RelL ⟨s.w, F, s.β⟩ [] p.2 vs.toList →
          Callable P f ∧ Calls P f vs s.w fun e w1 => ∃ v s1 y R1, e = .returned v ∧ s1.w = w1 ∧ Inv w0 s1 R1 ∧ Ext s R s1 R1 ∧ Rel s1 R1 y v ∧ K y R1 := by
        intro F al hF hal hpc hrel
        refine ⟨hpc.1, Calls.mono (hpc.2 s.w F s.β vs hF hrel) ?_⟩
        rintro e w1 ⟨v, sc, rfl, hw, hic, hv⟩
        have hbel : Below s.w.heap.size s.w w1 := hw ▸ hic.below
        have g := hi.grow w1 hbel sc.F (fun b hb => by
          rcases hic.fg b hb with k | k
          · exact .inl (hal b k.1 k.2)
          · refine .inr ⟨hw ▸ hic.hF b hb, hi.newOwn k, fun q v o c hq hb => ?_⟩
            have := (hi.blk_lt hq hb).1
            have k' : s.w.heap.size ≤ b := k
            omega)
        have hI : Imp w0 ⟨s.w, fun b => al = true ∧ F b, fun _ => none⟩ ⟨w1, fun b => s.F b ∨ sc.F b, s.β⟩ R sc Rr := by
          refine ⟨hw.symm, fun b hb => .inr hb, g.1, hic, ?_⟩
          intro k ver o b c hk hb
          obtain ⟨q1, q2, q3⟩ := hic.blk_lt hk hb
          have q3' : s.w.heap.size ≤ b := q3
          refine ⟨?_, hi.newOwn q3', fun q v o' c' hq hbq => ?_⟩
          · rintro (z | z)
            · have := hi.hF b z; omega
            · exact q2 z
          · have := (hi.blk_lt hq hbq).1; omega
        obtain ⟨s1, j1, j2, j3, j4⟩ := impI_sound hI hv hq
        exact ⟨v, s1, q.1, q.2, rfl, j2, j1, g.2.trans j3, j4, h2⟩
      unfold argsI at hp
      split at hp
      · rename_i hpure
        injection hp with hp; subst hp
        exact go s.F true hi.hF (fun _ _ hb => hb) (hE.pc _ _ _ _ _ h1) (pure_all hx hpure [])
      · obtain ⟨ys, k1, k2⟩ := map_some hp
        subst k2
        refine go (s.lent R).F false (fun b hb => ?_) (fun _ e => by cases e) (hE.pc _ _ _ _ _ h1) (rdL_sound hi k1 hx)
        rcases hb with hb | ⟨r, ver, o, k, hr, hb⟩
        · exact hi.hF b hb
        · exact (hi.blk_lt hr hb).1
    · exact h2.elim
  · exact h.elim

/-- A call, of either kind. -/
theorem callW_sound {P : Program} {E : Env} {w0 : Base} {s : CS} {R : List Reg} {an : An} {f : FuncId} {xs : List IV} {vs : Array Value} {K : IV → List Reg → Prop} {tok : Tok K}
    (hE : EnvOK P E) (hi : Inv w0 s R) (hx : RelL s R xs vs.toList) (h : callW E an f xs R K tok) :
    Callable P f ∧ Calls P f vs s.w fun e w1 => ∃ v s1 y R1, e = .returned v ∧ s1.w = w1 ∧ Inv w0 s1 R1 ∧ Ext s R s1 R1 ∧ Rel s1 R1 y v ∧ K y R1 := by
  have hc : ∀ {tok : Tok K}, callC E f xs R K tok → Callable P f ∧ Calls P f vs s.w fun e w1 => ∃ v s1 y R1, e = .returned v ∧ s1.w = w1 ∧ Inv w0 s1 R1 ∧ Ext s R s1 R1 ∧ Rel s1 R1 y v ∧ K y R1 := by
    rintro _ ⟨y, R1, h1, h2⟩
    obtain ⟨k1, k2⟩ := hE.ic _ _ _ _ _ h1
    refine ⟨k1, Calls.mono (k2 w0 s vs hi hx) ?_⟩
    rintro e w1 ⟨v, s1, j1, j2, j3, j4, j5⟩
    exact ⟨v, s1, y, R1, j1, j2, j3, j4, j5, h2⟩
  unfold callW at h
  split at h
  · exact hc h
  · exact callP_sound hE hi hx h
end Go.Iv
set_option linter.unusedVariables false
set_option linter.unusedSimpArgs false
namespace Go.Iv
variable {H : Type} (enc : TypeId × Value → H) (P : Program) (w : World) (base : Nat) (spare : Nat → Bool) (held : Bool)
/-- What came in, as the ideal state tells it: every block that is there is left alone. -/
abbrev cs0 (w : World) : CS := ⟨w, fun b => b < w.heap.size, fun _ => none⟩
/-- What lies at a type's place is told by cells of this form. -/
def Opn (t : TypeId) (Q : List IV → Prop) : Prop := ∀ fuel cs x, DataW.trod enc P w base spare held fuel t cs = some x → ∃ xs, Q xs ∧ RelL (cs0 w) [] xs cs
variable {enc P w base spare held}
theorem opn_int {t : TypeId} {k : IntKind} (ht : P.underlying t = some (.int k)) : Opn enc P w base spare held t (fun xs => ∃ n, xs = [.i k n]) := by
  intro fuel cs x h
  obtain ⟨n, rfl, _, _⟩ := DataW.trod_int ht h
  exact ⟨_, ⟨n, rfl⟩, .cons (.i _ _ _) ⟨rfl, fun j x v h => by simp at h⟩⟩
theorem list_of_each {α : Type} {Pr : Nat → α → Prop} : ∀ n : Nat, (∀ i, i < n → ∃ r, Pr i r) → ∃ rows : List α, rows.length = n ∧ ∀ i r, rows[i]? = some r → Pr i r
  | 0, _ => ⟨[], rfl, fun i r h => by simp at h⟩
  | n + 1, h => by
    obtain ⟨rows, h1, h2⟩ := list_of_each n (fun i hi => h i (by omega))
    obtain ⟨r, hr⟩ := h n (by omega)
    refine ⟨rows ++ [r], by simp [h1], fun i x hx => ?_⟩
    by_cases hi : i < n
    · rw [List.getElem?_append_left (by omega)] at hx
      exact h2 i x hx
    · have hin : i = n := by
        have := (List.getElem?_eq_some_iff.1 hx).1
        simp [h1] at this
        omega
      subst hin
      rw [List.getElem?_append_right (by omega), h1] at hx
      simp at hx
      subst hx
      exact hr
theorem opn_slice {t e : TypeId} {Q : List IV → Prop} (ht : P.underlying t = some (.slice e)) (hsz : 0 < P.cellsOf e) (he : Opn enc P w base spare held e Q) :
    Opn enc P w base spare held t (fun xs => ∃ rows, (∀ r ∈ rows, Q r) ∧ xs = [.sl none rows]) := by
  intro fuel cs x h
  rcases DataW.trod_slice ht h with ⟨rfl, _⟩ | ⟨a, len, cap, elems, rest, n, _, rfl, _, hb, hl, hm, hlen, hel, _, _⟩
  · exact ⟨_, ⟨[], by simp, rfl⟩, .cons (.slN _ _ (by simp)) ⟨rfl, fun j x v h => by simp at h⟩⟩
  · rcases Nat.eq_zero_or_pos len with h0 | h0
    · subst h0
      exact ⟨_, ⟨[], by simp, rfl⟩, .cons (.slE _ _ _ _ (by simp)) ⟨rfl, fun j x v h => by simp at h⟩⟩
    · have each : ∀ i, i < len → ∃ r : List IV × List Value, Q r.1 ∧ RelL (cs0 w) [] r.1 r.2 ∧ r.2.length = P.cellsOf e ∧ ∀ j, j < P.cellsOf e → w.cell? ((a.add (i * P.cellsOf e)).add j) = r.2[j]? := by
        intro i hi
        have hi1 := hel i hi
        rw [List.getElem?_eq_getElem (by omega), Option.bind_eq_some_iff] at hi1
        obtain ⟨cs', hcs, hy⟩ := hi1
        obtain ⟨xs, hq, hr⟩ := he _ _ _ hy
        obtain ⟨_, h2, h3⟩ := World.cells?_some hcs
        exact ⟨(xs, cs'), hq, hr, h2, h3⟩
      obtain ⟨rows, hrl, hrows⟩ := list_of_each len each
      obtain ⟨blk, off, spot⟩ := a
      have spotN : spot = none := by
        obtain ⟨r, hr⟩ : ∃ r, rows[0]? = some r := ⟨_, List.getElem?_eq_getElem (by omega)⟩
        obtain ⟨_, _, h3, h4⟩ := hrows 0 r hr
        have h5 := h4 0 hsz
        rw [List.getElem?_eq_getElem (by omega), Nat.zero_mul] at h5
        unfold Addr.add at h5
        rw [if_pos rfl, if_pos rfl] at h5
        unfold World.cell? at h5
        cases hh : w.heap[blk]? with
        | none => rw [hh] at h5; cases h5
        | some o =>
          rw [hh] at h5
          cases o with
          | cells c _ _ =>
            cases spot with
            | none => rfl
            | some _ => simp at h5
          | _ => cases h5
      subst spotN
      have cellAt : ∀ i j, i < len → j < P.cellsOf e → ∃ v, w.cell? ⟨blk, off + (i * P.cellsOf e + j), none⟩ = some v ∧ ∀ r, rows[i]? = some r → r.2[j]? = some v := by
        intro i j hi hj
        obtain ⟨r, hr⟩ : ∃ r, rows[i]? = some r := ⟨_, List.getElem?_eq_getElem (by omega)⟩
        obtain ⟨_, _, h3, h4⟩ := hrows i r hr
        have h5 := h4 j hj
        have hj2 : j < r.2.length := by omega
        rw [List.getElem?_eq_getElem hj2] at h5
        refine ⟨r.2[j], ?_, fun r' hr' => by rw [hr] at hr'; cases hr'; exact List.getElem?_eq_getElem hj2⟩
        rw [← h5]
        unfold Addr.add
        by_cases e1 : i * P.cellsOf e = 0
        · by_cases e2 : j = 0
          · subst e2; rw [if_pos e1, if_pos rfl, e1]; rfl
          · rw [if_pos e1, if_neg e2, e1, Nat.zero_add]
        · by_cases e2 : j = 0
          · subst e2; rw [if_neg e1, if_pos rfl, Nat.add_zero]
          · rw [if_neg e1, if_neg e2, Nat.add_assoc]
      have hblk : blk < w.heap.size := by
        obtain ⟨v, h1, _⟩ := cellAt 0 0 h0 hsz
        unfold World.cell? at h1
        cases hh : w.heap[blk]? with
        | none => rw [hh] at h1; cases h1
        | some o => exact (Array.getElem?_eq_some_iff.1 hh).1
      refine ⟨[.sl none (rows.map (·.1))], ⟨rows.map (·.1), fun r hr => ?_, rfl⟩, ?_⟩
      · obtain ⟨q, hq, rfl⟩ := List.mem_map.1 hr
        obtain ⟨i, hi⟩ := List.getElem?_of_mem hq
        exact (hrows i q hi).1
      · have hlen' : (rows.map (·.1)).length = len := by simp [hrl]
        have key := Rel.sl (s := cs0 w) [] none (rows.map (·.1)) blk off cap (P.cellsOf e)
          (fun i j => (w.cell? ⟨blk, off + (i * P.cellsOf e + j), none⟩).getD (.bool false)) (by simp) hblk (by rw [hlen']; exact hl)
          (fun r hr => by
            obtain ⟨q, hq, rfl⟩ := List.mem_map.1 hr
            obtain ⟨i, hi⟩ := List.getElem?_of_mem hq
            obtain ⟨_, h2, h3, _⟩ := hrows i q hi
            rw [h2.1, h3])
          (fun i j hi hj => by
            rw [hlen'] at hi
            obtain ⟨v, h1, _⟩ := cellAt i j hi hj
            show w.cell? _ = _
            rw [h1]; rfl)
          (fun i j x hx => by
            unfold rowAt at hx
            rw [List.getElem?_map] at hx
            cases hr : rows[i]? with
            | none => rw [hr] at hx; cases hx
            | some r =>
              rw [hr] at hx
              have hx' : r.1[j]? = some x := hx
              have hi : i < len := by have := (List.getElem?_eq_some_iff.1 hr).1; omega
              obtain ⟨_, h2, h3, _⟩ := hrows i r hr
              have hj : j < P.cellsOf e := by have := (List.getElem?_eq_some_iff.1 hx').1; rw [h2.1, h3] at this; exact this
              obtain ⟨v, h4, h5⟩ := cellAt i j hi hj
              rw [h4]
              exact h2.2 j x v hx' (h5 r hr))
        rw [hlen'] at key
        exact .cons key ⟨rfl, fun j x v h => by simp at h⟩
theorem opn_struct1 {t : TypeId} {f : Field} {Q : List IV → Prop} (ht : P.underlying t = some (.struct #[f])) (hc : P.cellsOf t = P.cellsOf f.type) (ho : f.offset = 0) (h0 : Opn enc P w base spare held f.type Q) :
    Opn enc P w base spare held t Q := by
  intro fuel cs x h
  obtain ⟨xs, n, _, _, hl, hx, hf⟩ := DataW.trod_struct ht h
  have h1 := hf 0 f rfl
  rw [ho, List.drop_zero, List.take_of_length_le (by omega)] at h1
  have hxl : xs.length = 1 := hx
  rw [List.getElem?_eq_getElem (by omega)] at h1
  exact h0 _ _ _ h1
theorem RelL.app {s : CS} {R : List Reg} {xs ys : List IV} {vs us : List Value} (h : RelL s R xs vs) (k : RelL s R ys us) : RelL s R (xs ++ ys) (vs ++ us) := by
  refine ⟨by simp [h.1, k.1], fun j x v hx hv => ?_⟩
  by_cases hj : j < xs.length
  · rw [List.getElem?_append_left hj] at hx
    rw [List.getElem?_append_left (by rw [← h.1]; exact hj)] at hv
    exact h.2 j x v hx hv
  · rw [List.getElem?_append_right (by omega)] at hx
    rw [List.getElem?_append_right (by rw [← h.1]; omega), ← h.1] at hv
    exact k.2 _ x v hx hv
theorem opn_struct4 {t : TypeId} {f0 f1 f2 f3 : Field} {Q0 Q1 Q2 Q3 : List IV → Prop} (ht : P.underlying t = some (.struct #[f0, f1, f2, f3])) (hc : P.cellsOf t = 4)
    (o0 : f0.offset = 0) (o1 : f1.offset = 1) (o2 : f2.offset = 2) (o3 : f3.offset = 3) (c0 : P.cellsOf f0.type = 1) (c1 : P.cellsOf f1.type = 1) (c2 : P.cellsOf f2.type = 1) (c3 : P.cellsOf f3.type = 1)
    (h0 : Opn enc P w base spare held f0.type Q0) (h1 : Opn enc P w base spare held f1.type Q1) (h2 : Opn enc P w base spare held f2.type Q2) (h3 : Opn enc P w base spare held f3.type Q3) :
    Opn enc P w base spare held t (fun xs => ∃ x0 x1 x2 x3, Q0 x0 ∧ Q1 x1 ∧ Q2 x2 ∧ Q3 x3 ∧ xs = x0 ++ (x1 ++ (x2 ++ x3))) := by
  intro fuel cs x h
  obtain ⟨xs, n, _, _, hl, hx, hf⟩ := DataW.trod_struct ht h
  have hxl : xs.length = 4 := hx
  have k0 := hf 0 f0 rfl
  have k1 := hf 1 f1 rfl
  have k2 := hf 2 f2 rfl
  have k3 := hf 3 f3 rfl
  rw [hc] at hl
  obtain ⟨a0, a1, a2, a3, rfl⟩ : ∃ a0 a1 a2 a3, cs = [a0, a1, a2, a3] := by
    match cs, hl with
    | [a0, a1, a2, a3], _ => exact ⟨a0, a1, a2, a3, rfl⟩
  rw [o0, c0, List.getElem?_eq_getElem (by omega)] at k0
  rw [o1, c1, List.getElem?_eq_getElem (by omega)] at k1
  rw [o2, c2, List.getElem?_eq_getElem (by omega)] at k2
  rw [o3, c3, List.getElem?_eq_getElem (by omega)] at k3
  obtain ⟨x0, q0, r0⟩ := h0 _ _ _ k0
  obtain ⟨x1, q1, r1⟩ := h1 _ _ _ k1
  obtain ⟨x2, q2, r2⟩ := h2 _ _ _ k2
  obtain ⟨x3, q3, r3⟩ := h3 _ _ _ k3
  exact ⟨_, ⟨x0, x1, x2, x3, q0, q1, q2, q3, rfl⟩, r0.app (r1.app (r2.app r3))⟩
end Go.Iv
