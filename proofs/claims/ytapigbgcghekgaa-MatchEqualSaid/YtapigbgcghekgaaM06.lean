import Derived.Test.YtapigbgcghekgaaM01
import Derived.Test.YtapigbgcghekgaaProg
import Derived.KernelRfl
import Derived.Test.YtapigbgcghekgaaM05
import Derived.Orders
set_option linter.unusedVariables false
set_option linter.unusedSimpArgs false
set_option maxRecDepth 100000
namespace Go.Proofs
open Go.Iv
def tysL : Tys := [
 { k := .other, size := 1, bytes := 0, zero := [.un] },
 { k := .fun_, size := 1, bytes := 8, zero := [.nf] },
 { k := .int .i64, size := 1, bytes := 8, zero := [.i .i64 0] },
 { k := .int .i64, size := 1, bytes := 8, zero := [.i .i64 0] },
 { k := .bool, size := 1, bytes := 1, zero := [.b false] },
 { k := .int .u8, size := 1, bytes := 1, zero := [.i .u8 0] },
 { k := .int .u8, size := 1, bytes := 1, zero := [.i .u8 0] },
 { k := .struct [(0, 2), (1, 3), (2, 4), (3, 6)], size := 4, bytes := 24, zero := [.i .i64 0, .i .i64 0, .b false, .i .u8 0] },
 { k := .struct [(0, 2), (1, 3), (2, 4), (3, 6)], size := 4, bytes := 24, zero := [.i .i64 0, .i .i64 0, .b false, .i .u8 0] },
 { k := .str, size := 1, bytes := 16, zero := [.s ⟨#[]⟩] },
 { k := .str, size := 1, bytes := 16, zero := [.s ⟨#[]⟩] },
 { k := .str, size := 1, bytes := 16, zero := [.s ⟨#[]⟩] },
 { k := .int .u64, size := 1, bytes := 8, zero := [.i .u64 0] },
 { k := .struct [(0, 9), (1, 12)], size := 2, bytes := 24, zero := [.s ⟨#[]⟩, .i .u64 0] },
 { k := .struct [(0, 9), (1, 12)], size := 2, bytes := 24, zero := [.s ⟨#[]⟩, .i .u64 0] },
 { k := .ptr 134, size := 1, bytes := 8, zero := [.np] },
 { k := .ptr 137, size := 1, bytes := 8, zero := [.np] },
 { k := .ptr 147, size := 1, bytes := 8, zero := [.np] },
 { k := .struct [(0, 17)], size := 1, bytes := 8, zero := [.np] },
 { k := .struct [(0, 17)], size := 1, bytes := 8, zero := [.np] },
 { k := .other, size := 1, bytes := 16, zero := [.un] },
 { k := .int .i32, size := 1, bytes := 4, zero := [.i .i32 0] },
 { k := .slice 33, size := 1, bytes := 24, zero := [.sl (some true) []] },
 { k := .struct [(0, 22)], size := 1, bytes := 24, zero := [.sl (some true) []] },
 { k := .struct [(0, 22)], size := 1, bytes := 24, zero := [.sl (some true) []] },
 { k := .fun_, size := 1, bytes := 8, zero := [.nf] },
 { k := .fun_, size := 1, bytes := 8, zero := [.nf] },
 { k := .fun_, size := 1, bytes := 8, zero := [.nf] },
 { k := .fun_, size := 1, bytes := 8, zero := [.nf] },
 { k := .fun_, size := 1, bytes := 8, zero := [.nf] },
 { k := .ptr 33, size := 1, bytes := 8, zero := [.np] },
 { k := .slice 39, size := 1, bytes := 24, zero := [.sl (some true) []] },
 { k := .struct [(0, 31)], size := 1, bytes := 24, zero := [.sl (some true) []] },
 { k := .struct [(0, 31)], size := 1, bytes := 24, zero := [.sl (some true) []] },
 { k := .int .u64, size := 1, bytes := 8, zero := [.i .u64 0] },
 { k := .ptr 39, size := 1, bytes := 8, zero := [.np] },
 { k := .slice 3, size := 1, bytes := 24, zero := [.sl (some true) []] },
 { k := .slice 5, size := 1, bytes := 24, zero := [.sl (some true) []] },
 { k := .struct [(0, 36), (1, 3), (2, 36), (3, 37)], size := 4, bytes := 80, zero := [.sl (some true) [], .i .i64 0, .sl (some true) [], .sl (some true) []] },
 { k := .struct [(0, 36), (1, 3), (2, 36), (3, 37)], size := 4, bytes := 80, zero := [.sl (some true) [], .i .i64 0, .sl (some true) [], .sl (some true) []] },
 { k := .fun_, size := 1, bytes := 8, zero := [.nf] },
 { k := .fun_, size := 1, bytes := 8, zero := [.nf] },
 { k := .fun_, size := 1, bytes := 8, zero := [.nf] },
 { k := .fun_, size := 1, bytes := 8, zero := [.nf] },
 { k := .fun_, size := 1, bytes := 8, zero := [.nf] },
 { k := .fun_, size := 1, bytes := 8, zero := [.nf] },
 { k := .slice 49, size := 1, bytes := 24, zero := [.sl (some true) []] },
 { k := .fun_, size := 1, bytes := 8, zero := [.nf] },
 { k := .struct [(0, 36), (1, 9), (2, 3), (3, 36)], size := 4, bytes := 72, zero := [.sl (some true) [], .s ⟨#[]⟩, .i .i64 0, .sl (some true) []] },
 { k := .struct [(0, 36), (1, 9), (2, 3), (3, 36)], size := 4, bytes := 72, zero := [.sl (some true) [], .s ⟨#[]⟩, .i .i64 0, .sl (some true) []] },
 { k := .fun_, size := 1, bytes := 8, zero := [.nf] },
 { k := .other, size := 1, bytes := 0, zero := [.un] },
 { k := .fun_, size := 1, bytes := 8, zero := [.nf] },
 { k := .fun_, size := 1, bytes := 8, zero := [.nf] },
 { k := .fun_, size := 1, bytes := 8, zero := [.nf] },
 { k := .fun_, size := 1, bytes := 8, zero := [.nf] },
 { k := .fun_, size := 1, bytes := 8, zero := [.nf] },
 { k := .fun_, size := 1, bytes := 8, zero := [.nf] },
 { k := .fun_, size := 1, bytes := 8, zero := [.nf] },
 { k := .other, size := 1, bytes := 0, zero := [.un] },
 { k := .fun_, size := 1, bytes := 8, zero := [.nf] },
 { k := .fun_, size := 1, bytes := 8, zero := [.nf] },
 { k := .other, size := 1, bytes := 0, zero := [.un] },
 { k := .fun_, size := 1, bytes := 8, zero := [.nf] },
 { k := .slice 68, size := 1, bytes := 24, zero := [.sl (some true) []] },
 { k := .other, size := 1, bytes := 0, zero := [.un] },
 { k := .fun_, size := 1, bytes := 8, zero := [.nf] },
 { k := .fun_, size := 1, bytes := 8, zero := [.nf] },
 { k := .slice 80, size := 1, bytes := 24, zero := [.sl (some true) []] },
 { k := .fun_, size := 1, bytes := 8, zero := [.nf] },
 { k := .fun_, size := 1, bytes := 8, zero := [.nf] },
 { k := .fun_, size := 1, bytes := 8, zero := [.nf] },
 { k := .fun_, size := 1, bytes := 8, zero := [.nf] },
 { k := .fun_, size := 1, bytes := 8, zero := [.nf] },
 { k := .fun_, size := 1, bytes := 8, zero := [.nf] },
 { k := .fun_, size := 1, bytes := 8, zero := [.nf] },
 { k := .other, size := 1, bytes := 0, zero := [.un] },
 { k := .fun_, size := 1, bytes := 8, zero := [.nf] },
 { k := .fun_, size := 1, bytes := 8, zero := [.nf] },
 { k := .struct [(0, 39), (4, 36)], size := 5, bytes := 104, zero := [.sl (some true) [], .i .i64 0, .sl (some true) [], .sl (some true) [], .sl (some true) []] },
 { k := .struct [(0, 39), (4, 36)], size := 5, bytes := 104, zero := [.sl (some true) [], .i .i64 0, .sl (some true) [], .sl (some true) [], .sl (some true) []] },
 { k := .fun_, size := 1, bytes := 8, zero := [.nf] },
 { k := .fun_, size := 1, bytes := 8, zero := [.nf] },
 { k := .fun_, size := 1, bytes := 8, zero := [.nf] },
 { k := .fun_, size := 1, bytes := 8, zero := [.nf] },
 { k := .fun_, size := 1, bytes := 8, zero := [.nf] },
 { k := .fun_, size := 1, bytes := 8, zero := [.nf] },
 { k := .fun_, size := 1, bytes := 8, zero := [.nf] },
 { k := .slice 36, size := 1, bytes := 24, zero := [.sl (some true) []] },
 { k := .fun_, size := 1, bytes := 8, zero := [.nf] },
 { k := .fun_, size := 1, bytes := 8, zero := [.nf] },
 { k := .fun_, size := 1, bytes := 8, zero := [.nf] },
 { k := .fun_, size := 1, bytes := 8, zero := [.nf] },
 { k := .other, size := 1, bytes := 0, zero := [.un] },
 { k := .fun_, size := 1, bytes := 8, zero := [.nf] },
 { k := .fun_, size := 1, bytes := 8, zero := [.nf] },
 { k := .slice 107, size := 1, bytes := 24, zero := [.sl (some true) []] },
 { k := .fun_, size := 1, bytes := 8, zero := [.nf] },
 { k := .fun_, size := 1, bytes := 8, zero := [.nf] },
 { k := .fun_, size := 1, bytes := 8, zero := [.nf] },
 { k := .fun_, size := 1, bytes := 8, zero := [.nf] },
 { k := .fun_, size := 1, bytes := 8, zero := [.nf] },
 { k := .fun_, size := 1, bytes := 8, zero := [.nf] },
 { k := .fun_, size := 1, bytes := 8, zero := [.nf] },
 { k := .fun_, size := 1, bytes := 8, zero := [.nf] },
 { k := .fun_, size := 1, bytes := 8, zero := [.nf] },
 { k := .struct [(0, 3), (1, 3), (2, 3)], size := 3, bytes := 24, zero := [.i .i64 0, .i .i64 0, .i .i64 0] },
 { k := .struct [(0, 3), (1, 3), (2, 3)], size := 3, bytes := 24, zero := [.i .i64 0, .i .i64 0, .i .i64 0] },
 { k := .fun_, size := 1, bytes := 8, zero := [.nf] },
 { k := .fun_, size := 1, bytes := 8, zero := [.nf] },
 { k := .slice 112, size := 1, bytes := 24, zero := [.sl (some true) []] },
 { k := .fun_, size := 1, bytes := 8, zero := [.nf] },
 { k := .arr 3 3, size := 3, bytes := 24, zero := [.i .i64 0, .i .i64 0, .i .i64 0] },
 { k := .fun_, size := 1, bytes := 8, zero := [.nf] },
 { k := .fun_, size := 1, bytes := 8, zero := [.nf] },
 { k := .fun_, size := 1, bytes := 8, zero := [.nf] },
 { k := .fun_, size := 1, bytes := 8, zero := [.nf] },
 { k := .struct [(0, 3), (1, 36)], size := 2, bytes := 32, zero := [.i .i64 0, .sl (some true) []] },
 { k := .struct [(0, 3), (1, 36)], size := 2, bytes := 32, zero := [.i .i64 0, .sl (some true) []] },
 { k := .slice 118, size := 1, bytes := 24, zero := [.sl (some true) []] },
 { k := .fun_, size := 1, bytes := 8, zero := [.nf] },
 { k := .fun_, size := 1, bytes := 8, zero := [.nf] },
 { k := .slice 125, size := 1, bytes := 24, zero := [.sl (some true) []] },
 { k := .fun_, size := 1, bytes := 8, zero := [.nf] },
 { k := .struct [(0, 3), (1, 9), (2, 9)], size := 3, bytes := 40, zero := [.i .i64 0, .s ⟨#[]⟩, .s ⟨#[]⟩] },
 { k := .struct [(0, 3), (1, 9), (2, 9)], size := 3, bytes := 40, zero := [.i .i64 0, .s ⟨#[]⟩, .s ⟨#[]⟩] },
 { k := .fun_, size := 1, bytes := 8, zero := [.nf] },
 { k := .fun_, size := 1, bytes := 8, zero := [.nf] },
 { k := .fun_, size := 1, bytes := 8, zero := [.nf] },
 { k := .other, size := 1, bytes := 0, zero := [.un] },
 { k := .fun_, size := 1, bytes := 8, zero := [.nf] },
 { k := .fun_, size := 1, bytes := 8, zero := [.nf] },
 { k := .fun_, size := 1, bytes := 8, zero := [.nf] },
 { k := .struct [(0, 17), (1, 17), (2, 17), (3, 9)], size := 4, bytes := 40, zero := [.np, .np, .np, .s ⟨#[]⟩] },
 { k := .struct [(0, 17), (1, 17), (2, 17), (3, 9)], size := 4, bytes := 40, zero := [.np, .np, .np, .s ⟨#[]⟩] },
 { k := .arr 0 16, size := 0, bytes := 0, zero := [] },
 { k := .struct [(0, 135)], size := 0, bytes := 0, zero := [] },
 { k := .struct [(0, 135)], size := 0, bytes := 0, zero := [] },
 { k := .fun_, size := 1, bytes := 8, zero := [.nf] },
 { k := .int .u32, size := 1, bytes := 4, zero := [.i .u32 0] },
 { k := .int .u8, size := 1, bytes := 1, zero := [.i .u8 0] },
 { k := .int .u8, size := 1, bytes := 1, zero := [.i .u8 0] },
 { k := .fun_, size := 1, bytes := 8, zero := [.nf] },
 { k := .ptr 5, size := 1, bytes := 8, zero := [.np] },
 { k := .int .i32, size := 1, bytes := 4, zero := [.i .i32 0] },
 { k := .int .i32, size := 1, bytes := 4, zero := [.i .i32 0] },
 { k := .struct [(0, 12), (1, 12), (2, 139), (3, 140), (4, 5), (5, 5), (6, 141), (7, 142), (8, 143), (9, 144), (10, 145)], size := 11, bytes := 48, zero := [.i .u64 0, .i .u64 0, .i .u32 0, .i .u8 0, .i .u8 0, .i .u8 0, .i .u8 0, .nf, .np, .i .i32 0, .i .i32 0] },
 { k := .struct [(0, 12), (1, 12), (2, 139), (3, 140), (4, 5), (5, 5), (6, 141), (7, 142), (8, 143), (9, 144), (10, 145)], size := 11, bytes := 48, zero := [.i .u64 0, .i .u64 0, .i .u32 0, .i .u8 0, .i .u8 0, .i .u8 0, .i .u8 0, .nf, .np, .i .i32 0, .i .i32 0] },
 { k := .other, size := 1, bytes := 8, zero := [.np] }]
theorem tys_eq : tysOf Try.prog = tysL := by kernel_rfl
end Go.Proofs
set_option linter.unusedVariables false
set_option linter.unusedSimpArgs false
namespace Go.Iv
open Go.RowKit

theorem callFunc_run {P : Program} {f : FuncId} (h : Callable P f) (args : Array Value) (w : World) : (callFunc f args).run P w = .ok (.enter f args) w := by
  obtain ⟨fn, h1, h2, h3⟩ := h
  cases hb : fn.body with
  | none => rw [hb] at h3; cases h3
  | some c =>
    have h2' : fn.name ≠ "runtime.NumGoroutine" := by simpa using h2
    simp [callFunc, h1, h2', hb]

/-- One operation. -/
theorem stepW_sound {P : Program} {E : Env} {w0 : Base} {s : CS} {R : List Reg} {T : List IV} {a : Act} {an : An} {o : Oper} {K : IV → List Reg → Prop} {tok : Tok K} (hE : EnvOK P E) (hi : Inv w0 s R) (hT : RelT s R T a.tmps)
    (h : stepW E an o.op T R K tok) {next : Act → World → Prop} {Qx : Exit → Act → World → Prop}
    (hn : ∀ v y s1 R1, K v R1 → Inv w0 s1 R1 → Ext s R s1 R1 → Rel s1 R1 v y → next (a.put o.dst y) s1.w) : o.wp P a s.w next Qx := by
  have plain : ∀ (t : Tok fun p : IV × List Reg => K p.1 p.2), onO (opI E.tys an o.op T R) (fun p => K p.1 p.2) t → o.wp P a s.w next Qx := by
    intro t h
    unfold onO at h
    split at h
    · rename_i p hp
      rw [hE.tys] at hp
      obtain ⟨y, s1, h1, h2, h3, h4⟩ := op_sound hi hT hp
      unfold Oper.wp
      rcases h1 with h1 | ⟨h1, rfl⟩
      · rw [h1, Oper.upon_value]; exact hn _ _ _ _ h h2 h3 h4
      · rw [h1, Oper.upon_skip]; exact hn _ _ _ _ h h2 h3 h4
    · exact h.elim
  have relArgs : ∀ (xs : List Operand), RelL s R (xs.map (evI T)) (xs.map a.eval) := fun xs =>
    ⟨by simp, fun j x v hx hv => by
      rw [List.getElem?_map] at hx hv
      cases hj : xs[j]? with
      | none => rw [hj] at hx; cases hx
      | some q =>
        rw [hj] at hx hv
        injection hx with hx; injection hv with hv
        subst hx; subst hv
        exact hT.ev q⟩
  obtain ⟨dst, op, ty, pos, after, guard⟩ := o
  dsimp only at h plain hn ⊢
  unfold stepW at h
  split at h
  · rename_i b args ts
    unfold onO at h
    split at h
    · rename_i p hp
      rw [hE.tys] at hp
      obtain ⟨z, s1, h1, h2, h3, h4⟩ := builtin_sound (ty := ty) (consts := args.map fun | .const _ => true | _ => false) hi (relArgs args.toList) hp
      have hrun : (execOp a.eval ⟨dst, .call ⟨.builtin b, args, ts⟩, ty, pos, after, guard⟩).run P s.w = .ok (.value z) s1.w := by
        have e : (args.toList.map a.eval).toArray = args.map a.eval := Array.ext' (by rw [Array.toList_map])
        rw [e] at h1
        rw [← h1]
        simp only [execOp, resolve, invoke, Sem.run_bind, Sem.run_pure, Result.andThen_ok]
        rfl
      unfold Oper.wp
      rw [hrun, Oper.upon_value]
      exact hn _ _ _ _ h h2 h3 h4
    · exact h.elim
  · rename_i g args ts
    unfold callV at h
    split at h
    · rename_i f first caps hg
      have hgv : Rel s R (.fn (.func f) first caps) (a.eval g) := hg ▸ hT.ev g
      obtain ⟨vs, us, hv, hl, hl2⟩ := fn_inv hgv
      have hargs : RelL s R (first ++ args.toList.map (evI T) ++ caps) ((vs ++ args.map a.eval ++ us).toList) := by
        simp only [Array.toList_append, Array.toList_map]
        exact (hl.append (relArgs _)).append hl2
      obtain ⟨hc, hcalls⟩ := callW_sound hE hi hargs h
      have hrun : (execOp a.eval ⟨dst, .call ⟨.value g, args, ts⟩, ty, pos, after, guard⟩).run P s.w = .ok (.enter f (vs ++ args.map a.eval ++ us)) s.w := by
        simp only [execOp, resolve, hv, Deferred.ofValue, invoke, Sem.run_bind, Sem.run_pure]
        exact callFunc_run hc _ _
      unfold Oper.wp
      rw [hrun, Oper.upon_enter]
      refine Calls.mono hcalls ?_
      rintro e w1 ⟨v, s1, y, R1, rfl, rfl, j1, j2, j3, j4⟩
      exact hn _ _ _ _ j4 j1 j2 j3
    · exact h.elim
  · exact h.elim
  · exact plain _ h
end Go.Iv
set_option linter.unusedVariables false
set_option linter.unusedSimpArgs false
namespace Go.Iv
open Go.RowKit

theorem setT_self : ∀ (T : List IV) (d : Nat), setT T d (getT T d) = T
  | [], d => by cases d <;> rfl
  | x :: T, 0 => rfl
  | x :: T, d + 1 => by simp only [setT, getT, setT_self T d]
theorem yieldI_eq (ops : Array Oper) (j : Nat) : yieldI ops.toList j = (ops[j]?).bind (·.dst) := by
  unfold yieldI
  rw [Array.getElem?_toList]
  cases ops[j]? <;> rfl

theorem yielded_b {s : CS} {R : List Reg} {T : List IV} {ops : Array Oper} {tm : Array Value} {j d : Nat} {x : Bool} (hT : RelT s R T tm) (hd : yieldI ops.toList j = some d) (h : getT T d = .b x) : yielded ops tm j = some x := by
  have hr := hT.at d
  rw [h] at hr
  have hv := b_inv hr
  rw [yieldI_eq] at hd
  unfold yielded
  rw [hd]
  have hlt : d < tm.size := by
    rcases Nat.lt_or_ge d tm.size with h' | h'
    · exact h'
    · simp [Array.getD, Nat.not_lt.2 h', undef] at hv
  have : tm[d]? = some (.bool x) := by
    rw [Array.getElem?_eq_getElem hlt]
    simp [Array.getD, hlt] at hv
    rw [hv]
  simp [this]
theorem yielded_tu {s : CS} {R : List Reg} {T : List IV} {ops : Array Oper} {tm : Array Value} {j d : Nat} {l : List IV} (hT : RelT s R T tm) (hd : yieldI ops.toList j = some d) (h : getT T d = .tu l) : yielded ops tm j = none := by
  have hr := hT.at d
  rw [h] at hr
  obtain ⟨vs, hv, _⟩ := tu_inv hr
  rw [yieldI_eq] at hd
  unfold yielded
  rw [hd]
  cases ht : tm[d]? with
  | none => simp [ht]
  | some y =>
    have : tm.getD d undef = y := by simp [ht]
    rw [this] at hv
    subst hv
    simp [ht]

/-- What holds after an operation. -/
def After (w0 : Base) (s : CS) (R : List Reg) (a : Act) (K : List IV → List Reg → Prop) (next : Act → World → Prop) : Prop :=
  ∀ T1 R1 s1 a1, K T1 R1 → Inv w0 s1 R1 → Ext s R s1 R1 → RelT s1 R1 T1 a1.tmps → a1.defers = a.defers → next a1 s1.w

theorem Act.put_defers' (a : Act) (d : Option Tmp) (v : Value) : (a.put d v).defers = a.defers := by cases d <;> rfl

theorem stpW_sound {P : Program} {E : Env} {w0 : Base} {s : CS} {R : List Reg} {T : List IV} {a : Act} {an : An} {ops : Array Oper} {i : Nat} {o : Oper} {K : List IV → List Reg → Prop} {tok : Tok (ops.toList, K)}
    (hE : EnvOK P E) (ho : ops[i]? = some o) (hi : Inv w0 s R) (hT : RelT s R T a.tmps) (h : stpW E an ops.toList o T R K tok) {next : Act → World → Prop} {Qx : Exit → Act → World → Prop}
    (hn : After w0 s R a K next) : wpOp P ops Qx i next a s.w := by
  have skip : ∀ T', T' = T → K (putT T' o.dst (.tu [])) R → next (a.put o.dst undef) s.w := by
    intro T' e hK
    subst e
    exact hn _ _ s _ hK hi (Ext.refl _ _) (hT.put _ (.tu _ _ _ rfl (fun j x v hx => by simp at hx))) (Act.put_defers' _ _ _)
  have run : ∀ T', T' = T → (∀ tok, stepW E an o.op T' R (fun v R1 => K (putT T' o.dst v) R1) tok) → o.wp P a s.w next Qx := by
    intro T' e hs
    subst e
    exact stepW_sound hE hi hT (hs .mk) (fun v y s1 R1 hK hi1 he hr => hn _ _ s1 _ hK hi1 he ((hT.ext he).put _ hr) (Act.put_defers' _ _ _))
  unfold wpOp
  simp only [ho]
  unfold stpW at h
  split at h
  · rename_i hg
    rw [show Region.wanted o (yielded ops a.tmps) = true by simp [Region.wanted, hg], if_pos rfl]
    exact .inl (run T rfl (fun _ => h))
  · rename_i j want hg
    unfold onO at h
    split at h
    · rename_i d hd
      unfold guardW at h
      split at h
      · rename_i x hx
        have hy := yielded_b hT hd hx
        split at h
        · rename_i hxw
          subst hxw
          rw [show Region.wanted o (yielded ops a.tmps) = true by simp [Region.wanted, hg, hy], if_pos rfl]
          exact .inl (run _ (by rw [← hx]; exact setT_self T d) (fun _ => h))
        · rename_i hxw
          rw [show Region.wanted o (yielded ops a.tmps) = false by simp [Region.wanted, hg, hy, hxw], if_neg (by simp)]
          refine skip _ ?_ h
          rw [show (!want) = x by cases x <;> cases want <;> simp_all, ← hx]
          exact setT_self T d
      · rename_i l hx
        have hy := yielded_tu hT hd hx
        rw [show Region.wanted o (yielded ops a.tmps) = false by simp [Region.wanted, hg, hy], if_neg (by simp)]
        exact skip _ rfl h
      · exact h.elim
    · exact h.elim

theorem After.step {w0 : Base} {s s1 : CS} {R R1 : List Reg} {a a1 : Act} {K : List IV → List Reg → Prop} {next : Act → World → Prop} (h : After w0 s R a K next) (e : Ext s R s1 R1) (hd : a1.defers = a.defers) :
    After w0 s1 R1 a1 K next := fun T2 R2 s2 a2 hK hi he hT hd2 => h T2 R2 s2 a2 hK hi (e.trans he) hT (hd2.trans hd)

theorem opsW_sound {P : Program} {E : Env} {w0 : Base} {an : Nat → An} {ops : Array Oper} {K : List IV → List Reg → Prop} {Q : Exit → Act → World → Prop} (hE : EnvOK P E) : ∀ (os : List Oper) (ix : Nat) {s : CS} {R : List Reg} {T : List IV} {a : Act} {tok : Tok (ops.toList, K)},
    ops.toList.drop ix = os → Inv w0 s R → RelT s R T a.tmps → opsW E an ops.toList ix os T R K tok → After w0 s R a K (Q .normal) → wpOps P ops Q (List.range' ix os.length) a s.w
  | [], ix, s, R, T, a, tok, hd, hi, hT, h, hQ => by
    exact hQ T R s a h hi (Ext.refl _ _) hT rfl
  | o :: os, ix, s, R, T, a, tok, hd, hi, hT, h, hQ => by
    have ho : ops[ix]? = some o := by
      have := congrArg (·[0]?) hd
      simpa using this
    have hd' : ops.toList.drop (ix + 1) = os := by
      have := congrArg (List.drop 1) hd
      simpa using this
    have h' : stpW E (an ix) ops.toList o T R (fun T R => opsW E an ops.toList (ix + 1) os T R K .mk) .mk := by
      obtain ⟨dst, op, ty, pos, after, guard⟩ := o
      cases guard with
      | none => exact h
      | some g => obtain ⟨j, want⟩ := g; exact h
    rw [List.length_cons, List.range'_succ, wpOps_cons]
    refine stpW_sound hE ho hi hT h' (fun T1 R1 s1 a1 hK hi1 he hT1 hd1 => ?_)
    exact opsW_sound hE os (ix + 1) hd' hi1 hT1 hK (hQ.step he hd1)

theorem region_text {P : Program} {E : Env} {w0 : Base} {an : Nat → An} {ops : Array Oper} {K : List IV → List Reg → Prop} {Q : Exit → Act → World → Prop} (hE : EnvOK P E) {id : Nat} {s : CS} {R : List Reg} {T : List IV} {a : Act} {tok : Tok (ops.toList, K)}
    (hi : Inv w0 s R) (hT : RelT s R T a.tmps) (h : opsW E an ops.toList 0 ops.toList T R K tok) (hQ : After w0 s R a K (Q .normal)) : (Code.region id ops false).wp P Q a s.w := by
  refine wp_region ?_
  have := opsW_sound hE ops.toList 0 (by simp) hi hT h hQ
  rwa [Array.length_toList, ← List.range_eq_range'] at this
end Go.Iv
set_option linter.unusedVariables false
set_option linter.unusedSimpArgs false
namespace Go.Iv
open Go.RowKit

/-! ### operations that lean on no register -/
theorem liveR_nil (r v : Nat) : liveR [] r v = none := by simp [liveR, getR_nil]
theorem fz1_nil {x y : IV} {R1 : List Reg} (h : fz1 [] x = some (y, R1)) : R1 = [] ∧ ∀ R, fz1 R x = some (y, R) := by
  cases x <;> simp only [fz1, getR_nil, reduceCtorEq] at h ⊢
  all_goals (split at h <;> simp_all)
theorem fzL_nil : ∀ {xs ys : List IV} {R1 : List Reg}, fzL [] xs = some (ys, R1) → R1 = [] ∧ ∀ R, fzL R xs = some (ys, R)
  | [], ys, R1, h => by simp only [fzL] at h; injection h with h; injection h with e1 e2; subst e1; subst e2; exact ⟨rfl, fun R => rfl⟩
  | x :: xs, ys, R1, h => by
    simp only [fzL] at h
    split at h
    · rename_i y R2 h1
      obtain ⟨rfl, h2⟩ := fz1_nil h1
      split at h
      · rename_i ys' R3 h3
        injection h with h; injection h with e1 e2; subst e1; subst e2
        obtain ⟨rfl, h4⟩ := fzL_nil h3
        exact ⟨rfl, fun R => by simp only [fzL, h2 R, h4 R]⟩
      · cases h
    · cases h
theorem fzParts_nil : ∀ {xs : List (Nat × IV)} {ys : List (Nat × List IV)} {R1 : List Reg}, fzParts [] xs = some (ys, R1) → R1 = [] ∧ ∀ R, fzParts R xs = some (ys, R)
  | [], ys, R1, h => by simp only [fzParts] at h; injection h with h; injection h with e1 e2; subst e1; subst e2; exact ⟨rfl, fun R => rfl⟩
  | (i, x) :: xs, ys, R1, h => by
    simp only [fzParts] at h
    split at h
    · rename_i y R2 h1
      obtain ⟨rfl, h2⟩ := fzL_nil h1
      split at h
      · rename_i ys' R3 h3
        injection h with h; injection h with e1 e2; subst e1; subst e2
        obtain ⟨rfl, h4⟩ := fzParts_nil h3
        exact ⟨rfl, fun R => by simp only [fzParts, h2 R, h4 R]⟩
      · cases h
    · cases h
theorem okCell_nil {x : IV} (h : okCell [] x = true) (R : List Reg) : okCell R x = true := by
  cases x <;> simp_all [okCell, getR_nil]
theorem loadI_nil {tys : Tys} {t : TypeId} {a v : IV} (h : loadI tys t a [] = some v) (R : List Reg) : loadI tys t a R = some v := by
  unfold loadI at h ⊢
  cases ht : tys[t]? with
  | none => rw [ht] at h; cases h
  | some ti => rw [ht] at h; cases a <;> simp_all [liveR_nil]
theorem buildI_nil {tys : Tys} {t : TypeId} {ps : List (Nat × IV)} {v : IV} (h : buildI tys t ps [] = some v) (R : List Reg) : buildI tys t ps R = some v := by
  unfold buildI at h ⊢
  cases ht : tys[t]? with
  | none => rw [ht] at h; cases h
  | some ti =>
    rw [ht] at h
    dsimp only at h ⊢
    split at h
    · cases h
    · rename_i hc
      rw [not_or] at hc
      have hall : (ps.all fun p => (cellsI p.2).all fun c => okPart c || okCell [] c) = true := Bool.not_eq_false _ ▸ hc.2
      rw [if_neg]
      · exact h
      · rw [not_or]
        refine ⟨hc.1, ?_⟩
        rw [Bool.not_eq_false, List.all_eq_true]
        intro p hp
        have := List.all_eq_true.1 hall p hp
        rw [List.all_eq_true] at this ⊢
        intro c hcm
        have h2 := this c hcm
        rw [Bool.or_eq_true] at h2 ⊢
        exact h2.imp id (fun h3 => okCell_nil h3 R)
theorem sliceS_nil {ei : TI} {x v : IV} {lo hi mx : Option Nat} (h : sliceS ei x lo hi mx [] = some v) (R : List Reg) : sliceS ei x lo hi mx R = some v := by
  unfold sliceS at h ⊢
  split at h <;> first | exact h | (simp [liveR_nil] at h; done) | (simp only [liveR_nil] at h; split at h <;> cases h)
theorem sliceI_nil {tys : Tys} {t : TypeId} {x v : IV} {lo hi mx : Option Nat} (h : sliceI tys t x lo hi mx [] = some v) (R : List Reg) : sliceI tys t x lo hi mx R = some v := by
  unfold sliceI at h ⊢
  split at h
  · exact h
  · split at h
    · exact sliceS_nil h R
    · cases h
  · cases h
theorem fieldAddrI_nil {tys : Tys} {t : TypeId} {x v : IV} {f : Nat} (h : fieldAddrI tys t x f [] = some v) (R : List Reg) : fieldAddrI tys t x f R = some v := by
  unfold fieldAddrI at h ⊢
  split at h
  · split at h
    · split at h
      · split at h
        · cases h
        · cases x <;> simp_all [liveR_nil]
      · cases h
    · cases h
  · cases h
theorem indexAddrI_nil {tys : Tys} {t : TypeId} {x ix v : IV} (h : indexAddrI tys t x ix [] = some v) (R : List Reg) : indexAddrI tys t x ix R = some v := by
  unfold indexAddrI at h ⊢
  split at h
  · exact h
  · simp only [liveR_nil] at h; split at h <;> simp_all
  · exact h
  · simp only [liveR_nil] at h; split at h <;> simp_all
  · cases h
theorem srcI_nil {x : IV} {rows : List (List IV)} (h : srcI x [] = some rows) (R : List Reg) : srcI x R = some rows := by
  cases x <;> simp_all [srcI, liveR_nil]
theorem lenI_nil {x : IV} {n : Nat} (h : lenI x [] = some n) (R : List Reg) : lenI x R = some n := by
  cases x <;> simp_all [lenI, liveR_nil]

def newI (tys : Tys) (ei : TI) (tx : TypeId) (x : IV) (R : List Reg) : Option (List (List IV)) :=
  match (match tyK tys tx with
    | .int _ => match natI x with | some n => if room ei n ∧ ei.zero.length = ei.size ∧ n ≤ 9223372036854775807 then some (List.replicate n ei.zero) else none | none => none
    | .slice _ => srcI x R
    | _ => none) with
  | some rows => if okRows ei.size rows = true ∧ 0 < ei.size ∧ ei.zero.length = ei.size ∧ 0 < ei.bytes ∧ rows.length ≤ 4611686018427387904 then some rows else none
  | none => none
theorem newI_nil {tys : Tys} {ei : TI} {tx : TypeId} {x : IV} {rows : List (List IV)} (h : newI tys ei tx x [] = some rows) (R : List Reg) : newI tys ei tx x R = some rows := by
  unfold newI at h ⊢
  cases htk : tyK tys tx with
  | slice e' =>
    rw [htk] at h
    dsimp only at h ⊢
    cases hs : srcI x [] with
    | none => rw [hs] at h; cases h
    | some rs => rw [hs] at h; rw [srcI_nil hs R]; exact h
  | _ => rw [htk] at h; exact h
theorem appendI_fin {tys : Tys} {ts tx e : TypeId} {ei : TI} {s x : IV} {rows : List (List IV)} {R : List Reg} (he : tyK tys ts = .slice e) (hei : tys[e]? = some ei) (hn : newI tys ei tx x R = some rows)
    (hroom : room ei rows.length = true) (hs : (∃ l, s = .sl (some true) l) ∨ ∃ nl, s = .se nl) : appendI tys .imm ts tx s x R = some (.sl none rows, R) := by
  unfold appendI
  rw [he]
  dsimp only
  rw [hei]
  dsimp only
  split
  · rename_i rows' hr'
    have e : rows' = rows := Option.some.inj (hr'.symm.trans hn)
    subst e
    rcases hs with ⟨l, rfl⟩ | ⟨nl, rfl⟩ <;> simp [hroom]
  · rename_i hr'
    exact absurd (hr'.symm.trans hn) (by simp)
theorem appendI_nil {tys : Tys} {ts tx : TypeId} {s x v : IV} {R1 : List Reg} (h : appendI tys .imm ts tx s x [] = some (v, R1)) : R1 = [] ∧ ∀ R, appendI tys .imm ts tx s x R = some (v, R) := by
  unfold appendI at h
  split at h
  · rename_i e he
    split at h
    · rename_i ei hei
      dsimp only at h
      split at h
      · rename_i rows hrows
        have hn : newI tys ei tx x [] = some rows := hrows
        split at h
        · split at h
          · rename_i hroom
            injection h with h; injection h with e1 e2; subst e1; subst e2
            exact ⟨rfl, fun R => appendI_fin he hei (newI_nil hn R) hroom (.inl ⟨_, rfl⟩)⟩
          · cases h
        · split at h
          · rename_i hroom
            injection h with h; injection h with e1 e2; subst e1; subst e2
            exact ⟨rfl, fun R => appendI_fin he hei (newI_nil hn R) hroom (.inr ⟨_, rfl⟩)⟩
          · cases h
        · rw [liveR_nil] at h; cases h
        · cases h
      · cases h
    · cases h
  · cases h

theorem opI_nil {tys : Tys} {op : Op} {T : List IV} {v : IV} {R1 : List Reg} (h : opI tys .imm op T [] = some (v, R1)) (hr : R1 = []) (R : List Reg) : opI tys .imm op T R = some (v, R) := by
  have mapx : ∀ {o o' : Option IV}, o.map (·, ([] : List Reg)) = some (v, R1) → (∀ x, o = some x → o' = some x) → o'.map (·, R) = some (v, R) := by
    intro o o' h1 h2
    obtain ⟨x, h3, h4⟩ := map_some h1
    injection h4 with e1 e2; subst e1
    rw [h2 _ h3]; rfl
  subst hr
  cases op <;> simp only [opI] at h ⊢ <;> try (cases h; done)
  case move x => injection h with h; injection h with e1 e2; subst e1; rfl
  case assign x => injection h with h; injection h with e1 e2; subst e1; rfl
  case pick c a b => split at h <;> simp_all
  case alloc e => split at h <;> simp_all
  case box e x =>
    split at h
    · rename_i cs R1 h1
      obtain ⟨e1, h2⟩ := fzL_nil h1
      injection h with h; injection h with e2 e3; subst e2
      rw [h2 R]
    · cases h
  case build t ps => exact mapx h (fun x hx => buildI_nil hx R)
  case buildSlice t n ps =>
    split at h
    · rename_i e he
      split at h
      · rename_i ei hei
        split at h
        · rename_i qs R1 h1
          obtain ⟨rfl, h2⟩ := fzParts_nil h1
          rw [h2 R]
          dsimp only at h ⊢
          split at h
          · rename_i cells hc
            split at h
            · rename_i hcond
              injection h with h; injection h with e2 e3; subst e2
              simp only [hcond, and_self, if_true]
            · cases h
          · cases h
        · cases h
      · cases h
    · cases h
  case makeSlice t l c => split at h <;> (try cases h); split at h <;> (try cases h); rename_i hh; cases hh
  case load t a => exact mapx h (fun x hx => loadI_nil hx R)
  case store t a x =>
    obtain ⟨q, h1, h2⟩ := map_some h
    unfold storeI at h1
    split at h1
    · rw [liveR_nil] at h1
      split at h1
      · rename_i hh; split at hh <;> cases hh
      · cases h1
    · cases h1
  case nilCheck x => split at h <;> simp_all [liveR_nil]
  case binOp o t x y u => exact mapx h (fun x hx => hx)
  case unOp o t x => exact mapx h (fun x hx => hx)
  case convert s d x => exact mapx h (fun x hx => hx)
  case makeFunc f a c => injection h with h; injection h with e1 e2; subst e1; rfl
  case slice t x lo hi mx => split at h <;> first | cases h | exact mapx h (fun x hx => sliceI_nil hx R)
  case fieldAddr s x f => exact mapx h (fun x hx => fieldAddrI_nil hx R)
  case field s x f => exact mapx h (fun x hx => hx)
  case indexAddr t x ix => exact mapx h (fun x hx => indexAddrI_nil hx R)
  case index t x ix => exact mapx h (fun x hx => hx)
  case extract t ix => split at h <;> (try cases h); split at h <;> simp_all

theorem builtinI_nil {tys : Tys} {b : Builtin} {ts : List TypeId} {vs : List IV} {v : IV} {R1 : List Reg} (h : builtinI tys .imm b ts vs [] = some (v, R1)) (hr : R1 = []) (R : List Reg) : builtinI tys .imm b ts vs R = some (v, R) := by
  subst hr
  unfold builtinI at h ⊢
  split at h
  · exact (appendI_nil h).2 R
  · rename_i t x
    split at h
    · exact (by injection h with h; injection h with e1 e2; subst e1; simp_all)
    · cases h
    · rename_i htk hne
      split at h
      · rename_i n hn
        injection h with h; injection h with e1 e2; subst e1
        simp only [htk, lenI_nil hn R]
      · cases h
    · rename_i htk
      injection h with h; injection h with e1 e2; subst e1
      simp only [htk]
    · cases h
  · split at h
    · injection h with h; injection h with e1 e2; subst e1; simp_all
    · injection h with h; injection h with e1 e2; subst e1; simp_all
    · cases h
  · rename_i t d
    split at h
    · rename_i hc
      unfold clearI at hc
      split at hc
      · split at hc
        · rw [liveR_nil] at hc; cases hc
        · cases hc
      · cases hc
    · cases h
  · obtain ⟨q, h1, h2⟩ := map_some h
    injection h2 with e1 e2; subst e1
    rw [h1]; rfl
  · obtain ⟨q, h1, h2⟩ := map_some h
    injection h2 with e1 e2; subst e1
    rw [h1]; rfl
  · cases h
end Go.Iv
set_option linter.unusedVariables false
set_option linter.unusedSimpArgs false
namespace Go.Iv
open Go.RowKit

theorem mapM_mono {f g : IV → Option IV} (h : ∀ x y, f x = some y → g x = some y) : ∀ (l ys : List IV), l.mapM f = some ys → l.mapM g = some ys
  | [], ys, hl => by simpa using hl
  | a :: l, ys, hl => by
    rw [List.mapM_cons] at hl ⊢
    cases ha : f a with
    | none => rw [ha] at hl; cases hl
    | some b =>
      cases hm : l.mapM f with
      | none => rw [ha, hm] at hl; cases hl
      | some bs =>
        rw [ha, hm] at hl
        rw [h a b ha, mapM_mono h l bs hm]
        exact hl
theorem rdI_nil : ∀ (n : Nat) (x y : IV), rdI [] n x = some y → ∀ R, rdI R n x = some y := by
  intro n
  induction n with
  | zero => intro x y h R; cases x <;> simp only [rdI, liveR_nil, reduceCtorEq] at h ⊢ <;> exact h
  | succ n ih =>
    intro x y h R
    cases x with
    | rf => simp only [rdI, liveR_nil, reduceCtorEq] at h
    | pt => simp only [rdI, liveR_nil, reduceCtorEq] at h
    | ag xs =>
      simp only [rdI] at h ⊢
      obtain ⟨ys, h1, h2⟩ := map_some h
      rw [mapM_mono (fun x y hxy => ih x y hxy R) _ _ h1]
      subst h2; rfl
    | fn f az cs =>
      simp only [rdI] at h ⊢
      split at h
      · rename_i a c h1 h2
        rw [mapM_mono (fun x y hxy => ih x y hxy R) _ _ h1, mapM_mono (fun x y hxy => ih x y hxy R) _ _ h2]
        exact h
      · cases h
    | _ => simp only [rdI] at h ⊢; exact h
theorem argsI_nil {xs : List IV} {p : Bool × List IV} (h : argsI [] xs = some p) (R : List Reg) : argsI R xs = some p := by
  unfold argsI at h ⊢
  split
  · rename_i hp; rw [if_pos hp] at h; exact h
  · rename_i hp
    rw [if_neg hp] at h
    obtain ⟨ys, h1, h2⟩ := map_some h
    rw [mapM_mono (fun x y hxy => rdI_nil 3 x y hxy R) _ _ h1]
    subst h2; rfl

theorem impC_imm {Rr R R1 Rr1 : List Reg} {x y : IV} (h : impC [] Rr R x = some (y, Rr1, R1)) : R1 = R ∧ ∀ R', impC [] Rr R' x = some (y, Rr1, R') := by
  unfold impC at h ⊢
  split at h
  · split at h
    · rename_i o ho
      split at h
      · cases h
      · rename_i hc
        split at h
        · rename_i hg; simp at hg
        · injection h with h; injection h with e1 e2; injection e2 with e2 e3
          subst e1; subst e2; subst e3
          exact ⟨rfl, fun R' => by rw [if_neg hc]⟩
    · cases h
  · split at h
    · rename_i hp
      injection h with h; injection h with e1 e2; injection e2 with e2 e3
      subst e1; subst e2; subst e3
      exact ⟨rfl, fun R' => by simp [hp]⟩
    · cases h
theorem impL_imm : ∀ {xs ys : List IV} {Rr R R1 : List Reg}, impL [] Rr R xs = some (ys, R1) → R1 = R ∧ ∀ R', impL [] Rr R' xs = some (ys, R')
  | [], ys, Rr, R, R1, h => by simp only [impL] at h; injection h with h; injection h with e1 e2; subst e1; subst e2; exact ⟨rfl, fun R => rfl⟩
  | x :: xs, ys, Rr, R, R1, h => by
    simp only [impL] at h
    split at h
    · rename_i y Rr1 R2 h1
      obtain ⟨rfl, h2⟩ := impC_imm h1
      split at h
      · rename_i ys' R3 h3
        injection h with h; injection h with e1 e2; subst e1; subst e2
        obtain ⟨rfl, h4⟩ := impL_imm h3
        exact ⟨rfl, fun R => by simp only [impL, h2 R, h4 R]⟩
      · cases h
    · cases h
theorem impI_imm {Rr R R1 : List Reg} {x y : IV} (h : impI [] Rr R x = some (y, R1)) : R1 = R ∧ ∀ R', impI [] Rr R' x = some (y, R') := by
  unfold impI at h ⊢
  split at h
  · split at h
    · rename_i ys R2 h1
      injection h with h; injection h with e1 e2; subst e1; subst e2
      obtain ⟨rfl, h2⟩ := impL_imm h1
      exact ⟨rfl, fun R' => by simp only [h2 R']⟩
    · cases h
  · split at h
    · rename_i ys R2 h1
      injection h with h; injection h with e1 e2; subst e1; subst e2
      obtain ⟨rfl, h2⟩ := impL_imm h1
      exact ⟨rfl, fun R' => by simp only [h2 R']⟩
    · cases h
  · split at h
    · rename_i y' Rr' R1' h1
      injection h with h; injection h with e1 e2; subst e1; subst e2
      obtain ⟨rfl, h2⟩ := impC_imm h1
      exact ⟨rfl, fun R' => by simp only [h2 R']⟩
    · cases h

def isRead (an : An) : Op → Bool
  | .move _ | .assign _ | .pick .. | .build .. | .load .. | .nilCheck _ | .binOp .. | .unOp .. | .convert .. | .makeFunc .. | .slice .. | .fieldAddr .. | .field .. | .indexAddr .. | .index .. | .extract .. => true
  | .call ⟨.value _, _, _⟩ => match an with | .inl | .imp (_ :: _) => false | _ => true
  | .call ⟨.builtin b, _, _⟩ => match b with | .len | .cap | .min | .max => true | _ => false
  | _ => false

theorem onO_iff {α : Type} {o : Option α} {K : α → Prop} {t : Tok K} : onO o K t ↔ ∃ a, o = some a ∧ K a := by
  unfold onO
  split
  · exact ⟨fun h => ⟨_, rfl, h⟩, fun ⟨a, h1, h2⟩ => by injection h1 with h1; subst h1; exact h2⟩
  · exact ⟨fun h => h.elim, fun ⟨a, h1, h2⟩ => by cases h1⟩
theorem callV_iff {v : IV} {K : FuncId → List IV → List IV → Prop} {t : Tok K} : callV v K t ↔ ∃ f a c, v = .fn (.func f) a c ∧ K f a c := by
  unfold callV
  split
  · exact ⟨fun h => ⟨_, _, _, rfl, h⟩, fun ⟨f, a, c, h1, h2⟩ => by injection h1 with h1 h3 h4; injection h1 with h1; subst h1; subst h3; subst h4; exact h2⟩
  · rename_i hne
    exact ⟨fun h => h.elim, fun ⟨f, a, c, h1, h2⟩ => hne _ _ _ h1⟩
theorem callP_iff {E : Env} {an : An} {f : FuncId} {xs : List IV} {R : List Reg} {K : IV → List Reg → Prop} {t : Tok K} :
    callP E an f xs R K t ↔ ∃ p, argsI R xs = some p ∧ ∃ y Rr, E.pc p.1 f p.2 y Rr ∧ ∃ q, impI an.imps Rr R y = some q ∧ K q.1 q.2 := by
  unfold callP
  rw [onO_iff]
  constructor
  · rintro ⟨p, h1, y, Rr, h2, h3⟩
    exact ⟨p, h1, y, Rr, h2, onO_iff.1 h3⟩
  · rintro ⟨p, h1, y, Rr, h2, h3⟩
    exact ⟨p, h1, y, Rr, h2, onO_iff.2 h3⟩

/-- An operation of a region, by what it comes to. -/
inductive Out (E : Env) (an : An) : Op → List IV → List Reg → IV → List Reg → Prop
  | op {o T R v R1} (hn : ∀ c, o ≠ .call c) (h : opI E.tys an o T R = some (v, R1)) : Out E an o T R v R1
  | bi {b args ts T R v R1} (h : builtinI E.tys an b ts.toList (args.toList.map (evI T)) R = some (v, R1)) : Out E an (.call ⟨.builtin b, args, ts⟩) T R v R1
  | pc {g args ts T R f first caps p y Rr q} (hi : an ≠ .inl) (hg : evI T g = .fn (.func f) first caps) (h1 : argsI R (first ++ args.toList.map (evI T) ++ caps) = some p) (h2 : E.pc p.1 f p.2 y Rr) (h3 : impI an.imps Rr R y = some q) :
      Out E an (.call ⟨.value g, args, ts⟩) T R q.1 q.2
  | ic {g args ts T R f first caps y R1} (hi : an = .inl) (hg : evI T g = .fn (.func f) first caps) (h1 : E.ic f (first ++ args.toList.map (evI T) ++ caps) R y R1) : Out E an (.call ⟨.value g, args, ts⟩) T R y R1

theorem stepW_iff {E : Env} {an : An} {o : Op} {T : List IV} {R : List Reg} {K : IV → List Reg → Prop} {t : Tok K} : stepW E an o T R K t ↔ ∃ v R1, Out E an o T R v R1 ∧ K v R1 := by
  constructor
  · intro h
    unfold stepW at h
    split at h
    · obtain ⟨p, h1, h2⟩ := onO_iff.1 h
      exact ⟨_, _, .bi h1, h2⟩
    · obtain ⟨f, a, c, h1, h2⟩ := callV_iff.1 h
      unfold callW at h2
      split at h2
      · obtain ⟨y, R1, h3, h4⟩ := h2
        exact ⟨_, _, .ic rfl h1 h3, h4⟩
      · rename_i hne
        obtain ⟨p, h3, y, Rr, h4, q, h5, h6⟩ := callP_iff.1 h2
        exact ⟨_, _, .pc (fun e => hne e) h1 h3 h4 h5, h6⟩
    · exact h.elim
    · rename_i h1 h2 h3
      obtain ⟨p, h4, h5⟩ := onO_iff.1 h
      refine ⟨_, _, .op (fun c e => ?_) h4, h5⟩
      subst e
      obtain ⟨callee, args, ts⟩ := c
      cases callee with
      | builtin b => exact h1 b args ts rfl
      | value g => exact h2 g args ts rfl
      | invoke r m => exact h3 r m args ts rfl
  · rintro ⟨v, R1, h, hK⟩
    cases h with
    | op hn h =>
      cases o
      case call c => exact absurd rfl (hn c)
      all_goals exact (onO_iff (K := fun p : IV × List Reg => K p.1 p.2) (t := .mk)).2 ⟨(v, R1), h, hK⟩
    | bi h => exact (onO_iff (K := fun p : IV × List Reg => K p.1 p.2) (t := .mk)).2 ⟨(v, R1), h, hK⟩
    | pc hi hg h1 h2 h3 =>
      refine (callV_iff (t := .mk)).2 ⟨_, _, _, hg, ?_⟩
      unfold callW
      split
      · exact absurd rfl hi
      · exact callP_iff.2 ⟨_, h1, _, _, h2, _, h3, hK⟩
    | ic hi hg h1 =>
      subst hi
      exact (callV_iff (t := .mk)).2 ⟨_, _, _, hg, _, _, h1, hK⟩

/-- What leans on no register. -/
theorem Out.pure' {E : Env} {op : Op} {T : List IV} {v : IV} {R0 R1 : List Reg} (h : Out E .imm op T R0 v R1) (h0 : R0 = []) (hR1 : R1 = []) (R : List Reg) : Out E .imm op T R v R := by
  cases h with
  | op hn h => subst h0; exact .op hn (opI_nil h hR1 R)
  | bi h => subst h0; exact .bi (builtinI_nil h hR1 R)
  | pc hi hg h1 h2 h3 =>
    rename_i q
    subst h0
    obtain ⟨h4, h5⟩ := impI_imm h3
    exact .pc (q := (_, R)) hi hg (argsI_nil h1 R) h2 (h5 R)
  | ic hi => cases hi
theorem Out.pure {E : Env} {op : Op} {T : List IV} {v : IV} (h : Out E .imm op T [] v []) (R : List Reg) : Out E .imm op T R v R := h.pure' rfl rfl R

/-- What leaves the registers. -/
theorem Out.read {E : Env} {an : An} {op : Op} {T : List IV} {R R1 : List Reg} {v : IV} (h : Out E an op T R v R1) (hr : isRead an op = true) : R1 = R := by
  cases h with
  | op hn h =>
    have mapx : ∀ {o : Option IV}, o.map (·, R) = some (v, R1) → R1 = R := by
      intro o h
      obtain ⟨x, h3, h4⟩ := map_some h
      injection h4 with e1 e2; exact e2.symm
    have inj : ∀ {a b : IV} {Ra : List Reg}, some (a, R) = some (b, Ra) → Ra = R := fun h => by injection h with h; injection h with e1 e2; exact e2.symm
    cases op <;> simp only [isRead, Bool.false_eq_true] at hr <;> simp only [opI] at h
    case call c => exact absurd rfl (hn c)
    all_goals first
      | exact mapx h
      | exact inj h
      | (split at h <;> first | exact inj h | exact mapx h | cases h | (split at h <;> first | exact inj h | cases h))
  | bi h =>
    rename_i b args ts
    cases b <;> simp only [isRead, Bool.false_eq_true] at hr <;> unfold builtinI at h
    all_goals
      split at h <;> first
        | cases h
        | contradiction
        | (obtain ⟨x, h3, h4⟩ := map_some h; injection h4 with e1 e2; exact e2.symm)
        | (split at h <;> first
            | (injection h with h; injection h with e1 e2; exact e2.symm)
            | cases h
            | (split at h <;> first | (injection h with h; injection h with e1 e2; exact e2.symm) | cases h))
  | pc hi hg h1 h2 h3 =>
    have : an.imps = [] := by
      cases an with
      | imp l => cases l with
        | nil => rfl
        | cons a l => simp [isRead] at hr
      | _ => rfl
    rw [this] at h3
    exact (impI_imm h3).1
  | ic hi => subst hi; simp [isRead] at hr
end Go.Iv
