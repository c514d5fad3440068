import Derived.Test.YtapigbgcghekgaaM27
set_option linter.unusedVariables false
set_option linter.unusedSimpArgs false
set_option maxRecDepth 100000
set_option maxHeartbeats 4000000
set_option linter.unusedVariables false
set_option linter.unusedSimpArgs false
namespace Go.Proofs
open Go.Iv
theorem c87 (x : Int) : PC Try.prog true 87 [.i .i64 x] (.b false) [] := by
  refine pcW E0_ok mm (fn := Try.f87) (by kernel_rfl) (by kernel_rfl) (by kernel_rfl) [] (by kernel_rfl) [] (by rw [show Try.f87.ntmps = 1 + 5 by kernel_rfl]; exact Nat.le_add_right _ _) ?_
  intro T hl hx
  have a0 := hx 0 _ rfl
  clear hx
  simp only [bodyOf, Try.f87] at hl ⊢
  simp only [wB, E0_tys, appI, bsI, slI, sliceI, sliceS, optI, appendI, srcI, chunk, fillI, fzParts, fzL, fz1, planAt, loadI, storeI, takeI, TK.agg, TK.known, cellsI, fillRow, okCell, bltI, builtinI, lenI, indexAddrI, fieldAddrI, fieldI, indexI, nilChkI, An.isImm, pureC, pure0, impI, impL, impC, cutO, An.imps, List.replicate, decide_true, decide_false, cond_true, cond_false, if_true, if_false, ite_true, ite_false, ne_eq, forall_const, eq_self, reduceCtorEq, reduceIte, Nat.reduceLT, Nat.reduceLeDiff, Nat.reduceAdd, Nat.reduceSub, Nat.reduceMul, Nat.reduceEqDiff, Nat.reduceBEq, Int.reduceLE, Int.reduceLT, Int.reduceToNat, Int.reduceEq, Int.reduceAdd, Int.reduceSub, Int.reduceMul, ty_3, tk_3, ty_4, tk_4, a0, hl]
def cmpZ (a b : Int) : Int := if a < b then -1 else if b < a then 1 else 0
theorem c78 (a b : Int) : PC Try.prog true 78 [.i .i64 a, .i .i64 b] (.i .i64 (cmpZ a b)) [] := by
  refine pcW E0_ok mm (fn := Try.f78) (by kernel_rfl) (by kernel_rfl) (by kernel_rfl) [] (by kernel_rfl) [] (by rw [show Try.f78.ntmps = 2 + 18 by kernel_rfl]; exact Nat.le_add_right _ _) ?_
  intro T hl hx
  have a0 := hx 0 _ rfl
  have a1 := hx 1 _ rfl
  clear hx
  simp only [bodyOf, Try.f78] at hl ⊢
  (simp only [wB, E0_tys, appI, bsI, slI, sliceI, sliceS, optI, appendI, srcI, chunk, fillI, fzParts, fzL, fz1, planAt, loadI, storeI, takeI, TK.agg, TK.known, cellsI, fillRow, okCell, bltI, builtinI, lenI, indexAddrI, fieldAddrI, fieldI, indexI, nilChkI, An.isImm, pureC, pure0, impI, impL, impC, cutO, An.imps, List.replicate, decide_true, decide_false, cond_true, cond_false, if_true, if_false, ite_true, ite_false, ne_eq, forall_const, eq_self, reduceCtorEq, reduceIte, Nat.reduceLT, Nat.reduceLeDiff, Nat.reduceAdd, Nat.reduceSub, Nat.reduceMul, Nat.reduceEqDiff, Nat.reduceBEq, Int.reduceLE, Int.reduceLT, Int.reduceToNat, Int.reduceEq, Int.reduceAdd, Int.reduceSub, Int.reduceMul, ty_3, tk_3, ty_4, tk_4, a0, a1, hl])
  repeat' first
    | ((with_reducible refine guardW_b _ _ _ _ _ _ (fun hq => ?_) (fun hq => ?_)) <;> simp only [wB, E0_tys, appI, bsI, slI, sliceI, sliceS, optI, appendI, srcI, chunk, fillI, fzParts, fzL, fz1, planAt, loadI, storeI, takeI, TK.agg, TK.known, cellsI, fillRow, okCell, bltI, builtinI, lenI, indexAddrI, fieldAddrI, fieldI, indexI, nilChkI, An.isImm, pureC, pure0, impI, impL, impC, cutO, An.imps, List.replicate, decide_true, decide_false, cond_true, cond_false, if_true, if_false, ite_true, ite_false, ne_eq, forall_const, eq_self, reduceCtorEq, reduceIte, Nat.reduceLT, Nat.reduceLeDiff, Nat.reduceAdd, Nat.reduceSub, Nat.reduceMul, Nat.reduceEqDiff, Nat.reduceBEq, Int.reduceLE, Int.reduceLT, Int.reduceToNat, Int.reduceEq, Int.reduceAdd, Int.reduceSub, Int.reduceMul, ty_3, tk_3, ty_4, tk_4, a0, a1, hl])
    | ((with_reducible refine condW_b _ _ _ _ (fun hq => ?_) (fun hq => ?_)) <;> simp only [wB, E0_tys, appI, bsI, slI, sliceI, sliceS, optI, appendI, srcI, chunk, fillI, fzParts, fzL, fz1, planAt, loadI, storeI, takeI, TK.agg, TK.known, cellsI, fillRow, okCell, bltI, builtinI, lenI, indexAddrI, fieldAddrI, fieldI, indexI, nilChkI, An.isImm, pureC, pure0, impI, impL, impC, cutO, An.imps, List.replicate, decide_true, decide_false, cond_true, cond_false, if_true, if_false, ite_true, ite_false, ne_eq, forall_const, eq_self, reduceCtorEq, reduceIte, Nat.reduceLT, Nat.reduceLeDiff, Nat.reduceAdd, Nat.reduceSub, Nat.reduceMul, Nat.reduceEqDiff, Nat.reduceBEq, Int.reduceLE, Int.reduceLT, Int.reduceToNat, Int.reduceEq, Int.reduceAdd, Int.reduceSub, Int.reduceMul, ty_3, tk_3, ty_4, tk_4, a0, a1, hl])
    | ((with_reducible refine callPu0 (c87 a) ?_ ?_ ?_); rfl; rfl; simp only [wB, E0_tys, appI, bsI, slI, sliceI, sliceS, optI, appendI, srcI, chunk, fillI, fzParts, fzL, fz1, planAt, loadI, storeI, takeI, TK.agg, TK.known, cellsI, fillRow, okCell, bltI, builtinI, lenI, indexAddrI, fieldAddrI, fieldI, indexI, nilChkI, An.isImm, pureC, pure0, impI, impL, impC, cutO, An.imps, List.replicate, decide_true, decide_false, cond_true, cond_false, if_true, if_false, ite_true, ite_false, ne_eq, forall_const, eq_self, reduceCtorEq, reduceIte, Nat.reduceLT, Nat.reduceLeDiff, Nat.reduceAdd, Nat.reduceSub, Nat.reduceMul, Nat.reduceEqDiff, Nat.reduceBEq, Int.reduceLE, Int.reduceLT, Int.reduceToNat, Int.reduceEq, Int.reduceAdd, Int.reduceSub, Int.reduceMul, ty_3, tk_3, ty_4, tk_4, a0, a1, hl])
    | ((with_reducible refine callPu0 (c87 b) ?_ ?_ ?_); rfl; rfl; simp only [wB, E0_tys, appI, bsI, slI, sliceI, sliceS, optI, appendI, srcI, chunk, fillI, fzParts, fzL, fz1, planAt, loadI, storeI, takeI, TK.agg, TK.known, cellsI, fillRow, okCell, bltI, builtinI, lenI, indexAddrI, fieldAddrI, fieldI, indexI, nilChkI, An.isImm, pureC, pure0, impI, impL, impC, cutO, An.imps, List.replicate, decide_true, decide_false, cond_true, cond_false, if_true, if_false, ite_true, ite_false, ne_eq, forall_const, eq_self, reduceCtorEq, reduceIte, Nat.reduceLT, Nat.reduceLeDiff, Nat.reduceAdd, Nat.reduceSub, Nat.reduceMul, Nat.reduceEqDiff, Nat.reduceBEq, Int.reduceLE, Int.reduceLT, Int.reduceToNat, Int.reduceEq, Int.reduceAdd, Int.reduceSub, Int.reduceMul, ty_3, tk_3, ty_4, tk_4, a0, a1, hl])
  all_goals simp_all [cmpZ]
  all_goals rw [if_neg (by omega), if_neg (by omega)]
def cmpC (a b : Int) : Int := cmpZ (classF a) (classF b)
theorem c77 (a b : Int) : PC Try.prog true 77 [.i .i64 a, .i .i64 b] (.i .i64 (cmpC a b)) [] := by
  refine pcW E0_ok mm (fn := Try.f77) (by kernel_rfl) (by kernel_rfl) (by kernel_rfl) [] (by kernel_rfl) [] (by rw [show Try.f77.ntmps = 2 + 8 by kernel_rfl]; exact Nat.le_add_right _ _) ?_
  intro T hl hx
  have a0 := hx 0 _ rfl
  have a1 := hx 1 _ rfl
  clear hx
  simp only [bodyOf, Try.f77] at hl ⊢
  (simp only [wB, E0_tys, appI, bsI, slI, sliceI, sliceS, optI, appendI, srcI, chunk, fillI, fzParts, fzL, fz1, planAt, loadI, storeI, takeI, TK.agg, TK.known, cellsI, fillRow, okCell, bltI, builtinI, lenI, indexAddrI, fieldAddrI, fieldI, indexI, nilChkI, An.isImm, pureC, pure0, impI, impL, impC, cutO, An.imps, List.replicate, decide_true, decide_false, cond_true, cond_false, if_true, if_false, ite_true, ite_false, ne_eq, forall_const, eq_self, reduceCtorEq, reduceIte, Nat.reduceLT, Nat.reduceLeDiff, Nat.reduceAdd, Nat.reduceSub, Nat.reduceMul, Nat.reduceEqDiff, Nat.reduceBEq, Int.reduceLE, Int.reduceLT, Int.reduceToNat, Int.reduceEq, Int.reduceAdd, Int.reduceSub, Int.reduceMul, ty_3, tk_3, ty_4, tk_4, a0, a1, hl])
  repeat' first
    | ((with_reducible refine guardW_b _ _ _ _ _ _ (fun hq => ?_) (fun hq => ?_)) <;> simp only [wB, E0_tys, appI, bsI, slI, sliceI, sliceS, optI, appendI, srcI, chunk, fillI, fzParts, fzL, fz1, planAt, loadI, storeI, takeI, TK.agg, TK.known, cellsI, fillRow, okCell, bltI, builtinI, lenI, indexAddrI, fieldAddrI, fieldI, indexI, nilChkI, An.isImm, pureC, pure0, impI, impL, impC, cutO, An.imps, List.replicate, decide_true, decide_false, cond_true, cond_false, if_true, if_false, ite_true, ite_false, ne_eq, forall_const, eq_self, reduceCtorEq, reduceIte, Nat.reduceLT, Nat.reduceLeDiff, Nat.reduceAdd, Nat.reduceSub, Nat.reduceMul, Nat.reduceEqDiff, Nat.reduceBEq, Int.reduceLE, Int.reduceLT, Int.reduceToNat, Int.reduceEq, Int.reduceAdd, Int.reduceSub, Int.reduceMul, ty_3, tk_3, ty_4, tk_4, a0, a1, hl])
    | ((with_reducible refine condW_b _ _ _ _ (fun hq => ?_) (fun hq => ?_)) <;> simp only [wB, E0_tys, appI, bsI, slI, sliceI, sliceS, optI, appendI, srcI, chunk, fillI, fzParts, fzL, fz1, planAt, loadI, storeI, takeI, TK.agg, TK.known, cellsI, fillRow, okCell, bltI, builtinI, lenI, indexAddrI, fieldAddrI, fieldI, indexI, nilChkI, An.isImm, pureC, pure0, impI, impL, impC, cutO, An.imps, List.replicate, decide_true, decide_false, cond_true, cond_false, if_true, if_false, ite_true, ite_false, ne_eq, forall_const, eq_self, reduceCtorEq, reduceIte, Nat.reduceLT, Nat.reduceLeDiff, Nat.reduceAdd, Nat.reduceSub, Nat.reduceMul, Nat.reduceEqDiff, Nat.reduceBEq, Int.reduceLE, Int.reduceLT, Int.reduceToNat, Int.reduceEq, Int.reduceAdd, Int.reduceSub, Int.reduceMul, ty_3, tk_3, ty_4, tk_4, a0, a1, hl])
    | ((with_reducible refine callPu0 (c59 a) ?_ ?_ ?_); rfl; rfl; simp only [wB, E0_tys, appI, bsI, slI, sliceI, sliceS, optI, appendI, srcI, chunk, fillI, fzParts, fzL, fz1, planAt, loadI, storeI, takeI, TK.agg, TK.known, cellsI, fillRow, okCell, bltI, builtinI, lenI, indexAddrI, fieldAddrI, fieldI, indexI, nilChkI, An.isImm, pureC, pure0, impI, impL, impC, cutO, An.imps, List.replicate, decide_true, decide_false, cond_true, cond_false, if_true, if_false, ite_true, ite_false, ne_eq, forall_const, eq_self, reduceCtorEq, reduceIte, Nat.reduceLT, Nat.reduceLeDiff, Nat.reduceAdd, Nat.reduceSub, Nat.reduceMul, Nat.reduceEqDiff, Nat.reduceBEq, Int.reduceLE, Int.reduceLT, Int.reduceToNat, Int.reduceEq, Int.reduceAdd, Int.reduceSub, Int.reduceMul, ty_3, tk_3, ty_4, tk_4, a0, a1, hl])
    | ((with_reducible refine callPu0 (c59 b) ?_ ?_ ?_); rfl; rfl; simp only [wB, E0_tys, appI, bsI, slI, sliceI, sliceS, optI, appendI, srcI, chunk, fillI, fzParts, fzL, fz1, planAt, loadI, storeI, takeI, TK.agg, TK.known, cellsI, fillRow, okCell, bltI, builtinI, lenI, indexAddrI, fieldAddrI, fieldI, indexI, nilChkI, An.isImm, pureC, pure0, impI, impL, impC, cutO, An.imps, List.replicate, decide_true, decide_false, cond_true, cond_false, if_true, if_false, ite_true, ite_false, ne_eq, forall_const, eq_self, reduceCtorEq, reduceIte, Nat.reduceLT, Nat.reduceLeDiff, Nat.reduceAdd, Nat.reduceSub, Nat.reduceMul, Nat.reduceEqDiff, Nat.reduceBEq, Int.reduceLE, Int.reduceLT, Int.reduceToNat, Int.reduceEq, Int.reduceAdd, Int.reduceSub, Int.reduceMul, ty_3, tk_3, ty_4, tk_4, a0, a1, hl])
    | ((with_reducible refine callPu0 (c78 (classF a) (classF b)) ?_ ?_ ?_); rfl; rfl; simp only [wB, E0_tys, appI, bsI, slI, sliceI, sliceS, optI, appendI, srcI, chunk, fillI, fzParts, fzL, fz1, planAt, loadI, storeI, takeI, TK.agg, TK.known, cellsI, fillRow, okCell, bltI, builtinI, lenI, indexAddrI, fieldAddrI, fieldI, indexI, nilChkI, An.isImm, pureC, pure0, impI, impL, impC, cutO, An.imps, List.replicate, decide_true, decide_false, cond_true, cond_false, if_true, if_false, ite_true, ite_false, ne_eq, forall_const, eq_self, reduceCtorEq, reduceIte, Nat.reduceLT, Nat.reduceLeDiff, Nat.reduceAdd, Nat.reduceSub, Nat.reduceMul, Nat.reduceEqDiff, Nat.reduceBEq, Int.reduceLE, Int.reduceLT, Int.reduceToNat, Int.reduceEq, Int.reduceAdd, Int.reduceSub, Int.reduceMul, ty_3, tk_3, ty_4, tk_4, a0, a1, hl])
  all_goals rfl
end Go.Proofs
set_option maxRecDepth 100000
set_option maxHeartbeats 4000000
set_option linter.unusedVariables false
set_option linter.unusedSimpArgs false
namespace Go.Proofs
open Go.Iv
/-- Register 0 holds these numbers. -/
def Lv (R : List Reg) (ver : Nat) (xs : List Int) : Prop := liveR R 0 ver = some ⟨false, 3, 1, encI xs⟩
abbrev cmpI : IV := .fn (.func 77) [] []
theorem Lv.set {R : List Reg} {ver : Nat} {xs : List Int} (i : Nat) (x : Int) : Lv (setR R 0 ⟨ver, some ⟨false, 3, 1, (encI xs).set i [.i .i64 x]⟩⟩) ver (xs.set i x) := by
  unfold Lv
  rw [lr_set, encI_set]
theorem swap_facts {xs : List Int} {i k : Nat} {a b : Int} (ha : xs[i]? = some a) (hb : xs[k]? = some b) (hne : i ≠ k) :
    ((encI xs).set i [.i .i64 b])[k]? = some [.i .i64 b] ∧ ((xs.set i b).set k a).Perm xs ∧ ((encI xs).set i [.i .i64 b]).set k [.i .i64 a] = encI ((xs.set i b).set k a) := by
  have hi : i < xs.length := (List.getElem?_eq_some_iff.1 ha).1
  have hk : k < xs.length := (List.getElem?_eq_some_iff.1 hb).1
  have ea : xs[i] = a := (List.getElem?_eq_some_iff.1 ha).2
  have eb : xs[k] = b := (List.getElem?_eq_some_iff.1 hb).2
  refine ⟨?_, ?_, ?_⟩
  · rw [encI_set, encI_get]
    rw [List.getElem?_set_ne hne]
    exact hb
  · have := List.set_set_perm hi hk
    rw [ea, eb] at this
    exact this
  · rw [encI_set, encI_set]
theorem c104 (R : List Reg) (ver off N a b n : Nat) (xs : List Int) (hL : Lv R ver xs) (hN : off + N ≤ xs.length) (hx : xs.length ≤ 1000000) (hab : a < b) (hb : b + n ≤ N) :
    ∃ y R1, (y = .tu [] ∧ ∃ ys, ys.Perm xs ∧ Lv R1 ver ys) ∧ IC Try.prog 104 [.rf 0 ver off N, .i .i64 a, .i .i64 b, .i .i64 n, cmpI] R y R1 := by
  refine icE E0_ok mm (fn := Try.f104) (by kernel_rfl) (by kernel_rfl) (by kernel_rfl) [(3, 999, .plan (.pure 0 (.pure 1 (.pure 2 (.pure 3 (.pure 4 (.pure 5 (.pure 6 (.pure 7 (.pure 8 (.pure 9 (.pure 10 (.pure 11 (.pure 14 (.pure 15 (.pure 16 (.pure 17 (.read 12 (.read 13 (.one 18 (.one 19 (.one 20 (.one 21 (.one 22 (.one 23 (.done))))))))))))))))))))))))))] (by kernel_rfl) [] (by rw [show Try.f104.ntmps = 5 + 33 by kernel_rfl]; exact Nat.le_add_right _ _) ?_
  intro T hl hx
  have a0 := hx 0 _ rfl
  have a1 := hx 1 _ rfl
  have a2 := hx 2 _ rfl
  have a3 := hx 3 _ rfl
  have a4 := hx 4 _ rfl
  clear hx
  simp only [bodyOf, Try.f104] at hl ⊢
  simp only [wB, E0_tys, appI, bsI, slI, sliceI, sliceS, optI, appendI, srcI, chunk, fillI, fzParts, fzL, fz1, planAt, loadI, storeI, takeI, TK.agg, TK.known, cellsI, fillRow, okCell, bltI, builtinI, lenI, indexAddrI, fieldAddrI, fieldI, indexI, nilChkI, An.isImm, pureC, pure0, impI, impL, impC, cutO, An.imps, List.replicate, decide_true, decide_false, cond_true, cond_false, if_true, if_false, ite_true, ite_false, ne_eq, forall_const, eq_self, reduceCtorEq, reduceIte, Nat.reduceLT, Nat.reduceLeDiff, Nat.reduceAdd, Nat.reduceSub, Nat.reduceMul, Nat.reduceEqDiff, Nat.reduceBEq, Int.reduceLE, Int.reduceLT, Int.reduceToNat, Int.reduceEq, Int.reduceAdd, Int.reduceSub, Int.reduceMul, ty_3, tk_3, ty_36, tk_36, ty_4, tk_4, a0, a1, a2, a3, hl]
  refine W_loop _ _ _ _ _ _ _ (fun T R => ∃ k : Nat, k ≤ n ∧ T.length = 38 ∧ getT T 0 = .rf 0 ver off N ∧ getT T 1 = .i .i64 (a : Int) ∧ getT T 2 = .i .i64 (b : Int) ∧ getT T 3 = .i .i64 (n : Int) ∧ getT T 10 = .i .i64 (k : Int) ∧ ∃ ys, ys.Perm xs ∧ Lv R ver ys)
    (fun T _ => n - (asI (getT T 10)).toNat) ⟨0, ?_⟩ ?_
  · simp only [wB, E0_tys, appI, bsI, slI, sliceI, sliceS, optI, appendI, srcI, chunk, fillI, fzParts, fzL, fz1, planAt, loadI, storeI, takeI, TK.agg, TK.known, cellsI, fillRow, okCell, bltI, builtinI, lenI, indexAddrI, fieldAddrI, fieldI, indexI, nilChkI, An.isImm, pureC, pure0, impI, impL, impC, cutO, An.imps, List.replicate, decide_true, decide_false, cond_true, cond_false, if_true, if_false, ite_true, ite_false, ne_eq, forall_const, eq_self, reduceCtorEq, reduceIte, Nat.reduceLT, Nat.reduceLeDiff, Nat.reduceAdd, Nat.reduceSub, Nat.reduceMul, Nat.reduceEqDiff, Nat.reduceBEq, Int.reduceLE, Int.reduceLT, Int.reduceToNat, Int.reduceEq, Int.reduceAdd, Int.reduceSub, Int.reduceMul, ty_3, tk_3, ty_36, tk_36, ty_4, tk_4, a0, a1, a2, a3, hl]
    exact ⟨xs, List.Perm.refl _, hL⟩
  · rintro T R ⟨k, hk, hl, a0, a1, a2, a3, a10, ys, hp, hL⟩
    have hlen : ys.length = xs.length := hp.length_eq
    simp only [wB, E0_tys, appI, bsI, slI, sliceI, sliceS, optI, appendI, srcI, chunk, fillI, fzParts, fzL, fz1, planAt, loadI, storeI, takeI, TK.agg, TK.known, cellsI, fillRow, okCell, bltI, builtinI, lenI, indexAddrI, fieldAddrI, fieldI, indexI, nilChkI, An.isImm, pureC, pure0, impI, impL, impC, cutO, An.imps, List.replicate, decide_true, decide_false, cond_true, cond_false, if_true, if_false, ite_true, ite_false, ne_eq, forall_const, eq_self, reduceCtorEq, reduceIte, Nat.reduceLT, Nat.reduceLeDiff, Nat.reduceAdd, Nat.reduceSub, Nat.reduceMul, Nat.reduceEqDiff, Nat.reduceBEq, Int.reduceLE, Int.reduceLT, Int.reduceToNat, Int.reduceEq, Int.reduceAdd, Int.reduceSub, Int.reduceMul, ty_3, tk_3, ty_36, tk_36, ty_4, tk_4, a0, a1, a2, a3, a10, hl]
    refine condW_b _ _ _ _ (fun hq => ?_) (fun hq => ?_)
    · have hk2 : k < n := by simpa using hq
      obtain ⟨x, hx1⟩ := at_lt (show off + (a + k) < ys.length by omega)
      obtain ⟨y, hy1⟩ := at_lt (show off + (b + k) < ys.length by omega)
      obtain ⟨f1, f2, f3⟩ := swap_facts hx1 hy1 (by omega)
      have ex := encI_get hx1
      have ey := encI_get hy1
      have hw : IntKind.i64.wrap ((k : Int) + 1) = ((k + 1 : Nat) : Int) := by rw [wrap64] <;> omega
      have hwa : IntKind.i64.wrap ((a : Int) + (k : Int)) = ((a + k : Nat) : Int) := by rw [wrap64] <;> omega
      have hwb : IntKind.i64.wrap ((b : Int) + (k : Int)) = ((b + k : Nat) : Int) := by rw [wrap64] <;> omega
      have l1 : a + k < N := by omega
      have l2 : b + k < N := by omega
      unfold Lv at hL
      simp only [wB, E0_tys, appI, bsI, slI, sliceI, sliceS, optI, appendI, srcI, chunk, fillI, fzParts, fzL, fz1, planAt, loadI, storeI, takeI, TK.agg, TK.known, cellsI, fillRow, okCell, bltI, builtinI, lenI, indexAddrI, fieldAddrI, fieldI, indexI, nilChkI, An.isImm, pureC, pure0, impI, impL, impC, cutO, An.imps, List.replicate, decide_true, decide_false, cond_true, cond_false, if_true, if_false, ite_true, ite_false, ne_eq, forall_const, eq_self, reduceCtorEq, reduceIte, Nat.reduceLT, Nat.reduceLeDiff, Nat.reduceAdd, Nat.reduceSub, Nat.reduceMul, Nat.reduceEqDiff, Nat.reduceBEq, Int.reduceLE, Int.reduceLT, Int.reduceToNat, Int.reduceEq, Int.reduceAdd, Int.reduceSub, Int.reduceMul, ty_3, tk_3, ty_36, tk_36, ty_4, tk_4, a0, a1, a2, a3, a10, hl, hw, hwa, hwb, l1, l2, hL, ex, ey, f1, f3]
      exact ⟨⟨k + 1, hk2, rfl, _, f2.trans hp, lr_set _ _ _ _⟩, by simp only [asI]; omega⟩
    · simp only [wB, E0_tys, appI, bsI, slI, sliceI, sliceS, optI, appendI, srcI, chunk, fillI, fzParts, fzL, fz1, planAt, loadI, storeI, takeI, TK.agg, TK.known, cellsI, fillRow, okCell, bltI, builtinI, lenI, indexAddrI, fieldAddrI, fieldI, indexI, nilChkI, An.isImm, pureC, pure0, impI, impL, impC, cutO, An.imps, List.replicate, decide_true, decide_false, cond_true, cond_false, if_true, if_false, ite_true, ite_false, ne_eq, forall_const, eq_self, reduceCtorEq, reduceIte, Nat.reduceLT, Nat.reduceLeDiff, Nat.reduceAdd, Nat.reduceSub, Nat.reduceMul, Nat.reduceEqDiff, Nat.reduceBEq, Int.reduceLE, Int.reduceLT, Int.reduceToNat, Int.reduceEq, Int.reduceAdd, Int.reduceSub, Int.reduceMul, ty_3, tk_3, ty_36, tk_36, ty_4, tk_4, a0, a1, a2, a3, hl]
      exact ⟨ys, hp, hL⟩
end Go.Proofs
