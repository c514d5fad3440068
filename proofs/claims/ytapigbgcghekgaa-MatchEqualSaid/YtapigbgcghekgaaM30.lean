import Derived.Test.YtapigbgcghekgaaM29
set_option linter.unusedVariables false
set_option linter.unusedSimpArgs false
set_option maxRecDepth 100000
set_option maxHeartbeats 4000000
set_option linter.unusedVariables false
set_option linter.unusedSimpArgs false
namespace Go.Proofs
open Go.Iv
theorem c95 (R : List Reg) (ver off N a b : Nat) (xs : List Int) (hL : Lv R ver xs) (hN : off + N ≤ xs.length) (hx : xs.length ≤ 1000000) (hab : a ≤ b) (hb : b ≤ N) :
    ∃ y R1, (y = .tu [] ∧ ∃ ys, ys.Perm xs ∧ Lv R1 ver ys) ∧ IC Try.prog 95 [.rf 0 ver off N, .i .i64 a, .i .i64 b, cmpI] R y R1 := by
  have w1 : IntKind.i64.wrap ((a : Int) + 1) = ((a + 1 : Nat) : Int) := by rw [wrap64] <;> omega
  refine icE E0_ok mm (fn := Try.f95) (by kernel_rfl) (by kernel_rfl) (by kernel_rfl) [(4, 999, .plan (.pure 0 (.pure 1 (.pure 2 (.pure 3 (.pure 4 (.pure 5 (.pure 6 (.read 7 (.read 8 (.pure 9 (.pure 10 (.pure 11 (.read 12 (.read 13 (.pure 14 (.pure 15 (.pure 16 (.done))))))))))))))))))), (6, 999, .plan (.pure 0 (.pure 1 (.pure 2 (.pure 3 (.pure 4 (.pure 5 (.pure 6 (.pure 7 (.pure 10 (.pure 11 (.read 8 (.read 9 (.one 12 (.one 13 (.one 14 (.one 15 (.one 16 (.one 17 (.done))))))))))))))))))))] (by kernel_rfl) [] (by rw [show Try.f95.ntmps = 4 + 49 by kernel_rfl]; exact Nat.le_add_right _ _) ?_
  intro T hl hx
  have a0 := hx 0 _ rfl
  have a1 := hx 1 _ rfl
  have a2 := hx 2 _ rfl
  have a3 := hx 3 _ rfl
  clear hx
  simp only [bodyOf, Try.f95] at hl ⊢
  simp only [wB, E0_tys, appI, bsI, slI, sliceI, sliceS, optI, appendI, srcI, chunk, fillI, fzParts, fzL, fz1, planAt, loadI, storeI, takeI, TK.agg, TK.known, cellsI, fillRow, okCell, bltI, builtinI, lenI, indexAddrI, fieldAddrI, fieldI, indexI, nilChkI, An.isImm, pureC, pure0, impI, impL, impC, cutO, An.imps, List.replicate, decide_true, decide_false, cond_true, cond_false, if_true, if_false, ite_true, ite_false, ne_eq, forall_const, eq_self, reduceCtorEq, reduceIte, Nat.reduceLT, Nat.reduceLeDiff, Nat.reduceAdd, Nat.reduceSub, Nat.reduceMul, Nat.reduceEqDiff, Nat.reduceBEq, Int.reduceLE, Int.reduceLT, Int.reduceToNat, Int.reduceEq, Int.reduceAdd, Int.reduceSub, Int.reduceMul, ty_3, tk_3, ty_36, tk_36, ty_4, tk_4, a0, a1, a2, a3, hl, w1]
  refine W_loop _ _ _ _ _ _ _ (fun T R => ∃ k : Nat, a < k ∧ k ≤ b + 1 ∧ T.length = 53 ∧ getT T 0 = .rf 0 ver off N ∧ getT T 1 = .i .i64 (a : Int) ∧ getT T 2 = .i .i64 (b : Int) ∧ getT T 3 = cmpI ∧ getT T 8 = .i .i64 (k : Int) ∧ ∃ ys, ys.Perm xs ∧ Lv R ver ys)
    (fun T _ => b + 1 - (asI (getT T 8)).toNat) ⟨a + 1, by omega, by omega, ?_⟩ ?_
  · simp only [wB, E0_tys, appI, bsI, slI, sliceI, sliceS, optI, appendI, srcI, chunk, fillI, fzParts, fzL, fz1, planAt, loadI, storeI, takeI, TK.agg, TK.known, cellsI, fillRow, okCell, bltI, builtinI, lenI, indexAddrI, fieldAddrI, fieldI, indexI, nilChkI, An.isImm, pureC, pure0, impI, impL, impC, cutO, An.imps, List.replicate, decide_true, decide_false, cond_true, cond_false, if_true, if_false, ite_true, ite_false, ne_eq, forall_const, eq_self, reduceCtorEq, reduceIte, Nat.reduceLT, Nat.reduceLeDiff, Nat.reduceAdd, Nat.reduceSub, Nat.reduceMul, Nat.reduceEqDiff, Nat.reduceBEq, Int.reduceLE, Int.reduceLT, Int.reduceToNat, Int.reduceEq, Int.reduceAdd, Int.reduceSub, Int.reduceMul, ty_3, tk_3, ty_36, tk_36, ty_4, tk_4, a0, a1, a2, a3, hl]
    exact ⟨xs, List.Perm.refl _, hL⟩
  · rintro T R ⟨k, hk1, hk, hl, a0, a1, a2, a3, a8, ys, hp, hL⟩
    simp only [wB, E0_tys, appI, bsI, slI, sliceI, sliceS, optI, appendI, srcI, chunk, fillI, fzParts, fzL, fz1, planAt, loadI, storeI, takeI, TK.agg, TK.known, cellsI, fillRow, okCell, bltI, builtinI, lenI, indexAddrI, fieldAddrI, fieldI, indexI, nilChkI, An.isImm, pureC, pure0, impI, impL, impC, cutO, An.imps, List.replicate, decide_true, decide_false, cond_true, cond_false, if_true, if_false, ite_true, ite_false, ne_eq, forall_const, eq_self, reduceCtorEq, reduceIte, Nat.reduceLT, Nat.reduceLeDiff, Nat.reduceAdd, Nat.reduceSub, Nat.reduceMul, Nat.reduceEqDiff, Nat.reduceBEq, Int.reduceLE, Int.reduceLT, Int.reduceToNat, Int.reduceEq, Int.reduceAdd, Int.reduceSub, Int.reduceMul, ty_3, tk_3, ty_36, tk_36, ty_4, tk_4, a0, a1, a2, a3, a8, hl]
    refine condW_b _ _ _ _ (fun hq => ?_) (fun hq => ?_)
    · have hk2 : k < b := by simpa using hq
      have hw : IntKind.i64.wrap ((k : Int) + 1) = ((k + 1 : Nat) : Int) := by rw [wrap64] <;> omega
      simp only [wB, E0_tys, appI, bsI, slI, sliceI, sliceS, optI, appendI, srcI, chunk, fillI, fzParts, fzL, fz1, planAt, loadI, storeI, takeI, TK.agg, TK.known, cellsI, fillRow, okCell, bltI, builtinI, lenI, indexAddrI, fieldAddrI, fieldI, indexI, nilChkI, An.isImm, pureC, pure0, impI, impL, impC, cutO, An.imps, List.replicate, decide_true, decide_false, cond_true, cond_false, if_true, if_false, ite_true, ite_false, ne_eq, forall_const, eq_self, reduceCtorEq, reduceIte, Nat.reduceLT, Nat.reduceLeDiff, Nat.reduceAdd, Nat.reduceSub, Nat.reduceMul, Nat.reduceEqDiff, Nat.reduceBEq, Int.reduceLE, Int.reduceLT, Int.reduceToNat, Int.reduceEq, Int.reduceAdd, Int.reduceSub, Int.reduceMul, ty_3, tk_3, ty_36, tk_36, ty_4, tk_4, a0, a1, a2, a3, a8, hl]
      refine W_loop _ _ _ _ _ _ _ (fun T R => ∃ j : Nat, a ≤ j ∧ j ≤ k ∧ T.length = 53 ∧ getT T 0 = .rf 0 ver off N ∧ getT T 1 = .i .i64 (a : Int) ∧ getT T 2 = .i .i64 (b : Int) ∧ getT T 3 = cmpI ∧ getT T 8 = .i .i64 (k : Int) ∧ getT T 9 = .i .i64 (j : Int) ∧ ∃ ys, ys.Perm xs ∧ Lv R ver ys)
        (fun T _ => (asI (getT T 9)).toNat) ⟨k, by omega, Nat.le_refl _, ?_⟩ ?_
      · simp only [wB, E0_tys, appI, bsI, slI, sliceI, sliceS, optI, appendI, srcI, chunk, fillI, fzParts, fzL, fz1, planAt, loadI, storeI, takeI, TK.agg, TK.known, cellsI, fillRow, okCell, bltI, builtinI, lenI, indexAddrI, fieldAddrI, fieldI, indexI, nilChkI, An.isImm, pureC, pure0, impI, impL, impC, cutO, An.imps, List.replicate, decide_true, decide_false, cond_true, cond_false, if_true, if_false, ite_true, ite_false, ne_eq, forall_const, eq_self, reduceCtorEq, reduceIte, Nat.reduceLT, Nat.reduceLeDiff, Nat.reduceAdd, Nat.reduceSub, Nat.reduceMul, Nat.reduceEqDiff, Nat.reduceBEq, Int.reduceLE, Int.reduceLT, Int.reduceToNat, Int.reduceEq, Int.reduceAdd, Int.reduceSub, Int.reduceMul, ty_3, tk_3, ty_36, tk_36, ty_4, tk_4, a0, a1, a2, a3, a8, hl]
        exact ⟨ys, hp, hL⟩
      · have a8o := a8
        clear hl a0 a1 a2 a3 a8 hp hL
        rintro T R ⟨j, hj1, hj, hl, a0, a1, a2, a3, a8, a9, ys, hp, hL⟩
        have hlen : ys.length = xs.length := hp.length_eq
        rcases Nat.lt_or_ge a j with hlt | hge
        · obtain ⟨x, hx1⟩ := at_lt (show off + j < ys.length by omega)
          obtain ⟨y, hy1⟩ := at_lt (show off + (j - 1) < ys.length by omega)
          obtain ⟨f1, f2, f3⟩ := swap_facts hx1 hy1 (by omega)
          have ex := encI_get hx1
          have ey := encI_get hy1
          have v1 : IntKind.i64.wrap ((j : Int) - 1) = ((j - 1 : Nat) : Int) := by rw [wrap64] <;> omega
          have l1 : j < N := by omega
          have l2 : j - 1 < N := by omega
          have l3 : (a : Int) < (j : Int) := by omega
          have hL' := hL
          unfold Lv at hL'
          simp only [wB, E0_tys, appI, bsI, slI, sliceI, sliceS, optI, appendI, srcI, chunk, fillI, fzParts, fzL, fz1, planAt, loadI, storeI, takeI, TK.agg, TK.known, cellsI, fillRow, okCell, bltI, builtinI, lenI, indexAddrI, fieldAddrI, fieldI, indexI, nilChkI, An.isImm, pureC, pure0, impI, impL, impC, cutO, An.imps, List.replicate, decide_true, decide_false, cond_true, cond_false, if_true, if_false, ite_true, ite_false, ne_eq, forall_const, eq_self, reduceCtorEq, reduceIte, Nat.reduceLT, Nat.reduceLeDiff, Nat.reduceAdd, Nat.reduceSub, Nat.reduceMul, Nat.reduceEqDiff, Nat.reduceBEq, Int.reduceLE, Int.reduceLT, Int.reduceToNat, Int.reduceEq, Int.reduceAdd, Int.reduceSub, Int.reduceMul, ty_3, tk_3, ty_36, tk_36, ty_4, tk_4, a0, a1, a2, a3, a8, a9, hl, v1, l1, l2, l3, hL', ex, ey]
          refine callPu0 (c77 x y) rfl rfl ?_
          simp only [wB, E0_tys, appI, bsI, slI, sliceI, sliceS, optI, appendI, srcI, chunk, fillI, fzParts, fzL, fz1, planAt, loadI, storeI, takeI, TK.agg, TK.known, cellsI, fillRow, okCell, bltI, builtinI, lenI, indexAddrI, fieldAddrI, fieldI, indexI, nilChkI, An.isImm, pureC, pure0, impI, impL, impC, cutO, An.imps, List.replicate, decide_true, decide_false, cond_true, cond_false, if_true, if_false, ite_true, ite_false, ne_eq, forall_const, eq_self, reduceCtorEq, reduceIte, Nat.reduceLT, Nat.reduceLeDiff, Nat.reduceAdd, Nat.reduceSub, Nat.reduceMul, Nat.reduceEqDiff, Nat.reduceBEq, Int.reduceLE, Int.reduceLT, Int.reduceToNat, Int.reduceEq, Int.reduceAdd, Int.reduceSub, Int.reduceMul, ty_3, tk_3, ty_36, tk_36, ty_4, tk_4, a0, a1, a2, a3, a8, a9, hl, v1, l1, l2, l3, hL', ex, ey]
          refine condW_b _ _ _ _ (fun hq3 => ?_) (fun hq3 => ?_)
          · simp only [wB, E0_tys, appI, bsI, slI, sliceI, sliceS, optI, appendI, srcI, chunk, fillI, fzParts, fzL, fz1, planAt, loadI, storeI, takeI, TK.agg, TK.known, cellsI, fillRow, okCell, bltI, builtinI, lenI, indexAddrI, fieldAddrI, fieldI, indexI, nilChkI, An.isImm, pureC, pure0, impI, impL, impC, cutO, An.imps, List.replicate, decide_true, decide_false, cond_true, cond_false, if_true, if_false, ite_true, ite_false, ne_eq, forall_const, eq_self, reduceCtorEq, reduceIte, Nat.reduceLT, Nat.reduceLeDiff, Nat.reduceAdd, Nat.reduceSub, Nat.reduceMul, Nat.reduceEqDiff, Nat.reduceBEq, Int.reduceLE, Int.reduceLT, Int.reduceToNat, Int.reduceEq, Int.reduceAdd, Int.reduceSub, Int.reduceMul, ty_3, tk_3, ty_36, tk_36, ty_4, tk_4, a0, a1, a2, a3, a8, a9, hl, v1, l1, l2, l3, hL', ex, ey, f1, f3]
            exact ⟨⟨j - 1, by omega, by omega, rfl, _, f2.trans hp, lr_set _ _ _ _⟩, by simp only [asI]; omega⟩
          · simp only [wB, E0_tys, appI, bsI, slI, sliceI, sliceS, optI, appendI, srcI, chunk, fillI, fzParts, fzL, fz1, planAt, loadI, storeI, takeI, TK.agg, TK.known, cellsI, fillRow, okCell, bltI, builtinI, lenI, indexAddrI, fieldAddrI, fieldI, indexI, nilChkI, An.isImm, pureC, pure0, impI, impL, impC, cutO, An.imps, List.replicate, decide_true, decide_false, cond_true, cond_false, if_true, if_false, ite_true, ite_false, ne_eq, forall_const, eq_self, reduceCtorEq, reduceIte, Nat.reduceLT, Nat.reduceLeDiff, Nat.reduceAdd, Nat.reduceSub, Nat.reduceMul, Nat.reduceEqDiff, Nat.reduceBEq, Int.reduceLE, Int.reduceLT, Int.reduceToNat, Int.reduceEq, Int.reduceAdd, Int.reduceSub, Int.reduceMul, ty_3, tk_3, ty_36, tk_36, ty_4, tk_4, a0, a1, a2, a3, a8, a9, hl, hw]
            exact ⟨⟨k + 1, by omega, by omega, rfl, ys, hp, hL⟩, by rw [a8o]; simp only [asI]; omega⟩
        · have he : ¬ (a : Int) < (j : Int) := by omega
          simp only [wB, E0_tys, appI, bsI, slI, sliceI, sliceS, optI, appendI, srcI, chunk, fillI, fzParts, fzL, fz1, planAt, loadI, storeI, takeI, TK.agg, TK.known, cellsI, fillRow, okCell, bltI, builtinI, lenI, indexAddrI, fieldAddrI, fieldI, indexI, nilChkI, An.isImm, pureC, pure0, impI, impL, impC, cutO, An.imps, List.replicate, decide_true, decide_false, cond_true, cond_false, if_true, if_false, ite_true, ite_false, ne_eq, forall_const, eq_self, reduceCtorEq, reduceIte, Nat.reduceLT, Nat.reduceLeDiff, Nat.reduceAdd, Nat.reduceSub, Nat.reduceMul, Nat.reduceEqDiff, Nat.reduceBEq, Int.reduceLE, Int.reduceLT, Int.reduceToNat, Int.reduceEq, Int.reduceAdd, Int.reduceSub, Int.reduceMul, ty_3, tk_3, ty_36, tk_36, ty_4, tk_4, a0, a1, a2, a3, a8, a9, hl, he, hw]
          exact ⟨⟨k + 1, by omega, by omega, rfl, ys, hp, hL⟩, by rw [a8o]; simp only [asI]; omega⟩
    · simp only [wB, E0_tys, appI, bsI, slI, sliceI, sliceS, optI, appendI, srcI, chunk, fillI, fzParts, fzL, fz1, planAt, loadI, storeI, takeI, TK.agg, TK.known, cellsI, fillRow, okCell, bltI, builtinI, lenI, indexAddrI, fieldAddrI, fieldI, indexI, nilChkI, An.isImm, pureC, pure0, impI, impL, impC, cutO, An.imps, List.replicate, decide_true, decide_false, cond_true, cond_false, if_true, if_false, ite_true, ite_false, ne_eq, forall_const, eq_self, reduceCtorEq, reduceIte, Nat.reduceLT, Nat.reduceLeDiff, Nat.reduceAdd, Nat.reduceSub, Nat.reduceMul, Nat.reduceEqDiff, Nat.reduceBEq, Int.reduceLE, Int.reduceLT, Int.reduceToNat, Int.reduceEq, Int.reduceAdd, Int.reduceSub, Int.reduceMul, ty_3, tk_3, ty_36, tk_36, ty_4, tk_4, a0, hl]
      exact ⟨ys, hp, hL⟩
end Go.Proofs
