import Derived.Test.YtapigbgcghekgaaM38
import Derived.Test.YtapigbgcghekgaaM05
set_option linter.unusedVariables false
set_option linter.unusedSimpArgs false
set_option maxRecDepth 100000
set_option maxHeartbeats 8000000
set_option linter.unusedVariables false
set_option linter.unusedSimpArgs false
namespace Go.Proofs
open Go.Iv
theorem neb_int : ((1 : Int) = 1) = True ∧ ((1 : Int) = 2) = False ∧ ((1 : Int) = 3) = False ∧ ((2 : Int) = 1) = False ∧ ((2 : Int) = 2) = True ∧ ((2 : Int) = 3) = False ∧ ((3 : Int) = 1) = False ∧ ((3 : Int) = 2) = False ∧ ((3 : Int) = 3) = True := by decide
theorem c3 (na nb nc : Option Bool) (a b c : List RdnV) : PC Try.prog true 3 [.ag [.sl na (encN a)], .ag [.sl nb (encN b)], .ag [.sl nc (encN c)]] (.b true) [] := by
  have ka := c8 na a
  have kb := c8 nb b
  have kc := c8 nc c
  cases ha : heavyN a with
  | true =>
    rw [ha] at ka
    refine pcW E0_ok mm (fn := Try.f3) (by kernel_rfl) (by kernel_rfl) (by kernel_rfl) [(3, 999, .plan (.pure 0 (.pure 1 (.pure 2 (.pure 3 (.pure 4 (.pure 5 (.pure 6 (.pure 7 (.pure 8 (.pure 9 (.pure 10 (.pure 11 (.done))))))))))))))] (by kernel_rfl) [] (by rw [show Try.f3.ntmps = 3 + 94 by kernel_rfl]; exact Nat.le_add_right _ _) ?_
    intro T hl hx
    have a0 := hx 0 _ rfl
    have a1 := hx 1 _ rfl
    have a2 := hx 2 _ rfl
    clear hx
    simp only [bodyOf, Try.f3] at hl ⊢
    simp only [wB, E0_tys, appI, buildI, placesI, okPart, bsI, slI, sliceI, sliceS, optI, appendI, srcI, chunk, fillI, fzParts, fzL, fz1, planAt, loadI, storeI, takeI, TK.agg, TK.known, cellsI, fillRow, okCell, bltI, builtinI, lenI, indexAddrI, fieldAddrI, fieldI, indexI, nilChkI, An.isImm, pureC, pure0, impI, impL, impC, cutO, An.imps, List.replicate, decide_true, decide_false, cond_true, cond_false, if_true, if_false, ite_true, ite_false, ne_eq, forall_const, eq_self, reduceCtorEq, reduceIte, Nat.reduceLT, Nat.reduceLeDiff, Nat.reduceAdd, Nat.reduceSub, Nat.reduceMul, Nat.reduceEqDiff, Nat.reduceBEq, Int.reduceLE, Int.reduceLT, Int.reduceToNat, Int.reduceEq, Int.reduceAdd, Int.reduceSub, Int.reduceMul, ty_24, tk_24, ty_3, tk_3, ty_4, tk_4, a0, a1, a2, hl]
    refine callPu0 ka rfl rfl ?_
    simp only [wB, E0_tys, appI, buildI, placesI, okPart, bsI, slI, sliceI, sliceS, optI, appendI, srcI, chunk, fillI, fzParts, fzL, fz1, planAt, loadI, storeI, takeI, TK.agg, TK.known, cellsI, fillRow, okCell, bltI, builtinI, lenI, indexAddrI, fieldAddrI, fieldI, indexI, nilChkI, An.isImm, pureC, pure0, impI, impL, impC, cutO, An.imps, List.replicate, decide_true, decide_false, cond_true, cond_false, if_true, if_false, ite_true, ite_false, ne_eq, forall_const, eq_self, reduceCtorEq, reduceIte, Nat.reduceLT, Nat.reduceLeDiff, Nat.reduceAdd, Nat.reduceSub, Nat.reduceMul, Nat.reduceEqDiff, Nat.reduceBEq, Int.reduceLE, Int.reduceLT, Int.reduceToNat, Int.reduceEq, Int.reduceAdd, Int.reduceSub, Int.reduceMul, ty_24, tk_24, ty_3, tk_3, ty_4, tk_4, hl]
  | false =>
  cases hb : heavyN b with
  | true =>
    rw [ha] at ka
    rw [hb] at kb
    refine pcW E0_ok mm (fn := Try.f3) (by kernel_rfl) (by kernel_rfl) (by kernel_rfl) [(3, 999, .plan (.pure 0 (.pure 1 (.pure 2 (.pure 3 (.pure 4 (.pure 5 (.pure 6 (.pure 7 (.pure 8 (.pure 9 (.pure 10 (.pure 11 (.done))))))))))))))] (by kernel_rfl) [] (by rw [show Try.f3.ntmps = 3 + 94 by kernel_rfl]; exact Nat.le_add_right _ _) ?_
    intro T hl hx
    have a0 := hx 0 _ rfl
    have a1 := hx 1 _ rfl
    have a2 := hx 2 _ rfl
    clear hx
    simp only [bodyOf, Try.f3] at hl ⊢
    simp only [wB, E0_tys, appI, buildI, placesI, okPart, bsI, slI, sliceI, sliceS, optI, appendI, srcI, chunk, fillI, fzParts, fzL, fz1, planAt, loadI, storeI, takeI, TK.agg, TK.known, cellsI, fillRow, okCell, bltI, builtinI, lenI, indexAddrI, fieldAddrI, fieldI, indexI, nilChkI, An.isImm, pureC, pure0, impI, impL, impC, cutO, An.imps, List.replicate, decide_true, decide_false, cond_true, cond_false, if_true, if_false, ite_true, ite_false, ne_eq, forall_const, eq_self, reduceCtorEq, reduceIte, Nat.reduceLT, Nat.reduceLeDiff, Nat.reduceAdd, Nat.reduceSub, Nat.reduceMul, Nat.reduceEqDiff, Nat.reduceBEq, Int.reduceLE, Int.reduceLT, Int.reduceToNat, Int.reduceEq, Int.reduceAdd, Int.reduceSub, Int.reduceMul, ty_24, tk_24, ty_3, tk_3, ty_4, tk_4, a0, a1, a2, hl]
    refine callPu0 ka rfl rfl ?_
    simp only [wB, E0_tys, appI, buildI, placesI, okPart, bsI, slI, sliceI, sliceS, optI, appendI, srcI, chunk, fillI, fzParts, fzL, fz1, planAt, loadI, storeI, takeI, TK.agg, TK.known, cellsI, fillRow, okCell, bltI, builtinI, lenI, indexAddrI, fieldAddrI, fieldI, indexI, nilChkI, An.isImm, pureC, pure0, impI, impL, impC, cutO, An.imps, List.replicate, decide_true, decide_false, cond_true, cond_false, if_true, if_false, ite_true, ite_false, ne_eq, forall_const, eq_self, reduceCtorEq, reduceIte, Nat.reduceLT, Nat.reduceLeDiff, Nat.reduceAdd, Nat.reduceSub, Nat.reduceMul, Nat.reduceEqDiff, Nat.reduceBEq, Int.reduceLE, Int.reduceLT, Int.reduceToNat, Int.reduceEq, Int.reduceAdd, Int.reduceSub, Int.reduceMul, ty_24, tk_24, ty_3, tk_3, ty_4, tk_4, hl]
    refine callPu0 kb rfl rfl ?_
    simp only [wB, E0_tys, appI, buildI, placesI, okPart, bsI, slI, sliceI, sliceS, optI, appendI, srcI, chunk, fillI, fzParts, fzL, fz1, planAt, loadI, storeI, takeI, TK.agg, TK.known, cellsI, fillRow, okCell, bltI, builtinI, lenI, indexAddrI, fieldAddrI, fieldI, indexI, nilChkI, An.isImm, pureC, pure0, impI, impL, impC, cutO, An.imps, List.replicate, decide_true, decide_false, cond_true, cond_false, if_true, if_false, ite_true, ite_false, ne_eq, forall_const, eq_self, reduceCtorEq, reduceIte, Nat.reduceLT, Nat.reduceLeDiff, Nat.reduceAdd, Nat.reduceSub, Nat.reduceMul, Nat.reduceEqDiff, Nat.reduceBEq, Int.reduceLE, Int.reduceLT, Int.reduceToNat, Int.reduceEq, Int.reduceAdd, Int.reduceSub, Int.reduceMul, ty_24, tk_24, ty_3, tk_3, ty_4, tk_4, hl]
  | false =>
  cases hc : heavyN c with
  | true =>
    rw [ha] at ka
    rw [hb] at kb
    rw [hc] at kc
    refine pcW E0_ok mm (fn := Try.f3) (by kernel_rfl) (by kernel_rfl) (by kernel_rfl) [(3, 999, .plan (.pure 0 (.pure 1 (.pure 2 (.pure 3 (.pure 4 (.pure 5 (.pure 6 (.pure 7 (.pure 8 (.pure 9 (.pure 10 (.pure 11 (.done))))))))))))))] (by kernel_rfl) [] (by rw [show Try.f3.ntmps = 3 + 94 by kernel_rfl]; exact Nat.le_add_right _ _) ?_
    intro T hl hx
    have a0 := hx 0 _ rfl
    have a1 := hx 1 _ rfl
    have a2 := hx 2 _ rfl
    clear hx
    simp only [bodyOf, Try.f3] at hl ⊢
    simp only [wB, E0_tys, appI, buildI, placesI, okPart, bsI, slI, sliceI, sliceS, optI, appendI, srcI, chunk, fillI, fzParts, fzL, fz1, planAt, loadI, storeI, takeI, TK.agg, TK.known, cellsI, fillRow, okCell, bltI, builtinI, lenI, indexAddrI, fieldAddrI, fieldI, indexI, nilChkI, An.isImm, pureC, pure0, impI, impL, impC, cutO, An.imps, List.replicate, decide_true, decide_false, cond_true, cond_false, if_true, if_false, ite_true, ite_false, ne_eq, forall_const, eq_self, reduceCtorEq, reduceIte, Nat.reduceLT, Nat.reduceLeDiff, Nat.reduceAdd, Nat.reduceSub, Nat.reduceMul, Nat.reduceEqDiff, Nat.reduceBEq, Int.reduceLE, Int.reduceLT, Int.reduceToNat, Int.reduceEq, Int.reduceAdd, Int.reduceSub, Int.reduceMul, ty_24, tk_24, ty_3, tk_3, ty_4, tk_4, a0, a1, a2, hl]
    refine callPu0 ka rfl rfl ?_
    simp only [wB, E0_tys, appI, buildI, placesI, okPart, bsI, slI, sliceI, sliceS, optI, appendI, srcI, chunk, fillI, fzParts, fzL, fz1, planAt, loadI, storeI, takeI, TK.agg, TK.known, cellsI, fillRow, okCell, bltI, builtinI, lenI, indexAddrI, fieldAddrI, fieldI, indexI, nilChkI, An.isImm, pureC, pure0, impI, impL, impC, cutO, An.imps, List.replicate, decide_true, decide_false, cond_true, cond_false, if_true, if_false, ite_true, ite_false, ne_eq, forall_const, eq_self, reduceCtorEq, reduceIte, Nat.reduceLT, Nat.reduceLeDiff, Nat.reduceAdd, Nat.reduceSub, Nat.reduceMul, Nat.reduceEqDiff, Nat.reduceBEq, Int.reduceLE, Int.reduceLT, Int.reduceToNat, Int.reduceEq, Int.reduceAdd, Int.reduceSub, Int.reduceMul, ty_24, tk_24, ty_3, tk_3, ty_4, tk_4, hl]
    refine callPu0 kb rfl rfl ?_
    simp only [wB, E0_tys, appI, buildI, placesI, okPart, bsI, slI, sliceI, sliceS, optI, appendI, srcI, chunk, fillI, fzParts, fzL, fz1, planAt, loadI, storeI, takeI, TK.agg, TK.known, cellsI, fillRow, okCell, bltI, builtinI, lenI, indexAddrI, fieldAddrI, fieldI, indexI, nilChkI, An.isImm, pureC, pure0, impI, impL, impC, cutO, An.imps, List.replicate, decide_true, decide_false, cond_true, cond_false, if_true, if_false, ite_true, ite_false, ne_eq, forall_const, eq_self, reduceCtorEq, reduceIte, Nat.reduceLT, Nat.reduceLeDiff, Nat.reduceAdd, Nat.reduceSub, Nat.reduceMul, Nat.reduceEqDiff, Nat.reduceBEq, Int.reduceLE, Int.reduceLT, Int.reduceToNat, Int.reduceEq, Int.reduceAdd, Int.reduceSub, Int.reduceMul, ty_24, tk_24, ty_3, tk_3, ty_4, tk_4, hl]
    refine callPu0 kc rfl rfl ?_
    simp only [wB, E0_tys, appI, buildI, placesI, okPart, bsI, slI, sliceI, sliceS, optI, appendI, srcI, chunk, fillI, fzParts, fzL, fz1, planAt, loadI, storeI, takeI, TK.agg, TK.known, cellsI, fillRow, okCell, bltI, builtinI, lenI, indexAddrI, fieldAddrI, fieldI, indexI, nilChkI, An.isImm, pureC, pure0, impI, impL, impC, cutO, An.imps, List.replicate, decide_true, decide_false, cond_true, cond_false, if_true, if_false, ite_true, ite_false, ne_eq, forall_const, eq_self, reduceCtorEq, reduceIte, Nat.reduceLT, Nat.reduceLeDiff, Nat.reduceAdd, Nat.reduceSub, Nat.reduceMul, Nat.reduceEqDiff, Nat.reduceBEq, Int.reduceLE, Int.reduceLT, Int.reduceToNat, Int.reduceEq, Int.reduceAdd, Int.reduceSub, Int.reduceMul, ty_24, tk_24, ty_3, tk_3, ty_4, tk_4, hl]
  | false =>
  rw [ha] at ka
  rw [hb] at kb
  rw [hc] at kc
  have oa := okNR_of ha
  have ob := okNR_of hb
  have oc := okNR_of hc
  have k1 := c9 na nb a b oa ob
  have k2 := c9 nb nc b c ob oc
  have k3 := c9 na nc a c oa oc
  have k4 := c9 na na a a oa oa
  have k5 := c9 nb na b a ob oa
  have k6 := c9 nb nb b b ob ob
  rw [← verd_symm a b] at k5
  have hlaw := law_equal a b c
  generalize verdF a b true = x at *
  generalize verdF b c true = y at *
  generalize verdF a c true = z at *
  generalize verdF a a true = o at *
  generalize verdF b b true = w at *
  clear ha hb hc oa ob oc
  rcases hlaw with ⟨rfl, rfl, rfl⟩ | ⟨rfl, rfl, rfl⟩ | ⟨rfl, rfl, hw⟩ | ⟨rfl, rfl, hw, rfl | ⟨rfl, rfl⟩ | ⟨rfl, rfl⟩⟩
  · skip
    refine pcW E0_ok mm (fn := Try.f3) (by kernel_rfl) (by kernel_rfl) (by kernel_rfl) [(3, 999, .plan (.pure 0 (.pure 1 (.pure 2 (.pure 3 (.pure 4 (.pure 5 (.pure 6 (.pure 7 (.pure 8 (.pure 9 (.pure 10 (.pure 11 (.done))))))))))))))] (by kernel_rfl) [] (by rw [show Try.f3.ntmps = 3 + 94 by kernel_rfl]; exact Nat.le_add_right _ _) ?_
    intro T hl hx
    have a0 := hx 0 _ rfl
    have a1 := hx 1 _ rfl
    have a2 := hx 2 _ rfl
    clear hx
    simp only [bodyOf, Try.f3] at hl ⊢
    simp only [wB, E0_tys, appI, buildI, placesI, okPart, bsI, slI, sliceI, sliceS, optI, appendI, srcI, chunk, fillI, fzParts, fzL, fz1, planAt, loadI, storeI, takeI, TK.agg, TK.known, cellsI, fillRow, okCell, bltI, builtinI, lenI, indexAddrI, fieldAddrI, fieldI, indexI, nilChkI, An.isImm, pureC, pure0, impI, impL, impC, cutO, An.imps, List.replicate, decide_true, decide_false, cond_true, cond_false, if_true, if_false, ite_true, ite_false, ne_eq, forall_const, eq_self, reduceCtorEq, reduceIte, Nat.reduceLT, Nat.reduceLeDiff, Nat.reduceAdd, Nat.reduceSub, Nat.reduceMul, Nat.reduceEqDiff, Nat.reduceBEq, Int.reduceLE, Int.reduceLT, Int.reduceToNat, Int.reduceEq, Int.reduceAdd, Int.reduceSub, Int.reduceMul, ty_24, tk_24, ty_3, tk_3, ty_4, tk_4, a0, a1, a2, hl]
    refine callPu0 ka rfl rfl ?_
    simp only [wB, E0_tys, appI, buildI, placesI, okPart, bsI, slI, sliceI, sliceS, optI, appendI, srcI, chunk, fillI, fzParts, fzL, fz1, planAt, loadI, storeI, takeI, TK.agg, TK.known, cellsI, fillRow, okCell, bltI, builtinI, lenI, indexAddrI, fieldAddrI, fieldI, indexI, nilChkI, An.isImm, pureC, pure0, impI, impL, impC, cutO, An.imps, List.replicate, decide_true, decide_false, cond_true, cond_false, if_true, if_false, ite_true, ite_false, ne_eq, forall_const, eq_self, reduceCtorEq, reduceIte, Nat.reduceLT, Nat.reduceLeDiff, Nat.reduceAdd, Nat.reduceSub, Nat.reduceMul, Nat.reduceEqDiff, Nat.reduceBEq, Int.reduceLE, Int.reduceLT, Int.reduceToNat, Int.reduceEq, Int.reduceAdd, Int.reduceSub, Int.reduceMul, ty_24, tk_24, ty_3, tk_3, ty_4, tk_4, hl]
    refine callPu0 kb rfl rfl ?_
    simp only [wB, E0_tys, appI, buildI, placesI, okPart, bsI, slI, sliceI, sliceS, optI, appendI, srcI, chunk, fillI, fzParts, fzL, fz1, planAt, loadI, storeI, takeI, TK.agg, TK.known, cellsI, fillRow, okCell, bltI, builtinI, lenI, indexAddrI, fieldAddrI, fieldI, indexI, nilChkI, An.isImm, pureC, pure0, impI, impL, impC, cutO, An.imps, List.replicate, decide_true, decide_false, cond_true, cond_false, if_true, if_false, ite_true, ite_false, ne_eq, forall_const, eq_self, reduceCtorEq, reduceIte, Nat.reduceLT, Nat.reduceLeDiff, Nat.reduceAdd, Nat.reduceSub, Nat.reduceMul, Nat.reduceEqDiff, Nat.reduceBEq, Int.reduceLE, Int.reduceLT, Int.reduceToNat, Int.reduceEq, Int.reduceAdd, Int.reduceSub, Int.reduceMul, ty_24, tk_24, ty_3, tk_3, ty_4, tk_4, hl]
    refine callPu0 kc rfl rfl ?_
    simp only [wB, E0_tys, appI, buildI, placesI, okPart, bsI, slI, sliceI, sliceS, optI, appendI, srcI, chunk, fillI, fzParts, fzL, fz1, planAt, loadI, storeI, takeI, TK.agg, TK.known, cellsI, fillRow, okCell, bltI, builtinI, lenI, indexAddrI, fieldAddrI, fieldI, indexI, nilChkI, An.isImm, pureC, pure0, impI, impL, impC, cutO, An.imps, List.replicate, decide_true, decide_false, cond_true, cond_false, if_true, if_false, ite_true, ite_false, ne_eq, forall_const, eq_self, reduceCtorEq, reduceIte, Nat.reduceLT, Nat.reduceLeDiff, Nat.reduceAdd, Nat.reduceSub, Nat.reduceMul, Nat.reduceEqDiff, Nat.reduceBEq, Int.reduceLE, Int.reduceLT, Int.reduceToNat, Int.reduceEq, Int.reduceAdd, Int.reduceSub, Int.reduceMul, ty_24, tk_24, ty_3, tk_3, ty_4, tk_4, hl]
    refine callPu0 k1 rfl rfl ?_
    simp only [wB, E0_tys, appI, buildI, placesI, okPart, bsI, slI, sliceI, sliceS, optI, appendI, srcI, chunk, fillI, fzParts, fzL, fz1, planAt, loadI, storeI, takeI, TK.agg, TK.known, cellsI, fillRow, okCell, bltI, builtinI, lenI, indexAddrI, fieldAddrI, fieldI, indexI, nilChkI, An.isImm, pureC, pure0, impI, impL, impC, cutO, An.imps, List.replicate, decide_true, decide_false, cond_true, cond_false, if_true, if_false, ite_true, ite_false, ne_eq, forall_const, eq_self, reduceCtorEq, reduceIte, Nat.reduceLT, Nat.reduceLeDiff, Nat.reduceAdd, Nat.reduceSub, Nat.reduceMul, Nat.reduceEqDiff, Nat.reduceBEq, Int.reduceLE, Int.reduceLT, Int.reduceToNat, Int.reduceEq, Int.reduceAdd, Int.reduceSub, Int.reduceMul, ty_24, tk_24, ty_3, tk_3, ty_4, tk_4, hl]
    refine callPu0 k2 rfl rfl ?_
    simp only [wB, E0_tys, appI, buildI, placesI, okPart, bsI, slI, sliceI, sliceS, optI, appendI, srcI, chunk, fillI, fzParts, fzL, fz1, planAt, loadI, storeI, takeI, TK.agg, TK.known, cellsI, fillRow, okCell, bltI, builtinI, lenI, indexAddrI, fieldAddrI, fieldI, indexI, nilChkI, An.isImm, pureC, pure0, impI, impL, impC, cutO, An.imps, List.replicate, decide_true, decide_false, cond_true, cond_false, if_true, if_false, ite_true, ite_false, ne_eq, forall_const, eq_self, reduceCtorEq, reduceIte, Nat.reduceLT, Nat.reduceLeDiff, Nat.reduceAdd, Nat.reduceSub, Nat.reduceMul, Nat.reduceEqDiff, Nat.reduceBEq, Int.reduceLE, Int.reduceLT, Int.reduceToNat, Int.reduceEq, Int.reduceAdd, Int.reduceSub, Int.reduceMul, ty_24, tk_24, ty_3, tk_3, ty_4, tk_4, hl]
    refine callPu0 k3 rfl rfl ?_
    simp only [wB, E0_tys, appI, buildI, placesI, okPart, bsI, slI, sliceI, sliceS, optI, appendI, srcI, chunk, fillI, fzParts, fzL, fz1, planAt, loadI, storeI, takeI, TK.agg, TK.known, cellsI, fillRow, okCell, bltI, builtinI, lenI, indexAddrI, fieldAddrI, fieldI, indexI, nilChkI, An.isImm, pureC, pure0, impI, impL, impC, cutO, An.imps, List.replicate, decide_true, decide_false, cond_true, cond_false, if_true, if_false, ite_true, ite_false, ne_eq, forall_const, eq_self, reduceCtorEq, reduceIte, Nat.reduceLT, Nat.reduceLeDiff, Nat.reduceAdd, Nat.reduceSub, Nat.reduceMul, Nat.reduceEqDiff, Nat.reduceBEq, Int.reduceLE, Int.reduceLT, Int.reduceToNat, Int.reduceEq, Int.reduceAdd, Int.reduceSub, Int.reduceMul, ty_24, tk_24, ty_3, tk_3, ty_4, tk_4, hl]
    refine callPu0 k4 rfl rfl ?_
    simp only [wB, E0_tys, appI, buildI, placesI, okPart, bsI, slI, sliceI, sliceS, optI, appendI, srcI, chunk, fillI, fzParts, fzL, fz1, planAt, loadI, storeI, takeI, TK.agg, TK.known, cellsI, fillRow, okCell, bltI, builtinI, lenI, indexAddrI, fieldAddrI, fieldI, indexI, nilChkI, An.isImm, pureC, pure0, impI, impL, impC, cutO, An.imps, List.replicate, decide_true, decide_false, cond_true, cond_false, if_true, if_false, ite_true, ite_false, ne_eq, forall_const, eq_self, reduceCtorEq, reduceIte, Nat.reduceLT, Nat.reduceLeDiff, Nat.reduceAdd, Nat.reduceSub, Nat.reduceMul, Nat.reduceEqDiff, Nat.reduceBEq, Int.reduceLE, Int.reduceLT, Int.reduceToNat, Int.reduceEq, Int.reduceAdd, Int.reduceSub, Int.reduceMul, ty_24, tk_24, ty_3, tk_3, ty_4, tk_4, hl]
    refine callPu0 k5 rfl rfl ?_
    simp only [wB, E0_tys, appI, buildI, placesI, okPart, bsI, slI, sliceI, sliceS, optI, appendI, srcI, chunk, fillI, fzParts, fzL, fz1, planAt, loadI, storeI, takeI, TK.agg, TK.known, cellsI, fillRow, okCell, bltI, builtinI, lenI, indexAddrI, fieldAddrI, fieldI, indexI, nilChkI, An.isImm, pureC, pure0, impI, impL, impC, cutO, An.imps, List.replicate, decide_true, decide_false, cond_true, cond_false, if_true, if_false, ite_true, ite_false, ne_eq, forall_const, eq_self, reduceCtorEq, reduceIte, Nat.reduceLT, Nat.reduceLeDiff, Nat.reduceAdd, Nat.reduceSub, Nat.reduceMul, Nat.reduceEqDiff, Nat.reduceBEq, Int.reduceLE, Int.reduceLT, Int.reduceToNat, Int.reduceEq, Int.reduceAdd, Int.reduceSub, Int.reduceMul, ty_24, tk_24, ty_3, tk_3, ty_4, tk_4, hl, neb_int]
    refine callPu0 c10 rfl rfl ?_
    simp only [wB, E0_tys, appI, buildI, placesI, okPart, bsI, slI, sliceI, sliceS, optI, appendI, srcI, chunk, fillI, fzParts, fzL, fz1, planAt, loadI, storeI, takeI, TK.agg, TK.known, cellsI, fillRow, okCell, bltI, builtinI, lenI, indexAddrI, fieldAddrI, fieldI, indexI, nilChkI, An.isImm, pureC, pure0, impI, impL, impC, cutO, An.imps, List.replicate, decide_true, decide_false, cond_true, cond_false, if_true, if_false, ite_true, ite_false, ne_eq, forall_const, eq_self, reduceCtorEq, reduceIte, Nat.reduceLT, Nat.reduceLeDiff, Nat.reduceAdd, Nat.reduceSub, Nat.reduceMul, Nat.reduceEqDiff, Nat.reduceBEq, Int.reduceLE, Int.reduceLT, Int.reduceToNat, Int.reduceEq, Int.reduceAdd, Int.reduceSub, Int.reduceMul, ty_24, tk_24, ty_3, tk_3, ty_4, tk_4, hl]
  · skip
    refine pcW E0_ok mm (fn := Try.f3) (by kernel_rfl) (by kernel_rfl) (by kernel_rfl) [(3, 999, .plan (.pure 0 (.pure 1 (.pure 2 (.pure 3 (.pure 4 (.pure 5 (.pure 6 (.pure 7 (.pure 8 (.pure 9 (.pure 10 (.pure 11 (.done))))))))))))))] (by kernel_rfl) [] (by rw [show Try.f3.ntmps = 3 + 94 by kernel_rfl]; exact Nat.le_add_right _ _) ?_
    intro T hl hx
    have a0 := hx 0 _ rfl
    have a1 := hx 1 _ rfl
    have a2 := hx 2 _ rfl
    clear hx
    simp only [bodyOf, Try.f3] at hl ⊢
    simp only [wB, E0_tys, appI, buildI, placesI, okPart, bsI, slI, sliceI, sliceS, optI, appendI, srcI, chunk, fillI, fzParts, fzL, fz1, planAt, loadI, storeI, takeI, TK.agg, TK.known, cellsI, fillRow, okCell, bltI, builtinI, lenI, indexAddrI, fieldAddrI, fieldI, indexI, nilChkI, An.isImm, pureC, pure0, impI, impL, impC, cutO, An.imps, List.replicate, decide_true, decide_false, cond_true, cond_false, if_true, if_false, ite_true, ite_false, ne_eq, forall_const, eq_self, reduceCtorEq, reduceIte, Nat.reduceLT, Nat.reduceLeDiff, Nat.reduceAdd, Nat.reduceSub, Nat.reduceMul, Nat.reduceEqDiff, Nat.reduceBEq, Int.reduceLE, Int.reduceLT, Int.reduceToNat, Int.reduceEq, Int.reduceAdd, Int.reduceSub, Int.reduceMul, ty_24, tk_24, ty_3, tk_3, ty_4, tk_4, a0, a1, a2, hl]
    refine callPu0 ka rfl rfl ?_
    simp only [wB, E0_tys, appI, buildI, placesI, okPart, bsI, slI, sliceI, sliceS, optI, appendI, srcI, chunk, fillI, fzParts, fzL, fz1, planAt, loadI, storeI, takeI, TK.agg, TK.known, cellsI, fillRow, okCell, bltI, builtinI, lenI, indexAddrI, fieldAddrI, fieldI, indexI, nilChkI, An.isImm, pureC, pure0, impI, impL, impC, cutO, An.imps, List.replicate, decide_true, decide_false, cond_true, cond_false, if_true, if_false, ite_true, ite_false, ne_eq, forall_const, eq_self, reduceCtorEq, reduceIte, Nat.reduceLT, Nat.reduceLeDiff, Nat.reduceAdd, Nat.reduceSub, Nat.reduceMul, Nat.reduceEqDiff, Nat.reduceBEq, Int.reduceLE, Int.reduceLT, Int.reduceToNat, Int.reduceEq, Int.reduceAdd, Int.reduceSub, Int.reduceMul, ty_24, tk_24, ty_3, tk_3, ty_4, tk_4, hl]
    refine callPu0 kb rfl rfl ?_
    simp only [wB, E0_tys, appI, buildI, placesI, okPart, bsI, slI, sliceI, sliceS, optI, appendI, srcI, chunk, fillI, fzParts, fzL, fz1, planAt, loadI, storeI, takeI, TK.agg, TK.known, cellsI, fillRow, okCell, bltI, builtinI, lenI, indexAddrI, fieldAddrI, fieldI, indexI, nilChkI, An.isImm, pureC, pure0, impI, impL, impC, cutO, An.imps, List.replicate, decide_true, decide_false, cond_true, cond_false, if_true, if_false, ite_true, ite_false, ne_eq, forall_const, eq_self, reduceCtorEq, reduceIte, Nat.reduceLT, Nat.reduceLeDiff, Nat.reduceAdd, Nat.reduceSub, Nat.reduceMul, Nat.reduceEqDiff, Nat.reduceBEq, Int.reduceLE, Int.reduceLT, Int.reduceToNat, Int.reduceEq, Int.reduceAdd, Int.reduceSub, Int.reduceMul, ty_24, tk_24, ty_3, tk_3, ty_4, tk_4, hl]
    refine callPu0 kc rfl rfl ?_
    simp only [wB, E0_tys, appI, buildI, placesI, okPart, bsI, slI, sliceI, sliceS, optI, appendI, srcI, chunk, fillI, fzParts, fzL, fz1, planAt, loadI, storeI, takeI, TK.agg, TK.known, cellsI, fillRow, okCell, bltI, builtinI, lenI, indexAddrI, fieldAddrI, fieldI, indexI, nilChkI, An.isImm, pureC, pure0, impI, impL, impC, cutO, An.imps, List.replicate, decide_true, decide_false, cond_true, cond_false, if_true, if_false, ite_true, ite_false, ne_eq, forall_const, eq_self, reduceCtorEq, reduceIte, Nat.reduceLT, Nat.reduceLeDiff, Nat.reduceAdd, Nat.reduceSub, Nat.reduceMul, Nat.reduceEqDiff, Nat.reduceBEq, Int.reduceLE, Int.reduceLT, Int.reduceToNat, Int.reduceEq, Int.reduceAdd, Int.reduceSub, Int.reduceMul, ty_24, tk_24, ty_3, tk_3, ty_4, tk_4, hl]
    refine callPu0 k1 rfl rfl ?_
    simp only [wB, E0_tys, appI, buildI, placesI, okPart, bsI, slI, sliceI, sliceS, optI, appendI, srcI, chunk, fillI, fzParts, fzL, fz1, planAt, loadI, storeI, takeI, TK.agg, TK.known, cellsI, fillRow, okCell, bltI, builtinI, lenI, indexAddrI, fieldAddrI, fieldI, indexI, nilChkI, An.isImm, pureC, pure0, impI, impL, impC, cutO, An.imps, List.replicate, decide_true, decide_false, cond_true, cond_false, if_true, if_false, ite_true, ite_false, ne_eq, forall_const, eq_self, reduceCtorEq, reduceIte, Nat.reduceLT, Nat.reduceLeDiff, Nat.reduceAdd, Nat.reduceSub, Nat.reduceMul, Nat.reduceEqDiff, Nat.reduceBEq, Int.reduceLE, Int.reduceLT, Int.reduceToNat, Int.reduceEq, Int.reduceAdd, Int.reduceSub, Int.reduceMul, ty_24, tk_24, ty_3, tk_3, ty_4, tk_4, hl]
    refine callPu0 k2 rfl rfl ?_
    simp only [wB, E0_tys, appI, buildI, placesI, okPart, bsI, slI, sliceI, sliceS, optI, appendI, srcI, chunk, fillI, fzParts, fzL, fz1, planAt, loadI, storeI, takeI, TK.agg, TK.known, cellsI, fillRow, okCell, bltI, builtinI, lenI, indexAddrI, fieldAddrI, fieldI, indexI, nilChkI, An.isImm, pureC, pure0, impI, impL, impC, cutO, An.imps, List.replicate, decide_true, decide_false, cond_true, cond_false, if_true, if_false, ite_true, ite_false, ne_eq, forall_const, eq_self, reduceCtorEq, reduceIte, Nat.reduceLT, Nat.reduceLeDiff, Nat.reduceAdd, Nat.reduceSub, Nat.reduceMul, Nat.reduceEqDiff, Nat.reduceBEq, Int.reduceLE, Int.reduceLT, Int.reduceToNat, Int.reduceEq, Int.reduceAdd, Int.reduceSub, Int.reduceMul, ty_24, tk_24, ty_3, tk_3, ty_4, tk_4, hl]
    refine callPu0 k3 rfl rfl ?_
    simp only [wB, E0_tys, appI, buildI, placesI, okPart, bsI, slI, sliceI, sliceS, optI, appendI, srcI, chunk, fillI, fzParts, fzL, fz1, planAt, loadI, storeI, takeI, TK.agg, TK.known, cellsI, fillRow, okCell, bltI, builtinI, lenI, indexAddrI, fieldAddrI, fieldI, indexI, nilChkI, An.isImm, pureC, pure0, impI, impL, impC, cutO, An.imps, List.replicate, decide_true, decide_false, cond_true, cond_false, if_true, if_false, ite_true, ite_false, ne_eq, forall_const, eq_self, reduceCtorEq, reduceIte, Nat.reduceLT, Nat.reduceLeDiff, Nat.reduceAdd, Nat.reduceSub, Nat.reduceMul, Nat.reduceEqDiff, Nat.reduceBEq, Int.reduceLE, Int.reduceLT, Int.reduceToNat, Int.reduceEq, Int.reduceAdd, Int.reduceSub, Int.reduceMul, ty_24, tk_24, ty_3, tk_3, ty_4, tk_4, hl]
    refine callPu0 k4 rfl rfl ?_
    simp only [wB, E0_tys, appI, buildI, placesI, okPart, bsI, slI, sliceI, sliceS, optI, appendI, srcI, chunk, fillI, fzParts, fzL, fz1, planAt, loadI, storeI, takeI, TK.agg, TK.known, cellsI, fillRow, okCell, bltI, builtinI, lenI, indexAddrI, fieldAddrI, fieldI, indexI, nilChkI, An.isImm, pureC, pure0, impI, impL, impC, cutO, An.imps, List.replicate, decide_true, decide_false, cond_true, cond_false, if_true, if_false, ite_true, ite_false, ne_eq, forall_const, eq_self, reduceCtorEq, reduceIte, Nat.reduceLT, Nat.reduceLeDiff, Nat.reduceAdd, Nat.reduceSub, Nat.reduceMul, Nat.reduceEqDiff, Nat.reduceBEq, Int.reduceLE, Int.reduceLT, Int.reduceToNat, Int.reduceEq, Int.reduceAdd, Int.reduceSub, Int.reduceMul, ty_24, tk_24, ty_3, tk_3, ty_4, tk_4, hl]
    refine callPu0 k5 rfl rfl ?_
    simp only [wB, E0_tys, appI, buildI, placesI, okPart, bsI, slI, sliceI, sliceS, optI, appendI, srcI, chunk, fillI, fzParts, fzL, fz1, planAt, loadI, storeI, takeI, TK.agg, TK.known, cellsI, fillRow, okCell, bltI, builtinI, lenI, indexAddrI, fieldAddrI, fieldI, indexI, nilChkI, An.isImm, pureC, pure0, impI, impL, impC, cutO, An.imps, List.replicate, decide_true, decide_false, cond_true, cond_false, if_true, if_false, ite_true, ite_false, ne_eq, forall_const, eq_self, reduceCtorEq, reduceIte, Nat.reduceLT, Nat.reduceLeDiff, Nat.reduceAdd, Nat.reduceSub, Nat.reduceMul, Nat.reduceEqDiff, Nat.reduceBEq, Int.reduceLE, Int.reduceLT, Int.reduceToNat, Int.reduceEq, Int.reduceAdd, Int.reduceSub, Int.reduceMul, ty_24, tk_24, ty_3, tk_3, ty_4, tk_4, hl, neb_int]
    refine callPu0 k6 rfl rfl ?_
    simp only [wB, E0_tys, appI, buildI, placesI, okPart, bsI, slI, sliceI, sliceS, optI, appendI, srcI, chunk, fillI, fzParts, fzL, fz1, planAt, loadI, storeI, takeI, TK.agg, TK.known, cellsI, fillRow, okCell, bltI, builtinI, lenI, indexAddrI, fieldAddrI, fieldI, indexI, nilChkI, An.isImm, pureC, pure0, impI, impL, impC, cutO, An.imps, List.replicate, decide_true, decide_false, cond_true, cond_false, if_true, if_false, ite_true, ite_false, ne_eq, forall_const, eq_self, reduceCtorEq, reduceIte, Nat.reduceLT, Nat.reduceLeDiff, Nat.reduceAdd, Nat.reduceSub, Nat.reduceMul, Nat.reduceEqDiff, Nat.reduceBEq, Int.reduceLE, Int.reduceLT, Int.reduceToNat, Int.reduceEq, Int.reduceAdd, Int.reduceSub, Int.reduceMul, ty_24, tk_24, ty_3, tk_3, ty_4, tk_4, hl, neb_int, bin_eqb, bin_neb, bnn]
    refine callPu0 c10 rfl rfl ?_
    simp only [wB, E0_tys, appI, buildI, placesI, okPart, bsI, slI, sliceI, sliceS, optI, appendI, srcI, chunk, fillI, fzParts, fzL, fz1, planAt, loadI, storeI, takeI, TK.agg, TK.known, cellsI, fillRow, okCell, bltI, builtinI, lenI, indexAddrI, fieldAddrI, fieldI, indexI, nilChkI, An.isImm, pureC, pure0, impI, impL, impC, cutO, An.imps, List.replicate, decide_true, decide_false, cond_true, cond_false, if_true, if_false, ite_true, ite_false, ne_eq, forall_const, eq_self, reduceCtorEq, reduceIte, Nat.reduceLT, Nat.reduceLeDiff, Nat.reduceAdd, Nat.reduceSub, Nat.reduceMul, Nat.reduceEqDiff, Nat.reduceBEq, Int.reduceLE, Int.reduceLT, Int.reduceToNat, Int.reduceEq, Int.reduceAdd, Int.reduceSub, Int.reduceMul, ty_24, tk_24, ty_3, tk_3, ty_4, tk_4, hl]
  all_goals
    refine pcW E0_ok mm (fn := Try.f3) (by kernel_rfl) (by kernel_rfl) (by kernel_rfl) [(3, 999, .plan (.pure 0 (.pure 1 (.pure 2 (.pure 3 (.pure 4 (.pure 5 (.pure 6 (.pure 7 (.pure 8 (.pure 9 (.pure 10 (.pure 11 (.done))))))))))))))] (by kernel_rfl) [] (by rw [show Try.f3.ntmps = 3 + 94 by kernel_rfl]; exact Nat.le_add_right _ _) ?_
    intro T hl hx
    have a0 := hx 0 _ rfl
    have a1 := hx 1 _ rfl
    have a2 := hx 2 _ rfl
    clear hx
    simp only [bodyOf, Try.f3] at hl ⊢
    simp only [wB, E0_tys, appI, buildI, placesI, okPart, bsI, slI, sliceI, sliceS, optI, appendI, srcI, chunk, fillI, fzParts, fzL, fz1, planAt, loadI, storeI, takeI, TK.agg, TK.known, cellsI, fillRow, okCell, bltI, builtinI, lenI, indexAddrI, fieldAddrI, fieldI, indexI, nilChkI, An.isImm, pureC, pure0, impI, impL, impC, cutO, An.imps, List.replicate, decide_true, decide_false, cond_true, cond_false, if_true, if_false, ite_true, ite_false, ne_eq, forall_const, eq_self, reduceCtorEq, reduceIte, Nat.reduceLT, Nat.reduceLeDiff, Nat.reduceAdd, Nat.reduceSub, Nat.reduceMul, Nat.reduceEqDiff, Nat.reduceBEq, Int.reduceLE, Int.reduceLT, Int.reduceToNat, Int.reduceEq, Int.reduceAdd, Int.reduceSub, Int.reduceMul, ty_24, tk_24, ty_3, tk_3, ty_4, tk_4, a0, a1, a2, hl]
    refine callPu0 ka rfl rfl ?_
    simp only [wB, E0_tys, appI, buildI, placesI, okPart, bsI, slI, sliceI, sliceS, optI, appendI, srcI, chunk, fillI, fzParts, fzL, fz1, planAt, loadI, storeI, takeI, TK.agg, TK.known, cellsI, fillRow, okCell, bltI, builtinI, lenI, indexAddrI, fieldAddrI, fieldI, indexI, nilChkI, An.isImm, pureC, pure0, impI, impL, impC, cutO, An.imps, List.replicate, decide_true, decide_false, cond_true, cond_false, if_true, if_false, ite_true, ite_false, ne_eq, forall_const, eq_self, reduceCtorEq, reduceIte, Nat.reduceLT, Nat.reduceLeDiff, Nat.reduceAdd, Nat.reduceSub, Nat.reduceMul, Nat.reduceEqDiff, Nat.reduceBEq, Int.reduceLE, Int.reduceLT, Int.reduceToNat, Int.reduceEq, Int.reduceAdd, Int.reduceSub, Int.reduceMul, ty_24, tk_24, ty_3, tk_3, ty_4, tk_4, hl]
    refine callPu0 kb rfl rfl ?_
    simp only [wB, E0_tys, appI, buildI, placesI, okPart, bsI, slI, sliceI, sliceS, optI, appendI, srcI, chunk, fillI, fzParts, fzL, fz1, planAt, loadI, storeI, takeI, TK.agg, TK.known, cellsI, fillRow, okCell, bltI, builtinI, lenI, indexAddrI, fieldAddrI, fieldI, indexI, nilChkI, An.isImm, pureC, pure0, impI, impL, impC, cutO, An.imps, List.replicate, decide_true, decide_false, cond_true, cond_false, if_true, if_false, ite_true, ite_false, ne_eq, forall_const, eq_self, reduceCtorEq, reduceIte, Nat.reduceLT, Nat.reduceLeDiff, Nat.reduceAdd, Nat.reduceSub, Nat.reduceMul, Nat.reduceEqDiff, Nat.reduceBEq, Int.reduceLE, Int.reduceLT, Int.reduceToNat, Int.reduceEq, Int.reduceAdd, Int.reduceSub, Int.reduceMul, ty_24, tk_24, ty_3, tk_3, ty_4, tk_4, hl]
    refine callPu0 kc rfl rfl ?_
    simp only [wB, E0_tys, appI, buildI, placesI, okPart, bsI, slI, sliceI, sliceS, optI, appendI, srcI, chunk, fillI, fzParts, fzL, fz1, planAt, loadI, storeI, takeI, TK.agg, TK.known, cellsI, fillRow, okCell, bltI, builtinI, lenI, indexAddrI, fieldAddrI, fieldI, indexI, nilChkI, An.isImm, pureC, pure0, impI, impL, impC, cutO, An.imps, List.replicate, decide_true, decide_false, cond_true, cond_false, if_true, if_false, ite_true, ite_false, ne_eq, forall_const, eq_self, reduceCtorEq, reduceIte, Nat.reduceLT, Nat.reduceLeDiff, Nat.reduceAdd, Nat.reduceSub, Nat.reduceMul, Nat.reduceEqDiff, Nat.reduceBEq, Int.reduceLE, Int.reduceLT, Int.reduceToNat, Int.reduceEq, Int.reduceAdd, Int.reduceSub, Int.reduceMul, ty_24, tk_24, ty_3, tk_3, ty_4, tk_4, hl]
    refine callPu0 k1 rfl rfl ?_
    simp only [wB, E0_tys, appI, buildI, placesI, okPart, bsI, slI, sliceI, sliceS, optI, appendI, srcI, chunk, fillI, fzParts, fzL, fz1, planAt, loadI, storeI, takeI, TK.agg, TK.known, cellsI, fillRow, okCell, bltI, builtinI, lenI, indexAddrI, fieldAddrI, fieldI, indexI, nilChkI, An.isImm, pureC, pure0, impI, impL, impC, cutO, An.imps, List.replicate, decide_true, decide_false, cond_true, cond_false, if_true, if_false, ite_true, ite_false, ne_eq, forall_const, eq_self, reduceCtorEq, reduceIte, Nat.reduceLT, Nat.reduceLeDiff, Nat.reduceAdd, Nat.reduceSub, Nat.reduceMul, Nat.reduceEqDiff, Nat.reduceBEq, Int.reduceLE, Int.reduceLT, Int.reduceToNat, Int.reduceEq, Int.reduceAdd, Int.reduceSub, Int.reduceMul, ty_24, tk_24, ty_3, tk_3, ty_4, tk_4, hl]
    refine callPu0 k2 rfl rfl ?_
    simp only [wB, E0_tys, appI, buildI, placesI, okPart, bsI, slI, sliceI, sliceS, optI, appendI, srcI, chunk, fillI, fzParts, fzL, fz1, planAt, loadI, storeI, takeI, TK.agg, TK.known, cellsI, fillRow, okCell, bltI, builtinI, lenI, indexAddrI, fieldAddrI, fieldI, indexI, nilChkI, An.isImm, pureC, pure0, impI, impL, impC, cutO, An.imps, List.replicate, decide_true, decide_false, cond_true, cond_false, if_true, if_false, ite_true, ite_false, ne_eq, forall_const, eq_self, reduceCtorEq, reduceIte, Nat.reduceLT, Nat.reduceLeDiff, Nat.reduceAdd, Nat.reduceSub, Nat.reduceMul, Nat.reduceEqDiff, Nat.reduceBEq, Int.reduceLE, Int.reduceLT, Int.reduceToNat, Int.reduceEq, Int.reduceAdd, Int.reduceSub, Int.reduceMul, ty_24, tk_24, ty_3, tk_3, ty_4, tk_4, hl]
    refine callPu0 k3 rfl rfl ?_
    simp only [wB, E0_tys, appI, buildI, placesI, okPart, bsI, slI, sliceI, sliceS, optI, appendI, srcI, chunk, fillI, fzParts, fzL, fz1, planAt, loadI, storeI, takeI, TK.agg, TK.known, cellsI, fillRow, okCell, bltI, builtinI, lenI, indexAddrI, fieldAddrI, fieldI, indexI, nilChkI, An.isImm, pureC, pure0, impI, impL, impC, cutO, An.imps, List.replicate, decide_true, decide_false, cond_true, cond_false, if_true, if_false, ite_true, ite_false, ne_eq, forall_const, eq_self, reduceCtorEq, reduceIte, Nat.reduceLT, Nat.reduceLeDiff, Nat.reduceAdd, Nat.reduceSub, Nat.reduceMul, Nat.reduceEqDiff, Nat.reduceBEq, Int.reduceLE, Int.reduceLT, Int.reduceToNat, Int.reduceEq, Int.reduceAdd, Int.reduceSub, Int.reduceMul, ty_24, tk_24, ty_3, tk_3, ty_4, tk_4, hl]
    refine callPu0 k4 rfl rfl ?_
    simp only [wB, E0_tys, appI, buildI, placesI, okPart, bsI, slI, sliceI, sliceS, optI, appendI, srcI, chunk, fillI, fzParts, fzL, fz1, planAt, loadI, storeI, takeI, TK.agg, TK.known, cellsI, fillRow, okCell, bltI, builtinI, lenI, indexAddrI, fieldAddrI, fieldI, indexI, nilChkI, An.isImm, pureC, pure0, impI, impL, impC, cutO, An.imps, List.replicate, decide_true, decide_false, cond_true, cond_false, if_true, if_false, ite_true, ite_false, ne_eq, forall_const, eq_self, reduceCtorEq, reduceIte, Nat.reduceLT, Nat.reduceLeDiff, Nat.reduceAdd, Nat.reduceSub, Nat.reduceMul, Nat.reduceEqDiff, Nat.reduceBEq, Int.reduceLE, Int.reduceLT, Int.reduceToNat, Int.reduceEq, Int.reduceAdd, Int.reduceSub, Int.reduceMul, ty_24, tk_24, ty_3, tk_3, ty_4, tk_4, hl]
    refine callPu0 k5 rfl rfl ?_
    simp only [wB, E0_tys, appI, buildI, placesI, okPart, bsI, slI, sliceI, sliceS, optI, appendI, srcI, chunk, fillI, fzParts, fzL, fz1, planAt, loadI, storeI, takeI, TK.agg, TK.known, cellsI, fillRow, okCell, bltI, builtinI, lenI, indexAddrI, fieldAddrI, fieldI, indexI, nilChkI, An.isImm, pureC, pure0, impI, impL, impC, cutO, An.imps, List.replicate, decide_true, decide_false, cond_true, cond_false, if_true, if_false, ite_true, ite_false, ne_eq, forall_const, eq_self, reduceCtorEq, reduceIte, Nat.reduceLT, Nat.reduceLeDiff, Nat.reduceAdd, Nat.reduceSub, Nat.reduceMul, Nat.reduceEqDiff, Nat.reduceBEq, Int.reduceLE, Int.reduceLT, Int.reduceToNat, Int.reduceEq, Int.reduceAdd, Int.reduceSub, Int.reduceMul, ty_24, tk_24, ty_3, tk_3, ty_4, tk_4, hl, neb_int]
    refine callPu0 k6 rfl rfl ?_
    simp only [wB, E0_tys, appI, buildI, placesI, okPart, bsI, slI, sliceI, sliceS, optI, appendI, srcI, chunk, fillI, fzParts, fzL, fz1, planAt, loadI, storeI, takeI, TK.agg, TK.known, cellsI, fillRow, okCell, bltI, builtinI, lenI, indexAddrI, fieldAddrI, fieldI, indexI, nilChkI, An.isImm, pureC, pure0, impI, impL, impC, cutO, An.imps, List.replicate, decide_true, decide_false, cond_true, cond_false, if_true, if_false, ite_true, ite_false, ne_eq, forall_const, eq_self, reduceCtorEq, reduceIte, Nat.reduceLT, Nat.reduceLeDiff, Nat.reduceAdd, Nat.reduceSub, Nat.reduceMul, Nat.reduceEqDiff, Nat.reduceBEq, Int.reduceLE, Int.reduceLT, Int.reduceToNat, Int.reduceEq, Int.reduceAdd, Int.reduceSub, Int.reduceMul, ty_24, tk_24, ty_3, tk_3, ty_4, tk_4, hl, hw, neb_int, bin_eqb, bin_neb, bnn]
    refine callPu0 c10 rfl rfl ?_
    simp only [wB, E0_tys, appI, buildI, placesI, okPart, bsI, slI, sliceI, sliceS, optI, appendI, srcI, chunk, fillI, fzParts, fzL, fz1, planAt, loadI, storeI, takeI, TK.agg, TK.known, cellsI, fillRow, okCell, bltI, builtinI, lenI, indexAddrI, fieldAddrI, fieldI, indexI, nilChkI, An.isImm, pureC, pure0, impI, impL, impC, cutO, An.imps, List.replicate, decide_true, decide_false, cond_true, cond_false, if_true, if_false, ite_true, ite_false, ne_eq, forall_const, eq_self, reduceCtorEq, reduceIte, Nat.reduceLT, Nat.reduceLeDiff, Nat.reduceAdd, Nat.reduceSub, Nat.reduceMul, Nat.reduceEqDiff, Nat.reduceBEq, Int.reduceLE, Int.reduceLT, Int.reduceToNat, Int.reduceEq, Int.reduceAdd, Int.reduceSub, Int.reduceMul, ty_24, tk_24, ty_3, tk_3, ty_4, tk_4, hl]
end Go.Proofs
set_option maxRecDepth 100000
set_option linter.unusedVariables false
set_option linter.unusedSimpArgs false
namespace Go.Proofs
open Go.Iv Go.WideShapes Go.RowKit
variable {H : Type} {enc : TypeId × Value → H} {w : World} {base : Nat} {spare : Nat → Bool} {held : Bool}
theorem Opn.imp' {P : Program} {t : TypeId} {Q Q' : List IV → Prop} (h : Opn enc P w base spare held t Q) (hq : ∀ xs, Q xs → Q' xs) : Opn enc P w base spare held t Q' := by
  intro fuel cs x hx
  obtain ⟨xs, h1, h2⟩ := h fuel cs x hx
  exact ⟨xs, hq _ h1, h2⟩
theorem exists_map {α : Type} {f : α → List IV} : ∀ rows : List (List IV), (∀ r ∈ rows, ∃ a, r = f a) → ∃ l : List α, rows = l.map f
  | [], _ => ⟨[], rfl⟩
  | r :: rows, h => by
    obtain ⟨a, rfl⟩ := h r (by simp)
    obtain ⟨l, hl⟩ := exists_map rows (fun r hr => h r (by simp [hr]))
    exact ⟨a :: l, by rw [hl]; rfl⟩
theorem opn3 : Opn enc Try.prog w base spare held 3 (fun xs => ∃ n, xs = [.i .i64 n]) := opn_int (by kernel_rfl)
theorem opn5 : Opn enc Try.prog w base spare held 5 (fun xs => ∃ n, xs = [.i .u8 n]) := opn_int (by kernel_rfl)
theorem opn36 : Opn enc Try.prog w base spare held 36 (fun xs => ∃ l, xs = [.sl none (encI l)]) :=
  Opn.imp' (opn_slice (e := 3) (by kernel_rfl) (of_decide_eq_true (by kernel_rfl)) opn3) fun xs ⟨rows, h1, h2⟩ => by
    obtain ⟨l, rfl⟩ := exists_map (f := fun n => [.i .i64 n]) rows h1
    exact ⟨l, h2⟩
theorem opn37 : Opn enc Try.prog w base spare held 37 (fun xs => ∃ l, xs = [.sl none (encB l)]) :=
  Opn.imp' (opn_slice (e := 5) (by kernel_rfl) (of_decide_eq_true (by kernel_rfl)) opn5) fun xs ⟨rows, h1, h2⟩ => by
    obtain ⟨l, rfl⟩ := exists_map (f := fun n => [.i .u8 n]) rows h1
    exact ⟨l, h2⟩
theorem u39 : ∃ f0 f1 f2 f3 : Field, Try.prog.underlying 39 = some (.struct #[f0, f1, f2, f3]) ∧ f0.offset = 0 ∧ f1.offset = 1 ∧ f2.offset = 2 ∧ f3.offset = 3 ∧ f0.type = 36 ∧ f1.type = 3 ∧ f2.type = 36 ∧ f3.type = 37 :=
  ⟨_, _, _, _, Try.underlying39, rfl, rfl, rfl, rfl, rfl, rfl, rfl, rfl⟩
theorem u33 : ∃ f0 : Field, Try.prog.underlying 33 = some (.struct #[f0]) ∧ f0.offset = 0 ∧ f0.type = 31 := ⟨_, Try.underlying33, rfl, rfl⟩
theorem u24 : ∃ f0 : Field, Try.prog.underlying 24 = some (.struct #[f0]) ∧ f0.offset = 0 ∧ f0.type = 22 := ⟨_, Try.underlying24, rfl, rfl⟩
theorem opn39 : Opn enc Try.prog w base spare held 39 (fun xs => ∃ p, xs = prC p) := by
  obtain ⟨f0, f1, f2, f3, hu, o0, o1, o2, o3, t0, t1, t2, t3⟩ := u39
  refine Opn.imp' (opn_struct4 (Q0 := fun xs => ∃ l, xs = [.sl none (encI l)]) (Q1 := fun xs => ∃ n, xs = [.i .i64 n]) (Q2 := fun xs => ∃ l, xs = [.sl none (encI l)]) (Q3 := fun xs => ∃ l, xs = [.sl none (encB l)])
    hu (by kernel_rfl) o0 o1 o2 o3 (by rw [t0]; kernel_rfl) (by rw [t1]; kernel_rfl) (by rw [t2]; kernel_rfl) (by rw [t3]; kernel_rfl) (by rw [t0]; exact opn36) (by rw [t1]; exact opn3) (by rw [t2]; exact opn36) (by rw [t3]; exact opn37)) ?_
  rintro xs ⟨_, _, _, _, ⟨o, rfl⟩, ⟨k, rfl⟩, ⟨t, rfl⟩, ⟨r, rfl⟩, rfl⟩
  exact ⟨⟨none, o, k, none, t, none, r⟩, rfl⟩
theorem opn31 : Opn enc Try.prog w base spare held 31 (fun xs => ∃ l, xs = [.sl none (encP l)]) :=
  Opn.imp' (opn_slice (e := 39) (by kernel_rfl) (of_decide_eq_true (by kernel_rfl)) opn39) fun xs ⟨rows, h1, h2⟩ => by
    obtain ⟨l, rfl⟩ := exists_map (f := prC) rows h1
    exact ⟨l, h2⟩
theorem opn33 : Opn enc Try.prog w base spare held 33 (fun xs => ∃ r : RdnV, xs = [.sl r.1 (encP r.2)]) := by
  obtain ⟨f0, hu, o0, t0⟩ := u33
  refine Opn.imp' (opn_struct1 hu (by rw [t0]; kernel_rfl) o0 (by rw [t0]; exact opn31)) ?_
  rintro xs ⟨l, rfl⟩
  exact ⟨(none, l), rfl⟩
theorem opn22 : Opn enc Try.prog w base spare held 22 (fun xs => ∃ l, xs = [.sl none (encN l)]) :=
  Opn.imp' (opn_slice (e := 33) (by kernel_rfl) (of_decide_eq_true (by kernel_rfl)) opn33) fun xs ⟨rows, h1, h2⟩ => by
    obtain ⟨l, rfl⟩ := exists_map (f := fun r : RdnV => [.sl r.1 (encP r.2)]) rows h1
    exact ⟨l, h2⟩
theorem opn24 : Opn enc Try.prog w base spare held 24 (fun xs => ∃ l, xs = [.sl none (encN l)]) := by
  obtain ⟨f0, hu, o0, t0⟩ := u24
  exact opn_struct1 hu (by rw [t0]; kernel_rfl) o0 (by rw [t0]; exact opn22)
/-- A name that came in. -/
theorem open24 {r : Reach} {b0 : Nat} {v : Value} {d : DataW H} {ps : List MemPlace} (hval : Value.okWide Try.prog w r b0 24 v) (h : DataW.Trod enc Try.prog w base spare held 24 v d ps) :
    ∃ l : List RdnV, Rel (cs0 w) [] (.ag [.sl none (encN l)]) v := by
  obtain ⟨f0, hu, _, _⟩ := u24
  obtain ⟨cs, rfl, hs⟩ := okWide_struct hu hval
  obtain ⟨fuel, hf⟩ := h
  obtain ⟨xs, ⟨l, rfl⟩, hr⟩ := opn24 _ _ _ hf
  have hr' : RelL (cs0 w) [] [.sl none (encN l)] cs.toList := hr
  exact ⟨l, .ag _ _ _ (by have := hr'.1; simpa using this) fun j x v hx hv => hr'.2 j x v hx (by simpa using hv)⟩
/-- An Rdn that came in. -/
theorem open33 {r : Reach} {b0 : Nat} {v : Value} {d : DataW H} {ps : List MemPlace} (hval : Value.okWide Try.prog w r b0 33 v) (h : DataW.Trod enc Try.prog w base spare held 33 v d ps) :
    ∃ q : RdnV, Rel (cs0 w) [] (.ag [.sl q.1 (encP q.2)]) v := by
  obtain ⟨f0, hu, _, _⟩ := u33
  obtain ⟨cs, rfl, hs⟩ := okWide_struct hu hval
  obtain ⟨fuel, hf⟩ := h
  obtain ⟨xs, ⟨l, rfl⟩, hr⟩ := opn33 _ _ _ hf
  have hr' : RelL (cs0 w) [] [.sl l.1 (encP l.2)] cs.toList := hr
  exact ⟨l, .ag _ _ _ (by have := hr'.1; simpa using this) fun j x v hx hv => hr'.2 j x v hx (by simpa using hv)⟩
theorem open36 {r : Reach} {b0 : Nat} {v : Value} {d : DataW H} {ps : List MemPlace} (h : DataW.Trod enc Try.prog w base spare held 36 v d ps) (hv : ∃ a n c, v = .slice a n c) :
    ∃ l, Rel (cs0 w) [] (.sl none (encI l)) v := by
  obtain ⟨a, n, c, rfl⟩ := hv
  obtain ⟨fuel, hf⟩ := h
  obtain ⟨xs, ⟨l, rfl⟩, hr⟩ := opn36 _ _ _ hf
  have hr' : RelL (cs0 w) [] [.sl none (encI l)] [.slice a n c] := hr
  exact ⟨l, hr'.2 0 _ _ rfl rfl⟩
/-- A law's contract, run. -/
theorem law_run {f : FuncId} {xs : List IV} (h : PC Try.prog true f xs (.b true) []) (vs : Array Value) (hx : RelL (cs0 w) [] xs vs.toList) :
    Calls Try.prog f vs w fun e w1 => e = .returned (.bool true) ∧ Below w.heap.size w w1 := by
  refine (h.run w (fun b => b < w.heap.size) (fun _ => none) vs (fun b hb => hb) hx).mono ?_
  rintro e w1 ⟨v, sc, rfl, rfl, h3, h4⟩
  cases h4
  exact ⟨rfl, h3.below⟩
end Go.Proofs
