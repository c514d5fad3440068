import Derived.Test.YtapigbgcghekgaaM37
set_option linter.unusedVariables false
set_option linter.unusedSimpArgs false
set_option maxRecDepth 100000
set_option maxHeartbeats 8000000
set_option linter.unusedVariables false
set_option linter.unusedSimpArgs false
namespace Go.Proofs
open Go.Iv
theorem encB_len (l : List Int) : (encB l).length = l.length := by simp [encB]
def heavyP (p : PairV) : Bool := decide (60 < p.oid.length) || decide (100 < p.text.length) || decide (300 < p.raw.length)
theorem c20 (p : PairV) : PC Try.prog true 20 [.ag (prC p)] (.b (heavyP p)) [] := by
  unfold heavyP
  by_cases h1 : 60 < p.oid.length
  · have h1i : (60 : Int) < (p.oid.length : Int) := by omega
    refine pcW E0_ok mm (fn := Try.f20) (by kernel_rfl) (by kernel_rfl) (by kernel_rfl) [] (by kernel_rfl) [] (by rw [show Try.f20.ntmps = 1 + 18 by kernel_rfl]; exact Nat.le_add_right _ _) ?_
    intro T hl hx
    have a0 := hx 0 _ rfl
    clear hx
    simp only [bodyOf, Try.f20] at hl ⊢
    simp only [wB, E0_tys, appI, buildI, placesI, okPart, bsI, slI, sliceI, sliceS, optI, appendI, srcI, chunk, fillI, fzParts, fzL, fz1, planAt, loadI, storeI, takeI, TK.agg, TK.known, cellsI, fillRow, okCell, bltI, builtinI, lenI, indexAddrI, fieldAddrI, fieldI, indexI, nilChkI, An.isImm, pureC, pure0, impI, impL, impC, cutO, An.imps, List.replicate, decide_true, decide_false, cond_true, cond_false, if_true, if_false, ite_true, ite_false, ne_eq, forall_const, eq_self, reduceCtorEq, reduceIte, Nat.reduceLT, Nat.reduceLeDiff, Nat.reduceAdd, Nat.reduceSub, Nat.reduceMul, Nat.reduceEqDiff, Nat.reduceBEq, Int.reduceLE, Int.reduceLT, Int.reduceToNat, Int.reduceEq, Int.reduceAdd, Int.reduceSub, Int.reduceMul, ty_39, tk_39, ty_36, tk_36, ty_37, tk_37, ty_3, tk_3, ty_4, tk_4, ty_5, tk_5, ty_6, tk_6, a0, hl, prC, encI_len, encB_len, h1i, h1, Bool.true_or]
  · have h1i : ¬ (60 : Int) < (p.oid.length : Int) := by omega
    by_cases h2 : 100 < p.text.length
    · have h2i : (100 : Int) < (p.text.length : Int) := by omega
      refine pcW E0_ok mm (fn := Try.f20) (by kernel_rfl) (by kernel_rfl) (by kernel_rfl) [] (by kernel_rfl) [] (by rw [show Try.f20.ntmps = 1 + 18 by kernel_rfl]; exact Nat.le_add_right _ _) ?_
      intro T hl hx
      have a0 := hx 0 _ rfl
      clear hx
      simp only [bodyOf, Try.f20] at hl ⊢
      simp only [wB, E0_tys, appI, buildI, placesI, okPart, bsI, slI, sliceI, sliceS, optI, appendI, srcI, chunk, fillI, fzParts, fzL, fz1, planAt, loadI, storeI, takeI, TK.agg, TK.known, cellsI, fillRow, okCell, bltI, builtinI, lenI, indexAddrI, fieldAddrI, fieldI, indexI, nilChkI, An.isImm, pureC, pure0, impI, impL, impC, cutO, An.imps, List.replicate, decide_true, decide_false, cond_true, cond_false, if_true, if_false, ite_true, ite_false, ne_eq, forall_const, eq_self, reduceCtorEq, reduceIte, Nat.reduceLT, Nat.reduceLeDiff, Nat.reduceAdd, Nat.reduceSub, Nat.reduceMul, Nat.reduceEqDiff, Nat.reduceBEq, Int.reduceLE, Int.reduceLT, Int.reduceToNat, Int.reduceEq, Int.reduceAdd, Int.reduceSub, Int.reduceMul, ty_39, tk_39, ty_36, tk_36, ty_37, tk_37, ty_3, tk_3, ty_4, tk_4, ty_5, tk_5, ty_6, tk_6, a0, hl, prC, encI_len, encB_len, h1i, h2i, h1, h2, Bool.true_or, Bool.false_or]
    · have h2i : ¬ (100 : Int) < (p.text.length : Int) := by omega
      by_cases h3 : 300 < p.raw.length
      · have h3i : (300 : Int) < (p.raw.length : Int) := by omega
        refine pcW E0_ok mm (fn := Try.f20) (by kernel_rfl) (by kernel_rfl) (by kernel_rfl) [] (by kernel_rfl) [] (by rw [show Try.f20.ntmps = 1 + 18 by kernel_rfl]; exact Nat.le_add_right _ _) ?_
        intro T hl hx
        have a0 := hx 0 _ rfl
        clear hx
        simp only [bodyOf, Try.f20] at hl ⊢
        simp only [wB, E0_tys, appI, buildI, placesI, okPart, bsI, slI, sliceI, sliceS, optI, appendI, srcI, chunk, fillI, fzParts, fzL, fz1, planAt, loadI, storeI, takeI, TK.agg, TK.known, cellsI, fillRow, okCell, bltI, builtinI, lenI, indexAddrI, fieldAddrI, fieldI, indexI, nilChkI, An.isImm, pureC, pure0, impI, impL, impC, cutO, An.imps, List.replicate, decide_true, decide_false, cond_true, cond_false, if_true, if_false, ite_true, ite_false, ne_eq, forall_const, eq_self, reduceCtorEq, reduceIte, Nat.reduceLT, Nat.reduceLeDiff, Nat.reduceAdd, Nat.reduceSub, Nat.reduceMul, Nat.reduceEqDiff, Nat.reduceBEq, Int.reduceLE, Int.reduceLT, Int.reduceToNat, Int.reduceEq, Int.reduceAdd, Int.reduceSub, Int.reduceMul, ty_39, tk_39, ty_36, tk_36, ty_37, tk_37, ty_3, tk_3, ty_4, tk_4, ty_5, tk_5, ty_6, tk_6, a0, hl, prC, encI_len, encB_len, h1i, h2i, h3i, h1, h2, h3, Bool.true_or, Bool.false_or]
      · have h3i : ¬ (300 : Int) < (p.raw.length : Int) := by omega
        refine pcW E0_ok mm (fn := Try.f20) (by kernel_rfl) (by kernel_rfl) (by kernel_rfl) [] (by kernel_rfl) [] (by rw [show Try.f20.ntmps = 1 + 18 by kernel_rfl]; exact Nat.le_add_right _ _) ?_
        intro T hl hx
        have a0 := hx 0 _ rfl
        clear hx
        simp only [bodyOf, Try.f20] at hl ⊢
        simp only [wB, E0_tys, appI, buildI, placesI, okPart, bsI, slI, sliceI, sliceS, optI, appendI, srcI, chunk, fillI, fzParts, fzL, fz1, planAt, loadI, storeI, takeI, TK.agg, TK.known, cellsI, fillRow, okCell, bltI, builtinI, lenI, indexAddrI, fieldAddrI, fieldI, indexI, nilChkI, An.isImm, pureC, pure0, impI, impL, impC, cutO, An.imps, List.replicate, decide_true, decide_false, cond_true, cond_false, if_true, if_false, ite_true, ite_false, ne_eq, forall_const, eq_self, reduceCtorEq, reduceIte, Nat.reduceLT, Nat.reduceLeDiff, Nat.reduceAdd, Nat.reduceSub, Nat.reduceMul, Nat.reduceEqDiff, Nat.reduceBEq, Int.reduceLE, Int.reduceLT, Int.reduceToNat, Int.reduceEq, Int.reduceAdd, Int.reduceSub, Int.reduceMul, ty_39, tk_39, ty_36, tk_36, ty_37, tk_37, ty_3, tk_3, ty_4, tk_4, ty_5, tk_5, ty_6, tk_6, a0, hl, prC, encI_len, encB_len, h1i, h2i, h3i, h1, h2, h3, Bool.true_or, Bool.false_or]
def heavyR (r : RdnV) : Bool := decide (10 < r.2.length) || r.2.any heavyP
def heavyN (rs : List RdnV) : Bool := decide (20 < rs.length) || rs.any heavyR
theorem c8 (nl : Option Bool) (rs : List RdnV) : PC Try.prog true 8 [.ag [.sl nl (encN rs)]] (.b (heavyN rs)) [] := by
  unfold heavyN
  by_cases h20 : 20 < rs.length
  · have h1i : (20 : Int) < (rs.length : Int) := by omega
    refine pcW E0_ok mm (fn := Try.f8) (by kernel_rfl) (by kernel_rfl) (by kernel_rfl) [] (by kernel_rfl) [] (by rw [show Try.f8.ntmps = 1 + 44 by kernel_rfl]; exact Nat.le_add_right _ _) ?_
    intro T hl hx
    have a0 := hx 0 _ rfl
    clear hx
    simp only [bodyOf, Try.f8] at hl ⊢
    simp only [wB, E0_tys, appI, buildI, placesI, okPart, bsI, slI, sliceI, sliceS, optI, appendI, srcI, chunk, fillI, fzParts, fzL, fz1, planAt, loadI, storeI, takeI, TK.agg, TK.known, cellsI, fillRow, okCell, bltI, builtinI, lenI, indexAddrI, fieldAddrI, fieldI, indexI, nilChkI, An.isImm, pureC, pure0, impI, impL, impC, cutO, An.imps, List.replicate, decide_true, decide_false, cond_true, cond_false, if_true, if_false, ite_true, ite_false, ne_eq, forall_const, eq_self, reduceCtorEq, reduceIte, Nat.reduceLT, Nat.reduceLeDiff, Nat.reduceAdd, Nat.reduceSub, Nat.reduceMul, Nat.reduceEqDiff, Nat.reduceBEq, Int.reduceLE, Int.reduceLT, Int.reduceToNat, Int.reduceEq, Int.reduceAdd, Int.reduceSub, Int.reduceMul, ty_24, tk_24, ty_22, tk_22, ty_33, tk_33, ty_31, tk_31, ty_39, tk_39, ty_36, tk_36, ty_37, tk_37, ty_3, tk_3, ty_4, tk_4, a0, hl, encN_len, h1i, h20, Bool.true_or]
  · have h1i : ¬ (20 : Int) < (rs.length : Int) := by omega
    rw [show (decide (20 < rs.length) || rs.any heavyR) = rs.any heavyR by simp [h20]]
    refine pcW E0_ok mm (fn := Try.f8) (by kernel_rfl) (by kernel_rfl) (by kernel_rfl) [] (by kernel_rfl) [] (by rw [show Try.f8.ntmps = 1 + 44 by kernel_rfl]; exact Nat.le_add_right _ _) ?_
    intro T hl hx
    have a0 := hx 0 _ rfl
    clear hx
    simp only [bodyOf, Try.f8] at hl ⊢
    simp only [wB, E0_tys, appI, buildI, placesI, okPart, bsI, slI, sliceI, sliceS, optI, appendI, srcI, chunk, fillI, fzParts, fzL, fz1, planAt, loadI, storeI, takeI, TK.agg, TK.known, cellsI, fillRow, okCell, bltI, builtinI, lenI, indexAddrI, fieldAddrI, fieldI, indexI, nilChkI, An.isImm, pureC, pure0, impI, impL, impC, cutO, An.imps, List.replicate, decide_true, decide_false, cond_true, cond_false, if_true, if_false, ite_true, ite_false, ne_eq, forall_const, eq_self, reduceCtorEq, reduceIte, Nat.reduceLT, Nat.reduceLeDiff, Nat.reduceAdd, Nat.reduceSub, Nat.reduceMul, Nat.reduceEqDiff, Nat.reduceBEq, Int.reduceLE, Int.reduceLT, Int.reduceToNat, Int.reduceEq, Int.reduceAdd, Int.reduceSub, Int.reduceMul, ty_24, tk_24, ty_22, tk_22, ty_33, tk_33, ty_31, tk_31, ty_39, tk_39, ty_36, tk_36, ty_37, tk_37, ty_3, tk_3, ty_4, tk_4, a0, hl, encN_len, h1i, h20, Bool.false_or]
    refine W_loop _ _ _ _ _ _ _ (fun T R => ∃ k : Nat, k ≤ rs.length ∧ T.length = 45 ∧ getT T 1 = .pi [.sl nl (encN rs)] ∧ getT T 3 = .i .i64 (k : Int) ∧ (rs.drop k).any heavyR = rs.any heavyR)
      (fun T _ => rs.length - (asI (getT T 3)).toNat) ⟨0, by omega, ?_⟩ ?_
    · simp only [wB, E0_tys, appI, buildI, placesI, okPart, bsI, slI, sliceI, sliceS, optI, appendI, srcI, chunk, fillI, fzParts, fzL, fz1, planAt, loadI, storeI, takeI, TK.agg, TK.known, cellsI, fillRow, okCell, bltI, builtinI, lenI, indexAddrI, fieldAddrI, fieldI, indexI, nilChkI, An.isImm, pureC, pure0, impI, impL, impC, cutO, An.imps, List.replicate, decide_true, decide_false, cond_true, cond_false, if_true, if_false, ite_true, ite_false, ne_eq, forall_const, eq_self, reduceCtorEq, reduceIte, Nat.reduceLT, Nat.reduceLeDiff, Nat.reduceAdd, Nat.reduceSub, Nat.reduceMul, Nat.reduceEqDiff, Nat.reduceBEq, Int.reduceLE, Int.reduceLT, Int.reduceToNat, Int.reduceEq, Int.reduceAdd, Int.reduceSub, Int.reduceMul, ty_24, tk_24, ty_22, tk_22, ty_33, tk_33, ty_31, tk_31, ty_39, tk_39, ty_36, tk_36, ty_37, tk_37, ty_3, tk_3, ty_4, tk_4, a0, hl]
    · clear hl a0
      rintro T R ⟨k, hk, hl, a1, a3, hA⟩
      have a3o := a3
      simp only [wB, E0_tys, appI, buildI, placesI, okPart, bsI, slI, sliceI, sliceS, optI, appendI, srcI, chunk, fillI, fzParts, fzL, fz1, planAt, loadI, storeI, takeI, TK.agg, TK.known, cellsI, fillRow, okCell, bltI, builtinI, lenI, indexAddrI, fieldAddrI, fieldI, indexI, nilChkI, An.isImm, pureC, pure0, impI, impL, impC, cutO, An.imps, List.replicate, decide_true, decide_false, cond_true, cond_false, if_true, if_false, ite_true, ite_false, ne_eq, forall_const, eq_self, reduceCtorEq, reduceIte, Nat.reduceLT, Nat.reduceLeDiff, Nat.reduceAdd, Nat.reduceSub, Nat.reduceMul, Nat.reduceEqDiff, Nat.reduceBEq, Int.reduceLE, Int.reduceLT, Int.reduceToNat, Int.reduceEq, Int.reduceAdd, Int.reduceSub, Int.reduceMul, ty_24, tk_24, ty_22, tk_22, ty_33, tk_33, ty_31, tk_31, ty_39, tk_39, ty_36, tk_36, ty_37, tk_37, ty_3, tk_3, ty_4, tk_4, a1, a3, hl, encN_len]
      refine condW_b _ _ _ _ (fun hq => ?_) (fun hq => ?_)
      · have hk2 : k < rs.length := by have := of_decide_eq_true hq; omega
        obtain ⟨r, hr⟩ := at_lt hk2
        have hw : IntKind.i64.wrap ((k : Int) + 1) = ((k + 1 : Nat) : Int) := by rw [wrap64] <;> omega
        rw [drop_at hr, List.any_cons] at hA
        by_cases h10 : 10 < r.2.length
        · have h2i : (10 : Int) < (r.2.length : Int) := by omega
          have hR : heavyR r = true := by unfold heavyR; simp [h10]
          rw [hR, Bool.true_or] at hA
          simp only [wB, E0_tys, appI, buildI, placesI, okPart, bsI, slI, sliceI, sliceS, optI, appendI, srcI, chunk, fillI, fzParts, fzL, fz1, planAt, loadI, storeI, takeI, TK.agg, TK.known, cellsI, fillRow, okCell, bltI, builtinI, lenI, indexAddrI, fieldAddrI, fieldI, indexI, nilChkI, An.isImm, pureC, pure0, impI, impL, impC, cutO, An.imps, List.replicate, decide_true, decide_false, cond_true, cond_false, if_true, if_false, ite_true, ite_false, ne_eq, forall_const, eq_self, reduceCtorEq, reduceIte, Nat.reduceLT, Nat.reduceLeDiff, Nat.reduceAdd, Nat.reduceSub, Nat.reduceMul, Nat.reduceEqDiff, Nat.reduceBEq, Int.reduceLE, Int.reduceLT, Int.reduceToNat, Int.reduceEq, Int.reduceAdd, Int.reduceSub, Int.reduceMul, ty_24, tk_24, ty_22, tk_22, ty_33, tk_33, ty_31, tk_31, ty_39, tk_39, ty_36, tk_36, ty_37, tk_37, ty_3, tk_3, ty_4, tk_4, a1, a3, hl, encN_len, hk2, encN_at hr, encP_len, h2i]
          rw [hA]
        · have h2i : ¬ (10 : Int) < (r.2.length : Int) := by omega
          have hR : heavyR r = r.2.any heavyP := by unfold heavyR; simp [h10]
          rw [hR] at hA
          simp only [wB, E0_tys, appI, buildI, placesI, okPart, bsI, slI, sliceI, sliceS, optI, appendI, srcI, chunk, fillI, fzParts, fzL, fz1, planAt, loadI, storeI, takeI, TK.agg, TK.known, cellsI, fillRow, okCell, bltI, builtinI, lenI, indexAddrI, fieldAddrI, fieldI, indexI, nilChkI, An.isImm, pureC, pure0, impI, impL, impC, cutO, An.imps, List.replicate, decide_true, decide_false, cond_true, cond_false, if_true, if_false, ite_true, ite_false, ne_eq, forall_const, eq_self, reduceCtorEq, reduceIte, Nat.reduceLT, Nat.reduceLeDiff, Nat.reduceAdd, Nat.reduceSub, Nat.reduceMul, Nat.reduceEqDiff, Nat.reduceBEq, Int.reduceLE, Int.reduceLT, Int.reduceToNat, Int.reduceEq, Int.reduceAdd, Int.reduceSub, Int.reduceMul, ty_24, tk_24, ty_22, tk_22, ty_33, tk_33, ty_31, tk_31, ty_39, tk_39, ty_36, tk_36, ty_37, tk_37, ty_3, tk_3, ty_4, tk_4, a1, a3, hl, encN_len, hk2, encN_at hr, encP_len, h2i]
          refine W_loop _ _ _ _ _ _ _ (fun T R => ∃ j : Nat, j ≤ r.2.length ∧ T.length = 45 ∧ getT T 1 = .pi [.sl nl (encN rs)] ∧ getT T 3 = .i .i64 (k : Int) ∧ getT T 4 = .i .i64 (j : Int) ∧ (r.2.drop j).any heavyP = r.2.any heavyP)
            (fun T _ => r.2.length - (asI (getT T 4)).toNat) ⟨0, by omega, ?_⟩ ?_
          · simp only [wB, E0_tys, appI, buildI, placesI, okPart, bsI, slI, sliceI, sliceS, optI, appendI, srcI, chunk, fillI, fzParts, fzL, fz1, planAt, loadI, storeI, takeI, TK.agg, TK.known, cellsI, fillRow, okCell, bltI, builtinI, lenI, indexAddrI, fieldAddrI, fieldI, indexI, nilChkI, An.isImm, pureC, pure0, impI, impL, impC, cutO, An.imps, List.replicate, decide_true, decide_false, cond_true, cond_false, if_true, if_false, ite_true, ite_false, ne_eq, forall_const, eq_self, reduceCtorEq, reduceIte, Nat.reduceLT, Nat.reduceLeDiff, Nat.reduceAdd, Nat.reduceSub, Nat.reduceMul, Nat.reduceEqDiff, Nat.reduceBEq, Int.reduceLE, Int.reduceLT, Int.reduceToNat, Int.reduceEq, Int.reduceAdd, Int.reduceSub, Int.reduceMul, ty_24, tk_24, ty_22, tk_22, ty_33, tk_33, ty_31, tk_31, ty_39, tk_39, ty_36, tk_36, ty_37, tk_37, ty_3, tk_3, ty_4, tk_4, a1, a3, hl]
          · clear hl a1 a3
            rintro T R ⟨j, hj, hl, a1, a3, a4, hB⟩
            simp only [wB, E0_tys, appI, buildI, placesI, okPart, bsI, slI, sliceI, sliceS, optI, appendI, srcI, chunk, fillI, fzParts, fzL, fz1, planAt, loadI, storeI, takeI, TK.agg, TK.known, cellsI, fillRow, okCell, bltI, builtinI, lenI, indexAddrI, fieldAddrI, fieldI, indexI, nilChkI, An.isImm, pureC, pure0, impI, impL, impC, cutO, An.imps, List.replicate, decide_true, decide_false, cond_true, cond_false, if_true, if_false, ite_true, ite_false, ne_eq, forall_const, eq_self, reduceCtorEq, reduceIte, Nat.reduceLT, Nat.reduceLeDiff, Nat.reduceAdd, Nat.reduceSub, Nat.reduceMul, Nat.reduceEqDiff, Nat.reduceBEq, Int.reduceLE, Int.reduceLT, Int.reduceToNat, Int.reduceEq, Int.reduceAdd, Int.reduceSub, Int.reduceMul, ty_24, tk_24, ty_22, tk_22, ty_33, tk_33, ty_31, tk_31, ty_39, tk_39, ty_36, tk_36, ty_37, tk_37, ty_3, tk_3, ty_4, tk_4, a1, a3, a4, hl, encN_len, hk2, encN_at hr, encP_len]
            refine condW_b _ _ _ _ (fun hq2 => ?_) (fun hq2 => ?_)
            · have hj2 : j < r.2.length := by have := of_decide_eq_true hq2; omega
              obtain ⟨p, hp⟩ := at_lt hj2
              have hwj : IntKind.i64.wrap ((j : Int) + 1) = ((j + 1 : Nat) : Int) := by rw [wrap64] <;> omega
              have k20 := c20 p
              rw [drop_at hp, List.any_cons] at hB
              simp only [wB, E0_tys, appI, buildI, placesI, okPart, bsI, slI, sliceI, sliceS, optI, appendI, srcI, chunk, fillI, fzParts, fzL, fz1, planAt, loadI, storeI, takeI, TK.agg, TK.known, cellsI, fillRow, okCell, bltI, builtinI, lenI, indexAddrI, fieldAddrI, fieldI, indexI, nilChkI, An.isImm, pureC, pure0, impI, impL, impC, cutO, An.imps, List.replicate, decide_true, decide_false, cond_true, cond_false, if_true, if_false, ite_true, ite_false, ne_eq, forall_const, eq_self, reduceCtorEq, reduceIte, Nat.reduceLT, Nat.reduceLeDiff, Nat.reduceAdd, Nat.reduceSub, Nat.reduceMul, Nat.reduceEqDiff, Nat.reduceBEq, Int.reduceLE, Int.reduceLT, Int.reduceToNat, Int.reduceEq, Int.reduceAdd, Int.reduceSub, Int.reduceMul, ty_24, tk_24, ty_22, tk_22, ty_33, tk_33, ty_31, tk_31, ty_39, tk_39, ty_36, tk_36, ty_37, tk_37, ty_3, tk_3, ty_4, tk_4, a1, a3, a4, hl, encN_len, hk2, encN_at hr, encP_len, hj2, encP_at hp]
              refine callPu0 k20 rfl rfl ?_
              cases hh : heavyP p with
              | true =>
                rw [hh, Bool.true_or] at hB
                rw [← hB, Bool.true_or] at hA
                simp only [wB, E0_tys, appI, buildI, placesI, okPart, bsI, slI, sliceI, sliceS, optI, appendI, srcI, chunk, fillI, fzParts, fzL, fz1, planAt, loadI, storeI, takeI, TK.agg, TK.known, cellsI, fillRow, okCell, bltI, builtinI, lenI, indexAddrI, fieldAddrI, fieldI, indexI, nilChkI, An.isImm, pureC, pure0, impI, impL, impC, cutO, An.imps, List.replicate, decide_true, decide_false, cond_true, cond_false, if_true, if_false, ite_true, ite_false, ne_eq, forall_const, eq_self, reduceCtorEq, reduceIte, Nat.reduceLT, Nat.reduceLeDiff, Nat.reduceAdd, Nat.reduceSub, Nat.reduceMul, Nat.reduceEqDiff, Nat.reduceBEq, Int.reduceLE, Int.reduceLT, Int.reduceToNat, Int.reduceEq, Int.reduceAdd, Int.reduceSub, Int.reduceMul, ty_24, tk_24, ty_22, tk_22, ty_33, tk_33, ty_31, tk_31, ty_39, tk_39, ty_36, tk_36, ty_37, tk_37, ty_3, tk_3, ty_4, tk_4, hl]
                rw [hA]
              | false =>
                rw [hh, Bool.false_or] at hB
                simp only [wB, E0_tys, appI, buildI, placesI, okPart, bsI, slI, sliceI, sliceS, optI, appendI, srcI, chunk, fillI, fzParts, fzL, fz1, planAt, loadI, storeI, takeI, TK.agg, TK.known, cellsI, fillRow, okCell, bltI, builtinI, lenI, indexAddrI, fieldAddrI, fieldI, indexI, nilChkI, An.isImm, pureC, pure0, impI, impL, impC, cutO, An.imps, List.replicate, decide_true, decide_false, cond_true, cond_false, if_true, if_false, ite_true, ite_false, ne_eq, forall_const, eq_self, reduceCtorEq, reduceIte, Nat.reduceLT, Nat.reduceLeDiff, Nat.reduceAdd, Nat.reduceSub, Nat.reduceMul, Nat.reduceEqDiff, Nat.reduceBEq, Int.reduceLE, Int.reduceLT, Int.reduceToNat, Int.reduceEq, Int.reduceAdd, Int.reduceSub, Int.reduceMul, ty_24, tk_24, ty_22, tk_22, ty_33, tk_33, ty_31, tk_31, ty_39, tk_39, ty_36, tk_36, ty_37, tk_37, ty_3, tk_3, ty_4, tk_4, a1, a3, a4, hl, hwj]
                exact ⟨⟨j + 1, hj2, rfl, hB⟩, by simp only [asI]; omega⟩
            · have hj2 : j = r.2.length := by have := of_decide_eq_false hq2; omega
              subst hj2
              rw [List.drop_length, List.any_nil] at hB
              rw [← hB, Bool.false_or] at hA
              simp only [wB, E0_tys, appI, buildI, placesI, okPart, bsI, slI, sliceI, sliceS, optI, appendI, srcI, chunk, fillI, fzParts, fzL, fz1, planAt, loadI, storeI, takeI, TK.agg, TK.known, cellsI, fillRow, okCell, bltI, builtinI, lenI, indexAddrI, fieldAddrI, fieldI, indexI, nilChkI, An.isImm, pureC, pure0, impI, impL, impC, cutO, An.imps, List.replicate, decide_true, decide_false, cond_true, cond_false, if_true, if_false, ite_true, ite_false, ne_eq, forall_const, eq_self, reduceCtorEq, reduceIte, Nat.reduceLT, Nat.reduceLeDiff, Nat.reduceAdd, Nat.reduceSub, Nat.reduceMul, Nat.reduceEqDiff, Nat.reduceBEq, Int.reduceLE, Int.reduceLT, Int.reduceToNat, Int.reduceEq, Int.reduceAdd, Int.reduceSub, Int.reduceMul, ty_24, tk_24, ty_22, tk_22, ty_33, tk_33, ty_31, tk_31, ty_39, tk_39, ty_36, tk_36, ty_37, tk_37, ty_3, tk_3, ty_4, tk_4, a1, a3, hl, hw]
              exact ⟨⟨k + 1, hk2, rfl, hA⟩, by rw [a3o]; simp only [asI]; omega⟩
      · have hk2 : k = rs.length := by have := of_decide_eq_false hq; omega
        subst hk2
        rw [List.drop_length, List.any_nil] at hA
        simp only [wB, E0_tys, appI, buildI, placesI, okPart, bsI, slI, sliceI, sliceS, optI, appendI, srcI, chunk, fillI, fzParts, fzL, fz1, planAt, loadI, storeI, takeI, TK.agg, TK.known, cellsI, fillRow, okCell, bltI, builtinI, lenI, indexAddrI, fieldAddrI, fieldI, indexI, nilChkI, An.isImm, pureC, pure0, impI, impL, impC, cutO, An.imps, List.replicate, decide_true, decide_false, cond_true, cond_false, if_true, if_false, ite_true, ite_false, ne_eq, forall_const, eq_self, reduceCtorEq, reduceIte, Nat.reduceLT, Nat.reduceLeDiff, Nat.reduceAdd, Nat.reduceSub, Nat.reduceMul, Nat.reduceEqDiff, Nat.reduceBEq, Int.reduceLE, Int.reduceLT, Int.reduceToNat, Int.reduceEq, Int.reduceAdd, Int.reduceSub, Int.reduceMul, ty_24, tk_24, ty_22, tk_22, ty_33, tk_33, ty_31, tk_31, ty_39, tk_39, ty_36, tk_36, ty_37, tk_37, ty_3, tk_3, ty_4, tk_4, hl]
        rw [← hA]
end Go.Proofs
set_option maxRecDepth 100000
set_option maxHeartbeats 8000000
namespace Go.Proofs
open Go.Iv
theorem wk_map65 : mapF 1 [65] = [97] := by kernel_rfl
theorem wk_map97 : mapF 1 [97] = [97] := by kernel_rfl
theorem wk_map98 : mapF 1 [98] = [98] := by kernel_rfl
theorem wk_mapE : mapF 1 [57344] = [57344] := by kernel_rfl
theorem wk_all97 : allF [97] true = [97] := by kernel_rfl
theorem wk_all98 : allF [98] true = [98] := by kernel_rfl
theorem wk_allE : allF [57344] true = [57344] := by kernel_rfl
theorem wk_put (c : Int) : putF [c] = [c] := List.perm_singleton.1 (putF_perm [c])
theorem wk_cmp97 : cmpF [97] = [97] := by kernel_rfl
theorem wk_cmp98 : cmpF [98] = [98] := by kernel_rfl
theorem wk_cmpE : cmpF [57344] = [57344] := by kernel_rfl
theorem wk_sp97 : spacesF (wordsF [97]) 1 = [32, 97, 32] := by kernel_rfl
theorem wk_sp98 : spacesF (wordsF [98]) 1 = [32, 98, 32] := by kernel_rfl
theorem wk_bad97 : [97].any badF = false := by kernel_rfl
theorem wk_bad98 : [98].any badF = false := by kernel_rfl
theorem wk_badE : [57344].any badF = true := by kernel_rfl
theorem prepF_of {s m : List Int} (h1 : mapF 1 s = m) {c : Int} (h2 : allF m true = [c]) (h3 : cmpF [c] = [c]) : prepF s 1 = if [c].any badF = true then none else some (spacesF (wordsF [c]) 1) := by
  unfold prepF formF apartF
  rw [h1, h2, wk_put, h3]
  simp
theorem wk_65 : prepF [65] 1 = some [32, 97, 32] := by rw [prepF_of wk_map65 wk_all97 wk_cmp97, wk_bad97, wk_sp97]; rfl
theorem wk_97 : prepF [97] 1 = some [32, 97, 32] := by rw [prepF_of wk_map97 wk_all97 wk_cmp97, wk_bad97, wk_sp97]; rfl
theorem wk_98 : prepF [98] 1 = some [32, 98, 32] := by rw [prepF_of wk_map98 wk_all98 wk_cmp98, wk_bad98, wk_sp98]; rfl
theorem wk_E : prepF [57344] 1 = none := by rw [prepF_of wk_mapE wk_allE wk_cmpE, wk_badE]; rfl
end Go.Proofs
set_option maxRecDepth 100000
set_option maxHeartbeats 8000000
set_option linter.unusedVariables false
set_option linter.unusedSimpArgs false
namespace Go.Proofs
open Go.Iv
abbrev oneP (no : Option Bool) (oid : List Int) (kind : Int) (nt : Option Bool) (s : List Int) : PairV := ⟨no, oid, kind, nt, s, some true, []⟩
abbrev oneN (no : Option Bool) (oid : List Int) (kind : Int) (nt : Option Bool) (s : List Int) : List RdnV := [(some false, [oneP no oid kind nt s])]
theorem c17 (kind : Int) (nt : Option Bool) (s : List Int) : PC Try.prog true 17 [.i .i64 kind, .sl nt (encI s)] (.ag [.sl (some false) (encN (oneN (some false) [2, 5, 4, 3] kind nt s))]) [] := by
  refine pcW E0_ok mm (fn := Try.f17) (by kernel_rfl) (by kernel_rfl) (by kernel_rfl) [(0, 0, .reg 0)] (by kernel_rfl) [] (by rw [show Try.f17.ntmps = 2 + 11 by kernel_rfl]; exact Nat.le_add_right _ _) ?_
  intro T hl hx
  have a0 := hx 0 _ rfl
  have a1 := hx 1 _ rfl
  clear hx
  simp only [bodyOf, Try.f17] at hl ⊢
  simp only [wB, E0_tys, appI, buildI, placesI, okPart, bsI, slI, sliceI, sliceS, optI, appendI, srcI, chunk, fillI, fzParts, fzL, fz1, planAt, loadI, storeI, takeI, TK.agg, TK.known, cellsI, fillRow, okCell, bltI, builtinI, lenI, indexAddrI, fieldAddrI, fieldI, indexI, nilChkI, An.isImm, pureC, pure0, impI, impL, impC, cutO, An.imps, List.replicate, decide_true, decide_false, cond_true, cond_false, if_true, if_false, ite_true, ite_false, ne_eq, forall_const, eq_self, reduceCtorEq, reduceIte, Nat.reduceLT, Nat.reduceLeDiff, Nat.reduceAdd, Nat.reduceSub, Nat.reduceMul, Nat.reduceEqDiff, Nat.reduceBEq, Int.reduceLE, Int.reduceLT, Int.reduceToNat, Int.reduceEq, Int.reduceAdd, Int.reduceSub, Int.reduceMul, ty_3, tk_3, ty_36, tk_36, ty_24, tk_24, ty_22, tk_22, ty_33, tk_33, ty_31, tk_31, ty_39, tk_39, ty_37, tk_37, a0, a1, hl, Bool.or_true, Bool.or_self]
  try rfl
theorem allKF_one (no : Option Bool) (oid : List Int) (kind : Int) (nt : Option Bool) (s : List Int) (h0 : kind ≠ 0) (h1 : kind ∈ kindsT) :
    allKF (oneN no oid kind nt s) = match prepF s (ruleF oid) with | some k => some [[⟨oneP no oid kind nt s, k⟩]] | none => none := by
  unfold oneN allKF keysF keyF
  rw [if_neg h0, if_pos h1]
  dsimp only [oneP]
  cases prepF s (ruleF oid) <;> rfl
theorem sets_one (x y : KV) : setsF [x] [y] = sameF x y := by
  unfold setsF idxQ
  cases sameF x y <;> rfl
theorem verd_one (no no' : Option Bool) (oid : List Int) (kind kind' : Int) (nt nt' : Option Bool) (s t : List Int) (h0 : kind ≠ 0) (h1 : kind ∈ kindsT) (h0' : kind' ≠ 0) (h1' : kind' ∈ kindsT) :
    verdF (oneN no oid kind nt s) (oneN no' oid kind' nt' t) true = match prepF s (ruleF oid), prepF t (ruleF oid) with | some a, some b => if a = b then 2 else 3 | _, _ => 1 := by
  unfold verdF
  rw [allKF_one _ _ _ _ _ h0 h1, allKF_one _ _ _ _ _ h0' h1']
  cases prepF s (ruleF oid) with
  | none => rfl
  | some a =>
    cases prepF t (ruleF oid) with
    | none => rfl
    | some b =>
      dsimp only
      rw [if_neg (by simp)]
      have e : eqvF ([[(⟨oneP no oid kind nt s, a⟩ : KV)]].take [[(⟨oneP no' oid kind' nt' t, b⟩ : KV)]].length) [[⟨oneP no' oid kind' nt' t, b⟩]] = decide (a = b) := by
        show (setsF [_] [_] && true) = _
        rw [sets_one]
        simp [sameF, oneP, h0, h0']
      rw [e]
      by_cases h : a = b <;> simp [h]
theorem wk_rule : ruleF [2, 5, 4, 3] = 1 := by kernel_rfl
theorem wk_1 : verdF (oneN (some false) [2, 5, 4, 3] 19 (some false) [65]) (oneN (some false) [2, 5, 4, 3] 12 (some false) [97]) true = 2 := by
  rw [verd_one _ _ _ _ _ _ _ _ _ (by decide) (by decide) (by decide) (by decide), wk_rule, wk_65, wk_97]; rfl
theorem wk_2 : verdF (oneN (some false) [2, 5, 4, 3] 19 (some false) [65]) (oneN (some false) [2, 5, 4, 3] 12 (some false) [98]) true = 3 := by
  rw [verd_one _ _ _ _ _ _ _ _ _ (by decide) (by decide) (by decide) (by decide), wk_rule, wk_65, wk_98]; rfl
theorem wk_3 : verdF (oneN (some false) [2, 5, 4, 3] 19 (some false) [65]) (oneN (some false) [2, 5, 4, 3] 12 (some false) [57344]) true = 1 := by
  rw [verd_one _ _ _ _ _ _ _ _ _ (by decide) (by decide) (by decide) (by decide), wk_rule, wk_65, wk_E]
theorem wk_4 : verdF (oneN (some false) [2, 5, 4, 3] 19 (some false) [65]) [] false = 2 := by
  unfold verdF
  rw [allKF_one _ _ _ _ _ (by decide) (by decide), wk_rule, wk_65]
  rfl
theorem okNR_one (no : Option Bool) (oid : List Int) (kind : Int) (nt : Option Bool) (s : List Int) (h1 : oid.length ≤ 10000) (h2 : s.length ≤ 10000) : okNR (oneN no oid kind nt s) := by
  refine ⟨by simp, fun r hr => ?_⟩
  have : r = (some false, [oneP no oid kind nt s]) := by simpa using hr
  subst this
  refine ⟨by simp, fun p hp => ?_⟩
  have : p = oneP no oid kind nt s := by simpa using hp
  subst this
  exact ⟨h1, h2⟩
theorem okNR_nil : okNR [] := ⟨by simp, fun r hr => by simp at hr⟩
/-- Two that are both ready and read only: whichever comes first. -/
theorem two_join {E : Env} {an : Nat → An} {all : List Oper} {i j : Nat} {p : Plan} {T Tm : List IV} {R Rm : List Reg} {K : List IV → List Reg → Prop} {t : Tok (all, K)}
    (h1 : ∀ p K', drawW E an all p Tm Rm K' .mk → onO (all[i]?) (fun o => stpW E (an i) all o T R (fun T1 R1 => drawW E an all (.one j p) T1 R1 K' .mk) .mk) .mk)
    (h2 : ∀ p K', drawW E an all p Tm Rm K' .mk → onO (all[j]?) (fun o => stpW E (an j) all o T R (fun T1 R1 => drawW E an all (.one i p) T1 R1 K' .mk) .mk) .mk)
    (h3 : drawW E an all p Tm Rm K .mk) : drawW E an all (.two i (.one j p) j (.one i p)) T R K t := by
  obtain ⟨T2, R2, k1, k2⟩ := drawW_det p _ _ _ _ h3
  exact ⟨T2, R2, h1 _ _ (k2 _ _ ⟨rfl, rfl⟩), h2 _ _ (k2 _ _ ⟨rfl, rfl⟩), k1⟩
theorem c10 : PC Try.prog true 10 [] (.b true) [] := by
  have o65 := okNR_one (some false) [2, 5, 4, 3] 19 (some false) [65] (by decide) (by decide)
  have k1 := c9 (some false) (some false) _ _ o65 (okNR_one (some false) [2, 5, 4, 3] 12 (some false) [97] (by decide) (by decide))
  have k2 := c9 (some false) (some false) _ _ o65 (okNR_one (some false) [2, 5, 4, 3] 12 (some false) [98] (by decide) (by decide))
  have k3 := c9 (some false) (some false) _ _ o65 (okNR_one (some false) [2, 5, 4, 3] 12 (some false) [57344] (by decide) (by decide))
  have k4 := c14 (some false) (some true) _ _ o65 okNR_nil
  rw [wk_1] at k1
  rw [wk_2] at k2
  rw [wk_3] at k3
  rw [wk_4] at k4
  refine pcW E0_ok mm (fn := Try.f10) (by kernel_rfl) (by kernel_rfl) (by kernel_rfl) [(1, 4, .reg 0), (1, 5, .reg 1), (2, 999, .plan (.two 0 (.one 1 (.pure 2 (.pure 3 (.pure 4 (.pure 6 (.pure 7 (.one 5 (.pure 8 (.pure 9 (.pure 10 (.pure 11 (.pure 13 (.pure 14 (.one 12 (.pure 15 (.pure 16 (.pure 17 (.pure 18 (.pure 20 (.one 19 (.pure 21 (.pure 22 (.pure 23 (.pure 24 (.done))))))))))))))))))))))))) 1 (.one 0 (.pure 2 (.pure 3 (.pure 4 (.pure 6 (.pure 7 (.one 5 (.pure 8 (.pure 9 (.pure 10 (.pure 11 (.pure 13 (.pure 14 (.one 12 (.pure 15 (.pure 16 (.pure 17 (.pure 18 (.pure 20 (.one 19 (.pure 21 (.pure 22 (.pure 23 (.pure 24 (.done)))))))))))))))))))))))))))] (by kernel_rfl) [] (by rw [show Try.f10.ntmps = 0 + 31 by kernel_rfl]; exact Nat.le_add_right _ _) ?_
  intro T hl hx
  clear hx
  simp only [bodyOf, Try.f10] at hl ⊢
  simp only [wB, E0_tys, appI, buildI, placesI, okPart, bsI, slI, sliceI, sliceS, optI, appendI, srcI, chunk, fillI, fzParts, fzL, fz1, planAt, loadI, storeI, takeI, TK.agg, TK.known, cellsI, fillRow, okCell, bltI, builtinI, lenI, indexAddrI, fieldAddrI, fieldI, indexI, nilChkI, An.isImm, pureC, pure0, impI, impL, impC, cutO, An.imps, List.replicate, decide_true, decide_false, cond_true, cond_false, if_true, if_false, ite_true, ite_false, ne_eq, forall_const, eq_self, reduceCtorEq, reduceIte, Nat.reduceLT, Nat.reduceLeDiff, Nat.reduceAdd, Nat.reduceSub, Nat.reduceMul, Nat.reduceEqDiff, Nat.reduceBEq, Int.reduceLE, Int.reduceLT, Int.reduceToNat, Int.reduceEq, Int.reduceAdd, Int.reduceSub, Int.reduceMul, ty_3, tk_3, ty_36, tk_36, ty_24, tk_24, ty_22, tk_22, ty_33, tk_33, ty_31, tk_31, ty_39, tk_39, ty_37, tk_37, hl]
  refine callPu0 (c17 19 (some false) [65]) rfl rfl ?_
  simp only [wB, E0_tys, appI, buildI, placesI, okPart, bsI, slI, sliceI, sliceS, optI, appendI, srcI, chunk, fillI, fzParts, fzL, fz1, planAt, loadI, storeI, takeI, TK.agg, TK.known, cellsI, fillRow, okCell, bltI, builtinI, lenI, indexAddrI, fieldAddrI, fieldI, indexI, nilChkI, An.isImm, pureC, pure0, impI, impL, impC, cutO, An.imps, List.replicate, decide_true, decide_false, cond_true, cond_false, if_true, if_false, ite_true, ite_false, ne_eq, forall_const, eq_self, reduceCtorEq, reduceIte, Nat.reduceLT, Nat.reduceLeDiff, Nat.reduceAdd, Nat.reduceSub, Nat.reduceMul, Nat.reduceEqDiff, Nat.reduceBEq, Int.reduceLE, Int.reduceLT, Int.reduceToNat, Int.reduceEq, Int.reduceAdd, Int.reduceSub, Int.reduceMul, ty_3, tk_3, ty_36, tk_36, ty_24, tk_24, ty_22, tk_22, ty_33, tk_33, ty_31, tk_31, ty_39, tk_39, ty_37, tk_37, hl]
  refine callPu0 (c17 12 (some false) [97]) rfl rfl ?_
  simp only [wB, E0_tys, appI, buildI, placesI, okPart, bsI, slI, sliceI, sliceS, optI, appendI, srcI, chunk, fillI, fzParts, fzL, fz1, planAt, loadI, storeI, takeI, TK.agg, TK.known, cellsI, fillRow, okCell, bltI, builtinI, lenI, indexAddrI, fieldAddrI, fieldI, indexI, nilChkI, An.isImm, pureC, pure0, impI, impL, impC, cutO, An.imps, List.replicate, decide_true, decide_false, cond_true, cond_false, if_true, if_false, ite_true, ite_false, ne_eq, forall_const, eq_self, reduceCtorEq, reduceIte, Nat.reduceLT, Nat.reduceLeDiff, Nat.reduceAdd, Nat.reduceSub, Nat.reduceMul, Nat.reduceEqDiff, Nat.reduceBEq, Int.reduceLE, Int.reduceLT, Int.reduceToNat, Int.reduceEq, Int.reduceAdd, Int.reduceSub, Int.reduceMul, ty_3, tk_3, ty_36, tk_36, ty_24, tk_24, ty_22, tk_22, ty_33, tk_33, ty_31, tk_31, ty_39, tk_39, ty_37, tk_37, hl]
  refine two_join (Tm := ?Tm) (Rm := ?Rm) ?h1 ?h2 ?h3
  case h1 =>
    intro p K' hK
    simp only [wB, E0_tys, appI, buildI, placesI, okPart, bsI, slI, sliceI, sliceS, optI, appendI, srcI, chunk, fillI, fzParts, fzL, fz1, planAt, loadI, storeI, takeI, TK.agg, TK.known, cellsI, fillRow, okCell, bltI, builtinI, lenI, indexAddrI, fieldAddrI, fieldI, indexI, nilChkI, An.isImm, pureC, pure0, impI, impL, impC, cutO, An.imps, List.replicate, decide_true, decide_false, cond_true, cond_false, if_true, if_false, ite_true, ite_false, ne_eq, forall_const, eq_self, reduceCtorEq, reduceIte, Nat.reduceLT, Nat.reduceLeDiff, Nat.reduceAdd, Nat.reduceSub, Nat.reduceMul, Nat.reduceEqDiff, Nat.reduceBEq, Int.reduceLE, Int.reduceLT, Int.reduceToNat, Int.reduceEq, Int.reduceAdd, Int.reduceSub, Int.reduceMul, ty_3, tk_3, ty_36, tk_36, ty_24, tk_24, ty_22, tk_22, ty_33, tk_33, ty_31, tk_31, ty_39, tk_39, ty_37, tk_37, hl]
    exact hK
  case h2 =>
    intro p K' hK
    simp only [wB, E0_tys, appI, buildI, placesI, okPart, bsI, slI, sliceI, sliceS, optI, appendI, srcI, chunk, fillI, fzParts, fzL, fz1, planAt, loadI, storeI, takeI, TK.agg, TK.known, cellsI, fillRow, okCell, bltI, builtinI, lenI, indexAddrI, fieldAddrI, fieldI, indexI, nilChkI, An.isImm, pureC, pure0, impI, impL, impC, cutO, An.imps, List.replicate, decide_true, decide_false, cond_true, cond_false, if_true, if_false, ite_true, ite_false, ne_eq, forall_const, eq_self, reduceCtorEq, reduceIte, Nat.reduceLT, Nat.reduceLeDiff, Nat.reduceAdd, Nat.reduceSub, Nat.reduceMul, Nat.reduceEqDiff, Nat.reduceBEq, Int.reduceLE, Int.reduceLT, Int.reduceToNat, Int.reduceEq, Int.reduceAdd, Int.reduceSub, Int.reduceMul, ty_3, tk_3, ty_36, tk_36, ty_24, tk_24, ty_22, tk_22, ty_33, tk_33, ty_31, tk_31, ty_39, tk_39, ty_37, tk_37, hl]
    rw [setT_comm _ _ _ _ _ (by decide)]
    exact hK
  simp only [wB, E0_tys, appI, buildI, placesI, okPart, bsI, slI, sliceI, sliceS, optI, appendI, srcI, chunk, fillI, fzParts, fzL, fz1, planAt, loadI, storeI, takeI, TK.agg, TK.known, cellsI, fillRow, okCell, bltI, builtinI, lenI, indexAddrI, fieldAddrI, fieldI, indexI, nilChkI, An.isImm, pureC, pure0, impI, impL, impC, cutO, An.imps, List.replicate, decide_true, decide_false, cond_true, cond_false, if_true, if_false, ite_true, ite_false, ne_eq, forall_const, eq_self, reduceCtorEq, reduceIte, Nat.reduceLT, Nat.reduceLeDiff, Nat.reduceAdd, Nat.reduceSub, Nat.reduceMul, Nat.reduceEqDiff, Nat.reduceBEq, Int.reduceLE, Int.reduceLT, Int.reduceToNat, Int.reduceEq, Int.reduceAdd, Int.reduceSub, Int.reduceMul, ty_3, tk_3, ty_36, tk_36, ty_24, tk_24, ty_22, tk_22, ty_33, tk_33, ty_31, tk_31, ty_39, tk_39, ty_37, tk_37, hl]
  refine callPu0 k1 rfl rfl ?_
  simp only [wB, E0_tys, appI, buildI, placesI, okPart, bsI, slI, sliceI, sliceS, optI, appendI, srcI, chunk, fillI, fzParts, fzL, fz1, planAt, loadI, storeI, takeI, TK.agg, TK.known, cellsI, fillRow, okCell, bltI, builtinI, lenI, indexAddrI, fieldAddrI, fieldI, indexI, nilChkI, An.isImm, pureC, pure0, impI, impL, impC, cutO, An.imps, List.replicate, decide_true, decide_false, cond_true, cond_false, if_true, if_false, ite_true, ite_false, ne_eq, forall_const, eq_self, reduceCtorEq, reduceIte, Nat.reduceLT, Nat.reduceLeDiff, Nat.reduceAdd, Nat.reduceSub, Nat.reduceMul, Nat.reduceEqDiff, Nat.reduceBEq, Int.reduceLE, Int.reduceLT, Int.reduceToNat, Int.reduceEq, Int.reduceAdd, Int.reduceSub, Int.reduceMul, ty_3, tk_3, ty_36, tk_36, ty_24, tk_24, ty_22, tk_22, ty_33, tk_33, ty_31, tk_31, ty_39, tk_39, ty_37, tk_37, hl]
  refine callPu0 (c17 12 (some false) [98]) rfl rfl ?_
  simp only [wB, E0_tys, appI, buildI, placesI, okPart, bsI, slI, sliceI, sliceS, optI, appendI, srcI, chunk, fillI, fzParts, fzL, fz1, planAt, loadI, storeI, takeI, TK.agg, TK.known, cellsI, fillRow, okCell, bltI, builtinI, lenI, indexAddrI, fieldAddrI, fieldI, indexI, nilChkI, An.isImm, pureC, pure0, impI, impL, impC, cutO, An.imps, List.replicate, decide_true, decide_false, cond_true, cond_false, if_true, if_false, ite_true, ite_false, ne_eq, forall_const, eq_self, reduceCtorEq, reduceIte, Nat.reduceLT, Nat.reduceLeDiff, Nat.reduceAdd, Nat.reduceSub, Nat.reduceMul, Nat.reduceEqDiff, Nat.reduceBEq, Int.reduceLE, Int.reduceLT, Int.reduceToNat, Int.reduceEq, Int.reduceAdd, Int.reduceSub, Int.reduceMul, ty_3, tk_3, ty_36, tk_36, ty_24, tk_24, ty_22, tk_22, ty_33, tk_33, ty_31, tk_31, ty_39, tk_39, ty_37, tk_37, hl]
  refine callPu0 k2 rfl rfl ?_
  simp only [wB, E0_tys, appI, buildI, placesI, okPart, bsI, slI, sliceI, sliceS, optI, appendI, srcI, chunk, fillI, fzParts, fzL, fz1, planAt, loadI, storeI, takeI, TK.agg, TK.known, cellsI, fillRow, okCell, bltI, builtinI, lenI, indexAddrI, fieldAddrI, fieldI, indexI, nilChkI, An.isImm, pureC, pure0, impI, impL, impC, cutO, An.imps, List.replicate, decide_true, decide_false, cond_true, cond_false, if_true, if_false, ite_true, ite_false, ne_eq, forall_const, eq_self, reduceCtorEq, reduceIte, Nat.reduceLT, Nat.reduceLeDiff, Nat.reduceAdd, Nat.reduceSub, Nat.reduceMul, Nat.reduceEqDiff, Nat.reduceBEq, Int.reduceLE, Int.reduceLT, Int.reduceToNat, Int.reduceEq, Int.reduceAdd, Int.reduceSub, Int.reduceMul, ty_3, tk_3, ty_36, tk_36, ty_24, tk_24, ty_22, tk_22, ty_33, tk_33, ty_31, tk_31, ty_39, tk_39, ty_37, tk_37, hl]
  refine callPu0 (c17 12 (some false) [57344]) rfl rfl ?_
  simp only [wB, E0_tys, appI, buildI, placesI, okPart, bsI, slI, sliceI, sliceS, optI, appendI, srcI, chunk, fillI, fzParts, fzL, fz1, planAt, loadI, storeI, takeI, TK.agg, TK.known, cellsI, fillRow, okCell, bltI, builtinI, lenI, indexAddrI, fieldAddrI, fieldI, indexI, nilChkI, An.isImm, pureC, pure0, impI, impL, impC, cutO, An.imps, List.replicate, decide_true, decide_false, cond_true, cond_false, if_true, if_false, ite_true, ite_false, ne_eq, forall_const, eq_self, reduceCtorEq, reduceIte, Nat.reduceLT, Nat.reduceLeDiff, Nat.reduceAdd, Nat.reduceSub, Nat.reduceMul, Nat.reduceEqDiff, Nat.reduceBEq, Int.reduceLE, Int.reduceLT, Int.reduceToNat, Int.reduceEq, Int.reduceAdd, Int.reduceSub, Int.reduceMul, ty_3, tk_3, ty_36, tk_36, ty_24, tk_24, ty_22, tk_22, ty_33, tk_33, ty_31, tk_31, ty_39, tk_39, ty_37, tk_37, hl]
  refine callPu0 k3 rfl rfl ?_
  simp only [wB, E0_tys, appI, buildI, placesI, okPart, bsI, slI, sliceI, sliceS, optI, appendI, srcI, chunk, fillI, fzParts, fzL, fz1, planAt, loadI, storeI, takeI, TK.agg, TK.known, cellsI, fillRow, okCell, bltI, builtinI, lenI, indexAddrI, fieldAddrI, fieldI, indexI, nilChkI, An.isImm, pureC, pure0, impI, impL, impC, cutO, An.imps, List.replicate, decide_true, decide_false, cond_true, cond_false, if_true, if_false, ite_true, ite_false, ne_eq, forall_const, eq_self, reduceCtorEq, reduceIte, Nat.reduceLT, Nat.reduceLeDiff, Nat.reduceAdd, Nat.reduceSub, Nat.reduceMul, Nat.reduceEqDiff, Nat.reduceBEq, Int.reduceLE, Int.reduceLT, Int.reduceToNat, Int.reduceEq, Int.reduceAdd, Int.reduceSub, Int.reduceMul, ty_3, tk_3, ty_36, tk_36, ty_24, tk_24, ty_22, tk_22, ty_33, tk_33, ty_31, tk_31, ty_39, tk_39, ty_37, tk_37, hl]
  refine callPu0 k4 rfl rfl ?_
  simp only [wB, E0_tys, appI, buildI, placesI, okPart, bsI, slI, sliceI, sliceS, optI, appendI, srcI, chunk, fillI, fzParts, fzL, fz1, planAt, loadI, storeI, takeI, TK.agg, TK.known, cellsI, fillRow, okCell, bltI, builtinI, lenI, indexAddrI, fieldAddrI, fieldI, indexI, nilChkI, An.isImm, pureC, pure0, impI, impL, impC, cutO, An.imps, List.replicate, decide_true, decide_false, cond_true, cond_false, if_true, if_false, ite_true, ite_false, ne_eq, forall_const, eq_self, reduceCtorEq, reduceIte, Nat.reduceLT, Nat.reduceLeDiff, Nat.reduceAdd, Nat.reduceSub, Nat.reduceMul, Nat.reduceEqDiff, Nat.reduceBEq, Int.reduceLE, Int.reduceLT, Int.reduceToNat, Int.reduceEq, Int.reduceAdd, Int.reduceSub, Int.reduceMul, ty_3, tk_3, ty_36, tk_36, ty_24, tk_24, ty_22, tk_22, ty_33, tk_33, ty_31, tk_31, ty_39, tk_39, ty_37, tk_37, hl]
end Go.Proofs
set_option maxRecDepth 100000
set_option maxHeartbeats 8000000
set_option linter.unusedVariables false
set_option linter.unusedSimpArgs false
namespace Go.Proofs
open Go.Iv
abbrev Sig := List Int × Bool × List UInt8 × List Int
def sig (x : KV) : Sig := if x.p.kind = 0 then (x.p.oid, true, (strOfNums x.p.raw).toList, []) else (x.p.oid, false, [], x.k)
theorem sameF_sig (x y : KV) : sameF x y = decide (sig x = sig y) := by
  unfold sameF sig bytesEqF
  by_cases h1 : x.p.kind = 0 <;> by_cases h2 : y.p.kind = 0 <;> by_cases h3 : x.p.oid = y.p.oid <;> simp [h1, h2, h3]
  all_goals rw [Bool.eq_iff_iff]; simp
theorem idxQ_some (p : KV → Bool) : ∀ (l : List KV) (k i : Nat), idxQ p l k = some i → ∃ x, l[i - k]? = some x ∧ p x = true ∧ k ≤ i
  | [], k, i, h => by cases h
  | x :: l, k, i, h => by
    unfold idxQ at h
    split at h
    · cases h; rename_i hp; exact ⟨x, by simp, hp, Nat.le_refl _⟩
    · obtain ⟨y, h1, h2, h3⟩ := idxQ_some p l (k + 1) i h
      refine ⟨y, ?_, h2, by omega⟩
      rw [show i - k = (i - (k + 1)) + 1 by omega, List.getElem?_cons_succ]
      exact h1
theorem idxQ_none (p : KV → Bool) : ∀ (l : List KV) (k : Nat), idxQ p l k = none → ∀ x ∈ l, p x = false
  | [], k, h => by simp
  | x :: l, k, h => by
    unfold idxQ at h
    split at h
    · cases h
    · rename_i hp
      intro y hy
      rcases List.mem_cons.1 hy with rfl | hy
      · simpa using hp
      · exact idxQ_none p l (k + 1) h y hy
theorem setsF_iff : ∀ (a b : List KV), setsF a b = true ↔ (a.map sig).Perm (b.map sig)
  | [], b => by
    rw [setsF_nil]
    cases b with
    | nil => simp
    | cons y b => simp
  | x :: a, b => by
    rw [setsF_cons]
    cases hi : idxQ (sameF x) b 0 with
    | none =>
      have hn := idxQ_none _ _ _ hi
      refine ⟨(fun h => by cases h), fun h => ?_⟩
      have : sig x ∈ b.map sig := h.subset (by simp)
      obtain ⟨y, hy, he⟩ := List.mem_map.1 this
      have := hn y hy
      rw [sameF_sig] at this
      simp [he] at this
    | some i =>
      obtain ⟨y, h1, h2, _⟩ := idxQ_some _ _ _ _ hi
      rw [Nat.sub_zero] at h1
      obtain ⟨hlt, hget⟩ := List.getElem?_eq_some_iff.1 h1
      rw [sameF_sig] at h2
      have he : sig x = sig y := of_decide_eq_true h2
      dsimp only
      rw [setsF_iff a (b.eraseIdx i)]
      have hp : (sig x :: (b.eraseIdx i).map sig).Perm (b.map sig) := by
        have e : b = b.take i ++ y :: b.drop (i + 1) := by rw [← drop_at h1, List.take_append_drop]
        have q : (y :: b.eraseIdx i).Perm b := by
          rw [List.eraseIdx_eq_take_drop_succ]
          exact (List.perm_middle.symm).trans (by rw [← e])
        have := q.map sig
        rw [List.map_cons, ← he] at this
        exact this
      rw [List.map_cons]
      constructor
      · intro h; exact (h.cons _).trans hp
      · intro h; exact (List.perm_cons _).1 (h.trans hp.symm)
theorem setsF_refl (a : List KV) : setsF a a = true := (setsF_iff a a).2 (List.Perm.refl _)
theorem setsF_symm (a b : List KV) : setsF a b = setsF b a := by
  rw [Bool.eq_iff_iff, setsF_iff, setsF_iff]
  exact ⟨fun h => h.symm, fun h => h.symm⟩
theorem setsF_trans {a b c : List KV} (h : setsF a b = true) : setsF b c = setsF a c := by
  rw [Bool.eq_iff_iff, setsF_iff, setsF_iff]
  rw [setsF_iff] at h
  exact ⟨fun k => h.trans k, fun k => h.symm.trans k⟩
theorem eqvF_refl : ∀ a : List (List KV), eqvF a a = true
  | [] => rfl
  | x :: a => by rw [eqvF_cons, setsF_refl, eqvF_refl a]; rfl
theorem eqvF_symm : ∀ a b : List (List KV), eqvF a b = eqvF b a
  | [], [] => rfl
  | [], _ :: _ => rfl
  | _ :: _, [] => rfl
  | x :: a, y :: b => by rw [eqvF_cons, eqvF_cons, setsF_symm, eqvF_symm a b]
theorem eqvF_trans : ∀ {a b c : List (List KV)}, eqvF a b = true → eqvF b c = eqvF a c
  | [], [], c, _ => rfl
  | [], _ :: _, _, h => by cases h
  | _ :: _, [], _, h => by cases h
  | x :: a, y :: b, [], h => rfl
  | x :: a, y :: b, z :: c, h => by
    rw [eqvF_cons, Bool.and_eq_true] at h
    rw [eqvF_cons, eqvF_cons, setsF_trans h.1, eqvF_trans h.2]
theorem eqvF_length {a b : List (List KV)} (h : eqvF a b = true) : a.length = b.length := by
  by_cases hl : a.length = b.length
  · exact hl
  · rw [eqvF_len a b hl] at h; cases h
/-! ### verdicts -/
theorem verd_t {a b : List RdnV} {x y : List (List KV)} (hx : allKF a = some x) (hy : allKF b = some y) : verdF a b true = if eqvF x y = true then 2 else 3 := by
  unfold verdF
  rw [hx, hy]
  dsimp only
  by_cases h : x.length = y.length
  · rw [if_neg (by omega), List.take_of_length_le (by omega)]
  · rw [if_pos (by simp; omega), if_neg (by rw [eqvF_len x y h]; simp)]
theorem verd_f {a b : List RdnV} {x y : List (List KV)} (hx : allKF a = some x) (hy : allKF b = some y) : verdF a b false = if eqvF (x.take y.length) y = true then 2 else 3 := by
  unfold verdF
  rw [hx, hy]
  dsimp only
  by_cases h : x.length < y.length
  · rw [if_pos (.inl h), if_neg (by rw [eqvF_len _ y (by simp; omega)]; simp)]
  · rw [if_neg (by simp; omega)]
theorem verd_n1 {a b : List RdnV} (w : Bool) (h : allKF a = none) : verdF a b w = 1 := by unfold verdF; rw [h]
theorem verd_n2 {a b : List RdnV} (w : Bool) (h : allKF b = none) : verdF a b w = 1 := by unfold verdF; rw [h]; cases allKF a <;> rfl
theorem verd_ne1 {a b : List RdnV} {x y : List (List KV)} (w : Bool) (hx : allKF a = some x) (hy : allKF b = some y) : verdF a b w = 2 ∨ verdF a b w = 3 := by
  cases w
  · rw [verd_f hx hy]; split <;> simp
  · rw [verd_t hx hy]; split <;> simp
theorem verd_cases (a b : List RdnV) (w : Bool) : verdF a b w = 1 ∨ verdF a b w = 2 ∨ verdF a b w = 3 := by
  cases hx : allKF a with
  | none => exact .inl (verd_n1 w hx)
  | some x =>
    cases hy : allKF b with
    | none => exact .inl (verd_n2 w hy)
    | some y => exact .inr (verd_ne1 w hx hy)
theorem verd_self {a : List RdnV} {x : List (List KV)} (hx : allKF a = some x) : verdF a a true = 2 := by
  rw [verd_t hx hx, if_pos (eqvF_refl x)]
theorem verd_symm (a b : List RdnV) : verdF a b true = verdF b a true := by
  cases hx : allKF a with
  | none => rw [verd_n1 _ hx, verd_n2 _ hx]
  | some x =>
    cases hy : allKF b with
    | none => rw [verd_n1 _ hy, verd_n2 _ hy]
    | some y => rw [verd_t hx hy, verd_t hy hx, eqvF_symm]
/-- What MatchEqual says of the verdicts. -/
theorem law_equal (a b c : List RdnV) :
    (verdF a a true = 1 ∧ verdF a b true = 1 ∧ verdF a c true = 1) ∨
    (verdF a a true = 2 ∧ verdF a b true = 1 ∧ verdF b b true = 1) ∨
    (verdF a a true = 2 ∧ verdF a b true = 3 ∧ ¬ verdF b b true = 1) ∨
    (verdF a a true = 2 ∧ verdF a b true = 2 ∧ ¬ verdF b b true = 1 ∧ ((verdF b c true = 1) ∨ (verdF b c true = 2 ∧ verdF a c true = 2) ∨ (verdF b c true = 3 ∧ verdF a c true = 3))) := by
  cases hx : allKF a with
  | none => exact .inl ⟨verd_n1 _ hx, verd_n1 _ hx, verd_n1 _ hx⟩
  | some x =>
    have h1 := verd_self hx
    cases hy : allKF b with
    | none => exact .inr (.inl ⟨h1, verd_n2 _ hy, verd_n1 _ hy⟩)
    | some y =>
      have h2 : ¬ verdF b b true = 1 := by rw [verd_self hy]; decide
      have h3 := verd_t hx hy
      by_cases he : eqvF x y = true
      · rw [if_pos he] at h3
        refine .inr (.inr (.inr ⟨h1, h3, h2, ?_⟩))
        cases hz : allKF c with
        | none => exact .inl (verd_n2 _ hz)
        | some z =>
          rw [verd_t hy hz, verd_t hx hz, eqvF_trans he]
          by_cases h4 : eqvF x z = true
          · rw [if_pos h4]; exact .inr (.inl ⟨rfl, rfl⟩)
          · rw [if_neg h4]; exact .inr (.inr ⟨rfl, rfl⟩)
      · rw [if_neg he] at h3
        exact .inr (.inr (.inl ⟨h1, h3, h2⟩))
theorem okNR_of {rs : List RdnV} (h : heavyN rs = false) : okNR rs := by
  unfold heavyN at h
  rw [Bool.or_eq_false_iff] at h
  obtain ⟨h1, h2⟩ := h
  have h1 := of_decide_eq_false h1
  refine ⟨by omega, fun r hr => ?_⟩
  have h3 : heavyR r = false := by simpa using (List.any_eq_false.1 h2 r hr)
  unfold heavyR at h3
  rw [Bool.or_eq_false_iff] at h3
  obtain ⟨h4, h5⟩ := h3
  have h4 := of_decide_eq_false h4
  refine ⟨by omega, fun p hp => ?_⟩
  have h6 : heavyP p = false := by simpa using (List.any_eq_false.1 h5 p hp)
  unfold heavyP at h6
  simp at h6
  omega
end Go.Proofs
