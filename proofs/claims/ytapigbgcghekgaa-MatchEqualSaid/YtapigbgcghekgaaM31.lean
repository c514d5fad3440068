import Derived.Test.YtapigbgcghekgaaM30
set_option linter.unusedVariables false
set_option linter.unusedSimpArgs false
set_option maxRecDepth 100000
set_option maxHeartbeats 8000000
set_option linter.unusedVariables false
set_option linter.unusedSimpArgs false
namespace Go.Proofs
open Go.Iv
theorem W_mono {E : Env} {an : List (Nat × Nat × An)} {c : Code} {T : List IV} {R : List Reg} {Q Q' : Post} {t : Tok Q} {t' : Tok Q'} (h : W E an c T R Q t) (hq : ∀ e T R, Q e T R → Q' e T R) : W E an c T R Q' t' := by
  obtain ⟨e, T1, R1, h1, h2⟩ := W_det _ _ _ _ _ h
  exact h2 _ _ (hq _ _ _ h1)
/-- Two ways that come together again. -/
theorem cond_join {E : Env} {an : List (Nat × Nat × An)} {A B : Code} {T : List IV} {R : List Reg} {Q : Post} {x : Bool} (Mid : List IV → List Reg → Prop)
    (hA : x = true → W E an A T R (fun e T R => e = .n ∧ Mid T R) .mk) (hB : x = false → W E an B T R (fun e T R => e = .n ∧ Mid T R) .mk) (hK : ∀ T R, Mid T R → Q .n T R) : condW (.b x) (fun _ => W E an A T R Q .mk) (fun _ => W E an B T R Q .mk) .mk := by
  refine condW_b _ _ _ _ (fun h => W_mono (hA h) ?_) (fun h => W_mono (hB h) ?_)
  · rintro e T R ⟨rfl, hm⟩; exact hK T R hm
  · rintro e T R ⟨rfl, hm⟩; exact hK T R hm
theorem seq_join {E : Env} {an : List (Nat × Nat × An)} {A B : Code} {T : List IV} {R : List Reg} {Q : Post} {t : Tok Q} (Mid : List IV → List Reg → Prop)
    (hA : W E an A T R (fun e T R => e = .n ∧ Mid T R) .mk) (hB : ∀ T R, Mid T R → W E an B T R Q .mk) : W E an (.seq A B) T R Q t := by
  refine (W_seq E an T R Q t A B).2 (W_mono hA ?_)
  rintro e T R ⟨rfl, hm⟩
  exact hB T R hm
theorem conv_u (n : Nat) (h : n ≤ 100000000) : convI tysL 3 34 (.i .i64 (n : Int)) = some (.i .u64 (n : Int)) := by
  simp only [convI, tk_3, tk_34, TK.known]
  have : IntKind.u64.wrap (n : Int) = (n : Int) := by
    unfold IntKind.wrap
    simp only [IntKind.signed, IntKind.bits]
    simp
    omega
  simp [this]
theorem conv_s (n : Nat) (h : n ≤ 100000000) : convI tysL 34 3 (.i .u64 (n : Int)) = some (.i .i64 (n : Int)) := by
  simp only [convI, tk_3, tk_34, TK.known]
  have : IntKind.i64.wrap (n : Int) = (n : Int) := by rw [wrap64] <;> omega
  simp [this]
theorem shr_1 (n : Nat) : binI tysL .shr 34 (.i .u64 (n : Int)) (.i .u64 1) = some (.i .u64 ((n / 2 : Nat) : Int)) := by
  rw [bin_shr]
  simp [IntKind.bits]
  rw [Int.fdiv_eq_ediv_of_nonneg _ (by omega)]

theorem c96 (d : Nat) : ∀ (R : List Reg) (ver off N a m b : Nat) (xs : List Int), b - a = d → Lv R ver xs → off + N ≤ xs.length → xs.length ≤ 1000000 → a < m → m < b → b ≤ N →
    ∃ y R1, (y = .tu [] ∧ ∃ ys, ys.Perm xs ∧ Lv R1 ver ys) ∧ IC Try.prog 96 [.rf 0 ver off N, .i .i64 a, .i .i64 m, .i .i64 b, cmpI] R y R1 := by
  induction d using Nat.strongRecOn with
  | _ d ih =>
  intro R ver off N a m b xs hd hL hN hx ham hmb hb
  have w1 : IntKind.i64.wrap ((m : Int) - (a : Int)) = ((m - a : Nat) : Int) := by rw [wrap64] <;> omega
  have w2 : IntKind.i64.wrap ((b : Int) - (m : Int)) = ((b - m : Nat) : Int) := by rw [wrap64] <;> omega
  refine icE E0_ok mm (fn := Try.f96) (by kernel_rfl) (by kernel_rfl) (by kernel_rfl) [(5, 999, .plan (.pure 0 (.pure 1 (.pure 2 (.read 3 (.read 4 (.pure 5 (.pure 6 (.read 7 (.read 8 (.pure 9 (.pure 10 (.done))))))))))))), (11, 999, .plan (.pure 0 (.pure 1 (.pure 2 (.pure 3 (.pure 4 (.pure 5 (.pure 6 (.pure 7 (.pure 10 (.pure 11 (.read 8 (.read 9 (.one 12 (.one 13 (.one 14 (.one 15 (.one 16 (.one 17 (.done)))))))))))))))))))), (17, 999, .plan (.pure 0 (.pure 1 (.pure 2 (.read 3 (.read 4 (.pure 5 (.pure 6 (.read 7 (.read 8 (.pure 9 (.pure 10 (.pure 11 (.done)))))))))))))), (23, 999, .plan (.pure 0 (.pure 1 (.pure 2 (.pure 3 (.pure 4 (.pure 5 (.pure 6 (.pure 7 (.pure 10 (.pure 11 (.read 8 (.read 9 (.one 12 (.one 13 (.one 14 (.one 15 (.one 16 (.one 17 (.done)))))))))))))))))))), (35, 999, .plan (.pure 0 (.pure 1 (.pure 2 (.pure 3 (.pure 4 (.read 5 (.read 6 (.pure 7 (.pure 8 (.read 9 (.read 10 (.pure 11 (.pure 12 (.pure 13 (.done)))))))))))))))), (40, 5, .inl), (42, 5, .inl), (44, 5, .inl)] (by kernel_rfl) [] (by rw [show Try.f96.ntmps = 5 + 215 by kernel_rfl]; exact Nat.le_add_right _ _) ?_
  intro T hl hx
  have a0 := hx 0 _ rfl
  have a1 := hx 1 _ rfl
  have a2 := hx 2 _ rfl
  have a3 := hx 3 _ rfl
  have a4 := hx 4 _ rfl
  clear hx
  simp only [bodyOf, Try.f96] at hl ⊢
  simp only [wB, E0_tys, appI, bsI, slI, sliceI, sliceS, optI, appendI, srcI, chunk, fillI, fzParts, fzL, fz1, planAt, loadI, storeI, takeI, TK.agg, TK.known, cellsI, fillRow, okCell, bltI, builtinI, lenI, indexAddrI, fieldAddrI, fieldI, indexI, nilChkI, An.isImm, pureC, pure0, impI, impL, impC, cutO, An.imps, List.replicate, decide_true, decide_false, cond_true, cond_false, if_true, if_false, ite_true, ite_false, ne_eq, forall_const, eq_self, reduceCtorEq, reduceIte, Nat.reduceLT, Nat.reduceLeDiff, Nat.reduceAdd, Nat.reduceSub, Nat.reduceMul, Nat.reduceEqDiff, Nat.reduceBEq, Int.reduceLE, Int.reduceLT, Int.reduceToNat, Int.reduceEq, Int.reduceAdd, Int.reduceSub, Int.reduceMul, ty_3, tk_3, ty_34, tk_34, ty_36, tk_36, ty_4, tk_4, a0, a1, a2, a3, a4, hl, w1]
  refine condW_b _ _ _ _ (fun hq => ?_) (fun hq => ?_)
  · -- one on the left
    have hm1 : m = a + 1 := by have := of_decide_eq_true hq; omega
    simp only [wB, E0_tys, appI, bsI, slI, sliceI, sliceS, optI, appendI, srcI, chunk, fillI, fzParts, fzL, fz1, planAt, loadI, storeI, takeI, TK.agg, TK.known, cellsI, fillRow, okCell, bltI, builtinI, lenI, indexAddrI, fieldAddrI, fieldI, indexI, nilChkI, An.isImm, pureC, pure0, impI, impL, impC, cutO, An.imps, List.replicate, decide_true, decide_false, cond_true, cond_false, if_true, if_false, ite_true, ite_false, ne_eq, forall_const, eq_self, reduceCtorEq, reduceIte, Nat.reduceLT, Nat.reduceLeDiff, Nat.reduceAdd, Nat.reduceSub, Nat.reduceMul, Nat.reduceEqDiff, Nat.reduceBEq, Int.reduceLE, Int.reduceLT, Int.reduceToNat, Int.reduceEq, Int.reduceAdd, Int.reduceSub, Int.reduceMul, ty_3, tk_3, ty_34, tk_34, ty_36, tk_36, ty_4, tk_4, a0, a1, a2, a3, a4, hl]
    refine W_loop _ _ _ _ _ _ _ (fun T R => ∃ i j : Nat, m ≤ i ∧ i ≤ j ∧ j ≤ b ∧ T.length = 220 ∧ getT T 0 = .rf 0 ver off N ∧ getT T 1 = .i .i64 (a : Int) ∧ getT T 4 = cmpI ∧ getT T 10 = .i .i64 (i : Int) ∧ getT T 11 = .i .i64 (j : Int) ∧ Lv R ver xs)
      (fun T _ => (asI (getT T 11)).toNat - (asI (getT T 10)).toNat) ⟨m, b, Nat.le_refl _, by omega, Nat.le_refl _, ?_⟩ ?_
    · simp only [wB, E0_tys, appI, bsI, slI, sliceI, sliceS, optI, appendI, srcI, chunk, fillI, fzParts, fzL, fz1, planAt, loadI, storeI, takeI, TK.agg, TK.known, cellsI, fillRow, okCell, bltI, builtinI, lenI, indexAddrI, fieldAddrI, fieldI, indexI, nilChkI, An.isImm, pureC, pure0, impI, impL, impC, cutO, An.imps, List.replicate, decide_true, decide_false, cond_true, cond_false, if_true, if_false, ite_true, ite_false, ne_eq, forall_const, eq_self, reduceCtorEq, reduceIte, Nat.reduceLT, Nat.reduceLeDiff, Nat.reduceAdd, Nat.reduceSub, Nat.reduceMul, Nat.reduceEqDiff, Nat.reduceBEq, Int.reduceLE, Int.reduceLT, Int.reduceToNat, Int.reduceEq, Int.reduceAdd, Int.reduceSub, Int.reduceMul, ty_3, tk_3, ty_34, tk_34, ty_36, tk_36, ty_4, tk_4, a0, a1, a2, a3, a4, hl]
      exact hL
    · clear hl a0 a1 a2 a3 a4 hL
      rintro T R ⟨i, j, hi, hij, hj, hl, a0, a1, a4, a10, a11, hL⟩
      simp only [wB, E0_tys, appI, bsI, slI, sliceI, sliceS, optI, appendI, srcI, chunk, fillI, fzParts, fzL, fz1, planAt, loadI, storeI, takeI, TK.agg, TK.known, cellsI, fillRow, okCell, bltI, builtinI, lenI, indexAddrI, fieldAddrI, fieldI, indexI, nilChkI, An.isImm, pureC, pure0, impI, impL, impC, cutO, An.imps, List.replicate, decide_true, decide_false, cond_true, cond_false, if_true, if_false, ite_true, ite_false, ne_eq, forall_const, eq_self, reduceCtorEq, reduceIte, Nat.reduceLT, Nat.reduceLeDiff, Nat.reduceAdd, Nat.reduceSub, Nat.reduceMul, Nat.reduceEqDiff, Nat.reduceBEq, Int.reduceLE, Int.reduceLT, Int.reduceToNat, Int.reduceEq, Int.reduceAdd, Int.reduceSub, Int.reduceMul, ty_3, tk_3, ty_34, tk_34, ty_36, tk_36, ty_4, tk_4, a0, a1, a4, a10, a11, hl]
      refine condW_b _ _ _ _ (fun hq2 => ?_) (fun hq2 => ?_)
      · have hlt : i < j := by have := of_decide_eq_true hq2; omega
        have v1 : IntKind.i64.wrap ((i : Int) + (j : Int)) = ((i + j : Nat) : Int) := by rw [wrap64] <;> omega
        have v2 := conv_u (i + j) (by omega)
        have v3 := shr_1 (i + j)
        have v4 := conv_s ((i + j) / 2) (by omega)
        have v5 : IntKind.i64.wrap ((((i + j) / 2 : Nat) : Int) + 1) = (((i + j) / 2 + 1 : Nat) : Int) := by rw [wrap64] <;> omega
        generalize hh : (i + j) / 2 = h at *
        have hh1 : i ≤ h ∧ h < j := by omega
        obtain ⟨x, hx1⟩ := at_lt (show off + h < xs.length by omega)
        obtain ⟨y, hy1⟩ := at_lt (show off + a < xs.length by omega)
        have ex := encI_get hx1
        have ey := encI_get hy1
        have l1 : h < N := by omega
        have l2 : a < N := by omega
        have hL' := hL
        unfold Lv at hL'
        simp only [wB, E0_tys, appI, bsI, slI, sliceI, sliceS, optI, appendI, srcI, chunk, fillI, fzParts, fzL, fz1, planAt, loadI, storeI, takeI, TK.agg, TK.known, cellsI, fillRow, okCell, bltI, builtinI, lenI, indexAddrI, fieldAddrI, fieldI, indexI, nilChkI, An.isImm, pureC, pure0, impI, impL, impC, cutO, An.imps, List.replicate, decide_true, decide_false, cond_true, cond_false, if_true, if_false, ite_true, ite_false, ne_eq, forall_const, eq_self, reduceCtorEq, reduceIte, Nat.reduceLT, Nat.reduceLeDiff, Nat.reduceAdd, Nat.reduceSub, Nat.reduceMul, Nat.reduceEqDiff, Nat.reduceBEq, Int.reduceLE, Int.reduceLT, Int.reduceToNat, Int.reduceEq, Int.reduceAdd, Int.reduceSub, Int.reduceMul, ty_3, tk_3, ty_34, tk_34, ty_36, tk_36, ty_4, tk_4, a0, a1, a4, a10, a11, hl, v1, v2, v3, v4, l1, l2, hL', ex, ey]
        refine callPu0 (c77 x y) rfl rfl ?_
        simp only [wB, E0_tys, appI, bsI, slI, sliceI, sliceS, optI, appendI, srcI, chunk, fillI, fzParts, fzL, fz1, planAt, loadI, storeI, takeI, TK.agg, TK.known, cellsI, fillRow, okCell, bltI, builtinI, lenI, indexAddrI, fieldAddrI, fieldI, indexI, nilChkI, An.isImm, pureC, pure0, impI, impL, impC, cutO, An.imps, List.replicate, decide_true, decide_false, cond_true, cond_false, if_true, if_false, ite_true, ite_false, ne_eq, forall_const, eq_self, reduceCtorEq, reduceIte, Nat.reduceLT, Nat.reduceLeDiff, Nat.reduceAdd, Nat.reduceSub, Nat.reduceMul, Nat.reduceEqDiff, Nat.reduceBEq, Int.reduceLE, Int.reduceLT, Int.reduceToNat, Int.reduceEq, Int.reduceAdd, Int.reduceSub, Int.reduceMul, ty_3, tk_3, ty_34, tk_34, ty_36, tk_36, ty_4, tk_4, hl]
        refine condW_b _ _ _ _ (fun hq3 => ?_) (fun hq3 => ?_)
        · simp only [wB, E0_tys, appI, bsI, slI, sliceI, sliceS, optI, appendI, srcI, chunk, fillI, fzParts, fzL, fz1, planAt, loadI, storeI, takeI, TK.agg, TK.known, cellsI, fillRow, okCell, bltI, builtinI, lenI, indexAddrI, fieldAddrI, fieldI, indexI, nilChkI, An.isImm, pureC, pure0, impI, impL, impC, cutO, An.imps, List.replicate, decide_true, decide_false, cond_true, cond_false, if_true, if_false, ite_true, ite_false, ne_eq, forall_const, eq_self, reduceCtorEq, reduceIte, Nat.reduceLT, Nat.reduceLeDiff, Nat.reduceAdd, Nat.reduceSub, Nat.reduceMul, Nat.reduceEqDiff, Nat.reduceBEq, Int.reduceLE, Int.reduceLT, Int.reduceToNat, Int.reduceEq, Int.reduceAdd, Int.reduceSub, Int.reduceMul, ty_3, tk_3, ty_34, tk_34, ty_36, tk_36, ty_4, tk_4, a0, a1, a4, a10, a11, hl, v5]
          exact ⟨⟨h + 1, j, by omega, by omega, hj, rfl, rfl, hL⟩, by simp only [asI]; omega⟩
        · simp only [wB, E0_tys, appI, bsI, slI, sliceI, sliceS, optI, appendI, srcI, chunk, fillI, fzParts, fzL, fz1, planAt, loadI, storeI, takeI, TK.agg, TK.known, cellsI, fillRow, okCell, bltI, builtinI, lenI, indexAddrI, fieldAddrI, fieldI, indexI, nilChkI, An.isImm, pureC, pure0, impI, impL, impC, cutO, An.imps, List.replicate, decide_true, decide_false, cond_true, cond_false, if_true, if_false, ite_true, ite_false, ne_eq, forall_const, eq_self, reduceCtorEq, reduceIte, Nat.reduceLT, Nat.reduceLeDiff, Nat.reduceAdd, Nat.reduceSub, Nat.reduceMul, Nat.reduceEqDiff, Nat.reduceBEq, Int.reduceLE, Int.reduceLT, Int.reduceToNat, Int.reduceEq, Int.reduceAdd, Int.reduceSub, Int.reduceMul, ty_3, tk_3, ty_34, tk_34, ty_36, tk_36, ty_4, tk_4, a0, a1, a4, a10, a11, hl]
          exact ⟨⟨i, h, hi, by omega, by omega, rfl, rfl, hL⟩, by simp only [asI]; omega⟩
      · have v1 : IntKind.i64.wrap ((i : Int) - 1) = ((i - 1 : Nat) : Int) := by rw [wrap64] <;> omega
        simp only [wB, E0_tys, appI, bsI, slI, sliceI, sliceS, optI, appendI, srcI, chunk, fillI, fzParts, fzL, fz1, planAt, loadI, storeI, takeI, TK.agg, TK.known, cellsI, fillRow, okCell, bltI, builtinI, lenI, indexAddrI, fieldAddrI, fieldI, indexI, nilChkI, An.isImm, pureC, pure0, impI, impL, impC, cutO, An.imps, List.replicate, decide_true, decide_false, cond_true, cond_false, if_true, if_false, ite_true, ite_false, ne_eq, forall_const, eq_self, reduceCtorEq, reduceIte, Nat.reduceLT, Nat.reduceLeDiff, Nat.reduceAdd, Nat.reduceSub, Nat.reduceMul, Nat.reduceEqDiff, Nat.reduceBEq, Int.reduceLE, Int.reduceLT, Int.reduceToNat, Int.reduceEq, Int.reduceAdd, Int.reduceSub, Int.reduceMul, ty_3, tk_3, ty_34, tk_34, ty_36, tk_36, ty_4, tk_4, a0, a1, a10, hl]
        refine W_loop _ _ _ _ _ _ _ (fun T R => ∃ k : Nat, a ≤ k ∧ k ≤ i ∧ T.length = 220 ∧ getT T 0 = .rf 0 ver off N ∧ getT T 10 = .i .i64 (i : Int) ∧ getT T 13 = .i .i64 (k : Int) ∧ ∃ ys, ys.Perm xs ∧ Lv R ver ys)
          (fun T _ => i - (asI (getT T 13)).toNat) ⟨a, Nat.le_refl _, by omega, ?_⟩ ?_
        · simp only [wB, E0_tys, appI, bsI, slI, sliceI, sliceS, optI, appendI, srcI, chunk, fillI, fzParts, fzL, fz1, planAt, loadI, storeI, takeI, TK.agg, TK.known, cellsI, fillRow, okCell, bltI, builtinI, lenI, indexAddrI, fieldAddrI, fieldI, indexI, nilChkI, An.isImm, pureC, pure0, impI, impL, impC, cutO, An.imps, List.replicate, decide_true, decide_false, cond_true, cond_false, if_true, if_false, ite_true, ite_false, ne_eq, forall_const, eq_self, reduceCtorEq, reduceIte, Nat.reduceLT, Nat.reduceLeDiff, Nat.reduceAdd, Nat.reduceSub, Nat.reduceMul, Nat.reduceEqDiff, Nat.reduceBEq, Int.reduceLE, Int.reduceLT, Int.reduceToNat, Int.reduceEq, Int.reduceAdd, Int.reduceSub, Int.reduceMul, ty_3, tk_3, ty_34, tk_34, ty_36, tk_36, ty_4, tk_4, a0, a10, hl]
          exact ⟨xs, List.Perm.refl _, hL⟩
        · clear hl a0 a1 a4 a10 a11 hL
          rintro T R ⟨k, hk1, hk, hl, a0, a10, a13, ys, hp, hL⟩
          have hlen : ys.length = xs.length := hp.length_eq
          simp only [wB, E0_tys, appI, bsI, slI, sliceI, sliceS, optI, appendI, srcI, chunk, fillI, fzParts, fzL, fz1, planAt, loadI, storeI, takeI, TK.agg, TK.known, cellsI, fillRow, okCell, bltI, builtinI, lenI, indexAddrI, fieldAddrI, fieldI, indexI, nilChkI, An.isImm, pureC, pure0, impI, impL, impC, cutO, An.imps, List.replicate, decide_true, decide_false, cond_true, cond_false, if_true, if_false, ite_true, ite_false, ne_eq, forall_const, eq_self, reduceCtorEq, reduceIte, Nat.reduceLT, Nat.reduceLeDiff, Nat.reduceAdd, Nat.reduceSub, Nat.reduceMul, Nat.reduceEqDiff, Nat.reduceBEq, Int.reduceLE, Int.reduceLT, Int.reduceToNat, Int.reduceEq, Int.reduceAdd, Int.reduceSub, Int.reduceMul, ty_3, tk_3, ty_34, tk_34, ty_36, tk_36, ty_4, tk_4, a0, a10, a13, hl, v1]
          refine condW_b _ _ _ _ (fun hq3 => ?_) (fun hq3 => ?_)
          · have hk2 : k + 1 < i := by have := of_decide_eq_true hq3; omega
            have u1 : IntKind.i64.wrap ((k : Int) + 1) = ((k + 1 : Nat) : Int) := by rw [wrap64] <;> omega
            obtain ⟨x, hx1⟩ := at_lt (show off + k < ys.length by omega)
            obtain ⟨y, hy1⟩ := at_lt (show off + (k + 1) < ys.length by omega)
            obtain ⟨f1, f2, f3⟩ := swap_facts hx1 hy1 (by omega)
            have ex := encI_get hx1
            have ey := encI_get hy1
            have l1 : k < N := by omega
            have l2 : k + 1 < N := by omega
            have hL' := hL
            unfold Lv at hL'
            simp only [wB, E0_tys, appI, bsI, slI, sliceI, sliceS, optI, appendI, srcI, chunk, fillI, fzParts, fzL, fz1, planAt, loadI, storeI, takeI, TK.agg, TK.known, cellsI, fillRow, okCell, bltI, builtinI, lenI, indexAddrI, fieldAddrI, fieldI, indexI, nilChkI, An.isImm, pureC, pure0, impI, impL, impC, cutO, An.imps, List.replicate, decide_true, decide_false, cond_true, cond_false, if_true, if_false, ite_true, ite_false, ne_eq, forall_const, eq_self, reduceCtorEq, reduceIte, Nat.reduceLT, Nat.reduceLeDiff, Nat.reduceAdd, Nat.reduceSub, Nat.reduceMul, Nat.reduceEqDiff, Nat.reduceBEq, Int.reduceLE, Int.reduceLT, Int.reduceToNat, Int.reduceEq, Int.reduceAdd, Int.reduceSub, Int.reduceMul, ty_3, tk_3, ty_34, tk_34, ty_36, tk_36, ty_4, tk_4, a0, a10, a13, hl, u1, l1, l2, hL', ex, ey, f1, f3]
            exact ⟨⟨k + 1, by omega, by omega, rfl, _, f2.trans hp, lr_set _ _ _ _⟩, by simp only [asI]; omega⟩
          · simp only [wB, E0_tys, appI, bsI, slI, sliceI, sliceS, optI, appendI, srcI, chunk, fillI, fzParts, fzL, fz1, planAt, loadI, storeI, takeI, TK.agg, TK.known, cellsI, fillRow, okCell, bltI, builtinI, lenI, indexAddrI, fieldAddrI, fieldI, indexI, nilChkI, An.isImm, pureC, pure0, impI, impL, impC, cutO, An.imps, List.replicate, decide_true, decide_false, cond_true, cond_false, if_true, if_false, ite_true, ite_false, ne_eq, forall_const, eq_self, reduceCtorEq, reduceIte, Nat.reduceLT, Nat.reduceLeDiff, Nat.reduceAdd, Nat.reduceSub, Nat.reduceMul, Nat.reduceEqDiff, Nat.reduceBEq, Int.reduceLE, Int.reduceLT, Int.reduceToNat, Int.reduceEq, Int.reduceAdd, Int.reduceSub, Int.reduceMul, ty_3, tk_3, ty_34, tk_34, ty_36, tk_36, ty_4, tk_4, a0, hl]
            exact ⟨ys, hp, hL⟩
  · simp only [wB, E0_tys, appI, bsI, slI, sliceI, sliceS, optI, appendI, srcI, chunk, fillI, fzParts, fzL, fz1, planAt, loadI, storeI, takeI, TK.agg, TK.known, cellsI, fillRow, okCell, bltI, builtinI, lenI, indexAddrI, fieldAddrI, fieldI, indexI, nilChkI, An.isImm, pureC, pure0, impI, impL, impC, cutO, An.imps, List.replicate, decide_true, decide_false, cond_true, cond_false, if_true, if_false, ite_true, ite_false, ne_eq, forall_const, eq_self, reduceCtorEq, reduceIte, Nat.reduceLT, Nat.reduceLeDiff, Nat.reduceAdd, Nat.reduceSub, Nat.reduceMul, Nat.reduceEqDiff, Nat.reduceBEq, Int.reduceLE, Int.reduceLT, Int.reduceToNat, Int.reduceEq, Int.reduceAdd, Int.reduceSub, Int.reduceMul, ty_3, tk_3, ty_34, tk_34, ty_36, tk_36, ty_4, tk_4, a0, a1, a2, a3, a4, hl, w2]
    refine condW_b _ _ _ _ (fun hq1 => ?_) (fun hq1 => ?_)
    · -- one on the right
      have hm1 : b = m + 1 := by have := of_decide_eq_true hq1; omega
      simp only [wB, E0_tys, appI, bsI, slI, sliceI, sliceS, optI, appendI, srcI, chunk, fillI, fzParts, fzL, fz1, planAt, loadI, storeI, takeI, TK.agg, TK.known, cellsI, fillRow, okCell, bltI, builtinI, lenI, indexAddrI, fieldAddrI, fieldI, indexI, nilChkI, An.isImm, pureC, pure0, impI, impL, impC, cutO, An.imps, List.replicate, decide_true, decide_false, cond_true, cond_false, if_true, if_false, ite_true, ite_false, ne_eq, forall_const, eq_self, reduceCtorEq, reduceIte, Nat.reduceLT, Nat.reduceLeDiff, Nat.reduceAdd, Nat.reduceSub, Nat.reduceMul, Nat.reduceEqDiff, Nat.reduceBEq, Int.reduceLE, Int.reduceLT, Int.reduceToNat, Int.reduceEq, Int.reduceAdd, Int.reduceSub, Int.reduceMul, ty_3, tk_3, ty_34, tk_34, ty_36, tk_36, ty_4, tk_4, a0, a1, a2, a3, a4, hl]
      refine W_loop _ _ _ _ _ _ _ (fun T R => ∃ i j : Nat, a ≤ i ∧ i ≤ j ∧ j ≤ m ∧ T.length = 220 ∧ getT T 0 = .rf 0 ver off N ∧ getT T 2 = .i .i64 (m : Int) ∧ getT T 4 = cmpI ∧ getT T 14 = .i .i64 (i : Int) ∧ getT T 15 = .i .i64 (j : Int) ∧ Lv R ver xs)
        (fun T _ => (asI (getT T 15)).toNat - (asI (getT T 14)).toNat) ⟨a, m, Nat.le_refl _, by omega, Nat.le_refl _, ?_⟩ ?_
      · simp only [wB, E0_tys, appI, bsI, slI, sliceI, sliceS, optI, appendI, srcI, chunk, fillI, fzParts, fzL, fz1, planAt, loadI, storeI, takeI, TK.agg, TK.known, cellsI, fillRow, okCell, bltI, builtinI, lenI, indexAddrI, fieldAddrI, fieldI, indexI, nilChkI, An.isImm, pureC, pure0, impI, impL, impC, cutO, An.imps, List.replicate, decide_true, decide_false, cond_true, cond_false, if_true, if_false, ite_true, ite_false, ne_eq, forall_const, eq_self, reduceCtorEq, reduceIte, Nat.reduceLT, Nat.reduceLeDiff, Nat.reduceAdd, Nat.reduceSub, Nat.reduceMul, Nat.reduceEqDiff, Nat.reduceBEq, Int.reduceLE, Int.reduceLT, Int.reduceToNat, Int.reduceEq, Int.reduceAdd, Int.reduceSub, Int.reduceMul, ty_3, tk_3, ty_34, tk_34, ty_36, tk_36, ty_4, tk_4, a0, a1, a2, a3, a4, hl]
        exact hL
      · clear hl a0 a1 a2 a3 a4 hL
        rintro T R ⟨i, j, hi, hij, hj, hl, a0, a2, a4, a14, a15, hL⟩
        simp only [wB, E0_tys, appI, bsI, slI, sliceI, sliceS, optI, appendI, srcI, chunk, fillI, fzParts, fzL, fz1, planAt, loadI, storeI, takeI, TK.agg, TK.known, cellsI, fillRow, okCell, bltI, builtinI, lenI, indexAddrI, fieldAddrI, fieldI, indexI, nilChkI, An.isImm, pureC, pure0, impI, impL, impC, cutO, An.imps, List.replicate, decide_true, decide_false, cond_true, cond_false, if_true, if_false, ite_true, ite_false, ne_eq, forall_const, eq_self, reduceCtorEq, reduceIte, Nat.reduceLT, Nat.reduceLeDiff, Nat.reduceAdd, Nat.reduceSub, Nat.reduceMul, Nat.reduceEqDiff, Nat.reduceBEq, Int.reduceLE, Int.reduceLT, Int.reduceToNat, Int.reduceEq, Int.reduceAdd, Int.reduceSub, Int.reduceMul, ty_3, tk_3, ty_34, tk_34, ty_36, tk_36, ty_4, tk_4, a0, a2, a4, a14, a15, hl]
        refine condW_b _ _ _ _ (fun hq2 => ?_) (fun hq2 => ?_)
        · have hlt : i < j := by have := of_decide_eq_true hq2; omega
          have v1 : IntKind.i64.wrap ((i : Int) + (j : Int)) = ((i + j : Nat) : Int) := by rw [wrap64] <;> omega
          have v2 := conv_u (i + j) (by omega)
          have v3 := shr_1 (i + j)
          have v4 := conv_s ((i + j) / 2) (by omega)
          have v5 : IntKind.i64.wrap ((((i + j) / 2 : Nat) : Int) + 1) = (((i + j) / 2 + 1 : Nat) : Int) := by rw [wrap64] <;> omega
          generalize hh : (i + j) / 2 = h at *
          have hh1 : i ≤ h ∧ h < j := by omega
          obtain ⟨x, hx1⟩ := at_lt (show off + h < xs.length by omega)
          obtain ⟨y, hy1⟩ := at_lt (show off + m < xs.length by omega)
          have ex := encI_get hx1
          have ey := encI_get hy1
          have l1 : h < N := by omega
          have l2 : m < N := by omega
          have hL' := hL
          unfold Lv at hL'
          simp only [wB, E0_tys, appI, bsI, slI, sliceI, sliceS, optI, appendI, srcI, chunk, fillI, fzParts, fzL, fz1, planAt, loadI, storeI, takeI, TK.agg, TK.known, cellsI, fillRow, okCell, bltI, builtinI, lenI, indexAddrI, fieldAddrI, fieldI, indexI, nilChkI, An.isImm, pureC, pure0, impI, impL, impC, cutO, An.imps, List.replicate, decide_true, decide_false, cond_true, cond_false, if_true, if_false, ite_true, ite_false, ne_eq, forall_const, eq_self, reduceCtorEq, reduceIte, Nat.reduceLT, Nat.reduceLeDiff, Nat.reduceAdd, Nat.reduceSub, Nat.reduceMul, Nat.reduceEqDiff, Nat.reduceBEq, Int.reduceLE, Int.reduceLT, Int.reduceToNat, Int.reduceEq, Int.reduceAdd, Int.reduceSub, Int.reduceMul, ty_3, tk_3, ty_34, tk_34, ty_36, tk_36, ty_4, tk_4, a0, a2, a4, a14, a15, hl, v1, v2, v3, v4, l1, l2, hL', ex, ey]
          refine callPu0 (c77 y x) rfl rfl ?_
          simp only [wB, E0_tys, appI, bsI, slI, sliceI, sliceS, optI, appendI, srcI, chunk, fillI, fzParts, fzL, fz1, planAt, loadI, storeI, takeI, TK.agg, TK.known, cellsI, fillRow, okCell, bltI, builtinI, lenI, indexAddrI, fieldAddrI, fieldI, indexI, nilChkI, An.isImm, pureC, pure0, impI, impL, impC, cutO, An.imps, List.replicate, decide_true, decide_false, cond_true, cond_false, if_true, if_false, ite_true, ite_false, ne_eq, forall_const, eq_self, reduceCtorEq, reduceIte, Nat.reduceLT, Nat.reduceLeDiff, Nat.reduceAdd, Nat.reduceSub, Nat.reduceMul, Nat.reduceEqDiff, Nat.reduceBEq, Int.reduceLE, Int.reduceLT, Int.reduceToNat, Int.reduceEq, Int.reduceAdd, Int.reduceSub, Int.reduceMul, ty_3, tk_3, ty_34, tk_34, ty_36, tk_36, ty_4, tk_4, hl]
          refine condW_b _ _ _ _ (fun hq3 => ?_) (fun hq3 => ?_)
          · simp only [wB, E0_tys, appI, bsI, slI, sliceI, sliceS, optI, appendI, srcI, chunk, fillI, fzParts, fzL, fz1, planAt, loadI, storeI, takeI, TK.agg, TK.known, cellsI, fillRow, okCell, bltI, builtinI, lenI, indexAddrI, fieldAddrI, fieldI, indexI, nilChkI, An.isImm, pureC, pure0, impI, impL, impC, cutO, An.imps, List.replicate, decide_true, decide_false, cond_true, cond_false, if_true, if_false, ite_true, ite_false, ne_eq, forall_const, eq_self, reduceCtorEq, reduceIte, Nat.reduceLT, Nat.reduceLeDiff, Nat.reduceAdd, Nat.reduceSub, Nat.reduceMul, Nat.reduceEqDiff, Nat.reduceBEq, Int.reduceLE, Int.reduceLT, Int.reduceToNat, Int.reduceEq, Int.reduceAdd, Int.reduceSub, Int.reduceMul, ty_3, tk_3, ty_34, tk_34, ty_36, tk_36, ty_4, tk_4, a0, a2, a4, a14, a15, hl, v5]
            exact ⟨⟨h + 1, j, by omega, by omega, hj, rfl, rfl, hL⟩, by simp only [asI]; omega⟩
          · simp only [wB, E0_tys, appI, bsI, slI, sliceI, sliceS, optI, appendI, srcI, chunk, fillI, fzParts, fzL, fz1, planAt, loadI, storeI, takeI, TK.agg, TK.known, cellsI, fillRow, okCell, bltI, builtinI, lenI, indexAddrI, fieldAddrI, fieldI, indexI, nilChkI, An.isImm, pureC, pure0, impI, impL, impC, cutO, An.imps, List.replicate, decide_true, decide_false, cond_true, cond_false, if_true, if_false, ite_true, ite_false, ne_eq, forall_const, eq_self, reduceCtorEq, reduceIte, Nat.reduceLT, Nat.reduceLeDiff, Nat.reduceAdd, Nat.reduceSub, Nat.reduceMul, Nat.reduceEqDiff, Nat.reduceBEq, Int.reduceLE, Int.reduceLT, Int.reduceToNat, Int.reduceEq, Int.reduceAdd, Int.reduceSub, Int.reduceMul, ty_3, tk_3, ty_34, tk_34, ty_36, tk_36, ty_4, tk_4, a0, a2, a4, a14, a15, hl]
            exact ⟨⟨i, h, hi, by omega, by omega, rfl, rfl, hL⟩, by simp only [asI]; omega⟩
        · simp only [wB, E0_tys, appI, bsI, slI, sliceI, sliceS, optI, appendI, srcI, chunk, fillI, fzParts, fzL, fz1, planAt, loadI, storeI, takeI, TK.agg, TK.known, cellsI, fillRow, okCell, bltI, builtinI, lenI, indexAddrI, fieldAddrI, fieldI, indexI, nilChkI, An.isImm, pureC, pure0, impI, impL, impC, cutO, An.imps, List.replicate, decide_true, decide_false, cond_true, cond_false, if_true, if_false, ite_true, ite_false, ne_eq, forall_const, eq_self, reduceCtorEq, reduceIte, Nat.reduceLT, Nat.reduceLeDiff, Nat.reduceAdd, Nat.reduceSub, Nat.reduceMul, Nat.reduceEqDiff, Nat.reduceBEq, Int.reduceLE, Int.reduceLT, Int.reduceToNat, Int.reduceEq, Int.reduceAdd, Int.reduceSub, Int.reduceMul, ty_3, tk_3, ty_34, tk_34, ty_36, tk_36, ty_4, tk_4, a0, a2, a14, hl]
          refine W_loop _ _ _ _ _ _ _ (fun T R => ∃ k : Nat, i ≤ k ∧ k ≤ m ∧ T.length = 220 ∧ getT T 0 = .rf 0 ver off N ∧ getT T 14 = .i .i64 (i : Int) ∧ getT T 17 = .i .i64 (k : Int) ∧ ∃ ys, ys.Perm xs ∧ Lv R ver ys)
            (fun T _ => (asI (getT T 17)).toNat) ⟨m, by omega, Nat.le_refl _, ?_⟩ ?_
          · simp only [wB, E0_tys, appI, bsI, slI, sliceI, sliceS, optI, appendI, srcI, chunk, fillI, fzParts, fzL, fz1, planAt, loadI, storeI, takeI, TK.agg, TK.known, cellsI, fillRow, okCell, bltI, builtinI, lenI, indexAddrI, fieldAddrI, fieldI, indexI, nilChkI, An.isImm, pureC, pure0, impI, impL, impC, cutO, An.imps, List.replicate, decide_true, decide_false, cond_true, cond_false, if_true, if_false, ite_true, ite_false, ne_eq, forall_const, eq_self, reduceCtorEq, reduceIte, Nat.reduceLT, Nat.reduceLeDiff, Nat.reduceAdd, Nat.reduceSub, Nat.reduceMul, Nat.reduceEqDiff, Nat.reduceBEq, Int.reduceLE, Int.reduceLT, Int.reduceToNat, Int.reduceEq, Int.reduceAdd, Int.reduceSub, Int.reduceMul, ty_3, tk_3, ty_34, tk_34, ty_36, tk_36, ty_4, tk_4, a0, a14, hl]
            exact ⟨xs, List.Perm.refl _, hL⟩
          · clear hl a0 a2 a4 a14 a15 hL
            rintro T R ⟨k, hk1, hk, hl, a0, a14, a17, ys, hp, hL⟩
            have hlen : ys.length = xs.length := hp.length_eq
            simp only [wB, E0_tys, appI, bsI, slI, sliceI, sliceS, optI, appendI, srcI, chunk, fillI, fzParts, fzL, fz1, planAt, loadI, storeI, takeI, TK.agg, TK.known, cellsI, fillRow, okCell, bltI, builtinI, lenI, indexAddrI, fieldAddrI, fieldI, indexI, nilChkI, An.isImm, pureC, pure0, impI, impL, impC, cutO, An.imps, List.replicate, decide_true, decide_false, cond_true, cond_false, if_true, if_false, ite_true, ite_false, ne_eq, forall_const, eq_self, reduceCtorEq, reduceIte, Nat.reduceLT, Nat.reduceLeDiff, Nat.reduceAdd, Nat.reduceSub, Nat.reduceMul, Nat.reduceEqDiff, Nat.reduceBEq, Int.reduceLE, Int.reduceLT, Int.reduceToNat, Int.reduceEq, Int.reduceAdd, Int.reduceSub, Int.reduceMul, ty_3, tk_3, ty_34, tk_34, ty_36, tk_36, ty_4, tk_4, a0, a14, a17, hl]
            refine condW_b _ _ _ _ (fun hq3 => ?_) (fun hq3 => ?_)
            · have hk2 : i < k := by have := of_decide_eq_true hq3; omega
              have u1 : IntKind.i64.wrap ((k : Int) - 1) = ((k - 1 : Nat) : Int) := by rw [wrap64] <;> omega
              obtain ⟨x, hx1⟩ := at_lt (show off + k < ys.length by omega)
              obtain ⟨y, hy1⟩ := at_lt (show off + (k - 1) < ys.length by omega)
              obtain ⟨f1, f2, f3⟩ := swap_facts hx1 hy1 (by omega)
              have ex := encI_get hx1
              have ey := encI_get hy1
              have l1 : k < N := by omega
              have l2 : k - 1 < N := by omega
              have hL' := hL
              unfold Lv at hL'
              simp only [wB, E0_tys, appI, bsI, slI, sliceI, sliceS, optI, appendI, srcI, chunk, fillI, fzParts, fzL, fz1, planAt, loadI, storeI, takeI, TK.agg, TK.known, cellsI, fillRow, okCell, bltI, builtinI, lenI, indexAddrI, fieldAddrI, fieldI, indexI, nilChkI, An.isImm, pureC, pure0, impI, impL, impC, cutO, An.imps, List.replicate, decide_true, decide_false, cond_true, cond_false, if_true, if_false, ite_true, ite_false, ne_eq, forall_const, eq_self, reduceCtorEq, reduceIte, Nat.reduceLT, Nat.reduceLeDiff, Nat.reduceAdd, Nat.reduceSub, Nat.reduceMul, Nat.reduceEqDiff, Nat.reduceBEq, Int.reduceLE, Int.reduceLT, Int.reduceToNat, Int.reduceEq, Int.reduceAdd, Int.reduceSub, Int.reduceMul, ty_3, tk_3, ty_34, tk_34, ty_36, tk_36, ty_4, tk_4, a0, a14, a17, hl, u1, l1, l2, hL', ex, ey, f1, f3]
              exact ⟨⟨k - 1, by omega, by omega, rfl, _, f2.trans hp, lr_set _ _ _ _⟩, by simp only [asI]; omega⟩
            · simp only [wB, E0_tys, appI, bsI, slI, sliceI, sliceS, optI, appendI, srcI, chunk, fillI, fzParts, fzL, fz1, planAt, loadI, storeI, takeI, TK.agg, TK.known, cellsI, fillRow, okCell, bltI, builtinI, lenI, indexAddrI, fieldAddrI, fieldI, indexI, nilChkI, An.isImm, pureC, pure0, impI, impL, impC, cutO, An.imps, List.replicate, decide_true, decide_false, cond_true, cond_false, if_true, if_false, ite_true, ite_false, ne_eq, forall_const, eq_self, reduceCtorEq, reduceIte, Nat.reduceLT, Nat.reduceLeDiff, Nat.reduceAdd, Nat.reduceSub, Nat.reduceMul, Nat.reduceEqDiff, Nat.reduceBEq, Int.reduceLE, Int.reduceLT, Int.reduceToNat, Int.reduceEq, Int.reduceAdd, Int.reduceSub, Int.reduceMul, ty_3, tk_3, ty_34, tk_34, ty_36, tk_36, ty_4, tk_4, a0, hl]
              exact ⟨ys, hp, hL⟩
    · have v1 : IntKind.i64.wrap ((a : Int) + (b : Int)) = ((a + b : Nat) : Int) := by rw [wrap64] <;> omega
      have v2 := conv_u (a + b) (by omega)
      have v3 := shr_1 (a + b)
      have v4 := conv_s ((a + b) / 2) (by omega)
      generalize hh : (a + b) / 2 = mid at *
      have hm1 : a + 1 ≤ mid ∧ mid < b := by omega
      have v5 : IntKind.i64.wrap ((mid : Int) + (m : Int)) = ((mid + m : Nat) : Int) := by rw [wrap64] <;> omega
      have v6 : IntKind.i64.wrap (((mid + m : Nat) : Int) - 1) = ((mid + m - 1 : Nat) : Int) := by rw [wrap64] <;> omega
      simp only [wB, E0_tys, appI, bsI, slI, sliceI, sliceS, optI, appendI, srcI, chunk, fillI, fzParts, fzL, fz1, planAt, loadI, storeI, takeI, TK.agg, TK.known, cellsI, fillRow, okCell, bltI, builtinI, lenI, indexAddrI, fieldAddrI, fieldI, indexI, nilChkI, An.isImm, pureC, pure0, impI, impL, impC, cutO, An.imps, List.replicate, decide_true, decide_false, cond_true, cond_false, if_true, if_false, ite_true, ite_false, ne_eq, forall_const, eq_self, reduceCtorEq, reduceIte, Nat.reduceLT, Nat.reduceLeDiff, Nat.reduceAdd, Nat.reduceSub, Nat.reduceMul, Nat.reduceEqDiff, Nat.reduceBEq, Int.reduceLE, Int.reduceLT, Int.reduceToNat, Int.reduceEq, Int.reduceAdd, Int.reduceSub, Int.reduceMul, ty_3, tk_3, ty_34, tk_34, ty_36, tk_36, ty_4, tk_4, a0, a1, a2, a3, a4, hl, v1, v2, v3, v4, v5]
      refine cond_join (fun T R => ∃ s r : Nat, a ≤ s ∧ s ≤ r ∧ r ≤ mid ∧ r ≤ m ∧ mid + m ≤ b + s ∧ T.length = 220 ∧ getT T 0 = .rf 0 ver off N ∧ getT T 1 = .i .i64 (a : Int) ∧ getT T 2 = .i .i64 (m : Int) ∧ getT T 3 = .i .i64 (b : Int) ∧ getT T 4 = cmpI ∧
        getT T 18 = .i .i64 (mid : Int) ∧ getT T 19 = .i .i64 ((mid + m : Nat) : Int) ∧ getT T 20 = .i .i64 (s : Int) ∧ getT T 21 = .i .i64 (r : Int) ∧ Lv R ver xs) (fun hq2 => ?_) (fun hq2 => ?_) ?_
      · have hlt : mid < m := by have := of_decide_eq_true hq2; omega
        have u1 : IntKind.i64.wrap (((mid + m : Nat) : Int) - (b : Int)) = ((mid + m - b : Nat) : Int) := by rw [wrap64] <;> omega
        simp only [wB, E0_tys, appI, bsI, slI, sliceI, sliceS, optI, appendI, srcI, chunk, fillI, fzParts, fzL, fz1, planAt, loadI, storeI, takeI, TK.agg, TK.known, cellsI, fillRow, okCell, bltI, builtinI, lenI, indexAddrI, fieldAddrI, fieldI, indexI, nilChkI, An.isImm, pureC, pure0, impI, impL, impC, cutO, An.imps, List.replicate, decide_true, decide_false, cond_true, cond_false, if_true, if_false, ite_true, ite_false, ne_eq, forall_const, eq_self, reduceCtorEq, reduceIte, Nat.reduceLT, Nat.reduceLeDiff, Nat.reduceAdd, Nat.reduceSub, Nat.reduceMul, Nat.reduceEqDiff, Nat.reduceBEq, Int.reduceLE, Int.reduceLT, Int.reduceToNat, Int.reduceEq, Int.reduceAdd, Int.reduceSub, Int.reduceMul, ty_3, tk_3, ty_34, tk_34, ty_36, tk_36, ty_4, tk_4, a0, a1, a2, a3, a4, hl, u1]
        exact ⟨mid + m - b, mid, by omega, by omega, by omega, by omega, by omega, rfl, rfl, hL⟩
      · have hlt : m ≤ mid := by have := of_decide_eq_false hq2; omega
        simp only [wB, E0_tys, appI, bsI, slI, sliceI, sliceS, optI, appendI, srcI, chunk, fillI, fzParts, fzL, fz1, planAt, loadI, storeI, takeI, TK.agg, TK.known, cellsI, fillRow, okCell, bltI, builtinI, lenI, indexAddrI, fieldAddrI, fieldI, indexI, nilChkI, An.isImm, pureC, pure0, impI, impL, impC, cutO, An.imps, List.replicate, decide_true, decide_false, cond_true, cond_false, if_true, if_false, ite_true, ite_false, ne_eq, forall_const, eq_self, reduceCtorEq, reduceIte, Nat.reduceLT, Nat.reduceLeDiff, Nat.reduceAdd, Nat.reduceSub, Nat.reduceMul, Nat.reduceEqDiff, Nat.reduceBEq, Int.reduceLE, Int.reduceLT, Int.reduceToNat, Int.reduceEq, Int.reduceAdd, Int.reduceSub, Int.reduceMul, ty_3, tk_3, ty_34, tk_34, ty_36, tk_36, ty_4, tk_4, a0, a1, a2, a3, a4, hl]
        exact ⟨a, m, by omega, by omega, by omega, by omega, by omega, rfl, rfl, hL⟩
      · clear hl a0 a1 a2 a3 a4 hL
        rintro T R ⟨s, r, b1, b2, b3, b4, b5, hl, a0, a1, a2, a3, a4, a18, a19, a20, a21, hL⟩
        simp only [wB, E0_tys, appI, bsI, slI, sliceI, sliceS, optI, appendI, srcI, chunk, fillI, fzParts, fzL, fz1, planAt, loadI, storeI, takeI, TK.agg, TK.known, cellsI, fillRow, okCell, bltI, builtinI, lenI, indexAddrI, fieldAddrI, fieldI, indexI, nilChkI, An.isImm, pureC, pure0, impI, impL, impC, cutO, An.imps, List.replicate, decide_true, decide_false, cond_true, cond_false, if_true, if_false, ite_true, ite_false, ne_eq, forall_const, eq_self, reduceCtorEq, reduceIte, Nat.reduceLT, Nat.reduceLeDiff, Nat.reduceAdd, Nat.reduceSub, Nat.reduceMul, Nat.reduceEqDiff, Nat.reduceBEq, Int.reduceLE, Int.reduceLT, Int.reduceToNat, Int.reduceEq, Int.reduceAdd, Int.reduceSub, Int.reduceMul, ty_3, tk_3, ty_34, tk_34, ty_36, tk_36, ty_4, tk_4, a0, a1, a2, a3, a4, a18, a19, a20, a21, hl, v6]
        refine W_loop _ _ _ _ _ _ _ (fun T R => ∃ s r : Nat, a ≤ s ∧ s ≤ r ∧ r ≤ mid ∧ r ≤ m ∧ mid + m ≤ b + s ∧ T.length = 220 ∧ getT T 0 = .rf 0 ver off N ∧ getT T 1 = .i .i64 (a : Int) ∧ getT T 2 = .i .i64 (m : Int) ∧ getT T 3 = .i .i64 (b : Int) ∧ getT T 4 = cmpI ∧
            getT T 18 = .i .i64 (mid : Int) ∧ getT T 19 = .i .i64 ((mid + m : Nat) : Int) ∧ getT T 20 = .i .i64 (s : Int) ∧ getT T 21 = .i .i64 (r : Int) ∧ getT T 22 = .i .i64 ((mid + m - 1 : Nat) : Int) ∧ Lv R ver xs)
          (fun T _ => (asI (getT T 21)).toNat - (asI (getT T 20)).toNat) ⟨s, r, b1, b2, b3, b4, b5, ?_⟩ ?_
        · simp only [wB, E0_tys, appI, bsI, slI, sliceI, sliceS, optI, appendI, srcI, chunk, fillI, fzParts, fzL, fz1, planAt, loadI, storeI, takeI, TK.agg, TK.known, cellsI, fillRow, okCell, bltI, builtinI, lenI, indexAddrI, fieldAddrI, fieldI, indexI, nilChkI, An.isImm, pureC, pure0, impI, impL, impC, cutO, An.imps, List.replicate, decide_true, decide_false, cond_true, cond_false, if_true, if_false, ite_true, ite_false, ne_eq, forall_const, eq_self, reduceCtorEq, reduceIte, Nat.reduceLT, Nat.reduceLeDiff, Nat.reduceAdd, Nat.reduceSub, Nat.reduceMul, Nat.reduceEqDiff, Nat.reduceBEq, Int.reduceLE, Int.reduceLT, Int.reduceToNat, Int.reduceEq, Int.reduceAdd, Int.reduceSub, Int.reduceMul, ty_3, tk_3, ty_34, tk_34, ty_36, tk_36, ty_4, tk_4, a0, a1, a2, a3, a4, a18, a19, a20, a21, hl]
          exact hL
        · clear hl a0 a1 a2 a3 a4 a18 a19 a20 a21 hL
          clear b1 b2 b3 b4 b5
          rintro T R ⟨s, r, b1, b2, b3, b4, b5, hl, a0, a1, a2, a3, a4, a18, a19, a20, a21, a22, hL⟩
          simp only [wB, E0_tys, appI, bsI, slI, sliceI, sliceS, optI, appendI, srcI, chunk, fillI, fzParts, fzL, fz1, planAt, loadI, storeI, takeI, TK.agg, TK.known, cellsI, fillRow, okCell, bltI, builtinI, lenI, indexAddrI, fieldAddrI, fieldI, indexI, nilChkI, An.isImm, pureC, pure0, impI, impL, impC, cutO, An.imps, List.replicate, decide_true, decide_false, cond_true, cond_false, if_true, if_false, ite_true, ite_false, ne_eq, forall_const, eq_self, reduceCtorEq, reduceIte, Nat.reduceLT, Nat.reduceLeDiff, Nat.reduceAdd, Nat.reduceSub, Nat.reduceMul, Nat.reduceEqDiff, Nat.reduceBEq, Int.reduceLE, Int.reduceLT, Int.reduceToNat, Int.reduceEq, Int.reduceAdd, Int.reduceSub, Int.reduceMul, ty_3, tk_3, ty_34, tk_34, ty_36, tk_36, ty_4, tk_4, a20, a21, hl]
          refine condW_b _ _ _ _ (fun hq2 => ?_) (fun hq2 => ?_)
          · have hlt : s < r := by have := of_decide_eq_true hq2; omega
            have u1 : IntKind.i64.wrap ((s : Int) + (r : Int)) = ((s + r : Nat) : Int) := by rw [wrap64] <;> omega
            have u2 := conv_u (s + r) (by omega)
            have u3 := shr_1 (s + r)
            have u4 := conv_s ((s + r) / 2) (by omega)
            have u5 : IntKind.i64.wrap ((((s + r) / 2 : Nat) : Int) + 1) = (((s + r) / 2 + 1 : Nat) : Int) := by rw [wrap64] <;> omega
            generalize hh2 : (s + r) / 2 = c at *
            have hc1 : s ≤ c ∧ c < r := by omega
            have u6 : IntKind.i64.wrap (((mid + m - 1 : Nat) : Int) - (c : Int)) = ((mid + m - 1 - c : Nat) : Int) := by rw [wrap64] <;> omega
            obtain ⟨x, hx1⟩ := at_lt (show off + (mid + m - 1 - c) < xs.length by omega)
            obtain ⟨y, hy1⟩ := at_lt (show off + c < xs.length by omega)
            have ex := encI_get hx1
            have ey := encI_get hy1
            have l1 : mid + m - 1 - c < N := by omega
            have l2 : c < N := by omega
            have hL' := hL
            unfold Lv at hL'
            simp only [wB, E0_tys, appI, bsI, slI, sliceI, sliceS, optI, appendI, srcI, chunk, fillI, fzParts, fzL, fz1, planAt, loadI, storeI, takeI, TK.agg, TK.known, cellsI, fillRow, okCell, bltI, builtinI, lenI, indexAddrI, fieldAddrI, fieldI, indexI, nilChkI, An.isImm, pureC, pure0, impI, impL, impC, cutO, An.imps, List.replicate, decide_true, decide_false, cond_true, cond_false, if_true, if_false, ite_true, ite_false, ne_eq, forall_const, eq_self, reduceCtorEq, reduceIte, Nat.reduceLT, Nat.reduceLeDiff, Nat.reduceAdd, Nat.reduceSub, Nat.reduceMul, Nat.reduceEqDiff, Nat.reduceBEq, Int.reduceLE, Int.reduceLT, Int.reduceToNat, Int.reduceEq, Int.reduceAdd, Int.reduceSub, Int.reduceMul, ty_3, tk_3, ty_34, tk_34, ty_36, tk_36, ty_4, tk_4, a0, a1, a2, a3, a4, a18, a19, a20, a21, a22, hl, u1, u2, u3, u4, u6, l1, l2, hL', ex, ey]
            refine callPu0 (c77 x y) rfl rfl ?_
            simp only [wB, E0_tys, appI, bsI, slI, sliceI, sliceS, optI, appendI, srcI, chunk, fillI, fzParts, fzL, fz1, planAt, loadI, storeI, takeI, TK.agg, TK.known, cellsI, fillRow, okCell, bltI, builtinI, lenI, indexAddrI, fieldAddrI, fieldI, indexI, nilChkI, An.isImm, pureC, pure0, impI, impL, impC, cutO, An.imps, List.replicate, decide_true, decide_false, cond_true, cond_false, if_true, if_false, ite_true, ite_false, ne_eq, forall_const, eq_self, reduceCtorEq, reduceIte, Nat.reduceLT, Nat.reduceLeDiff, Nat.reduceAdd, Nat.reduceSub, Nat.reduceMul, Nat.reduceEqDiff, Nat.reduceBEq, Int.reduceLE, Int.reduceLT, Int.reduceToNat, Int.reduceEq, Int.reduceAdd, Int.reduceSub, Int.reduceMul, ty_3, tk_3, ty_34, tk_34, ty_36, tk_36, ty_4, tk_4, hl]
            refine condW_b _ _ _ _ (fun hq3 => ?_) (fun hq3 => ?_)
            · simp only [wB, E0_tys, appI, bsI, slI, sliceI, sliceS, optI, appendI, srcI, chunk, fillI, fzParts, fzL, fz1, planAt, loadI, storeI, takeI, TK.agg, TK.known, cellsI, fillRow, okCell, bltI, builtinI, lenI, indexAddrI, fieldAddrI, fieldI, indexI, nilChkI, An.isImm, pureC, pure0, impI, impL, impC, cutO, An.imps, List.replicate, decide_true, decide_false, cond_true, cond_false, if_true, if_false, ite_true, ite_false, ne_eq, forall_const, eq_self, reduceCtorEq, reduceIte, Nat.reduceLT, Nat.reduceLeDiff, Nat.reduceAdd, Nat.reduceSub, Nat.reduceMul, Nat.reduceEqDiff, Nat.reduceBEq, Int.reduceLE, Int.reduceLT, Int.reduceToNat, Int.reduceEq, Int.reduceAdd, Int.reduceSub, Int.reduceMul, ty_3, tk_3, ty_34, tk_34, ty_36, tk_36, ty_4, tk_4, a0, a1, a2, a3, a4, a18, a19, a20, a21, a22, hl, u5]
              exact ⟨⟨c + 1, r, by omega, by omega, by omega, by omega, by omega, rfl, rfl, hL⟩, by simp only [asI]; omega⟩
            · simp only [wB, E0_tys, appI, bsI, slI, sliceI, sliceS, optI, appendI, srcI, chunk, fillI, fzParts, fzL, fz1, planAt, loadI, storeI, takeI, TK.agg, TK.known, cellsI, fillRow, okCell, bltI, builtinI, lenI, indexAddrI, fieldAddrI, fieldI, indexI, nilChkI, An.isImm, pureC, pure0, impI, impL, impC, cutO, An.imps, List.replicate, decide_true, decide_false, cond_true, cond_false, if_true, if_false, ite_true, ite_false, ne_eq, forall_const, eq_self, reduceCtorEq, reduceIte, Nat.reduceLT, Nat.reduceLeDiff, Nat.reduceAdd, Nat.reduceSub, Nat.reduceMul, Nat.reduceEqDiff, Nat.reduceBEq, Int.reduceLE, Int.reduceLT, Int.reduceToNat, Int.reduceEq, Int.reduceAdd, Int.reduceSub, Int.reduceMul, ty_3, tk_3, ty_34, tk_34, ty_36, tk_36, ty_4, tk_4, a0, a1, a2, a3, a4, a18, a19, a20, a21, a22, hl]
              exact ⟨⟨s, c, by omega, by omega, by omega, by omega, by omega, rfl, rfl, hL⟩, by simp only [asI]; omega⟩
          · have u1 : IntKind.i64.wrap (((mid + m : Nat) : Int) - (s : Int)) = ((mid + m - s : Nat) : Int) := by rw [wrap64] <;> omega
            have he : ((mid + m - s : Nat) : Int) = ((mid + m - s : Nat) : Int) := rfl
            generalize hg : mid + m - s = e at *
            simp only [W_exit, seqK_x, blockK_eq, seqK_n]
            refine seq_join (fun T R => T.length = 220 ∧ getT T 0 = .rf 0 ver off N ∧ getT T 1 = .i .i64 (a : Int) ∧ getT T 2 = .i .i64 (m : Int) ∧ getT T 3 = .i .i64 (b : Int) ∧ getT T 4 = cmpI ∧ getT T 18 = .i .i64 (mid : Int) ∧ getT T 20 = .i .i64 (s : Int) ∧ getT T 24 = .i .i64 (e : Int) ∧ ∃ ys, ys.Perm xs ∧ Lv R ver ys) ?_ ?_
            · simp only [wB, E0_tys, appI, bsI, slI, sliceI, sliceS, optI, appendI, srcI, chunk, fillI, fzParts, fzL, fz1, planAt, loadI, storeI, takeI, TK.agg, TK.known, cellsI, fillRow, okCell, bltI, builtinI, lenI, indexAddrI, fieldAddrI, fieldI, indexI, nilChkI, An.isImm, pureC, pure0, impI, impL, impC, cutO, An.imps, List.replicate, decide_true, decide_false, cond_true, cond_false, if_true, if_false, ite_true, ite_false, ne_eq, forall_const, eq_self, reduceCtorEq, reduceIte, Nat.reduceLT, Nat.reduceLeDiff, Nat.reduceAdd, Nat.reduceSub, Nat.reduceMul, Nat.reduceEqDiff, Nat.reduceBEq, Int.reduceLE, Int.reduceLT, Int.reduceToNat, Int.reduceEq, Int.reduceAdd, Int.reduceSub, Int.reduceMul, ty_3, tk_3, ty_34, tk_34, ty_36, tk_36, ty_4, tk_4, a0, a1, a2, a3, a4, a18, a19, a20, hl, u1]
              exact ⟨xs, List.Perm.refl _, hL⟩
            clear hl a0 a1 a2 a3 a4 a18 a19 a20 a21 a22 hL
            rintro T R ⟨hl, a0, a1, a2, a3, a4, a18, a20, a24, ys, hp, hL⟩
            refine seq_join (fun T R => T.length = 220 ∧ getT T 0 = .rf 0 ver off N ∧ getT T 1 = .i .i64 (a : Int) ∧ getT T 2 = .i .i64 (m : Int) ∧ getT T 3 = .i .i64 (b : Int) ∧ getT T 4 = cmpI ∧ getT T 18 = .i .i64 (mid : Int) ∧ getT T 20 = .i .i64 (s : Int) ∧ getT T 24 = .i .i64 (e : Int) ∧ ∃ ys, ys.Perm xs ∧ Lv R ver ys) ?_ ?_
            · have hlen : ys.length = xs.length := hp.length_eq
              by_cases p1 : s < m
              · have p1i : (s : Int) < (m : Int) := by omega
                by_cases p2 : m < e
                · have p2i : (m : Int) < (e : Int) := by omega
                  obtain ⟨y, R1, ⟨rfl, zs, hz, hL1⟩, hic⟩ := c100 R ver off N s m e ys hL (by omega) (by omega) p1 p2 (by omega)
                  simp only [wB, E0_tys, appI, bsI, slI, sliceI, sliceS, optI, appendI, srcI, chunk, fillI, fzParts, fzL, fz1, planAt, loadI, storeI, takeI, TK.agg, TK.known, cellsI, fillRow, okCell, bltI, builtinI, lenI, indexAddrI, fieldAddrI, fieldI, indexI, nilChkI, An.isImm, pureC, pure0, impI, impL, impC, cutO, An.imps, List.replicate, decide_true, decide_false, cond_true, cond_false, if_true, if_false, ite_true, ite_false, ne_eq, forall_const, eq_self, reduceCtorEq, reduceIte, Nat.reduceLT, Nat.reduceLeDiff, Nat.reduceAdd, Nat.reduceSub, Nat.reduceMul, Nat.reduceEqDiff, Nat.reduceBEq, Int.reduceLE, Int.reduceLT, Int.reduceToNat, Int.reduceEq, Int.reduceAdd, Int.reduceSub, Int.reduceMul, ty_3, tk_3, ty_34, tk_34, ty_36, tk_36, ty_4, tk_4, a0, a1, a2, a3, a4, a18, a20, a24, hl, p1i, p2i]
                  refine callIc0 hic ?_
                  simp only [wB, E0_tys, appI, bsI, slI, sliceI, sliceS, optI, appendI, srcI, chunk, fillI, fzParts, fzL, fz1, planAt, loadI, storeI, takeI, TK.agg, TK.known, cellsI, fillRow, okCell, bltI, builtinI, lenI, indexAddrI, fieldAddrI, fieldI, indexI, nilChkI, An.isImm, pureC, pure0, impI, impL, impC, cutO, An.imps, List.replicate, decide_true, decide_false, cond_true, cond_false, if_true, if_false, ite_true, ite_false, ne_eq, forall_const, eq_self, reduceCtorEq, reduceIte, Nat.reduceLT, Nat.reduceLeDiff, Nat.reduceAdd, Nat.reduceSub, Nat.reduceMul, Nat.reduceEqDiff, Nat.reduceBEq, Int.reduceLE, Int.reduceLT, Int.reduceToNat, Int.reduceEq, Int.reduceAdd, Int.reduceSub, Int.reduceMul, ty_3, tk_3, ty_34, tk_34, ty_36, tk_36, ty_4, tk_4, a0, a1, a2, a3, a4, a18, a20, a24, hl]
                  exact ⟨zs, hz.trans hp, hL1⟩
                · have p2i : ¬ (m : Int) < (e : Int) := by omega
                  simp only [wB, E0_tys, appI, bsI, slI, sliceI, sliceS, optI, appendI, srcI, chunk, fillI, fzParts, fzL, fz1, planAt, loadI, storeI, takeI, TK.agg, TK.known, cellsI, fillRow, okCell, bltI, builtinI, lenI, indexAddrI, fieldAddrI, fieldI, indexI, nilChkI, An.isImm, pureC, pure0, impI, impL, impC, cutO, An.imps, List.replicate, decide_true, decide_false, cond_true, cond_false, if_true, if_false, ite_true, ite_false, ne_eq, forall_const, eq_self, reduceCtorEq, reduceIte, Nat.reduceLT, Nat.reduceLeDiff, Nat.reduceAdd, Nat.reduceSub, Nat.reduceMul, Nat.reduceEqDiff, Nat.reduceBEq, Int.reduceLE, Int.reduceLT, Int.reduceToNat, Int.reduceEq, Int.reduceAdd, Int.reduceSub, Int.reduceMul, ty_3, tk_3, ty_34, tk_34, ty_36, tk_36, ty_4, tk_4, a0, a1, a2, a3, a4, a18, a20, a24, hl, p1i, p2i]
                  exact ⟨ys, hp, hL⟩
              · have p1i : ¬ (s : Int) < (m : Int) := by omega
                simp only [wB, E0_tys, appI, bsI, slI, sliceI, sliceS, optI, appendI, srcI, chunk, fillI, fzParts, fzL, fz1, planAt, loadI, storeI, takeI, TK.agg, TK.known, cellsI, fillRow, okCell, bltI, builtinI, lenI, indexAddrI, fieldAddrI, fieldI, indexI, nilChkI, An.isImm, pureC, pure0, impI, impL, impC, cutO, An.imps, List.replicate, decide_true, decide_false, cond_true, cond_false, if_true, if_false, ite_true, ite_false, ne_eq, forall_const, eq_self, reduceCtorEq, reduceIte, Nat.reduceLT, Nat.reduceLeDiff, Nat.reduceAdd, Nat.reduceSub, Nat.reduceMul, Nat.reduceEqDiff, Nat.reduceBEq, Int.reduceLE, Int.reduceLT, Int.reduceToNat, Int.reduceEq, Int.reduceAdd, Int.reduceSub, Int.reduceMul, ty_3, tk_3, ty_34, tk_34, ty_36, tk_36, ty_4, tk_4, a0, a1, a2, a3, a4, a18, a20, a24, hl, p1i]
                exact ⟨ys, hp, hL⟩
            clear hl a0 a1 a2 a3 a4 a18 a20 a24 hp hL ys
            rintro T R ⟨hl, a0, a1, a2, a3, a4, a18, a20, a24, ys, hp, hL⟩
            refine seq_join (fun T R => T.length = 220 ∧ getT T 0 = .rf 0 ver off N ∧ getT T 1 = .i .i64 (a : Int) ∧ getT T 2 = .i .i64 (m : Int) ∧ getT T 3 = .i .i64 (b : Int) ∧ getT T 4 = cmpI ∧ getT T 18 = .i .i64 (mid : Int) ∧ getT T 20 = .i .i64 (s : Int) ∧ getT T 24 = .i .i64 (e : Int) ∧ ∃ ys, ys.Perm xs ∧ Lv R ver ys) ?_ ?_
            · have hlen : ys.length = xs.length := hp.length_eq
              by_cases p1 : a < s
              · have p1i : (a : Int) < (s : Int) := by omega
                by_cases p2 : s < mid
                · have p2i : (s : Int) < (mid : Int) := by omega
                  obtain ⟨y, R1, ⟨rfl, zs, hz, hL1⟩, hic⟩ := ih (mid - a) (by omega) R ver off N a s mid ys rfl hL (by omega) (by omega) p1 p2 (by omega)
                  simp only [wB, E0_tys, appI, bsI, slI, sliceI, sliceS, optI, appendI, srcI, chunk, fillI, fzParts, fzL, fz1, planAt, loadI, storeI, takeI, TK.agg, TK.known, cellsI, fillRow, okCell, bltI, builtinI, lenI, indexAddrI, fieldAddrI, fieldI, indexI, nilChkI, An.isImm, pureC, pure0, impI, impL, impC, cutO, An.imps, List.replicate, decide_true, decide_false, cond_true, cond_false, if_true, if_false, ite_true, ite_false, ne_eq, forall_const, eq_self, reduceCtorEq, reduceIte, Nat.reduceLT, Nat.reduceLeDiff, Nat.reduceAdd, Nat.reduceSub, Nat.reduceMul, Nat.reduceEqDiff, Nat.reduceBEq, Int.reduceLE, Int.reduceLT, Int.reduceToNat, Int.reduceEq, Int.reduceAdd, Int.reduceSub, Int.reduceMul, ty_3, tk_3, ty_34, tk_34, ty_36, tk_36, ty_4, tk_4, a0, a1, a2, a3, a4, a18, a20, a24, hl, p1i, p2i]
                  refine callIc0 hic ?_
                  simp only [wB, E0_tys, appI, bsI, slI, sliceI, sliceS, optI, appendI, srcI, chunk, fillI, fzParts, fzL, fz1, planAt, loadI, storeI, takeI, TK.agg, TK.known, cellsI, fillRow, okCell, bltI, builtinI, lenI, indexAddrI, fieldAddrI, fieldI, indexI, nilChkI, An.isImm, pureC, pure0, impI, impL, impC, cutO, An.imps, List.replicate, decide_true, decide_false, cond_true, cond_false, if_true, if_false, ite_true, ite_false, ne_eq, forall_const, eq_self, reduceCtorEq, reduceIte, Nat.reduceLT, Nat.reduceLeDiff, Nat.reduceAdd, Nat.reduceSub, Nat.reduceMul, Nat.reduceEqDiff, Nat.reduceBEq, Int.reduceLE, Int.reduceLT, Int.reduceToNat, Int.reduceEq, Int.reduceAdd, Int.reduceSub, Int.reduceMul, ty_3, tk_3, ty_34, tk_34, ty_36, tk_36, ty_4, tk_4, a0, a1, a2, a3, a4, a18, a20, a24, hl]
                  exact ⟨zs, hz.trans hp, hL1⟩
                · have p2i : ¬ (s : Int) < (mid : Int) := by omega
                  simp only [wB, E0_tys, appI, bsI, slI, sliceI, sliceS, optI, appendI, srcI, chunk, fillI, fzParts, fzL, fz1, planAt, loadI, storeI, takeI, TK.agg, TK.known, cellsI, fillRow, okCell, bltI, builtinI, lenI, indexAddrI, fieldAddrI, fieldI, indexI, nilChkI, An.isImm, pureC, pure0, impI, impL, impC, cutO, An.imps, List.replicate, decide_true, decide_false, cond_true, cond_false, if_true, if_false, ite_true, ite_false, ne_eq, forall_const, eq_self, reduceCtorEq, reduceIte, Nat.reduceLT, Nat.reduceLeDiff, Nat.reduceAdd, Nat.reduceSub, Nat.reduceMul, Nat.reduceEqDiff, Nat.reduceBEq, Int.reduceLE, Int.reduceLT, Int.reduceToNat, Int.reduceEq, Int.reduceAdd, Int.reduceSub, Int.reduceMul, ty_3, tk_3, ty_34, tk_34, ty_36, tk_36, ty_4, tk_4, a0, a1, a2, a3, a4, a18, a20, a24, hl, p1i, p2i]
                  exact ⟨ys, hp, hL⟩
              · have p1i : ¬ (a : Int) < (s : Int) := by omega
                simp only [wB, E0_tys, appI, bsI, slI, sliceI, sliceS, optI, appendI, srcI, chunk, fillI, fzParts, fzL, fz1, planAt, loadI, storeI, takeI, TK.agg, TK.known, cellsI, fillRow, okCell, bltI, builtinI, lenI, indexAddrI, fieldAddrI, fieldI, indexI, nilChkI, An.isImm, pureC, pure0, impI, impL, impC, cutO, An.imps, List.replicate, decide_true, decide_false, cond_true, cond_false, if_true, if_false, ite_true, ite_false, ne_eq, forall_const, eq_self, reduceCtorEq, reduceIte, Nat.reduceLT, Nat.reduceLeDiff, Nat.reduceAdd, Nat.reduceSub, Nat.reduceMul, Nat.reduceEqDiff, Nat.reduceBEq, Int.reduceLE, Int.reduceLT, Int.reduceToNat, Int.reduceEq, Int.reduceAdd, Int.reduceSub, Int.reduceMul, ty_3, tk_3, ty_34, tk_34, ty_36, tk_36, ty_4, tk_4, a0, a1, a2, a3, a4, a18, a20, a24, hl, p1i]
                exact ⟨ys, hp, hL⟩
            clear hl a0 a1 a2 a3 a4 a18 a20 a24 hp hL ys
            rintro T R ⟨hl, a0, a1, a2, a3, a4, a18, a20, a24, ys, hp, hL⟩
            have hlen : ys.length = xs.length := hp.length_eq
            by_cases p1 : mid < e
            · have p1i : (mid : Int) < (e : Int) := by omega
              by_cases p2 : e < b
              · have p2i : (e : Int) < (b : Int) := by omega
                obtain ⟨y, R1, ⟨rfl, zs, hz, hL1⟩, hic⟩ := ih (b - mid) (by omega) R ver off N mid e b ys rfl hL (by omega) (by omega) p1 p2 (by omega)
                simp only [wB, E0_tys, appI, bsI, slI, sliceI, sliceS, optI, appendI, srcI, chunk, fillI, fzParts, fzL, fz1, planAt, loadI, storeI, takeI, TK.agg, TK.known, cellsI, fillRow, okCell, bltI, builtinI, lenI, indexAddrI, fieldAddrI, fieldI, indexI, nilChkI, An.isImm, pureC, pure0, impI, impL, impC, cutO, An.imps, List.replicate, decide_true, decide_false, cond_true, cond_false, if_true, if_false, ite_true, ite_false, ne_eq, forall_const, eq_self, reduceCtorEq, reduceIte, Nat.reduceLT, Nat.reduceLeDiff, Nat.reduceAdd, Nat.reduceSub, Nat.reduceMul, Nat.reduceEqDiff, Nat.reduceBEq, Int.reduceLE, Int.reduceLT, Int.reduceToNat, Int.reduceEq, Int.reduceAdd, Int.reduceSub, Int.reduceMul, ty_3, tk_3, ty_34, tk_34, ty_36, tk_36, ty_4, tk_4, a0, a1, a2, a3, a4, a18, a20, a24, hl, p1i, p2i]
                refine callIc0 hic ?_
                simp only [wB, E0_tys, appI, bsI, slI, sliceI, sliceS, optI, appendI, srcI, chunk, fillI, fzParts, fzL, fz1, planAt, loadI, storeI, takeI, TK.agg, TK.known, cellsI, fillRow, okCell, bltI, builtinI, lenI, indexAddrI, fieldAddrI, fieldI, indexI, nilChkI, An.isImm, pureC, pure0, impI, impL, impC, cutO, An.imps, List.replicate, decide_true, decide_false, cond_true, cond_false, if_true, if_false, ite_true, ite_false, ne_eq, forall_const, eq_self, reduceCtorEq, reduceIte, Nat.reduceLT, Nat.reduceLeDiff, Nat.reduceAdd, Nat.reduceSub, Nat.reduceMul, Nat.reduceEqDiff, Nat.reduceBEq, Int.reduceLE, Int.reduceLT, Int.reduceToNat, Int.reduceEq, Int.reduceAdd, Int.reduceSub, Int.reduceMul, ty_3, tk_3, ty_34, tk_34, ty_36, tk_36, ty_4, tk_4, hl]
                exact ⟨zs, hz.trans hp, hL1⟩
              · have p2i : ¬ (e : Int) < (b : Int) := by omega
                simp only [wB, E0_tys, appI, bsI, slI, sliceI, sliceS, optI, appendI, srcI, chunk, fillI, fzParts, fzL, fz1, planAt, loadI, storeI, takeI, TK.agg, TK.known, cellsI, fillRow, okCell, bltI, builtinI, lenI, indexAddrI, fieldAddrI, fieldI, indexI, nilChkI, An.isImm, pureC, pure0, impI, impL, impC, cutO, An.imps, List.replicate, decide_true, decide_false, cond_true, cond_false, if_true, if_false, ite_true, ite_false, ne_eq, forall_const, eq_self, reduceCtorEq, reduceIte, Nat.reduceLT, Nat.reduceLeDiff, Nat.reduceAdd, Nat.reduceSub, Nat.reduceMul, Nat.reduceEqDiff, Nat.reduceBEq, Int.reduceLE, Int.reduceLT, Int.reduceToNat, Int.reduceEq, Int.reduceAdd, Int.reduceSub, Int.reduceMul, ty_3, tk_3, ty_34, tk_34, ty_36, tk_36, ty_4, tk_4, a0, a1, a2, a3, a4, a18, a20, a24, hl, p1i, p2i]
                exact ⟨ys, hp, hL⟩
            · have p1i : ¬ (mid : Int) < (e : Int) := by omega
              simp only [wB, E0_tys, appI, bsI, slI, sliceI, sliceS, optI, appendI, srcI, chunk, fillI, fzParts, fzL, fz1, planAt, loadI, storeI, takeI, TK.agg, TK.known, cellsI, fillRow, okCell, bltI, builtinI, lenI, indexAddrI, fieldAddrI, fieldI, indexI, nilChkI, An.isImm, pureC, pure0, impI, impL, impC, cutO, An.imps, List.replicate, decide_true, decide_false, cond_true, cond_false, if_true, if_false, ite_true, ite_false, ne_eq, forall_const, eq_self, reduceCtorEq, reduceIte, Nat.reduceLT, Nat.reduceLeDiff, Nat.reduceAdd, Nat.reduceSub, Nat.reduceMul, Nat.reduceEqDiff, Nat.reduceBEq, Int.reduceLE, Int.reduceLT, Int.reduceToNat, Int.reduceEq, Int.reduceAdd, Int.reduceSub, Int.reduceMul, ty_3, tk_3, ty_34, tk_34, ty_36, tk_36, ty_4, tk_4, a0, a1, a2, a3, a4, a18, a20, a24, hl, p1i]
              exact ⟨ys, hp, hL⟩
end Go.Proofs
