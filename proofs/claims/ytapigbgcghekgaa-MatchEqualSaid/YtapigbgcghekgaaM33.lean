import Derived.Test.YtapigbgcghekgaaM32
set_option linter.unusedVariables false
set_option linter.unusedSimpArgs false
set_option maxRecDepth 100000
set_option maxHeartbeats 8000000
set_option linter.unusedVariables false
set_option linter.unusedSimpArgs false
namespace Go.Proofs
open Go.Iv
def blankF (s : List Int) (i : Nat) : Bool := decide (s.getD i 0 = 32) && (decide (i + 1 = s.length) || decide (classF (s.getD (i + 1) 0) = 0))
theorem c71 (s : List Int) (i : Nat) (hi : i < s.length) (hx : s.length ≤ 1000000) : PC Try.prog true 71 [.sl none (encI s), .i .i64 i] (.b (blankF s i)) [] := by
  obtain ⟨x, hx1⟩ := at_lt hi
  have hxd : s.getD i 0 = x := by simp [List.getD, hx1]
  have ex := encI_at hx1
  have w1 : IntKind.i64.wrap ((i : Int) + 1) = ((i + 1 : Nat) : Int) := by rw [wrap64] <;> omega
  by_cases h1 : x = 32
  · by_cases h2 : i + 1 = s.length
    · have h2i : ((i + 1 : Nat) : Int) = (s.length : Int) := by omega
      have hB : blankF s i = true := by unfold blankF; rw [hxd, h1, h2]; simp
      refine pcW E0_ok mm (fn := Try.f71) (by kernel_rfl) (by kernel_rfl) (by kernel_rfl) [] (by kernel_rfl) [] (by rw [show Try.f71.ntmps = 2 + 24 by kernel_rfl]; exact Nat.le_add_right _ _) ?_
      intro T hl hx
      have a0 := hx 0 _ rfl
      have a1 := hx 1 _ rfl
      clear hx
      simp only [bodyOf, Try.f71] at hl ⊢
      simp only [wB, E0_tys, appI, bsI, slI, sliceI, sliceS, optI, appendI, srcI, chunk, fillI, fzParts, fzL, fz1, planAt, loadI, storeI, takeI, TK.agg, TK.known, cellsI, fillRow, okCell, bltI, builtinI, lenI, indexAddrI, fieldAddrI, fieldI, indexI, nilChkI, An.isImm, pureC, pure0, impI, impL, impC, cutO, An.imps, List.replicate, decide_true, decide_false, cond_true, cond_false, if_true, if_false, ite_true, ite_false, ne_eq, forall_const, eq_self, reduceCtorEq, reduceIte, Nat.reduceLT, Nat.reduceLeDiff, Nat.reduceAdd, Nat.reduceSub, Nat.reduceMul, Nat.reduceEqDiff, Nat.reduceBEq, Int.reduceLE, Int.reduceLT, Int.reduceToNat, Int.reduceEq, Int.reduceAdd, Int.reduceSub, Int.reduceMul, ty_3, tk_3, ty_36, tk_36, ty_4, tk_4, a0, a1, hl, encI_len, hi, ex, h1, w1, h2i, hB]
    · have h2i : ¬ ((i + 1 : Nat) : Int) = (s.length : Int) := by omega
      have hi2 : i + 1 < s.length := by omega
      obtain ⟨y, hy1⟩ := at_lt hi2
      have hyd : s.getD (i + 1) 0 = y := by simp [List.getD, hy1]
      have ey := encI_at hy1
      have hB : blankF s i = decide (classF y = 0) := by unfold blankF; rw [hxd, hyd, h1]; simp [h2]
      refine pcW E0_ok mm (fn := Try.f71) (by kernel_rfl) (by kernel_rfl) (by kernel_rfl) [] (by kernel_rfl) [] (by rw [show Try.f71.ntmps = 2 + 24 by kernel_rfl]; exact Nat.le_add_right _ _) ?_
      intro T hl hx
      have a0 := hx 0 _ rfl
      have a1 := hx 1 _ rfl
      clear hx
      simp only [bodyOf, Try.f71] at hl ⊢
      simp only [wB, E0_tys, appI, bsI, slI, sliceI, sliceS, optI, appendI, srcI, chunk, fillI, fzParts, fzL, fz1, planAt, loadI, storeI, takeI, TK.agg, TK.known, cellsI, fillRow, okCell, bltI, builtinI, lenI, indexAddrI, fieldAddrI, fieldI, indexI, nilChkI, An.isImm, pureC, pure0, impI, impL, impC, cutO, An.imps, List.replicate, decide_true, decide_false, cond_true, cond_false, if_true, if_false, ite_true, ite_false, ne_eq, forall_const, eq_self, reduceCtorEq, reduceIte, Nat.reduceLT, Nat.reduceLeDiff, Nat.reduceAdd, Nat.reduceSub, Nat.reduceMul, Nat.reduceEqDiff, Nat.reduceBEq, Int.reduceLE, Int.reduceLT, Int.reduceToNat, Int.reduceEq, Int.reduceAdd, Int.reduceSub, Int.reduceMul, ty_3, tk_3, ty_36, tk_36, ty_4, tk_4, a0, a1, hl, encI_len, hi, ex, h1, w1, h2i, hi2, ey]
      refine callPu0 (c59 y) rfl rfl ?_
      simp only [wB, E0_tys, appI, bsI, slI, sliceI, sliceS, optI, appendI, srcI, chunk, fillI, fzParts, fzL, fz1, planAt, loadI, storeI, takeI, TK.agg, TK.known, cellsI, fillRow, okCell, bltI, builtinI, lenI, indexAddrI, fieldAddrI, fieldI, indexI, nilChkI, An.isImm, pureC, pure0, impI, impL, impC, cutO, An.imps, List.replicate, decide_true, decide_false, cond_true, cond_false, if_true, if_false, ite_true, ite_false, ne_eq, forall_const, eq_self, reduceCtorEq, reduceIte, Nat.reduceLT, Nat.reduceLeDiff, Nat.reduceAdd, Nat.reduceSub, Nat.reduceMul, Nat.reduceEqDiff, Nat.reduceBEq, Int.reduceLE, Int.reduceLT, Int.reduceToNat, Int.reduceEq, Int.reduceAdd, Int.reduceSub, Int.reduceMul, ty_3, tk_3, ty_36, tk_36, ty_4, tk_4, a0, a1, hl, hB]
  · have hB : blankF s i = false := by unfold blankF; rw [hxd]; simp [h1]
    refine pcW E0_ok mm (fn := Try.f71) (by kernel_rfl) (by kernel_rfl) (by kernel_rfl) [] (by kernel_rfl) [] (by rw [show Try.f71.ntmps = 2 + 24 by kernel_rfl]; exact Nat.le_add_right _ _) ?_
    intro T hl hx
    have a0 := hx 0 _ rfl
    have a1 := hx 1 _ rfl
    clear hx
    simp only [bodyOf, Try.f71] at hl ⊢
    simp only [wB, E0_tys, appI, bsI, slI, sliceI, sliceS, optI, appendI, srcI, chunk, fillI, fzParts, fzL, fz1, planAt, loadI, storeI, takeI, TK.agg, TK.known, cellsI, fillRow, okCell, bltI, builtinI, lenI, indexAddrI, fieldAddrI, fieldI, indexI, nilChkI, An.isImm, pureC, pure0, impI, impL, impC, cutO, An.imps, List.replicate, decide_true, decide_false, cond_true, cond_false, if_true, if_false, ite_true, ite_false, ne_eq, forall_const, eq_self, reduceCtorEq, reduceIte, Nat.reduceLT, Nat.reduceLeDiff, Nat.reduceAdd, Nat.reduceSub, Nat.reduceMul, Nat.reduceEqDiff, Nat.reduceBEq, Int.reduceLE, Int.reduceLT, Int.reduceToNat, Int.reduceEq, Int.reduceAdd, Int.reduceSub, Int.reduceMul, ty_3, tk_3, ty_36, tk_36, ty_4, tk_4, a0, a1, hl, encI_len, hi, ex, h1, hB]
def encW (ws : List (List Int)) : List (List IV) := ws.map fun w => [.sl none (encI w)]
theorem encW_S (ws : List (List Int)) : encW ws = encS (ws.map fun w => (none, w)) := by simp [encW, encS]
theorem encW_len (ws : List (List Int)) : (encW ws).length = ws.length := by simp [encW]
theorem encW_app (a b : List (List Int)) : encW a ++ encW b = encW (a ++ b) := by simp [encW]
theorem room_24 {k : TK} {s : Nat} {z : List IV} {n : Nat} (h : n ≤ 10000000) : room ⟨k, s, 24, z⟩ n = true := by unfold room; simp; omega
abbrev WS := List (List Int) × Nat
def wordS (s : List Int) (st : WS) (i : Nat) : WS :=
  if i < s.length ∧ blankF s i = false then st else (if st.2 < i then st.1 ++ [(s.take i).drop st.2] else st.1, i + 1)
def wordSt (s : List Int) (n : Nat) : WS := (List.range n).foldl (wordS s) ([], 0)
def wordsF (s : List Int) : List (List Int) := (wordSt s (s.length + 1)).1
theorem wordSt_succ (s : List Int) (n : Nat) : wordSt s (n + 1) = wordS s (wordSt s n) n := by
  unfold wordSt
  rw [List.range_succ, List.foldl_append]
  rfl
def lenW (ws : List (List Int)) : Nat := lenS (ws.map fun w => (none, w))
theorem lenW_app (a b : List (List Int)) : lenW (a ++ b) = lenW a + lenW b := by unfold lenW; rw [List.map_append, lenS_app]
theorem wordSt_ok (s : List Int) : ∀ n, n ≤ s.length + 1 → (wordSt s n).2 ≤ n ∧ (wordSt s n).1.length ≤ n ∧ lenW (wordSt s n).1 ≤ (wordSt s n).2
  | 0, _ => by simp [wordSt, lenW, lenS]
  | n + 1, h => by
    obtain ⟨h1, h2, h3⟩ := wordSt_ok s n (by omega)
    rw [wordSt_succ]
    unfold wordS
    split
    · exact ⟨by omega, by omega, h3⟩
    · refine ⟨Nat.le_refl _, ?_, ?_⟩
      · dsimp only
        split
        · simp; omega
        · omega
      · dsimp only
        split
        · rw [lenW_app]
          have : lenW [(s.take n).drop (wordSt s n).2] ≤ n - (wordSt s n).2 := by
            simp only [lenW, List.map_cons, List.map_nil, lenS, List.length_drop, List.length_take]
            omega
          omega
        · omega
theorem wordsF_len (s : List Int) : (wordsF s).length ≤ s.length + 1 ∧ lenW (wordsF s) ≤ s.length + 1 := by
  obtain ⟨h1, h2, h3⟩ := wordSt_ok s (s.length + 1) (Nat.le_refl _)
  exact ⟨h2, by unfold wordsF; omega⟩
theorem c55 (s : List Int) (hx : s.length ≤ 900000) : PC Try.prog true 55 [.sl none (encI s)] (.sl none (encW (wordsF s))) [] := by
  have w1 : IntKind.i64.wrap ((s.length : Int) + 1) = ((s.length + 1 : Nat) : Int) := by rw [wrap64] <;> omega
  refine pcK E0_ok mm (fn := Try.f55) (by kernel_rfl) (by kernel_rfl) (by kernel_rfl) [(8, 6, .reg 0)] (by kernel_rfl) [] (by rw [show Try.f55.ntmps = 1 + 35 by kernel_rfl]; exact Nat.le_add_right _ _) ?_
  intro T hl hx
  have a0 := hx 0 _ rfl
  clear hx
  simp only [bodyOf, Try.f55] at hl ⊢
  simp only [wB, E0_tys, bsI, slI, sliceI, sliceS, optI, appendI, srcI, chunk, fillI, fzParts, fzL, fz1, planAt, loadI, storeI, takeI, TK.agg, TK.known, cellsI, fillRow, okCell, bltI, builtinI, lenI, indexAddrI, fieldAddrI, fieldI, indexI, nilChkI, An.isImm, pureC, pure0, impI, impL, impC, cutO, An.imps, List.replicate, decide_true, decide_false, cond_true, cond_false, if_true, if_false, ite_true, ite_false, ne_eq, forall_const, eq_self, reduceCtorEq, reduceIte, Nat.reduceLT, Nat.reduceLeDiff, Nat.reduceAdd, Nat.reduceSub, Nat.reduceMul, Nat.reduceEqDiff, Nat.reduceBEq, Int.reduceLE, Int.reduceLT, Int.reduceToNat, Int.reduceEq, Int.reduceAdd, Int.reduceSub, Int.reduceMul, ty_3, tk_3, ty_36, tk_36, ty_88, tk_88, ty_4, tk_4, a0, hl, encI_len, w1]
  refine W_loop _ _ _ _ _ _ _ (fun T R => ∃ i : Nat, i ≤ s.length + 1 ∧ T.length = 36 ∧ getT T 0 = .sl none (encI s) ∧ getT T 4 = .i .i64 ((wordSt s i).2 : Int) ∧ getT T 8 = .i .i64 ((s.length + 1 : Nat) : Int) ∧ getT T 9 = .i .i64 (i : Int) ∧ Acc 36 1 0 (getT T 3) R (encW (wordSt s i).1))
    (fun T _ => s.length + 1 - (asI (getT T 9)).toNat) ⟨0, by omega, ?_⟩ ?_
  · simp only [wB, E0_tys, bsI, slI, sliceI, sliceS, optI, appendI, srcI, chunk, fillI, fzParts, fzL, fz1, planAt, loadI, storeI, takeI, TK.agg, TK.known, cellsI, fillRow, okCell, bltI, builtinI, lenI, indexAddrI, fieldAddrI, fieldI, indexI, nilChkI, An.isImm, pureC, pure0, impI, impL, impC, cutO, An.imps, List.replicate, decide_true, decide_false, cond_true, cond_false, if_true, if_false, ite_true, ite_false, ne_eq, forall_const, eq_self, reduceCtorEq, reduceIte, Nat.reduceLT, Nat.reduceLeDiff, Nat.reduceAdd, Nat.reduceSub, Nat.reduceMul, Nat.reduceEqDiff, Nat.reduceBEq, Int.reduceLE, Int.reduceLT, Int.reduceToNat, Int.reduceEq, Int.reduceAdd, Int.reduceSub, Int.reduceMul, ty_3, tk_3, ty_36, tk_36, ty_88, tk_88, ty_4, tk_4, a0, hl, wordSt]
    exact ⟨rfl, Acc.nil _ _ _ _⟩
  · clear hl a0
    rintro T R ⟨i, hi, hl, a0, a4, a8, a9, hacc⟩
    obtain ⟨k1, k2, k3⟩ := wordSt_ok s i hi
    have hst := wordSt_succ s i
    generalize hst0 : wordSt s i = st at *
    obtain ⟨ws, f⟩ := st
    dsimp only at a4 hacc k1 k2 k3
    simp only [wB, E0_tys, bsI, slI, sliceI, sliceS, optI, appendI, srcI, chunk, fillI, fzParts, fzL, fz1, planAt, loadI, storeI, takeI, TK.agg, TK.known, cellsI, fillRow, okCell, bltI, builtinI, lenI, indexAddrI, fieldAddrI, fieldI, indexI, nilChkI, An.isImm, pureC, pure0, impI, impL, impC, cutO, An.imps, List.replicate, decide_true, decide_false, cond_true, cond_false, if_true, if_false, ite_true, ite_false, ne_eq, forall_const, eq_self, reduceCtorEq, reduceIte, Nat.reduceLT, Nat.reduceLeDiff, Nat.reduceAdd, Nat.reduceSub, Nat.reduceMul, Nat.reduceEqDiff, Nat.reduceBEq, Int.reduceLE, Int.reduceLT, Int.reduceToNat, Int.reduceEq, Int.reduceAdd, Int.reduceSub, Int.reduceMul, ty_3, tk_3, ty_36, tk_36, ty_88, tk_88, ty_4, tk_4, a0, a4, a8, a9, hl, encI_len]
    refine condW_b _ _ _ _ (fun hq => ?_) (fun hq => ?_)
    · have hlt : i < s.length + 1 := by have := of_decide_eq_true hq; omega
      have u1 : IntKind.i64.wrap ((i : Int) + 1) = ((i + 1 : Nat) : Int) := by rw [wrap64] <;> omega
      have es : slI tysL 36 (.sl none (encI s)) (some (some f)) (some (some i)) (some none) R = some (.sl none (encI ((s.take i).drop f))) := by
        simp only [slI, sliceI, tk_36, ty_3, sliceS, encI_len, encI_all, Option.getD_some]
        rw [if_pos ⟨k1, by omega, trivial⟩, encI_take, encI_drop]
        rfl
      have happ : ∃ v1 R1, appI tysL (.reg 0) 88 88 (getT T 3) (.sl (some false) [[.sl none (encI ((s.take i).drop f))]]) R = some (v1, R1) ∧ Acc 36 1 0 v1 R1 (encW (ws ++ [(s.take i).drop f])) := by
        obtain ⟨v1, R1, e1, hacc1, o1, hR1⟩ := Acc.append (tys := tysL) (ts := 88) (tx := 88) (ei := ⟨.slice 3, 1, 24, [.sl (some true) []]⟩) (x := .sl (some false) [[.sl none (encI ((s.take i).drop f))]]) (new := [[.sl none (encI ((s.take i).drop f))]]) hacc tk_88 ty_36 ⟨_, tk_88⟩ rfl rfl (by decide) rfl (by decide) (by simp) (by rw [encW_len]; exact room_24 (by simp; omega))
        exact ⟨v1, R1, e1, by rw [← encW_app]; exact hacc1⟩
      obtain ⟨v1, R1, e1, hacc1⟩ := happ
      rcases Nat.lt_or_ge i s.length with hiN | hiN
      · have g1 : (i : Int) < (s.length : Int) := by omega
        cases hB : blankF s i with
        | false =>
          have hS : wordS s (ws, f) i = (ws, f) := by unfold wordS; rw [if_pos ⟨hiN, hB⟩]
          simp only [wB, E0_tys, bsI, optI, appendI, srcI, chunk, fillI, fzParts, fzL, fz1, planAt, loadI, storeI, takeI, TK.agg, TK.known, cellsI, fillRow, okCell, bltI, builtinI, lenI, indexAddrI, fieldAddrI, fieldI, indexI, nilChkI, An.isImm, pureC, pure0, impI, impL, impC, cutO, An.imps, List.replicate, decide_true, decide_false, cond_true, cond_false, if_true, if_false, ite_true, ite_false, ne_eq, forall_const, eq_self, reduceCtorEq, reduceIte, Nat.reduceLT, Nat.reduceLeDiff, Nat.reduceAdd, Nat.reduceSub, Nat.reduceMul, Nat.reduceEqDiff, Nat.reduceBEq, Int.reduceLE, Int.reduceLT, Int.reduceToNat, Int.reduceEq, Int.reduceAdd, Int.reduceSub, Int.reduceMul, ty_3, tk_3, ty_36, tk_36, ty_88, tk_88, ty_4, tk_4, a0, a4, a8, a9, hl, encI_len, g1]
          refine callPu0 (c71 s i hiN (by omega)) rfl rfl ?_
          simp only [wB, E0_tys, bsI, optI, appendI, srcI, chunk, fillI, fzParts, fzL, fz1, planAt, loadI, storeI, takeI, TK.agg, TK.known, cellsI, fillRow, okCell, bltI, builtinI, lenI, indexAddrI, fieldAddrI, fieldI, indexI, nilChkI, An.isImm, pureC, pure0, impI, impL, impC, cutO, An.imps, List.replicate, decide_true, decide_false, cond_true, cond_false, if_true, if_false, ite_true, ite_false, ne_eq, forall_const, eq_self, reduceCtorEq, reduceIte, Nat.reduceLT, Nat.reduceLeDiff, Nat.reduceAdd, Nat.reduceSub, Nat.reduceMul, Nat.reduceEqDiff, Nat.reduceBEq, Int.reduceLE, Int.reduceLT, Int.reduceToNat, Int.reduceEq, Int.reduceAdd, Int.reduceSub, Int.reduceMul, ty_3, tk_3, ty_36, tk_36, ty_88, tk_88, ty_4, tk_4, a0, a4, a8, a9, hl, hB, u1]
          exact ⟨⟨i + 1, by omega, by rw [hst, hS], rfl, by rw [hst, hS]; exact hacc⟩, by simp only [asI]; omega⟩
        | true =>
          by_cases hf : f < i
          · have hfi : (f : Int) < (i : Int) := by omega
            have hS : wordS s (ws, f) i = (ws ++ [(s.take i).drop f], i + 1) := by unfold wordS; rw [if_neg (by rw [hB]; simp)]; simp [hf]
            simp only [wB, E0_tys, bsI, optI, appendI, srcI, chunk, fillI, fzParts, fzL, fz1, planAt, loadI, storeI, takeI, TK.agg, TK.known, cellsI, fillRow, okCell, bltI, builtinI, lenI, indexAddrI, fieldAddrI, fieldI, indexI, nilChkI, An.isImm, pureC, pure0, impI, impL, impC, cutO, An.imps, List.replicate, decide_true, decide_false, cond_true, cond_false, if_true, if_false, ite_true, ite_false, ne_eq, forall_const, eq_self, reduceCtorEq, reduceIte, Nat.reduceLT, Nat.reduceLeDiff, Nat.reduceAdd, Nat.reduceSub, Nat.reduceMul, Nat.reduceEqDiff, Nat.reduceBEq, Int.reduceLE, Int.reduceLT, Int.reduceToNat, Int.reduceEq, Int.reduceAdd, Int.reduceSub, Int.reduceMul, ty_3, tk_3, ty_36, tk_36, ty_88, tk_88, ty_4, tk_4, a0, a4, a8, a9, hl, encI_len, g1]
            refine callPu0 (c71 s i hiN (by omega)) rfl rfl ?_
            simp only [wB, E0_tys, bsI, optI, appendI, srcI, chunk, fillI, fzParts, fzL, fz1, planAt, loadI, storeI, takeI, TK.agg, TK.known, cellsI, fillRow, okCell, bltI, builtinI, lenI, indexAddrI, fieldAddrI, fieldI, indexI, nilChkI, An.isImm, pureC, pure0, impI, impL, impC, cutO, An.imps, List.replicate, decide_true, decide_false, cond_true, cond_false, if_true, if_false, ite_true, ite_false, ne_eq, forall_const, eq_self, reduceCtorEq, reduceIte, Nat.reduceLT, Nat.reduceLeDiff, Nat.reduceAdd, Nat.reduceSub, Nat.reduceMul, Nat.reduceEqDiff, Nat.reduceBEq, Int.reduceLE, Int.reduceLT, Int.reduceToNat, Int.reduceEq, Int.reduceAdd, Int.reduceSub, Int.reduceMul, ty_3, tk_3, ty_36, tk_36, ty_88, tk_88, ty_4, tk_4, a0, a4, a8, a9, hl, hB, u1, hfi, es, e1]
            exact ⟨⟨i + 1, by omega, by rw [hst, hS], rfl, by rw [hst, hS]; exact hacc1⟩, by simp only [asI]; omega⟩
          · have hfi : ¬ (f : Int) < (i : Int) := by omega
            have hS : wordS s (ws, f) i = (ws, i + 1) := by unfold wordS; rw [if_neg (by rw [hB]; simp)]; simp [hf]
            simp only [wB, E0_tys, bsI, optI, appendI, srcI, chunk, fillI, fzParts, fzL, fz1, planAt, loadI, storeI, takeI, TK.agg, TK.known, cellsI, fillRow, okCell, bltI, builtinI, lenI, indexAddrI, fieldAddrI, fieldI, indexI, nilChkI, An.isImm, pureC, pure0, impI, impL, impC, cutO, An.imps, List.replicate, decide_true, decide_false, cond_true, cond_false, if_true, if_false, ite_true, ite_false, ne_eq, forall_const, eq_self, reduceCtorEq, reduceIte, Nat.reduceLT, Nat.reduceLeDiff, Nat.reduceAdd, Nat.reduceSub, Nat.reduceMul, Nat.reduceEqDiff, Nat.reduceBEq, Int.reduceLE, Int.reduceLT, Int.reduceToNat, Int.reduceEq, Int.reduceAdd, Int.reduceSub, Int.reduceMul, ty_3, tk_3, ty_36, tk_36, ty_88, tk_88, ty_4, tk_4, a0, a4, a8, a9, hl, encI_len, g1]
            refine callPu0 (c71 s i hiN (by omega)) rfl rfl ?_
            simp only [wB, E0_tys, bsI, optI, appendI, srcI, chunk, fillI, fzParts, fzL, fz1, planAt, loadI, storeI, takeI, TK.agg, TK.known, cellsI, fillRow, okCell, bltI, builtinI, lenI, indexAddrI, fieldAddrI, fieldI, indexI, nilChkI, An.isImm, pureC, pure0, impI, impL, impC, cutO, An.imps, List.replicate, decide_true, decide_false, cond_true, cond_false, if_true, if_false, ite_true, ite_false, ne_eq, forall_const, eq_self, reduceCtorEq, reduceIte, Nat.reduceLT, Nat.reduceLeDiff, Nat.reduceAdd, Nat.reduceSub, Nat.reduceMul, Nat.reduceEqDiff, Nat.reduceBEq, Int.reduceLE, Int.reduceLT, Int.reduceToNat, Int.reduceEq, Int.reduceAdd, Int.reduceSub, Int.reduceMul, ty_3, tk_3, ty_36, tk_36, ty_88, tk_88, ty_4, tk_4, a0, a4, a8, a9, hl, hB, u1, hfi]
            exact ⟨⟨i + 1, by omega, by rw [hst, hS], rfl, by rw [hst, hS]; exact hacc⟩, by simp only [asI]; omega⟩
      · have g1 : ¬ (i : Int) < (s.length : Int) := by omega
        by_cases hf : f < i
        · have hfi : (f : Int) < (i : Int) := by omega
          have hS : wordS s (ws, f) i = (ws ++ [(s.take i).drop f], i + 1) := by unfold wordS; rw [if_neg (by omega)]; simp [hf]
          simp only [wB, E0_tys, bsI, optI, appendI, srcI, chunk, fillI, fzParts, fzL, fz1, planAt, loadI, storeI, takeI, TK.agg, TK.known, cellsI, fillRow, okCell, bltI, builtinI, lenI, indexAddrI, fieldAddrI, fieldI, indexI, nilChkI, An.isImm, pureC, pure0, impI, impL, impC, cutO, An.imps, List.replicate, decide_true, decide_false, cond_true, cond_false, if_true, if_false, ite_true, ite_false, ne_eq, forall_const, eq_self, reduceCtorEq, reduceIte, Nat.reduceLT, Nat.reduceLeDiff, Nat.reduceAdd, Nat.reduceSub, Nat.reduceMul, Nat.reduceEqDiff, Nat.reduceBEq, Int.reduceLE, Int.reduceLT, Int.reduceToNat, Int.reduceEq, Int.reduceAdd, Int.reduceSub, Int.reduceMul, ty_3, tk_3, ty_36, tk_36, ty_88, tk_88, ty_4, tk_4, a0, a4, a8, a9, hl, encI_len, g1, u1, hfi, es, e1]
          exact ⟨⟨i + 1, by omega, by rw [hst, hS], rfl, by rw [hst, hS]; exact hacc1⟩, by simp only [asI]; omega⟩
        · have hfi : ¬ (f : Int) < (i : Int) := by omega
          have hS : wordS s (ws, f) i = (ws, i + 1) := by unfold wordS; rw [if_neg (by omega)]; simp [hf]
          simp only [wB, E0_tys, bsI, optI, appendI, srcI, chunk, fillI, fzParts, fzL, fz1, planAt, loadI, storeI, takeI, TK.agg, TK.known, cellsI, fillRow, okCell, bltI, builtinI, lenI, indexAddrI, fieldAddrI, fieldI, indexI, nilChkI, An.isImm, pureC, pure0, impI, impL, impC, cutO, An.imps, List.replicate, decide_true, decide_false, cond_true, cond_false, if_true, if_false, ite_true, ite_false, ne_eq, forall_const, eq_self, reduceCtorEq, reduceIte, Nat.reduceLT, Nat.reduceLeDiff, Nat.reduceAdd, Nat.reduceSub, Nat.reduceMul, Nat.reduceEqDiff, Nat.reduceBEq, Int.reduceLE, Int.reduceLT, Int.reduceToNat, Int.reduceEq, Int.reduceAdd, Int.reduceSub, Int.reduceMul, ty_3, tk_3, ty_36, tk_36, ty_88, tk_88, ty_4, tk_4, a0, a4, a8, a9, hl, encI_len, g1, u1, hfi]
          exact ⟨⟨i + 1, by omega, by rw [hst, hS], rfl, by rw [hst, hS]; exact hacc⟩, by simp only [asI]; omega⟩
    · have he : i = s.length + 1 := by have := of_decide_eq_false hq; omega
      subst he
      simp only [wB, E0_tys, bsI, slI, sliceI, sliceS, optI, appendI, srcI, chunk, fillI, fzParts, fzL, fz1, planAt, loadI, storeI, takeI, TK.agg, TK.known, cellsI, fillRow, okCell, bltI, builtinI, lenI, indexAddrI, fieldAddrI, fieldI, indexI, nilChkI, An.isImm, pureC, pure0, impI, impL, impC, cutO, An.imps, List.replicate, decide_true, decide_false, cond_true, cond_false, if_true, if_false, ite_true, ite_false, ne_eq, forall_const, eq_self, reduceCtorEq, reduceIte, Nat.reduceLT, Nat.reduceLeDiff, Nat.reduceAdd, Nat.reduceSub, Nat.reduceMul, Nat.reduceEqDiff, Nat.reduceBEq, Int.reduceLE, Int.reduceLT, Int.reduceToNat, Int.reduceEq, Int.reduceAdd, Int.reduceSub, Int.reduceMul, ty_3, tk_3, ty_36, tk_36, ty_88, tk_88, ty_4, tk_4, hl]
      have e : wordsF s = ws := by unfold wordsF; rw [hst0]
      rw [e]
      exact hacc.out
end Go.Proofs
set_option maxRecDepth 100000
set_option maxHeartbeats 8000000
set_option linter.unusedVariables false
set_option linter.unusedSimpArgs false
namespace Go.Proofs
open Go.Iv
def joinW : Nat → List (List Int) → List Int
  | _, [] => []
  | k, w :: ws => (if 0 < k then [32, 32] else []) ++ (w ++ joinW (k + 1) ws)
def spacesF (ws : List (List Int)) (rule : Int) : List Int :=
  if rule = 3 then catS (ws.map fun w => (none, w)) else if ws.length = 0 then [32, 32] else [32] ++ joinW 0 ws ++ [32]
theorem encW_at {ws : List (List Int)} {k : Nat} {w : List Int} (h : ws[k]? = some w) : (encW ws).getD k [] = [.sl none (encI w)] := getD_enc h
theorem joinW_len : ∀ (ws : List (List Int)) (k : Nat), (joinW k ws).length ≤ lenW ws + 2 * ws.length
  | [], k => by simp [joinW]
  | w :: ws, k => by
    have := joinW_len ws (k + 1)
    simp only [joinW, List.length_append, lenW, List.map_cons, lenS, List.length_cons] at this ⊢
    split <;> simp <;> omega
theorem c35 (s : List Int) (rule : Int) (hx : s.length ≤ 200000) : PC Try.prog true 35 [.sl none (encI s), .i .i64 rule] (.sl none (encI (spacesF (wordsF s) rule))) [] := by
  obtain ⟨hw1, hw2⟩ := wordsF_len s
  have k55 := c55 s (by omega)
  have k56 := c56 none ((wordsF s).map fun w => (none, w)) (by simp; omega) (by unfold lenW at hw2; omega)
  rw [← encW_S] at k56
  generalize wordsF s = ws at *
  by_cases hr : rule = 3
  · have hS : spacesF ws rule = catS (ws.map fun w => (none, w)) := by unfold spacesF; rw [if_pos hr]
    rw [hS]
    refine pcK E0_ok mm (fn := Try.f35) (by kernel_rfl) (by kernel_rfl) (by kernel_rfl) [(6, 0, .reg 0), (11, 2, .reg 0), (12, 2, .reg 0), (14, 2, .reg 0)] (by kernel_rfl) [] (by rw [show Try.f35.ntmps = 2 + 39 by kernel_rfl]; exact Nat.le_add_right _ _) ?_
    intro T hl hx
    have a0 := hx 0 _ rfl
    have a1 := hx 1 _ rfl
    clear hx
    simp only [bodyOf, Try.f35] at hl ⊢
    simp only [wB, E0_tys, appI, bsI, slI, sliceI, sliceS, optI, appendI, srcI, chunk, fillI, fzParts, fzL, fz1, planAt, loadI, storeI, takeI, TK.agg, TK.known, cellsI, fillRow, okCell, bltI, builtinI, lenI, indexAddrI, fieldAddrI, fieldI, indexI, nilChkI, An.isImm, pureC, pure0, impI, impL, impC, cutO, An.imps, List.replicate, decide_true, decide_false, cond_true, cond_false, if_true, if_false, ite_true, ite_false, ne_eq, forall_const, eq_self, reduceCtorEq, reduceIte, Nat.reduceLT, Nat.reduceLeDiff, Nat.reduceAdd, Nat.reduceSub, Nat.reduceMul, Nat.reduceEqDiff, Nat.reduceBEq, Int.reduceLE, Int.reduceLT, Int.reduceToNat, Int.reduceEq, Int.reduceAdd, Int.reduceSub, Int.reduceMul, ty_3, tk_3, ty_36, tk_36, ty_88, tk_88, ty_4, tk_4, a0, a1, hl]
    refine callPu0 k55 rfl rfl ?_
    simp only [wB, E0_tys, appI, bsI, slI, sliceI, sliceS, optI, appendI, srcI, chunk, fillI, fzParts, fzL, fz1, planAt, loadI, storeI, takeI, TK.agg, TK.known, cellsI, fillRow, okCell, bltI, builtinI, lenI, indexAddrI, fieldAddrI, fieldI, indexI, nilChkI, An.isImm, pureC, pure0, impI, impL, impC, cutO, An.imps, List.replicate, decide_true, decide_false, cond_true, cond_false, if_true, if_false, ite_true, ite_false, ne_eq, forall_const, eq_self, reduceCtorEq, reduceIte, Nat.reduceLT, Nat.reduceLeDiff, Nat.reduceAdd, Nat.reduceSub, Nat.reduceMul, Nat.reduceEqDiff, Nat.reduceBEq, Int.reduceLE, Int.reduceLT, Int.reduceToNat, Int.reduceEq, Int.reduceAdd, Int.reduceSub, Int.reduceMul, ty_3, tk_3, ty_36, tk_36, ty_88, tk_88, ty_4, tk_4, a0, a1, hl, hr]
    refine callPu0 k56 rfl rfl ?_
    simp only [wB, E0_tys, appI, bsI, slI, sliceI, sliceS, optI, appendI, srcI, chunk, fillI, fzParts, fzL, fz1, planAt, loadI, storeI, takeI, TK.agg, TK.known, cellsI, fillRow, okCell, bltI, builtinI, lenI, indexAddrI, fieldAddrI, fieldI, indexI, nilChkI, An.isImm, pureC, pure0, impI, impL, impC, cutO, An.imps, List.replicate, decide_true, decide_false, cond_true, cond_false, if_true, if_false, ite_true, ite_false, ne_eq, forall_const, eq_self, reduceCtorEq, reduceIte, Nat.reduceLT, Nat.reduceLeDiff, Nat.reduceAdd, Nat.reduceSub, Nat.reduceMul, Nat.reduceEqDiff, Nat.reduceBEq, Int.reduceLE, Int.reduceLT, Int.reduceToNat, Int.reduceEq, Int.reduceAdd, Int.reduceSub, Int.reduceMul, ty_3, tk_3, ty_36, tk_36, ty_88, tk_88, ty_4, tk_4, hl]
    exact ⟨_, rfl, Wk.rfl' _⟩
  · by_cases h0 : ws.length = 0
    · have h0i : ((ws.length : Nat) : Int) = 0 := by omega
      have hS : spacesF ws rule = [32, 32] := by unfold spacesF; rw [if_neg hr, if_pos h0]
      rw [hS]
      refine pcK E0_ok mm (fn := Try.f35) (by kernel_rfl) (by kernel_rfl) (by kernel_rfl) [(6, 0, .reg 0), (11, 2, .reg 0), (12, 2, .reg 0), (14, 2, .reg 0)] (by kernel_rfl) [] (by rw [show Try.f35.ntmps = 2 + 39 by kernel_rfl]; exact Nat.le_add_right _ _) ?_
      intro T hl hx
      have a0 := hx 0 _ rfl
      have a1 := hx 1 _ rfl
      clear hx
      simp only [bodyOf, Try.f35] at hl ⊢
      simp only [wB, E0_tys, appI, bsI, slI, sliceI, sliceS, optI, appendI, srcI, chunk, fillI, fzParts, fzL, fz1, planAt, loadI, storeI, takeI, TK.agg, TK.known, cellsI, fillRow, okCell, bltI, builtinI, lenI, indexAddrI, fieldAddrI, fieldI, indexI, nilChkI, An.isImm, pureC, pure0, impI, impL, impC, cutO, An.imps, List.replicate, decide_true, decide_false, cond_true, cond_false, if_true, if_false, ite_true, ite_false, ne_eq, forall_const, eq_self, reduceCtorEq, reduceIte, Nat.reduceLT, Nat.reduceLeDiff, Nat.reduceAdd, Nat.reduceSub, Nat.reduceMul, Nat.reduceEqDiff, Nat.reduceBEq, Int.reduceLE, Int.reduceLT, Int.reduceToNat, Int.reduceEq, Int.reduceAdd, Int.reduceSub, Int.reduceMul, ty_3, tk_3, ty_36, tk_36, ty_88, tk_88, ty_4, tk_4, a0, a1, hl]
      refine callPu0 k55 rfl rfl ?_
      simp only [wB, E0_tys, appI, bsI, slI, sliceI, sliceS, optI, appendI, srcI, chunk, fillI, fzParts, fzL, fz1, planAt, loadI, storeI, takeI, TK.agg, TK.known, cellsI, fillRow, okCell, bltI, builtinI, lenI, indexAddrI, fieldAddrI, fieldI, indexI, nilChkI, An.isImm, pureC, pure0, impI, impL, impC, cutO, An.imps, List.replicate, decide_true, decide_false, cond_true, cond_false, if_true, if_false, ite_true, ite_false, ne_eq, forall_const, eq_self, reduceCtorEq, reduceIte, Nat.reduceLT, Nat.reduceLeDiff, Nat.reduceAdd, Nat.reduceSub, Nat.reduceMul, Nat.reduceEqDiff, Nat.reduceBEq, Int.reduceLE, Int.reduceLT, Int.reduceToNat, Int.reduceEq, Int.reduceAdd, Int.reduceSub, Int.reduceMul, ty_3, tk_3, ty_36, tk_36, ty_88, tk_88, ty_4, tk_4, a0, a1, hl, hr, encW_len, h0i]
      exact ⟨_, rfl, Wk.sl (some false) [[.i .i64 32], [.i .i64 32]]⟩
    · have h0i : ¬ ((ws.length : Nat) : Int) = 0 := by omega
      have hS : spacesF ws rule = [32] ++ joinW 0 ws ++ [32] := by unfold spacesF; rw [if_neg hr, if_neg h0]
      have hjl := joinW_len ws 0
      rw [hS]
      refine pcK E0_ok mm (fn := Try.f35) (by kernel_rfl) (by kernel_rfl) (by kernel_rfl) [(6, 0, .reg 0), (11, 2, .reg 0), (12, 2, .reg 0), (14, 2, .reg 0)] (by kernel_rfl) [] (by rw [show Try.f35.ntmps = 2 + 39 by kernel_rfl]; exact Nat.le_add_right _ _) ?_
      intro T hl hx
      have a0 := hx 0 _ rfl
      have a1 := hx 1 _ rfl
      clear hx
      simp only [bodyOf, Try.f35] at hl ⊢
      simp only [wB, E0_tys, bsI, slI, sliceI, sliceS, optI, appendI, srcI, chunk, fillI, fzParts, fzL, fz1, planAt, loadI, storeI, takeI, TK.agg, TK.known, cellsI, fillRow, okCell, bltI, builtinI, lenI, indexAddrI, fieldAddrI, fieldI, indexI, nilChkI, An.isImm, pureC, pure0, impI, impL, impC, cutO, An.imps, List.replicate, decide_true, decide_false, cond_true, cond_false, if_true, if_false, ite_true, ite_false, ne_eq, forall_const, eq_self, reduceCtorEq, reduceIte, Nat.reduceLT, Nat.reduceLeDiff, Nat.reduceAdd, Nat.reduceSub, Nat.reduceMul, Nat.reduceEqDiff, Nat.reduceBEq, Int.reduceLE, Int.reduceLT, Int.reduceToNat, Int.reduceEq, Int.reduceAdd, Int.reduceSub, Int.reduceMul, ty_3, tk_3, ty_36, tk_36, ty_88, tk_88, ty_4, tk_4, a0, a1, hl]
      refine callPu0 k55 rfl rfl ?_
      simp only [wB, E0_tys, bsI, slI, sliceI, sliceS, optI, appendI, srcI, chunk, fillI, fzParts, fzL, fz1, planAt, loadI, storeI, takeI, TK.agg, TK.known, cellsI, fillRow, okCell, bltI, builtinI, lenI, indexAddrI, fieldAddrI, fieldI, indexI, nilChkI, An.isImm, pureC, pure0, impI, impL, impC, cutO, An.imps, List.replicate, decide_true, decide_false, cond_true, cond_false, if_true, if_false, ite_true, ite_false, ne_eq, forall_const, eq_self, reduceCtorEq, reduceIte, Nat.reduceLT, Nat.reduceLeDiff, Nat.reduceAdd, Nat.reduceSub, Nat.reduceMul, Nat.reduceEqDiff, Nat.reduceBEq, Int.reduceLE, Int.reduceLT, Int.reduceToNat, Int.reduceEq, Int.reduceAdd, Int.reduceSub, Int.reduceMul, ty_3, tk_3, ty_36, tk_36, ty_88, tk_88, ty_4, tk_4, a0, a1, hl, hr, encW_len, h0i]
      refine W_loop _ _ _ _ _ _ _ (fun T R => ∃ (k : Nat) (out : List Int), k ≤ ws.length ∧ T.length = 41 ∧ getT T 22 = .sl none (encW ws) ∧ getT T 23 = .i .i64 (ws.length : Int) ∧ getT T 24 = .i .i64 (k : Int) ∧ Acc 3 1 0 (getT T 6) R (encI out) ∧ out ++ joinW k (ws.drop k) = [32] ++ joinW 0 ws)
        (fun T _ => ws.length - (asI (getT T 24)).toNat) ⟨0, [32], Nat.zero_le _, ?_⟩ ?_
      · simp only [wB, E0_tys, bsI, slI, sliceI, sliceS, optI, appendI, srcI, chunk, fillI, fzParts, fzL, fz1, planAt, loadI, storeI, takeI, TK.agg, TK.known, cellsI, fillRow, okCell, bltI, builtinI, lenI, indexAddrI, fieldAddrI, fieldI, indexI, nilChkI, An.isImm, pureC, pure0, impI, impL, impC, cutO, An.imps, List.replicate, decide_true, decide_false, cond_true, cond_false, if_true, if_false, ite_true, ite_false, ne_eq, forall_const, eq_self, reduceCtorEq, reduceIte, Nat.reduceLT, Nat.reduceLeDiff, Nat.reduceAdd, Nat.reduceSub, Nat.reduceMul, Nat.reduceEqDiff, Nat.reduceBEq, Int.reduceLE, Int.reduceLT, Int.reduceToNat, Int.reduceEq, Int.reduceAdd, Int.reduceSub, Int.reduceMul, ty_3, tk_3, ty_36, tk_36, ty_88, tk_88, ty_4, tk_4, hl, encW_len]
        exact .inr ⟨_, rfl, lr_new _ _ _⟩
      · clear hl a0 a1
        rintro T R ⟨k, out, hk, hl, a22, a23, a24, hacc, hout⟩
        have hol := congrArg List.length hout
        simp only [List.length_append, List.length_cons, List.length_nil] at hol
        simp only [wB, E0_tys, bsI, slI, sliceI, sliceS, optI, appendI, srcI, chunk, fillI, fzParts, fzL, fz1, planAt, loadI, storeI, takeI, TK.agg, TK.known, cellsI, fillRow, okCell, bltI, builtinI, lenI, indexAddrI, fieldAddrI, fieldI, indexI, nilChkI, An.isImm, pureC, pure0, impI, impL, impC, cutO, An.imps, List.replicate, decide_true, decide_false, cond_true, cond_false, if_true, if_false, ite_true, ite_false, ne_eq, forall_const, eq_self, reduceCtorEq, reduceIte, Nat.reduceLT, Nat.reduceLeDiff, Nat.reduceAdd, Nat.reduceSub, Nat.reduceMul, Nat.reduceEqDiff, Nat.reduceBEq, Int.reduceLE, Int.reduceLT, Int.reduceToNat, Int.reduceEq, Int.reduceAdd, Int.reduceSub, Int.reduceMul, ty_3, tk_3, ty_36, tk_36, ty_88, tk_88, ty_4, tk_4, a22, a23, a24, hl]
        refine condW_b _ _ _ _ (fun hq => ?_) (fun hq => ?_)
        · have hk2 : k < ws.length := by simpa using hq
          obtain ⟨w, hw⟩ := at_lt hk2
          have hwr : IntKind.i64.wrap ((k : Int) + 1) = ((k + 1 : Nat) : Int) := by rw [wrap64] <;> omega
          rw [drop_at hw] at hout hol
          simp only [joinW, List.length_append] at hol
          by_cases hk0 : 0 < k
          · have hk0i : (0 : Int) < (k : Int) := by omega
            rw [if_pos hk0] at hol
            simp only [List.length_cons, List.length_nil] at hol
            obtain ⟨v1, R1, e1, hacc1, o1, hR1⟩ := acc_appL hacc (some false) [32, 32] (by simp; omega)
            have e1' : appI tysL (.reg 0) 36 36 (getT T 6) (.sl (some false) [[.i .i64 32], [.i .i64 32]]) R = some (v1, R1) := e1
            obtain ⟨v2, R2, e2, hacc2, o2, hR2⟩ := acc_appL hacc1 none w (by simp; omega)
            simp only [wB, E0_tys, bsI, slI, sliceI, sliceS, optI, appendI, srcI, chunk, fillI, fzParts, fzL, fz1, planAt, loadI, storeI, takeI, TK.agg, TK.known, cellsI, fillRow, okCell, bltI, builtinI, lenI, indexAddrI, fieldAddrI, fieldI, indexI, nilChkI, An.isImm, pureC, pure0, impI, impL, impC, cutO, An.imps, List.replicate, decide_true, decide_false, cond_true, cond_false, if_true, if_false, ite_true, ite_false, ne_eq, forall_const, eq_self, reduceCtorEq, reduceIte, Nat.reduceLT, Nat.reduceLeDiff, Nat.reduceAdd, Nat.reduceSub, Nat.reduceMul, Nat.reduceEqDiff, Nat.reduceBEq, Int.reduceLE, Int.reduceLT, Int.reduceToNat, Int.reduceEq, Int.reduceAdd, Int.reduceSub, Int.reduceMul, ty_3, tk_3, ty_36, tk_36, ty_88, tk_88, ty_4, tk_4, a22, a23, a24, hl, encW_len, hk2, encW_at hw, hk0i, e1', e2, hwr]
            refine ⟨⟨k + 1, _, hk2, rfl, hacc2, ?_⟩, by simp only [asI]; omega⟩
            refine Eq.trans ?_ hout
            simp [joinW, hk0]
          · have hk0i : ¬ (0 : Int) < (k : Int) := by omega
            obtain ⟨v2, R2, e2, hacc2, o2, hR2⟩ := acc_appL hacc none w (by omega)
            simp only [wB, E0_tys, bsI, slI, sliceI, sliceS, optI, appendI, srcI, chunk, fillI, fzParts, fzL, fz1, planAt, loadI, storeI, takeI, TK.agg, TK.known, cellsI, fillRow, okCell, bltI, builtinI, lenI, indexAddrI, fieldAddrI, fieldI, indexI, nilChkI, An.isImm, pureC, pure0, impI, impL, impC, cutO, An.imps, List.replicate, decide_true, decide_false, cond_true, cond_false, if_true, if_false, ite_true, ite_false, ne_eq, forall_const, eq_self, reduceCtorEq, reduceIte, Nat.reduceLT, Nat.reduceLeDiff, Nat.reduceAdd, Nat.reduceSub, Nat.reduceMul, Nat.reduceEqDiff, Nat.reduceBEq, Int.reduceLE, Int.reduceLT, Int.reduceToNat, Int.reduceEq, Int.reduceAdd, Int.reduceSub, Int.reduceMul, ty_3, tk_3, ty_36, tk_36, ty_88, tk_88, ty_4, tk_4, a22, a23, a24, hl, encW_len, hk2, encW_at hw, hk0i, e2, hwr]
            refine ⟨⟨k + 1, _, hk2, rfl, hacc2, ?_⟩, by simp only [asI]; omega⟩
            refine Eq.trans ?_ hout
            simp [joinW, hk0]
        · have hk2 : k = ws.length := by have := of_decide_eq_false hq; omega
          subst hk2
          rw [List.drop_length] at hout hol
          simp only [joinW, List.append_nil] at hout
          simp only [joinW, List.length_nil] at hol
          obtain ⟨v1, R1, e1, hacc1, o1, hR1⟩ := acc_app1 hacc 32 (by omega)
          simp only [wB, E0_tys, bsI, slI, sliceI, sliceS, optI, appendI, srcI, chunk, fillI, fzParts, fzL, fz1, planAt, loadI, storeI, takeI, TK.agg, TK.known, cellsI, fillRow, okCell, bltI, builtinI, lenI, indexAddrI, fieldAddrI, fieldI, indexI, nilChkI, An.isImm, pureC, pure0, impI, impL, impC, cutO, An.imps, List.replicate, decide_true, decide_false, cond_true, cond_false, if_true, if_false, ite_true, ite_false, ne_eq, forall_const, eq_self, reduceCtorEq, reduceIte, Nat.reduceLT, Nat.reduceLeDiff, Nat.reduceAdd, Nat.reduceSub, Nat.reduceMul, Nat.reduceEqDiff, Nat.reduceBEq, Int.reduceLE, Int.reduceLT, Int.reduceToNat, Int.reduceEq, Int.reduceAdd, Int.reduceSub, Int.reduceMul, ty_3, tk_3, ty_36, tk_36, ty_88, tk_88, ty_4, tk_4, a22, a23, a24, hl, e1]
          rw [hout] at hacc1
          exact hacc1.out
/-- Numbers, put in order: some order, which the program has (its sort is shown to end, and to keep what there is). -/
theorem put_ex (s : List Int) (hx : s.length ≤ 1000000) : ∃ ys : List Int, ys.Perm s ∧ PC Try.prog true 61 [.sl none (encI s)] (.sl none (encI ys)) [] := by
  obtain ⟨y, Rr, ⟨ys, h1, h2, h3⟩, h4⟩ := c61 none s (fun e => by cases e) hx
  subst h2; subst h3
  exact ⟨ys, h1, h4⟩
noncomputable def putF (s : List Int) : List Int := open Classical in if h : s.length ≤ 1000000 then Classical.choose (put_ex s h) else s
theorem c61' (s : List Int) (hx : s.length ≤ 1000000) : PC Try.prog true 61 [.sl none (encI s)] (.sl none (encI (putF s))) [] := by
  unfold putF
  rw [dif_pos hx]
  exact (Classical.choose_spec (put_ex s hx)).2
theorem putF_perm (s : List Int) : (putF s).Perm s := by
  unfold putF
  split
  · rename_i hx; exact (Classical.choose_spec (put_ex s hx)).1
  · exact List.Perm.refl _
noncomputable def apartF (s : List Int) (k : Bool) : List Int := putF (allF s k)
theorem apartF_len (s : List Int) (k : Bool) : (apartF s k).length ≤ 4 * s.length := by
  unfold apartF
  rw [(putF_perm _).length_eq]
  exact allF_len s k
theorem c46 (s : List Int) (k : Bool) (hx : s.length ≤ 100000) : PC Try.prog true 46 [.sl none (encI s), .b k] (.sl none (encI (apartF s k))) [] := by
  have hl0 := allF_len s k
  refine pcW E0_ok mm (fn := Try.f46) (by kernel_rfl) (by kernel_rfl) (by kernel_rfl) [] (by kernel_rfl) [] (by rw [show Try.f46.ntmps = 2 + 7 by kernel_rfl]; exact Nat.le_add_right _ _) ?_
  intro T hl hx
  have a0 := hx 0 _ rfl
  have a1 := hx 1 _ rfl
  clear hx
  simp only [bodyOf, Try.f46] at hl ⊢
  simp only [wB, E0_tys, appI, bsI, slI, sliceI, sliceS, optI, appendI, srcI, chunk, fillI, fzParts, fzL, fz1, planAt, loadI, storeI, takeI, TK.agg, TK.known, cellsI, fillRow, okCell, bltI, builtinI, lenI, indexAddrI, fieldAddrI, fieldI, indexI, nilChkI, An.isImm, pureC, pure0, impI, impL, impC, cutO, An.imps, List.replicate, decide_true, decide_false, cond_true, cond_false, if_true, if_false, ite_true, ite_false, ne_eq, forall_const, eq_self, reduceCtorEq, reduceIte, Nat.reduceLT, Nat.reduceLeDiff, Nat.reduceAdd, Nat.reduceSub, Nat.reduceMul, Nat.reduceEqDiff, Nat.reduceBEq, Int.reduceLE, Int.reduceLT, Int.reduceToNat, Int.reduceEq, Int.reduceAdd, Int.reduceSub, Int.reduceMul, ty_3, tk_3, ty_36, tk_36, ty_4, tk_4, a0, a1, hl]
  refine callPu0 (c62 none s k hx) rfl rfl ?_
  simp only [wB, E0_tys, appI, bsI, slI, sliceI, sliceS, optI, appendI, srcI, chunk, fillI, fzParts, fzL, fz1, planAt, loadI, storeI, takeI, TK.agg, TK.known, cellsI, fillRow, okCell, bltI, builtinI, lenI, indexAddrI, fieldAddrI, fieldI, indexI, nilChkI, An.isImm, pureC, pure0, impI, impL, impC, cutO, An.imps, List.replicate, decide_true, decide_false, cond_true, cond_false, if_true, if_false, ite_true, ite_false, ne_eq, forall_const, eq_self, reduceCtorEq, reduceIte, Nat.reduceLT, Nat.reduceLeDiff, Nat.reduceAdd, Nat.reduceSub, Nat.reduceMul, Nat.reduceEqDiff, Nat.reduceBEq, Int.reduceLE, Int.reduceLT, Int.reduceToNat, Int.reduceEq, Int.reduceAdd, Int.reduceSub, Int.reduceMul, ty_3, tk_3, ty_36, tk_36, ty_4, tk_4, hl]
  refine callPu0 (c61' (allF s k) (by omega)) rfl rfl ?_
  simp only [wB, E0_tys, appI, bsI, slI, sliceI, sliceS, optI, appendI, srcI, chunk, fillI, fzParts, fzL, fz1, planAt, loadI, storeI, takeI, TK.agg, TK.known, cellsI, fillRow, okCell, bltI, builtinI, lenI, indexAddrI, fieldAddrI, fieldI, indexI, nilChkI, An.isImm, pureC, pure0, impI, impL, impC, cutO, An.imps, List.replicate, decide_true, decide_false, cond_true, cond_false, if_true, if_false, ite_true, ite_false, ne_eq, forall_const, eq_self, reduceCtorEq, reduceIte, Nat.reduceLT, Nat.reduceLeDiff, Nat.reduceAdd, Nat.reduceSub, Nat.reduceMul, Nat.reduceEqDiff, Nat.reduceBEq, Int.reduceLE, Int.reduceLT, Int.reduceToNat, Int.reduceEq, Int.reduceAdd, Int.reduceSub, Int.reduceMul, ty_3, tk_3, ty_36, tk_36, ty_4, tk_4, hl]
  rfl
noncomputable def formF (s : List Int) (k : Bool) : List Int := cmpF (apartF s k)
theorem cmpF_len (s : List Int) : (cmpF s).length ≤ s.length := by
  have := (okS_fold s s.length (Nat.le_refl _)).1
  rw [List.take_length] at this
  exact this
theorem formF_len (s : List Int) (k : Bool) : (formF s k).length ≤ 4 * s.length := Nat.le_trans (cmpF_len _) (apartF_len s k)
theorem c32 (s : List Int) (k : Bool) (hx : s.length ≤ 100000) : PC Try.prog true 32 [.sl none (encI s), .b k] (.sl none (encI (formF s k))) [] := by
  have hl0 := apartF_len s k
  refine pcW E0_ok mm (fn := Try.f32) (by kernel_rfl) (by kernel_rfl) (by kernel_rfl) [] (by kernel_rfl) [] (by rw [show Try.f32.ntmps = 2 + 7 by kernel_rfl]; exact Nat.le_add_right _ _) ?_
  intro T hl hx
  have a0 := hx 0 _ rfl
  have a1 := hx 1 _ rfl
  clear hx
  simp only [bodyOf, Try.f32] at hl ⊢
  simp only [wB, E0_tys, appI, bsI, slI, sliceI, sliceS, optI, appendI, srcI, chunk, fillI, fzParts, fzL, fz1, planAt, loadI, storeI, takeI, TK.agg, TK.known, cellsI, fillRow, okCell, bltI, builtinI, lenI, indexAddrI, fieldAddrI, fieldI, indexI, nilChkI, An.isImm, pureC, pure0, impI, impL, impC, cutO, An.imps, List.replicate, decide_true, decide_false, cond_true, cond_false, if_true, if_false, ite_true, ite_false, ne_eq, forall_const, eq_self, reduceCtorEq, reduceIte, Nat.reduceLT, Nat.reduceLeDiff, Nat.reduceAdd, Nat.reduceSub, Nat.reduceMul, Nat.reduceEqDiff, Nat.reduceBEq, Int.reduceLE, Int.reduceLT, Int.reduceToNat, Int.reduceEq, Int.reduceAdd, Int.reduceSub, Int.reduceMul, ty_3, tk_3, ty_36, tk_36, ty_4, tk_4, a0, a1, hl]
  refine callPu0 (c46 s k hx) rfl rfl ?_
  simp only [wB, E0_tys, appI, bsI, slI, sliceI, sliceS, optI, appendI, srcI, chunk, fillI, fzParts, fzL, fz1, planAt, loadI, storeI, takeI, TK.agg, TK.known, cellsI, fillRow, okCell, bltI, builtinI, lenI, indexAddrI, fieldAddrI, fieldI, indexI, nilChkI, An.isImm, pureC, pure0, impI, impL, impC, cutO, An.imps, List.replicate, decide_true, decide_false, cond_true, cond_false, if_true, if_false, ite_true, ite_false, ne_eq, forall_const, eq_self, reduceCtorEq, reduceIte, Nat.reduceLT, Nat.reduceLeDiff, Nat.reduceAdd, Nat.reduceSub, Nat.reduceMul, Nat.reduceEqDiff, Nat.reduceBEq, Int.reduceLE, Int.reduceLT, Int.reduceToNat, Int.reduceEq, Int.reduceAdd, Int.reduceSub, Int.reduceMul, ty_3, tk_3, ty_36, tk_36, ty_4, tk_4, hl]
  refine callPu0 (c45 none (apartF s k) (by omega)) rfl rfl ?_
  simp only [wB, E0_tys, appI, bsI, slI, sliceI, sliceS, optI, appendI, srcI, chunk, fillI, fzParts, fzL, fz1, planAt, loadI, storeI, takeI, TK.agg, TK.known, cellsI, fillRow, okCell, bltI, builtinI, lenI, indexAddrI, fieldAddrI, fieldI, indexI, nilChkI, An.isImm, pureC, pure0, impI, impL, impC, cutO, An.imps, List.replicate, decide_true, decide_false, cond_true, cond_false, if_true, if_false, ite_true, ite_false, ne_eq, forall_const, eq_self, reduceCtorEq, reduceIte, Nat.reduceLT, Nat.reduceLeDiff, Nat.reduceAdd, Nat.reduceSub, Nat.reduceMul, Nat.reduceEqDiff, Nat.reduceBEq, Int.reduceLE, Int.reduceLT, Int.reduceToNat, Int.reduceEq, Int.reduceAdd, Int.reduceSub, Int.reduceMul, ty_3, tk_3, ty_36, tk_36, ty_4, tk_4, hl]
  rfl
theorem lenW_cat (ws : List (List Int)) : (catS (ws.map fun w => (none, w))).length = lenW ws := catS_len _
theorem spacesF_len (s : List Int) (rule : Int) : (spacesF (wordsF s) rule).length ≤ 3 * s.length + 8 := by
  obtain ⟨hw1, hw2⟩ := wordsF_len s
  have := joinW_len (wordsF s) 0
  unfold spacesF
  split
  · rw [lenW_cat]; omega
  · split
    · simp
    · simp; omega
noncomputable def prepF (s : List Int) (rule : Int) : Option (List Int) :=
  if ¬ rule = 1 ∧ ¬ rule = 2 ∧ ¬ rule = 3 then none
  else if (formF (mapF rule s) true).any badF = true then none else some (spacesF (wordsF (formF (mapF rule s) true)) rule)
def prepV : Option (List Int) → IV
  | none => .sl (some true) []
  | some l => .sl none (encI l)
theorem prepF_len {s l : List Int} {rule : Int} (h : prepF s rule = some l) : l.length ≤ 36 * s.length + 8 := by
  unfold prepF at h
  have h1 := formF_len (mapF rule s) true
  have h2 := mapF_len rule s
  have h3 := spacesF_len (formF (mapF rule s) true) rule
  split at h
  · cases h
  · split at h
    · cases h
    · injection h with h; subst h; omega
theorem prepV_pure (o : Option (List Int)) : pureC (prepV o) = true := by cases o <;> rfl
theorem c24 (nl : Option Bool) (s : List Int) (rule : Int) (hx : s.length ≤ 10000) : PC Try.prog true 24 [.sl nl (encI s), .i .i64 rule] (.tu [prepV (prepF s rule), .b (prepF s rule).isSome]) [] := by
  have h1 := formF_len (mapF rule s) true
  have h2 := mapF_len rule s
  have k33 := c33 nl s rule (by omega)
  have k32 := c32 (mapF rule s) true (by omega)
  have k34 := c34 none (formF (mapF rule s) true) (by omega)
  have k35 := c35 (formF (mapF rule s) true) rule (by omega)
  have hP : prepF s rule = if ¬ rule = 1 ∧ ¬ rule = 2 ∧ ¬ rule = 3 then none
    else if (formF (mapF rule s) true).any badF = true then none else some (spacesF (wordsF (formF (mapF rule s) true)) rule) := rfl
  generalize formF (mapF rule s) true = l at *
  generalize spacesF (wordsF l) rule = z at *
  by_cases g : ¬ rule = 1 ∧ ¬ rule = 2 ∧ ¬ rule = 3
  · obtain ⟨g1, g2, g3⟩ := g
    rw [hP, if_pos ⟨g1, g2, g3⟩]
    refine pcW E0_ok mm (fn := Try.f24) (by kernel_rfl) (by kernel_rfl) (by kernel_rfl) [] (by kernel_rfl) [] (by rw [show Try.f24.ntmps = 2 + 25 by kernel_rfl]; exact Nat.le_add_right _ _) ?_
    intro T hl hx
    have a0 := hx 0 _ rfl
    have a1 := hx 1 _ rfl
    clear hx
    simp only [bodyOf, Try.f24] at hl ⊢
    simp only [wB, E0_tys, appI, bsI, slI, sliceI, sliceS, optI, appendI, srcI, chunk, fillI, fzParts, fzL, fz1, planAt, loadI, storeI, takeI, TK.agg, TK.known, cellsI, fillRow, okCell, bltI, builtinI, lenI, indexAddrI, fieldAddrI, fieldI, indexI, nilChkI, An.isImm, pureC, pure0, impI, impL, impC, cutO, An.imps, List.replicate, decide_true, decide_false, cond_true, cond_false, if_true, if_false, ite_true, ite_false, ne_eq, forall_const, eq_self, reduceCtorEq, reduceIte, Nat.reduceLT, Nat.reduceLeDiff, Nat.reduceAdd, Nat.reduceSub, Nat.reduceMul, Nat.reduceEqDiff, Nat.reduceBEq, Int.reduceLE, Int.reduceLT, Int.reduceToNat, Int.reduceEq, Int.reduceAdd, Int.reduceSub, Int.reduceMul, ty_3, tk_3, ty_36, tk_36, ty_4, tk_4, ty_59, tk_59, a0, a1, hl, g1, g2, g3, prepV]
    rfl
  · rw [if_neg g] at hP
    have fin : ∀ T : List IV, T.length = 27 → getT T 0 = .sl nl (encI s) → getT T 1 = .i .i64 rule → True := fun _ _ _ _ => trivial
    cases hb : l.any badF with
    | true =>
      rw [hP, if_pos hb]
      rw [hb] at k34
      refine pcW E0_ok mm (fn := Try.f24) (by kernel_rfl) (by kernel_rfl) (by kernel_rfl) [] (by kernel_rfl) [] (by rw [show Try.f24.ntmps = 2 + 25 by kernel_rfl]; exact Nat.le_add_right _ _) ?_
      intro T hl hx
      have a0 := hx 0 _ rfl
      have a1 := hx 1 _ rfl
      clear hx
      simp only [bodyOf, Try.f24] at hl ⊢
      have hcase : rule = 1 ∨ rule = 2 ∨ rule = 3 := by omega
      rcases hcase with h | h | h
      all_goals
        subst h
        simp only [wB, E0_tys, appI, bsI, slI, sliceI, sliceS, optI, appendI, srcI, chunk, fillI, fzParts, fzL, fz1, planAt, loadI, storeI, takeI, TK.agg, TK.known, cellsI, fillRow, okCell, bltI, builtinI, lenI, indexAddrI, fieldAddrI, fieldI, indexI, nilChkI, An.isImm, pureC, pure0, impI, impL, impC, cutO, An.imps, List.replicate, decide_true, decide_false, cond_true, cond_false, if_true, if_false, ite_true, ite_false, ne_eq, forall_const, eq_self, reduceCtorEq, reduceIte, Nat.reduceLT, Nat.reduceLeDiff, Nat.reduceAdd, Nat.reduceSub, Nat.reduceMul, Nat.reduceEqDiff, Nat.reduceBEq, Int.reduceLE, Int.reduceLT, Int.reduceToNat, Int.reduceEq, Int.reduceAdd, Int.reduceSub, Int.reduceMul, ty_3, tk_3, ty_36, tk_36, ty_4, tk_4, ty_59, tk_59, a0, a1, hl]
        refine callPu0 k33 rfl rfl ?_
        simp only [wB, E0_tys, appI, bsI, slI, sliceI, sliceS, optI, appendI, srcI, chunk, fillI, fzParts, fzL, fz1, planAt, loadI, storeI, takeI, TK.agg, TK.known, cellsI, fillRow, okCell, bltI, builtinI, lenI, indexAddrI, fieldAddrI, fieldI, indexI, nilChkI, An.isImm, pureC, pure0, impI, impL, impC, cutO, An.imps, List.replicate, decide_true, decide_false, cond_true, cond_false, if_true, if_false, ite_true, ite_false, ne_eq, forall_const, eq_self, reduceCtorEq, reduceIte, Nat.reduceLT, Nat.reduceLeDiff, Nat.reduceAdd, Nat.reduceSub, Nat.reduceMul, Nat.reduceEqDiff, Nat.reduceBEq, Int.reduceLE, Int.reduceLT, Int.reduceToNat, Int.reduceEq, Int.reduceAdd, Int.reduceSub, Int.reduceMul, ty_3, tk_3, ty_36, tk_36, ty_4, tk_4, ty_59, tk_59, hl]
        refine callPu0 k32 rfl rfl ?_
        simp only [wB, E0_tys, appI, bsI, slI, sliceI, sliceS, optI, appendI, srcI, chunk, fillI, fzParts, fzL, fz1, planAt, loadI, storeI, takeI, TK.agg, TK.known, cellsI, fillRow, okCell, bltI, builtinI, lenI, indexAddrI, fieldAddrI, fieldI, indexI, nilChkI, An.isImm, pureC, pure0, impI, impL, impC, cutO, An.imps, List.replicate, decide_true, decide_false, cond_true, cond_false, if_true, if_false, ite_true, ite_false, ne_eq, forall_const, eq_self, reduceCtorEq, reduceIte, Nat.reduceLT, Nat.reduceLeDiff, Nat.reduceAdd, Nat.reduceSub, Nat.reduceMul, Nat.reduceEqDiff, Nat.reduceBEq, Int.reduceLE, Int.reduceLT, Int.reduceToNat, Int.reduceEq, Int.reduceAdd, Int.reduceSub, Int.reduceMul, ty_3, tk_3, ty_36, tk_36, ty_4, tk_4, ty_59, tk_59, hl]
        refine callPu0 k34 rfl rfl ?_
        simp only [wB, E0_tys, appI, bsI, slI, sliceI, sliceS, optI, appendI, srcI, chunk, fillI, fzParts, fzL, fz1, planAt, loadI, storeI, takeI, TK.agg, TK.known, cellsI, fillRow, okCell, bltI, builtinI, lenI, indexAddrI, fieldAddrI, fieldI, indexI, nilChkI, An.isImm, pureC, pure0, impI, impL, impC, cutO, An.imps, List.replicate, decide_true, decide_false, cond_true, cond_false, if_true, if_false, ite_true, ite_false, ne_eq, forall_const, eq_self, reduceCtorEq, reduceIte, Nat.reduceLT, Nat.reduceLeDiff, Nat.reduceAdd, Nat.reduceSub, Nat.reduceMul, Nat.reduceEqDiff, Nat.reduceBEq, Int.reduceLE, Int.reduceLT, Int.reduceToNat, Int.reduceEq, Int.reduceAdd, Int.reduceSub, Int.reduceMul, ty_3, tk_3, ty_36, tk_36, ty_4, tk_4, ty_59, tk_59, hl, prepV]
        rfl
    | false =>
      rw [hP, if_neg (by rw [hb]; simp)]
      rw [hb] at k34
      refine pcW E0_ok mm (fn := Try.f24) (by kernel_rfl) (by kernel_rfl) (by kernel_rfl) [] (by kernel_rfl) [] (by rw [show Try.f24.ntmps = 2 + 25 by kernel_rfl]; exact Nat.le_add_right _ _) ?_
      intro T hl hx
      have a0 := hx 0 _ rfl
      have a1 := hx 1 _ rfl
      clear hx
      simp only [bodyOf, Try.f24] at hl ⊢
      have hcase : rule = 1 ∨ rule = 2 ∨ rule = 3 := by omega
      rcases hcase with h | h | h
      all_goals
        subst h
        simp only [wB, E0_tys, appI, bsI, slI, sliceI, sliceS, optI, appendI, srcI, chunk, fillI, fzParts, fzL, fz1, planAt, loadI, storeI, takeI, TK.agg, TK.known, cellsI, fillRow, okCell, bltI, builtinI, lenI, indexAddrI, fieldAddrI, fieldI, indexI, nilChkI, An.isImm, pureC, pure0, impI, impL, impC, cutO, An.imps, List.replicate, decide_true, decide_false, cond_true, cond_false, if_true, if_false, ite_true, ite_false, ne_eq, forall_const, eq_self, reduceCtorEq, reduceIte, Nat.reduceLT, Nat.reduceLeDiff, Nat.reduceAdd, Nat.reduceSub, Nat.reduceMul, Nat.reduceEqDiff, Nat.reduceBEq, Int.reduceLE, Int.reduceLT, Int.reduceToNat, Int.reduceEq, Int.reduceAdd, Int.reduceSub, Int.reduceMul, ty_3, tk_3, ty_36, tk_36, ty_4, tk_4, ty_59, tk_59, a0, a1, hl]
        refine callPu0 k33 rfl rfl ?_
        simp only [wB, E0_tys, appI, bsI, slI, sliceI, sliceS, optI, appendI, srcI, chunk, fillI, fzParts, fzL, fz1, planAt, loadI, storeI, takeI, TK.agg, TK.known, cellsI, fillRow, okCell, bltI, builtinI, lenI, indexAddrI, fieldAddrI, fieldI, indexI, nilChkI, An.isImm, pureC, pure0, impI, impL, impC, cutO, An.imps, List.replicate, decide_true, decide_false, cond_true, cond_false, if_true, if_false, ite_true, ite_false, ne_eq, forall_const, eq_self, reduceCtorEq, reduceIte, Nat.reduceLT, Nat.reduceLeDiff, Nat.reduceAdd, Nat.reduceSub, Nat.reduceMul, Nat.reduceEqDiff, Nat.reduceBEq, Int.reduceLE, Int.reduceLT, Int.reduceToNat, Int.reduceEq, Int.reduceAdd, Int.reduceSub, Int.reduceMul, ty_3, tk_3, ty_36, tk_36, ty_4, tk_4, ty_59, tk_59, hl]
        refine callPu0 k32 rfl rfl ?_
        simp only [wB, E0_tys, appI, bsI, slI, sliceI, sliceS, optI, appendI, srcI, chunk, fillI, fzParts, fzL, fz1, planAt, loadI, storeI, takeI, TK.agg, TK.known, cellsI, fillRow, okCell, bltI, builtinI, lenI, indexAddrI, fieldAddrI, fieldI, indexI, nilChkI, An.isImm, pureC, pure0, impI, impL, impC, cutO, An.imps, List.replicate, decide_true, decide_false, cond_true, cond_false, if_true, if_false, ite_true, ite_false, ne_eq, forall_const, eq_self, reduceCtorEq, reduceIte, Nat.reduceLT, Nat.reduceLeDiff, Nat.reduceAdd, Nat.reduceSub, Nat.reduceMul, Nat.reduceEqDiff, Nat.reduceBEq, Int.reduceLE, Int.reduceLT, Int.reduceToNat, Int.reduceEq, Int.reduceAdd, Int.reduceSub, Int.reduceMul, ty_3, tk_3, ty_36, tk_36, ty_4, tk_4, ty_59, tk_59, hl]
        refine callPu0 k34 rfl rfl ?_
        simp only [wB, E0_tys, appI, bsI, slI, sliceI, sliceS, optI, appendI, srcI, chunk, fillI, fzParts, fzL, fz1, planAt, loadI, storeI, takeI, TK.agg, TK.known, cellsI, fillRow, okCell, bltI, builtinI, lenI, indexAddrI, fieldAddrI, fieldI, indexI, nilChkI, An.isImm, pureC, pure0, impI, impL, impC, cutO, An.imps, List.replicate, decide_true, decide_false, cond_true, cond_false, if_true, if_false, ite_true, ite_false, ne_eq, forall_const, eq_self, reduceCtorEq, reduceIte, Nat.reduceLT, Nat.reduceLeDiff, Nat.reduceAdd, Nat.reduceSub, Nat.reduceMul, Nat.reduceEqDiff, Nat.reduceBEq, Int.reduceLE, Int.reduceLT, Int.reduceToNat, Int.reduceEq, Int.reduceAdd, Int.reduceSub, Int.reduceMul, ty_3, tk_3, ty_36, tk_36, ty_4, tk_4, ty_59, tk_59, hl, a1]
        refine callPu0 k35 rfl rfl ?_
        simp only [wB, E0_tys, appI, bsI, slI, sliceI, sliceS, optI, appendI, srcI, chunk, fillI, fzParts, fzL, fz1, planAt, loadI, storeI, takeI, TK.agg, TK.known, cellsI, fillRow, okCell, bltI, builtinI, lenI, indexAddrI, fieldAddrI, fieldI, indexI, nilChkI, An.isImm, pureC, pure0, impI, impL, impC, cutO, An.imps, List.replicate, decide_true, decide_false, cond_true, cond_false, if_true, if_false, ite_true, ite_false, ne_eq, forall_const, eq_self, reduceCtorEq, reduceIte, Nat.reduceLT, Nat.reduceLeDiff, Nat.reduceAdd, Nat.reduceSub, Nat.reduceMul, Nat.reduceEqDiff, Nat.reduceBEq, Int.reduceLE, Int.reduceLT, Int.reduceToNat, Int.reduceEq, Int.reduceAdd, Int.reduceSub, Int.reduceMul, ty_3, tk_3, ty_36, tk_36, ty_4, tk_4, ty_59, tk_59, hl, prepV]
        rfl
end Go.Proofs
