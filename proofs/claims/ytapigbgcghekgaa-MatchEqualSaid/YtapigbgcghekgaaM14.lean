import Derived.Test.YtapigbgcghekgaaM13
set_option linter.unusedVariables false
set_option linter.unusedSimpArgs false
set_option maxRecDepth 100000
set_option maxHeartbeats 4000000
set_option linter.unusedVariables false
set_option linter.unusedSimpArgs false
namespace Go.Proofs
open Go.Iv
theorem bin_nil (t e : TypeId) (b : Bool) (rows : List (List IV)) (h : tyK tysL t = .slice e) : binI tysL .eql t (.sl (some b) rows) (.sl (some true) []) = some (.b b) := by
  simp only [binI, h, nilI]
theorem c36a (b : Bool) (xs : List Int) (hb : b = true → xs = []) (hl0 : xs.length ≤ 17592186044416) : PC Try.prog true 36 [.sl (some b) (encI xs)] (.sl (if b then some true else none) (encI xs)) [] := by
  have hr : ∀ k s z, room ⟨k, s, 8, z⟩ xs.length = true := fun k s z => room_8 hl0
  have hx4 : xs.length ≤ 4611686018427387904 := by omega
  refine pcW E0_ok mm (fn := Try.f36) (by kernel_rfl) (by kernel_rfl) (by kernel_rfl) [(3, 0, .reg 0), (3, 2, .reg 0)] (by kernel_rfl) [] (by rw [show Try.f36.ntmps = 1 + 7 by kernel_rfl]; exact Nat.le_add_right _ _) ?_
  intro T hl hx
  have a0 := hx 0 _ rfl
  clear hx
  simp only [bodyOf, Try.f36] at hl ⊢
  simp only [wB, E0_tys, appI, bsI, slI, sliceI, sliceS, optI, appendI, srcI, chunk, fillI, fzParts, fzL, fz1, planAt, loadI, storeI, takeI, TK.agg, TK.known, cellsI, fillRow, okCell, bltI, builtinI, lenI, indexAddrI, fieldAddrI, fieldI, indexI, nilChkI, An.isImm, pureC, pure0, impI, impL, impC, cutO, An.imps, List.replicate, decide_true, decide_false, cond_true, cond_false, if_true, if_false, ite_true, ite_false, ne_eq, forall_const, eq_self, reduceCtorEq, reduceIte, Nat.reduceLT, Nat.reduceLeDiff, Nat.reduceAdd, Nat.reduceSub, Nat.reduceMul, Nat.reduceEqDiff, Nat.reduceBEq, Int.reduceLE, Int.reduceLT, Int.reduceToNat, Int.reduceEq, Int.reduceAdd, Int.reduceSub, Int.reduceMul, ty_3, tk_3, ty_36, tk_36, a0, hl, bin_nil 36 3 _ _ tk_36]
  refine condW_b _ _ _ _ (fun hq => ?_) (fun hq => ?_)
  · subst hq
    have := hb rfl
    subst this
    simp only [wB, E0_tys, appI, bsI, slI, sliceI, sliceS, optI, appendI, srcI, chunk, fillI, fzParts, fzL, fz1, planAt, loadI, storeI, takeI, TK.agg, TK.known, cellsI, fillRow, okCell, bltI, builtinI, lenI, indexAddrI, fieldAddrI, fieldI, indexI, nilChkI, An.isImm, pureC, pure0, impI, impL, impC, cutO, An.imps, List.replicate, decide_true, decide_false, cond_true, cond_false, if_true, if_false, ite_true, ite_false, ne_eq, forall_const, eq_self, reduceCtorEq, reduceIte, Nat.reduceLT, Nat.reduceLeDiff, Nat.reduceAdd, Nat.reduceSub, Nat.reduceMul, Nat.reduceEqDiff, Nat.reduceBEq, Int.reduceLE, Int.reduceLT, Int.reduceToNat, Int.reduceEq, Int.reduceAdd, Int.reduceSub, Int.reduceMul, ty_3, tk_3, ty_36, tk_36, a0, hl]
    rfl
  · subst hq
    simp only [wB, E0_tys, appI, bsI, slI, sliceI, sliceS, optI, appendI, srcI, chunk, fillI, fzParts, fzL, fz1, planAt, loadI, storeI, takeI, TK.agg, TK.known, cellsI, fillRow, okCell, bltI, builtinI, lenI, indexAddrI, fieldAddrI, fieldI, indexI, nilChkI, An.isImm, pureC, pure0, impI, impL, impC, cutO, An.imps, List.replicate, decide_true, decide_false, cond_true, cond_false, if_true, if_false, ite_true, ite_false, ne_eq, forall_const, eq_self, reduceCtorEq, reduceIte, Nat.reduceLT, Nat.reduceLeDiff, Nat.reduceAdd, Nat.reduceSub, Nat.reduceMul, Nat.reduceEqDiff, Nat.reduceBEq, Int.reduceLE, Int.reduceLT, Int.reduceToNat, Int.reduceEq, Int.reduceAdd, Int.reduceSub, Int.reduceMul, ty_3, tk_3, ty_36, tk_36, a0, hl, hr, hx4]
theorem c36 (nl : Option Bool) (xs : List Int) (hn : nl = some true → xs = []) (hl0 : xs.length ≤ 17592186044416) : PC Try.prog true 36 [.sl nl (encI xs)] (.sl none (encI xs)) [] := by
  have one : ∀ b, (b = true → xs = []) → PC Try.prog true 36 [.sl (some b) (encI xs)] (.sl none (encI xs)) [] := fun b hb => (c36a b xs hb hl0).weaken (sl_none_of _ _)
  cases nl with
  | some b => exact one b (fun e => hn (by rw [e]))
  | none => exact PC.split (pre := []) (post := []) (fun b hb => one b (fun e => by have := hb e; simpa [encI] using this))
end Go.Proofs
set_option maxRecDepth 100000
set_option maxHeartbeats 4000000
set_option linter.unusedVariables false
set_option linter.unusedSimpArgs false
namespace Go.Proofs
open Go.Iv
def splitF (c : Int) : List Int :=
  if inF c 44032 11172 then
    [wr (4352 + wr ((wr ((wr (c - 44032)).tdiv 28)).tdiv 21)), wr (4449 + (wr ((wr (c - 44032)).tdiv 28)).tmod 21)] ++
      (if 0 < (wr (c - 44032)).tmod 28 then [wr (4519 + (wr (c - 44032)).tmod 28)] else [])
  else []
def splitNl (c : Int) : Option Bool := if inF c 44032 11172 then none else some true
theorem c97 (c : Int) : PC Try.prog true 97 [.i .i64 c] (.sl (splitNl c) (encI (splitF c))) [] := by
  refine pcW E0_ok mm (fn := Try.f97) (by kernel_rfl) (by kernel_rfl) (by kernel_rfl) [(4, 8, .reg 0), (7, 4, .reg 0)] (by kernel_rfl) [] (by rw [show Try.f97.ntmps = 1 + 29 by kernel_rfl]; exact Nat.le_add_right _ _) ?_
  intro T hl hx
  have a0 := hx 0 _ rfl
  clear hx
  simp only [bodyOf, Try.f97] at hl ⊢
  (simp only [wB, E0_tys, appI, bsI, slI, sliceI, sliceS, optI, appendI, srcI, chunk, fillI, fzParts, fzL, fz1, planAt, loadI, storeI, takeI, TK.agg, TK.known, cellsI, fillRow, okCell, bltI, builtinI, lenI, indexAddrI, fieldAddrI, fieldI, indexI, nilChkI, An.isImm, pureC, pure0, impI, impL, impC, cutO, An.imps, List.replicate, decide_true, decide_false, cond_true, cond_false, if_true, if_false, ite_true, ite_false, ne_eq, forall_const, eq_self, reduceCtorEq, reduceIte, Nat.reduceLT, Nat.reduceLeDiff, Nat.reduceAdd, Nat.reduceSub, Nat.reduceMul, Nat.reduceEqDiff, Nat.reduceBEq, Int.reduceLE, Int.reduceLT, Int.reduceToNat, Int.reduceEq, Int.reduceAdd, Int.reduceSub, Int.reduceMul, ty_3, tk_3, ty_36, tk_36, a0, hl, room_8])
  repeat' first
    | ((with_reducible refine guardW_b _ _ _ _ _ _ (fun hq => ?_) (fun hq => ?_)) <;> simp only [wB, E0_tys, appI, bsI, slI, sliceI, sliceS, optI, appendI, srcI, chunk, fillI, fzParts, fzL, fz1, planAt, loadI, storeI, takeI, TK.agg, TK.known, cellsI, fillRow, okCell, bltI, builtinI, lenI, indexAddrI, fieldAddrI, fieldI, indexI, nilChkI, An.isImm, pureC, pure0, impI, impL, impC, cutO, An.imps, List.replicate, decide_true, decide_false, cond_true, cond_false, if_true, if_false, ite_true, ite_false, ne_eq, forall_const, eq_self, reduceCtorEq, reduceIte, Nat.reduceLT, Nat.reduceLeDiff, Nat.reduceAdd, Nat.reduceSub, Nat.reduceMul, Nat.reduceEqDiff, Nat.reduceBEq, Int.reduceLE, Int.reduceLT, Int.reduceToNat, Int.reduceEq, Int.reduceAdd, Int.reduceSub, Int.reduceMul, ty_3, tk_3, ty_36, tk_36, a0, hl, room_8])
    | ((with_reducible refine condW_b _ _ _ _ (fun hq => ?_) (fun hq => ?_)) <;> simp only [wB, E0_tys, appI, bsI, slI, sliceI, sliceS, optI, appendI, srcI, chunk, fillI, fzParts, fzL, fz1, planAt, loadI, storeI, takeI, TK.agg, TK.known, cellsI, fillRow, okCell, bltI, builtinI, lenI, indexAddrI, fieldAddrI, fieldI, indexI, nilChkI, An.isImm, pureC, pure0, impI, impL, impC, cutO, An.imps, List.replicate, decide_true, decide_false, cond_true, cond_false, if_true, if_false, ite_true, ite_false, ne_eq, forall_const, eq_self, reduceCtorEq, reduceIte, Nat.reduceLT, Nat.reduceLeDiff, Nat.reduceAdd, Nat.reduceSub, Nat.reduceMul, Nat.reduceEqDiff, Nat.reduceBEq, Int.reduceLE, Int.reduceLT, Int.reduceToNat, Int.reduceEq, Int.reduceAdd, Int.reduceSub, Int.reduceMul, ty_3, tk_3, ty_36, tk_36, a0, hl, room_8])
    | ((with_reducible refine callPu0 (c83 c 44032 11172) ?_ ?_ ?_); rfl; rfl; simp only [wB, E0_tys, appI, bsI, slI, sliceI, sliceS, optI, appendI, srcI, chunk, fillI, fzParts, fzL, fz1, planAt, loadI, storeI, takeI, TK.agg, TK.known, cellsI, fillRow, okCell, bltI, builtinI, lenI, indexAddrI, fieldAddrI, fieldI, indexI, nilChkI, An.isImm, pureC, pure0, impI, impL, impC, cutO, An.imps, List.replicate, decide_true, decide_false, cond_true, cond_false, if_true, if_false, ite_true, ite_false, ne_eq, forall_const, eq_self, reduceCtorEq, reduceIte, Nat.reduceLT, Nat.reduceLeDiff, Nat.reduceAdd, Nat.reduceSub, Nat.reduceMul, Nat.reduceEqDiff, Nat.reduceBEq, Int.reduceLE, Int.reduceLT, Int.reduceToNat, Int.reduceEq, Int.reduceAdd, Int.reduceSub, Int.reduceMul, ty_3, tk_3, ty_36, tk_36, a0, hl, room_8])
  all_goals simp_all [splitF, splitNl, encI]
end Go.Proofs
set_option maxRecDepth 100000
set_option maxHeartbeats 4000000
set_option linter.unusedVariables false
set_option linter.unusedSimpArgs false
namespace Go.Proofs
open Go.Iv
theorem c92 (a : Int) (nl : Option Bool) (xs : List Int) : PC Try.prog true 92 [.ag [.i .i64 a, .sl nl (encI xs)]] (.tu [.i .i64 a, .sl nl (encI xs)]) [] := by
  refine pcW E0_ok mm (fn := Try.f92) (by kernel_rfl) (by kernel_rfl) (by kernel_rfl) [(1, 999, .plan (.pure 0 (.pure 1 (.pure 2 (.pure 3 (.pure 4 (.pure 5 (.done))))))))] (by kernel_rfl) [] (by rw [show Try.f92.ntmps = 1 + 7 by kernel_rfl]; exact Nat.le_add_right _ _) ?_
  intro T hl hx
  have a0 := hx 0 _ rfl
  clear hx
  simp only [bodyOf, Try.f92] at hl ⊢
  (simp only [wB, E0_tys, appI, bsI, slI, sliceI, sliceS, optI, appendI, srcI, chunk, fillI, fzParts, fzL, fz1, planAt, loadI, storeI, takeI, TK.agg, TK.known, cellsI, fillRow, okCell, bltI, builtinI, lenI, indexAddrI, fieldAddrI, fieldI, indexI, nilChkI, An.isImm, pureC, pure0, impI, impL, impC, cutO, An.imps, List.replicate, decide_true, decide_false, cond_true, cond_false, if_true, if_false, ite_true, ite_false, ne_eq, forall_const, eq_self, reduceCtorEq, reduceIte, Nat.reduceLT, Nat.reduceLeDiff, Nat.reduceAdd, Nat.reduceSub, Nat.reduceMul, Nat.reduceEqDiff, Nat.reduceBEq, Int.reduceLE, Int.reduceLT, Int.reduceToNat, Int.reduceEq, Int.reduceAdd, Int.reduceSub, Int.reduceMul, ty_3, tk_3, ty_36, tk_36, ty_118, tk_118, a0, hl])
  repeat' first
    | ((with_reducible refine guardW_b _ _ _ _ _ _ (fun hq => ?_) (fun hq => ?_)) <;> simp only [wB, E0_tys, appI, bsI, slI, sliceI, sliceS, optI, appendI, srcI, chunk, fillI, fzParts, fzL, fz1, planAt, loadI, storeI, takeI, TK.agg, TK.known, cellsI, fillRow, okCell, bltI, builtinI, lenI, indexAddrI, fieldAddrI, fieldI, indexI, nilChkI, An.isImm, pureC, pure0, impI, impL, impC, cutO, An.imps, List.replicate, decide_true, decide_false, cond_true, cond_false, if_true, if_false, ite_true, ite_false, ne_eq, forall_const, eq_self, reduceCtorEq, reduceIte, Nat.reduceLT, Nat.reduceLeDiff, Nat.reduceAdd, Nat.reduceSub, Nat.reduceMul, Nat.reduceEqDiff, Nat.reduceBEq, Int.reduceLE, Int.reduceLT, Int.reduceToNat, Int.reduceEq, Int.reduceAdd, Int.reduceSub, Int.reduceMul, ty_3, tk_3, ty_36, tk_36, ty_118, tk_118, a0, hl])
    | ((with_reducible refine condW_b _ _ _ _ (fun hq => ?_) (fun hq => ?_)) <;> simp only [wB, E0_tys, appI, bsI, slI, sliceI, sliceS, optI, appendI, srcI, chunk, fillI, fzParts, fzL, fz1, planAt, loadI, storeI, takeI, TK.agg, TK.known, cellsI, fillRow, okCell, bltI, builtinI, lenI, indexAddrI, fieldAddrI, fieldI, indexI, nilChkI, An.isImm, pureC, pure0, impI, impL, impC, cutO, An.imps, List.replicate, decide_true, decide_false, cond_true, cond_false, if_true, if_false, ite_true, ite_false, ne_eq, forall_const, eq_self, reduceCtorEq, reduceIte, Nat.reduceLT, Nat.reduceLeDiff, Nat.reduceAdd, Nat.reduceSub, Nat.reduceMul, Nat.reduceEqDiff, Nat.reduceBEq, Int.reduceLE, Int.reduceLT, Int.reduceToNat, Int.reduceEq, Int.reduceAdd, Int.reduceSub, Int.reduceMul, ty_3, tk_3, ty_36, tk_36, ty_118, tk_118, a0, hl])
def takenF (b c : Int) : List Int := if c = 0 then [b] else [b, c]
theorem c102 (a b c : Int) : PC Try.prog true 102 [.ag [.i .i64 a, .i .i64 b, .i .i64 c]] (.tu [.i .i64 a, .sl (some false) (encI (takenF b c))]) [] := by
  refine pcW E0_ok mm (fn := Try.f102) (by kernel_rfl) (by kernel_rfl) (by kernel_rfl) [(2, 999, .plan (.pure 0 (.pure 1 (.pure 2 (.pure 3 (.pure 4 (.pure 5 (.pure 6 (.done))))))))), (3, 999, .plan (.pure 0 (.pure 1 (.pure 2 (.pure 3 (.pure 4 (.pure 5 (.pure 6 (.pure 7 (.pure 8 (.done)))))))))))] (by kernel_rfl) [] (by rw [show Try.f102.ntmps = 1 + 18 by kernel_rfl]; exact Nat.le_add_right _ _) ?_
  intro T hl hx
  have a0 := hx 0 _ rfl
  clear hx
  simp only [bodyOf, Try.f102] at hl ⊢
  (simp only [wB, E0_tys, appI, bsI, slI, sliceI, sliceS, optI, appendI, srcI, chunk, fillI, fzParts, fzL, fz1, planAt, loadI, storeI, takeI, TK.agg, TK.known, cellsI, fillRow, okCell, bltI, builtinI, lenI, indexAddrI, fieldAddrI, fieldI, indexI, nilChkI, An.isImm, pureC, pure0, impI, impL, impC, cutO, An.imps, List.replicate, decide_true, decide_false, cond_true, cond_false, if_true, if_false, ite_true, ite_false, ne_eq, forall_const, eq_self, reduceCtorEq, reduceIte, Nat.reduceLT, Nat.reduceLeDiff, Nat.reduceAdd, Nat.reduceSub, Nat.reduceMul, Nat.reduceEqDiff, Nat.reduceBEq, Int.reduceLE, Int.reduceLT, Int.reduceToNat, Int.reduceEq, Int.reduceAdd, Int.reduceSub, Int.reduceMul, ty_3, tk_3, ty_36, tk_36, ty_112, tk_112, a0, hl])
  repeat' first
    | ((with_reducible refine guardW_b _ _ _ _ _ _ (fun hq => ?_) (fun hq => ?_)) <;> simp only [wB, E0_tys, appI, bsI, slI, sliceI, sliceS, optI, appendI, srcI, chunk, fillI, fzParts, fzL, fz1, planAt, loadI, storeI, takeI, TK.agg, TK.known, cellsI, fillRow, okCell, bltI, builtinI, lenI, indexAddrI, fieldAddrI, fieldI, indexI, nilChkI, An.isImm, pureC, pure0, impI, impL, impC, cutO, An.imps, List.replicate, decide_true, decide_false, cond_true, cond_false, if_true, if_false, ite_true, ite_false, ne_eq, forall_const, eq_self, reduceCtorEq, reduceIte, Nat.reduceLT, Nat.reduceLeDiff, Nat.reduceAdd, Nat.reduceSub, Nat.reduceMul, Nat.reduceEqDiff, Nat.reduceBEq, Int.reduceLE, Int.reduceLT, Int.reduceToNat, Int.reduceEq, Int.reduceAdd, Int.reduceSub, Int.reduceMul, ty_3, tk_3, ty_36, tk_36, ty_112, tk_112, a0, hl])
    | ((with_reducible refine condW_b _ _ _ _ (fun hq => ?_) (fun hq => ?_)) <;> simp only [wB, E0_tys, appI, bsI, slI, sliceI, sliceS, optI, appendI, srcI, chunk, fillI, fzParts, fzL, fz1, planAt, loadI, storeI, takeI, TK.agg, TK.known, cellsI, fillRow, okCell, bltI, builtinI, lenI, indexAddrI, fieldAddrI, fieldI, indexI, nilChkI, An.isImm, pureC, pure0, impI, impL, impC, cutO, An.imps, List.replicate, decide_true, decide_false, cond_true, cond_false, if_true, if_false, ite_true, ite_false, ne_eq, forall_const, eq_self, reduceCtorEq, reduceIte, Nat.reduceLT, Nat.reduceLeDiff, Nat.reduceAdd, Nat.reduceSub, Nat.reduceMul, Nat.reduceEqDiff, Nat.reduceBEq, Int.reduceLE, Int.reduceLT, Int.reduceToNat, Int.reduceEq, Int.reduceAdd, Int.reduceSub, Int.reduceMul, ty_3, tk_3, ty_36, tk_36, ty_112, tk_112, a0, hl])
  all_goals simp_all [takenF, encI]
end Go.Proofs
set_option maxRecDepth 100000
set_option maxHeartbeats 4000000
set_option linter.unusedVariables false
set_option linter.unusedSimpArgs false
namespace Go.Proofs
open Go.Iv
def encM (l : List (Int × List Int)) : List (List IV) := l.map fun x => [.i .i64 x.1, .sl (some false) (encI x.2)]
def encC (l : List (Int × Int × Int)) : List (List IV) := encR l
theorem encM_len (l : List (Int × List Int)) : (encM l).length = l.length := by simp [encM]
theorem encM_at {l : List (Int × List Int)} {k : Nat} {x : Int × List Int} (h : l[k]? = some x) : (encM l).getD k [] = [.i .i64 x.1, .sl (some false) (encI x.2)] := getD_enc h
def findM : List (Int × List Int) → Int → Option (List Int)
  | [], _ => none
  | x :: l, c => if x.1 = c then some x.2 else findM l c
theorem findM_drop {l : List (Int × List Int)} {k : Nat} {x : Int × List Int} (h : l[k]? = some x) (c : Int) : findM (l.drop k) c = if x.1 = c then some x.2 else findM (l.drop (k + 1)) c := by
  have hk : k < l.length := (List.getElem?_eq_some_iff.1 h).1
  have e : l[k] = x := (List.getElem?_eq_some_iff.1 h).2
  rw [List.drop_eq_getElem_cons hk, e]
  rfl
def foundIV (o : Option (List Int)) : IV := match o with | some v => .sl (some false) (encI v) | none => .sl (some true) []
def tripM (l : List (Int × Int × Int)) : List (Int × List Int) := l.map fun x => (x.1, takenF x.2.1 x.2.2)
theorem tripM_at {l : List (Int × Int × Int)} {k : Nat} {x : Int × Int × Int} (h : l[k]? = some x) : (tripM l)[k]? = some (x.1, takenF x.2.1 x.2.2) := by simp [tripM, h]
theorem tripM_len (l : List (Int × Int × Int)) : (tripM l).length = l.length := by simp [tripM]
theorem c90 (nl : Option Bool) (l : List (Int × List Int)) (c : Int) (hl0 : l.length ≤ 4611686018427387904) : PC Try.prog true 90 [.sl nl (encM l), .fn (.func 92) [] [], .i .i64 c] (foundIV (findM l c)) [] := by
  refine pcW E0_ok mm (fn := Try.f90) (by kernel_rfl) (by kernel_rfl) (by kernel_rfl) [(3, 2, .reg 0)] (by kernel_rfl) [] (by rw [show Try.f90.ntmps = 3 + 27 by kernel_rfl]; exact Nat.le_add_right _ _) ?_
  intro T hl hx
  have a0 := hx 0 _ rfl
  have a1 := hx 1 _ rfl
  have a2 := hx 2 _ rfl
  clear hx
  simp only [bodyOf, Try.f90] at hl ⊢
  simp only [wB, E0_tys, appI, bsI, slI, sliceI, sliceS, optI, appendI, srcI, chunk, fillI, fzParts, fzL, fz1, planAt, loadI, storeI, takeI, TK.agg, TK.known, cellsI, fillRow, okCell, bltI, builtinI, lenI, indexAddrI, fieldAddrI, fieldI, indexI, nilChkI, An.isImm, pureC, pure0, impI, impL, impC, cutO, An.imps, List.replicate, decide_true, decide_false, cond_true, cond_false, if_true, if_false, ite_true, ite_false, ne_eq, forall_const, eq_self, reduceCtorEq, reduceIte, Nat.reduceLT, Nat.reduceLeDiff, Nat.reduceAdd, Nat.reduceSub, Nat.reduceMul, Nat.reduceEqDiff, Nat.reduceBEq, Int.reduceLE, Int.reduceLT, Int.reduceToNat, Int.reduceEq, Int.reduceAdd, Int.reduceSub, Int.reduceMul, ty_3, tk_3, ty_36, tk_36, ty_119, tk_119, ty_118, tk_118, a0, a1, a2, hl, encM_len]
  refine W_loop _ _ _ _ _ _ _ (fun T _ => ∃ k : Nat, k ≤ l.length ∧ T.length = 30 ∧ getT T 1 = .fn (.func 92) [] [] ∧ getT T 2 = .i .i64 c ∧ getT T 12 = .sl nl (encM l) ∧ getT T 13 = .i .i64 (l.length : Int) ∧ getT T 14 = .i .i64 (k : Int) ∧ findM (l.drop k) c = findM l c)
    (fun T _ => l.length - (asI (getT T 14)).toNat) ⟨0, ?_⟩ ?_
  · simp only [wB, E0_tys, appI, bsI, slI, sliceI, sliceS, optI, appendI, srcI, chunk, fillI, fzParts, fzL, fz1, planAt, loadI, storeI, takeI, TK.agg, TK.known, cellsI, fillRow, okCell, bltI, builtinI, lenI, indexAddrI, fieldAddrI, fieldI, indexI, nilChkI, An.isImm, pureC, pure0, impI, impL, impC, cutO, An.imps, List.replicate, decide_true, decide_false, cond_true, cond_false, if_true, if_false, ite_true, ite_false, ne_eq, forall_const, eq_self, reduceCtorEq, reduceIte, Nat.reduceLT, Nat.reduceLeDiff, Nat.reduceAdd, Nat.reduceSub, Nat.reduceMul, Nat.reduceEqDiff, Nat.reduceBEq, Int.reduceLE, Int.reduceLT, Int.reduceToNat, Int.reduceEq, Int.reduceAdd, Int.reduceSub, Int.reduceMul, ty_3, tk_3, ty_36, tk_36, ty_119, tk_119, ty_118, tk_118, a0, a1, a2, hl, encM_len]
    try rfl
  · rintro T R ⟨k, hk, hl, a1, a2, a12, a13, a14, hf⟩
    simp only [wB, E0_tys, appI, bsI, slI, sliceI, sliceS, optI, appendI, srcI, chunk, fillI, fzParts, fzL, fz1, planAt, loadI, storeI, takeI, TK.agg, TK.known, cellsI, fillRow, okCell, bltI, builtinI, lenI, indexAddrI, fieldAddrI, fieldI, indexI, nilChkI, An.isImm, pureC, pure0, impI, impL, impC, cutO, An.imps, List.replicate, decide_true, decide_false, cond_true, cond_false, if_true, if_false, ite_true, ite_false, ne_eq, forall_const, eq_self, reduceCtorEq, reduceIte, Nat.reduceLT, Nat.reduceLeDiff, Nat.reduceAdd, Nat.reduceSub, Nat.reduceMul, Nat.reduceEqDiff, Nat.reduceBEq, Int.reduceLE, Int.reduceLT, Int.reduceToNat, Int.reduceEq, Int.reduceAdd, Int.reduceSub, Int.reduceMul, ty_3, tk_3, ty_36, tk_36, ty_119, tk_119, ty_118, tk_118, a1, a2, a12, a13, a14, hl, encM_len]
    refine condW_b _ _ _ _ (fun b => ?_) (fun b => ?_)
    · have hk2 : k < l.length := by simpa using b
      obtain ⟨x, hx⟩ := at_lt hk2
      have hs := findM_drop hx c
      have hw : IntKind.i64.wrap ((k : Int) + 1) = ((k + 1 : Nat) : Int) := by rw [wrap64] <;> omega
      simp only [wB, E0_tys, appI, bsI, slI, sliceI, sliceS, optI, appendI, srcI, chunk, fillI, fzParts, fzL, fz1, planAt, loadI, storeI, takeI, TK.agg, TK.known, cellsI, fillRow, okCell, bltI, builtinI, lenI, indexAddrI, fieldAddrI, fieldI, indexI, nilChkI, An.isImm, pureC, pure0, impI, impL, impC, cutO, An.imps, List.replicate, decide_true, decide_false, cond_true, cond_false, if_true, if_false, ite_true, ite_false, ne_eq, forall_const, eq_self, reduceCtorEq, reduceIte, Nat.reduceLT, Nat.reduceLeDiff, Nat.reduceAdd, Nat.reduceSub, Nat.reduceMul, Nat.reduceEqDiff, Nat.reduceBEq, Int.reduceLE, Int.reduceLT, Int.reduceToNat, Int.reduceEq, Int.reduceAdd, Int.reduceSub, Int.reduceMul, ty_3, tk_3, ty_36, tk_36, ty_119, tk_119, ty_118, tk_118, a1, a2, a12, a13, a14, hl, encM_len, hk2, encM_at hx]
      refine callPu0 (c92 x.1 (some false) x.2) rfl rfl ?_
      simp only [wB, E0_tys, appI, bsI, slI, sliceI, sliceS, optI, appendI, srcI, chunk, fillI, fzParts, fzL, fz1, planAt, loadI, storeI, takeI, TK.agg, TK.known, cellsI, fillRow, okCell, bltI, builtinI, lenI, indexAddrI, fieldAddrI, fieldI, indexI, nilChkI, An.isImm, pureC, pure0, impI, impL, impC, cutO, An.imps, List.replicate, decide_true, decide_false, cond_true, cond_false, if_true, if_false, ite_true, ite_false, ne_eq, forall_const, eq_self, reduceCtorEq, reduceIte, Nat.reduceLT, Nat.reduceLeDiff, Nat.reduceAdd, Nat.reduceSub, Nat.reduceMul, Nat.reduceEqDiff, Nat.reduceBEq, Int.reduceLE, Int.reduceLT, Int.reduceToNat, Int.reduceEq, Int.reduceAdd, Int.reduceSub, Int.reduceMul, ty_3, tk_3, ty_36, tk_36, ty_119, tk_119, ty_118, tk_118, a1, a2, a12, a13, a14, hl, encM_len, hk2, encM_at hx]
      refine condW_b _ _ _ _ (fun b1 => ?_) (fun b1 => ?_)
      · simp only [wB, E0_tys, appI, bsI, slI, sliceI, sliceS, optI, appendI, srcI, chunk, fillI, fzParts, fzL, fz1, planAt, loadI, storeI, takeI, TK.agg, TK.known, cellsI, fillRow, okCell, bltI, builtinI, lenI, indexAddrI, fieldAddrI, fieldI, indexI, nilChkI, An.isImm, pureC, pure0, impI, impL, impC, cutO, An.imps, List.replicate, decide_true, decide_false, cond_true, cond_false, if_true, if_false, ite_true, ite_false, ne_eq, forall_const, eq_self, reduceCtorEq, reduceIte, Nat.reduceLT, Nat.reduceLeDiff, Nat.reduceAdd, Nat.reduceSub, Nat.reduceMul, Nat.reduceEqDiff, Nat.reduceBEq, Int.reduceLE, Int.reduceLT, Int.reduceToNat, Int.reduceEq, Int.reduceAdd, Int.reduceSub, Int.reduceMul, ty_3, tk_3, ty_36, tk_36, ty_119, tk_119, ty_118, tk_118, a1, a2, a12, a13, a14, hl, encM_len, hk2, encM_at hx]
        rw [← hf, hs, if_pos (of_decide_eq_true b1)]; rfl
      · have c1 := of_decide_eq_false b1
        simp only [wB, E0_tys, appI, bsI, slI, sliceI, sliceS, optI, appendI, srcI, chunk, fillI, fzParts, fzL, fz1, planAt, loadI, storeI, takeI, TK.agg, TK.known, cellsI, fillRow, okCell, bltI, builtinI, lenI, indexAddrI, fieldAddrI, fieldI, indexI, nilChkI, An.isImm, pureC, pure0, impI, impL, impC, cutO, An.imps, List.replicate, decide_true, decide_false, cond_true, cond_false, if_true, if_false, ite_true, ite_false, ne_eq, forall_const, eq_self, reduceCtorEq, reduceIte, Nat.reduceLT, Nat.reduceLeDiff, Nat.reduceAdd, Nat.reduceSub, Nat.reduceMul, Nat.reduceEqDiff, Nat.reduceBEq, Int.reduceLE, Int.reduceLT, Int.reduceToNat, Int.reduceEq, Int.reduceAdd, Int.reduceSub, Int.reduceMul, ty_3, tk_3, ty_36, tk_36, ty_119, tk_119, ty_118, tk_118, a1, a2, a12, a13, a14, hl, encM_len, hk2, encM_at hx, hw]
        exact ⟨⟨k + 1, hk2, rfl, by rw [← hf, hs, if_neg c1]⟩, by simp only [asI]; omega⟩
    · simp only [wB, E0_tys, appI, bsI, slI, sliceI, sliceS, optI, appendI, srcI, chunk, fillI, fzParts, fzL, fz1, planAt, loadI, storeI, takeI, TK.agg, TK.known, cellsI, fillRow, okCell, bltI, builtinI, lenI, indexAddrI, fieldAddrI, fieldI, indexI, nilChkI, An.isImm, pureC, pure0, impI, impL, impC, cutO, An.imps, List.replicate, decide_true, decide_false, cond_true, cond_false, if_true, if_false, ite_true, ite_false, ne_eq, forall_const, eq_self, reduceCtorEq, reduceIte, Nat.reduceLT, Nat.reduceLeDiff, Nat.reduceAdd, Nat.reduceSub, Nat.reduceMul, Nat.reduceEqDiff, Nat.reduceBEq, Int.reduceLE, Int.reduceLT, Int.reduceToNat, Int.reduceEq, Int.reduceAdd, Int.reduceSub, Int.reduceMul, ty_3, tk_3, ty_36, tk_36, ty_119, tk_119, ty_118, tk_118, a1, a2, a12, a13, a14, hl, encM_len]
      rw [← hf, List.drop_of_length_le (by have := of_decide_eq_false b; omega)]; rfl
theorem c101 (nl : Option Bool) (l : List (Int × Int × Int)) (c : Int) (hl0 : l.length ≤ 4611686018427387904) : PC Try.prog true 101 [.sl nl (encR l), .fn (.func 102) [] [], .i .i64 c] (foundIV (findM (tripM l) c)) [] := by
  refine pcW E0_ok mm (fn := Try.f101) (by kernel_rfl) (by kernel_rfl) (by kernel_rfl) [(3, 2, .reg 0)] (by kernel_rfl) [] (by rw [show Try.f101.ntmps = 3 + 27 by kernel_rfl]; exact Nat.le_add_right _ _) ?_
  intro T hl hx
  have a0 := hx 0 _ rfl
  have a1 := hx 1 _ rfl
  have a2 := hx 2 _ rfl
  clear hx
  simp only [bodyOf, Try.f101] at hl ⊢
  simp only [wB, E0_tys, appI, bsI, slI, sliceI, sliceS, optI, appendI, srcI, chunk, fillI, fzParts, fzL, fz1, planAt, loadI, storeI, takeI, TK.agg, TK.known, cellsI, fillRow, okCell, bltI, builtinI, lenI, indexAddrI, fieldAddrI, fieldI, indexI, nilChkI, An.isImm, pureC, pure0, impI, impL, impC, cutO, An.imps, List.replicate, decide_true, decide_false, cond_true, cond_false, if_true, if_false, ite_true, ite_false, ne_eq, forall_const, eq_self, reduceCtorEq, reduceIte, Nat.reduceLT, Nat.reduceLeDiff, Nat.reduceAdd, Nat.reduceSub, Nat.reduceMul, Nat.reduceEqDiff, Nat.reduceBEq, Int.reduceLE, Int.reduceLT, Int.reduceToNat, Int.reduceEq, Int.reduceAdd, Int.reduceSub, Int.reduceMul, ty_3, tk_3, ty_36, tk_36, ty_110, tk_110, ty_112, tk_112, a0, a1, a2, hl, encR_len]
  refine W_loop _ _ _ _ _ _ _ (fun T _ => ∃ k : Nat, k ≤ l.length ∧ T.length = 30 ∧ getT T 1 = .fn (.func 102) [] [] ∧ getT T 2 = .i .i64 c ∧ getT T 12 = .sl nl (encR l) ∧ getT T 13 = .i .i64 (l.length : Int) ∧ getT T 14 = .i .i64 (k : Int) ∧ findM ((tripM l).drop k) c = findM (tripM l) c)
    (fun T _ => l.length - (asI (getT T 14)).toNat) ⟨0, ?_⟩ ?_
  · simp only [wB, E0_tys, appI, bsI, slI, sliceI, sliceS, optI, appendI, srcI, chunk, fillI, fzParts, fzL, fz1, planAt, loadI, storeI, takeI, TK.agg, TK.known, cellsI, fillRow, okCell, bltI, builtinI, lenI, indexAddrI, fieldAddrI, fieldI, indexI, nilChkI, An.isImm, pureC, pure0, impI, impL, impC, cutO, An.imps, List.replicate, decide_true, decide_false, cond_true, cond_false, if_true, if_false, ite_true, ite_false, ne_eq, forall_const, eq_self, reduceCtorEq, reduceIte, Nat.reduceLT, Nat.reduceLeDiff, Nat.reduceAdd, Nat.reduceSub, Nat.reduceMul, Nat.reduceEqDiff, Nat.reduceBEq, Int.reduceLE, Int.reduceLT, Int.reduceToNat, Int.reduceEq, Int.reduceAdd, Int.reduceSub, Int.reduceMul, ty_3, tk_3, ty_36, tk_36, ty_110, tk_110, ty_112, tk_112, a0, a1, a2, hl, encR_len]
    try rfl
  · rintro T R ⟨k, hk, hl, a1, a2, a12, a13, a14, hf⟩
    simp only [wB, E0_tys, appI, bsI, slI, sliceI, sliceS, optI, appendI, srcI, chunk, fillI, fzParts, fzL, fz1, planAt, loadI, storeI, takeI, TK.agg, TK.known, cellsI, fillRow, okCell, bltI, builtinI, lenI, indexAddrI, fieldAddrI, fieldI, indexI, nilChkI, An.isImm, pureC, pure0, impI, impL, impC, cutO, An.imps, List.replicate, decide_true, decide_false, cond_true, cond_false, if_true, if_false, ite_true, ite_false, ne_eq, forall_const, eq_self, reduceCtorEq, reduceIte, Nat.reduceLT, Nat.reduceLeDiff, Nat.reduceAdd, Nat.reduceSub, Nat.reduceMul, Nat.reduceEqDiff, Nat.reduceBEq, Int.reduceLE, Int.reduceLT, Int.reduceToNat, Int.reduceEq, Int.reduceAdd, Int.reduceSub, Int.reduceMul, ty_3, tk_3, ty_36, tk_36, ty_110, tk_110, ty_112, tk_112, a1, a2, a12, a13, a14, hl, encR_len]
    refine condW_b _ _ _ _ (fun b => ?_) (fun b => ?_)
    · have hk2 : k < l.length := by simpa using b
      obtain ⟨x, hx⟩ := at_lt hk2
      have hs := findM_drop (tripM_at hx) c
      have hw : IntKind.i64.wrap ((k : Int) + 1) = ((k + 1 : Nat) : Int) := by rw [wrap64] <;> omega
      simp only [wB, E0_tys, appI, bsI, slI, sliceI, sliceS, optI, appendI, srcI, chunk, fillI, fzParts, fzL, fz1, planAt, loadI, storeI, takeI, TK.agg, TK.known, cellsI, fillRow, okCell, bltI, builtinI, lenI, indexAddrI, fieldAddrI, fieldI, indexI, nilChkI, An.isImm, pureC, pure0, impI, impL, impC, cutO, An.imps, List.replicate, decide_true, decide_false, cond_true, cond_false, if_true, if_false, ite_true, ite_false, ne_eq, forall_const, eq_self, reduceCtorEq, reduceIte, Nat.reduceLT, Nat.reduceLeDiff, Nat.reduceAdd, Nat.reduceSub, Nat.reduceMul, Nat.reduceEqDiff, Nat.reduceBEq, Int.reduceLE, Int.reduceLT, Int.reduceToNat, Int.reduceEq, Int.reduceAdd, Int.reduceSub, Int.reduceMul, ty_3, tk_3, ty_36, tk_36, ty_110, tk_110, ty_112, tk_112, a1, a2, a12, a13, a14, hl, encR_len, hk2, encR_at hx]
      refine callPu0 (c102 x.1 x.2.1 x.2.2) rfl rfl ?_
      simp only [wB, E0_tys, appI, bsI, slI, sliceI, sliceS, optI, appendI, srcI, chunk, fillI, fzParts, fzL, fz1, planAt, loadI, storeI, takeI, TK.agg, TK.known, cellsI, fillRow, okCell, bltI, builtinI, lenI, indexAddrI, fieldAddrI, fieldI, indexI, nilChkI, An.isImm, pureC, pure0, impI, impL, impC, cutO, An.imps, List.replicate, decide_true, decide_false, cond_true, cond_false, if_true, if_false, ite_true, ite_false, ne_eq, forall_const, eq_self, reduceCtorEq, reduceIte, Nat.reduceLT, Nat.reduceLeDiff, Nat.reduceAdd, Nat.reduceSub, Nat.reduceMul, Nat.reduceEqDiff, Nat.reduceBEq, Int.reduceLE, Int.reduceLT, Int.reduceToNat, Int.reduceEq, Int.reduceAdd, Int.reduceSub, Int.reduceMul, ty_3, tk_3, ty_36, tk_36, ty_110, tk_110, ty_112, tk_112, a1, a2, a12, a13, a14, hl, encR_len, hk2, encR_at hx]
      refine condW_b _ _ _ _ (fun b1 => ?_) (fun b1 => ?_)
      · simp only [wB, E0_tys, appI, bsI, slI, sliceI, sliceS, optI, appendI, srcI, chunk, fillI, fzParts, fzL, fz1, planAt, loadI, storeI, takeI, TK.agg, TK.known, cellsI, fillRow, okCell, bltI, builtinI, lenI, indexAddrI, fieldAddrI, fieldI, indexI, nilChkI, An.isImm, pureC, pure0, impI, impL, impC, cutO, An.imps, List.replicate, decide_true, decide_false, cond_true, cond_false, if_true, if_false, ite_true, ite_false, ne_eq, forall_const, eq_self, reduceCtorEq, reduceIte, Nat.reduceLT, Nat.reduceLeDiff, Nat.reduceAdd, Nat.reduceSub, Nat.reduceMul, Nat.reduceEqDiff, Nat.reduceBEq, Int.reduceLE, Int.reduceLT, Int.reduceToNat, Int.reduceEq, Int.reduceAdd, Int.reduceSub, Int.reduceMul, ty_3, tk_3, ty_36, tk_36, ty_110, tk_110, ty_112, tk_112, a1, a2, a12, a13, a14, hl, encR_len, hk2, encR_at hx]
        rw [← hf, hs, if_pos (of_decide_eq_true b1)]; rfl
      · have c1 := of_decide_eq_false b1
        simp only [wB, E0_tys, appI, bsI, slI, sliceI, sliceS, optI, appendI, srcI, chunk, fillI, fzParts, fzL, fz1, planAt, loadI, storeI, takeI, TK.agg, TK.known, cellsI, fillRow, okCell, bltI, builtinI, lenI, indexAddrI, fieldAddrI, fieldI, indexI, nilChkI, An.isImm, pureC, pure0, impI, impL, impC, cutO, An.imps, List.replicate, decide_true, decide_false, cond_true, cond_false, if_true, if_false, ite_true, ite_false, ne_eq, forall_const, eq_self, reduceCtorEq, reduceIte, Nat.reduceLT, Nat.reduceLeDiff, Nat.reduceAdd, Nat.reduceSub, Nat.reduceMul, Nat.reduceEqDiff, Nat.reduceBEq, Int.reduceLE, Int.reduceLT, Int.reduceToNat, Int.reduceEq, Int.reduceAdd, Int.reduceSub, Int.reduceMul, ty_3, tk_3, ty_36, tk_36, ty_110, tk_110, ty_112, tk_112, a1, a2, a12, a13, a14, hl, encR_len, hk2, encR_at hx, hw]
        exact ⟨⟨k + 1, hk2, rfl, by rw [← hf, hs, if_neg c1]⟩, by simp only [asI]; omega⟩
    · simp only [wB, E0_tys, appI, bsI, slI, sliceI, sliceS, optI, appendI, srcI, chunk, fillI, fzParts, fzL, fz1, planAt, loadI, storeI, takeI, TK.agg, TK.known, cellsI, fillRow, okCell, bltI, builtinI, lenI, indexAddrI, fieldAddrI, fieldI, indexI, nilChkI, An.isImm, pureC, pure0, impI, impL, impC, cutO, An.imps, List.replicate, decide_true, decide_false, cond_true, cond_false, if_true, if_false, ite_true, ite_false, ne_eq, forall_const, eq_self, reduceCtorEq, reduceIte, Nat.reduceLT, Nat.reduceLeDiff, Nat.reduceAdd, Nat.reduceSub, Nat.reduceMul, Nat.reduceEqDiff, Nat.reduceBEq, Int.reduceLE, Int.reduceLT, Int.reduceToNat, Int.reduceEq, Int.reduceAdd, Int.reduceSub, Int.reduceMul, ty_3, tk_3, ty_36, tk_36, ty_110, tk_110, ty_112, tk_112, a1, a2, a12, a13, a14, hl, encR_len]
      rw [← hf, List.drop_of_length_le (by have := of_decide_eq_false b; simp [tripM]; omega)]; rfl
end Go.Proofs
set_option maxRecDepth 100000
set_option maxHeartbeats 4000000
set_option linter.unusedVariables false
set_option linter.unusedSimpArgs false
namespace Go.Proofs
open Go.Iv
def oList : Option (List Int) → List Int | some v => v | none => []
theorem c36f (o : Option (List Int)) (h : (oList o).length ≤ 17592186044416) : PC Try.prog true 36 [foundIV o] (.sl none (encI (oList o))) [] := by
  cases o with
  | some v => exact c36 (some false) v (by simp) h
  | none => exact c36 (some true) [] (fun _ => rfl) h
theorem findM_len (l : List (Int × List Int)) (c : Int) (n : Nat) (h : ∀ x ∈ l, x.2.length ≤ n) : (oList (findM l c)).length ≤ n := by
  induction l with
  | nil => simp [findM, oList]
  | cons x l ih =>
    unfold findM
    split
    · exact h x (by simp)
    · exact ih (fun y hy => h y (by simp [hy]))
theorem foundIV_pure (o : Option (List Int)) : pureY (foundIV o) = true := by cases o <;> rfl
theorem foundIV_pure0 (o : Option (List Int)) : pureC (foundIV o) = true := by cases o <;> rfl
theorem c82 (l : List (Int × List Int)) (nl : Option Bool) (h91 : PC Try.prog true 91 [] (.sl nl (encM l)) []) (hl : l.length ≤ 4611686018427387904) (hx : ∀ x ∈ l, x.2.length ≤ 100) (c : Int) : PC Try.prog true 82 [.i .i64 c] (.sl none (encI (oList (findM l c)))) [] := by
  have hb := findM_len l c 100 hx
  have k90 := c90 nl l c hl
  have k36 := c36f (findM l c) (by omega)
  refine pcW E0_ok mm (fn := Try.f82) (by kernel_rfl) (by kernel_rfl) (by kernel_rfl) [] (by kernel_rfl) [] (by rw [show Try.f82.ntmps = 1 + 6 by kernel_rfl]; exact Nat.le_add_right _ _) ?_
  intro T hl hx
  have a0 := hx 0 _ rfl
  clear hx
  simp only [bodyOf, Try.f82] at hl ⊢
  simp only [wB, E0_tys, appI, bsI, slI, sliceI, sliceS, optI, appendI, srcI, chunk, fillI, fzParts, fzL, fz1, planAt, loadI, storeI, takeI, TK.agg, TK.known, cellsI, fillRow, okCell, bltI, builtinI, lenI, indexAddrI, fieldAddrI, fieldI, indexI, nilChkI, An.isImm, pureC, pure0, impI, impL, impC, cutO, An.imps, List.replicate, decide_true, decide_false, cond_true, cond_false, if_true, if_false, ite_true, ite_false, ne_eq, forall_const, eq_self, reduceCtorEq, reduceIte, Nat.reduceLT, Nat.reduceLeDiff, Nat.reduceAdd, Nat.reduceSub, Nat.reduceMul, Nat.reduceEqDiff, Nat.reduceBEq, Int.reduceLE, Int.reduceLT, Int.reduceToNat, Int.reduceEq, Int.reduceAdd, Int.reduceSub, Int.reduceMul, ty_3, tk_3, ty_36, tk_36, a0, hl]
  refine callPu0 h91 rfl rfl ?_
  simp only [wB, E0_tys, appI, bsI, slI, sliceI, sliceS, optI, appendI, srcI, chunk, fillI, fzParts, fzL, fz1, planAt, loadI, storeI, takeI, TK.agg, TK.known, cellsI, fillRow, okCell, bltI, builtinI, lenI, indexAddrI, fieldAddrI, fieldI, indexI, nilChkI, An.isImm, pureC, pure0, impI, impL, impC, cutO, An.imps, List.replicate, decide_true, decide_false, cond_true, cond_false, if_true, if_false, ite_true, ite_false, ne_eq, forall_const, eq_self, reduceCtorEq, reduceIte, Nat.reduceLT, Nat.reduceLeDiff, Nat.reduceAdd, Nat.reduceSub, Nat.reduceMul, Nat.reduceEqDiff, Nat.reduceBEq, Int.reduceLE, Int.reduceLT, Int.reduceToNat, Int.reduceEq, Int.reduceAdd, Int.reduceSub, Int.reduceMul, ty_3, tk_3, ty_36, tk_36, a0, hl]
  refine callPu0 k90 rfl (foundIV_pure _) ?_
  simp only [wB, E0_tys, appI, bsI, slI, sliceI, sliceS, optI, appendI, srcI, chunk, fillI, fzParts, fzL, fz1, planAt, loadI, storeI, takeI, TK.agg, TK.known, cellsI, fillRow, okCell, bltI, builtinI, lenI, indexAddrI, fieldAddrI, fieldI, indexI, nilChkI, An.isImm, pureC, pure0, impI, impL, impC, cutO, An.imps, List.replicate, decide_true, decide_false, cond_true, cond_false, if_true, if_false, ite_true, ite_false, ne_eq, forall_const, eq_self, reduceCtorEq, reduceIte, Nat.reduceLT, Nat.reduceLeDiff, Nat.reduceAdd, Nat.reduceSub, Nat.reduceMul, Nat.reduceEqDiff, Nat.reduceBEq, Int.reduceLE, Int.reduceLT, Int.reduceToNat, Int.reduceEq, Int.reduceAdd, Int.reduceSub, Int.reduceMul, ty_3, tk_3, ty_36, tk_36, a0, hl]
  refine callPu0 k36 (by simp [foundIV_pure0]) rfl ?_
  simp only [wB, E0_tys, appI, bsI, slI, sliceI, sliceS, optI, appendI, srcI, chunk, fillI, fzParts, fzL, fz1, planAt, loadI, storeI, takeI, TK.agg, TK.known, cellsI, fillRow, okCell, bltI, builtinI, lenI, indexAddrI, fieldAddrI, fieldI, indexI, nilChkI, An.isImm, pureC, pure0, impI, impL, impC, cutO, An.imps, List.replicate, decide_true, decide_false, cond_true, cond_false, if_true, if_false, ite_true, ite_false, ne_eq, forall_const, eq_self, reduceCtorEq, reduceIte, Nat.reduceLT, Nat.reduceLeDiff, Nat.reduceAdd, Nat.reduceSub, Nat.reduceMul, Nat.reduceEqDiff, Nat.reduceBEq, Int.reduceLE, Int.reduceLT, Int.reduceToNat, Int.reduceEq, Int.reduceAdd, Int.reduceSub, Int.reduceMul, ty_3, tk_3, ty_36, tk_36, a0, hl]
end Go.Proofs
