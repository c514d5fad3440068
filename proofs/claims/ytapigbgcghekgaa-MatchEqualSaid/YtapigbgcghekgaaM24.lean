import Derived.Test.YtapigbgcghekgaaM23
set_option linter.unusedVariables false
set_option linter.unusedSimpArgs false
set_option maxRecDepth 100000
set_option maxHeartbeats 4000000
set_option linter.unusedVariables false
set_option linter.unusedSimpArgs false
namespace Go.Proofs
open Go.Iv
theorem c79 (c : Int) (k : Bool) : PC Try.prog true 79 [.i .i64 c, .b k] (.fn (.func 88) [] [.pi [.i .i64 c], .pi [.b k]]) [] := by
  refine pcW E0_ok mm (fn := Try.f79) (by kernel_rfl) (by kernel_rfl) (by kernel_rfl) [] (by kernel_rfl) [] (by rw [show Try.f79.ntmps = 2 + 4 by kernel_rfl]; exact Nat.le_add_right _ _) ?_
  intro T hl hx
  have a0 := hx 0 _ rfl
  have a1 := hx 1 _ rfl
  clear hx
  simp only [bodyOf, Try.f79] at hl ⊢
  simp only [wB, E0_tys, appI, bsI, slI, sliceI, sliceS, optI, appendI, srcI, chunk, fillI, fzParts, fzL, fz1, planAt, loadI, storeI, takeI, TK.agg, TK.known, cellsI, fillRow, okCell, bltI, builtinI, lenI, indexAddrI, fieldAddrI, fieldI, indexI, nilChkI, An.isImm, pureC, pure0, impI, impL, impC, cutO, An.imps, List.replicate, decide_true, decide_false, cond_true, cond_false, if_true, if_false, ite_true, ite_false, ne_eq, forall_const, eq_self, reduceCtorEq, reduceIte, Nat.reduceLT, Nat.reduceLeDiff, Nat.reduceAdd, Nat.reduceSub, Nat.reduceMul, Nat.reduceEqDiff, Nat.reduceBEq, Int.reduceLE, Int.reduceLT, Int.reduceToNat, Int.reduceEq, Int.reduceAdd, Int.reduceSub, Int.reduceMul, ty_3, tk_3, ty_36, tk_36, ty_4, tk_4, ty_40, tk_40, ty_100, tk_100, a0, a1, hl]
/-- A variable in the box of register 1, whose slice gathers in register 0. -/
def Box (R : List Reg) (xs : List Int) : Prop := ∃ x, liveR R 1 1 = some ⟨true, 36, 1, [[x]]⟩ ∧ Acc 3 1 0 x R (encI xs)
theorem live_get {R : List Reg} {r ver : Nat} {o : Iv.Obj} (h : liveR R r ver = some o) : getR R r = ⟨ver, some o⟩ := by
  unfold liveR at h
  cases hg : getR R r with
  | mk v o' =>
    rw [hg] at h
    cases o' with
    | none => cases h
    | some o' =>
      have h' : (if v = ver then some o' else none) = some o := h
      split at h'
      · rename_i e; rw [e, h']
      · cases h'
/-- One round of 'out = append(out, n)', the variable in its box. -/
theorem Box.app {R : List Reg} {xs : List Int} (h : Box R xs) (n : Int) (hb : xs.length ≤ 1000000) : ∃ x v1 R1 ver o, liveR R 1 1 = some ⟨true, 36, 1, [[x]]⟩ ∧ appI tysL (.reg 0) 36 36 x (.sl (some false) [[.i .i64 n]]) R = some (.rf 0 ver 0 v1, R1) ∧
    liveR R1 1 1 = some ⟨true, 36, 1, [[x]]⟩ ∧ getR R1 0 = ⟨ver, some o⟩ ∧ Box (setR R1 1 ⟨1, some ⟨true, 36, 1, [[.rf 0 ver 0 v1]]⟩⟩) (xs ++ [n]) := by
  obtain ⟨x, hx, hacc⟩ := h
  obtain ⟨v1, R1, e1, hacc1, o1, hR1⟩ := Acc.append (tys := tysL) (ts := 36) (tx := 36) (ei := ⟨.int .i64, 1, 8, [.i .i64 0]⟩) (x := .sl (some false) [[.i .i64 n]]) (new := [[.i .i64 n]]) hacc tk_36 ty_3 ⟨_, tk_36⟩ rfl rfl (by decide) rfl (by decide) (by simp) (by rw [encI_len]; exact room_8 (by simp only [List.length_cons, List.length_nil]; omega))
  rcases hacc1 with ⟨h0, _⟩ | ⟨ver, hv, ho⟩
  · simp at h0
  · subst hv
    have l1 : liveR R1 1 1 = some ⟨true, 36, 1, [[x]]⟩ := by rw [hR1, lr_new_ne _ _ _ _ _ (by decide)]; exact hx
    refine ⟨x, _, R1, ver, _, hx, e1, l1, live_get ho, _, lr_set _ _ _ _, .inr ⟨ver, ?_, ?_⟩⟩
    · simp [encI]
    · rw [lr_set_ne _ _ _ _ _ (by decide), ho, ← encI_app, ← encI_one]
def allF (l : List Int) (k : Bool) : List Int := l.flatMap fun c => partsF c k
theorem allF_len (l : List Int) (k : Bool) : (allF l k).length ≤ 4 * l.length := by
  induction l with
  | nil => simp [allF]
  | cons c l ih =>
    have := (done_all c k).2
    simp [allF] at ih ⊢
    omega
theorem allF_take (l : List Int) (k : Bool) (n : Nat) : (allF (l.take n) k).length ≤ (allF l k).length := by
  have e : allF l k = allF (l.take n) k ++ allF (l.drop n) k := by
    unfold allF
    rw [← List.flatMap_append, List.take_append_drop]
  rw [e]; simp
theorem c62 (nl : Option Bool) (l : List Int) (k : Bool) (hl0 : l.length ≤ 100000) : PC Try.prog true 62 [.sl nl (encI l), .b k] (.sl none (encI (allF l k))) [] := by
  have hlen := allF_len l k
  refine PC_of_Sr (E0_tys.symm.trans E0_ok.tys) (fn := Try.f62) (by kernel_rfl) (by kernel_rfl) (by kernel_rfl) [] (by rw [show Try.f62.ntmps = 2 + 23 by kernel_rfl]; exact Nat.le_add_right _ _) ?_
  intro w0 T hl hx
  have a0 := hx 0 _ rfl
  have a1 := hx 1 _ rfl
  clear hx
  simp only [bodyOf, Try.f62] at hl ⊢
  refine Sr.seq (t := .mk) (Sr.ofW (t := .mk) (an := []) E0_ok mm (by kernel_rfl) ?_)
  simp only [wB, E0_tys, appI, bsI, slI, sliceI, sliceS, optI, appendI, srcI, chunk, fillI, fzParts, fzL, fz1, planAt, loadI, storeI, takeI, TK.agg, TK.known, cellsI, fillRow, okCell, bltI, builtinI, lenI, indexAddrI, fieldAddrI, fieldI, indexI, nilChkI, An.isImm, pureC, pure0, impI, impL, impC, cutO, An.imps, List.replicate, decide_true, decide_false, cond_true, cond_false, if_true, if_false, ite_true, ite_false, ne_eq, forall_const, eq_self, reduceCtorEq, reduceIte, Nat.reduceLT, Nat.reduceLeDiff, Nat.reduceAdd, Nat.reduceSub, Nat.reduceMul, Nat.reduceEqDiff, Nat.reduceBEq, Int.reduceLE, Int.reduceLT, Int.reduceToNat, Int.reduceEq, Int.reduceAdd, Int.reduceSub, Int.reduceMul, ty_3, tk_3, ty_36, tk_36, ty_4, tk_4, ty_40, tk_40, ty_100, tk_100, a0, a1, hl]
  show Sr _ _ _ _ _ _
  refine Sr.seq (t := .mk) (Sr.ofW (t := .mk) (an := [(1, 0, .reg 1)]) E0_ok mm (by kernel_rfl) ?_)
  simp only [wB, E0_tys, appI, bsI, slI, sliceI, sliceS, optI, appendI, srcI, chunk, fillI, fzParts, fzL, fz1, planAt, loadI, storeI, takeI, TK.agg, TK.known, cellsI, fillRow, okCell, bltI, builtinI, lenI, indexAddrI, fieldAddrI, fieldI, indexI, nilChkI, An.isImm, pureC, pure0, impI, impL, impC, cutO, An.imps, List.replicate, decide_true, decide_false, cond_true, cond_false, if_true, if_false, ite_true, ite_false, ne_eq, forall_const, eq_self, reduceCtorEq, reduceIte, Nat.reduceLT, Nat.reduceLeDiff, Nat.reduceAdd, Nat.reduceSub, Nat.reduceMul, Nat.reduceEqDiff, Nat.reduceBEq, Int.reduceLE, Int.reduceLT, Int.reduceToNat, Int.reduceEq, Int.reduceAdd, Int.reduceSub, Int.reduceMul, ty_3, tk_3, ty_36, tk_36, ty_4, tk_4, ty_40, tk_40, ty_100, tk_100, a0, a1, hl]
  show Sr _ _ _ _ _ _
  refine Sr.seq (t := .mk) (Sr.seq (t := .mk) (Sr.ofW (t := .mk) (an := []) E0_ok mm (by kernel_rfl) ?_))
  simp only [wB, E0_tys, appI, bsI, slI, sliceI, sliceS, optI, appendI, srcI, chunk, fillI, fzParts, fzL, fz1, planAt, loadI, storeI, takeI, TK.agg, TK.known, cellsI, fillRow, okCell, bltI, builtinI, lenI, indexAddrI, fieldAddrI, fieldI, indexI, nilChkI, An.isImm, pureC, pure0, impI, impL, impC, cutO, An.imps, List.replicate, decide_true, decide_false, cond_true, cond_false, if_true, if_false, ite_true, ite_false, ne_eq, forall_const, eq_self, reduceCtorEq, reduceIte, Nat.reduceLT, Nat.reduceLeDiff, Nat.reduceAdd, Nat.reduceSub, Nat.reduceMul, Nat.reduceEqDiff, Nat.reduceBEq, Int.reduceLE, Int.reduceLT, Int.reduceToNat, Int.reduceEq, Int.reduceAdd, Int.reduceSub, Int.reduceMul, ty_3, tk_3, ty_36, tk_36, ty_4, tk_4, ty_40, tk_40, ty_100, tk_100, a0, a1, hl, encI_len]
  show Sr _ _ _ _ _ _
  refine Sr.block (t := .mk) (Sr.loop (fun T R => ∃ n : Nat, n ≤ l.length ∧ T.length = 25 ∧ getT T 1 = .b k ∧ getT T 5 = .pt 1 1 0 0 ∧ getT T 9 = .sl nl (encI l) ∧ getT T 10 = .i .i64 (l.length : Int) ∧ getT T 11 = .i .i64 (n : Int) ∧ Box R (allF (l.take n) k))
      (fun T _ => l.length - (asI (getT T 11)).toNat) ⟨0, Nat.zero_le _, ?_, ?_, ?_, ?_, ?_, ?_, ?_⟩ ?_)
  · simp only [sl, hl]
  · simp only [wB, E0_tys, appI, bsI, slI, sliceI, sliceS, optI, appendI, srcI, chunk, fillI, fzParts, fzL, fz1, planAt, loadI, storeI, takeI, TK.agg, TK.known, cellsI, fillRow, okCell, bltI, builtinI, lenI, indexAddrI, fieldAddrI, fieldI, indexI, nilChkI, An.isImm, pureC, pure0, impI, impL, impC, cutO, An.imps, List.replicate, decide_true, decide_false, cond_true, cond_false, if_true, if_false, ite_true, ite_false, ne_eq, forall_const, eq_self, reduceCtorEq, reduceIte, Nat.reduceLT, Nat.reduceLeDiff, Nat.reduceAdd, Nat.reduceSub, Nat.reduceMul, Nat.reduceEqDiff, Nat.reduceBEq, Int.reduceLE, Int.reduceLT, Int.reduceToNat, Int.reduceEq, Int.reduceAdd, Int.reduceSub, Int.reduceMul, ty_3, tk_3, ty_36, tk_36, ty_4, tk_4, ty_40, tk_40, ty_100, tk_100, hl, a1]
  · simp only [wB, E0_tys, appI, bsI, slI, sliceI, sliceS, optI, appendI, srcI, chunk, fillI, fzParts, fzL, fz1, planAt, loadI, storeI, takeI, TK.agg, TK.known, cellsI, fillRow, okCell, bltI, builtinI, lenI, indexAddrI, fieldAddrI, fieldI, indexI, nilChkI, An.isImm, pureC, pure0, impI, impL, impC, cutO, An.imps, List.replicate, decide_true, decide_false, cond_true, cond_false, if_true, if_false, ite_true, ite_false, ne_eq, forall_const, eq_self, reduceCtorEq, reduceIte, Nat.reduceLT, Nat.reduceLeDiff, Nat.reduceAdd, Nat.reduceSub, Nat.reduceMul, Nat.reduceEqDiff, Nat.reduceBEq, Int.reduceLE, Int.reduceLT, Int.reduceToNat, Int.reduceEq, Int.reduceAdd, Int.reduceSub, Int.reduceMul, ty_3, tk_3, ty_36, tk_36, ty_4, tk_4, ty_40, tk_40, ty_100, tk_100, hl]
    rfl
  · simp only [wB, E0_tys, appI, bsI, slI, sliceI, sliceS, optI, appendI, srcI, chunk, fillI, fzParts, fzL, fz1, planAt, loadI, storeI, takeI, TK.agg, TK.known, cellsI, fillRow, okCell, bltI, builtinI, lenI, indexAddrI, fieldAddrI, fieldI, indexI, nilChkI, An.isImm, pureC, pure0, impI, impL, impC, cutO, An.imps, List.replicate, decide_true, decide_false, cond_true, cond_false, if_true, if_false, ite_true, ite_false, ne_eq, forall_const, eq_self, reduceCtorEq, reduceIte, Nat.reduceLT, Nat.reduceLeDiff, Nat.reduceAdd, Nat.reduceSub, Nat.reduceMul, Nat.reduceEqDiff, Nat.reduceBEq, Int.reduceLE, Int.reduceLT, Int.reduceToNat, Int.reduceEq, Int.reduceAdd, Int.reduceSub, Int.reduceMul, ty_3, tk_3, ty_36, tk_36, ty_4, tk_4, ty_40, tk_40, ty_100, tk_100, hl]
  · simp only [wB, E0_tys, appI, bsI, slI, sliceI, sliceS, optI, appendI, srcI, chunk, fillI, fzParts, fzL, fz1, planAt, loadI, storeI, takeI, TK.agg, TK.known, cellsI, fillRow, okCell, bltI, builtinI, lenI, indexAddrI, fieldAddrI, fieldI, indexI, nilChkI, An.isImm, pureC, pure0, impI, impL, impC, cutO, An.imps, List.replicate, decide_true, decide_false, cond_true, cond_false, if_true, if_false, ite_true, ite_false, ne_eq, forall_const, eq_self, reduceCtorEq, reduceIte, Nat.reduceLT, Nat.reduceLeDiff, Nat.reduceAdd, Nat.reduceSub, Nat.reduceMul, Nat.reduceEqDiff, Nat.reduceBEq, Int.reduceLE, Int.reduceLT, Int.reduceToNat, Int.reduceEq, Int.reduceAdd, Int.reduceSub, Int.reduceMul, ty_3, tk_3, ty_36, tk_36, ty_4, tk_4, ty_40, tk_40, ty_100, tk_100, hl]
  · simp only [wB, E0_tys, appI, bsI, slI, sliceI, sliceS, optI, appendI, srcI, chunk, fillI, fzParts, fzL, fz1, planAt, loadI, storeI, takeI, TK.agg, TK.known, cellsI, fillRow, okCell, bltI, builtinI, lenI, indexAddrI, fieldAddrI, fieldI, indexI, nilChkI, An.isImm, pureC, pure0, impI, impL, impC, cutO, An.imps, List.replicate, decide_true, decide_false, cond_true, cond_false, if_true, if_false, ite_true, ite_false, ne_eq, forall_const, eq_self, reduceCtorEq, reduceIte, Nat.reduceLT, Nat.reduceLeDiff, Nat.reduceAdd, Nat.reduceSub, Nat.reduceMul, Nat.reduceEqDiff, Nat.reduceBEq, Int.reduceLE, Int.reduceLT, Int.reduceToNat, Int.reduceEq, Int.reduceAdd, Int.reduceSub, Int.reduceMul, ty_3, tk_3, ty_36, tk_36, ty_4, tk_4, ty_40, tk_40, ty_100, tk_100, hl]
  · exact ⟨_, rfl, Acc.nil _ _ _ _⟩
  · rintro T R ⟨n, hn, hl, a1, a5, a9, a10, a11, hbox⟩
    refine ⟨.mk, Sr.seq (t := .mk) (Sr.ofW (t := .mk) (an := []) E0_ok mm (by kernel_rfl) ?_)⟩
    simp only [wB, E0_tys, appI, bsI, slI, sliceI, sliceS, optI, appendI, srcI, chunk, fillI, fzParts, fzL, fz1, planAt, loadI, storeI, takeI, TK.agg, TK.known, cellsI, fillRow, okCell, bltI, builtinI, lenI, indexAddrI, fieldAddrI, fieldI, indexI, nilChkI, An.isImm, pureC, pure0, impI, impL, impC, cutO, An.imps, List.replicate, decide_true, decide_false, cond_true, cond_false, if_true, if_false, ite_true, ite_false, ne_eq, forall_const, eq_self, reduceCtorEq, reduceIte, Nat.reduceLT, Nat.reduceLeDiff, Nat.reduceAdd, Nat.reduceSub, Nat.reduceMul, Nat.reduceEqDiff, Nat.reduceBEq, Int.reduceLE, Int.reduceLT, Int.reduceToNat, Int.reduceEq, Int.reduceAdd, Int.reduceSub, Int.reduceMul, ty_3, tk_3, ty_36, tk_36, ty_4, tk_4, ty_40, tk_40, ty_100, tk_100, a10, a11, hl]
    show Sr _ _ _ _ _ _
    refine Sr.seq (t := .mk) (Sr.cond (v := decide ((n : Int) < (l.length : Int))) (by simp only [wB, E0_tys, appI, bsI, slI, sliceI, sliceS, optI, appendI, srcI, chunk, fillI, fzParts, fzL, fz1, planAt, loadI, storeI, takeI, TK.agg, TK.known, cellsI, fillRow, okCell, bltI, builtinI, lenI, indexAddrI, fieldAddrI, fieldI, indexI, nilChkI, An.isImm, pureC, pure0, impI, impL, impC, cutO, An.imps, List.replicate, decide_true, decide_false, cond_true, cond_false, if_true, if_false, ite_true, ite_false, ne_eq, forall_const, eq_self, reduceCtorEq, reduceIte, Nat.reduceLT, Nat.reduceLeDiff, Nat.reduceAdd, Nat.reduceSub, Nat.reduceMul, Nat.reduceEqDiff, Nat.reduceBEq, Int.reduceLE, Int.reduceLT, Int.reduceToNat, Int.reduceEq, Int.reduceAdd, Int.reduceSub, Int.reduceMul, ty_3, tk_3, ty_36, tk_36, ty_4, tk_4, ty_40, tk_40, ty_100, tk_100, hl]) (fun hq => Sr.ofW (t := .mk) (an := []) E0_ok mm (by kernel_rfl) ?_) (fun hq => Sr.ofW (t := .mk) (an := []) E0_ok mm (by kernel_rfl) ?_))
    · have hn2 : n < l.length := by simpa using hq
      obtain ⟨c, hc⟩ := at_lt hn2
      have hw : IntKind.i64.wrap ((n : Int) + 1) = ((n + 1 : Nat) : Int) := by rw [wrap64] <;> omega
      have hst : allF (l.take (n + 1)) k = allF (l.take n) k ++ partsF c k := by rw [take_succ' hc]; simp [allF]
      have hle := allF_take l k n
      simp only [wB, E0_tys, appI, bsI, slI, sliceI, sliceS, optI, appendI, srcI, chunk, fillI, fzParts, fzL, fz1, planAt, loadI, storeI, takeI, TK.agg, TK.known, cellsI, fillRow, okCell, bltI, builtinI, lenI, indexAddrI, fieldAddrI, fieldI, indexI, nilChkI, An.isImm, pureC, pure0, impI, impL, impC, cutO, An.imps, List.replicate, decide_true, decide_false, cond_true, cond_false, if_true, if_false, ite_true, ite_false, ne_eq, forall_const, eq_self, reduceCtorEq, reduceIte, Nat.reduceLT, Nat.reduceLeDiff, Nat.reduceAdd, Nat.reduceSub, Nat.reduceMul, Nat.reduceEqDiff, Nat.reduceBEq, Int.reduceLE, Int.reduceLT, Int.reduceToNat, Int.reduceEq, Int.reduceAdd, Int.reduceSub, Int.reduceMul, ty_3, tk_3, ty_36, tk_36, ty_4, tk_4, ty_40, tk_40, ty_100, tk_100]
      show Sr _ _ _ _ _ _
      refine Sr.seq (t := .mk) (Sr.block (t := .mk) (Sr.seq (t := .mk) (Sr.ofW (t := .mk) (an := []) E0_ok mm (by kernel_rfl) ?_)))
      simp only [wB, E0_tys, appI, bsI, slI, sliceI, sliceS, optI, appendI, srcI, chunk, fillI, fzParts, fzL, fz1, planAt, loadI, storeI, takeI, TK.agg, TK.known, cellsI, fillRow, okCell, bltI, builtinI, lenI, indexAddrI, fieldAddrI, fieldI, indexI, nilChkI, An.isImm, pureC, pure0, impI, impL, impC, cutO, An.imps, List.replicate, decide_true, decide_false, cond_true, cond_false, if_true, if_false, ite_true, ite_false, ne_eq, forall_const, eq_self, reduceCtorEq, reduceIte, Nat.reduceLT, Nat.reduceLeDiff, Nat.reduceAdd, Nat.reduceSub, Nat.reduceMul, Nat.reduceEqDiff, Nat.reduceBEq, Int.reduceLE, Int.reduceLT, Int.reduceToNat, Int.reduceEq, Int.reduceAdd, Int.reduceSub, Int.reduceMul, ty_3, tk_3, ty_36, tk_36, ty_4, tk_4, ty_40, tk_40, ty_100, tk_100, a9, a11, hl, encI_len, hn2, encI_at hc]
      show Sr _ _ _ _ _ _
      refine Sr.seq (t := .mk) (Sr.ofW (t := .mk) (an := []) E0_ok mm (by kernel_rfl) ?_)
      simp only [wB, E0_tys, appI, bsI, slI, sliceI, sliceS, optI, appendI, srcI, chunk, fillI, fzParts, fzL, fz1, planAt, loadI, storeI, takeI, TK.agg, TK.known, cellsI, fillRow, okCell, bltI, builtinI, lenI, indexAddrI, fieldAddrI, fieldI, indexI, nilChkI, An.isImm, pureC, pure0, impI, impL, impC, cutO, An.imps, List.replicate, decide_true, decide_false, cond_true, cond_false, if_true, if_false, ite_true, ite_false, ne_eq, forall_const, eq_self, reduceCtorEq, reduceIte, Nat.reduceLT, Nat.reduceLeDiff, Nat.reduceAdd, Nat.reduceSub, Nat.reduceMul, Nat.reduceEqDiff, Nat.reduceBEq, Int.reduceLE, Int.reduceLT, Int.reduceToNat, Int.reduceEq, Int.reduceAdd, Int.reduceSub, Int.reduceMul, ty_3, tk_3, ty_36, tk_36, ty_4, tk_4, ty_40, tk_40, ty_100, tk_100, a1, hl]
      refine callPu0 (c79 c k) rfl rfl ?_
      simp only [wB, E0_tys, appI, bsI, slI, sliceI, sliceS, optI, appendI, srcI, chunk, fillI, fzParts, fzL, fz1, planAt, loadI, storeI, takeI, TK.agg, TK.known, cellsI, fillRow, okCell, bltI, builtinI, lenI, indexAddrI, fieldAddrI, fieldI, indexI, nilChkI, An.isImm, pureC, pure0, impI, impL, impC, cutO, An.imps, List.replicate, decide_true, decide_false, cond_true, cond_false, if_true, if_false, ite_true, ite_false, ne_eq, forall_const, eq_self, reduceCtorEq, reduceIte, Nat.reduceLT, Nat.reduceLeDiff, Nat.reduceAdd, Nat.reduceSub, Nat.reduceMul, Nat.reduceEqDiff, Nat.reduceBEq, Int.reduceLE, Int.reduceLT, Int.reduceToNat, Int.reduceEq, Int.reduceAdd, Int.reduceSub, Int.reduceMul, ty_3, tk_3, ty_36, tk_36, ty_4, tk_4, ty_40, tk_40, ty_100, tk_100, hl]
      show Sr _ _ _ _ _ _
      refine Sr.block (t := .mk) (Sr.range (an := [(7, 3, .reg 0)]) E0_ok (by simp only [wB, E0_tys, appI, bsI, slI, sliceI, sliceS, optI, appendI, srcI, chunk, fillI, fzParts, fzL, fz1, planAt, loadI, storeI, takeI, TK.agg, TK.known, cellsI, fillRow, okCell, bltI, builtinI, lenI, indexAddrI, fieldAddrI, fieldI, indexI, nilChkI, An.isImm, pureC, pure0, impI, impL, impC, cutO, An.imps, List.replicate, decide_true, decide_false, cond_true, cond_false, if_true, if_false, ite_true, ite_false, ne_eq, forall_const, eq_self, reduceCtorEq, reduceIte, Nat.reduceLT, Nat.reduceLeDiff, Nat.reduceAdd, Nat.reduceSub, Nat.reduceMul, Nat.reduceEqDiff, Nat.reduceBEq, Int.reduceLE, Int.reduceLT, Int.reduceToNat, Int.reduceEq, Int.reduceAdd, Int.reduceSub, Int.reduceMul, ty_3, tk_3, ty_36, tk_36, ty_4, tk_4, ty_40, tk_40, ty_100, tk_100, hl]) rfl (it88 c k (done_all c k).1) (by kernel_rfl) (by kernel_rfl) (fun pre R => Box R (allF (l.take n) k ++ pre)) (by rw [List.append_nil]; exact hbox) ?_ ?_)
      · rintro pre x R hpre hb
        have hpl : pre.length + 1 ≤ 4 := by
          obtain ⟨t, ht⟩ := hpre
          have := (done_all c k).2
          rw [← ht] at this
          simp at this
          omega
        obtain ⟨y, v1, R1, ver, o2, hy, e1, l1, ok1, hb1⟩ := hb.app x (by simp; omega)
        simp only [wB, E0_tys, bsI, slI, sliceI, sliceS, optI, appendI, srcI, chunk, fillI, fzParts, fzL, fz1, planAt, loadI, storeI, takeI, TK.agg, TK.known, cellsI, fillRow, okCell, bltI, builtinI, lenI, indexAddrI, fieldAddrI, fieldI, indexI, nilChkI, An.isImm, pureC, pure0, impI, impL, impC, cutO, An.imps, List.replicate, decide_true, decide_false, cond_true, cond_false, if_true, if_false, ite_true, ite_false, ne_eq, forall_const, eq_self, reduceCtorEq, reduceIte, Nat.reduceLT, Nat.reduceLeDiff, Nat.reduceAdd, Nat.reduceSub, Nat.reduceMul, Nat.reduceEqDiff, Nat.reduceBEq, Int.reduceLE, Int.reduceLT, Int.reduceToNat, Int.reduceEq, Int.reduceAdd, Int.reduceSub, Int.reduceMul, ty_3, tk_3, ty_36, tk_36, ty_4, tk_4, ty_40, tk_40, ty_100, tk_100, hl, a5, hy, e1, l1, ok1, decide_eq_true_eq]
        rw [List.append_assoc] at hb1
        exact hb1
      · intro R hb
        show Sr _ _ _ _ _ _
        refine Sr.ofW (t := .mk) (an := []) E0_ok mm (by kernel_rfl) ?_
        simp only [wB, E0_tys, appI, bsI, slI, sliceI, sliceS, optI, appendI, srcI, chunk, fillI, fzParts, fzL, fz1, planAt, loadI, storeI, takeI, TK.agg, TK.known, cellsI, fillRow, okCell, bltI, builtinI, lenI, indexAddrI, fieldAddrI, fieldI, indexI, nilChkI, An.isImm, pureC, pure0, impI, impL, impC, cutO, An.imps, List.replicate, decide_true, decide_false, cond_true, cond_false, if_true, if_false, ite_true, ite_false, ne_eq, forall_const, eq_self, reduceCtorEq, reduceIte, Nat.reduceLT, Nat.reduceLeDiff, Nat.reduceAdd, Nat.reduceSub, Nat.reduceMul, Nat.reduceEqDiff, Nat.reduceBEq, Int.reduceLE, Int.reduceLT, Int.reduceToNat, Int.reduceEq, Int.reduceAdd, Int.reduceSub, Int.reduceMul, ty_3, tk_3, ty_36, tk_36, ty_4, tk_4, ty_40, tk_40, ty_100, tk_100, a1, a5, a9, a10, a11, hl, hw]
        exact ⟨⟨n + 1, hn2, rfl, by rw [hst]; exact hb⟩, by simp only [asI]; omega⟩
    · have hn2 : n = l.length := by have := of_decide_eq_false hq; omega
      subst hn2
      rw [List.take_length] at hbox
      obtain ⟨x, hx, hacc⟩ := hbox
      simp only [wB, E0_tys, appI, bsI, slI, sliceI, sliceS, optI, appendI, srcI, chunk, fillI, fzParts, fzL, fz1, planAt, loadI, storeI, takeI, TK.agg, TK.known, cellsI, fillRow, okCell, bltI, builtinI, lenI, indexAddrI, fieldAddrI, fieldI, indexI, nilChkI, An.isImm, pureC, pure0, impI, impL, impC, cutO, An.imps, List.replicate, decide_true, decide_false, cond_true, cond_false, if_true, if_false, ite_true, ite_false, ne_eq, forall_const, eq_self, reduceCtorEq, reduceIte, Nat.reduceLT, Nat.reduceLeDiff, Nat.reduceAdd, Nat.reduceSub, Nat.reduceMul, Nat.reduceEqDiff, Nat.reduceBEq, Int.reduceLE, Int.reduceLT, Int.reduceToNat, Int.reduceEq, Int.reduceAdd, Int.reduceSub, Int.reduceMul, ty_3, tk_3, ty_36, tk_36, ty_4, tk_4, ty_40, tk_40, ty_100, tk_100]
      show Sr _ _ _ _ _ _
      refine Sr.ofW (t := .mk) (an := []) E0_ok mm (by kernel_rfl) ?_
      simp only [wB, E0_tys, appI, bsI, slI, sliceI, sliceS, optI, appendI, srcI, chunk, fillI, fzParts, fzL, fz1, planAt, loadI, storeI, takeI, TK.agg, TK.known, cellsI, fillRow, okCell, bltI, builtinI, lenI, indexAddrI, fieldAddrI, fieldI, indexI, nilChkI, An.isImm, pureC, pure0, impI, impL, impC, cutO, An.imps, List.replicate, decide_true, decide_false, cond_true, cond_false, if_true, if_false, ite_true, ite_false, ne_eq, forall_const, eq_self, reduceCtorEq, reduceIte, Nat.reduceLT, Nat.reduceLeDiff, Nat.reduceAdd, Nat.reduceSub, Nat.reduceMul, Nat.reduceEqDiff, Nat.reduceBEq, Int.reduceLE, Int.reduceLT, Int.reduceToNat, Int.reduceEq, Int.reduceAdd, Int.reduceSub, Int.reduceMul, ty_3, tk_3, ty_36, tk_36, ty_4, tk_4, ty_40, tk_40, ty_100, tk_100, a5, hl, hx]
      exact hacc.out
end Go.Proofs
