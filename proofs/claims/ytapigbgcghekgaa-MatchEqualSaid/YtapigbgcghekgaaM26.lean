import Derived.Test.YtapigbgcghekgaaM25
set_option linter.unusedVariables false
set_option linter.unusedSimpArgs false
set_option maxRecDepth 100000
set_option maxHeartbeats 4000000
set_option linter.unusedVariables false
set_option linter.unusedSimpArgs false
namespace Go.Proofs
open Go.Iv
theorem st_boxR (E : Env) (T : List IV) (R : List Reg) (K : IV → List Reg → Prop) (tk : Tok K) (r : Nat) (e : TypeId) (x : Operand) : stepW E (.reg r) (.box e x) T R K tk ↔
    onO (if (cellsI (evI T x)).all (okCell R) then some (IV.pt r (verR R r) 0 0, newR R r { box := true, ety := e, sz := (cellsI (evI T x)).length, rows := [cellsI (evI T x)] }) else none) (fun p => K p.1 p.2) .mk := by
  simp only [stepW, opI]
theorem c80 (f : FuncId) (caps : List IV) (zs : List Int) (hit : IT Try.prog f caps zs) (hp : caps.all pureC = true) (hz : zs.length ≤ 100000) : PC Try.prog true 80 [.sl (some true) [], .fn (.func f) [] caps] (.sl none (encI zs)) [] := by
  refine PC_of_Sr (E0_tys.symm.trans E0_ok.tys) (fn := Try.f80) (by kernel_rfl) (by kernel_rfl) (by kernel_rfl) [] (by rw [show Try.f80.ntmps = 2 + 11 by kernel_rfl]; exact Nat.le_add_right _ _) ?_
  intro w0 T hl hx
  have a0 := hx 0 _ rfl
  have a1 := hx 1 _ rfl
  clear hx
  simp only [bodyOf, Try.f80] at hl ⊢
  refine Sr.seq (t := .mk) (Sr.ofW (t := .mk) (an := [(0, 0, .reg 1)]) E0_ok mm (by kernel_rfl) ?_)
  simp only [wB, E0_tys, appI, bsI, slI, sliceI, sliceS, optI, appendI, srcI, chunk, fillI, fzParts, fzL, fz1, planAt, loadI, storeI, takeI, TK.agg, TK.known, cellsI, fillRow, okCell, bltI, builtinI, lenI, indexAddrI, fieldAddrI, fieldI, indexI, nilChkI, An.isImm, pureC, pure0, impI, impL, impC, cutO, An.imps, List.replicate, decide_true, decide_false, cond_true, cond_false, if_true, if_false, ite_true, ite_false, ne_eq, forall_const, eq_self, reduceCtorEq, reduceIte, Nat.reduceLT, Nat.reduceLeDiff, Nat.reduceAdd, Nat.reduceSub, Nat.reduceMul, Nat.reduceEqDiff, Nat.reduceBEq, Int.reduceLE, Int.reduceLT, Int.reduceToNat, Int.reduceEq, Int.reduceAdd, Int.reduceSub, Int.reduceMul, ty_3, tk_3, ty_36, tk_36, ty_4, tk_4, ty_40, tk_40, ty_100, tk_100, a0, a1, hl, st_boxR]
  show Sr _ _ _ _ _ _
  refine Sr.seq (t := .mk) (Sr.seq (t := .mk) (Sr.ofW (t := .mk) (an := []) E0_ok mm (by kernel_rfl) ?_))
  simp only [wB, E0_tys, appI, bsI, slI, sliceI, sliceS, optI, appendI, srcI, chunk, fillI, fzParts, fzL, fz1, planAt, loadI, storeI, takeI, TK.agg, TK.known, cellsI, fillRow, okCell, bltI, builtinI, lenI, indexAddrI, fieldAddrI, fieldI, indexI, nilChkI, An.isImm, pureC, pure0, impI, impL, impC, cutO, An.imps, List.replicate, decide_true, decide_false, cond_true, cond_false, if_true, if_false, ite_true, ite_false, ne_eq, forall_const, eq_self, reduceCtorEq, reduceIte, Nat.reduceLT, Nat.reduceLeDiff, Nat.reduceAdd, Nat.reduceSub, Nat.reduceMul, Nat.reduceEqDiff, Nat.reduceBEq, Int.reduceLE, Int.reduceLT, Int.reduceToNat, Int.reduceEq, Int.reduceAdd, Int.reduceSub, Int.reduceMul, ty_3, tk_3, ty_36, tk_36, ty_4, tk_4, ty_40, tk_40, ty_100, tk_100, a1, hl]
  show Sr _ _ _ _ _ _
  refine Sr.block (t := .mk) (Sr.range (an := [(3, 3, .reg 0)]) E0_ok (by simp only [wB, E0_tys, appI, bsI, slI, sliceI, sliceS, optI, appendI, srcI, chunk, fillI, fzParts, fzL, fz1, planAt, loadI, storeI, takeI, TK.agg, TK.known, cellsI, fillRow, okCell, bltI, builtinI, lenI, indexAddrI, fieldAddrI, fieldI, indexI, nilChkI, An.isImm, pureC, pure0, impI, impL, impC, cutO, An.imps, List.replicate, decide_true, decide_false, cond_true, cond_false, if_true, if_false, ite_true, ite_false, ne_eq, forall_const, eq_self, reduceCtorEq, reduceIte, Nat.reduceLT, Nat.reduceLeDiff, Nat.reduceAdd, Nat.reduceSub, Nat.reduceMul, Nat.reduceEqDiff, Nat.reduceBEq, Int.reduceLE, Int.reduceLT, Int.reduceToNat, Int.reduceEq, Int.reduceAdd, Int.reduceSub, Int.reduceMul, ty_3, tk_3, ty_36, tk_36, ty_4, tk_4, ty_40, tk_40, ty_100, tk_100, hl]) hp hit (by kernel_rfl) (by kernel_rfl) (fun pre R => Box R pre) ⟨_, rfl, Acc.nil _ _ _ _⟩ ?_ ?_)
  · rintro pre x R hpre hb
    have hpl : pre.length + 1 ≤ zs.length := by
      obtain ⟨t, ht⟩ := hpre
      rw [← ht]
      simp
    obtain ⟨y, v1, R1, ver, o2, hy, e1, l1, ok1, hb1⟩ := hb.app x (by omega)
    simp only [wB, E0_tys, bsI, slI, sliceI, sliceS, optI, appendI, srcI, chunk, fillI, fzParts, fzL, fz1, planAt, loadI, storeI, takeI, TK.agg, TK.known, cellsI, fillRow, okCell, bltI, builtinI, lenI, indexAddrI, fieldAddrI, fieldI, indexI, nilChkI, An.isImm, pureC, pure0, impI, impL, impC, cutO, An.imps, List.replicate, decide_true, decide_false, cond_true, cond_false, if_true, if_false, ite_true, ite_false, ne_eq, forall_const, eq_self, reduceCtorEq, reduceIte, Nat.reduceLT, Nat.reduceLeDiff, Nat.reduceAdd, Nat.reduceSub, Nat.reduceMul, Nat.reduceEqDiff, Nat.reduceBEq, Int.reduceLE, Int.reduceLT, Int.reduceToNat, Int.reduceEq, Int.reduceAdd, Int.reduceSub, Int.reduceMul, ty_3, tk_3, ty_36, tk_36, ty_4, tk_4, ty_40, tk_40, ty_100, tk_100, hl, hy, e1, l1, ok1, decide_eq_true_eq, verR, getR]
    exact hb1
  · rintro R ⟨x, hx, hacc⟩
    show Sr _ _ _ _ _ _
    refine Sr.ofW (t := .mk) (an := []) E0_ok mm (by kernel_rfl) ?_
    simp only [wB, E0_tys, appI, bsI, slI, sliceI, sliceS, optI, appendI, srcI, chunk, fillI, fzParts, fzL, fz1, planAt, loadI, storeI, takeI, TK.agg, TK.known, cellsI, fillRow, okCell, bltI, builtinI, lenI, indexAddrI, fieldAddrI, fieldI, indexI, nilChkI, An.isImm, pureC, pure0, impI, impL, impC, cutO, An.imps, List.replicate, decide_true, decide_false, cond_true, cond_false, if_true, if_false, ite_true, ite_false, ne_eq, forall_const, eq_self, reduceCtorEq, reduceIte, Nat.reduceLT, Nat.reduceLeDiff, Nat.reduceAdd, Nat.reduceSub, Nat.reduceMul, Nat.reduceEqDiff, Nat.reduceBEq, Int.reduceLE, Int.reduceLT, Int.reduceToNat, Int.reduceEq, Int.reduceAdd, Int.reduceSub, Int.reduceMul, ty_3, tk_3, ty_36, tk_36, ty_4, tk_4, ty_40, tk_40, ty_100, tk_100, hl, hx, verR, getR]
    exact hacc.out
theorem c66 (f : FuncId) (caps : List IV) (zs : List Int) (hit : IT Try.prog f caps zs) (hp : caps.all pureC = true) (hp0 : caps.all pure0 = true) (hz : zs.length ≤ 100000) : PC Try.prog true 66 [.fn (.func f) [] caps] (.sl none (encI zs)) [] := by
  refine pcW E0_ok mm (fn := Try.f66) (by kernel_rfl) (by kernel_rfl) (by kernel_rfl) [] (by kernel_rfl) [] (by rw [show Try.f66.ntmps = 1 + 4 by kernel_rfl]; exact Nat.le_add_right _ _) ?_
  intro T hl hx
  have a0 := hx 0 _ rfl
  clear hx
  simp only [bodyOf, Try.f66] at hl ⊢
  simp only [wB, E0_tys, appI, bsI, slI, sliceI, sliceS, optI, appendI, srcI, chunk, fillI, fzParts, fzL, fz1, planAt, loadI, storeI, takeI, TK.agg, TK.known, cellsI, fillRow, okCell, bltI, builtinI, lenI, indexAddrI, fieldAddrI, fieldI, indexI, nilChkI, An.isImm, pureC, pure0, impI, impL, impC, cutO, An.imps, List.replicate, decide_true, decide_false, cond_true, cond_false, if_true, if_false, ite_true, ite_false, ne_eq, forall_const, eq_self, reduceCtorEq, reduceIte, Nat.reduceLT, Nat.reduceLeDiff, Nat.reduceAdd, Nat.reduceSub, Nat.reduceMul, Nat.reduceEqDiff, Nat.reduceBEq, Int.reduceLE, Int.reduceLT, Int.reduceToNat, Int.reduceEq, Int.reduceAdd, Int.reduceSub, Int.reduceMul, ty_3, tk_3, ty_36, tk_36, ty_4, tk_4, ty_40, tk_40, ty_100, tk_100, a0, hl]
  refine callPu0 (c80 f caps zs hit hp hz) (by simp [pureC, hp0]) rfl ?_
  simp only [wB, E0_tys, appI, bsI, slI, sliceI, sliceS, optI, appendI, srcI, chunk, fillI, fzParts, fzL, fz1, planAt, loadI, storeI, takeI, TK.agg, TK.known, cellsI, fillRow, okCell, bltI, builtinI, lenI, indexAddrI, fieldAddrI, fieldI, indexI, nilChkI, An.isImm, pureC, pure0, impI, impL, impC, cutO, An.imps, List.replicate, decide_true, decide_false, cond_true, cond_false, if_true, if_false, ite_true, ite_false, ne_eq, forall_const, eq_self, reduceCtorEq, reduceIte, Nat.reduceLT, Nat.reduceLeDiff, Nat.reduceAdd, Nat.reduceSub, Nat.reduceMul, Nat.reduceEqDiff, Nat.reduceBEq, Int.reduceLE, Int.reduceLT, Int.reduceToNat, Int.reduceEq, Int.reduceAdd, Int.reduceSub, Int.reduceMul, ty_3, tk_3, ty_36, tk_36, ty_4, tk_4, ty_40, tk_40, ty_100, tk_100, hl]
theorem c67 (nl : Option Bool) (s : List Int) : PC Try.prog true 67 [.sl nl (encI s)] (.fn (.func 81) [] [.pi [.sl nl (encI s)]]) [] := by
  refine pcW E0_ok mm (fn := Try.f67) (by kernel_rfl) (by kernel_rfl) (by kernel_rfl) [] (by kernel_rfl) [] (by rw [show Try.f67.ntmps = 1 + 3 by kernel_rfl]; exact Nat.le_add_right _ _) ?_
  intro T hl hx
  have a0 := hx 0 _ rfl
  clear hx
  simp only [bodyOf, Try.f67] at hl ⊢
  simp only [wB, E0_tys, appI, bsI, slI, sliceI, sliceS, optI, appendI, srcI, chunk, fillI, fzParts, fzL, fz1, planAt, loadI, storeI, takeI, TK.agg, TK.known, cellsI, fillRow, okCell, bltI, builtinI, lenI, indexAddrI, fieldAddrI, fieldI, indexI, nilChkI, An.isImm, pureC, pure0, impI, impL, impC, cutO, An.imps, List.replicate, decide_true, decide_false, cond_true, cond_false, if_true, if_false, ite_true, ite_false, ne_eq, forall_const, eq_self, reduceCtorEq, reduceIte, Nat.reduceLT, Nat.reduceLeDiff, Nat.reduceAdd, Nat.reduceSub, Nat.reduceMul, Nat.reduceEqDiff, Nat.reduceBEq, Int.reduceLE, Int.reduceLT, Int.reduceToNat, Int.reduceEq, Int.reduceAdd, Int.reduceSub, Int.reduceMul, ty_3, tk_3, ty_36, tk_36, ty_4, tk_4, ty_40, tk_40, ty_100, tk_100, a0, hl]
theorem c49 (c : Int) : PC Try.prog true 49 [.i .i64 c] (.sl none (encI (fold1 c))) [] := by
  have hf := fold1_len c
  have e : foldsF [c] = fold1 c := by simp [foldsF]
  have k66 := c66 81 [.pi [.sl (some false) (encI [c])]] (foldsF [c]) (it81 _ _ (by simp)) rfl rfl (by rw [e]; omega)
  rw [e] at k66
  refine pcW E0_ok mm (fn := Try.f49) (by kernel_rfl) (by kernel_rfl) (by kernel_rfl) [] (by kernel_rfl) [] (by rw [show Try.f49.ntmps = 1 + 6 by kernel_rfl]; exact Nat.le_add_right _ _) ?_
  intro T hl hx
  have a0 := hx 0 _ rfl
  clear hx
  simp only [bodyOf, Try.f49] at hl ⊢
  simp only [wB, E0_tys, appI, bsI, slI, sliceI, sliceS, optI, appendI, srcI, chunk, fillI, fzParts, fzL, fz1, planAt, loadI, storeI, takeI, TK.agg, TK.known, cellsI, fillRow, okCell, bltI, builtinI, lenI, indexAddrI, fieldAddrI, fieldI, indexI, nilChkI, An.isImm, pureC, pure0, impI, impL, impC, cutO, An.imps, List.replicate, decide_true, decide_false, cond_true, cond_false, if_true, if_false, ite_true, ite_false, ne_eq, forall_const, eq_self, reduceCtorEq, reduceIte, Nat.reduceLT, Nat.reduceLeDiff, Nat.reduceAdd, Nat.reduceSub, Nat.reduceMul, Nat.reduceEqDiff, Nat.reduceBEq, Int.reduceLE, Int.reduceLT, Int.reduceToNat, Int.reduceEq, Int.reduceAdd, Int.reduceSub, Int.reduceMul, ty_3, tk_3, ty_36, tk_36, ty_4, tk_4, ty_40, tk_40, ty_100, tk_100, a0, hl]
  refine callPu0 (c67 (some false) [c]) rfl rfl ?_
  simp only [wB, E0_tys, appI, bsI, slI, sliceI, sliceS, optI, appendI, srcI, chunk, fillI, fzParts, fzL, fz1, planAt, loadI, storeI, takeI, TK.agg, TK.known, cellsI, fillRow, okCell, bltI, builtinI, lenI, indexAddrI, fieldAddrI, fieldI, indexI, nilChkI, An.isImm, pureC, pure0, impI, impL, impC, cutO, An.imps, List.replicate, decide_true, decide_false, cond_true, cond_false, if_true, if_false, ite_true, ite_false, ne_eq, forall_const, eq_self, reduceCtorEq, reduceIte, Nat.reduceLT, Nat.reduceLeDiff, Nat.reduceAdd, Nat.reduceSub, Nat.reduceMul, Nat.reduceEqDiff, Nat.reduceBEq, Int.reduceLE, Int.reduceLT, Int.reduceToNat, Int.reduceEq, Int.reduceAdd, Int.reduceSub, Int.reduceMul, ty_3, tk_3, ty_36, tk_36, ty_4, tk_4, ty_40, tk_40, ty_100, tk_100, hl]
  refine callPu0 k66 rfl rfl ?_
  simp only [wB, E0_tys, appI, bsI, slI, sliceI, sliceS, optI, appendI, srcI, chunk, fillI, fzParts, fzL, fz1, planAt, loadI, storeI, takeI, TK.agg, TK.known, cellsI, fillRow, okCell, bltI, builtinI, lenI, indexAddrI, fieldAddrI, fieldI, indexI, nilChkI, An.isImm, pureC, pure0, impI, impL, impC, cutO, An.imps, List.replicate, decide_true, decide_false, cond_true, cond_false, if_true, if_false, ite_true, ite_false, ne_eq, forall_const, eq_self, reduceCtorEq, reduceIte, Nat.reduceLT, Nat.reduceLeDiff, Nat.reduceAdd, Nat.reduceSub, Nat.reduceMul, Nat.reduceEqDiff, Nat.reduceBEq, Int.reduceLE, Int.reduceLT, Int.reduceToNat, Int.reduceEq, Int.reduceAdd, Int.reduceSub, Int.reduceMul, ty_3, tk_3, ty_36, tk_36, ty_4, tk_4, ty_40, tk_40, ty_100, tk_100, hl]
end Go.Proofs
set_option maxRecDepth 100000
set_option maxHeartbeats 4000000
set_option linter.unusedVariables false
set_option linter.unusedSimpArgs false
namespace Go.Proofs
open Go.Iv
theorem acc_appL {r : Nat} {v : IV} {R : List Reg} {xs : List Int} (h : Acc 3 1 r v R (encI xs)) (nl : Option Bool) (ys : List Int) (hb : xs.length + ys.length ≤ 10000000) :
    ∃ v1 R1, appI tysL (.reg r) 36 36 v (.sl nl (encI ys)) R = some (v1, R1) ∧ Acc 3 1 r v1 R1 (encI (xs ++ ys)) ∧ ∃ o, R1 = newR R r o := by
  obtain ⟨v1, R1, e1, hacc1, o1, hR1⟩ := Acc.append (tys := tysL) (ts := 36) (tx := 36) (ei := ⟨.int .i64, 1, 8, [.i .i64 0]⟩) (x := .sl nl (encI ys)) (new := encI ys) h tk_36 ty_3 ⟨_, tk_36⟩ rfl (encI_ok _) (by decide) rfl (by decide) (by rw [encI_len]; omega) (by rw [encI_len, encI_len]; exact room_8 (by omega))
  exact ⟨v1, R1, e1, by rw [← encI_app]; exact hacc1, o1, hR1⟩
theorem acc_app1 {r : Nat} {v : IV} {R : List Reg} {xs : List Int} (h : Acc 3 1 r v R (encI xs)) (y : Int) (hb : xs.length + 1 ≤ 10000000) :
    ∃ v1 R1, appI tysL (.reg r) 36 36 v (.sl (some false) [[.i .i64 y]]) R = some (v1, R1) ∧ Acc 3 1 r v1 R1 (encI (xs ++ [y])) ∧ ∃ o, R1 = newR R r o :=
  acc_appL h (some false) [y] (by simpa using hb)
theorem drop_at {α : Type} {l : List α} {k : Nat} {x : α} (h : l[k]? = some x) : l.drop k = x :: l.drop (k + 1) := by
  have hk : k < l.length := (List.getElem?_eq_some_iff.1 h).1
  have e : l[k] = x := (List.getElem?_eq_some_iff.1 h).2
  rw [List.drop_eq_getElem_cons hk, e]
def map1 (rule c : Int) : List Int := if nothingF c then [] else if spaceF c then [32] else if rule = 1 ∨ rule = 2 then fold1 c else [c]
def mapF (rule : Int) (s : List Int) : List Int := s.flatMap (map1 rule)
theorem map1_len (rule c : Int) : (map1 rule c).length ≤ 3 := by
  have := fold1_len c
  unfold map1
  split
  · simp
  · split
    · simp
    · split
      · assumption
      · simp
theorem flatMap_len {f : Int → List Int} {n : Nat} (h : ∀ c, (f c).length ≤ n) : ∀ l : List Int, (l.flatMap f).length ≤ n * l.length
  | [] => by simp
  | c :: l => by
    have := flatMap_len h l
    have := h c
    rw [List.flatMap_cons, List.length_append, List.length_cons, Nat.mul_succ]
    omega
theorem mapF_len (rule : Int) (s : List Int) : (mapF rule s).length ≤ 3 * s.length := flatMap_len (map1_len rule) s
theorem c33 (nl : Option Bool) (s : List Int) (rule : Int) (hl0 : s.length ≤ 100000) : PC Try.prog true 33 [.sl nl (encI s), .i .i64 rule] (.sl none (encI (mapF rule s))) [] := by
  refine pcK E0_ok mm (fn := Try.f33) (by kernel_rfl) (by kernel_rfl) (by kernel_rfl) [(8, 2, .reg 0), (10, 3, .reg 0), (5, 3, .reg 0)] (by kernel_rfl) [] (by rw [show Try.f33.ntmps = 2 + 38 by kernel_rfl]; exact Nat.le_add_right _ _) ?_
  intro T hl hx
  have a0 := hx 0 _ rfl
  have a1 := hx 1 _ rfl
  clear hx
  simp only [bodyOf, Try.f33] at hl ⊢
  simp only [wB, E0_tys, bsI, slI, sliceI, sliceS, optI, appendI, srcI, chunk, fillI, fzParts, fzL, fz1, planAt, loadI, storeI, takeI, TK.agg, TK.known, cellsI, fillRow, okCell, bltI, builtinI, lenI, indexAddrI, fieldAddrI, fieldI, indexI, nilChkI, An.isImm, pureC, pure0, impI, impL, impC, cutO, An.imps, List.replicate, decide_true, decide_false, cond_true, cond_false, if_true, if_false, ite_true, ite_false, ne_eq, forall_const, eq_self, reduceCtorEq, reduceIte, Nat.reduceLT, Nat.reduceLeDiff, Nat.reduceAdd, Nat.reduceSub, Nat.reduceMul, Nat.reduceEqDiff, Nat.reduceBEq, Int.reduceLE, Int.reduceLT, Int.reduceToNat, Int.reduceEq, Int.reduceAdd, Int.reduceSub, Int.reduceMul, ty_3, tk_3, ty_36, tk_36, ty_4, tk_4, a0, a1, hl, encI_len]
  refine W_loop _ _ _ _ _ _ _ (fun T R => ∃ k : Nat, k ≤ s.length ∧ T.length = 40 ∧ getT T 1 = .i .i64 rule ∧ getT T 8 = .sl nl (encI s) ∧ getT T 9 = .i .i64 (s.length : Int) ∧ getT T 10 = .i .i64 (k : Int) ∧ Acc 3 1 0 (getT T 5) R (encI (mapF rule (s.take k))))
    (fun T _ => s.length - (asI (getT T 10)).toNat) ⟨0, ?_⟩ ?_
  · simp only [wB, E0_tys, bsI, slI, sliceI, sliceS, optI, appendI, srcI, chunk, fillI, fzParts, fzL, fz1, planAt, loadI, storeI, takeI, TK.agg, TK.known, cellsI, fillRow, okCell, bltI, builtinI, lenI, indexAddrI, fieldAddrI, fieldI, indexI, nilChkI, An.isImm, pureC, pure0, impI, impL, impC, cutO, An.imps, List.replicate, decide_true, decide_false, cond_true, cond_false, if_true, if_false, ite_true, ite_false, ne_eq, forall_const, eq_self, reduceCtorEq, reduceIte, Nat.reduceLT, Nat.reduceLeDiff, Nat.reduceAdd, Nat.reduceSub, Nat.reduceMul, Nat.reduceEqDiff, Nat.reduceBEq, Int.reduceLE, Int.reduceLT, Int.reduceToNat, Int.reduceEq, Int.reduceAdd, Int.reduceSub, Int.reduceMul, ty_3, tk_3, ty_36, tk_36, ty_4, tk_4, a0, a1, hl, encI_len]
    exact Acc.nil _ _ _ _
  · rintro T R ⟨k, hk, hl, a1, a8, a9, a10, hacc⟩
    simp only [wB, E0_tys, bsI, slI, sliceI, sliceS, optI, appendI, srcI, chunk, fillI, fzParts, fzL, fz1, planAt, loadI, storeI, takeI, TK.agg, TK.known, cellsI, fillRow, okCell, bltI, builtinI, lenI, indexAddrI, fieldAddrI, fieldI, indexI, nilChkI, An.isImm, pureC, pure0, impI, impL, impC, cutO, An.imps, List.replicate, decide_true, decide_false, cond_true, cond_false, if_true, if_false, ite_true, ite_false, ne_eq, forall_const, eq_self, reduceCtorEq, reduceIte, Nat.reduceLT, Nat.reduceLeDiff, Nat.reduceAdd, Nat.reduceSub, Nat.reduceMul, Nat.reduceEqDiff, Nat.reduceBEq, Int.reduceLE, Int.reduceLT, Int.reduceToNat, Int.reduceEq, Int.reduceAdd, Int.reduceSub, Int.reduceMul, ty_3, tk_3, ty_36, tk_36, ty_4, tk_4, a8, a9, a10, hl, encI_len]
    refine condW_b _ _ _ _ (fun hq => ?_) (fun hq => ?_)
    · have hk2 : k < s.length := by simpa using hq
      obtain ⟨c, hc⟩ := at_lt hk2
      have hw : IntKind.i64.wrap ((k : Int) + 1) = ((k + 1 : Nat) : Int) := by rw [wrap64] <;> omega
      have hst : mapF rule (s.take (k + 1)) = mapF rule (s.take k) ++ map1 rule c := by rw [take_succ' hc]; simp [mapF]
      have hlen := mapF_len rule (s.take k)
      have htk : (s.take k).length ≤ s.length := by simp; omega
      have hfl := fold1_len c
      obtain ⟨v1, R1, e1, hacc1, o1, hR1⟩ := acc_app1 hacc 32 (by omega)
      obtain ⟨v2, R2, e2, hacc2, o2, hR2⟩ := acc_app1 hacc c (by omega)
      obtain ⟨v3, R3, e3, hacc3, o3, hR3⟩ := acc_appL hacc none (fold1 c) (by omega)
      (simp only [wB, E0_tys, bsI, slI, sliceI, sliceS, optI, appendI, srcI, chunk, fillI, fzParts, fzL, fz1, planAt, loadI, storeI, takeI, TK.agg, TK.known, cellsI, fillRow, okCell, bltI, builtinI, lenI, indexAddrI, fieldAddrI, fieldI, indexI, nilChkI, An.isImm, pureC, pure0, impI, impL, impC, cutO, An.imps, List.replicate, decide_true, decide_false, cond_true, cond_false, if_true, if_false, ite_true, ite_false, ne_eq, forall_const, eq_self, reduceCtorEq, reduceIte, Nat.reduceLT, Nat.reduceLeDiff, Nat.reduceAdd, Nat.reduceSub, Nat.reduceMul, Nat.reduceEqDiff, Nat.reduceBEq, Int.reduceLE, Int.reduceLT, Int.reduceToNat, Int.reduceEq, Int.reduceAdd, Int.reduceSub, Int.reduceMul, ty_3, tk_3, ty_36, tk_36, ty_4, tk_4, a1, a8, a9, a10, hl, encI_len, hk2, encI_at hc, hw, e1, e2, e3])
      repeat' first
        | ((with_reducible refine guardW_b _ _ _ _ _ _ (fun hq => ?_) (fun hq => ?_)) <;> simp only [wB, E0_tys, bsI, slI, sliceI, sliceS, optI, appendI, srcI, chunk, fillI, fzParts, fzL, fz1, planAt, loadI, storeI, takeI, TK.agg, TK.known, cellsI, fillRow, okCell, bltI, builtinI, lenI, indexAddrI, fieldAddrI, fieldI, indexI, nilChkI, An.isImm, pureC, pure0, impI, impL, impC, cutO, An.imps, List.replicate, decide_true, decide_false, cond_true, cond_false, if_true, if_false, ite_true, ite_false, ne_eq, forall_const, eq_self, reduceCtorEq, reduceIte, Nat.reduceLT, Nat.reduceLeDiff, Nat.reduceAdd, Nat.reduceSub, Nat.reduceMul, Nat.reduceEqDiff, Nat.reduceBEq, Int.reduceLE, Int.reduceLT, Int.reduceToNat, Int.reduceEq, Int.reduceAdd, Int.reduceSub, Int.reduceMul, ty_3, tk_3, ty_36, tk_36, ty_4, tk_4, a1, a8, a9, a10, hl, encI_len, hk2, encI_at hc, hw, e1, e2, e3])
        | ((with_reducible refine condW_b _ _ _ _ (fun hq => ?_) (fun hq => ?_)) <;> simp only [wB, E0_tys, bsI, slI, sliceI, sliceS, optI, appendI, srcI, chunk, fillI, fzParts, fzL, fz1, planAt, loadI, storeI, takeI, TK.agg, TK.known, cellsI, fillRow, okCell, bltI, builtinI, lenI, indexAddrI, fieldAddrI, fieldI, indexI, nilChkI, An.isImm, pureC, pure0, impI, impL, impC, cutO, An.imps, List.replicate, decide_true, decide_false, cond_true, cond_false, if_true, if_false, ite_true, ite_false, ne_eq, forall_const, eq_self, reduceCtorEq, reduceIte, Nat.reduceLT, Nat.reduceLeDiff, Nat.reduceAdd, Nat.reduceSub, Nat.reduceMul, Nat.reduceEqDiff, Nat.reduceBEq, Int.reduceLE, Int.reduceLT, Int.reduceToNat, Int.reduceEq, Int.reduceAdd, Int.reduceSub, Int.reduceMul, ty_3, tk_3, ty_36, tk_36, ty_4, tk_4, a1, a8, a9, a10, hl, encI_len, hk2, encI_at hc, hw, e1, e2, e3])
        | ((with_reducible refine callPu0 (c47 c) ?_ ?_ ?_); rfl; rfl; simp only [wB, E0_tys, bsI, slI, sliceI, sliceS, optI, appendI, srcI, chunk, fillI, fzParts, fzL, fz1, planAt, loadI, storeI, takeI, TK.agg, TK.known, cellsI, fillRow, okCell, bltI, builtinI, lenI, indexAddrI, fieldAddrI, fieldI, indexI, nilChkI, An.isImm, pureC, pure0, impI, impL, impC, cutO, An.imps, List.replicate, decide_true, decide_false, cond_true, cond_false, if_true, if_false, ite_true, ite_false, ne_eq, forall_const, eq_self, reduceCtorEq, reduceIte, Nat.reduceLT, Nat.reduceLeDiff, Nat.reduceAdd, Nat.reduceSub, Nat.reduceMul, Nat.reduceEqDiff, Nat.reduceBEq, Int.reduceLE, Int.reduceLT, Int.reduceToNat, Int.reduceEq, Int.reduceAdd, Int.reduceSub, Int.reduceMul, ty_3, tk_3, ty_36, tk_36, ty_4, tk_4, a1, a8, a9, a10, hl, encI_len, hk2, encI_at hc, hw, e1, e2, e3])
        | ((with_reducible refine callPu0 (c48 c) ?_ ?_ ?_); rfl; rfl; simp only [wB, E0_tys, bsI, slI, sliceI, sliceS, optI, appendI, srcI, chunk, fillI, fzParts, fzL, fz1, planAt, loadI, storeI, takeI, TK.agg, TK.known, cellsI, fillRow, okCell, bltI, builtinI, lenI, indexAddrI, fieldAddrI, fieldI, indexI, nilChkI, An.isImm, pureC, pure0, impI, impL, impC, cutO, An.imps, List.replicate, decide_true, decide_false, cond_true, cond_false, if_true, if_false, ite_true, ite_false, ne_eq, forall_const, eq_self, reduceCtorEq, reduceIte, Nat.reduceLT, Nat.reduceLeDiff, Nat.reduceAdd, Nat.reduceSub, Nat.reduceMul, Nat.reduceEqDiff, Nat.reduceBEq, Int.reduceLE, Int.reduceLT, Int.reduceToNat, Int.reduceEq, Int.reduceAdd, Int.reduceSub, Int.reduceMul, ty_3, tk_3, ty_36, tk_36, ty_4, tk_4, a1, a8, a9, a10, hl, encI_len, hk2, encI_at hc, hw, e1, e2, e3])
        | ((with_reducible refine callPu0 (c49 c) ?_ ?_ ?_); rfl; rfl; simp only [wB, E0_tys, bsI, slI, sliceI, sliceS, optI, appendI, srcI, chunk, fillI, fzParts, fzL, fz1, planAt, loadI, storeI, takeI, TK.agg, TK.known, cellsI, fillRow, okCell, bltI, builtinI, lenI, indexAddrI, fieldAddrI, fieldI, indexI, nilChkI, An.isImm, pureC, pure0, impI, impL, impC, cutO, An.imps, List.replicate, decide_true, decide_false, cond_true, cond_false, if_true, if_false, ite_true, ite_false, ne_eq, forall_const, eq_self, reduceCtorEq, reduceIte, Nat.reduceLT, Nat.reduceLeDiff, Nat.reduceAdd, Nat.reduceSub, Nat.reduceMul, Nat.reduceEqDiff, Nat.reduceBEq, Int.reduceLE, Int.reduceLT, Int.reduceToNat, Int.reduceEq, Int.reduceAdd, Int.reduceSub, Int.reduceMul, ty_3, tk_3, ty_36, tk_36, ty_4, tk_4, a1, a8, a9, a10, hl, encI_len, hk2, encI_at hc, hw, e1, e2, e3])
      all_goals refine ⟨⟨k + 1, hk2, rfl, ?_⟩, by simp only [asI]; omega⟩
      all_goals rw [hst]
      all_goals simp_all [map1]
    · have hk2 : k = s.length := by have := of_decide_eq_false hq; omega
      subst hk2
      rw [List.take_length] at hacc
      simp only [wB, E0_tys, bsI, slI, sliceI, sliceS, optI, appendI, srcI, chunk, fillI, fzParts, fzL, fz1, planAt, loadI, storeI, takeI, TK.agg, TK.known, cellsI, fillRow, okCell, bltI, builtinI, lenI, indexAddrI, fieldAddrI, fieldI, indexI, nilChkI, An.isImm, pureC, pure0, impI, impL, impC, cutO, An.imps, List.replicate, decide_true, decide_false, cond_true, cond_false, if_true, if_false, ite_true, ite_false, ne_eq, forall_const, eq_self, reduceCtorEq, reduceIte, Nat.reduceLT, Nat.reduceLeDiff, Nat.reduceAdd, Nat.reduceSub, Nat.reduceMul, Nat.reduceEqDiff, Nat.reduceBEq, Int.reduceLE, Int.reduceLT, Int.reduceToNat, Int.reduceEq, Int.reduceAdd, Int.reduceSub, Int.reduceMul, ty_3, tk_3, ty_36, tk_36, ty_4, tk_4, hl]
      exact hacc.out
end Go.Proofs
set_option maxRecDepth 100000
set_option maxHeartbeats 4000000
set_option linter.unusedVariables false
set_option linter.unusedSimpArgs false
namespace Go.Proofs
open Go.Iv
def idxP (p : Int → Bool) : List Int → Nat → Int
  | [], _ => -1
  | x :: xs, k => if p x then (k : Int) else idxP p xs (k + 1)
theorem idxP_ge (p : Int → Bool) : ∀ (xs : List Int) (k : Nat), (0 ≤ idxP p xs k) ↔ xs.any p = true
  | [], k => by simp [idxP]
  | x :: xs, k => by
    unfold idxP
    split
    · rename_i h; simp [h]
    · rename_i h; rw [idxP_ge p xs (k + 1)]; simp [h]
theorem c68 (f : FuncId) (p : Int → Bool) (hf : ∀ x, PC Try.prog true f [.i .i64 x] (.b (p x)) []) (nl : Option Bool) (xs : List Int) (hl0 : xs.length ≤ 1000000) : PC Try.prog true 68 [.sl nl (encI xs), .fn (.func f) [] []] (.i .i64 (idxP p xs 0)) [] := by
  refine pcW E0_ok mm (fn := Try.f68) (by kernel_rfl) (by kernel_rfl) (by kernel_rfl) [] (by kernel_rfl) [] (by rw [show Try.f68.ntmps = 2 + 17 by kernel_rfl]; exact Nat.le_add_right _ _) ?_
  intro T hl hx
  have a0 := hx 0 _ rfl
  have a1 := hx 1 _ rfl
  clear hx
  simp only [bodyOf, Try.f68] at hl ⊢
  simp only [wB, E0_tys, appI, bsI, slI, sliceI, sliceS, optI, appendI, srcI, chunk, fillI, fzParts, fzL, fz1, planAt, loadI, storeI, takeI, TK.agg, TK.known, cellsI, fillRow, okCell, bltI, builtinI, lenI, indexAddrI, fieldAddrI, fieldI, indexI, nilChkI, An.isImm, pureC, pure0, impI, impL, impC, cutO, An.imps, List.replicate, decide_true, decide_false, cond_true, cond_false, if_true, if_false, ite_true, ite_false, ne_eq, forall_const, eq_self, reduceCtorEq, reduceIte, Nat.reduceLT, Nat.reduceLeDiff, Nat.reduceAdd, Nat.reduceSub, Nat.reduceMul, Nat.reduceEqDiff, Nat.reduceBEq, Int.reduceLE, Int.reduceLT, Int.reduceToNat, Int.reduceEq, Int.reduceAdd, Int.reduceSub, Int.reduceMul, ty_3, tk_3, ty_36, tk_36, ty_4, tk_4, ty_40, tk_40, a0, a1, hl, encI_len]
  refine W_loop _ _ _ _ _ _ _ (fun T R => ∃ k : Nat, k ≤ xs.length ∧ T.length = 19 ∧ getT T 0 = .sl nl (encI xs) ∧ getT T 1 = .fn (.func f) [] [] ∧ getT T 7 = .i .i64 (xs.length : Int) ∧ getT T 8 = .i .i64 (k : Int) ∧ idxP p (xs.drop k) k = idxP p xs 0)
    (fun T _ => xs.length - (asI (getT T 8)).toNat) ⟨0, ?_⟩ ?_
  · simp only [wB, E0_tys, appI, bsI, slI, sliceI, sliceS, optI, appendI, srcI, chunk, fillI, fzParts, fzL, fz1, planAt, loadI, storeI, takeI, TK.agg, TK.known, cellsI, fillRow, okCell, bltI, builtinI, lenI, indexAddrI, fieldAddrI, fieldI, indexI, nilChkI, An.isImm, pureC, pure0, impI, impL, impC, cutO, An.imps, List.replicate, decide_true, decide_false, cond_true, cond_false, if_true, if_false, ite_true, ite_false, ne_eq, forall_const, eq_self, reduceCtorEq, reduceIte, Nat.reduceLT, Nat.reduceLeDiff, Nat.reduceAdd, Nat.reduceSub, Nat.reduceMul, Nat.reduceEqDiff, Nat.reduceBEq, Int.reduceLE, Int.reduceLT, Int.reduceToNat, Int.reduceEq, Int.reduceAdd, Int.reduceSub, Int.reduceMul, ty_3, tk_3, ty_36, tk_36, ty_4, tk_4, ty_40, tk_40, a0, a1, hl, encI_len]
    try rfl
  · rintro T R ⟨k, hk, hl, a0, a1, a7, a8, hf2⟩
    simp only [wB, E0_tys, appI, bsI, slI, sliceI, sliceS, optI, appendI, srcI, chunk, fillI, fzParts, fzL, fz1, planAt, loadI, storeI, takeI, TK.agg, TK.known, cellsI, fillRow, okCell, bltI, builtinI, lenI, indexAddrI, fieldAddrI, fieldI, indexI, nilChkI, An.isImm, pureC, pure0, impI, impL, impC, cutO, An.imps, List.replicate, decide_true, decide_false, cond_true, cond_false, if_true, if_false, ite_true, ite_false, ne_eq, forall_const, eq_self, reduceCtorEq, reduceIte, Nat.reduceLT, Nat.reduceLeDiff, Nat.reduceAdd, Nat.reduceSub, Nat.reduceMul, Nat.reduceEqDiff, Nat.reduceBEq, Int.reduceLE, Int.reduceLT, Int.reduceToNat, Int.reduceEq, Int.reduceAdd, Int.reduceSub, Int.reduceMul, ty_3, tk_3, ty_36, tk_36, ty_4, tk_4, ty_40, tk_40, a0, a1, a7, a8, hl, encI_len]
    refine condW_b _ _ _ _ (fun hq => ?_) (fun hq => ?_)
    · have hk2 : k < xs.length := by simpa using hq
      obtain ⟨c, hc⟩ := at_lt hk2
      have hw : IntKind.i64.wrap ((k : Int) + 1) = ((k + 1 : Nat) : Int) := by rw [wrap64] <;> omega
      rw [drop_at hc] at hf2
      (simp only [wB, E0_tys, appI, bsI, slI, sliceI, sliceS, optI, appendI, srcI, chunk, fillI, fzParts, fzL, fz1, planAt, loadI, storeI, takeI, TK.agg, TK.known, cellsI, fillRow, okCell, bltI, builtinI, lenI, indexAddrI, fieldAddrI, fieldI, indexI, nilChkI, An.isImm, pureC, pure0, impI, impL, impC, cutO, An.imps, List.replicate, decide_true, decide_false, cond_true, cond_false, if_true, if_false, ite_true, ite_false, ne_eq, forall_const, eq_self, reduceCtorEq, reduceIte, Nat.reduceLT, Nat.reduceLeDiff, Nat.reduceAdd, Nat.reduceSub, Nat.reduceMul, Nat.reduceEqDiff, Nat.reduceBEq, Int.reduceLE, Int.reduceLT, Int.reduceToNat, Int.reduceEq, Int.reduceAdd, Int.reduceSub, Int.reduceMul, ty_3, tk_3, ty_36, tk_36, ty_4, tk_4, ty_40, tk_40, a0, a1, a7, a8, hl, encI_len, hk2, encI_at hc, hw])
      repeat' first
        | ((with_reducible refine guardW_b _ _ _ _ _ _ (fun hq => ?_) (fun hq => ?_)) <;> simp only [wB, E0_tys, appI, bsI, slI, sliceI, sliceS, optI, appendI, srcI, chunk, fillI, fzParts, fzL, fz1, planAt, loadI, storeI, takeI, TK.agg, TK.known, cellsI, fillRow, okCell, bltI, builtinI, lenI, indexAddrI, fieldAddrI, fieldI, indexI, nilChkI, An.isImm, pureC, pure0, impI, impL, impC, cutO, An.imps, List.replicate, decide_true, decide_false, cond_true, cond_false, if_true, if_false, ite_true, ite_false, ne_eq, forall_const, eq_self, reduceCtorEq, reduceIte, Nat.reduceLT, Nat.reduceLeDiff, Nat.reduceAdd, Nat.reduceSub, Nat.reduceMul, Nat.reduceEqDiff, Nat.reduceBEq, Int.reduceLE, Int.reduceLT, Int.reduceToNat, Int.reduceEq, Int.reduceAdd, Int.reduceSub, Int.reduceMul, ty_3, tk_3, ty_36, tk_36, ty_4, tk_4, ty_40, tk_40, a0, a1, a7, a8, hl, encI_len, hk2, encI_at hc, hw])
        | ((with_reducible refine condW_b _ _ _ _ (fun hq => ?_) (fun hq => ?_)) <;> simp only [wB, E0_tys, appI, bsI, slI, sliceI, sliceS, optI, appendI, srcI, chunk, fillI, fzParts, fzL, fz1, planAt, loadI, storeI, takeI, TK.agg, TK.known, cellsI, fillRow, okCell, bltI, builtinI, lenI, indexAddrI, fieldAddrI, fieldI, indexI, nilChkI, An.isImm, pureC, pure0, impI, impL, impC, cutO, An.imps, List.replicate, decide_true, decide_false, cond_true, cond_false, if_true, if_false, ite_true, ite_false, ne_eq, forall_const, eq_self, reduceCtorEq, reduceIte, Nat.reduceLT, Nat.reduceLeDiff, Nat.reduceAdd, Nat.reduceSub, Nat.reduceMul, Nat.reduceEqDiff, Nat.reduceBEq, Int.reduceLE, Int.reduceLT, Int.reduceToNat, Int.reduceEq, Int.reduceAdd, Int.reduceSub, Int.reduceMul, ty_3, tk_3, ty_36, tk_36, ty_4, tk_4, ty_40, tk_40, a0, a1, a7, a8, hl, encI_len, hk2, encI_at hc, hw])
        | ((with_reducible refine callPu0 (hf c) ?_ ?_ ?_); rfl; rfl; simp only [wB, E0_tys, appI, bsI, slI, sliceI, sliceS, optI, appendI, srcI, chunk, fillI, fzParts, fzL, fz1, planAt, loadI, storeI, takeI, TK.agg, TK.known, cellsI, fillRow, okCell, bltI, builtinI, lenI, indexAddrI, fieldAddrI, fieldI, indexI, nilChkI, An.isImm, pureC, pure0, impI, impL, impC, cutO, An.imps, List.replicate, decide_true, decide_false, cond_true, cond_false, if_true, if_false, ite_true, ite_false, ne_eq, forall_const, eq_self, reduceCtorEq, reduceIte, Nat.reduceLT, Nat.reduceLeDiff, Nat.reduceAdd, Nat.reduceSub, Nat.reduceMul, Nat.reduceEqDiff, Nat.reduceBEq, Int.reduceLE, Int.reduceLT, Int.reduceToNat, Int.reduceEq, Int.reduceAdd, Int.reduceSub, Int.reduceMul, ty_3, tk_3, ty_36, tk_36, ty_4, tk_4, ty_40, tk_40, a0, a1, a7, a8, hl, encI_len, hk2, encI_at hc, hw])
      · rw [← hf2]; simp_all [idxP]
      · refine ⟨⟨k + 1, hk2, rfl, ?_⟩, by simp only [asI]; omega⟩
        rw [← hf2]; simp_all [idxP]
    · have hk2 : k = xs.length := by have := of_decide_eq_false hq; omega
      subst hk2
      rw [List.drop_length] at hf2
      simp only [wB, E0_tys, appI, bsI, slI, sliceI, sliceS, optI, appendI, srcI, chunk, fillI, fzParts, fzL, fz1, planAt, loadI, storeI, takeI, TK.agg, TK.known, cellsI, fillRow, okCell, bltI, builtinI, lenI, indexAddrI, fieldAddrI, fieldI, indexI, nilChkI, An.isImm, pureC, pure0, impI, impL, impC, cutO, An.imps, List.replicate, decide_true, decide_false, cond_true, cond_false, if_true, if_false, ite_true, ite_false, ne_eq, forall_const, eq_self, reduceCtorEq, reduceIte, Nat.reduceLT, Nat.reduceLeDiff, Nat.reduceAdd, Nat.reduceSub, Nat.reduceMul, Nat.reduceEqDiff, Nat.reduceBEq, Int.reduceLE, Int.reduceLT, Int.reduceToNat, Int.reduceEq, Int.reduceAdd, Int.reduceSub, Int.reduceMul, ty_3, tk_3, ty_36, tk_36, ty_4, tk_4, ty_40, tk_40, hl]
      rw [← hf2]; rfl
theorem c50 (f : FuncId) (p : Int → Bool) (hf : ∀ x, PC Try.prog true f [.i .i64 x] (.b (p x)) []) (nl : Option Bool) (xs : List Int) (hl0 : xs.length ≤ 1000000) : PC Try.prog true 50 [.sl nl (encI xs), .fn (.func f) [] []] (.b (xs.any p)) [] := by
  have hg := idxP_ge p xs 0
  refine pcW E0_ok mm (fn := Try.f50) (by kernel_rfl) (by kernel_rfl) (by kernel_rfl) [] (by kernel_rfl) [] (by rw [show Try.f50.ntmps = 2 + 7 by kernel_rfl]; exact Nat.le_add_right _ _) ?_
  intro T hl hx
  have a0 := hx 0 _ rfl
  have a1 := hx 1 _ rfl
  clear hx
  simp only [bodyOf, Try.f50] at hl ⊢
  (simp only [wB, E0_tys, appI, bsI, slI, sliceI, sliceS, optI, appendI, srcI, chunk, fillI, fzParts, fzL, fz1, planAt, loadI, storeI, takeI, TK.agg, TK.known, cellsI, fillRow, okCell, bltI, builtinI, lenI, indexAddrI, fieldAddrI, fieldI, indexI, nilChkI, An.isImm, pureC, pure0, impI, impL, impC, cutO, An.imps, List.replicate, decide_true, decide_false, cond_true, cond_false, if_true, if_false, ite_true, ite_false, ne_eq, forall_const, eq_self, reduceCtorEq, reduceIte, Nat.reduceLT, Nat.reduceLeDiff, Nat.reduceAdd, Nat.reduceSub, Nat.reduceMul, Nat.reduceEqDiff, Nat.reduceBEq, Int.reduceLE, Int.reduceLT, Int.reduceToNat, Int.reduceEq, Int.reduceAdd, Int.reduceSub, Int.reduceMul, ty_3, tk_3, ty_36, tk_36, ty_4, tk_4, ty_40, tk_40, a0, a1, hl])
  repeat' first
    | ((with_reducible refine guardW_b _ _ _ _ _ _ (fun hq => ?_) (fun hq => ?_)) <;> simp only [wB, E0_tys, appI, bsI, slI, sliceI, sliceS, optI, appendI, srcI, chunk, fillI, fzParts, fzL, fz1, planAt, loadI, storeI, takeI, TK.agg, TK.known, cellsI, fillRow, okCell, bltI, builtinI, lenI, indexAddrI, fieldAddrI, fieldI, indexI, nilChkI, An.isImm, pureC, pure0, impI, impL, impC, cutO, An.imps, List.replicate, decide_true, decide_false, cond_true, cond_false, if_true, if_false, ite_true, ite_false, ne_eq, forall_const, eq_self, reduceCtorEq, reduceIte, Nat.reduceLT, Nat.reduceLeDiff, Nat.reduceAdd, Nat.reduceSub, Nat.reduceMul, Nat.reduceEqDiff, Nat.reduceBEq, Int.reduceLE, Int.reduceLT, Int.reduceToNat, Int.reduceEq, Int.reduceAdd, Int.reduceSub, Int.reduceMul, ty_3, tk_3, ty_36, tk_36, ty_4, tk_4, ty_40, tk_40, a0, a1, hl])
    | ((with_reducible refine condW_b _ _ _ _ (fun hq => ?_) (fun hq => ?_)) <;> simp only [wB, E0_tys, appI, bsI, slI, sliceI, sliceS, optI, appendI, srcI, chunk, fillI, fzParts, fzL, fz1, planAt, loadI, storeI, takeI, TK.agg, TK.known, cellsI, fillRow, okCell, bltI, builtinI, lenI, indexAddrI, fieldAddrI, fieldI, indexI, nilChkI, An.isImm, pureC, pure0, impI, impL, impC, cutO, An.imps, List.replicate, decide_true, decide_false, cond_true, cond_false, if_true, if_false, ite_true, ite_false, ne_eq, forall_const, eq_self, reduceCtorEq, reduceIte, Nat.reduceLT, Nat.reduceLeDiff, Nat.reduceAdd, Nat.reduceSub, Nat.reduceMul, Nat.reduceEqDiff, Nat.reduceBEq, Int.reduceLE, Int.reduceLT, Int.reduceToNat, Int.reduceEq, Int.reduceAdd, Int.reduceSub, Int.reduceMul, ty_3, tk_3, ty_36, tk_36, ty_4, tk_4, ty_40, tk_40, a0, a1, hl])
    | ((with_reducible refine callPu0 (c68 f p hf nl xs hl0) ?_ ?_ ?_); rfl; rfl; simp only [wB, E0_tys, appI, bsI, slI, sliceI, sliceS, optI, appendI, srcI, chunk, fillI, fzParts, fzL, fz1, planAt, loadI, storeI, takeI, TK.agg, TK.known, cellsI, fillRow, okCell, bltI, builtinI, lenI, indexAddrI, fieldAddrI, fieldI, indexI, nilChkI, An.isImm, pureC, pure0, impI, impL, impC, cutO, An.imps, List.replicate, decide_true, decide_false, cond_true, cond_false, if_true, if_false, ite_true, ite_false, ne_eq, forall_const, eq_self, reduceCtorEq, reduceIte, Nat.reduceLT, Nat.reduceLeDiff, Nat.reduceAdd, Nat.reduceSub, Nat.reduceMul, Nat.reduceEqDiff, Nat.reduceBEq, Int.reduceLE, Int.reduceLT, Int.reduceToNat, Int.reduceEq, Int.reduceAdd, Int.reduceSub, Int.reduceMul, ty_3, tk_3, ty_36, tk_36, ty_4, tk_4, ty_40, tk_40, a0, a1, hl])
  all_goals (cases h : xs.any p <;> simp_all)
def badF (c : Int) : Bool := !scalarF c || !assignedF c || prohibitedF c
theorem c51 (c : Int) : PC Try.prog true 51 [.i .i64 c] (.b (badF c)) [] := by
  refine pcW E0_ok mm (fn := Try.f51) (by kernel_rfl) (by kernel_rfl) (by kernel_rfl) [] (by kernel_rfl) [] (by rw [show Try.f51.ntmps = 1 + 14 by kernel_rfl]; exact Nat.le_add_right _ _) ?_
  intro T hl hx
  have a0 := hx 0 _ rfl
  clear hx
  simp only [bodyOf, Try.f51] at hl ⊢
  (simp only [wB, E0_tys, appI, bsI, slI, sliceI, sliceS, optI, appendI, srcI, chunk, fillI, fzParts, fzL, fz1, planAt, loadI, storeI, takeI, TK.agg, TK.known, cellsI, fillRow, okCell, bltI, builtinI, lenI, indexAddrI, fieldAddrI, fieldI, indexI, nilChkI, An.isImm, pureC, pure0, impI, impL, impC, cutO, An.imps, List.replicate, decide_true, decide_false, cond_true, cond_false, if_true, if_false, ite_true, ite_false, ne_eq, forall_const, eq_self, reduceCtorEq, reduceIte, Nat.reduceLT, Nat.reduceLeDiff, Nat.reduceAdd, Nat.reduceSub, Nat.reduceMul, Nat.reduceEqDiff, Nat.reduceBEq, Int.reduceLE, Int.reduceLT, Int.reduceToNat, Int.reduceEq, Int.reduceAdd, Int.reduceSub, Int.reduceMul, ty_3, tk_3, ty_4, tk_4, a0, hl])
  repeat' first
    | ((with_reducible refine guardW_b _ _ _ _ _ _ (fun hq => ?_) (fun hq => ?_)) <;> simp only [wB, E0_tys, appI, bsI, slI, sliceI, sliceS, optI, appendI, srcI, chunk, fillI, fzParts, fzL, fz1, planAt, loadI, storeI, takeI, TK.agg, TK.known, cellsI, fillRow, okCell, bltI, builtinI, lenI, indexAddrI, fieldAddrI, fieldI, indexI, nilChkI, An.isImm, pureC, pure0, impI, impL, impC, cutO, An.imps, List.replicate, decide_true, decide_false, cond_true, cond_false, if_true, if_false, ite_true, ite_false, ne_eq, forall_const, eq_self, reduceCtorEq, reduceIte, Nat.reduceLT, Nat.reduceLeDiff, Nat.reduceAdd, Nat.reduceSub, Nat.reduceMul, Nat.reduceEqDiff, Nat.reduceBEq, Int.reduceLE, Int.reduceLT, Int.reduceToNat, Int.reduceEq, Int.reduceAdd, Int.reduceSub, Int.reduceMul, ty_3, tk_3, ty_4, tk_4, a0, hl])
    | ((with_reducible refine condW_b _ _ _ _ (fun hq => ?_) (fun hq => ?_)) <;> simp only [wB, E0_tys, appI, bsI, slI, sliceI, sliceS, optI, appendI, srcI, chunk, fillI, fzParts, fzL, fz1, planAt, loadI, storeI, takeI, TK.agg, TK.known, cellsI, fillRow, okCell, bltI, builtinI, lenI, indexAddrI, fieldAddrI, fieldI, indexI, nilChkI, An.isImm, pureC, pure0, impI, impL, impC, cutO, An.imps, List.replicate, decide_true, decide_false, cond_true, cond_false, if_true, if_false, ite_true, ite_false, ne_eq, forall_const, eq_self, reduceCtorEq, reduceIte, Nat.reduceLT, Nat.reduceLeDiff, Nat.reduceAdd, Nat.reduceSub, Nat.reduceMul, Nat.reduceEqDiff, Nat.reduceBEq, Int.reduceLE, Int.reduceLT, Int.reduceToNat, Int.reduceEq, Int.reduceAdd, Int.reduceSub, Int.reduceMul, ty_3, tk_3, ty_4, tk_4, a0, hl])
    | ((with_reducible refine callPu0 (c52 c) ?_ ?_ ?_); rfl; rfl; simp only [wB, E0_tys, appI, bsI, slI, sliceI, sliceS, optI, appendI, srcI, chunk, fillI, fzParts, fzL, fz1, planAt, loadI, storeI, takeI, TK.agg, TK.known, cellsI, fillRow, okCell, bltI, builtinI, lenI, indexAddrI, fieldAddrI, fieldI, indexI, nilChkI, An.isImm, pureC, pure0, impI, impL, impC, cutO, An.imps, List.replicate, decide_true, decide_false, cond_true, cond_false, if_true, if_false, ite_true, ite_false, ne_eq, forall_const, eq_self, reduceCtorEq, reduceIte, Nat.reduceLT, Nat.reduceLeDiff, Nat.reduceAdd, Nat.reduceSub, Nat.reduceMul, Nat.reduceEqDiff, Nat.reduceBEq, Int.reduceLE, Int.reduceLT, Int.reduceToNat, Int.reduceEq, Int.reduceAdd, Int.reduceSub, Int.reduceMul, ty_3, tk_3, ty_4, tk_4, a0, hl])
    | ((with_reducible refine callPu0 (c53 c) ?_ ?_ ?_); rfl; rfl; simp only [wB, E0_tys, appI, bsI, slI, sliceI, sliceS, optI, appendI, srcI, chunk, fillI, fzParts, fzL, fz1, planAt, loadI, storeI, takeI, TK.agg, TK.known, cellsI, fillRow, okCell, bltI, builtinI, lenI, indexAddrI, fieldAddrI, fieldI, indexI, nilChkI, An.isImm, pureC, pure0, impI, impL, impC, cutO, An.imps, List.replicate, decide_true, decide_false, cond_true, cond_false, if_true, if_false, ite_true, ite_false, ne_eq, forall_const, eq_self, reduceCtorEq, reduceIte, Nat.reduceLT, Nat.reduceLeDiff, Nat.reduceAdd, Nat.reduceSub, Nat.reduceMul, Nat.reduceEqDiff, Nat.reduceBEq, Int.reduceLE, Int.reduceLT, Int.reduceToNat, Int.reduceEq, Int.reduceAdd, Int.reduceSub, Int.reduceMul, ty_3, tk_3, ty_4, tk_4, a0, hl])
    | ((with_reducible refine callPu0 (c54 c) ?_ ?_ ?_); rfl; rfl; simp only [wB, E0_tys, appI, bsI, slI, sliceI, sliceS, optI, appendI, srcI, chunk, fillI, fzParts, fzL, fz1, planAt, loadI, storeI, takeI, TK.agg, TK.known, cellsI, fillRow, okCell, bltI, builtinI, lenI, indexAddrI, fieldAddrI, fieldI, indexI, nilChkI, An.isImm, pureC, pure0, impI, impL, impC, cutO, An.imps, List.replicate, decide_true, decide_false, cond_true, cond_false, if_true, if_false, ite_true, ite_false, ne_eq, forall_const, eq_self, reduceCtorEq, reduceIte, Nat.reduceLT, Nat.reduceLeDiff, Nat.reduceAdd, Nat.reduceSub, Nat.reduceMul, Nat.reduceEqDiff, Nat.reduceBEq, Int.reduceLE, Int.reduceLT, Int.reduceToNat, Int.reduceEq, Int.reduceAdd, Int.reduceSub, Int.reduceMul, ty_3, tk_3, ty_4, tk_4, a0, hl])
  all_goals simp_all [badF]
theorem c34 (nl : Option Bool) (xs : List Int) (hl0 : xs.length ≤ 1000000) : PC Try.prog true 34 [.sl nl (encI xs)] (.b (!xs.any badF)) [] := by
  refine pcW E0_ok mm (fn := Try.f34) (by kernel_rfl) (by kernel_rfl) (by kernel_rfl) [] (by kernel_rfl) [] (by rw [show Try.f34.ntmps = 1 + 5 by kernel_rfl]; exact Nat.le_add_right _ _) ?_
  intro T hl hx
  have a0 := hx 0 _ rfl
  clear hx
  simp only [bodyOf, Try.f34] at hl ⊢
  (simp only [wB, E0_tys, appI, bsI, slI, sliceI, sliceS, optI, appendI, srcI, chunk, fillI, fzParts, fzL, fz1, planAt, loadI, storeI, takeI, TK.agg, TK.known, cellsI, fillRow, okCell, bltI, builtinI, lenI, indexAddrI, fieldAddrI, fieldI, indexI, nilChkI, An.isImm, pureC, pure0, impI, impL, impC, cutO, An.imps, List.replicate, decide_true, decide_false, cond_true, cond_false, if_true, if_false, ite_true, ite_false, ne_eq, forall_const, eq_self, reduceCtorEq, reduceIte, Nat.reduceLT, Nat.reduceLeDiff, Nat.reduceAdd, Nat.reduceSub, Nat.reduceMul, Nat.reduceEqDiff, Nat.reduceBEq, Int.reduceLE, Int.reduceLT, Int.reduceToNat, Int.reduceEq, Int.reduceAdd, Int.reduceSub, Int.reduceMul, ty_3, tk_3, ty_36, tk_36, ty_4, tk_4, ty_40, tk_40, a0, hl])
  repeat' first
    | ((with_reducible refine guardW_b _ _ _ _ _ _ (fun hq => ?_) (fun hq => ?_)) <;> simp only [wB, E0_tys, appI, bsI, slI, sliceI, sliceS, optI, appendI, srcI, chunk, fillI, fzParts, fzL, fz1, planAt, loadI, storeI, takeI, TK.agg, TK.known, cellsI, fillRow, okCell, bltI, builtinI, lenI, indexAddrI, fieldAddrI, fieldI, indexI, nilChkI, An.isImm, pureC, pure0, impI, impL, impC, cutO, An.imps, List.replicate, decide_true, decide_false, cond_true, cond_false, if_true, if_false, ite_true, ite_false, ne_eq, forall_const, eq_self, reduceCtorEq, reduceIte, Nat.reduceLT, Nat.reduceLeDiff, Nat.reduceAdd, Nat.reduceSub, Nat.reduceMul, Nat.reduceEqDiff, Nat.reduceBEq, Int.reduceLE, Int.reduceLT, Int.reduceToNat, Int.reduceEq, Int.reduceAdd, Int.reduceSub, Int.reduceMul, ty_3, tk_3, ty_36, tk_36, ty_4, tk_4, ty_40, tk_40, a0, hl])
    | ((with_reducible refine condW_b _ _ _ _ (fun hq => ?_) (fun hq => ?_)) <;> simp only [wB, E0_tys, appI, bsI, slI, sliceI, sliceS, optI, appendI, srcI, chunk, fillI, fzParts, fzL, fz1, planAt, loadI, storeI, takeI, TK.agg, TK.known, cellsI, fillRow, okCell, bltI, builtinI, lenI, indexAddrI, fieldAddrI, fieldI, indexI, nilChkI, An.isImm, pureC, pure0, impI, impL, impC, cutO, An.imps, List.replicate, decide_true, decide_false, cond_true, cond_false, if_true, if_false, ite_true, ite_false, ne_eq, forall_const, eq_self, reduceCtorEq, reduceIte, Nat.reduceLT, Nat.reduceLeDiff, Nat.reduceAdd, Nat.reduceSub, Nat.reduceMul, Nat.reduceEqDiff, Nat.reduceBEq, Int.reduceLE, Int.reduceLT, Int.reduceToNat, Int.reduceEq, Int.reduceAdd, Int.reduceSub, Int.reduceMul, ty_3, tk_3, ty_36, tk_36, ty_4, tk_4, ty_40, tk_40, a0, hl])
    | ((with_reducible refine callPu0 (c50 51 badF c51 nl xs hl0) ?_ ?_ ?_); rfl; rfl; simp only [wB, E0_tys, appI, bsI, slI, sliceI, sliceS, optI, appendI, srcI, chunk, fillI, fzParts, fzL, fz1, planAt, loadI, storeI, takeI, TK.agg, TK.known, cellsI, fillRow, okCell, bltI, builtinI, lenI, indexAddrI, fieldAddrI, fieldI, indexI, nilChkI, An.isImm, pureC, pure0, impI, impL, impC, cutO, An.imps, List.replicate, decide_true, decide_false, cond_true, cond_false, if_true, if_false, ite_true, ite_false, ne_eq, forall_const, eq_self, reduceCtorEq, reduceIte, Nat.reduceLT, Nat.reduceLeDiff, Nat.reduceAdd, Nat.reduceSub, Nat.reduceMul, Nat.reduceEqDiff, Nat.reduceBEq, Int.reduceLE, Int.reduceLT, Int.reduceToNat, Int.reduceEq, Int.reduceAdd, Int.reduceSub, Int.reduceMul, ty_3, tk_3, ty_36, tk_36, ty_4, tk_4, ty_40, tk_40, a0, hl])
end Go.Proofs
