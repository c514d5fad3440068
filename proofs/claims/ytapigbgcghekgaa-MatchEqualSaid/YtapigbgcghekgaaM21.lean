import Derived.Test.YtapigbgcghekgaaM14
set_option linter.unusedVariables false
set_option linter.unusedSimpArgs false
set_option maxRecDepth 100000
set_option maxHeartbeats 4000000
set_option linter.unusedVariables false
set_option linter.unusedSimpArgs false
namespace Go.Proofs
open Go.Iv
def growR : List Reg := [⟨1, some ⟨false, 3, 1, []⟩⟩]
theorem c72z : PC Try.prog true 72 [.sl (some true) [], .i .i64 0] (.sl (some true) []) [] := by
  refine pcW E0_ok mm (fn := Try.f72) (by kernel_rfl) (by kernel_rfl) (by kernel_rfl) [(5, 5, .reg 0)] (by kernel_rfl) [] (by rw [show Try.f72.ntmps = 2 + 25 by kernel_rfl]; exact Nat.le_add_right _ _) ?_
  intro T hl hx
  have a0 := hx 0 _ rfl
  have a1 := hx 1 _ rfl
  clear hx
  simp only [bodyOf, Try.f72] at hl ⊢
  simp only [wB, E0_tys, appI, bsI, slI, sliceI, sliceS, optI, appendI, srcI, chunk, fillI, fzParts, fzL, fz1, planAt, loadI, storeI, takeI, TK.agg, TK.known, cellsI, fillRow, okCell, bltI, builtinI, lenI, indexAddrI, fieldAddrI, fieldI, indexI, nilChkI, An.isImm, pureC, pure0, impI, impL, impC, cutO, An.imps, List.replicate, decide_true, decide_false, cond_true, cond_false, if_true, if_false, ite_true, ite_false, ne_eq, forall_const, eq_self, reduceCtorEq, reduceIte, Nat.reduceLT, Nat.reduceLeDiff, Nat.reduceAdd, Nat.reduceSub, Nat.reduceMul, Nat.reduceEqDiff, Nat.reduceBEq, Int.reduceLE, Int.reduceLT, Int.reduceToNat, Int.reduceEq, Int.reduceAdd, Int.reduceSub, Int.reduceMul, ty_3, tk_3, ty_36, tk_36, ty_4, tk_4, a0, a1, hl, w0]
theorem c72 (n : Nat) (hn : 0 < n) (hb : n ≤ 1000000) : PC Try.prog true 72 [.sl (some true) [], .i .i64 (n : Int)] (.rf 0 1 0 0) growR := by
  have hw : IntKind.i64.wrap (n : Int) = (n : Int) := by rw [wrap64] <;> omega
  have h0 : ¬ ((n : Int) < 0) := by omega
  have h1 : (0 : Int) < n := by omega
  have hr : room ⟨.int .i64, 1, 8, [.i .i64 0]⟩ n = true := room_8 (by omega)
  have hok : okRows 1 (List.replicate n [IV.i .i64 0]) = true := by
    unfold okRows
    rw [List.all_eq_true]
    intro r hr
    rw [List.eq_of_mem_replicate hr]
    rfl
  have hm : n ≤ 9223372036854775807 := by omega
  have hm2 : n ≤ 4611686018427387904 := by omega
  have hn0 : ¬ n = 0 := by omega
  refine pcW E0_ok mm (fn := Try.f72) (by kernel_rfl) (by kernel_rfl) (by kernel_rfl) [(5, 5, .reg 0)] (by kernel_rfl) [1] (by rw [show Try.f72.ntmps = 2 + 25 by kernel_rfl]; exact Nat.le_add_right _ _) ?_
  intro T hl hx
  have a0 := hx 0 _ rfl
  have a1 := hx 1 _ rfl
  clear hx
  simp only [bodyOf, Try.f72] at hl ⊢
  simp only [wB, E0_tys, appI, bsI, slI, sliceI, sliceS, optI, appendI, srcI, chunk, fillI, fzParts, fzL, fz1, planAt, loadI, storeI, takeI, TK.agg, TK.known, cellsI, fillRow, okCell, bltI, builtinI, lenI, indexAddrI, fieldAddrI, fieldI, indexI, nilChkI, An.isImm, pureC, pure0, impI, impL, impC, cutO, An.imps, List.replicate, decide_true, decide_false, cond_true, cond_false, if_true, if_false, ite_true, ite_false, ne_eq, forall_const, eq_self, reduceCtorEq, reduceIte, Nat.reduceLT, Nat.reduceLeDiff, Nat.reduceAdd, Nat.reduceSub, Nat.reduceMul, Nat.reduceEqDiff, Nat.reduceBEq, Int.reduceLE, Int.reduceLT, Int.reduceToNat, Int.reduceEq, Int.reduceAdd, Int.reduceSub, Int.reduceMul, ty_3, tk_3, ty_36, tk_36, ty_4, tk_4, a0, a1, hl, hw, h0, h1, hr, hok, hm, hm2, hn0, List.length_replicate, Int.sub_zero, and_false]
  rfl
end Go.Proofs
set_option maxRecDepth 100000
set_option maxHeartbeats 4000000
set_option linter.unusedVariables false
set_option linter.unusedSimpArgs false
namespace Go.Proofs
open Go.Iv
theorem callIm0 {f : FuncId} {xs : List IV} {y y' : IV} {Rr R R' : List Reg} {l : List Nat} {K : IV → List Reg → Prop} {t : Tok K} (h : PC Try.prog true f xs y Rr) (hp : xs.all pureC = true) (hi : impI l Rr R y = some (y', R')) (hK : K y' R') : callW E0 (.imp l) f xs R K t := by
  unfold callW
  exact callP_iff.2 ⟨(true, xs), by unfold argsI; rw [if_pos hp], y, Rr, h, (y', R'), hi, hK⟩
abbrev SL := List (Option Bool × List Int)
def encS (l : SL) : List (List IV) := l.map fun x => [.sl x.1 (encI x.2)]
def lenS : SL → Nat
  | [] => 0
  | x :: l => x.2.length + lenS l
def catS : SL → List Int
  | [] => []
  | x :: l => x.2 ++ catS l
theorem encS_len (l : SL) : (encS l).length = l.length := by simp [encS]
theorem encS_at {l : SL} {k : Nat} {x : Option Bool × List Int} (h : l[k]? = some x) : (encS l).getD k [] = [.sl x.1 (encI x.2)] := getD_enc h
theorem lenS_app (a b : SL) : lenS (a ++ b) = lenS a + lenS b := by
  induction a with
  | nil => simp [lenS]
  | cons x a ih => simp only [List.cons_append, lenS, ih]; omega
theorem catS_app (a b : SL) : catS (a ++ b) = catS a ++ catS b := by
  induction a with
  | nil => simp [catS]
  | cons x a ih => simp [catS, ih]
theorem catS_len (a : SL) : (catS a).length = lenS a := by
  induction a with
  | nil => rfl
  | cons x a ih => simp [catS, lenS, ih]
theorem lenS_take (l : SL) (k : Nat) : lenS (l.take k) ≤ lenS l := by
  have := lenS_app (l.take k) (l.drop k)
  rw [List.take_append_drop] at this
  omega
theorem c56 (nl : Option Bool) (l : SL) (hl0 : l.length ≤ 1000000) (hs : lenS l ≤ 1000000) : PC Try.prog true 56 [.sl nl (encS l)] (.sl none (encI (catS l))) [] := by
  refine pcK E0_ok mm (fn := Try.f56) (by kernel_rfl) (by kernel_rfl) (by kernel_rfl) [(9, 1, .imp [1]), (13, 2, .reg 0)] (by kernel_rfl) [] (by rw [show Try.f56.ntmps = 1 + 35 by kernel_rfl]; exact Nat.le_add_right _ _) ?_
  intro T hl hx
  have a0 := hx 0 _ rfl
  clear hx
  simp only [bodyOf, Try.f56] at hl ⊢
  simp only [wB, E0_tys, bsI, slI, sliceI, sliceS, optI, appendI, srcI, chunk, fillI, fzParts, fzL, fz1, planAt, loadI, storeI, takeI, TK.agg, TK.known, cellsI, fillRow, okCell, bltI, builtinI, lenI, indexAddrI, fieldAddrI, fieldI, indexI, nilChkI, An.isImm, pureC, pure0, impI, impL, impC, cutO, An.imps, List.replicate, decide_true, decide_false, cond_true, cond_false, if_true, if_false, ite_true, ite_false, ne_eq, forall_const, eq_self, reduceCtorEq, reduceIte, Nat.reduceLT, Nat.reduceLeDiff, Nat.reduceAdd, Nat.reduceSub, Nat.reduceMul, Nat.reduceEqDiff, Nat.reduceBEq, Int.reduceLE, Int.reduceLT, Int.reduceToNat, Int.reduceEq, Int.reduceAdd, Int.reduceSub, Int.reduceMul, ty_3, tk_3, ty_36, tk_36, ty_88, tk_88, ty_4, tk_4, a0, hl, encS_len]
  refine W_loop _ _ _ _ _ _ _ (fun T R => R = [] ∧ ∃ k : Nat, k ≤ l.length ∧ T.length = 36 ∧ getT T 0 = .sl nl (encS l) ∧ getT T 3 = .i .i64 (lenS (l.take k) : Int) ∧ getT T 9 = .sl nl (encS l) ∧ getT T 10 = .i .i64 (l.length : Int) ∧ getT T 11 = .i .i64 (k : Int))
    (fun T _ => l.length - (asI (getT T 11)).toNat) ⟨rfl, 0, ?_⟩ ?_
  · simp only [wB, E0_tys, bsI, slI, sliceI, sliceS, optI, appendI, srcI, chunk, fillI, fzParts, fzL, fz1, planAt, loadI, storeI, takeI, TK.agg, TK.known, cellsI, fillRow, okCell, bltI, builtinI, lenI, indexAddrI, fieldAddrI, fieldI, indexI, nilChkI, An.isImm, pureC, pure0, impI, impL, impC, cutO, An.imps, List.replicate, decide_true, decide_false, cond_true, cond_false, if_true, if_false, ite_true, ite_false, ne_eq, forall_const, eq_self, reduceCtorEq, reduceIte, Nat.reduceLT, Nat.reduceLeDiff, Nat.reduceAdd, Nat.reduceSub, Nat.reduceMul, Nat.reduceEqDiff, Nat.reduceBEq, Int.reduceLE, Int.reduceLT, Int.reduceToNat, Int.reduceEq, Int.reduceAdd, Int.reduceSub, Int.reduceMul, ty_3, tk_3, ty_36, tk_36, ty_88, tk_88, ty_4, tk_4, a0, hl, encS_len, lenS]
  · rintro T R ⟨rfl, k, hk, hl, a0, a3, a9, a10, a11⟩
    simp only [wB, E0_tys, bsI, slI, sliceI, sliceS, optI, appendI, srcI, chunk, fillI, fzParts, fzL, fz1, planAt, loadI, storeI, takeI, TK.agg, TK.known, cellsI, fillRow, okCell, bltI, builtinI, lenI, indexAddrI, fieldAddrI, fieldI, indexI, nilChkI, An.isImm, pureC, pure0, impI, impL, impC, cutO, An.imps, List.replicate, decide_true, decide_false, cond_true, cond_false, if_true, if_false, ite_true, ite_false, ne_eq, forall_const, eq_self, reduceCtorEq, reduceIte, Nat.reduceLT, Nat.reduceLeDiff, Nat.reduceAdd, Nat.reduceSub, Nat.reduceMul, Nat.reduceEqDiff, Nat.reduceBEq, Int.reduceLE, Int.reduceLT, Int.reduceToNat, Int.reduceEq, Int.reduceAdd, Int.reduceSub, Int.reduceMul, ty_3, tk_3, ty_36, tk_36, ty_88, tk_88, ty_4, tk_4, a0, a3, a9, a10, a11, hl, encS_len]
    refine condW_b _ _ _ _ (fun hq => ?_) (fun hq => ?_)
    · have hk2 : k < l.length := by simpa using hq
      obtain ⟨x, hx⟩ := at_lt hk2
      have hw : IntKind.i64.wrap ((k : Int) + 1) = ((k + 1 : Nat) : Int) := by rw [wrap64] <;> omega
      have hst : lenS (l.take (k + 1)) = lenS (l.take k) + x.2.length := by rw [take_succ' hx, lenS_app]; simp [lenS]
      have hle := lenS_take l (k + 1)
      have hw2 : IntKind.i64.wrap ((lenS (l.take k) : Int) + (x.2.length : Int)) = ((lenS (l.take (k + 1)) : Nat) : Int) := by rw [wrap64] <;> omega
      have h0 : ¬ ((lenS (l.take (k + 1)) : Int) < 0) := by omega
      simp only [wB, E0_tys, bsI, slI, sliceI, sliceS, optI, appendI, srcI, chunk, fillI, fzParts, fzL, fz1, planAt, loadI, storeI, takeI, TK.agg, TK.known, cellsI, fillRow, okCell, bltI, builtinI, lenI, indexAddrI, fieldAddrI, fieldI, indexI, nilChkI, An.isImm, pureC, pure0, impI, impL, impC, cutO, An.imps, List.replicate, decide_true, decide_false, cond_true, cond_false, if_true, if_false, ite_true, ite_false, ne_eq, forall_const, eq_self, reduceCtorEq, reduceIte, Nat.reduceLT, Nat.reduceLeDiff, Nat.reduceAdd, Nat.reduceSub, Nat.reduceMul, Nat.reduceEqDiff, Nat.reduceBEq, Int.reduceLE, Int.reduceLT, Int.reduceToNat, Int.reduceEq, Int.reduceAdd, Int.reduceSub, Int.reduceMul, ty_3, tk_3, ty_36, tk_36, ty_88, tk_88, ty_4, tk_4, a0, a3, a9, a10, a11, hl, encS_len, hk2, encS_at hx, hw, hw2, h0]
      exact ⟨⟨k + 1, hk2, rfl, rfl⟩, by simp only [asI]; omega⟩
    · have hk2 : k = l.length := by have := of_decide_eq_false hq; omega
      subst hk2
      rw [List.take_length] at a3
      simp only [wB, E0_tys, bsI, slI, sliceI, sliceS, optI, appendI, srcI, chunk, fillI, fzParts, fzL, fz1, planAt, loadI, storeI, takeI, TK.agg, TK.known, cellsI, fillRow, okCell, bltI, builtinI, lenI, indexAddrI, fieldAddrI, fieldI, indexI, nilChkI, An.isImm, pureC, pure0, impI, impL, impC, cutO, An.imps, List.replicate, decide_true, decide_false, cond_true, cond_false, if_true, if_false, ite_true, ite_false, ne_eq, forall_const, eq_self, reduceCtorEq, reduceIte, Nat.reduceLT, Nat.reduceLeDiff, Nat.reduceAdd, Nat.reduceSub, Nat.reduceMul, Nat.reduceEqDiff, Nat.reduceBEq, Int.reduceLE, Int.reduceLT, Int.reduceToNat, Int.reduceEq, Int.reduceAdd, Int.reduceSub, Int.reduceMul, ty_3, tk_3, ty_36, tk_36, ty_88, tk_88, ty_4, tk_4, a0, a3, a9, a10, a11, hl, encS_len]
      have i0 : ∃ y Rr v R1, PC Try.prog true 72 [.sl (some true) [], .i .i64 (lenS l : Int)] y Rr ∧ impI [1] Rr [] y = some (v, R1) ∧ Acc 3 1 0 v R1 (encI []) := by
        rcases Nat.eq_zero_or_pos (lenS l) with hz | hz
        · exact ⟨_, _, _, _, by rw [hz]; exact c72z, rfl, Acc.nil _ _ _ _⟩
        · exact ⟨_, _, _, _, c72 _ hz hs, rfl, .inr ⟨1, rfl, rfl⟩⟩
      obtain ⟨y, Rr, v, R1, hp, hi, hacc⟩ := i0
      refine callIm0 hp rfl hi ?_
      simp only [wB, E0_tys, bsI, slI, sliceI, sliceS, optI, appendI, srcI, chunk, fillI, fzParts, fzL, fz1, planAt, loadI, storeI, takeI, TK.agg, TK.known, cellsI, fillRow, okCell, bltI, builtinI, lenI, indexAddrI, fieldAddrI, fieldI, indexI, nilChkI, An.isImm, pureC, pure0, impI, impL, impC, cutO, An.imps, List.replicate, decide_true, decide_false, cond_true, cond_false, if_true, if_false, ite_true, ite_false, ne_eq, forall_const, eq_self, reduceCtorEq, reduceIte, Nat.reduceLT, Nat.reduceLeDiff, Nat.reduceAdd, Nat.reduceSub, Nat.reduceMul, Nat.reduceEqDiff, Nat.reduceBEq, Int.reduceLE, Int.reduceLT, Int.reduceToNat, Int.reduceEq, Int.reduceAdd, Int.reduceSub, Int.reduceMul, ty_3, tk_3, ty_36, tk_36, ty_88, tk_88, ty_4, tk_4, a0, hl, encS_len]
      refine W_loop _ _ _ _ _ _ _ (fun T R => ∃ k : Nat, k ≤ l.length ∧ T.length = 36 ∧ getT T 25 = .sl nl (encS l) ∧ getT T 26 = .i .i64 (l.length : Int) ∧ getT T 27 = .i .i64 (k : Int) ∧ Acc 3 1 0 (getT T 6) R (encI (catS (l.take k))))
        (fun T _ => l.length - (asI (getT T 27)).toNat) ⟨0, ?_⟩ ?_
      · simp only [wB, E0_tys, bsI, slI, sliceI, sliceS, optI, appendI, srcI, chunk, fillI, fzParts, fzL, fz1, planAt, loadI, storeI, takeI, TK.agg, TK.known, cellsI, fillRow, okCell, bltI, builtinI, lenI, indexAddrI, fieldAddrI, fieldI, indexI, nilChkI, An.isImm, pureC, pure0, impI, impL, impC, cutO, An.imps, List.replicate, decide_true, decide_false, cond_true, cond_false, if_true, if_false, ite_true, ite_false, ne_eq, forall_const, eq_self, reduceCtorEq, reduceIte, Nat.reduceLT, Nat.reduceLeDiff, Nat.reduceAdd, Nat.reduceSub, Nat.reduceMul, Nat.reduceEqDiff, Nat.reduceBEq, Int.reduceLE, Int.reduceLT, Int.reduceToNat, Int.reduceEq, Int.reduceAdd, Int.reduceSub, Int.reduceMul, ty_3, tk_3, ty_36, tk_36, ty_88, tk_88, ty_4, tk_4, a0, hl, encS_len]
        exact hacc
      · rintro T R ⟨k, hk, hl, a25, a26, a27, hacc⟩
        simp only [wB, E0_tys, bsI, slI, sliceI, sliceS, optI, appendI, srcI, chunk, fillI, fzParts, fzL, fz1, planAt, loadI, storeI, takeI, TK.agg, TK.known, cellsI, fillRow, okCell, bltI, builtinI, lenI, indexAddrI, fieldAddrI, fieldI, indexI, nilChkI, An.isImm, pureC, pure0, impI, impL, impC, cutO, An.imps, List.replicate, decide_true, decide_false, cond_true, cond_false, if_true, if_false, ite_true, ite_false, ne_eq, forall_const, eq_self, reduceCtorEq, reduceIte, Nat.reduceLT, Nat.reduceLeDiff, Nat.reduceAdd, Nat.reduceSub, Nat.reduceMul, Nat.reduceEqDiff, Nat.reduceBEq, Int.reduceLE, Int.reduceLT, Int.reduceToNat, Int.reduceEq, Int.reduceAdd, Int.reduceSub, Int.reduceMul, ty_3, tk_3, ty_36, tk_36, ty_88, tk_88, ty_4, tk_4, a25, a26, a27, hl, encS_len]
        refine condW_b _ _ _ _ (fun hq => ?_) (fun hq => ?_)
        · have hk2 : k < l.length := by simpa using hq
          obtain ⟨x, hx⟩ := at_lt hk2
          have hw : IntKind.i64.wrap ((k : Int) + 1) = ((k + 1 : Nat) : Int) := by rw [wrap64] <;> omega
          have hst : lenS (l.take (k + 1)) = lenS (l.take k) + x.2.length := by rw [take_succ' hx, lenS_app]; simp [lenS]
          have hle := lenS_take l (k + 1)
          have hc : catS (l.take (k + 1)) = catS (l.take k) ++ x.2 := by rw [take_succ' hx, catS_app]; simp [catS]
          obtain ⟨v1, R1, e1, hacc1, o1, hR1⟩ := Acc.append (tys := tysL) (ts := 36) (tx := 36) (ei := ⟨.int .i64, 1, 8, [.i .i64 0]⟩) (x := .sl x.1 (encI x.2)) (new := encI x.2) hacc tk_36 ty_3 ⟨_, tk_36⟩ rfl (encI_ok _) (by decide) rfl (by decide) (by rw [encI_len]; omega) (by rw [encI_len, encI_len, catS_len]; exact room_8 (by omega))
          simp only [wB, E0_tys, bsI, slI, sliceI, sliceS, optI, appendI, srcI, chunk, fillI, fzParts, fzL, fz1, planAt, loadI, storeI, takeI, TK.agg, TK.known, cellsI, fillRow, okCell, bltI, builtinI, lenI, indexAddrI, fieldAddrI, fieldI, indexI, nilChkI, An.isImm, pureC, pure0, impI, impL, impC, cutO, An.imps, List.replicate, decide_true, decide_false, cond_true, cond_false, if_true, if_false, ite_true, ite_false, ne_eq, forall_const, eq_self, reduceCtorEq, reduceIte, Nat.reduceLT, Nat.reduceLeDiff, Nat.reduceAdd, Nat.reduceSub, Nat.reduceMul, Nat.reduceEqDiff, Nat.reduceBEq, Int.reduceLE, Int.reduceLT, Int.reduceToNat, Int.reduceEq, Int.reduceAdd, Int.reduceSub, Int.reduceMul, ty_3, tk_3, ty_36, tk_36, ty_88, tk_88, ty_4, tk_4, a25, a26, a27, hl, encS_len, hk2, encS_at hx, hw, e1]
          refine ⟨⟨k + 1, hk2, rfl, ?_⟩, by simp only [asI]; omega⟩
          rw [hc, ← encI_app]
          exact hacc1
        · have hk2 : k = l.length := by have := of_decide_eq_false hq; omega
          subst hk2
          rw [List.take_length] at hacc
          simp only [wB, E0_tys, bsI, slI, sliceI, sliceS, optI, appendI, srcI, chunk, fillI, fzParts, fzL, fz1, planAt, loadI, storeI, takeI, TK.agg, TK.known, cellsI, fillRow, okCell, bltI, builtinI, lenI, indexAddrI, fieldAddrI, fieldI, indexI, nilChkI, An.isImm, pureC, pure0, impI, impL, impC, cutO, An.imps, List.replicate, decide_true, decide_false, cond_true, cond_false, if_true, if_false, ite_true, ite_false, ne_eq, forall_const, eq_self, reduceCtorEq, reduceIte, Nat.reduceLT, Nat.reduceLeDiff, Nat.reduceAdd, Nat.reduceSub, Nat.reduceMul, Nat.reduceEqDiff, Nat.reduceBEq, Int.reduceLE, Int.reduceLT, Int.reduceToNat, Int.reduceEq, Int.reduceAdd, Int.reduceSub, Int.reduceMul, ty_3, tk_3, ty_36, tk_36, ty_88, tk_88, ty_4, tk_4, a25, hl, encS_len]
          exact hacc.out
end Go.Proofs
