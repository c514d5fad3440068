import Derived.Test.YtapigbgcghekgaaM14
set_option linter.unusedVariables false
set_option linter.unusedSimpArgs false
set_option maxRecDepth 100000
set_option maxHeartbeats 4000000
set_option linter.unusedVariables false
set_option linter.unusedSimpArgs false
namespace Go.Proofs
open Go.Iv
def runesN (b : ByteArray) : Nat → Nat → List Int
  | 0, _ => []
  | n + 1, pos => if pos < b.size then ((Utf8.decode b pos).1 : Int) :: runesN b n (pos + (Utf8.decode b pos).2) else []
def runesF (b : ByteArray) : List Int := runesN b b.size 0
theorem decode_pos (b : ByteArray) (pos : Nat) : 1 ≤ (Utf8.decode b pos).2 := by
  unfold Utf8.decode
  simp only
  repeat' split
  all_goals simp
theorem decode_le4 (b : ByteArray) (pos : Nat) : (Utf8.decode b pos).2 ≤ 4 := by
  unfold Utf8.decode
  simp only
  repeat' split
  all_goals simp
theorem decode_32 (b : ByteArray) (pos : Nat) : IntKind.i64.wrap ((Utf8.decode b pos).1 : Int) = ((Utf8.decode b pos).1 : Int) := by
  have := decode_le b pos
  rw [wrap64] <;> omega
theorem runesN_done (b : ByteArray) (n pos : Nat) (h : b.size ≤ pos) : runesN b n pos = [] := by
  cases n with
  | zero => rfl
  | succ n => simp only [runesN]; rw [if_neg (by omega)]
theorem runesN_len (b : ByteArray) : ∀ (n pos : Nat), (runesN b n pos).length ≤ n
  | 0, _ => Nat.le_refl _
  | n + 1, pos => by
    simp only [runesN]
    split
    · have := runesN_len b n (pos + (Utf8.decode b pos).2); simp; omega
    · simp
theorem conv_r (c : Int) : convI tysL 21 3 (.i .i32 c) = some (.i .i64 (IntKind.i64.wrap c)) := by
  simp only [convI, tk_21, tk_3, TK.known]
  rfl
theorem c94 (b : ByteArray) (hb : b.size ≤ 100000) : PC Try.prog true 94 [.s b] (.sl none (encI (runesF b))) [] := by
  refine PC_of_Sx (E0_tys.symm.trans E0_ok.tys) (fn := Try.f94) (by kernel_rfl) (by kernel_rfl) (by kernel_rfl) [] (by rw [show Try.f94.ntmps = 1 + 16 by kernel_rfl]; exact Nat.le_add_right _ _) ?_
  intro w0 T hK hl hx s a Q' hi hT hd hQ
  have a0 := hx 0 _ rfl
  clear hx
  simp only [bodyOf, Try.f94] at hl ⊢
  refine wp_seq (W_sound E0_ok mm (an := []) _ (by kernel_rfl) hi hT (Q := fun e T R => e = .n ∧ R = [] ∧ T.length = 17 ∧ getT T 0 = .s b) (tok := .mk) ?_ (fun e => ?_))
  · simp only [wB, E0_tys, appI, bsI, slI, sliceI, sliceS, optI, appendI, srcI, chunk, fillI, fzParts, fzL, fz1, planAt, loadI, storeI, takeI, TK.agg, TK.known, cellsI, fillRow, okCell, bltI, builtinI, lenI, indexAddrI, fieldAddrI, fieldI, indexI, nilChkI, An.isImm, pureC, pure0, impI, impL, impC, cutO, An.imps, List.replicate, decide_true, decide_false, cond_true, cond_false, if_true, if_false, ite_true, ite_false, ne_eq, forall_const, eq_self, reduceCtorEq, reduceIte, Nat.reduceLT, Nat.reduceLeDiff, Nat.reduceAdd, Nat.reduceSub, Nat.reduceMul, Nat.reduceEqDiff, Nat.reduceBEq, Int.reduceLE, Int.reduceLT, Int.reduceToNat, Int.reduceEq, Int.reduceAdd, Int.reduceSub, Int.reduceMul, ty_3, tk_3, ty_36, tk_36, ty_21, tk_21, ty_9, tk_9, a0, hl]
  rintro T R s1 a1 ⟨rfl, rfl, hl, a0⟩ hi1 he hT1 hd1
  clear hT hi
  refine wp_seq (W_sound E0_ok mm (an := []) _ (by kernel_rfl) hi1 hT1 (Q := fun e T R => e = .n ∧ R = [] ∧ T.length = 17 ∧ getT T 0 = .s b ∧ getT T 3 = .sl (some true) []) (tok := .mk) ?_ (fun e => ?_))
  · simp only [wB, E0_tys, appI, bsI, slI, sliceI, sliceS, optI, appendI, srcI, chunk, fillI, fzParts, fzL, fz1, planAt, loadI, storeI, takeI, TK.agg, TK.known, cellsI, fillRow, okCell, bltI, builtinI, lenI, indexAddrI, fieldAddrI, fieldI, indexI, nilChkI, An.isImm, pureC, pure0, impI, impL, impC, cutO, An.imps, List.replicate, decide_true, decide_false, cond_true, cond_false, if_true, if_false, ite_true, ite_false, ne_eq, forall_const, eq_self, reduceCtorEq, reduceIte, Nat.reduceLT, Nat.reduceLeDiff, Nat.reduceAdd, Nat.reduceSub, Nat.reduceMul, Nat.reduceEqDiff, Nat.reduceBEq, Int.reduceLE, Int.reduceLT, Int.reduceToNat, Int.reduceEq, Int.reduceAdd, Int.reduceSub, Int.reduceMul, ty_3, tk_3, ty_36, tk_36, ty_21, tk_21, ty_9, tk_9, a0, hl]
  rintro T R s1 a2 ⟨rfl, rfl, hl, a0, a3⟩ hi1 he hT1 hd2
  refine wp_seq (wp_seq (Sx.start (Q := fun e x => e = .n ∧ x.b = b ∧ x.pos = 0 ∧ x.T.length = 17 ∧ x.R = [] ∧ getT x.T 7 = .vp x.l ∧ getT x.T 3 = .sl (some true) []) hi1 hT1 (by rw [hd2, hd1, hd]) (by rw [← E0_ok.tys, E0_tys]; exact tk_9) a0 (by rw [hl]; decide) (fun l => ?_) ?_ hK))
  · simp only [wB, E0_tys, appI, bsI, slI, sliceI, sliceS, optI, appendI, srcI, chunk, fillI, fzParts, fzL, fz1, planAt, loadI, storeI, takeI, TK.agg, TK.known, cellsI, fillRow, okCell, bltI, builtinI, lenI, indexAddrI, fieldAddrI, fieldI, indexI, nilChkI, An.isImm, pureC, pure0, impI, impL, impC, cutO, An.imps, List.replicate, decide_true, decide_false, cond_true, cond_false, if_true, if_false, ite_true, ite_false, ne_eq, forall_const, eq_self, reduceCtorEq, reduceIte, Nat.reduceLT, Nat.reduceLeDiff, Nat.reduceAdd, Nat.reduceSub, Nat.reduceMul, Nat.reduceEqDiff, Nat.reduceBEq, Int.reduceLE, Int.reduceLT, Int.reduceToNat, Int.reduceEq, Int.reduceAdd, Int.reduceSub, Int.reduceMul, ty_3, tk_3, ty_36, tk_36, ty_21, tk_21, ty_9, tk_9, hl, a3]
  rintro e x a w ⟨rfl, hxb, hxp, hl, hR, a7, a3⟩ hs
  obtain ⟨T, R, l, b', pos⟩ := x
  dsimp only at hxb hxp hl hR a7 a3
  subst hxb; subst hxp; subst hR
  refine (Sx.block (Q := fun e x => e = .n ∧ x.T.length = 17 ∧ Acc 3 1 0 (getT x.T 3) x.R (encI (runesF b'))) (Sx.loop (fun x => x.b = b' ∧ x.T.length = 17 ∧ getT x.T 7 = .vp x.l ∧ ∃ n xs, x.pos ≤ b'.size + 4 ∧ n + xs.length = b'.size ∧ xs.length ≤ x.pos ∧ Acc 3 1 0 (getT x.T 3) x.R (encI xs) ∧ xs ++ runesN b' n x.pos = runesF b') (fun x => b'.size + 4 - x.pos) ?_ ?_)) a w _ hs ?_
  · exact ⟨rfl, hl, a7, b'.size, [], Nat.zero_le _, by simp, Nat.zero_le _, by rw [a3]; exact Acc.nil _ _ _ _, rfl⟩
  · rintro ⟨T, R, l, b2, pos⟩ ⟨rfl, hl, a7, n, xs, hp4, hn, hxp, hacc, hF⟩
    dsimp only at hl a7 hp4 hn hxp hacc hF hb
    by_cases hp : pos < b2.size
    · have hn0 : n ≠ 0 := by omega
      obtain ⟨m, rfl⟩ : ∃ m, n = m + 1 := ⟨n - 1, by omega⟩
      refine Sx.seq (Sx.next_t (tok := .mk) (an := []) E0_ok a7 hp ?_)
      simp only [wB, E0_tys, appI, bsI, slI, sliceI, sliceS, optI, appendI, srcI, chunk, fillI, fzParts, fzL, fz1, planAt, loadI, storeI, takeI, TK.agg, TK.known, cellsI, fillRow, okCell, bltI, builtinI, lenI, indexAddrI, fieldAddrI, fieldI, indexI, nilChkI, An.isImm, pureC, pure0, impI, impL, impC, cutO, An.imps, List.replicate, decide_true, decide_false, cond_true, cond_false, if_true, if_false, ite_true, ite_false, ne_eq, forall_const, eq_self, reduceCtorEq, reduceIte, Nat.reduceLT, Nat.reduceLeDiff, Nat.reduceAdd, Nat.reduceSub, Nat.reduceMul, Nat.reduceEqDiff, Nat.reduceBEq, Int.reduceLE, Int.reduceLT, Int.reduceToNat, Int.reduceEq, Int.reduceAdd, Int.reduceSub, Int.reduceMul, ty_3, tk_3, ty_36, tk_36, ty_21, tk_21, ty_9, tk_9, hl]
      have hd := decode_pos b2 pos
      refine Sx.seq (Sx.cond (v := true) (by simp only [wB, E0_tys, appI, bsI, slI, sliceI, sliceS, optI, appendI, srcI, chunk, fillI, fzParts, fzL, fz1, planAt, loadI, storeI, takeI, TK.agg, TK.known, cellsI, fillRow, okCell, bltI, builtinI, lenI, indexAddrI, fieldAddrI, fieldI, indexI, nilChkI, An.isImm, pureC, pure0, impI, impL, impC, cutO, An.imps, List.replicate, decide_true, decide_false, cond_true, cond_false, if_true, if_false, ite_true, ite_false, ne_eq, forall_const, eq_self, reduceCtorEq, reduceIte, Nat.reduceLT, Nat.reduceLeDiff, Nat.reduceAdd, Nat.reduceSub, Nat.reduceMul, Nat.reduceEqDiff, Nat.reduceBEq, Int.reduceLE, Int.reduceLT, Int.reduceToNat, Int.reduceEq, Int.reduceAdd, Int.reduceSub, Int.reduceMul, ty_3, tk_3, ty_36, tk_36, ty_21, tk_21, ty_9, tk_9, hl]) (fun _ => Sx.ofW (t := .mk) (an := []) E0_ok mm (by kernel_rfl) ?_) (fun h => by cases h))
      simp only [wB, E0_tys, appI, bsI, slI, sliceI, sliceS, optI, appendI, srcI, chunk, fillI, fzParts, fzL, fz1, planAt, loadI, storeI, takeI, TK.agg, TK.known, cellsI, fillRow, okCell, bltI, builtinI, lenI, indexAddrI, fieldAddrI, fieldI, indexI, nilChkI, An.isImm, pureC, pure0, impI, impL, impC, cutO, An.imps, List.replicate, decide_true, decide_false, cond_true, cond_false, if_true, if_false, ite_true, ite_false, ne_eq, forall_const, eq_self, reduceCtorEq, reduceIte, Nat.reduceLT, Nat.reduceLeDiff, Nat.reduceAdd, Nat.reduceSub, Nat.reduceMul, Nat.reduceEqDiff, Nat.reduceBEq, Int.reduceLE, Int.reduceLT, Int.reduceToNat, Int.reduceEq, Int.reduceAdd, Int.reduceSub, Int.reduceMul, ty_3, tk_3, ty_36, tk_36, ty_21, tk_21, ty_9, tk_9, hl]
      show Sx _ _ _ _ _
      have hlm : runesF b2 = xs ++ runesN b2 (m + 1) pos := hF.symm
      have hstep : runesN b2 (m + 1) pos = ((Utf8.decode b2 pos).1 : Int) :: runesN b2 m (pos + (Utf8.decode b2 pos).2) := by simp only [runesN]; rw [if_pos hp]
      refine Sx.block (Sx.seq (Sx.ofW (t := .mk) (an := []) E0_ok mm (by kernel_rfl) ?_))
      simp only [wB, E0_tys, appI, bsI, slI, sliceI, sliceS, optI, appendI, srcI, chunk, fillI, fzParts, fzL, fz1, planAt, loadI, storeI, takeI, TK.agg, TK.known, cellsI, fillRow, okCell, bltI, builtinI, lenI, indexAddrI, fieldAddrI, fieldI, indexI, nilChkI, An.isImm, pureC, pure0, impI, impL, impC, cutO, An.imps, List.replicate, decide_true, decide_false, cond_true, cond_false, if_true, if_false, ite_true, ite_false, ne_eq, forall_const, eq_self, reduceCtorEq, reduceIte, Nat.reduceLT, Nat.reduceLeDiff, Nat.reduceAdd, Nat.reduceSub, Nat.reduceMul, Nat.reduceEqDiff, Nat.reduceBEq, Int.reduceLE, Int.reduceLT, Int.reduceToNat, Int.reduceEq, Int.reduceAdd, Int.reduceSub, Int.reduceMul, ty_3, tk_3, ty_36, tk_36, ty_21, tk_21, ty_9, tk_9, hl]
      show Sx _ _ _ _ _
      obtain ⟨v1, R1, e1, hacc1, o1, hR1⟩ := Acc.append (tys := tysL) (ts := 36) (tx := 36) (ei := ⟨.int .i64, 1, 8, [.i .i64 0]⟩) (x := .sl (some false) [[.i .i64 ((Utf8.decode b2 pos).1 : Int)]]) (new := [[.i .i64 ((Utf8.decode b2 pos).1 : Int)]]) hacc tk_36 ty_3 ⟨_, tk_36⟩ rfl rfl (by decide) rfl (by decide) (by simp) (by rw [encI_len]; exact room_8 (by simp only [List.length_cons, List.length_nil]; omega))
      refine Sx.ofW (t := .mk) (an := [(5, 4, .reg 0)]) E0_ok mm (by kernel_rfl) ?_
      simp only [wB, E0_tys, bsI, slI, sliceI, sliceS, optI, appendI, srcI, chunk, fillI, fzParts, fzL, fz1, planAt, loadI, storeI, takeI, TK.agg, TK.known, cellsI, fillRow, okCell, bltI, builtinI, lenI, indexAddrI, fieldAddrI, fieldI, indexI, nilChkI, An.isImm, pureC, pure0, impI, impL, impC, cutO, An.imps, List.replicate, decide_true, decide_false, cond_true, cond_false, if_true, if_false, ite_true, ite_false, ne_eq, forall_const, eq_self, reduceCtorEq, reduceIte, Nat.reduceLT, Nat.reduceLeDiff, Nat.reduceAdd, Nat.reduceSub, Nat.reduceMul, Nat.reduceEqDiff, Nat.reduceBEq, Int.reduceLE, Int.reduceLT, Int.reduceToNat, Int.reduceEq, Int.reduceAdd, Int.reduceSub, Int.reduceMul, ty_3, tk_3, ty_36, tk_36, ty_21, tk_21, ty_9, tk_9, hl, conv_r, decode_32, e1]
      refine ⟨⟨rfl, by simp only [sl, hl], by simp only [wB, E0_tys, appI, bsI, slI, sliceI, sliceS, optI, appendI, srcI, chunk, fillI, fzParts, fzL, fz1, planAt, loadI, storeI, takeI, TK.agg, TK.known, cellsI, fillRow, okCell, bltI, builtinI, lenI, indexAddrI, fieldAddrI, fieldI, indexI, nilChkI, An.isImm, pureC, pure0, impI, impL, impC, cutO, An.imps, List.replicate, decide_true, decide_false, cond_true, cond_false, if_true, if_false, ite_true, ite_false, ne_eq, forall_const, eq_self, reduceCtorEq, reduceIte, Nat.reduceLT, Nat.reduceLeDiff, Nat.reduceAdd, Nat.reduceSub, Nat.reduceMul, Nat.reduceEqDiff, Nat.reduceBEq, Int.reduceLE, Int.reduceLT, Int.reduceToNat, Int.reduceEq, Int.reduceAdd, Int.reduceSub, Int.reduceMul, ty_3, tk_3, ty_36, tk_36, ty_21, tk_21, ty_9, tk_9, hl, a7], m, xs ++ [((Utf8.decode b2 pos).1 : Int)], ?_, by simp; omega, by simp; omega, ?_, ?_⟩, ?_⟩
      · have := decode_le4 b2 pos; dsimp only; omega
      · simp only [wB, E0_tys, appI, bsI, slI, sliceI, sliceS, optI, appendI, srcI, chunk, fillI, fzParts, fzL, fz1, planAt, loadI, storeI, takeI, TK.agg, TK.known, cellsI, fillRow, okCell, bltI, builtinI, lenI, indexAddrI, fieldAddrI, fieldI, indexI, nilChkI, An.isImm, pureC, pure0, impI, impL, impC, cutO, An.imps, List.replicate, decide_true, decide_false, cond_true, cond_false, if_true, if_false, ite_true, ite_false, ne_eq, forall_const, eq_self, reduceCtorEq, reduceIte, Nat.reduceLT, Nat.reduceLeDiff, Nat.reduceAdd, Nat.reduceSub, Nat.reduceMul, Nat.reduceEqDiff, Nat.reduceBEq, Int.reduceLE, Int.reduceLT, Int.reduceToNat, Int.reduceEq, Int.reduceAdd, Int.reduceSub, Int.reduceMul, ty_3, tk_3, ty_36, tk_36, ty_21, tk_21, ty_9, tk_9, hl]
        rw [← encI_app, ← encI_one]
        exact hacc1
      · rw [hlm, hstep]; simp
      · dsimp only; omega
    · have hn2 : runesN b2 n pos = [] := runesN_done _ _ _ (by omega)
      refine Sx.seq (Sx.next_f (tok := .mk) (an := []) E0_ok a7 hp ?_)
      simp only [wB, E0_tys, appI, bsI, slI, sliceI, sliceS, optI, appendI, srcI, chunk, fillI, fzParts, fzL, fz1, planAt, loadI, storeI, takeI, TK.agg, TK.known, cellsI, fillRow, okCell, bltI, builtinI, lenI, indexAddrI, fieldAddrI, fieldI, indexI, nilChkI, An.isImm, pureC, pure0, impI, impL, impC, cutO, An.imps, List.replicate, decide_true, decide_false, cond_true, cond_false, if_true, if_false, ite_true, ite_false, ne_eq, forall_const, eq_self, reduceCtorEq, reduceIte, Nat.reduceLT, Nat.reduceLeDiff, Nat.reduceAdd, Nat.reduceSub, Nat.reduceMul, Nat.reduceEqDiff, Nat.reduceBEq, Int.reduceLE, Int.reduceLT, Int.reduceToNat, Int.reduceEq, Int.reduceAdd, Int.reduceSub, Int.reduceMul, ty_3, tk_3, ty_36, tk_36, ty_21, tk_21, ty_9, tk_9, hl]
      refine Sx.seq (Sx.cond (v := false) (by simp only [wB, E0_tys, appI, bsI, slI, sliceI, sliceS, optI, appendI, srcI, chunk, fillI, fzParts, fzL, fz1, planAt, loadI, storeI, takeI, TK.agg, TK.known, cellsI, fillRow, okCell, bltI, builtinI, lenI, indexAddrI, fieldAddrI, fieldI, indexI, nilChkI, An.isImm, pureC, pure0, impI, impL, impC, cutO, An.imps, List.replicate, decide_true, decide_false, cond_true, cond_false, if_true, if_false, ite_true, ite_false, ne_eq, forall_const, eq_self, reduceCtorEq, reduceIte, Nat.reduceLT, Nat.reduceLeDiff, Nat.reduceAdd, Nat.reduceSub, Nat.reduceMul, Nat.reduceEqDiff, Nat.reduceBEq, Int.reduceLE, Int.reduceLT, Int.reduceToNat, Int.reduceEq, Int.reduceAdd, Int.reduceSub, Int.reduceMul, ty_3, tk_3, ty_36, tk_36, ty_21, tk_21, ty_9, tk_9, hl]) (fun h => by cases h) (fun _ => Sx.ofW (t := .mk) (an := []) E0_ok mm (by kernel_rfl) ?_))
      simp only [wB, E0_tys, appI, bsI, slI, sliceI, sliceS, optI, appendI, srcI, chunk, fillI, fzParts, fzL, fz1, planAt, loadI, storeI, takeI, TK.agg, TK.known, cellsI, fillRow, okCell, bltI, builtinI, lenI, indexAddrI, fieldAddrI, fieldI, indexI, nilChkI, An.isImm, pureC, pure0, impI, impL, impC, cutO, An.imps, List.replicate, decide_true, decide_false, cond_true, cond_false, if_true, if_false, ite_true, ite_false, ne_eq, forall_const, eq_self, reduceCtorEq, reduceIte, Nat.reduceLT, Nat.reduceLeDiff, Nat.reduceAdd, Nat.reduceSub, Nat.reduceMul, Nat.reduceEqDiff, Nat.reduceBEq, Int.reduceLE, Int.reduceLT, Int.reduceToNat, Int.reduceEq, Int.reduceAdd, Int.reduceSub, Int.reduceMul, ty_3, tk_3, ty_36, tk_36, ty_21, tk_21, ty_9, tk_9, hl]
      refine ⟨rfl, by simp only [sl, hl], ?_⟩
      simp only [wB, E0_tys, appI, bsI, slI, sliceI, sliceS, optI, appendI, srcI, chunk, fillI, fzParts, fzL, fz1, planAt, loadI, storeI, takeI, TK.agg, TK.known, cellsI, fillRow, okCell, bltI, builtinI, lenI, indexAddrI, fieldAddrI, fieldI, indexI, nilChkI, An.isImm, pureC, pure0, impI, impL, impC, cutO, An.imps, List.replicate, decide_true, decide_false, cond_true, cond_false, if_true, if_false, ite_true, ite_false, ne_eq, forall_const, eq_self, reduceCtorEq, reduceIte, Nat.reduceLT, Nat.reduceLeDiff, Nat.reduceAdd, Nat.reduceSub, Nat.reduceMul, Nat.reduceEqDiff, Nat.reduceBEq, Int.reduceLE, Int.reduceLT, Int.reduceToNat, Int.reduceEq, Int.reduceAdd, Int.reduceSub, Int.reduceMul, ty_3, tk_3, ty_36, tk_36, ty_21, tk_21, ty_9, tk_9, hl]
      rw [← hF, hn2, List.append_nil]
      exact hacc
  · rintro e x a w ⟨rfl, hl, hacc⟩ hs
    obtain ⟨T, R, l, b2, pos⟩ := x
    dsimp only at hl hacc
    refine Sx.ofW (t := .mk) (an := []) E0_ok mm (by kernel_rfl) ?_ a w _ hs hQ
    rw [show Try.f94.results.toList = [.tmp 2] by rfl]
    simp only [wB, E0_tys, appI, bsI, slI, sliceI, sliceS, optI, appendI, srcI, chunk, fillI, fzParts, fzL, fz1, planAt, loadI, storeI, takeI, TK.agg, TK.known, cellsI, fillRow, okCell, bltI, builtinI, lenI, indexAddrI, fieldAddrI, fieldI, indexI, nilChkI, An.isImm, pureC, pure0, impI, impL, impC, cutO, An.imps, List.replicate, decide_true, decide_false, cond_true, cond_false, if_true, if_false, ite_true, ite_false, ne_eq, forall_const, eq_self, reduceCtorEq, reduceIte, Nat.reduceLT, Nat.reduceLeDiff, Nat.reduceAdd, Nat.reduceSub, Nat.reduceMul, Nat.reduceEqDiff, Nat.reduceBEq, Int.reduceLE, Int.reduceLT, Int.reduceToNat, Int.reduceEq, Int.reduceAdd, Int.reduceSub, Int.reduceMul, ty_3, tk_3, ty_36, tk_36, ty_21, tk_21, ty_9, tk_9, hl]
    exact hacc.out
end Go.Proofs
