import Derived.Test.YtapigbgcghekgaaM35
set_option linter.unusedVariables false
set_option linter.unusedSimpArgs false
set_option maxRecDepth 100000
set_option maxHeartbeats 8000000
set_option linter.unusedVariables false
set_option linter.unusedSimpArgs false
namespace Go.Proofs
open Go.Iv
def setsF : List KV → List KV → Bool
  | [], left => left.isEmpty
  | x :: a, left => match idxQ (sameF x) left 0 with
    | none => false
    | some i => setsF a (left.eraseIdx i)
theorem setsF_cons (x : KV) (a left : List KV) : setsF (x :: a) left = match idxQ (sameF x) left 0 with | none => false | some i => setsF a (left.eraseIdx i) := rfl
theorem setsF_nil (left : List KV) : setsF [] left = left.isEmpty := rfl
theorem idxQ_lt (p : KV → Bool) : ∀ (l : List KV) (k i : Nat), idxQ p l k = some i → k ≤ i ∧ i < k + l.length
  | [], k, i, h => by cases h
  | x :: l, k, i, h => by
    unfold idxQ at h
    split at h
    · cases h; simp
    · have := idxQ_lt p l (k + 1) i h
      simp; omega
def lvX (R : List Reg) (x : KV) : List Reg := setR (newR R 1 ⟨true, 80, 5, [zK]⟩) 1 ⟨verR R 1, some ⟨true, 80, 5, [kvC x]⟩⟩
theorem rdI_kv (R : List Reg) (n : Nat) (x : KV) : (kvC x).mapM (rdI R n) = some (kvC x) := by
  cases n <;> rfl
theorem args39 {R : List Reg} {ver n : Nat} {rows : List (List IV)} {ks : List KV} (x : KV) (hL : liveR R 0 ver = some ⟨false, 80, 5, rows⟩) (ht : rows.take n = encK ks) :
    argsI (lvX R x) [.rf 0 ver 0 n, .fn (.func 40) [] [.pt 1 (verR R 1) 0 0]] = some (false, [.sl none (encK ks), .fn (.func 40) [] [.pi (kvC x)]]) := by
  have h0 : liveR (lvX R x) 0 ver = some ⟨false, 80, 5, rows⟩ := by unfold lvX; rw [lr_set_ne _ _ _ _ _ (by decide), lr_new_ne _ _ _ _ _ (by decide)]; exact hL
  have h1 : liveR (lvX R x) 1 (verR R 1) = some ⟨true, 80, 5, [kvC x]⟩ := lr_set _ _ _ _
  have e1 : rdI (lvX R x) 3 (.rf 0 ver 0 n) = some (.sl none (encK ks)) := by
    unfold rdI
    simp only [h0, List.drop_zero, ht]
    rfl
  have e2 : rdI (lvX R x) 2 (.pt 1 (verR R 1) 0 0) = some (.pi (kvC x)) := by
    unfold rdI
    simp only [h1, List.getElem?_cons_zero, List.drop_zero, rdI_kv]
    rfl
  have e3 : rdI (lvX R x) 3 (.fn (.func 40) [] [.pt 1 (verR R 1) 0 0]) = some (.fn (.func 40) [] [.pi (kvC x)]) := by
    have : rdI (lvX R x) 3 (.fn (.func 40) [] [.pt 1 (verR R 1) 0 0]) = (match ([] : List IV).mapM (rdI (lvX R x) 2), [IV.pt 1 (verR R 1) 0 0].mapM (rdI (lvX R x) 2) with | some a, some c => some (.fn (.func 40) a c) | _, _ => none) := rfl
    rw [this]
    simp only [List.mapM_cons, List.mapM_nil, e2]
    rfl
  have hp : ¬ ([IV.rf 0 ver 0 n, .fn (.func 40) [] [.pt 1 (verR R 1) 0 0]].all pureC = true) := by simp [pureC]
  unfold argsI
  rw [if_neg hp]
  simp only [List.mapM_cons, List.mapM_nil, e1, e3]
  rfl
theorem args39z (R : List Reg) (x : KV) :
    argsI (lvX R x) [.sl none [], .fn (.func 40) [] [.pt 1 (verR R 1) 0 0]] = some (false, [.sl none (encK []), .fn (.func 40) [] [.pi (kvC x)]]) := by
  have h1 : liveR (lvX R x) 1 (verR R 1) = some ⟨true, 80, 5, [kvC x]⟩ := lr_set _ _ _ _
  have e1 : rdI (lvX R x) 3 (.sl none []) = some (.sl none (encK [])) := rfl
  have e2 : rdI (lvX R x) 2 (.pt 1 (verR R 1) 0 0) = some (.pi (kvC x)) := by
    unfold rdI
    simp only [h1, List.getElem?_cons_zero, List.drop_zero, rdI_kv]
    rfl
  have e3 : rdI (lvX R x) 3 (.fn (.func 40) [] [.pt 1 (verR R 1) 0 0]) = some (.fn (.func 40) [] [.pi (kvC x)]) := by
    have : rdI (lvX R x) 3 (.fn (.func 40) [] [.pt 1 (verR R 1) 0 0]) = (match ([] : List IV).mapM (rdI (lvX R x) 2), [IV.pt 1 (verR R 1) 0 0].mapM (rdI (lvX R x) 2) with | some a, some c => some (.fn (.func 40) a c) | _, _ => none) := rfl
    rw [this]
    simp only [List.mapM_cons, List.mapM_nil, e2]
    rfl
  have hp : ¬ ([IV.sl none [], .fn (.func 40) [] [.pt 1 (verR R 1) 0 0]].all pureC = true) := by simp [pureC, pure0]
  unfold argsI
  rw [if_neg hp]
  simp only [List.mapM_cons, List.mapM_nil, e1, e3]
  rfl
theorem idxV_pure (o : Option Nat) : pureY (idxV o) = true := by cases o <;> rfl
theorem idxV_rel (o : Option Nat) : ∀ s s' R v, Rel s R (idxV o) v → Rel s' R (idxV o) v := by cases o <;> exact rel_i
theorem c39' (x : KV) (l : List KV) (hx : okK x) (hl0 : l.length ≤ 100000) : PC Try.prog false 39 [.sl none (encK l), .fn (.func 40) [] [.pi (kvC x)]] (idxV (idxQ (sameF x) l 0)) [] := PC.noal (c39 x l hx hl0) (idxV_rel _)
def okKs (l : List KV) : Prop := l.length ≤ 10000 ∧ ∀ x ∈ l, okK x
theorem c29z (a : List KV) (ha : okKs a) : PC Try.prog true 29 [.sl none (encK a), .sl none (encK [])] (.b (setsF a [])) [] := by
  obtain ⟨ha1, ha2⟩ := ha
  refine pcW E0_ok mm (fn := Try.f29) (by kernel_rfl) (by kernel_rfl) (by kernel_rfl) [(4, 2, .reg 1), (8, 4, .inl)] (by kernel_rfl) [] (by rw [show Try.f29.ntmps = 2 + 29 by kernel_rfl]; exact Nat.le_add_right _ _) ?_
  intro T hl hx
  have a0 := hx 0 _ rfl
  have a1 := hx 1 _ rfl
  clear hx
  simp only [bodyOf, Try.f29] at hl ⊢
  simp only [wB, E0_tys, appI, buildI, placesI, okPart, bsI, slI, sliceI, sliceS, optI, appendI, srcI, chunk, fillI, fzParts, fzL, fz1, planAt, loadI, storeI, takeI, TK.agg, TK.known, cellsI, fillRow, okCell, bltI, builtinI, lenI, indexAddrI, fieldAddrI, fieldI, indexI, nilChkI, An.isImm, pureC, pure0, impI, impL, impC, cutO, An.imps, List.replicate, decide_true, decide_false, cond_true, cond_false, if_true, if_false, ite_true, ite_false, ne_eq, forall_const, eq_self, reduceCtorEq, reduceIte, Nat.reduceLT, Nat.reduceLeDiff, Nat.reduceAdd, Nat.reduceSub, Nat.reduceMul, Nat.reduceEqDiff, Nat.reduceBEq, Int.reduceLE, Int.reduceLT, Int.reduceToNat, Int.reduceEq, Int.reduceAdd, Int.reduceSub, Int.reduceMul, ty_68, tk_68, ty_80, tk_80, ty_83, tk_83, ty_3, tk_3, ty_4, tk_4, a0, a1, hl]
  refine callPu0 c38z rfl rfl ?_
  simp only [wB, E0_tys, appI, buildI, placesI, okPart, bsI, slI, sliceI, sliceS, optI, appendI, srcI, chunk, fillI, fzParts, fzL, fz1, planAt, loadI, storeI, takeI, TK.agg, TK.known, cellsI, fillRow, okCell, bltI, builtinI, lenI, indexAddrI, fieldAddrI, fieldI, indexI, nilChkI, An.isImm, pureC, pure0, impI, impL, impC, cutO, An.imps, List.replicate, decide_true, decide_false, cond_true, cond_false, if_true, if_false, ite_true, ite_false, ne_eq, forall_const, eq_self, reduceCtorEq, reduceIte, Nat.reduceLT, Nat.reduceLeDiff, Nat.reduceAdd, Nat.reduceSub, Nat.reduceMul, Nat.reduceEqDiff, Nat.reduceBEq, Int.reduceLE, Int.reduceLT, Int.reduceToNat, Int.reduceEq, Int.reduceAdd, Int.reduceSub, Int.reduceMul, ty_68, tk_68, ty_80, tk_80, ty_83, tk_83, ty_3, tk_3, ty_4, tk_4, a0, a1, hl, encK_len]
  refine W_loop _ _ _ _ _ _ _ (fun T R => T.length = 31 ∧ getT T 5 = .sl none [] ∧ getT T 11 = .sl none (encK a) ∧ getT T 12 = .i .i64 (a.length : Int) ∧ getT T 13 = .i .i64 0)
    (fun T _ => 0) ?_ ?_
  · simp only [wB, E0_tys, appI, buildI, placesI, okPart, bsI, slI, sliceI, sliceS, optI, appendI, srcI, chunk, fillI, fzParts, fzL, fz1, planAt, loadI, storeI, takeI, TK.agg, TK.known, cellsI, fillRow, okCell, bltI, builtinI, lenI, indexAddrI, fieldAddrI, fieldI, indexI, nilChkI, An.isImm, pureC, pure0, impI, impL, impC, cutO, An.imps, List.replicate, decide_true, decide_false, cond_true, cond_false, if_true, if_false, ite_true, ite_false, ne_eq, forall_const, eq_self, reduceCtorEq, reduceIte, Nat.reduceLT, Nat.reduceLeDiff, Nat.reduceAdd, Nat.reduceSub, Nat.reduceMul, Nat.reduceEqDiff, Nat.reduceBEq, Int.reduceLE, Int.reduceLT, Int.reduceToNat, Int.reduceEq, Int.reduceAdd, Int.reduceSub, Int.reduceMul, ty_68, tk_68, ty_80, tk_80, ty_83, tk_83, ty_3, tk_3, ty_4, tk_4, a0, a1, hl]
  · clear hl a0 a1
    rintro T R ⟨hl, a5, a11, a12, a13⟩
    simp only [wB, E0_tys, appI, buildI, placesI, okPart, bsI, slI, sliceI, sliceS, optI, appendI, srcI, chunk, fillI, fzParts, fzL, fz1, planAt, loadI, storeI, takeI, TK.agg, TK.known, cellsI, fillRow, okCell, bltI, builtinI, lenI, indexAddrI, fieldAddrI, fieldI, indexI, nilChkI, An.isImm, pureC, pure0, impI, impL, impC, cutO, An.imps, List.replicate, decide_true, decide_false, cond_true, cond_false, if_true, if_false, ite_true, ite_false, ne_eq, forall_const, eq_self, reduceCtorEq, reduceIte, Nat.reduceLT, Nat.reduceLeDiff, Nat.reduceAdd, Nat.reduceSub, Nat.reduceMul, Nat.reduceEqDiff, Nat.reduceBEq, Int.reduceLE, Int.reduceLT, Int.reduceToNat, Int.reduceEq, Int.reduceAdd, Int.reduceSub, Int.reduceMul, ty_68, tk_68, ty_80, tk_80, ty_83, tk_83, ty_3, tk_3, ty_4, tk_4, a11, a12, a13, hl]
    refine condW_b _ _ _ _ (fun hq => ?_) (fun hq => ?_)
    · have hk2 : 0 < a.length := by have := of_decide_eq_true hq; omega
      obtain ⟨x, hxk⟩ := at_lt hk2
      have h39 := c39' x [] (ha2 x (List.mem_of_getElem? hxk)) (by simp)
      have hS : setsF a [] = false := by
        cases a with
        | nil => simp at hk2
        | cons z a => rfl
      have hm1 : (-1 : Int) < 0 := by decide
      simp only [wB, E0_tys, appI, buildI, placesI, okPart, bsI, slI, sliceI, sliceS, optI, appendI, srcI, chunk, fillI, fzParts, fzL, fz1, planAt, loadI, storeI, takeI, TK.agg, TK.known, cellsI, fillRow, okCell, bltI, builtinI, lenI, indexAddrI, fieldAddrI, fieldI, indexI, nilChkI, An.isImm, pureC, pure0, impI, impL, impC, cutO, An.imps, List.replicate, decide_true, decide_false, cond_true, cond_false, if_true, if_false, ite_true, ite_false, ne_eq, forall_const, eq_self, reduceCtorEq, reduceIte, Nat.reduceLT, Nat.reduceLeDiff, Nat.reduceAdd, Nat.reduceSub, Nat.reduceMul, Nat.reduceEqDiff, Nat.reduceBEq, Int.reduceLE, Int.reduceLT, Int.reduceToNat, Int.reduceEq, Int.reduceAdd, Int.reduceSub, Int.reduceMul, ty_68, tk_68, ty_80, tk_80, ty_83, tk_83, ty_3, tk_3, ty_4, tk_4, a5, a11, a12, a13, hl, encK_len, hk2, encK_at hxk]
      refine callRd0 (args39z R x) h39 (idxV_pure _) ?_
      simp only [wB, E0_tys, appI, buildI, placesI, okPart, bsI, slI, sliceI, sliceS, optI, appendI, srcI, chunk, fillI, fzParts, fzL, fz1, planAt, loadI, storeI, takeI, TK.agg, TK.known, cellsI, fillRow, okCell, bltI, builtinI, lenI, indexAddrI, fieldAddrI, fieldI, indexI, nilChkI, An.isImm, pureC, pure0, impI, impL, impC, cutO, An.imps, List.replicate, decide_true, decide_false, cond_true, cond_false, if_true, if_false, ite_true, ite_false, ne_eq, forall_const, eq_self, reduceCtorEq, reduceIte, Nat.reduceLT, Nat.reduceLeDiff, Nat.reduceAdd, Nat.reduceSub, Nat.reduceMul, Nat.reduceEqDiff, Nat.reduceBEq, Int.reduceLE, Int.reduceLT, Int.reduceToNat, Int.reduceEq, Int.reduceAdd, Int.reduceSub, Int.reduceMul, ty_68, tk_68, ty_80, tk_80, ty_83, tk_83, ty_3, tk_3, ty_4, tk_4, idxV, idxQ, hl, hm1, hS]
    · have hk2 : a = [] := List.length_eq_zero_iff.1 (by have := of_decide_eq_false hq; omega)
      subst hk2
      simp only [wB, E0_tys, appI, buildI, placesI, okPart, bsI, slI, sliceI, sliceS, optI, appendI, srcI, chunk, fillI, fzParts, fzL, fz1, planAt, loadI, storeI, takeI, TK.agg, TK.known, cellsI, fillRow, okCell, bltI, builtinI, lenI, indexAddrI, fieldAddrI, fieldI, indexI, nilChkI, An.isImm, pureC, pure0, impI, impL, impC, cutO, An.imps, List.replicate, decide_true, decide_false, cond_true, cond_false, if_true, if_false, ite_true, ite_false, ne_eq, forall_const, eq_self, reduceCtorEq, reduceIte, Nat.reduceLT, Nat.reduceLeDiff, Nat.reduceAdd, Nat.reduceSub, Nat.reduceMul, Nat.reduceEqDiff, Nat.reduceBEq, Int.reduceLE, Int.reduceLT, Int.reduceToNat, Int.reduceEq, Int.reduceAdd, Int.reduceSub, Int.reduceMul, ty_68, tk_68, ty_80, tk_80, ty_83, tk_83, ty_3, tk_3, ty_4, tk_4, a5, hl]
      rfl
theorem c29 (a b : List KV) (ha : okKs a) (hb : okKs b) : PC Try.prog true 29 [.sl none (encK a), .sl none (encK b)] (.b (setsF a b)) [] := by
  cases b with
  | nil => exact c29z a ha
  | cons z b =>
    obtain ⟨ha1, ha2⟩ := ha
    have hb1 : b.length ≤ 10000 := by have := hb.1; simp at this; omega
    have hcut : cutO ⟨false, 80, 5, encK (z :: b)⟩ (b.length + 1) = ⟨false, 80, 5, encK (z :: b)⟩ := by unfold cutO; rw [if_pos (by simp [encK])]
    have hle : (encK (z :: b)).length = b.length + 1 := by simp [encK]
    refine pcW E0_ok mm (fn := Try.f29) (by kernel_rfl) (by kernel_rfl) (by kernel_rfl) [(1, 1, .imp [1]), (4, 2, .reg 1), (8, 4, .inl)] (by kernel_rfl) [] (by rw [show Try.f29.ntmps = 2 + 29 by kernel_rfl]; exact Nat.le_add_right _ _) ?_
    intro T hl hx
    have a0 := hx 0 _ rfl
    have a1 := hx 1 _ rfl
    clear hx
    simp only [bodyOf, Try.f29] at hl ⊢
    simp only [wB, E0_tys, appI, buildI, placesI, okPart, bsI, slI, sliceI, sliceS, optI, appendI, srcI, chunk, fillI, fzParts, fzL, fz1, planAt, loadI, storeI, takeI, TK.agg, TK.known, cellsI, fillRow, okCell, bltI, builtinI, lenI, indexAddrI, fieldAddrI, fieldI, indexI, nilChkI, An.isImm, pureC, pure0, impI, impL, impC, cutO, An.imps, List.replicate, decide_true, decide_false, cond_true, cond_false, if_true, if_false, ite_true, ite_false, ne_eq, forall_const, eq_self, reduceCtorEq, reduceIte, Nat.reduceLT, Nat.reduceLeDiff, Nat.reduceAdd, Nat.reduceSub, Nat.reduceMul, Nat.reduceEqDiff, Nat.reduceBEq, Int.reduceLE, Int.reduceLT, Int.reduceToNat, Int.reduceEq, Int.reduceAdd, Int.reduceSub, Int.reduceMul, ty_68, tk_68, ty_80, tk_80, ty_83, tk_83, ty_3, tk_3, ty_4, tk_4, a0, a1, hl]
    refine callIm0 (c38 z b (by omega)) rfl (by simp [impI, impC, liveR, getR, hcut, hle]; exact ⟨rfl, rfl⟩) ?_
    simp only [wB, E0_tys, appI, buildI, placesI, okPart, bsI, slI, sliceI, sliceS, optI, appendI, srcI, chunk, fillI, fzParts, fzL, fz1, planAt, loadI, storeI, takeI, TK.agg, TK.known, cellsI, fillRow, okCell, bltI, builtinI, lenI, indexAddrI, fieldAddrI, fieldI, indexI, nilChkI, An.isImm, pureC, pure0, impI, impL, impC, cutO, An.imps, List.replicate, decide_true, decide_false, cond_true, cond_false, if_true, if_false, ite_true, ite_false, ne_eq, forall_const, eq_self, reduceCtorEq, reduceIte, Nat.reduceLT, Nat.reduceLeDiff, Nat.reduceAdd, Nat.reduceSub, Nat.reduceMul, Nat.reduceEqDiff, Nat.reduceBEq, Int.reduceLE, Int.reduceLT, Int.reduceToNat, Int.reduceEq, Int.reduceAdd, Int.reduceSub, Int.reduceMul, ty_68, tk_68, ty_80, tk_80, ty_83, tk_83, ty_3, tk_3, ty_4, tk_4, a0, a1, hl, encK_len]
    refine W_loop _ _ _ _ _ _ _ (fun T R => ∃ k : Nat, k ≤ a.length ∧ T.length = 31 ∧ getT T 11 = .sl none (encK a) ∧ getT T 12 = .i .i64 (a.length : Int) ∧ getT T 13 = .i .i64 (k : Int) ∧
        ∃ ver n rows ks, getT T 5 = .rf 0 ver 0 n ∧ liveR R 0 ver = some ⟨false, 80, 5, rows⟩ ∧ okRows 5 rows = true ∧ n ≤ rows.length ∧ rows.length ≤ 100000 ∧ rows.take n = encK ks ∧ ks.length ≤ 100000 ∧ setsF (a.drop k) ks = setsF a (z :: b))
      (fun T _ => a.length - (asI (getT T 13)).toNat) ⟨0, by omega, ?_⟩ ?_
    · simp only [wB, E0_tys, appI, buildI, placesI, okPart, bsI, slI, sliceI, sliceS, optI, appendI, srcI, chunk, fillI, fzParts, fzL, fz1, planAt, loadI, storeI, takeI, TK.agg, TK.known, cellsI, fillRow, okCell, bltI, builtinI, lenI, indexAddrI, fieldAddrI, fieldI, indexI, nilChkI, An.isImm, pureC, pure0, impI, impL, impC, cutO, An.imps, List.replicate, decide_true, decide_false, cond_true, cond_false, if_true, if_false, ite_true, ite_false, ne_eq, forall_const, eq_self, reduceCtorEq, reduceIte, Nat.reduceLT, Nat.reduceLeDiff, Nat.reduceAdd, Nat.reduceSub, Nat.reduceMul, Nat.reduceEqDiff, Nat.reduceBEq, Int.reduceLE, Int.reduceLT, Int.reduceToNat, Int.reduceEq, Int.reduceAdd, Int.reduceSub, Int.reduceMul, ty_68, tk_68, ty_80, tk_80, ty_83, tk_83, ty_3, tk_3, ty_4, tk_4, a0, a1, hl]
      refine ⟨_, _, _, z :: b, rfl, lr_new _ _ _, encK_ok _, ?_, ?_, ?_, ?_, rfl⟩
      · rw [hle]; exact Nat.le_refl _
      · rw [hle]; omega
      · exact List.take_of_length_le (by rw [hle]; exact Nat.le_refl _)
      · simp; omega
    · clear hl a0 a1
      rintro T R ⟨k, hk, hl, a11, a12, a13, ver, n, rows, ks, a5, hL, hok, hn, hr, ht, hkl, hS⟩
      have hnk : n = ks.length := by
        have := congrArg List.length ht
        rw [List.length_take, encK_len] at this
        omega
      simp only [wB, E0_tys, appI, buildI, placesI, okPart, bsI, slI, sliceI, sliceS, optI, appendI, srcI, chunk, fillI, fzParts, fzL, fz1, planAt, loadI, storeI, takeI, TK.agg, TK.known, cellsI, fillRow, okCell, bltI, builtinI, lenI, indexAddrI, fieldAddrI, fieldI, indexI, nilChkI, An.isImm, pureC, pure0, impI, impL, impC, cutO, An.imps, List.replicate, decide_true, decide_false, cond_true, cond_false, if_true, if_false, ite_true, ite_false, ne_eq, forall_const, eq_self, reduceCtorEq, reduceIte, Nat.reduceLT, Nat.reduceLeDiff, Nat.reduceAdd, Nat.reduceSub, Nat.reduceMul, Nat.reduceEqDiff, Nat.reduceBEq, Int.reduceLE, Int.reduceLT, Int.reduceToNat, Int.reduceEq, Int.reduceAdd, Int.reduceSub, Int.reduceMul, ty_68, tk_68, ty_80, tk_80, ty_83, tk_83, ty_3, tk_3, ty_4, tk_4, a11, a12, a13, hl]
      refine condW_b _ _ _ _ (fun hq => ?_) (fun hq => ?_)
      · have hk2 : k < a.length := by have := of_decide_eq_true hq; omega
        obtain ⟨x, hxk⟩ := at_lt hk2
        have h39 := c39' x ks (ha2 x (List.mem_of_getElem? hxk)) hkl
        have hw : IntKind.i64.wrap ((k : Int) + 1) = ((k + 1 : Nat) : Int) := by rw [wrap64] <;> omega
        have hL' : liveR (lvX R x) 0 ver = some ⟨false, 80, 5, rows⟩ := by unfold lvX; rw [lr_set_ne _ _ _ _ _ (by decide), lr_new_ne _ _ _ _ _ (by decide)]; exact hL
        rw [drop_at hxk, setsF_cons] at hS
        simp only [wB, E0_tys, appI, buildI, placesI, okPart, bsI, slI, sliceI, sliceS, optI, appendI, srcI, chunk, fillI, fzParts, fzL, fz1, planAt, loadI, storeI, takeI, TK.agg, TK.known, cellsI, fillRow, okCell, bltI, builtinI, lenI, indexAddrI, fieldAddrI, fieldI, indexI, nilChkI, An.isImm, pureC, pure0, impI, impL, impC, cutO, An.imps, List.replicate, decide_true, decide_false, cond_true, cond_false, if_true, if_false, ite_true, ite_false, ne_eq, forall_const, eq_self, reduceCtorEq, reduceIte, Nat.reduceLT, Nat.reduceLeDiff, Nat.reduceAdd, Nat.reduceSub, Nat.reduceMul, Nat.reduceEqDiff, Nat.reduceBEq, Int.reduceLE, Int.reduceLT, Int.reduceToNat, Int.reduceEq, Int.reduceAdd, Int.reduceSub, Int.reduceMul, ty_68, tk_68, ty_80, tk_80, ty_83, tk_83, ty_3, tk_3, ty_4, tk_4, a5, a11, a12, a13, hl, encK_len, hk2, encK_at hxk]
        refine callRd0 (args39 x hL ht) h39 (idxV_pure _) ?_
        cases hi : idxQ (sameF x) ks 0 with
        | none =>
          rw [hi] at hS
          have hm1 : (-1 : Int) < 0 := by decide
          simp only [wB, E0_tys, appI, buildI, placesI, okPart, bsI, slI, sliceI, sliceS, optI, appendI, srcI, chunk, fillI, fzParts, fzL, fz1, planAt, loadI, storeI, takeI, TK.agg, TK.known, cellsI, fillRow, okCell, bltI, builtinI, lenI, indexAddrI, fieldAddrI, fieldI, indexI, nilChkI, An.isImm, pureC, pure0, impI, impL, impC, cutO, An.imps, List.replicate, decide_true, decide_false, cond_true, cond_false, if_true, if_false, ite_true, ite_false, ne_eq, forall_const, eq_self, reduceCtorEq, reduceIte, Nat.reduceLT, Nat.reduceLeDiff, Nat.reduceAdd, Nat.reduceSub, Nat.reduceMul, Nat.reduceEqDiff, Nat.reduceBEq, Int.reduceLE, Int.reduceLT, Int.reduceToNat, Int.reduceEq, Int.reduceAdd, Int.reduceSub, Int.reduceMul, ty_68, tk_68, ty_80, tk_80, ty_83, tk_83, ty_3, tk_3, ty_4, tk_4, idxV, hl, hm1]
          rw [← hS]
        | some i =>
          rw [hi] at hS
          have hlt := (idxQ_lt _ _ _ _ hi).2
          have hm1 : ¬ (i : Int) < 0 := by omega
          have hwi : IntKind.i64.wrap ((i : Int) + 1) = ((i + 1 : Nat) : Int) := by rw [wrap64] <;> omega
          obtain ⟨y, R1, ⟨rfl, rows', g0, g3, g1, g2⟩, hic⟩ := c42 (lvX R x) ver n i rows hL' hok hn (by omega) hr
          simp only [wB, E0_tys, appI, buildI, placesI, okPart, bsI, slI, sliceI, sliceS, optI, appendI, srcI, chunk, fillI, fzParts, fzL, fz1, planAt, loadI, storeI, takeI, TK.agg, TK.known, cellsI, fillRow, okCell, bltI, builtinI, lenI, indexAddrI, fieldAddrI, fieldI, indexI, nilChkI, An.isImm, pureC, pure0, impI, impL, impC, cutO, An.imps, List.replicate, decide_true, decide_false, cond_true, cond_false, if_true, if_false, ite_true, ite_false, ne_eq, forall_const, eq_self, reduceCtorEq, reduceIte, Nat.reduceLT, Nat.reduceLeDiff, Nat.reduceAdd, Nat.reduceSub, Nat.reduceMul, Nat.reduceEqDiff, Nat.reduceBEq, Int.reduceLE, Int.reduceLT, Int.reduceToNat, Int.reduceEq, Int.reduceAdd, Int.reduceSub, Int.reduceMul, ty_68, tk_68, ty_80, tk_80, ty_83, tk_83, ty_3, tk_3, ty_4, tk_4, a5, a11, a12, a13, idxV, hl, hm1, hwi]
          refine callIc0 hic ?_
          simp only [wB, E0_tys, appI, buildI, placesI, okPart, bsI, slI, sliceI, sliceS, optI, appendI, srcI, chunk, fillI, fzParts, fzL, fz1, planAt, loadI, storeI, takeI, TK.agg, TK.known, cellsI, fillRow, okCell, bltI, builtinI, lenI, indexAddrI, fieldAddrI, fieldI, indexI, nilChkI, An.isImm, pureC, pure0, impI, impL, impC, cutO, An.imps, List.replicate, decide_true, decide_false, cond_true, cond_false, if_true, if_false, ite_true, ite_false, ne_eq, forall_const, eq_self, reduceCtorEq, reduceIte, Nat.reduceLT, Nat.reduceLeDiff, Nat.reduceAdd, Nat.reduceSub, Nat.reduceMul, Nat.reduceEqDiff, Nat.reduceBEq, Int.reduceLE, Int.reduceLT, Int.reduceToNat, Int.reduceEq, Int.reduceAdd, Int.reduceSub, Int.reduceMul, ty_68, tk_68, ty_80, tk_80, ty_83, tk_83, ty_3, tk_3, ty_4, tk_4, a11, a12, a13, hl, hw]
          have g4 : rows'.take (n - 1) = encK (ks.eraseIdx i) := by
            rw [g2, ht]
            unfold encK
            rw [List.eraseIdx_eq_take_drop_succ, List.eraseIdx_eq_take_drop_succ]
            simp [List.map_take, List.map_drop]
          refine ⟨⟨k + 1, hk2, rfl, ver, n - 1, rows', ks.eraseIdx i, rfl, g0, g3, by omega, by omega, g4, ?_, hS⟩, by simp only [asI]; omega⟩
          have := List.length_eraseIdx_le ks i
          omega
      · have hk2 : k = a.length := by have := of_decide_eq_false hq; omega
        subst hk2
        rw [List.drop_length] at hS
        simp only [wB, E0_tys, appI, buildI, placesI, okPart, bsI, slI, sliceI, sliceS, optI, appendI, srcI, chunk, fillI, fzParts, fzL, fz1, planAt, loadI, storeI, takeI, TK.agg, TK.known, cellsI, fillRow, okCell, bltI, builtinI, lenI, indexAddrI, fieldAddrI, fieldI, indexI, nilChkI, An.isImm, pureC, pure0, impI, impL, impC, cutO, An.imps, List.replicate, decide_true, decide_false, cond_true, cond_false, if_true, if_false, ite_true, ite_false, ne_eq, forall_const, eq_self, reduceCtorEq, reduceIte, Nat.reduceLT, Nat.reduceLeDiff, Nat.reduceAdd, Nat.reduceSub, Nat.reduceMul, Nat.reduceEqDiff, Nat.reduceBEq, Int.reduceLE, Int.reduceLT, Int.reduceToNat, Int.reduceEq, Int.reduceAdd, Int.reduceSub, Int.reduceMul, ty_68, tk_68, ty_80, tk_80, ty_83, tk_83, ty_3, tk_3, ty_4, tk_4, a5, hl, hL]
        rw [← hS, setsF_nil]
        cases ks with
        | nil => simp at hnk; subst hnk; rfl
        | cons z ks => simp at hnk; subst hnk; simp; omega
end Go.Proofs
