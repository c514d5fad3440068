import Derived.Test.YtapigbgcghekgaaM36
set_option linter.unusedVariables false
set_option linter.unusedSimpArgs false
set_option maxRecDepth 100000
set_option maxHeartbeats 8000000
set_option linter.unusedVariables false
set_option linter.unusedSimpArgs false
namespace Go.Proofs
open Go.Iv
def eqvF : List (List KV) → List (List KV) → Bool
  | [], [] => true
  | x :: a, y :: b => setsF x y && eqvF a b
  | _, _ => false
theorem eqvF_cons (x y : List KV) (a b : List (List KV)) : eqvF (x :: a) (y :: b) = (setsF x y && eqvF a b) := rfl
theorem eqvF_len : ∀ (a b : List (List KV)), a.length ≠ b.length → eqvF a b = false
  | [], [], h => absurd rfl h
  | [], _ :: _, _ => rfl
  | _ :: _, [], _ => rfl
  | x :: a, y :: b, h => by
    unfold eqvF
    rw [eqvF_len a b (by simpa using h), Bool.and_false]
def okKK (l : List (List KV)) : Prop := l.length ≤ 10000 ∧ ∀ r ∈ l, okKs r
theorem c28 (a b : List (List KV)) (ha : okKK a) (hb : okKK b) : PC Try.prog true 28 [.sl none (encKK a), .sl none (encKK b), .fn (.func 29) [] []] (.b (eqvF a b)) [] := by
  obtain ⟨ha1, ha2⟩ := ha
  obtain ⟨hb1, hb2⟩ := hb
  by_cases hlen : a.length = b.length
  · have hli : (a.length : Int) = (b.length : Int) := by omega
    refine pcW E0_ok mm (fn := Try.f28) (by kernel_rfl) (by kernel_rfl) (by kernel_rfl) [] (by kernel_rfl) [] (by rw [show Try.f28.ntmps = 3 + 29 by kernel_rfl]; exact Nat.le_add_right _ _) ?_
    intro T hl hx
    have a0 := hx 0 _ rfl
    have a1 := hx 1 _ rfl
    have a2 := hx 2 _ rfl
    clear hx
    simp only [bodyOf, Try.f28] at hl ⊢
    simp only [wB, E0_tys, appI, buildI, placesI, okPart, bsI, slI, sliceI, sliceS, optI, appendI, srcI, chunk, fillI, fzParts, fzL, fz1, planAt, loadI, storeI, takeI, TK.agg, TK.known, cellsI, fillRow, okCell, bltI, builtinI, lenI, indexAddrI, fieldAddrI, fieldI, indexI, nilChkI, An.isImm, pureC, pure0, impI, impL, impC, cutO, An.imps, List.replicate, decide_true, decide_false, cond_true, cond_false, if_true, if_false, ite_true, ite_false, ne_eq, forall_const, eq_self, reduceCtorEq, reduceIte, Nat.reduceLT, Nat.reduceLeDiff, Nat.reduceAdd, Nat.reduceSub, Nat.reduceMul, Nat.reduceEqDiff, Nat.reduceBEq, Int.reduceLE, Int.reduceLT, Int.reduceToNat, Int.reduceEq, Int.reduceAdd, Int.reduceSub, Int.reduceMul, ty_68, tk_68, ty_80, tk_80, ty_83, tk_83, ty_3, tk_3, ty_4, tk_4, ty_64, tk_64, ty_69, tk_69, a0, a1, a2, hl, encKK_len, hli]
    refine W_loop _ _ _ _ _ _ _ (fun T R => ∃ k : Nat, k ≤ a.length ∧ T.length = 32 ∧ getT T 1 = .sl none (encKK b) ∧ getT T 2 = .fn (.func 29) [] [] ∧ getT T 15 = .sl none (encKK a) ∧ getT T 16 = .i .i64 (a.length : Int) ∧ getT T 17 = .i .i64 (k : Int) ∧ eqvF (a.drop k) (b.drop k) = eqvF a b)
      (fun T _ => a.length - (asI (getT T 17)).toNat) ⟨0, by omega, ?_⟩ ?_
    · simp only [wB, E0_tys, appI, buildI, placesI, okPart, bsI, slI, sliceI, sliceS, optI, appendI, srcI, chunk, fillI, fzParts, fzL, fz1, planAt, loadI, storeI, takeI, TK.agg, TK.known, cellsI, fillRow, okCell, bltI, builtinI, lenI, indexAddrI, fieldAddrI, fieldI, indexI, nilChkI, An.isImm, pureC, pure0, impI, impL, impC, cutO, An.imps, List.replicate, decide_true, decide_false, cond_true, cond_false, if_true, if_false, ite_true, ite_false, ne_eq, forall_const, eq_self, reduceCtorEq, reduceIte, Nat.reduceLT, Nat.reduceLeDiff, Nat.reduceAdd, Nat.reduceSub, Nat.reduceMul, Nat.reduceEqDiff, Nat.reduceBEq, Int.reduceLE, Int.reduceLT, Int.reduceToNat, Int.reduceEq, Int.reduceAdd, Int.reduceSub, Int.reduceMul, ty_68, tk_68, ty_80, tk_80, ty_83, tk_83, ty_3, tk_3, ty_4, tk_4, ty_64, tk_64, ty_69, tk_69, a0, a1, a2, hl, encKK_len, hli]
    · clear hl a0 a1 a2
      rintro T R ⟨k, hk, hl, a1, a2, a15, a16, a17, hE⟩
      simp only [wB, E0_tys, appI, buildI, placesI, okPart, bsI, slI, sliceI, sliceS, optI, appendI, srcI, chunk, fillI, fzParts, fzL, fz1, planAt, loadI, storeI, takeI, TK.agg, TK.known, cellsI, fillRow, okCell, bltI, builtinI, lenI, indexAddrI, fieldAddrI, fieldI, indexI, nilChkI, An.isImm, pureC, pure0, impI, impL, impC, cutO, An.imps, List.replicate, decide_true, decide_false, cond_true, cond_false, if_true, if_false, ite_true, ite_false, ne_eq, forall_const, eq_self, reduceCtorEq, reduceIte, Nat.reduceLT, Nat.reduceLeDiff, Nat.reduceAdd, Nat.reduceSub, Nat.reduceMul, Nat.reduceEqDiff, Nat.reduceBEq, Int.reduceLE, Int.reduceLT, Int.reduceToNat, Int.reduceEq, Int.reduceAdd, Int.reduceSub, Int.reduceMul, ty_68, tk_68, ty_80, tk_80, ty_83, tk_83, ty_3, tk_3, ty_4, tk_4, ty_64, tk_64, ty_69, tk_69, a15, a16, a17, hl]
      refine condW_b _ _ _ _ (fun hq => ?_) (fun hq => ?_)
      · have hk2 : k < a.length := by have := of_decide_eq_true hq; omega
        have hk3 : k < b.length := by omega
        obtain ⟨x, hx⟩ := at_lt hk2
        obtain ⟨y, hy⟩ := at_lt hk3
        have k29 := c29 x y (ha2 x (List.mem_of_getElem? hx)) (hb2 y (List.mem_of_getElem? hy))
        have hw : IntKind.i64.wrap ((k : Int) + 1) = ((k + 1 : Nat) : Int) := by rw [wrap64] <;> omega
        rw [drop_at hx, drop_at hy, eqvF_cons] at hE
        simp only [wB, E0_tys, appI, buildI, placesI, okPart, bsI, slI, sliceI, sliceS, optI, appendI, srcI, chunk, fillI, fzParts, fzL, fz1, planAt, loadI, storeI, takeI, TK.agg, TK.known, cellsI, fillRow, okCell, bltI, builtinI, lenI, indexAddrI, fieldAddrI, fieldI, indexI, nilChkI, An.isImm, pureC, pure0, impI, impL, impC, cutO, An.imps, List.replicate, decide_true, decide_false, cond_true, cond_false, if_true, if_false, ite_true, ite_false, ne_eq, forall_const, eq_self, reduceCtorEq, reduceIte, Nat.reduceLT, Nat.reduceLeDiff, Nat.reduceAdd, Nat.reduceSub, Nat.reduceMul, Nat.reduceEqDiff, Nat.reduceBEq, Int.reduceLE, Int.reduceLT, Int.reduceToNat, Int.reduceEq, Int.reduceAdd, Int.reduceSub, Int.reduceMul, ty_68, tk_68, ty_80, tk_80, ty_83, tk_83, ty_3, tk_3, ty_4, tk_4, ty_64, tk_64, ty_69, tk_69, a1, a2, a15, a16, a17, hl, encKK_len, hk2, hk3, encKK_at hx, encKK_at hy]
        refine callPu0 k29 rfl rfl ?_
        cases hs : setsF x y with
        | true =>
          rw [hs, Bool.true_and] at hE
          simp only [wB, E0_tys, appI, buildI, placesI, okPart, bsI, slI, sliceI, sliceS, optI, appendI, srcI, chunk, fillI, fzParts, fzL, fz1, planAt, loadI, storeI, takeI, TK.agg, TK.known, cellsI, fillRow, okCell, bltI, builtinI, lenI, indexAddrI, fieldAddrI, fieldI, indexI, nilChkI, An.isImm, pureC, pure0, impI, impL, impC, cutO, An.imps, List.replicate, decide_true, decide_false, cond_true, cond_false, if_true, if_false, ite_true, ite_false, ne_eq, forall_const, eq_self, reduceCtorEq, reduceIte, Nat.reduceLT, Nat.reduceLeDiff, Nat.reduceAdd, Nat.reduceSub, Nat.reduceMul, Nat.reduceEqDiff, Nat.reduceBEq, Int.reduceLE, Int.reduceLT, Int.reduceToNat, Int.reduceEq, Int.reduceAdd, Int.reduceSub, Int.reduceMul, ty_68, tk_68, ty_80, tk_80, ty_83, tk_83, ty_3, tk_3, ty_4, tk_4, ty_64, tk_64, ty_69, tk_69, a1, a2, a15, a16, a17, hl, hw]
          exact ⟨⟨k + 1, hk2, rfl, hE⟩, by simp only [asI]; omega⟩
        | false =>
          rw [hs, Bool.false_and] at hE
          simp only [wB, E0_tys, appI, buildI, placesI, okPart, bsI, slI, sliceI, sliceS, optI, appendI, srcI, chunk, fillI, fzParts, fzL, fz1, planAt, loadI, storeI, takeI, TK.agg, TK.known, cellsI, fillRow, okCell, bltI, builtinI, lenI, indexAddrI, fieldAddrI, fieldI, indexI, nilChkI, An.isImm, pureC, pure0, impI, impL, impC, cutO, An.imps, List.replicate, decide_true, decide_false, cond_true, cond_false, if_true, if_false, ite_true, ite_false, ne_eq, forall_const, eq_self, reduceCtorEq, reduceIte, Nat.reduceLT, Nat.reduceLeDiff, Nat.reduceAdd, Nat.reduceSub, Nat.reduceMul, Nat.reduceEqDiff, Nat.reduceBEq, Int.reduceLE, Int.reduceLT, Int.reduceToNat, Int.reduceEq, Int.reduceAdd, Int.reduceSub, Int.reduceMul, ty_68, tk_68, ty_80, tk_80, ty_83, tk_83, ty_3, tk_3, ty_4, tk_4, ty_64, tk_64, ty_69, tk_69, hl]
          rw [← hE]
      · have hk2 : k = a.length := by have := of_decide_eq_false hq; omega
        subst hk2
        rw [List.drop_length, List.drop_of_length_le (by omega)] at hE
        simp only [wB, E0_tys, appI, buildI, placesI, okPart, bsI, slI, sliceI, sliceS, optI, appendI, srcI, chunk, fillI, fzParts, fzL, fz1, planAt, loadI, storeI, takeI, TK.agg, TK.known, cellsI, fillRow, okCell, bltI, builtinI, lenI, indexAddrI, fieldAddrI, fieldI, indexI, nilChkI, An.isImm, pureC, pure0, impI, impL, impC, cutO, An.imps, List.replicate, decide_true, decide_false, cond_true, cond_false, if_true, if_false, ite_true, ite_false, ne_eq, forall_const, eq_self, reduceCtorEq, reduceIte, Nat.reduceLT, Nat.reduceLeDiff, Nat.reduceAdd, Nat.reduceSub, Nat.reduceMul, Nat.reduceEqDiff, Nat.reduceBEq, Int.reduceLE, Int.reduceLT, Int.reduceToNat, Int.reduceEq, Int.reduceAdd, Int.reduceSub, Int.reduceMul, ty_68, tk_68, ty_80, tk_80, ty_83, tk_83, ty_3, tk_3, ty_4, tk_4, ty_64, tk_64, ty_69, tk_69, hl]
        rw [← hE]; rfl
  · have hli : ¬ (a.length : Int) = (b.length : Int) := by omega
    rw [eqvF_len a b hlen]
    refine pcW E0_ok mm (fn := Try.f28) (by kernel_rfl) (by kernel_rfl) (by kernel_rfl) [] (by kernel_rfl) [] (by rw [show Try.f28.ntmps = 3 + 29 by kernel_rfl]; exact Nat.le_add_right _ _) ?_
    intro T hl hx
    have a0 := hx 0 _ rfl
    have a1 := hx 1 _ rfl
    have a2 := hx 2 _ rfl
    clear hx
    simp only [bodyOf, Try.f28] at hl ⊢
    simp only [wB, E0_tys, appI, buildI, placesI, okPart, bsI, slI, sliceI, sliceS, optI, appendI, srcI, chunk, fillI, fzParts, fzL, fz1, planAt, loadI, storeI, takeI, TK.agg, TK.known, cellsI, fillRow, okCell, bltI, builtinI, lenI, indexAddrI, fieldAddrI, fieldI, indexI, nilChkI, An.isImm, pureC, pure0, impI, impL, impC, cutO, An.imps, List.replicate, decide_true, decide_false, cond_true, cond_false, if_true, if_false, ite_true, ite_false, ne_eq, forall_const, eq_self, reduceCtorEq, reduceIte, Nat.reduceLT, Nat.reduceLeDiff, Nat.reduceAdd, Nat.reduceSub, Nat.reduceMul, Nat.reduceEqDiff, Nat.reduceBEq, Int.reduceLE, Int.reduceLT, Int.reduceToNat, Int.reduceEq, Int.reduceAdd, Int.reduceSub, Int.reduceMul, ty_68, tk_68, ty_80, tk_80, ty_83, tk_83, ty_3, tk_3, ty_4, tk_4, ty_64, tk_64, ty_69, tk_69, a0, a1, a2, hl, encKK_len, hli]
/-! ### verdict -/
noncomputable def verdF (a b : List RdnV) (whole : Bool) : Int := match allKF a, allKF b with
  | some x, some y => if x.length < y.length ∨ (whole = true ∧ y.length < x.length) then 3 else if eqvF (x.take y.length) y then 2 else 3
  | _, _ => 1
def okPR (l : List PairV) : Prop := l.length ≤ 1000 ∧ ∀ p ∈ l, p.oid.length ≤ 10000 ∧ p.text.length ≤ 10000
def okNR (l : List RdnV) : Prop := l.length ≤ 1000 ∧ ∀ r ∈ l, okPR r.2
theorem okNR.okN {l : List RdnV} (h : okNR l) : okN l := ⟨h.1, fun r hr => ⟨(h.2 r hr).1, fun p hp => ((h.2 r hr).2 p hp).2⟩⟩
theorem keyF_len {p : PairV} {k : List Int} (h : keyF p = some k) (hp : p.text.length ≤ 10000) : k.length ≤ 400000 := by
  unfold keyF at h
  split at h
  · cases h; simp
  · split at h
    · have := prepF_len h
      omega
    · cases h
theorem keysF_ok {l : List PairV} {k : List KV} (h : keysF l = some k) (hl : ∀ p ∈ l, p.oid.length ≤ 10000 ∧ p.text.length ≤ 10000) : ∀ x ∈ k, okK x := by
  induction l generalizing k with
  | nil => cases h; simp
  | cons p l ih =>
    simp only [keysF] at h
    cases hk : keyF p with
    | none => rw [hk] at h; cases h
    | some kp =>
      rw [hk] at h
      cases hr : keysF l with
      | none => rw [hr] at h; cases h
      | some kr =>
        rw [hr] at h
        cases h
        intro x hx
        rcases List.mem_cons.1 hx with rfl | hx
        · exact ⟨(hl p (by simp)).1, keyF_len hk (hl p (by simp)).2⟩
        · exact ih hr (fun q hq => hl q (by simp [hq])) x hx
theorem allKF_ok {l : List RdnV} {k : List (List KV)} (h : allKF l = some k) (hl : ∀ r ∈ l, okPR r.2) : ∀ x ∈ k, okKs x := by
  induction l generalizing k with
  | nil => cases h; simp
  | cons p l ih =>
    simp only [allKF] at h
    cases hk : keysF p.2 with
    | none => rw [hk] at h; cases h
    | some kp =>
      rw [hk] at h
      cases hr : allKF l with
      | none => rw [hr] at h; cases h
      | some kr =>
        rw [hr] at h
        cases h
        intro x hx
        have hp := hl p (by simp)
        rcases List.mem_cons.1 hx with rfl | hx
        · exact ⟨by rw [keysF_len hk]; have := hp.1; omega, keysF_ok hk hp.2⟩
        · exact ih hr (fun q hq => hl q (by simp [hq])) x hx
theorem encKK_all (l : List (List KV)) : allLen 1 (encKK l) = true := by simp [allLen, encKK]
theorem encKK_take (l : List (List KV)) (n : Nat) : (encKK l).take n = encKK (l.take n) := by simp [encKK]
theorem allV_pure (o : Option (List (List KV))) : pureY (allV o) = true := by cases o <;> rfl
theorem c21 (na nb : Option Bool) (a b : List RdnV) (whole : Bool) (ha : okNR a) (hb : okNR b) : PC Try.prog true 21 [.sl na (encN a), .sl nb (encN b), .b whole] (.i .i64 (verdF a b whole)) [] := by
  have ka := c27 na a ha.okN
  have kb := c27 nb b hb.okN
  cases hx : allKF a with
  | none =>
    have hV : verdF a b whole = 1 := by unfold verdF; rw [hx]
    rw [hx] at ka
    rw [hV]
    refine pcW E0_ok mm (fn := Try.f21) (by kernel_rfl) (by kernel_rfl) (by kernel_rfl) [] (by kernel_rfl) [] (by rw [show Try.f21.ntmps = 3 + 47 by kernel_rfl]; exact Nat.le_add_right _ _) ?_
    intro T hl hx
    have a0 := hx 0 _ rfl
    have a1 := hx 1 _ rfl
    have a2 := hx 2 _ rfl
    clear hx
    simp only [bodyOf, Try.f21] at hl ⊢
    simp only [wB, E0_tys, appI, buildI, placesI, okPart, bsI, slI, sliceI, sliceS, optI, appendI, srcI, chunk, fillI, fzParts, fzL, fz1, planAt, loadI, storeI, takeI, TK.agg, TK.known, cellsI, fillRow, okCell, bltI, builtinI, lenI, indexAddrI, fieldAddrI, fieldI, indexI, nilChkI, An.isImm, pureC, pure0, impI, impL, impC, cutO, An.imps, List.replicate, decide_true, decide_false, cond_true, cond_false, if_true, if_false, ite_true, ite_false, ne_eq, forall_const, eq_self, reduceCtorEq, reduceIte, Nat.reduceLT, Nat.reduceLeDiff, Nat.reduceAdd, Nat.reduceSub, Nat.reduceMul, Nat.reduceEqDiff, Nat.reduceBEq, Int.reduceLE, Int.reduceLT, Int.reduceToNat, Int.reduceEq, Int.reduceAdd, Int.reduceSub, Int.reduceMul, ty_22, tk_22, ty_65, tk_65, ty_64, tk_64, ty_68, tk_68, ty_69, tk_69, ty_3, tk_3, ty_4, tk_4, a0, a1, a2, hl]
    refine callPu0 ka rfl rfl ?_
    simp only [wB, E0_tys, appI, buildI, placesI, okPart, bsI, slI, sliceI, sliceS, optI, appendI, srcI, chunk, fillI, fzParts, fzL, fz1, planAt, loadI, storeI, takeI, TK.agg, TK.known, cellsI, fillRow, okCell, bltI, builtinI, lenI, indexAddrI, fieldAddrI, fieldI, indexI, nilChkI, An.isImm, pureC, pure0, impI, impL, impC, cutO, An.imps, List.replicate, decide_true, decide_false, cond_true, cond_false, if_true, if_false, ite_true, ite_false, ne_eq, forall_const, eq_self, reduceCtorEq, reduceIte, Nat.reduceLT, Nat.reduceLeDiff, Nat.reduceAdd, Nat.reduceSub, Nat.reduceMul, Nat.reduceEqDiff, Nat.reduceBEq, Int.reduceLE, Int.reduceLT, Int.reduceToNat, Int.reduceEq, Int.reduceAdd, Int.reduceSub, Int.reduceMul, ty_22, tk_22, ty_65, tk_65, ty_64, tk_64, ty_68, tk_68, ty_69, tk_69, ty_3, tk_3, ty_4, tk_4, allV, a1, hl]
    refine callPu0 kb rfl (allV_pure _) ?_
    cases hy : allKF b
    all_goals simp only [wB, E0_tys, appI, buildI, placesI, okPart, bsI, slI, sliceI, sliceS, optI, appendI, srcI, chunk, fillI, fzParts, fzL, fz1, planAt, loadI, storeI, takeI, TK.agg, TK.known, cellsI, fillRow, okCell, bltI, builtinI, lenI, indexAddrI, fieldAddrI, fieldI, indexI, nilChkI, An.isImm, pureC, pure0, impI, impL, impC, cutO, An.imps, List.replicate, decide_true, decide_false, cond_true, cond_false, if_true, if_false, ite_true, ite_false, ne_eq, forall_const, eq_self, reduceCtorEq, reduceIte, Nat.reduceLT, Nat.reduceLeDiff, Nat.reduceAdd, Nat.reduceSub, Nat.reduceMul, Nat.reduceEqDiff, Nat.reduceBEq, Int.reduceLE, Int.reduceLT, Int.reduceToNat, Int.reduceEq, Int.reduceAdd, Int.reduceSub, Int.reduceMul, ty_22, tk_22, ty_65, tk_65, ty_64, tk_64, ty_68, tk_68, ty_69, tk_69, ty_3, tk_3, ty_4, tk_4, allV, hl]
  | some x =>
    rw [hx] at ka
    cases hy : allKF b with
    | none =>
      have hV : verdF a b whole = 1 := by unfold verdF; rw [hx, hy]
      rw [hy] at kb
      rw [hV]
      refine pcW E0_ok mm (fn := Try.f21) (by kernel_rfl) (by kernel_rfl) (by kernel_rfl) [] (by kernel_rfl) [] (by rw [show Try.f21.ntmps = 3 + 47 by kernel_rfl]; exact Nat.le_add_right _ _) ?_
      intro T hl hx
      have a0 := hx 0 _ rfl
      have a1 := hx 1 _ rfl
      have a2 := hx 2 _ rfl
      clear hx
      simp only [bodyOf, Try.f21] at hl ⊢
      simp only [wB, E0_tys, appI, buildI, placesI, okPart, bsI, slI, sliceI, sliceS, optI, appendI, srcI, chunk, fillI, fzParts, fzL, fz1, planAt, loadI, storeI, takeI, TK.agg, TK.known, cellsI, fillRow, okCell, bltI, builtinI, lenI, indexAddrI, fieldAddrI, fieldI, indexI, nilChkI, An.isImm, pureC, pure0, impI, impL, impC, cutO, An.imps, List.replicate, decide_true, decide_false, cond_true, cond_false, if_true, if_false, ite_true, ite_false, ne_eq, forall_const, eq_self, reduceCtorEq, reduceIte, Nat.reduceLT, Nat.reduceLeDiff, Nat.reduceAdd, Nat.reduceSub, Nat.reduceMul, Nat.reduceEqDiff, Nat.reduceBEq, Int.reduceLE, Int.reduceLT, Int.reduceToNat, Int.reduceEq, Int.reduceAdd, Int.reduceSub, Int.reduceMul, ty_22, tk_22, ty_65, tk_65, ty_64, tk_64, ty_68, tk_68, ty_69, tk_69, ty_3, tk_3, ty_4, tk_4, a0, a1, a2, hl]
      refine callPu0 ka rfl rfl ?_
      simp only [wB, E0_tys, appI, buildI, placesI, okPart, bsI, slI, sliceI, sliceS, optI, appendI, srcI, chunk, fillI, fzParts, fzL, fz1, planAt, loadI, storeI, takeI, TK.agg, TK.known, cellsI, fillRow, okCell, bltI, builtinI, lenI, indexAddrI, fieldAddrI, fieldI, indexI, nilChkI, An.isImm, pureC, pure0, impI, impL, impC, cutO, An.imps, List.replicate, decide_true, decide_false, cond_true, cond_false, if_true, if_false, ite_true, ite_false, ne_eq, forall_const, eq_self, reduceCtorEq, reduceIte, Nat.reduceLT, Nat.reduceLeDiff, Nat.reduceAdd, Nat.reduceSub, Nat.reduceMul, Nat.reduceEqDiff, Nat.reduceBEq, Int.reduceLE, Int.reduceLT, Int.reduceToNat, Int.reduceEq, Int.reduceAdd, Int.reduceSub, Int.reduceMul, ty_22, tk_22, ty_65, tk_65, ty_64, tk_64, ty_68, tk_68, ty_69, tk_69, ty_3, tk_3, ty_4, tk_4, allV, a1, hl]
      refine callPu0 kb rfl rfl ?_
      simp only [wB, E0_tys, appI, buildI, placesI, okPart, bsI, slI, sliceI, sliceS, optI, appendI, srcI, chunk, fillI, fzParts, fzL, fz1, planAt, loadI, storeI, takeI, TK.agg, TK.known, cellsI, fillRow, okCell, bltI, builtinI, lenI, indexAddrI, fieldAddrI, fieldI, indexI, nilChkI, An.isImm, pureC, pure0, impI, impL, impC, cutO, An.imps, List.replicate, decide_true, decide_false, cond_true, cond_false, if_true, if_false, ite_true, ite_false, ne_eq, forall_const, eq_self, reduceCtorEq, reduceIte, Nat.reduceLT, Nat.reduceLeDiff, Nat.reduceAdd, Nat.reduceSub, Nat.reduceMul, Nat.reduceEqDiff, Nat.reduceBEq, Int.reduceLE, Int.reduceLT, Int.reduceToNat, Int.reduceEq, Int.reduceAdd, Int.reduceSub, Int.reduceMul, ty_22, tk_22, ty_65, tk_65, ty_64, tk_64, ty_68, tk_68, ty_69, tk_69, ty_3, tk_3, ty_4, tk_4, allV, hl]
    | some y =>
      rw [hy] at kb
      have hxl := allKF_len hx
      have hyl := allKF_len hy
      have h1a := ha.1
      have h1b := hb.1
      have hV : verdF a b whole = if x.length < y.length ∨ (whole = true ∧ y.length < x.length) then 3 else if eqvF (x.take y.length) y then 2 else 3 := by unfold verdF; rw [hx, hy]
      rw [hV]
      by_cases h1 : x.length < y.length
      · have h1i : (x.length : Int) < (y.length : Int) := by omega
        rw [if_pos (.inl h1)]
        refine pcW E0_ok mm (fn := Try.f21) (by kernel_rfl) (by kernel_rfl) (by kernel_rfl) [] (by kernel_rfl) [] (by rw [show Try.f21.ntmps = 3 + 47 by kernel_rfl]; exact Nat.le_add_right _ _) ?_
        intro T hl hx
        have a0 := hx 0 _ rfl
        have a1 := hx 1 _ rfl
        have a2 := hx 2 _ rfl
        clear hx
        simp only [bodyOf, Try.f21] at hl ⊢
        simp only [wB, E0_tys, appI, buildI, placesI, okPart, bsI, slI, sliceI, sliceS, optI, appendI, srcI, chunk, fillI, fzParts, fzL, fz1, planAt, loadI, storeI, takeI, TK.agg, TK.known, cellsI, fillRow, okCell, bltI, builtinI, lenI, indexAddrI, fieldAddrI, fieldI, indexI, nilChkI, An.isImm, pureC, pure0, impI, impL, impC, cutO, An.imps, List.replicate, decide_true, decide_false, cond_true, cond_false, if_true, if_false, ite_true, ite_false, ne_eq, forall_const, eq_self, reduceCtorEq, reduceIte, Nat.reduceLT, Nat.reduceLeDiff, Nat.reduceAdd, Nat.reduceSub, Nat.reduceMul, Nat.reduceEqDiff, Nat.reduceBEq, Int.reduceLE, Int.reduceLT, Int.reduceToNat, Int.reduceEq, Int.reduceAdd, Int.reduceSub, Int.reduceMul, ty_22, tk_22, ty_65, tk_65, ty_64, tk_64, ty_68, tk_68, ty_69, tk_69, ty_3, tk_3, ty_4, tk_4, a0, a1, a2, hl]
        refine callPu0 ka rfl rfl ?_
        simp only [wB, E0_tys, appI, buildI, placesI, okPart, bsI, slI, sliceI, sliceS, optI, appendI, srcI, chunk, fillI, fzParts, fzL, fz1, planAt, loadI, storeI, takeI, TK.agg, TK.known, cellsI, fillRow, okCell, bltI, builtinI, lenI, indexAddrI, fieldAddrI, fieldI, indexI, nilChkI, An.isImm, pureC, pure0, impI, impL, impC, cutO, An.imps, List.replicate, decide_true, decide_false, cond_true, cond_false, if_true, if_false, ite_true, ite_false, ne_eq, forall_const, eq_self, reduceCtorEq, reduceIte, Nat.reduceLT, Nat.reduceLeDiff, Nat.reduceAdd, Nat.reduceSub, Nat.reduceMul, Nat.reduceEqDiff, Nat.reduceBEq, Int.reduceLE, Int.reduceLT, Int.reduceToNat, Int.reduceEq, Int.reduceAdd, Int.reduceSub, Int.reduceMul, ty_22, tk_22, ty_65, tk_65, ty_64, tk_64, ty_68, tk_68, ty_69, tk_69, ty_3, tk_3, ty_4, tk_4, allV, a1, hl]
        refine callPu0 kb rfl rfl ?_
        simp only [wB, E0_tys, appI, buildI, placesI, okPart, bsI, slI, sliceI, sliceS, optI, appendI, srcI, chunk, fillI, fzParts, fzL, fz1, planAt, loadI, storeI, takeI, TK.agg, TK.known, cellsI, fillRow, okCell, bltI, builtinI, lenI, indexAddrI, fieldAddrI, fieldI, indexI, nilChkI, An.isImm, pureC, pure0, impI, impL, impC, cutO, An.imps, List.replicate, decide_true, decide_false, cond_true, cond_false, if_true, if_false, ite_true, ite_false, ne_eq, forall_const, eq_self, reduceCtorEq, reduceIte, Nat.reduceLT, Nat.reduceLeDiff, Nat.reduceAdd, Nat.reduceSub, Nat.reduceMul, Nat.reduceEqDiff, Nat.reduceBEq, Int.reduceLE, Int.reduceLT, Int.reduceToNat, Int.reduceEq, Int.reduceAdd, Int.reduceSub, Int.reduceMul, ty_22, tk_22, ty_65, tk_65, ty_64, tk_64, ty_68, tk_68, ty_69, tk_69, ty_3, tk_3, ty_4, tk_4, allV, a2, hl, encKK_len, h1i]
      · have h1i : ¬ (x.length : Int) < (y.length : Int) := by omega
        have k28 := c28 (x.take y.length) y ⟨by simp; omega, fun r hr => allKF_ok hx ha.2 r (List.mem_of_mem_take hr)⟩ ⟨by omega, allKF_ok hy hb.2⟩
        have es : ∀ R, slI tysL 64 (.sl none (encKK x)) (some none) (some (some y.length)) (some none) R = some (.sl none (encKK (x.take y.length))) := by
          intro R
          simp only [slI, sliceI, tk_64, ty_68, sliceS, encKK_len, encKK_all, Option.getD_some, Option.getD_none]
          rw [if_pos ⟨by omega, by omega, trivial⟩, encKK_take]
          rfl
        cases whole with
        | true =>
          by_cases h2 : y.length < x.length
          · have h2i : (y.length : Int) < (x.length : Int) := by omega
            rw [if_pos (.inr ⟨rfl, h2⟩)]
            refine pcW E0_ok mm (fn := Try.f21) (by kernel_rfl) (by kernel_rfl) (by kernel_rfl) [] (by kernel_rfl) [] (by rw [show Try.f21.ntmps = 3 + 47 by kernel_rfl]; exact Nat.le_add_right _ _) ?_
            intro T hl hx
            have a0 := hx 0 _ rfl
            have a1 := hx 1 _ rfl
            have a2 := hx 2 _ rfl
            clear hx
            simp only [bodyOf, Try.f21] at hl ⊢
            simp only [wB, E0_tys, buildI, placesI, okPart, bsI, optI, appendI, srcI, chunk, fillI, fzParts, fzL, fz1, planAt, loadI, storeI, takeI, TK.agg, TK.known, cellsI, fillRow, okCell, bltI, builtinI, lenI, indexAddrI, fieldAddrI, fieldI, indexI, nilChkI, An.isImm, pureC, pure0, impI, impL, impC, cutO, An.imps, List.replicate, decide_true, decide_false, cond_true, cond_false, if_true, if_false, ite_true, ite_false, ne_eq, forall_const, eq_self, reduceCtorEq, reduceIte, Nat.reduceLT, Nat.reduceLeDiff, Nat.reduceAdd, Nat.reduceSub, Nat.reduceMul, Nat.reduceEqDiff, Nat.reduceBEq, Int.reduceLE, Int.reduceLT, Int.reduceToNat, Int.reduceEq, Int.reduceAdd, Int.reduceSub, Int.reduceMul, ty_22, tk_22, ty_65, tk_65, ty_64, tk_64, ty_68, tk_68, ty_69, tk_69, ty_3, tk_3, ty_4, tk_4, a0, a1, a2, hl]
            refine callPu0 ka rfl rfl ?_
            simp only [wB, E0_tys, buildI, placesI, okPart, bsI, optI, appendI, srcI, chunk, fillI, fzParts, fzL, fz1, planAt, loadI, storeI, takeI, TK.agg, TK.known, cellsI, fillRow, okCell, bltI, builtinI, lenI, indexAddrI, fieldAddrI, fieldI, indexI, nilChkI, An.isImm, pureC, pure0, impI, impL, impC, cutO, An.imps, List.replicate, decide_true, decide_false, cond_true, cond_false, if_true, if_false, ite_true, ite_false, ne_eq, forall_const, eq_self, reduceCtorEq, reduceIte, Nat.reduceLT, Nat.reduceLeDiff, Nat.reduceAdd, Nat.reduceSub, Nat.reduceMul, Nat.reduceEqDiff, Nat.reduceBEq, Int.reduceLE, Int.reduceLT, Int.reduceToNat, Int.reduceEq, Int.reduceAdd, Int.reduceSub, Int.reduceMul, ty_22, tk_22, ty_65, tk_65, ty_64, tk_64, ty_68, tk_68, ty_69, tk_69, ty_3, tk_3, ty_4, tk_4, allV, a1, hl]
            refine callPu0 kb rfl rfl ?_
            simp only [wB, E0_tys, buildI, placesI, okPart, bsI, optI, appendI, srcI, chunk, fillI, fzParts, fzL, fz1, planAt, loadI, storeI, takeI, TK.agg, TK.known, cellsI, fillRow, okCell, bltI, builtinI, lenI, indexAddrI, fieldAddrI, fieldI, indexI, nilChkI, An.isImm, pureC, pure0, impI, impL, impC, cutO, An.imps, List.replicate, decide_true, decide_false, cond_true, cond_false, if_true, if_false, ite_true, ite_false, ne_eq, forall_const, eq_self, reduceCtorEq, reduceIte, Nat.reduceLT, Nat.reduceLeDiff, Nat.reduceAdd, Nat.reduceSub, Nat.reduceMul, Nat.reduceEqDiff, Nat.reduceBEq, Int.reduceLE, Int.reduceLT, Int.reduceToNat, Int.reduceEq, Int.reduceAdd, Int.reduceSub, Int.reduceMul, ty_22, tk_22, ty_65, tk_65, ty_64, tk_64, ty_68, tk_68, ty_69, tk_69, ty_3, tk_3, ty_4, tk_4, allV, a2, hl, encKK_len, h1i, h2i]
          · have h2i : ¬ (y.length : Int) < (x.length : Int) := by omega
            rw [if_neg (by simp; omega)]
            refine pcW E0_ok mm (fn := Try.f21) (by kernel_rfl) (by kernel_rfl) (by kernel_rfl) [] (by kernel_rfl) [] (by rw [show Try.f21.ntmps = 3 + 47 by kernel_rfl]; exact Nat.le_add_right _ _) ?_
            intro T hl hx
            have a0 := hx 0 _ rfl
            have a1 := hx 1 _ rfl
            have a2 := hx 2 _ rfl
            clear hx
            simp only [bodyOf, Try.f21] at hl ⊢
            simp only [wB, E0_tys, buildI, placesI, okPart, bsI, optI, appendI, srcI, chunk, fillI, fzParts, fzL, fz1, planAt, loadI, storeI, takeI, TK.agg, TK.known, cellsI, fillRow, okCell, bltI, builtinI, lenI, indexAddrI, fieldAddrI, fieldI, indexI, nilChkI, An.isImm, pureC, pure0, impI, impL, impC, cutO, An.imps, List.replicate, decide_true, decide_false, cond_true, cond_false, if_true, if_false, ite_true, ite_false, ne_eq, forall_const, eq_self, reduceCtorEq, reduceIte, Nat.reduceLT, Nat.reduceLeDiff, Nat.reduceAdd, Nat.reduceSub, Nat.reduceMul, Nat.reduceEqDiff, Nat.reduceBEq, Int.reduceLE, Int.reduceLT, Int.reduceToNat, Int.reduceEq, Int.reduceAdd, Int.reduceSub, Int.reduceMul, ty_22, tk_22, ty_65, tk_65, ty_64, tk_64, ty_68, tk_68, ty_69, tk_69, ty_3, tk_3, ty_4, tk_4, a0, a1, a2, hl]
            refine callPu0 ka rfl rfl ?_
            simp only [wB, E0_tys, buildI, placesI, okPart, bsI, optI, appendI, srcI, chunk, fillI, fzParts, fzL, fz1, planAt, loadI, storeI, takeI, TK.agg, TK.known, cellsI, fillRow, okCell, bltI, builtinI, lenI, indexAddrI, fieldAddrI, fieldI, indexI, nilChkI, An.isImm, pureC, pure0, impI, impL, impC, cutO, An.imps, List.replicate, decide_true, decide_false, cond_true, cond_false, if_true, if_false, ite_true, ite_false, ne_eq, forall_const, eq_self, reduceCtorEq, reduceIte, Nat.reduceLT, Nat.reduceLeDiff, Nat.reduceAdd, Nat.reduceSub, Nat.reduceMul, Nat.reduceEqDiff, Nat.reduceBEq, Int.reduceLE, Int.reduceLT, Int.reduceToNat, Int.reduceEq, Int.reduceAdd, Int.reduceSub, Int.reduceMul, ty_22, tk_22, ty_65, tk_65, ty_64, tk_64, ty_68, tk_68, ty_69, tk_69, ty_3, tk_3, ty_4, tk_4, allV, a1, hl]
            refine callPu0 kb rfl rfl ?_
            simp only [wB, E0_tys, buildI, placesI, okPart, bsI, optI, appendI, srcI, chunk, fillI, fzParts, fzL, fz1, planAt, loadI, storeI, takeI, TK.agg, TK.known, cellsI, fillRow, okCell, bltI, builtinI, lenI, indexAddrI, fieldAddrI, fieldI, indexI, nilChkI, An.isImm, pureC, pure0, impI, impL, impC, cutO, An.imps, List.replicate, decide_true, decide_false, cond_true, cond_false, if_true, if_false, ite_true, ite_false, ne_eq, forall_const, eq_self, reduceCtorEq, reduceIte, Nat.reduceLT, Nat.reduceLeDiff, Nat.reduceAdd, Nat.reduceSub, Nat.reduceMul, Nat.reduceEqDiff, Nat.reduceBEq, Int.reduceLE, Int.reduceLT, Int.reduceToNat, Int.reduceEq, Int.reduceAdd, Int.reduceSub, Int.reduceMul, ty_22, tk_22, ty_65, tk_65, ty_64, tk_64, ty_68, tk_68, ty_69, tk_69, ty_3, tk_3, ty_4, tk_4, allV, a2, hl, encKK_len, h1i, h2i, es]
            refine callPu0 k28 rfl rfl ?_
            cases hE : eqvF (x.take y.length) y
            all_goals simp only [wB, E0_tys, buildI, placesI, okPart, bsI, optI, appendI, srcI, chunk, fillI, fzParts, fzL, fz1, planAt, loadI, storeI, takeI, TK.agg, TK.known, cellsI, fillRow, okCell, bltI, builtinI, lenI, indexAddrI, fieldAddrI, fieldI, indexI, nilChkI, An.isImm, pureC, pure0, impI, impL, impC, cutO, An.imps, List.replicate, decide_true, decide_false, cond_true, cond_false, if_true, if_false, ite_true, ite_false, ne_eq, forall_const, eq_self, reduceCtorEq, reduceIte, Nat.reduceLT, Nat.reduceLeDiff, Nat.reduceAdd, Nat.reduceSub, Nat.reduceMul, Nat.reduceEqDiff, Nat.reduceBEq, Int.reduceLE, Int.reduceLT, Int.reduceToNat, Int.reduceEq, Int.reduceAdd, Int.reduceSub, Int.reduceMul, ty_22, tk_22, ty_65, tk_65, ty_64, tk_64, ty_68, tk_68, ty_69, tk_69, ty_3, tk_3, ty_4, tk_4, hl]
            all_goals rfl
        | false =>
          rw [if_neg (by simp; omega)]
          refine pcW E0_ok mm (fn := Try.f21) (by kernel_rfl) (by kernel_rfl) (by kernel_rfl) [] (by kernel_rfl) [] (by rw [show Try.f21.ntmps = 3 + 47 by kernel_rfl]; exact Nat.le_add_right _ _) ?_
          intro T hl hx
          have a0 := hx 0 _ rfl
          have a1 := hx 1 _ rfl
          have a2 := hx 2 _ rfl
          clear hx
          simp only [bodyOf, Try.f21] at hl ⊢
          simp only [wB, E0_tys, buildI, placesI, okPart, bsI, optI, appendI, srcI, chunk, fillI, fzParts, fzL, fz1, planAt, loadI, storeI, takeI, TK.agg, TK.known, cellsI, fillRow, okCell, bltI, builtinI, lenI, indexAddrI, fieldAddrI, fieldI, indexI, nilChkI, An.isImm, pureC, pure0, impI, impL, impC, cutO, An.imps, List.replicate, decide_true, decide_false, cond_true, cond_false, if_true, if_false, ite_true, ite_false, ne_eq, forall_const, eq_self, reduceCtorEq, reduceIte, Nat.reduceLT, Nat.reduceLeDiff, Nat.reduceAdd, Nat.reduceSub, Nat.reduceMul, Nat.reduceEqDiff, Nat.reduceBEq, Int.reduceLE, Int.reduceLT, Int.reduceToNat, Int.reduceEq, Int.reduceAdd, Int.reduceSub, Int.reduceMul, ty_22, tk_22, ty_65, tk_65, ty_64, tk_64, ty_68, tk_68, ty_69, tk_69, ty_3, tk_3, ty_4, tk_4, a0, a1, a2, hl]
          refine callPu0 ka rfl rfl ?_
          simp only [wB, E0_tys, buildI, placesI, okPart, bsI, optI, appendI, srcI, chunk, fillI, fzParts, fzL, fz1, planAt, loadI, storeI, takeI, TK.agg, TK.known, cellsI, fillRow, okCell, bltI, builtinI, lenI, indexAddrI, fieldAddrI, fieldI, indexI, nilChkI, An.isImm, pureC, pure0, impI, impL, impC, cutO, An.imps, List.replicate, decide_true, decide_false, cond_true, cond_false, if_true, if_false, ite_true, ite_false, ne_eq, forall_const, eq_self, reduceCtorEq, reduceIte, Nat.reduceLT, Nat.reduceLeDiff, Nat.reduceAdd, Nat.reduceSub, Nat.reduceMul, Nat.reduceEqDiff, Nat.reduceBEq, Int.reduceLE, Int.reduceLT, Int.reduceToNat, Int.reduceEq, Int.reduceAdd, Int.reduceSub, Int.reduceMul, ty_22, tk_22, ty_65, tk_65, ty_64, tk_64, ty_68, tk_68, ty_69, tk_69, ty_3, tk_3, ty_4, tk_4, allV, a1, hl]
          refine callPu0 kb rfl rfl ?_
          simp only [wB, E0_tys, buildI, placesI, okPart, bsI, optI, appendI, srcI, chunk, fillI, fzParts, fzL, fz1, planAt, loadI, storeI, takeI, TK.agg, TK.known, cellsI, fillRow, okCell, bltI, builtinI, lenI, indexAddrI, fieldAddrI, fieldI, indexI, nilChkI, An.isImm, pureC, pure0, impI, impL, impC, cutO, An.imps, List.replicate, decide_true, decide_false, cond_true, cond_false, if_true, if_false, ite_true, ite_false, ne_eq, forall_const, eq_self, reduceCtorEq, reduceIte, Nat.reduceLT, Nat.reduceLeDiff, Nat.reduceAdd, Nat.reduceSub, Nat.reduceMul, Nat.reduceEqDiff, Nat.reduceBEq, Int.reduceLE, Int.reduceLT, Int.reduceToNat, Int.reduceEq, Int.reduceAdd, Int.reduceSub, Int.reduceMul, ty_22, tk_22, ty_65, tk_65, ty_64, tk_64, ty_68, tk_68, ty_69, tk_69, ty_3, tk_3, ty_4, tk_4, allV, a2, hl, encKK_len, h1i, es]
          refine callPu0 k28 rfl rfl ?_
          cases hE : eqvF (x.take y.length) y
          all_goals simp only [wB, E0_tys, buildI, placesI, okPart, bsI, optI, appendI, srcI, chunk, fillI, fzParts, fzL, fz1, planAt, loadI, storeI, takeI, TK.agg, TK.known, cellsI, fillRow, okCell, bltI, builtinI, lenI, indexAddrI, fieldAddrI, fieldI, indexI, nilChkI, An.isImm, pureC, pure0, impI, impL, impC, cutO, An.imps, List.replicate, decide_true, decide_false, cond_true, cond_false, if_true, if_false, ite_true, ite_false, ne_eq, forall_const, eq_self, reduceCtorEq, reduceIte, Nat.reduceLT, Nat.reduceLeDiff, Nat.reduceAdd, Nat.reduceSub, Nat.reduceMul, Nat.reduceEqDiff, Nat.reduceBEq, Int.reduceLE, Int.reduceLT, Int.reduceToNat, Int.reduceEq, Int.reduceAdd, Int.reduceSub, Int.reduceMul, ty_22, tk_22, ty_65, tk_65, ty_64, tk_64, ty_68, tk_68, ty_69, tk_69, ty_3, tk_3, ty_4, tk_4, hl]
          all_goals rfl
/-! ### Names, Under, Rdn -/
theorem c9 (na nb : Option Bool) (a b : List RdnV) (ha : okNR a) (hb : okNR b) : PC Try.prog true 9 [.ag [.sl na (encN a)], .ag [.sl nb (encN b)]] (.i .i64 (verdF a b true)) [] := by
  have k21 := c21 na nb a b true ha hb
  refine pcW E0_ok mm (fn := Try.f9) (by kernel_rfl) (by kernel_rfl) (by kernel_rfl) [] (by kernel_rfl) [] (by rw [show Try.f9.ntmps = 2 + 8 by kernel_rfl]; exact Nat.le_add_right _ _) ?_
  intro T hl hx
  have a0 := hx 0 _ rfl
  have a1 := hx 1 _ rfl
  clear hx
  simp only [bodyOf, Try.f9] at hl ⊢
  simp only [wB, E0_tys, appI, buildI, placesI, okPart, bsI, slI, sliceI, sliceS, optI, appendI, srcI, chunk, fillI, fzParts, fzL, fz1, planAt, loadI, storeI, takeI, TK.agg, TK.known, cellsI, fillRow, okCell, bltI, builtinI, lenI, indexAddrI, fieldAddrI, fieldI, indexI, nilChkI, An.isImm, pureC, pure0, impI, impL, impC, cutO, An.imps, List.replicate, decide_true, decide_false, cond_true, cond_false, if_true, if_false, ite_true, ite_false, ne_eq, forall_const, eq_self, reduceCtorEq, reduceIte, Nat.reduceLT, Nat.reduceLeDiff, Nat.reduceAdd, Nat.reduceSub, Nat.reduceMul, Nat.reduceEqDiff, Nat.reduceBEq, Int.reduceLE, Int.reduceLT, Int.reduceToNat, Int.reduceEq, Int.reduceAdd, Int.reduceSub, Int.reduceMul, ty_24, tk_24, ty_22, tk_22, ty_33, tk_33, ty_3, tk_3, ty_4, tk_4, a0, a1, hl]
  refine callPu0 k21 rfl rfl ?_
  simp only [wB, E0_tys, appI, buildI, placesI, okPart, bsI, slI, sliceI, sliceS, optI, appendI, srcI, chunk, fillI, fzParts, fzL, fz1, planAt, loadI, storeI, takeI, TK.agg, TK.known, cellsI, fillRow, okCell, bltI, builtinI, lenI, indexAddrI, fieldAddrI, fieldI, indexI, nilChkI, An.isImm, pureC, pure0, impI, impL, impC, cutO, An.imps, List.replicate, decide_true, decide_false, cond_true, cond_false, if_true, if_false, ite_true, ite_false, ne_eq, forall_const, eq_self, reduceCtorEq, reduceIte, Nat.reduceLT, Nat.reduceLeDiff, Nat.reduceAdd, Nat.reduceSub, Nat.reduceMul, Nat.reduceEqDiff, Nat.reduceBEq, Int.reduceLE, Int.reduceLT, Int.reduceToNat, Int.reduceEq, Int.reduceAdd, Int.reduceSub, Int.reduceMul, ty_24, tk_24, ty_22, tk_22, ty_33, tk_33, ty_3, tk_3, ty_4, tk_4, hl]
theorem c14 (na nb : Option Bool) (a b : List RdnV) (ha : okNR a) (hb : okNR b) : PC Try.prog true 14 [.ag [.sl na (encN a)], .ag [.sl nb (encN b)]] (.i .i64 (verdF a b false)) [] := by
  have k21 := c21 na nb a b false ha hb
  refine pcW E0_ok mm (fn := Try.f14) (by kernel_rfl) (by kernel_rfl) (by kernel_rfl) [] (by kernel_rfl) [] (by rw [show Try.f14.ntmps = 2 + 8 by kernel_rfl]; exact Nat.le_add_right _ _) ?_
  intro T hl hx
  have a0 := hx 0 _ rfl
  have a1 := hx 1 _ rfl
  clear hx
  simp only [bodyOf, Try.f14] at hl ⊢
  simp only [wB, E0_tys, appI, buildI, placesI, okPart, bsI, slI, sliceI, sliceS, optI, appendI, srcI, chunk, fillI, fzParts, fzL, fz1, planAt, loadI, storeI, takeI, TK.agg, TK.known, cellsI, fillRow, okCell, bltI, builtinI, lenI, indexAddrI, fieldAddrI, fieldI, indexI, nilChkI, An.isImm, pureC, pure0, impI, impL, impC, cutO, An.imps, List.replicate, decide_true, decide_false, cond_true, cond_false, if_true, if_false, ite_true, ite_false, ne_eq, forall_const, eq_self, reduceCtorEq, reduceIte, Nat.reduceLT, Nat.reduceLeDiff, Nat.reduceAdd, Nat.reduceSub, Nat.reduceMul, Nat.reduceEqDiff, Nat.reduceBEq, Int.reduceLE, Int.reduceLT, Int.reduceToNat, Int.reduceEq, Int.reduceAdd, Int.reduceSub, Int.reduceMul, ty_24, tk_24, ty_22, tk_22, ty_33, tk_33, ty_3, tk_3, ty_4, tk_4, a0, a1, hl]
  refine callPu0 k21 rfl rfl ?_
  simp only [wB, E0_tys, appI, buildI, placesI, okPart, bsI, slI, sliceI, sliceS, optI, appendI, srcI, chunk, fillI, fzParts, fzL, fz1, planAt, loadI, storeI, takeI, TK.agg, TK.known, cellsI, fillRow, okCell, bltI, builtinI, lenI, indexAddrI, fieldAddrI, fieldI, indexI, nilChkI, An.isImm, pureC, pure0, impI, impL, impC, cutO, An.imps, List.replicate, decide_true, decide_false, cond_true, cond_false, if_true, if_false, ite_true, ite_false, ne_eq, forall_const, eq_self, reduceCtorEq, reduceIte, Nat.reduceLT, Nat.reduceLeDiff, Nat.reduceAdd, Nat.reduceSub, Nat.reduceMul, Nat.reduceEqDiff, Nat.reduceBEq, Int.reduceLE, Int.reduceLT, Int.reduceToNat, Int.reduceEq, Int.reduceAdd, Int.reduceSub, Int.reduceMul, ty_24, tk_24, ty_22, tk_22, ty_33, tk_33, ty_3, tk_3, ty_4, tk_4, hl]
theorem c15 (a b : RdnV) (ha : okPR a.2) (hb : okPR b.2) : PC Try.prog true 15 [.ag [.sl a.1 (encP a.2)], .ag [.sl b.1 (encP b.2)]] (.i .i64 (verdF [a] [b] true)) [] := by
  have k21 := c21 (some false) (some false) [a] [b] true ⟨by simp, by simpa using ha⟩ ⟨by simp, by simpa using hb⟩
  refine pcW E0_ok mm (fn := Try.f15) (by kernel_rfl) (by kernel_rfl) (by kernel_rfl) [] (by kernel_rfl) [] (by rw [show Try.f15.ntmps = 2 + 8 by kernel_rfl]; exact Nat.le_add_right _ _) ?_
  intro T hl hx
  have a0 := hx 0 _ rfl
  have a1 := hx 1 _ rfl
  clear hx
  simp only [bodyOf, Try.f15] at hl ⊢
  simp only [wB, E0_tys, appI, buildI, placesI, okPart, bsI, slI, sliceI, sliceS, optI, appendI, srcI, chunk, fillI, fzParts, fzL, fz1, planAt, loadI, storeI, takeI, TK.agg, TK.known, cellsI, fillRow, okCell, bltI, builtinI, lenI, indexAddrI, fieldAddrI, fieldI, indexI, nilChkI, An.isImm, pureC, pure0, impI, impL, impC, cutO, An.imps, List.replicate, decide_true, decide_false, cond_true, cond_false, if_true, if_false, ite_true, ite_false, ne_eq, forall_const, eq_self, reduceCtorEq, reduceIte, Nat.reduceLT, Nat.reduceLeDiff, Nat.reduceAdd, Nat.reduceSub, Nat.reduceMul, Nat.reduceEqDiff, Nat.reduceBEq, Int.reduceLE, Int.reduceLT, Int.reduceToNat, Int.reduceEq, Int.reduceAdd, Int.reduceSub, Int.reduceMul, ty_24, tk_24, ty_22, tk_22, ty_33, tk_33, ty_31, tk_31, ty_3, tk_3, ty_4, tk_4, a0, a1, hl, Bool.or_true, Bool.or_self]
  refine callPu0 k21 rfl rfl ?_
  simp only [wB, E0_tys, appI, buildI, placesI, okPart, bsI, slI, sliceI, sliceS, optI, appendI, srcI, chunk, fillI, fzParts, fzL, fz1, planAt, loadI, storeI, takeI, TK.agg, TK.known, cellsI, fillRow, okCell, bltI, builtinI, lenI, indexAddrI, fieldAddrI, fieldI, indexI, nilChkI, An.isImm, pureC, pure0, impI, impL, impC, cutO, An.imps, List.replicate, decide_true, decide_false, cond_true, cond_false, if_true, if_false, ite_true, ite_false, ne_eq, forall_const, eq_self, reduceCtorEq, reduceIte, Nat.reduceLT, Nat.reduceLeDiff, Nat.reduceAdd, Nat.reduceSub, Nat.reduceMul, Nat.reduceEqDiff, Nat.reduceBEq, Int.reduceLE, Int.reduceLT, Int.reduceToNat, Int.reduceEq, Int.reduceAdd, Int.reduceSub, Int.reduceMul, ty_24, tk_24, ty_22, tk_22, ty_33, tk_33, ty_31, tk_31, ty_3, tk_3, ty_4, tk_4, hl]
end Go.Proofs
