import Derived.Test.YtapigbgcghekgaaM33
set_option linter.unusedVariables false
set_option linter.unusedSimpArgs false
set_option maxRecDepth 100000
set_option maxHeartbeats 8000000
set_option linter.unusedVariables false
set_option linter.unusedSimpArgs false
namespace Go.Proofs
open Go.Iv
def kindsT : List Int := [12, 18, 19, 20, 22, 26, 28, 30]
theorem c12 (k : Int) : PC Try.prog true 12 [.i .i64 k] (.b (decide (k ∈ kindsT))) [] := by
  refine pcW E0_ok mm (fn := Try.f12) (by kernel_rfl) (by kernel_rfl) (by kernel_rfl) [] (by kernel_rfl) [] (by rw [show Try.f12.ntmps = 1 + 5 by kernel_rfl]; exact Nat.le_add_right _ _) ?_
  intro T hl hx
  have a0 := hx 0 _ rfl
  clear hx
  simp only [bodyOf, Try.f12] at hl ⊢
  simp only [wB, E0_tys, appI, buildI, placesI, okPart, bsI, slI, sliceI, sliceS, optI, appendI, srcI, chunk, fillI, fzParts, fzL, fz1, planAt, loadI, storeI, takeI, TK.agg, TK.known, cellsI, fillRow, okCell, bltI, builtinI, lenI, indexAddrI, fieldAddrI, fieldI, indexI, nilChkI, An.isImm, pureC, pure0, impI, impL, impC, cutO, An.imps, List.replicate, decide_true, decide_false, cond_true, cond_false, if_true, if_false, ite_true, ite_false, ne_eq, forall_const, eq_self, reduceCtorEq, reduceIte, Nat.reduceLT, Nat.reduceLeDiff, Nat.reduceAdd, Nat.reduceSub, Nat.reduceMul, Nat.reduceEqDiff, Nat.reduceBEq, Int.reduceLE, Int.reduceLT, Int.reduceToNat, Int.reduceEq, Int.reduceAdd, Int.reduceSub, Int.reduceMul, ty_3, tk_3, ty_36, tk_36, ty_4, tk_4, a0, hl]
  refine callPu0 (c23 (some false) kindsT k (by decide)) rfl rfl ?_
  simp only [wB, E0_tys, appI, buildI, placesI, okPart, bsI, slI, sliceI, sliceS, optI, appendI, srcI, chunk, fillI, fzParts, fzL, fz1, planAt, loadI, storeI, takeI, TK.agg, TK.known, cellsI, fillRow, okCell, bltI, builtinI, lenI, indexAddrI, fieldAddrI, fieldI, indexI, nilChkI, An.isImm, pureC, pure0, impI, impL, impC, cutO, An.imps, List.replicate, decide_true, decide_false, cond_true, cond_false, if_true, if_false, ite_true, ite_false, ne_eq, forall_const, eq_self, reduceCtorEq, reduceIte, Nat.reduceLT, Nat.reduceLeDiff, Nat.reduceAdd, Nat.reduceSub, Nat.reduceMul, Nat.reduceEqDiff, Nat.reduceBEq, Int.reduceLE, Int.reduceLT, Int.reduceToNat, Int.reduceEq, Int.reduceAdd, Int.reduceSub, Int.reduceMul, ty_3, tk_3, ty_36, tk_36, ty_4, tk_4, hl]
structure AttrV where
  oid : List Int
  name : ByteArray
  rule : Int
  kinds : List Int
def attrC (a : AttrV) : List IV := [.sl (some false) (encI a.oid), .s a.name, .i .i64 a.rule, .sl (some false) (encI a.kinds)]
def dirT : List Int := [19, 12, 20, 30, 28]
def attrsT : List AttrV := [⟨[2, 5, 4, 3], ⟨#[67, 78]⟩, 1, dirT⟩, ⟨[2, 5, 4, 4], ⟨#[83, 78]⟩, 1, dirT⟩, ⟨[2, 5, 4, 5], ⟨#[83, 69, 82, 73, 65, 76, 78, 85, 77, 66, 69, 82]⟩, 1, [19]⟩, ⟨[2, 5, 4, 6], ⟨#[67]⟩, 1, [19]⟩,
  ⟨[2, 5, 4, 7], ⟨#[76]⟩, 1, dirT⟩, ⟨[2, 5, 4, 8], ⟨#[83, 84]⟩, 1, dirT⟩, ⟨[2, 5, 4, 9], ⟨#[83, 84, 82, 69, 69, 84]⟩, 1, dirT⟩, ⟨[2, 5, 4, 10], ⟨#[79]⟩, 1, dirT⟩, ⟨[2, 5, 4, 11], ⟨#[79, 85]⟩, 1, dirT⟩,
  ⟨[2, 5, 4, 24], ⟨#[88, 49, 50, 49]⟩, 3, [18]⟩, ⟨[0, 9, 2342, 19200300, 100, 1, 1], ⟨#[85, 73, 68]⟩, 1, dirT⟩, ⟨[0, 9, 2342, 19200300, 100, 1, 25], ⟨#[68, 67]⟩, 2, [22]⟩, ⟨[1, 2, 840, 113549, 1, 9, 1], ⟨#[69]⟩, 2, [22]⟩]
def encA (l : List AttrV) : List (List IV) := l.map attrC
theorem c16 : PC Try.prog true 16 [] (.sl (some false) (encA attrsT)) [] := pcRun E0_ok mm (noCal_ok _) (fn := Try.f16) (by kernel_rfl) (by kernel_rfl) (by kernel_rfl) [] (by kernel_rfl) [] 100 (by kernel_rfl)
theorem encA_len (l : List AttrV) : (encA l).length = l.length := by simp [encA]
theorem encA_at {l : List AttrV} {k : Nat} {a : AttrV} (h : l[k]? = some a) : (encA l).getD k [] = [.sl (some false) (encI a.oid), .s a.name, .i .i64 a.rule, .sl (some false) (encI a.kinds)] := getD_enc h
def findA : List AttrV → List Int → Option AttrV
  | [], _ => none
  | a :: l, oid => if a.oid = oid then some a else findA l oid
def findAV : Option AttrV → IV
  | some a => .tu [.ag [.sl (some false) (encI a.oid), .s a.name, .i .i64 a.rule, .sl none (encI a.kinds)], .b true]
  | none => .tu [.ag [.sl (some true) [], .s ⟨#[]⟩, .i .i64 0, .sl (some true) []], .b false]
theorem attrs_small : ∀ a ∈ attrsT, a.oid.length ≤ 10 ∧ a.kinds.length ≤ 10 := by decide
theorem c26 (nl : Option Bool) (oid : List Int) : PC Try.prog true 26 [.sl nl (encI oid)] (findAV (findA attrsT oid)) [] := by
  refine pcW E0_ok mm (fn := Try.f26) (by kernel_rfl) (by kernel_rfl) (by kernel_rfl) [(0, 0, .reg 0), (3, 2, .reg 1)] (by kernel_rfl) [] (by rw [show Try.f26.ntmps = 1 + 22 by kernel_rfl]; exact Nat.le_add_right _ _) ?_
  intro T hl hx
  have a0 := hx 0 _ rfl
  clear hx
  simp only [bodyOf, Try.f26] at hl ⊢
  simp only [wB, E0_tys, appI, buildI, placesI, okPart, bsI, slI, sliceI, sliceS, optI, appendI, srcI, chunk, fillI, fzParts, fzL, fz1, planAt, loadI, storeI, takeI, TK.agg, TK.known, cellsI, fillRow, okCell, bltI, builtinI, lenI, indexAddrI, fieldAddrI, fieldI, indexI, nilChkI, An.isImm, pureC, pure0, impI, impL, impC, cutO, An.imps, List.replicate, decide_true, decide_false, cond_true, cond_false, if_true, if_false, ite_true, ite_false, ne_eq, forall_const, eq_self, reduceCtorEq, reduceIte, Nat.reduceLT, Nat.reduceLeDiff, Nat.reduceAdd, Nat.reduceSub, Nat.reduceMul, Nat.reduceEqDiff, Nat.reduceBEq, Int.reduceLE, Int.reduceLT, Int.reduceToNat, Int.reduceEq, Int.reduceAdd, Int.reduceSub, Int.reduceMul, ty_3, tk_3, ty_36, tk_36, ty_4, tk_4, ty_46, tk_46, ty_49, tk_49, ty_9, tk_9, a0, hl]
  refine callPu0 c16 rfl rfl ?_
  simp only [wB, E0_tys, appI, buildI, placesI, okPart, bsI, slI, sliceI, sliceS, optI, appendI, srcI, chunk, fillI, fzParts, fzL, fz1, planAt, loadI, storeI, takeI, TK.agg, TK.known, cellsI, fillRow, okCell, bltI, builtinI, lenI, indexAddrI, fieldAddrI, fieldI, indexI, nilChkI, An.isImm, pureC, pure0, impI, impL, impC, cutO, An.imps, List.replicate, decide_true, decide_false, cond_true, cond_false, if_true, if_false, ite_true, ite_false, ne_eq, forall_const, eq_self, reduceCtorEq, reduceIte, Nat.reduceLT, Nat.reduceLeDiff, Nat.reduceAdd, Nat.reduceSub, Nat.reduceMul, Nat.reduceEqDiff, Nat.reduceBEq, Int.reduceLE, Int.reduceLT, Int.reduceToNat, Int.reduceEq, Int.reduceAdd, Int.reduceSub, Int.reduceMul, ty_3, tk_3, ty_36, tk_36, ty_4, tk_4, ty_46, tk_46, ty_49, tk_49, ty_9, tk_9, a0, hl, encA_len]
  refine W_loop _ _ _ _ _ _ _ (fun T R => ∃ k : Nat, k ≤ attrsT.length ∧ T.length = 23 ∧ getT T 0 = .sl nl (encI oid) ∧ getT T 2 = .pt 0 1 0 0 ∧ getT T 6 = .sl (some false) (encA attrsT) ∧ getT T 7 = .i .i64 (attrsT.length : Int) ∧ getT T 8 = .i .i64 (k : Int) ∧
      liveR R 0 1 = some ⟨true, 49, 4, [[.sl (some true) [], .s ⟨#[]⟩, .i .i64 0, .sl (some true) []]]⟩ ∧ findA (attrsT.drop k) oid = findA attrsT oid)
    (fun T _ => attrsT.length - (asI (getT T 8)).toNat) ⟨0, ?_⟩ ?_
  · simp only [wB, E0_tys, appI, buildI, placesI, okPart, bsI, slI, sliceI, sliceS, optI, appendI, srcI, chunk, fillI, fzParts, fzL, fz1, planAt, loadI, storeI, takeI, TK.agg, TK.known, cellsI, fillRow, okCell, bltI, builtinI, lenI, indexAddrI, fieldAddrI, fieldI, indexI, nilChkI, An.isImm, pureC, pure0, impI, impL, impC, cutO, An.imps, List.replicate, decide_true, decide_false, cond_true, cond_false, if_true, if_false, ite_true, ite_false, ne_eq, forall_const, eq_self, reduceCtorEq, reduceIte, Nat.reduceLT, Nat.reduceLeDiff, Nat.reduceAdd, Nat.reduceSub, Nat.reduceMul, Nat.reduceEqDiff, Nat.reduceBEq, Int.reduceLE, Int.reduceLT, Int.reduceToNat, Int.reduceEq, Int.reduceAdd, Int.reduceSub, Int.reduceMul, ty_3, tk_3, ty_36, tk_36, ty_4, tk_4, ty_46, tk_46, ty_49, tk_49, ty_9, tk_9, a0, hl, encA_len, verR, getR]
    exact rfl
  · clear hl a0
    rintro T R ⟨k, hk, hl, a0, a2, a6, a7, a8, hL, hf⟩
    simp only [wB, E0_tys, appI, buildI, placesI, okPart, bsI, slI, sliceI, sliceS, optI, appendI, srcI, chunk, fillI, fzParts, fzL, fz1, planAt, loadI, storeI, takeI, TK.agg, TK.known, cellsI, fillRow, okCell, bltI, builtinI, lenI, indexAddrI, fieldAddrI, fieldI, indexI, nilChkI, An.isImm, pureC, pure0, impI, impL, impC, cutO, An.imps, List.replicate, decide_true, decide_false, cond_true, cond_false, if_true, if_false, ite_true, ite_false, ne_eq, forall_const, eq_self, reduceCtorEq, reduceIte, Nat.reduceLT, Nat.reduceLeDiff, Nat.reduceAdd, Nat.reduceSub, Nat.reduceMul, Nat.reduceEqDiff, Nat.reduceBEq, Int.reduceLE, Int.reduceLT, Int.reduceToNat, Int.reduceEq, Int.reduceAdd, Int.reduceSub, Int.reduceMul, ty_3, tk_3, ty_36, tk_36, ty_4, tk_4, ty_46, tk_46, ty_49, tk_49, ty_9, tk_9, a6, a7, a8, hl]
    refine condW_b _ _ _ _ (fun hq => ?_) (fun hq => ?_)
    · have hk2 : k < attrsT.length := by simpa using hq
      obtain ⟨a, ha⟩ := at_lt hk2
      obtain ⟨hs1, hs2⟩ := attrs_small a (List.mem_of_getElem? ha)
      have hkl : attrsT.length = 13 := rfl
      have hw : IntKind.i64.wrap ((k : Int) + 1) = ((k + 1 : Nat) : Int) := by rw [wrap64] <;> omega
      rw [drop_at ha] at hf
      simp only [wB, E0_tys, appI, buildI, placesI, okPart, bsI, slI, sliceI, sliceS, optI, appendI, srcI, chunk, fillI, fzParts, fzL, fz1, planAt, loadI, storeI, takeI, TK.agg, TK.known, cellsI, fillRow, okCell, bltI, builtinI, lenI, indexAddrI, fieldAddrI, fieldI, indexI, nilChkI, An.isImm, pureC, pure0, impI, impL, impC, cutO, An.imps, List.replicate, decide_true, decide_false, cond_true, cond_false, if_true, if_false, ite_true, ite_false, ne_eq, forall_const, eq_self, reduceCtorEq, reduceIte, Nat.reduceLT, Nat.reduceLeDiff, Nat.reduceAdd, Nat.reduceSub, Nat.reduceMul, Nat.reduceEqDiff, Nat.reduceBEq, Int.reduceLE, Int.reduceLT, Int.reduceToNat, Int.reduceEq, Int.reduceAdd, Int.reduceSub, Int.reduceMul, ty_3, tk_3, ty_36, tk_36, ty_4, tk_4, ty_46, tk_46, ty_49, tk_49, ty_9, tk_9, a0, a2, a6, a7, a8, hl, encA_len, hk2, encA_at ha]
      refine callPu0 (c25 (some false) nl a.oid oid (by omega)) rfl rfl ?_
      simp only [wB, E0_tys, appI, buildI, placesI, okPart, bsI, slI, sliceI, sliceS, optI, appendI, srcI, chunk, fillI, fzParts, fzL, fz1, planAt, loadI, storeI, takeI, TK.agg, TK.known, cellsI, fillRow, okCell, bltI, builtinI, lenI, indexAddrI, fieldAddrI, fieldI, indexI, nilChkI, An.isImm, pureC, pure0, impI, impL, impC, cutO, An.imps, List.replicate, decide_true, decide_false, cond_true, cond_false, if_true, if_false, ite_true, ite_false, ne_eq, forall_const, eq_self, reduceCtorEq, reduceIte, Nat.reduceLT, Nat.reduceLeDiff, Nat.reduceAdd, Nat.reduceSub, Nat.reduceMul, Nat.reduceEqDiff, Nat.reduceBEq, Int.reduceLE, Int.reduceLT, Int.reduceToNat, Int.reduceEq, Int.reduceAdd, Int.reduceSub, Int.reduceMul, ty_3, tk_3, ty_36, tk_36, ty_4, tk_4, ty_46, tk_46, ty_49, tk_49, ty_9, tk_9, a0, a2, a6, a7, a8, hl]
      refine condW_b _ _ _ _ (fun hq2 => ?_) (fun hq2 => ?_)
      · have he : a.oid = oid := of_decide_eq_true hq2
        simp only [wB, E0_tys, appI, buildI, placesI, okPart, bsI, slI, sliceI, sliceS, optI, appendI, srcI, chunk, fillI, fzParts, fzL, fz1, planAt, loadI, storeI, takeI, TK.agg, TK.known, cellsI, fillRow, okCell, bltI, builtinI, lenI, indexAddrI, fieldAddrI, fieldI, indexI, nilChkI, An.isImm, pureC, pure0, impI, impL, impC, cutO, An.imps, List.replicate, decide_true, decide_false, cond_true, cond_false, if_true, if_false, ite_true, ite_false, ne_eq, forall_const, eq_self, reduceCtorEq, reduceIte, Nat.reduceLT, Nat.reduceLeDiff, Nat.reduceAdd, Nat.reduceSub, Nat.reduceMul, Nat.reduceEqDiff, Nat.reduceBEq, Int.reduceLE, Int.reduceLT, Int.reduceToNat, Int.reduceEq, Int.reduceAdd, Int.reduceSub, Int.reduceMul, ty_3, tk_3, ty_36, tk_36, ty_4, tk_4, ty_46, tk_46, ty_49, tk_49, ty_9, tk_9, a0, a2, a6, a7, a8, hl]
        refine callPu0 (c36 (some false) a.kinds (by simp) (by omega)) rfl rfl ?_
        simp only [wB, E0_tys, appI, buildI, placesI, okPart, bsI, slI, sliceI, sliceS, optI, appendI, srcI, chunk, fillI, fzParts, fzL, fz1, planAt, loadI, storeI, takeI, TK.agg, TK.known, cellsI, fillRow, okCell, bltI, builtinI, lenI, indexAddrI, fieldAddrI, fieldI, indexI, nilChkI, An.isImm, pureC, pure0, impI, impL, impC, cutO, An.imps, List.replicate, decide_true, decide_false, cond_true, cond_false, if_true, if_false, ite_true, ite_false, ne_eq, forall_const, eq_self, reduceCtorEq, reduceIte, Nat.reduceLT, Nat.reduceLeDiff, Nat.reduceAdd, Nat.reduceSub, Nat.reduceMul, Nat.reduceEqDiff, Nat.reduceBEq, Int.reduceLE, Int.reduceLT, Int.reduceToNat, Int.reduceEq, Int.reduceAdd, Int.reduceSub, Int.reduceMul, ty_3, tk_3, ty_36, tk_36, ty_4, tk_4, ty_46, tk_46, ty_49, tk_49, ty_9, tk_9, a0, a2, a6, a7, a8, hl, hL]
        rw [← hf]
        simp [findA, he, findAV]
      · have he : ¬ a.oid = oid := of_decide_eq_false hq2
        simp only [wB, E0_tys, appI, buildI, placesI, okPart, bsI, slI, sliceI, sliceS, optI, appendI, srcI, chunk, fillI, fzParts, fzL, fz1, planAt, loadI, storeI, takeI, TK.agg, TK.known, cellsI, fillRow, okCell, bltI, builtinI, lenI, indexAddrI, fieldAddrI, fieldI, indexI, nilChkI, An.isImm, pureC, pure0, impI, impL, impC, cutO, An.imps, List.replicate, decide_true, decide_false, cond_true, cond_false, if_true, if_false, ite_true, ite_false, ne_eq, forall_const, eq_self, reduceCtorEq, reduceIte, Nat.reduceLT, Nat.reduceLeDiff, Nat.reduceAdd, Nat.reduceSub, Nat.reduceMul, Nat.reduceEqDiff, Nat.reduceBEq, Int.reduceLE, Int.reduceLT, Int.reduceToNat, Int.reduceEq, Int.reduceAdd, Int.reduceSub, Int.reduceMul, ty_3, tk_3, ty_36, tk_36, ty_4, tk_4, ty_46, tk_46, ty_49, tk_49, ty_9, tk_9, a0, a2, a6, a7, a8, hl, hw, hL]
        exact ⟨⟨k + 1, hk2, rfl, by rw [← hf]; simp [findA, he]⟩, by simp only [asI]; omega⟩
    · have hk2 : k = attrsT.length := by have := of_decide_eq_false hq; omega
      subst hk2
      rw [List.drop_length] at hf
      simp only [wB, E0_tys, appI, buildI, placesI, okPart, bsI, slI, sliceI, sliceS, optI, appendI, srcI, chunk, fillI, fzParts, fzL, fz1, planAt, loadI, storeI, takeI, TK.agg, TK.known, cellsI, fillRow, okCell, bltI, builtinI, lenI, indexAddrI, fieldAddrI, fieldI, indexI, nilChkI, An.isImm, pureC, pure0, impI, impL, impC, cutO, An.imps, List.replicate, decide_true, decide_false, cond_true, cond_false, if_true, if_false, ite_true, ite_false, ne_eq, forall_const, eq_self, reduceCtorEq, reduceIte, Nat.reduceLT, Nat.reduceLeDiff, Nat.reduceAdd, Nat.reduceSub, Nat.reduceMul, Nat.reduceEqDiff, Nat.reduceBEq, Int.reduceLE, Int.reduceLT, Int.reduceToNat, Int.reduceEq, Int.reduceAdd, Int.reduceSub, Int.reduceMul, ty_3, tk_3, ty_36, tk_36, ty_4, tk_4, ty_46, tk_46, ty_49, tk_49, ty_9, tk_9, a2, hl, hL]
      rw [← hf]
      rfl
end Go.Proofs
set_option maxRecDepth 100000
set_option maxHeartbeats 8000000
set_option linter.unusedVariables false
set_option linter.unusedSimpArgs false
namespace Go.Proofs
open Go.Iv
def ruleF (oid : List Int) : Int := match findA attrsT oid with | some a => a.rule | none => 1
theorem findAV_pure (o : Option AttrV) : pureY (findAV o) = true := by cases o <;> rfl
theorem c19 (nl : Option Bool) (oid : List Int) : PC Try.prog true 19 [.sl nl (encI oid)] (.i .i64 (ruleF oid)) [] := by
  have k26 := c26 nl oid
  have hR : ruleF oid = match findA attrsT oid with | some a => a.rule | none => 1 := rfl
  cases hf : findA attrsT oid with
  | none =>
    rw [hf] at hR k26
    dsimp only at hR
    rw [hR]
    refine pcW E0_ok mm (fn := Try.f19) (by kernel_rfl) (by kernel_rfl) (by kernel_rfl) [(1, 5, .reg 0)] (by kernel_rfl) [] (by rw [show Try.f19.ntmps = 1 + 13 by kernel_rfl]; exact Nat.le_add_right _ _) ?_
    intro T hl hx
    have a0 := hx 0 _ rfl
    clear hx
    simp only [bodyOf, Try.f19] at hl ⊢
    simp only [wB, E0_tys, appI, buildI, placesI, okPart, bsI, slI, sliceI, sliceS, optI, appendI, srcI, chunk, fillI, fzParts, fzL, fz1, planAt, loadI, storeI, takeI, TK.agg, TK.known, cellsI, fillRow, okCell, bltI, builtinI, lenI, indexAddrI, fieldAddrI, fieldI, indexI, nilChkI, An.isImm, pureC, pure0, impI, impL, impC, cutO, An.imps, List.replicate, decide_true, decide_false, cond_true, cond_false, if_true, if_false, ite_true, ite_false, ne_eq, forall_const, eq_self, reduceCtorEq, reduceIte, Nat.reduceLT, Nat.reduceLeDiff, Nat.reduceAdd, Nat.reduceSub, Nat.reduceMul, Nat.reduceEqDiff, Nat.reduceBEq, Int.reduceLE, Int.reduceLT, Int.reduceToNat, Int.reduceEq, Int.reduceAdd, Int.reduceSub, Int.reduceMul, ty_3, tk_3, ty_36, tk_36, ty_4, tk_4, ty_49, tk_49, ty_62, tk_62, ty_9, tk_9, a0, hl]
    refine callPu0 k26 rfl rfl ?_
    simp only [wB, E0_tys, appI, buildI, placesI, okPart, bsI, slI, sliceI, sliceS, optI, appendI, srcI, chunk, fillI, fzParts, fzL, fz1, planAt, loadI, storeI, takeI, TK.agg, TK.known, cellsI, fillRow, okCell, bltI, builtinI, lenI, indexAddrI, fieldAddrI, fieldI, indexI, nilChkI, An.isImm, pureC, pure0, impI, impL, impC, cutO, An.imps, List.replicate, decide_true, decide_false, cond_true, cond_false, if_true, if_false, ite_true, ite_false, ne_eq, forall_const, eq_self, reduceCtorEq, reduceIte, Nat.reduceLT, Nat.reduceLeDiff, Nat.reduceAdd, Nat.reduceSub, Nat.reduceMul, Nat.reduceEqDiff, Nat.reduceBEq, Int.reduceLE, Int.reduceLT, Int.reduceToNat, Int.reduceEq, Int.reduceAdd, Int.reduceSub, Int.reduceMul, ty_3, tk_3, ty_36, tk_36, ty_4, tk_4, ty_49, tk_49, ty_62, tk_62, ty_9, tk_9, findAV, hl]
  | some a =>
    rw [hf] at hR k26
    dsimp only at hR
    rw [hR]
    refine pcW E0_ok mm (fn := Try.f19) (by kernel_rfl) (by kernel_rfl) (by kernel_rfl) [(1, 5, .reg 0)] (by kernel_rfl) [] (by rw [show Try.f19.ntmps = 1 + 13 by kernel_rfl]; exact Nat.le_add_right _ _) ?_
    intro T hl hx
    have a0 := hx 0 _ rfl
    clear hx
    simp only [bodyOf, Try.f19] at hl ⊢
    simp only [wB, E0_tys, appI, buildI, placesI, okPart, bsI, slI, sliceI, sliceS, optI, appendI, srcI, chunk, fillI, fzParts, fzL, fz1, planAt, loadI, storeI, takeI, TK.agg, TK.known, cellsI, fillRow, okCell, bltI, builtinI, lenI, indexAddrI, fieldAddrI, fieldI, indexI, nilChkI, An.isImm, pureC, pure0, impI, impL, impC, cutO, An.imps, List.replicate, decide_true, decide_false, cond_true, cond_false, if_true, if_false, ite_true, ite_false, ne_eq, forall_const, eq_self, reduceCtorEq, reduceIte, Nat.reduceLT, Nat.reduceLeDiff, Nat.reduceAdd, Nat.reduceSub, Nat.reduceMul, Nat.reduceEqDiff, Nat.reduceBEq, Int.reduceLE, Int.reduceLT, Int.reduceToNat, Int.reduceEq, Int.reduceAdd, Int.reduceSub, Int.reduceMul, ty_3, tk_3, ty_36, tk_36, ty_4, tk_4, ty_49, tk_49, ty_62, tk_62, ty_9, tk_9, a0, hl]
    refine callPu0 k26 rfl rfl ?_
    simp only [wB, E0_tys, appI, buildI, placesI, okPart, bsI, slI, sliceI, sliceS, optI, appendI, srcI, chunk, fillI, fzParts, fzL, fz1, planAt, loadI, storeI, takeI, TK.agg, TK.known, cellsI, fillRow, okCell, bltI, builtinI, lenI, indexAddrI, fieldAddrI, fieldI, indexI, nilChkI, An.isImm, pureC, pure0, impI, impL, impC, cutO, An.imps, List.replicate, decide_true, decide_false, cond_true, cond_false, if_true, if_false, ite_true, ite_false, ne_eq, forall_const, eq_self, reduceCtorEq, reduceIte, Nat.reduceLT, Nat.reduceLeDiff, Nat.reduceAdd, Nat.reduceSub, Nat.reduceMul, Nat.reduceEqDiff, Nat.reduceBEq, Int.reduceLE, Int.reduceLT, Int.reduceToNat, Int.reduceEq, Int.reduceAdd, Int.reduceSub, Int.reduceMul, ty_3, tk_3, ty_36, tk_36, ty_4, tk_4, ty_49, tk_49, ty_62, tk_62, ty_9, tk_9, findAV, hl]
def encB (xs : List Int) : List (List IV) := xs.map fun n => [.i .u8 n]
theorem numsI_enc (xs : List Int) : numsI (encB xs) = some xs := by
  induction xs with
  | nil => rfl
  | cons x xs ih => simp only [encB, List.map_cons, numsI] at ih ⊢; rw [ih]
theorem conv_bs (nl : Option Bool) (xs : List Int) : convI tysL 37 9 (.sl nl (encB xs)) = some (.s (strOfNums xs)) := by
  simp only [convI, tk_37, tk_9, TK.known, numsI_enc]
  simp only [tk_5, tk_6]
  rfl
theorem bin_eqs (tys : Tys) (t : TypeId) (x y : ByteArray) : binI tys .eql t (.s x) (.s y) = some (.b (x.toList == y.toList)) := Eq.trans rfl rfl
def bytesEqF (a b : List Int) : Bool := (strOfNums a).toList == (strOfNums b).toList
theorem c58 (nl nl' : Option Bool) (a b : List Int) : PC Try.prog true 58 [.sl nl (encB a), .sl nl' (encB b)] (.b (bytesEqF a b)) [] := by
  refine pcW E0_ok mm (fn := Try.f58) (by kernel_rfl) (by kernel_rfl) (by kernel_rfl) [] (by kernel_rfl) [] (by rw [show Try.f58.ntmps = 2 + 8 by kernel_rfl]; exact Nat.le_add_right _ _) ?_
  intro T hl hx
  have a0 := hx 0 _ rfl
  have a1 := hx 1 _ rfl
  clear hx
  simp only [bodyOf, Try.f58] at hl ⊢
  simp only [wB, E0_tys, appI, buildI, placesI, okPart, bsI, slI, sliceI, sliceS, optI, appendI, srcI, chunk, fillI, fzParts, fzL, fz1, planAt, loadI, storeI, takeI, TK.agg, TK.known, cellsI, fillRow, okCell, bltI, builtinI, lenI, indexAddrI, fieldAddrI, fieldI, indexI, nilChkI, An.isImm, pureC, pure0, impI, impL, impC, cutO, An.imps, List.replicate, decide_true, decide_false, cond_true, cond_false, if_true, if_false, ite_true, ite_false, ne_eq, forall_const, eq_self, reduceCtorEq, reduceIte, Nat.reduceLT, Nat.reduceLeDiff, Nat.reduceAdd, Nat.reduceSub, Nat.reduceMul, Nat.reduceEqDiff, Nat.reduceBEq, Int.reduceLE, Int.reduceLT, Int.reduceToNat, Int.reduceEq, Int.reduceAdd, Int.reduceSub, Int.reduceMul, ty_4, tk_4, ty_9, tk_9, ty_37, tk_37, a0, a1, hl, conv_bs, bin_eqs]
  rfl
theorem c18 (nl nl' : Option Bool) (s t : List Int) (rule : Int) (hs : s.length ≤ 10000) (ht : t.length ≤ 10000) :
    PC Try.prog true 18 [.sl nl (encI s), .sl nl' (encI t), .i .i64 rule] (.tu (match prepF s rule, prepF t rule with | some a, some b => [.b (decide (a = b)), .b true] | _, _ => [.b false, .b false])) [] := by
  have k1 := c24 nl s rule hs
  have k2 := c24 nl' t rule ht
  have l1 := fun l (h : prepF s rule = some l) => prepF_len h
  generalize prepF s rule = o1 at *
  generalize prepF t rule = o2 at *
  cases o1 with
  | none =>
    cases o2
    all_goals
      refine pcW E0_ok mm (fn := Try.f18) (by kernel_rfl) (by kernel_rfl) (by kernel_rfl) [] (by kernel_rfl) [] (by rw [show Try.f18.ntmps = 3 + 30 by kernel_rfl]; exact Nat.le_add_right _ _) ?_
      intro T hl hx
      have a0 := hx 0 _ rfl
      have a1 := hx 1 _ rfl
      have a2 := hx 2 _ rfl
      clear hx
      simp only [bodyOf, Try.f18] at hl ⊢
      simp only [wB, E0_tys, appI, buildI, placesI, okPart, bsI, slI, sliceI, sliceS, optI, appendI, srcI, chunk, fillI, fzParts, fzL, fz1, planAt, loadI, storeI, takeI, TK.agg, TK.known, cellsI, fillRow, okCell, bltI, builtinI, lenI, indexAddrI, fieldAddrI, fieldI, indexI, nilChkI, An.isImm, pureC, pure0, impI, impL, impC, cutO, An.imps, List.replicate, decide_true, decide_false, cond_true, cond_false, if_true, if_false, ite_true, ite_false, ne_eq, forall_const, eq_self, reduceCtorEq, reduceIte, Nat.reduceLT, Nat.reduceLeDiff, Nat.reduceAdd, Nat.reduceSub, Nat.reduceMul, Nat.reduceEqDiff, Nat.reduceBEq, Int.reduceLE, Int.reduceLT, Int.reduceToNat, Int.reduceEq, Int.reduceAdd, Int.reduceSub, Int.reduceMul, ty_3, tk_3, ty_4, tk_4, ty_36, tk_36, ty_59, tk_59, a0, a1, a2, hl]
      refine callPu0 k1 rfl rfl ?_
      simp only [wB, E0_tys, appI, buildI, placesI, okPart, bsI, slI, sliceI, sliceS, optI, appendI, srcI, chunk, fillI, fzParts, fzL, fz1, planAt, loadI, storeI, takeI, TK.agg, TK.known, cellsI, fillRow, okCell, bltI, builtinI, lenI, indexAddrI, fieldAddrI, fieldI, indexI, nilChkI, An.isImm, pureC, pure0, impI, impL, impC, cutO, An.imps, List.replicate, decide_true, decide_false, cond_true, cond_false, if_true, if_false, ite_true, ite_false, ne_eq, forall_const, eq_self, reduceCtorEq, reduceIte, Nat.reduceLT, Nat.reduceLeDiff, Nat.reduceAdd, Nat.reduceSub, Nat.reduceMul, Nat.reduceEqDiff, Nat.reduceBEq, Int.reduceLE, Int.reduceLT, Int.reduceToNat, Int.reduceEq, Int.reduceAdd, Int.reduceSub, Int.reduceMul, ty_3, tk_3, ty_4, tk_4, ty_36, tk_36, ty_59, tk_59, prepV, a1, a2, hl]
      refine callPu0 k2 rfl rfl ?_
      simp only [wB, E0_tys, appI, buildI, placesI, okPart, bsI, slI, sliceI, sliceS, optI, appendI, srcI, chunk, fillI, fzParts, fzL, fz1, planAt, loadI, storeI, takeI, TK.agg, TK.known, cellsI, fillRow, okCell, bltI, builtinI, lenI, indexAddrI, fieldAddrI, fieldI, indexI, nilChkI, An.isImm, pureC, pure0, impI, impL, impC, cutO, An.imps, List.replicate, decide_true, decide_false, cond_true, cond_false, if_true, if_false, ite_true, ite_false, ne_eq, forall_const, eq_self, reduceCtorEq, reduceIte, Nat.reduceLT, Nat.reduceLeDiff, Nat.reduceAdd, Nat.reduceSub, Nat.reduceMul, Nat.reduceEqDiff, Nat.reduceBEq, Int.reduceLE, Int.reduceLT, Int.reduceToNat, Int.reduceEq, Int.reduceAdd, Int.reduceSub, Int.reduceMul, ty_3, tk_3, ty_4, tk_4, ty_36, tk_36, ty_59, tk_59, prepV, hl, Option.isSome_none, Option.isSome_some]
      try rfl
  | some a =>
    have := l1 a rfl
    cases o2 with
    | none =>
      refine pcW E0_ok mm (fn := Try.f18) (by kernel_rfl) (by kernel_rfl) (by kernel_rfl) [] (by kernel_rfl) [] (by rw [show Try.f18.ntmps = 3 + 30 by kernel_rfl]; exact Nat.le_add_right _ _) ?_
      intro T hl hx
      have a0 := hx 0 _ rfl
      have a1 := hx 1 _ rfl
      have a2 := hx 2 _ rfl
      clear hx
      simp only [bodyOf, Try.f18] at hl ⊢
      simp only [wB, E0_tys, appI, buildI, placesI, okPart, bsI, slI, sliceI, sliceS, optI, appendI, srcI, chunk, fillI, fzParts, fzL, fz1, planAt, loadI, storeI, takeI, TK.agg, TK.known, cellsI, fillRow, okCell, bltI, builtinI, lenI, indexAddrI, fieldAddrI, fieldI, indexI, nilChkI, An.isImm, pureC, pure0, impI, impL, impC, cutO, An.imps, List.replicate, decide_true, decide_false, cond_true, cond_false, if_true, if_false, ite_true, ite_false, ne_eq, forall_const, eq_self, reduceCtorEq, reduceIte, Nat.reduceLT, Nat.reduceLeDiff, Nat.reduceAdd, Nat.reduceSub, Nat.reduceMul, Nat.reduceEqDiff, Nat.reduceBEq, Int.reduceLE, Int.reduceLT, Int.reduceToNat, Int.reduceEq, Int.reduceAdd, Int.reduceSub, Int.reduceMul, ty_3, tk_3, ty_4, tk_4, ty_36, tk_36, ty_59, tk_59, a0, a1, a2, hl]
      refine callPu0 k1 rfl rfl ?_
      simp only [wB, E0_tys, appI, buildI, placesI, okPart, bsI, slI, sliceI, sliceS, optI, appendI, srcI, chunk, fillI, fzParts, fzL, fz1, planAt, loadI, storeI, takeI, TK.agg, TK.known, cellsI, fillRow, okCell, bltI, builtinI, lenI, indexAddrI, fieldAddrI, fieldI, indexI, nilChkI, An.isImm, pureC, pure0, impI, impL, impC, cutO, An.imps, List.replicate, decide_true, decide_false, cond_true, cond_false, if_true, if_false, ite_true, ite_false, ne_eq, forall_const, eq_self, reduceCtorEq, reduceIte, Nat.reduceLT, Nat.reduceLeDiff, Nat.reduceAdd, Nat.reduceSub, Nat.reduceMul, Nat.reduceEqDiff, Nat.reduceBEq, Int.reduceLE, Int.reduceLT, Int.reduceToNat, Int.reduceEq, Int.reduceAdd, Int.reduceSub, Int.reduceMul, ty_3, tk_3, ty_4, tk_4, ty_36, tk_36, ty_59, tk_59, prepV, a1, a2, hl]
      refine callPu0 k2 rfl rfl ?_
      simp only [wB, E0_tys, appI, buildI, placesI, okPart, bsI, slI, sliceI, sliceS, optI, appendI, srcI, chunk, fillI, fzParts, fzL, fz1, planAt, loadI, storeI, takeI, TK.agg, TK.known, cellsI, fillRow, okCell, bltI, builtinI, lenI, indexAddrI, fieldAddrI, fieldI, indexI, nilChkI, An.isImm, pureC, pure0, impI, impL, impC, cutO, An.imps, List.replicate, decide_true, decide_false, cond_true, cond_false, if_true, if_false, ite_true, ite_false, ne_eq, forall_const, eq_self, reduceCtorEq, reduceIte, Nat.reduceLT, Nat.reduceLeDiff, Nat.reduceAdd, Nat.reduceSub, Nat.reduceMul, Nat.reduceEqDiff, Nat.reduceBEq, Int.reduceLE, Int.reduceLT, Int.reduceToNat, Int.reduceEq, Int.reduceAdd, Int.reduceSub, Int.reduceMul, ty_3, tk_3, ty_4, tk_4, ty_36, tk_36, ty_59, tk_59, prepV, hl, Option.isSome_none, Option.isSome_some]
      try rfl
    | some b =>
      refine pcW E0_ok mm (fn := Try.f18) (by kernel_rfl) (by kernel_rfl) (by kernel_rfl) [] (by kernel_rfl) [] (by rw [show Try.f18.ntmps = 3 + 30 by kernel_rfl]; exact Nat.le_add_right _ _) ?_
      intro T hl hx
      have a0 := hx 0 _ rfl
      have a1 := hx 1 _ rfl
      have a2 := hx 2 _ rfl
      clear hx
      simp only [bodyOf, Try.f18] at hl ⊢
      simp only [wB, E0_tys, appI, buildI, placesI, okPart, bsI, slI, sliceI, sliceS, optI, appendI, srcI, chunk, fillI, fzParts, fzL, fz1, planAt, loadI, storeI, takeI, TK.agg, TK.known, cellsI, fillRow, okCell, bltI, builtinI, lenI, indexAddrI, fieldAddrI, fieldI, indexI, nilChkI, An.isImm, pureC, pure0, impI, impL, impC, cutO, An.imps, List.replicate, decide_true, decide_false, cond_true, cond_false, if_true, if_false, ite_true, ite_false, ne_eq, forall_const, eq_self, reduceCtorEq, reduceIte, Nat.reduceLT, Nat.reduceLeDiff, Nat.reduceAdd, Nat.reduceSub, Nat.reduceMul, Nat.reduceEqDiff, Nat.reduceBEq, Int.reduceLE, Int.reduceLT, Int.reduceToNat, Int.reduceEq, Int.reduceAdd, Int.reduceSub, Int.reduceMul, ty_3, tk_3, ty_4, tk_4, ty_36, tk_36, ty_59, tk_59, a0, a1, a2, hl]
      refine callPu0 k1 rfl rfl ?_
      simp only [wB, E0_tys, appI, buildI, placesI, okPart, bsI, slI, sliceI, sliceS, optI, appendI, srcI, chunk, fillI, fzParts, fzL, fz1, planAt, loadI, storeI, takeI, TK.agg, TK.known, cellsI, fillRow, okCell, bltI, builtinI, lenI, indexAddrI, fieldAddrI, fieldI, indexI, nilChkI, An.isImm, pureC, pure0, impI, impL, impC, cutO, An.imps, List.replicate, decide_true, decide_false, cond_true, cond_false, if_true, if_false, ite_true, ite_false, ne_eq, forall_const, eq_self, reduceCtorEq, reduceIte, Nat.reduceLT, Nat.reduceLeDiff, Nat.reduceAdd, Nat.reduceSub, Nat.reduceMul, Nat.reduceEqDiff, Nat.reduceBEq, Int.reduceLE, Int.reduceLT, Int.reduceToNat, Int.reduceEq, Int.reduceAdd, Int.reduceSub, Int.reduceMul, ty_3, tk_3, ty_4, tk_4, ty_36, tk_36, ty_59, tk_59, prepV, a1, a2, hl]
      refine callPu0 k2 rfl rfl ?_
      simp only [wB, E0_tys, appI, buildI, placesI, okPart, bsI, slI, sliceI, sliceS, optI, appendI, srcI, chunk, fillI, fzParts, fzL, fz1, planAt, loadI, storeI, takeI, TK.agg, TK.known, cellsI, fillRow, okCell, bltI, builtinI, lenI, indexAddrI, fieldAddrI, fieldI, indexI, nilChkI, An.isImm, pureC, pure0, impI, impL, impC, cutO, An.imps, List.replicate, decide_true, decide_false, cond_true, cond_false, if_true, if_false, ite_true, ite_false, ne_eq, forall_const, eq_self, reduceCtorEq, reduceIte, Nat.reduceLT, Nat.reduceLeDiff, Nat.reduceAdd, Nat.reduceSub, Nat.reduceMul, Nat.reduceEqDiff, Nat.reduceBEq, Int.reduceLE, Int.reduceLT, Int.reduceToNat, Int.reduceEq, Int.reduceAdd, Int.reduceSub, Int.reduceMul, ty_3, tk_3, ty_4, tk_4, ty_36, tk_36, ty_59, tk_59, prepV, hl, Option.isSome_none, Option.isSome_some]
      refine callPu0 (c25 none none a b (by omega)) rfl rfl ?_
      simp only [wB, E0_tys, appI, buildI, placesI, okPart, bsI, slI, sliceI, sliceS, optI, appendI, srcI, chunk, fillI, fzParts, fzL, fz1, planAt, loadI, storeI, takeI, TK.agg, TK.known, cellsI, fillRow, okCell, bltI, builtinI, lenI, indexAddrI, fieldAddrI, fieldI, indexI, nilChkI, An.isImm, pureC, pure0, impI, impL, impC, cutO, An.imps, List.replicate, decide_true, decide_false, cond_true, cond_false, if_true, if_false, ite_true, ite_false, ne_eq, forall_const, eq_self, reduceCtorEq, reduceIte, Nat.reduceLT, Nat.reduceLeDiff, Nat.reduceAdd, Nat.reduceSub, Nat.reduceMul, Nat.reduceEqDiff, Nat.reduceBEq, Int.reduceLE, Int.reduceLT, Int.reduceToNat, Int.reduceEq, Int.reduceAdd, Int.reduceSub, Int.reduceMul, ty_3, tk_3, ty_4, tk_4, ty_36, tk_36, ty_59, tk_59, hl]
      try rfl
structure PairV where
  no : Option Bool
  oid : List Int
  kind : Int
  nt : Option Bool
  text : List Int
  nr : Option Bool
  raw : List Int
def prC (p : PairV) : List IV := [.sl p.no (encI p.oid), .i .i64 p.kind, .sl p.nt (encI p.text), .sl p.nr (encB p.raw)]
noncomputable def keyF (p : PairV) : Option (List Int) := if p.kind = 0 then some [] else if p.kind ∈ kindsT then prepF p.text (ruleF p.oid) else none
def keyN (p : PairV) : Option Bool := if p.kind = 0 then some true else none
noncomputable def keyV (p : PairV) : IV := match keyF p with | some l => .tu [.sl (keyN p) (encI l), .b true] | none => .tu [.sl (some true) [], .b false]
theorem c57 (p : PairV) (hx : p.text.length ≤ 10000) : PC Try.prog true 57 [.ag (prC p)] (keyV p) [] := by
  have k19 := c19 p.no p.oid
  have k24 := c24 p.nt p.text (ruleF p.oid) hx
  by_cases h0 : p.kind = 0
  · have hV : keyV p = .tu [.sl (some true) [], .b true] := by unfold keyV keyF keyN; rw [if_pos h0, if_pos h0]; rfl
    rw [hV]
    refine pcW E0_ok mm (fn := Try.f57) (by kernel_rfl) (by kernel_rfl) (by kernel_rfl) [(5, 999, .plan (.pure 0 (.pure 1 (.pure 2 (.pure 3 (.pure 4 (.pure 5 (.pure 6 (.pure 7 (.pure 8 (.pure 9 (.done))))))))))))] (by kernel_rfl) [] (by rw [show Try.f57.ntmps = 1 + 20 by kernel_rfl]; exact Nat.le_add_right _ _) ?_
    intro T hl hx
    have a0 := hx 0 _ rfl
    clear hx
    simp only [bodyOf, Try.f57] at hl ⊢
    simp only [wB, E0_tys, appI, buildI, placesI, okPart, bsI, slI, sliceI, sliceS, optI, appendI, srcI, chunk, fillI, fzParts, fzL, fz1, planAt, loadI, storeI, takeI, TK.agg, TK.known, cellsI, fillRow, okCell, bltI, builtinI, lenI, indexAddrI, fieldAddrI, fieldI, indexI, nilChkI, An.isImm, pureC, pure0, impI, impL, impC, cutO, An.imps, List.replicate, decide_true, decide_false, cond_true, cond_false, if_true, if_false, ite_true, ite_false, ne_eq, forall_const, eq_self, reduceCtorEq, reduceIte, Nat.reduceLT, Nat.reduceLeDiff, Nat.reduceAdd, Nat.reduceSub, Nat.reduceMul, Nat.reduceEqDiff, Nat.reduceBEq, Int.reduceLE, Int.reduceLT, Int.reduceToNat, Int.reduceEq, Int.reduceAdd, Int.reduceSub, Int.reduceMul, ty_3, tk_3, ty_4, tk_4, ty_36, tk_36, ty_39, tk_39, ty_59, tk_59, ty_37, tk_37, ty_5, tk_5, ty_6, tk_6, a0, hl, prC, h0]
  · by_cases h1 : p.kind ∈ kindsT
    · have hV : keyV p = .tu [prepV (prepF p.text (ruleF p.oid)), .b (prepF p.text (ruleF p.oid)).isSome] := by
        unfold keyV keyF keyN; rw [if_neg h0, if_pos h1, if_neg h0]; cases prepF p.text (ruleF p.oid) <;> rfl
      rw [hV]
      refine pcW E0_ok mm (fn := Try.f57) (by kernel_rfl) (by kernel_rfl) (by kernel_rfl) [(5, 999, .plan (.pure 0 (.pure 1 (.pure 2 (.pure 3 (.pure 4 (.pure 5 (.pure 6 (.pure 7 (.pure 8 (.pure 9 (.done))))))))))))] (by kernel_rfl) [] (by rw [show Try.f57.ntmps = 1 + 20 by kernel_rfl]; exact Nat.le_add_right _ _) ?_
      intro T hl hx
      have a0 := hx 0 _ rfl
      clear hx
      simp only [bodyOf, Try.f57] at hl ⊢
      simp only [wB, E0_tys, appI, buildI, placesI, okPart, bsI, slI, sliceI, sliceS, optI, appendI, srcI, chunk, fillI, fzParts, fzL, fz1, planAt, loadI, storeI, takeI, TK.agg, TK.known, cellsI, fillRow, okCell, bltI, builtinI, lenI, indexAddrI, fieldAddrI, fieldI, indexI, nilChkI, An.isImm, pureC, pure0, impI, impL, impC, cutO, An.imps, List.replicate, decide_true, decide_false, cond_true, cond_false, if_true, if_false, ite_true, ite_false, ne_eq, forall_const, eq_self, reduceCtorEq, reduceIte, Nat.reduceLT, Nat.reduceLeDiff, Nat.reduceAdd, Nat.reduceSub, Nat.reduceMul, Nat.reduceEqDiff, Nat.reduceBEq, Int.reduceLE, Int.reduceLT, Int.reduceToNat, Int.reduceEq, Int.reduceAdd, Int.reduceSub, Int.reduceMul, ty_3, tk_3, ty_4, tk_4, ty_36, tk_36, ty_39, tk_39, ty_59, tk_59, ty_37, tk_37, ty_5, tk_5, ty_6, tk_6, a0, hl, prC, h0]
      refine callPu0 (c12 p.kind) rfl rfl ?_
      simp only [wB, E0_tys, appI, buildI, placesI, okPart, bsI, slI, sliceI, sliceS, optI, appendI, srcI, chunk, fillI, fzParts, fzL, fz1, planAt, loadI, storeI, takeI, TK.agg, TK.known, cellsI, fillRow, okCell, bltI, builtinI, lenI, indexAddrI, fieldAddrI, fieldI, indexI, nilChkI, An.isImm, pureC, pure0, impI, impL, impC, cutO, An.imps, List.replicate, decide_true, decide_false, cond_true, cond_false, if_true, if_false, ite_true, ite_false, ne_eq, forall_const, eq_self, reduceCtorEq, reduceIte, Nat.reduceLT, Nat.reduceLeDiff, Nat.reduceAdd, Nat.reduceSub, Nat.reduceMul, Nat.reduceEqDiff, Nat.reduceBEq, Int.reduceLE, Int.reduceLT, Int.reduceToNat, Int.reduceEq, Int.reduceAdd, Int.reduceSub, Int.reduceMul, ty_3, tk_3, ty_4, tk_4, ty_36, tk_36, ty_39, tk_39, ty_59, tk_59, ty_37, tk_37, ty_5, tk_5, ty_6, tk_6, hl, h1]
      refine callPu0 k19 rfl rfl ?_
      simp only [wB, E0_tys, appI, buildI, placesI, okPart, bsI, slI, sliceI, sliceS, optI, appendI, srcI, chunk, fillI, fzParts, fzL, fz1, planAt, loadI, storeI, takeI, TK.agg, TK.known, cellsI, fillRow, okCell, bltI, builtinI, lenI, indexAddrI, fieldAddrI, fieldI, indexI, nilChkI, An.isImm, pureC, pure0, impI, impL, impC, cutO, An.imps, List.replicate, decide_true, decide_false, cond_true, cond_false, if_true, if_false, ite_true, ite_false, ne_eq, forall_const, eq_self, reduceCtorEq, reduceIte, Nat.reduceLT, Nat.reduceLeDiff, Nat.reduceAdd, Nat.reduceSub, Nat.reduceMul, Nat.reduceEqDiff, Nat.reduceBEq, Int.reduceLE, Int.reduceLT, Int.reduceToNat, Int.reduceEq, Int.reduceAdd, Int.reduceSub, Int.reduceMul, ty_3, tk_3, ty_4, tk_4, ty_36, tk_36, ty_39, tk_39, ty_59, tk_59, ty_37, tk_37, ty_5, tk_5, ty_6, tk_6, hl]
      refine callPu0 k24 rfl (by cases prepF p.text (ruleF p.oid) <;> rfl) ?_
      simp only [wB, E0_tys, appI, buildI, placesI, okPart, bsI, slI, sliceI, sliceS, optI, appendI, srcI, chunk, fillI, fzParts, fzL, fz1, planAt, loadI, storeI, takeI, TK.agg, TK.known, cellsI, fillRow, okCell, bltI, builtinI, lenI, indexAddrI, fieldAddrI, fieldI, indexI, nilChkI, An.isImm, pureC, pure0, impI, impL, impC, cutO, An.imps, List.replicate, decide_true, decide_false, cond_true, cond_false, if_true, if_false, ite_true, ite_false, ne_eq, forall_const, eq_self, reduceCtorEq, reduceIte, Nat.reduceLT, Nat.reduceLeDiff, Nat.reduceAdd, Nat.reduceSub, Nat.reduceMul, Nat.reduceEqDiff, Nat.reduceBEq, Int.reduceLE, Int.reduceLT, Int.reduceToNat, Int.reduceEq, Int.reduceAdd, Int.reduceSub, Int.reduceMul, ty_3, tk_3, ty_4, tk_4, ty_36, tk_36, ty_39, tk_39, ty_59, tk_59, ty_37, tk_37, ty_5, tk_5, ty_6, tk_6, hl, prepV_pure]
      cases prepF p.text (ruleF p.oid) <;> rfl
    · have hV : keyV p = .tu [.sl (some true) [], .b false] := by unfold keyV keyF; rw [if_neg h0, if_neg h1]
      rw [hV]
      refine pcW E0_ok mm (fn := Try.f57) (by kernel_rfl) (by kernel_rfl) (by kernel_rfl) [(5, 999, .plan (.pure 0 (.pure 1 (.pure 2 (.pure 3 (.pure 4 (.pure 5 (.pure 6 (.pure 7 (.pure 8 (.pure 9 (.done))))))))))))] (by kernel_rfl) [] (by rw [show Try.f57.ntmps = 1 + 20 by kernel_rfl]; exact Nat.le_add_right _ _) ?_
      intro T hl hx
      have a0 := hx 0 _ rfl
      clear hx
      simp only [bodyOf, Try.f57] at hl ⊢
      simp only [wB, E0_tys, appI, buildI, placesI, okPart, bsI, slI, sliceI, sliceS, optI, appendI, srcI, chunk, fillI, fzParts, fzL, fz1, planAt, loadI, storeI, takeI, TK.agg, TK.known, cellsI, fillRow, okCell, bltI, builtinI, lenI, indexAddrI, fieldAddrI, fieldI, indexI, nilChkI, An.isImm, pureC, pure0, impI, impL, impC, cutO, An.imps, List.replicate, decide_true, decide_false, cond_true, cond_false, if_true, if_false, ite_true, ite_false, ne_eq, forall_const, eq_self, reduceCtorEq, reduceIte, Nat.reduceLT, Nat.reduceLeDiff, Nat.reduceAdd, Nat.reduceSub, Nat.reduceMul, Nat.reduceEqDiff, Nat.reduceBEq, Int.reduceLE, Int.reduceLT, Int.reduceToNat, Int.reduceEq, Int.reduceAdd, Int.reduceSub, Int.reduceMul, ty_3, tk_3, ty_4, tk_4, ty_36, tk_36, ty_39, tk_39, ty_59, tk_59, ty_37, tk_37, ty_5, tk_5, ty_6, tk_6, a0, hl, prC, h0]
      refine callPu0 (c12 p.kind) rfl rfl ?_
      simp only [wB, E0_tys, appI, buildI, placesI, okPart, bsI, slI, sliceI, sliceS, optI, appendI, srcI, chunk, fillI, fzParts, fzL, fz1, planAt, loadI, storeI, takeI, TK.agg, TK.known, cellsI, fillRow, okCell, bltI, builtinI, lenI, indexAddrI, fieldAddrI, fieldI, indexI, nilChkI, An.isImm, pureC, pure0, impI, impL, impC, cutO, An.imps, List.replicate, decide_true, decide_false, cond_true, cond_false, if_true, if_false, ite_true, ite_false, ne_eq, forall_const, eq_self, reduceCtorEq, reduceIte, Nat.reduceLT, Nat.reduceLeDiff, Nat.reduceAdd, Nat.reduceSub, Nat.reduceMul, Nat.reduceEqDiff, Nat.reduceBEq, Int.reduceLE, Int.reduceLT, Int.reduceToNat, Int.reduceEq, Int.reduceAdd, Int.reduceSub, Int.reduceMul, ty_3, tk_3, ty_4, tk_4, ty_36, tk_36, ty_39, tk_39, ty_59, tk_59, ty_37, tk_37, ty_5, tk_5, ty_6, tk_6, hl, h1]
end Go.Proofs
set_option maxRecDepth 100000
set_option maxHeartbeats 8000000
set_option linter.unusedVariables false
set_option linter.unusedSimpArgs false
namespace Go.Proofs
open Go.Iv
theorem Wk.tu2 {y' y : IV} (h : Wk y' y) (z : IV) : Wk (.tu [y', z]) (.tu [y, z]) := by
  intro s R v hr
  cases hr with
  | tu _ _ vs hl hj =>
    refine .tu _ _ _ (by simpa using hl) fun j x v hx hv => ?_
    rcases j with _ | _ | j
    · simp at hx; subst hx; exact h _ _ _ (hj 0 _ _ rfl hv)
    · simp at hx; subst hx; exact hj 1 _ _ rfl hv
    · simp at hx
theorem acc_outT {e sz r : Nat} {v : IV} {R : List Reg} {rows : List (List IV)} (h : Acc e sz r v R rows) (z : Bool) : ∃ y', impI [] R [] (.tu [v, .b z]) = some (y', []) ∧ Wk y' (.tu [.sl none rows, .b z]) := by
  rcases h with ⟨h, hv⟩ | ⟨ver, hv, ho⟩
  · subst h; subst hv
    exact ⟨.tu [.sl (some true) [], .b z], rfl, Wk.tu2 (Wk.sl _ _) _⟩
  · subst hv
    exact ⟨.tu [.sl none rows, .b z], by simp [impI, impL, impC, cutO, ho, pureC], Wk.tu2 (Wk.sl _ _) _⟩
theorem acc_set_ne {e sz r q : Nat} {v : IV} {R : List Reg} {rows : List (List IV)} (h : Acc e sz r v R rows) (o : Reg) (hq : r ≠ q) : Acc e sz r v (setR R q o) rows := by
  rcases h with h | ⟨ver, hv, ho⟩
  · exact .inl h
  · exact .inr ⟨ver, hv, by rw [lr_set_ne _ _ _ _ _ hq]; exact ho⟩
structure KV where
  p : PairV
  k : List Int
def kvC (x : KV) : List IV := prC x.p ++ [.sl (keyN x.p) (encI x.k)]
def encK (l : List KV) : List (List IV) := l.map kvC
def encP (l : List PairV) : List (List IV) := l.map prC
theorem encP_len (l : List PairV) : (encP l).length = l.length := by simp [encP]
theorem encP_at {l : List PairV} {k : Nat} {p : PairV} (h : l[k]? = some p) : (encP l).getD k [] = [.sl p.no (encI p.oid), .i .i64 p.kind, .sl p.nt (encI p.text), .sl p.nr (encB p.raw)] := getD_enc h
theorem encK_len (l : List KV) : (encK l).length = l.length := by simp [encK]
theorem encK_app (a b : List KV) : encK (a ++ b) = encK a ++ encK b := by simp [encK]
noncomputable def keysF : List PairV → Option (List KV)
  | [] => some []
  | p :: ps => match keyF p with
    | none => none
    | some k => match keysF ps with
      | none => none
      | some l => some (⟨p, k⟩ :: l)
theorem keysF_app_none {a : List PairV} {p : PairV} (h : keyF p = none) (b : List PairV) : keysF (a ++ p :: b) = none := by
  induction a with
  | nil => simp [keysF, h]
  | cons x a ih => simp only [List.cons_append, keysF, ih]; cases keyF x <;> rfl
theorem keysF_snoc {a : List PairV} {l : List KV} (h : keysF a = some l) {p : PairV} {k : List Int} (hk : keyF p = some k) : keysF (a ++ [p]) = some (l ++ [⟨p, k⟩]) := by
  induction a generalizing l with
  | nil => simp only [keysF] at h; cases h; simp [keysF, hk]
  | cons x a ih =>
    simp only [keysF] at h
    simp only [List.cons_append, keysF]
    cases hx : keyF x with
    | none => rw [hx] at h; cases h
    | some kx =>
      rw [hx] at h
      cases hl : keysF a with
      | none => rw [hl] at h; cases h
      | some la => rw [hl] at h; rw [ih hl]; cases h; rfl
theorem keysF_len {a : List PairV} {l : List KV} (h : keysF a = some l) : l.length = a.length := by
  induction a generalizing l with
  | nil => cases h; rfl
  | cons x a ih =>
    simp only [keysF] at h
    cases hx : keyF x with
    | none => rw [hx] at h; cases h
    | some kx =>
      rw [hx] at h
      cases hl : keysF a with
      | none => rw [hl] at h; cases h
      | some la => rw [hl] at h; cases h; simp [ih hl]
theorem room_104 {k : TK} {s : Nat} {z : List IV} {n : Nat} (h : n ≤ 1000000) : room ⟨k, s, 104, z⟩ n = true := by unfold room; simp; omega
theorem acc_appK {r : Nat} {v : IV} {R : List Reg} {xs : List KV} (h : Acc 80 5 r v R (encK xs)) (p : PairV) (l : List Int) (hb : xs.length + 1 ≤ 1000000) :
    ∃ v1 R1, appI tysL (.reg r) 68 68 v (.sl (some false) [[.sl p.no (encI p.oid), .i .i64 p.kind, .sl p.nt (encI p.text), .sl p.nr (encB p.raw), .sl (keyN p) (encI l)]]) R = some (v1, R1) ∧ Acc 80 5 r v1 R1 (encK (xs ++ [⟨p, l⟩])) ∧ ∃ o, R1 = newR R r o := by
  obtain ⟨v1, R1, e1, hacc1, o1, hR1⟩ := Acc.append (tys := tysL) (ts := 68) (tx := 68) (ei := ⟨.struct [(0, 39), (4, 36)], 5, 104, [.sl (some true) [], .i .i64 0, .sl (some true) [], .sl (some true) [], .sl (some true) []]⟩) (x := .sl (some false) [kvC ⟨p, l⟩]) (new := [kvC ⟨p, l⟩]) h tk_68 ty_80 ⟨_, tk_68⟩ rfl rfl (by decide) rfl (by decide) (by simp) (by rw [encK_len]; exact room_104 (by simp; omega))
  exact ⟨v1, R1, e1, by rw [encK_app]; exact hacc1, o1, hR1⟩
def keysV : Option (List KV) → IV
  | some l => .tu [.sl none (encK l), .b true]
  | none => .tu [.sl (some true) [], .b false]
def okP (l : List PairV) : Prop := l.length ≤ 1000 ∧ ∀ p ∈ l, p.text.length ≤ 10000
theorem c37 (nl : Option Bool) (ps : List PairV) (hok : okP ps) : PC Try.prog true 37 [.ag [.sl nl (encP ps)]] (keysV (keysF ps)) [] := by
  obtain ⟨hx1, hx2⟩ := hok
  refine pcK E0_ok mm (fn := Try.f37) (by kernel_rfl) (by kernel_rfl) (by kernel_rfl) [(4, 2, .reg 1), (8, 5, .reg 0)] (by kernel_rfl) [] (by rw [show Try.f37.ntmps = 1 + 30 by kernel_rfl]; exact Nat.le_add_right _ _) ?_
  intro T hl hx
  have a0 := hx 0 _ rfl
  clear hx
  simp only [bodyOf, Try.f37] at hl ⊢
  simp only [wB, E0_tys, buildI, placesI, okPart, bsI, slI, sliceI, sliceS, optI, appendI, srcI, chunk, fillI, fzParts, fzL, fz1, planAt, loadI, storeI, takeI, TK.agg, TK.known, cellsI, fillRow, okCell, bltI, builtinI, lenI, indexAddrI, fieldAddrI, fieldI, indexI, nilChkI, An.isImm, pureC, pure0, impI, impL, impC, cutO, An.imps, List.replicate, decide_true, decide_false, cond_true, cond_false, if_true, if_false, ite_true, ite_false, ne_eq, forall_const, eq_self, reduceCtorEq, reduceIte, Nat.reduceLT, Nat.reduceLeDiff, Nat.reduceAdd, Nat.reduceSub, Nat.reduceMul, Nat.reduceEqDiff, Nat.reduceBEq, Int.reduceLE, Int.reduceLT, Int.reduceToNat, Int.reduceEq, Int.reduceAdd, Int.reduceSub, Int.reduceMul, ty_3, tk_3, ty_4, tk_4, ty_5, tk_5, ty_6, tk_6, ty_36, tk_36, ty_39, tk_39, ty_59, tk_59, ty_37, tk_37, ty_33, tk_33, ty_31, tk_31, ty_76, tk_76, ty_68, tk_68, ty_80, tk_80, a0, hl, encP_len]
  refine W_loop _ _ _ _ _ _ _ (fun T R => ∃ k : Nat, k ≤ ps.length ∧ T.length = 31 ∧ getT T 10 = .sl nl (encP ps) ∧ getT T 11 = .i .i64 (ps.length : Int) ∧ getT T 12 = .i .i64 (k : Int) ∧ ∃ ks, keysF (ps.take k) = some ks ∧ Acc 80 5 0 (getT T 4) R (encK ks))
    (fun T _ => ps.length - (asI (getT T 12)).toNat) ⟨0, by omega, ?_⟩ ?_
  · simp only [wB, E0_tys, buildI, placesI, okPart, bsI, slI, sliceI, sliceS, optI, appendI, srcI, chunk, fillI, fzParts, fzL, fz1, planAt, loadI, storeI, takeI, TK.agg, TK.known, cellsI, fillRow, okCell, bltI, builtinI, lenI, indexAddrI, fieldAddrI, fieldI, indexI, nilChkI, An.isImm, pureC, pure0, impI, impL, impC, cutO, An.imps, List.replicate, decide_true, decide_false, cond_true, cond_false, if_true, if_false, ite_true, ite_false, ne_eq, forall_const, eq_self, reduceCtorEq, reduceIte, Nat.reduceLT, Nat.reduceLeDiff, Nat.reduceAdd, Nat.reduceSub, Nat.reduceMul, Nat.reduceEqDiff, Nat.reduceBEq, Int.reduceLE, Int.reduceLT, Int.reduceToNat, Int.reduceEq, Int.reduceAdd, Int.reduceSub, Int.reduceMul, ty_3, tk_3, ty_4, tk_4, ty_5, tk_5, ty_6, tk_6, ty_36, tk_36, ty_39, tk_39, ty_59, tk_59, ty_37, tk_37, ty_33, tk_33, ty_31, tk_31, ty_76, tk_76, ty_68, tk_68, ty_80, tk_80, a0, hl]
    exact ⟨[], rfl, Acc.nil _ _ _ _⟩
  · clear hl a0
    rintro T R ⟨k, hk, hl, a10, a11, a12, ks, hks, hacc⟩
    simp only [wB, E0_tys, buildI, placesI, okPart, bsI, slI, sliceI, sliceS, optI, appendI, srcI, chunk, fillI, fzParts, fzL, fz1, planAt, loadI, storeI, takeI, TK.agg, TK.known, cellsI, fillRow, okCell, bltI, builtinI, lenI, indexAddrI, fieldAddrI, fieldI, indexI, nilChkI, An.isImm, pureC, pure0, impI, impL, impC, cutO, An.imps, List.replicate, decide_true, decide_false, cond_true, cond_false, if_true, if_false, ite_true, ite_false, ne_eq, forall_const, eq_self, reduceCtorEq, reduceIte, Nat.reduceLT, Nat.reduceLeDiff, Nat.reduceAdd, Nat.reduceSub, Nat.reduceMul, Nat.reduceEqDiff, Nat.reduceBEq, Int.reduceLE, Int.reduceLT, Int.reduceToNat, Int.reduceEq, Int.reduceAdd, Int.reduceSub, Int.reduceMul, ty_3, tk_3, ty_4, tk_4, ty_5, tk_5, ty_6, tk_6, ty_36, tk_36, ty_39, tk_39, ty_59, tk_59, ty_37, tk_37, ty_33, tk_33, ty_31, tk_31, ty_76, tk_76, ty_68, tk_68, ty_80, tk_80, a10, a11, a12, hl]
    refine condW_b _ _ _ _ (fun hq => ?_) (fun hq => ?_)
    · have hk2 : k < ps.length := by have := of_decide_eq_true hq; omega
      obtain ⟨p, hp⟩ := at_lt hk2
      have k57 := c57 p (hx2 p (List.mem_of_getElem? hp))
      have hw : IntKind.i64.wrap ((k : Int) + 1) = ((k + 1 : Nat) : Int) := by rw [wrap64] <;> omega
      have htk := take_succ' hp
      have hkl := keysF_len hks
      rw [List.length_take] at hkl
      have hdec : ps = ps.take k ++ p :: ps.drop (k + 1) := by rw [← drop_at hp, List.take_append_drop]
      have hacc' : Acc 80 5 0 (getT T 4) (setR (newR R 1 ⟨true, 39, 4, [[.sl (some true) [], .i .i64 0, .sl (some true) [], .sl (some true) []]]⟩) 1 ⟨verR R 1, some ⟨true, 39, 4, [[.sl p.no (encI p.oid), .i .i64 p.kind, .sl p.nt (encI p.text), .sl p.nr (encB p.raw)]]⟩⟩) (encK ks) := acc_set_ne (hacc.ne _ (by decide)) _ (by decide)
      clear hq
      cases hkp : keyF p with
      | none =>
        have hV : keyV p = .tu [.sl (some true) [], .b false] := by unfold keyV; rw [hkp]
        rw [hV] at k57
        have hN : keysF ps = none := by rw [hdec]; exact keysF_app_none hkp _
        rw [hN]
        simp only [wB, E0_tys, buildI, placesI, okPart, bsI, slI, sliceI, sliceS, optI, appendI, srcI, chunk, fillI, fzParts, fzL, fz1, planAt, loadI, storeI, takeI, TK.agg, TK.known, cellsI, fillRow, okCell, bltI, builtinI, lenI, indexAddrI, fieldAddrI, fieldI, indexI, nilChkI, An.isImm, pureC, pure0, impI, impL, impC, cutO, An.imps, List.replicate, decide_true, decide_false, cond_true, cond_false, if_true, if_false, ite_true, ite_false, ne_eq, forall_const, eq_self, reduceCtorEq, reduceIte, Nat.reduceLT, Nat.reduceLeDiff, Nat.reduceAdd, Nat.reduceSub, Nat.reduceMul, Nat.reduceEqDiff, Nat.reduceBEq, Int.reduceLE, Int.reduceLT, Int.reduceToNat, Int.reduceEq, Int.reduceAdd, Int.reduceSub, Int.reduceMul, ty_3, tk_3, ty_4, tk_4, ty_5, tk_5, ty_6, tk_6, ty_36, tk_36, ty_39, tk_39, ty_59, tk_59, ty_37, tk_37, ty_33, tk_33, ty_31, tk_31, ty_76, tk_76, ty_68, tk_68, ty_80, tk_80, a10, a11, a12, hl, encP_len, hk2, encP_at hp]
        refine callPu0 k57 rfl rfl ?_
        simp only [wB, E0_tys, buildI, placesI, okPart, bsI, slI, sliceI, sliceS, optI, appendI, srcI, chunk, fillI, fzParts, fzL, fz1, planAt, loadI, storeI, takeI, TK.agg, TK.known, cellsI, fillRow, okCell, bltI, builtinI, lenI, indexAddrI, fieldAddrI, fieldI, indexI, nilChkI, An.isImm, pureC, pure0, impI, impL, impC, cutO, An.imps, List.replicate, decide_true, decide_false, cond_true, cond_false, if_true, if_false, ite_true, ite_false, ne_eq, forall_const, eq_self, reduceCtorEq, reduceIte, Nat.reduceLT, Nat.reduceLeDiff, Nat.reduceAdd, Nat.reduceSub, Nat.reduceMul, Nat.reduceEqDiff, Nat.reduceBEq, Int.reduceLE, Int.reduceLT, Int.reduceToNat, Int.reduceEq, Int.reduceAdd, Int.reduceSub, Int.reduceMul, ty_3, tk_3, ty_4, tk_4, ty_5, tk_5, ty_6, tk_6, ty_36, tk_36, ty_39, tk_39, ty_59, tk_59, ty_37, tk_37, ty_33, tk_33, ty_31, tk_31, ty_76, tk_76, ty_68, tk_68, ty_80, tk_80, a10, a11, a12, hl]
        exact ⟨_, rfl, Wk.rfl' _⟩
      | some l =>
        have hV : keyV p = .tu [.sl (keyN p) (encI l), .b true] := by unfold keyV; rw [hkp]
        rw [hV] at k57
        obtain ⟨v1, R1, e1, hacc1, _⟩ := acc_appK hacc' p l (by omega)
        have hks2 := keysF_snoc hks hkp
        rw [← htk] at hks2
        simp only [wB, E0_tys, buildI, placesI, okPart, bsI, slI, sliceI, sliceS, optI, appendI, srcI, chunk, fillI, fzParts, fzL, fz1, planAt, loadI, storeI, takeI, TK.agg, TK.known, cellsI, fillRow, okCell, bltI, builtinI, lenI, indexAddrI, fieldAddrI, fieldI, indexI, nilChkI, An.isImm, pureC, pure0, impI, impL, impC, cutO, An.imps, List.replicate, decide_true, decide_false, cond_true, cond_false, if_true, if_false, ite_true, ite_false, ne_eq, forall_const, eq_self, reduceCtorEq, reduceIte, Nat.reduceLT, Nat.reduceLeDiff, Nat.reduceAdd, Nat.reduceSub, Nat.reduceMul, Nat.reduceEqDiff, Nat.reduceBEq, Int.reduceLE, Int.reduceLT, Int.reduceToNat, Int.reduceEq, Int.reduceAdd, Int.reduceSub, Int.reduceMul, ty_3, tk_3, ty_4, tk_4, ty_5, tk_5, ty_6, tk_6, ty_36, tk_36, ty_39, tk_39, ty_59, tk_59, ty_37, tk_37, ty_33, tk_33, ty_31, tk_31, ty_76, tk_76, ty_68, tk_68, ty_80, tk_80, a10, a11, a12, hl, encP_len, hk2, encP_at hp]
        refine callPu0 k57 rfl rfl ?_
        simp only [wB, E0_tys, buildI, placesI, okPart, bsI, slI, sliceI, sliceS, optI, appendI, srcI, chunk, fillI, fzParts, fzL, fz1, planAt, loadI, storeI, takeI, TK.agg, TK.known, cellsI, fillRow, okCell, bltI, builtinI, lenI, indexAddrI, fieldAddrI, fieldI, indexI, nilChkI, An.isImm, pureC, pure0, impI, impL, impC, cutO, An.imps, List.replicate, decide_true, decide_false, cond_true, cond_false, if_true, if_false, ite_true, ite_false, ne_eq, forall_const, eq_self, reduceCtorEq, reduceIte, Nat.reduceLT, Nat.reduceLeDiff, Nat.reduceAdd, Nat.reduceSub, Nat.reduceMul, Nat.reduceEqDiff, Nat.reduceBEq, Int.reduceLE, Int.reduceLT, Int.reduceToNat, Int.reduceEq, Int.reduceAdd, Int.reduceSub, Int.reduceMul, ty_3, tk_3, ty_4, tk_4, ty_5, tk_5, ty_6, tk_6, ty_36, tk_36, ty_39, tk_39, ty_59, tk_59, ty_37, tk_37, ty_33, tk_33, ty_31, tk_31, ty_76, tk_76, ty_68, tk_68, ty_80, tk_80, a10, a11, a12, hl, hw, e1, Bool.or_true, Bool.or_self]
        exact ⟨⟨k + 1, hk2, rfl, _, hks2, hacc1⟩, by simp only [asI]; omega⟩
    · have hk2 : k = ps.length := by have := of_decide_eq_false hq; omega
      subst hk2
      rw [List.take_length] at hks
      simp only [wB, E0_tys, buildI, placesI, okPart, bsI, slI, sliceI, sliceS, optI, appendI, srcI, chunk, fillI, fzParts, fzL, fz1, planAt, loadI, storeI, takeI, TK.agg, TK.known, cellsI, fillRow, okCell, bltI, builtinI, lenI, indexAddrI, fieldAddrI, fieldI, indexI, nilChkI, An.isImm, pureC, pure0, impI, impL, impC, cutO, An.imps, List.replicate, decide_true, decide_false, cond_true, cond_false, if_true, if_false, ite_true, ite_false, ne_eq, forall_const, eq_self, reduceCtorEq, reduceIte, Nat.reduceLT, Nat.reduceLeDiff, Nat.reduceAdd, Nat.reduceSub, Nat.reduceMul, Nat.reduceEqDiff, Nat.reduceBEq, Int.reduceLE, Int.reduceLT, Int.reduceToNat, Int.reduceEq, Int.reduceAdd, Int.reduceSub, Int.reduceMul, ty_3, tk_3, ty_4, tk_4, ty_5, tk_5, ty_6, tk_6, ty_36, tk_36, ty_39, tk_39, ty_59, tk_59, ty_37, tk_37, ty_33, tk_33, ty_31, tk_31, ty_76, tk_76, ty_68, tk_68, ty_80, tk_80, hl]
      rw [hks]
      exact acc_outT hacc true
end Go.Proofs
