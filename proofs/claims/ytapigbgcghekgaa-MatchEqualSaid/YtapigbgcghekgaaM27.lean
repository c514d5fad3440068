import Derived.Test.YtapigbgcghekgaaM20
import Derived.Test.YtapigbgcghekgaaM26
set_option linter.unusedVariables false
set_option linter.unusedSimpArgs false
set_option maxRecDepth 100000
set_option maxHeartbeats 8000000
set_option linter.unusedVariables false
set_option linter.unusedSimpArgs false
namespace Go.Proofs
open Go.Iv
theorem acc_push {r : Nat} {v : IV} {R : List Reg} {xs : List Int} (h : Acc 3 1 r v R (encI xs)) (y : Int) (hb : xs.length + 1 ≤ 10000000) :
    ∃ ver R1, appI tysL (.reg r) 36 36 v (.sl (some false) [[.i .i64 y]]) R = some (.rf r ver 0 (xs.length + 1), R1) ∧ liveR R1 r ver = some ⟨false, 3, 1, encI (xs ++ [y])⟩ := by
  obtain ⟨v1, R1, e1, hacc, o, hR⟩ := acc_app1 h y hb
  rcases hacc with ⟨h0, _⟩ | ⟨ver, hv, ho⟩
  · simp [encI] at h0
  · rw [hv] at e1
    simp only [encI_len, List.length_append, List.length_cons, List.length_nil] at e1
    exact ⟨ver, R1, e1, ho⟩
theorem acc_of {r ver n : Nat} {R : List Reg} {xs : List Int} (h : liveR R r ver = some ⟨false, 3, 1, encI xs⟩) (hn : xs.length = n) : Acc 3 1 r (.rf r ver 0 n) R (encI xs) := .inr ⟨ver, by rw [encI_len, hn], h⟩
theorem encI_get {xs : List Int} {k : Nat} {x : Int} (h : xs[k]? = some x) : (encI xs)[k]? = some [.i .i64 x] := by simp [encI, h]
theorem encI_set (xs : List Int) (k : Nat) (x : Int) : (encI xs).set k [.i .i64 x] = encI (xs.set k x) := by simp [encI, List.map_set]
abbrev CS := List Int × Option Nat
def pushC (st : CS) (c : Int) : CS := (st.1 ++ [c], if classF c = 0 then some st.1.length else st.2)
def keptC (row : List Int) (a : Nat) (c : Int) : Bool := decide (a + 1 < row.length) && (decide (classF (row.getD (row.length - 1) 0) = 0) || decide (classF c ≤ classF (row.getD (row.length - 1) 0)))
def cmpS (st : CS) (c : Int) : CS := match st.2 with
  | none => pushC st c
  | some a => if !keptC st.1 a c && (twoF (st.1.getD a 0) c).2 then (st.1.set a (twoF (st.1.getD a 0) c).1, some a) else pushC st c
def cmpF (s : List Int) : List Int := (s.foldl cmpS ([], none)).1
def atI : Option Nat → Int
  | none => -1
  | some a => (a : Int)
def okS (st : CS) (k : Nat) : Prop := st.1.length ≤ k ∧ ∀ a, st.2 = some a → a < st.1.length
theorem okS_push {st : CS} {k : Nat} (h : okS st k) (c : Int) : okS (pushC st c) (k + 1) := by
  obtain ⟨h1, h2⟩ := h
  refine ⟨by simp [pushC]; omega, fun a ha => ?_⟩
  simp only [pushC] at ha ⊢
  split at ha
  · injection ha with ha; subst ha; simp
  · have := h2 a ha; simp; omega
theorem okS_step {st : CS} {k : Nat} (h : okS st k) (c : Int) : okS (cmpS st c) (k + 1) := by
  unfold cmpS
  split
  · exact okS_push h c
  · rename_i a ha
    split
    · exact ⟨by simp; have := h.1; omega, fun b hb => by simp at hb ⊢; subst hb; exact h.2 a ha⟩
    · exact okS_push h c
theorem okS_fold (s : List Int) : ∀ (k : Nat), k ≤ s.length → okS ((s.take k).foldl cmpS ([], none)) k
  | 0, _ => by simp [okS]
  | k + 1, h => by
    obtain ⟨c, hc⟩ := at_lt (show k < s.length by omega)
    rw [pairF_step _ _ _ _ _ hc]
    exact okS_step (okS_fold s k (by omega)) c
theorem c45 (nl : Option Bool) (s : List Int) (hl0 : s.length ≤ 1000000) : PC Try.prog true 45 [.sl nl (encI s)] (.sl none (encI (cmpF s))) [] := by
  refine pcK E0_ok mm (fn := Try.f45) (by kernel_rfl) (by kernel_rfl) (by kernel_rfl) [(16, 3, .reg 0)] (by kernel_rfl) [] (by rw [show Try.f45.ntmps = 1 + 69 by kernel_rfl]; exact Nat.le_add_right _ _) ?_
  intro T hl hx
  have a0 := hx 0 _ rfl
  clear hx
  simp only [bodyOf, Try.f45] at hl ⊢
  simp only [wB, E0_tys, bsI, slI, sliceI, sliceS, optI, appendI, srcI, chunk, fillI, fzParts, fzL, fz1, planAt, loadI, storeI, takeI, TK.agg, TK.known, cellsI, fillRow, okCell, bltI, builtinI, lenI, indexAddrI, fieldAddrI, fieldI, indexI, nilChkI, An.isImm, pureC, pure0, impI, impL, impC, cutO, An.imps, List.replicate, decide_true, decide_false, cond_true, cond_false, if_true, if_false, ite_true, ite_false, ne_eq, forall_const, eq_self, reduceCtorEq, reduceIte, Nat.reduceLT, Nat.reduceLeDiff, Nat.reduceAdd, Nat.reduceSub, Nat.reduceMul, Nat.reduceEqDiff, Nat.reduceBEq, Int.reduceLE, Int.reduceLT, Int.reduceToNat, Int.reduceEq, Int.reduceAdd, Int.reduceSub, Int.reduceMul, ty_3, tk_3, ty_36, tk_36, ty_4, tk_4, a0, hl, encI_len]
  refine W_loop _ _ _ _ _ _ _ (fun T R => ∃ k : Nat, k ≤ s.length ∧ T.length = 70 ∧ getT T 13 = .sl nl (encI s) ∧ getT T 14 = .i .i64 (s.length : Int) ∧ getT T 15 = .i .i64 (k : Int) ∧
      getT T 4 = .i .i64 (atI ((s.take k).foldl cmpS ([], none)).2) ∧ Acc 3 1 0 (getT T 3) R (encI ((s.take k).foldl cmpS ([], none)).1))
    (fun T _ => s.length - (asI (getT T 15)).toNat) ⟨0, ?_⟩ ?_
  · simp only [wB, E0_tys, bsI, slI, sliceI, sliceS, optI, appendI, srcI, chunk, fillI, fzParts, fzL, fz1, planAt, loadI, storeI, takeI, TK.agg, TK.known, cellsI, fillRow, okCell, bltI, builtinI, lenI, indexAddrI, fieldAddrI, fieldI, indexI, nilChkI, An.isImm, pureC, pure0, impI, impL, impC, cutO, An.imps, List.replicate, decide_true, decide_false, cond_true, cond_false, if_true, if_false, ite_true, ite_false, ne_eq, forall_const, eq_self, reduceCtorEq, reduceIte, Nat.reduceLT, Nat.reduceLeDiff, Nat.reduceAdd, Nat.reduceSub, Nat.reduceMul, Nat.reduceEqDiff, Nat.reduceBEq, Int.reduceLE, Int.reduceLT, Int.reduceToNat, Int.reduceEq, Int.reduceAdd, Int.reduceSub, Int.reduceMul, ty_3, tk_3, ty_36, tk_36, ty_4, tk_4, a0, hl, encI_len, atI]
    exact Acc.nil _ _ _ _
  · rintro T R ⟨k, hk, hl, a13, a14, a15, a4, hacc⟩
    simp only [wB, E0_tys, bsI, slI, sliceI, sliceS, optI, appendI, srcI, chunk, fillI, fzParts, fzL, fz1, planAt, loadI, storeI, takeI, TK.agg, TK.known, cellsI, fillRow, okCell, bltI, builtinI, lenI, indexAddrI, fieldAddrI, fieldI, indexI, nilChkI, An.isImm, pureC, pure0, impI, impL, impC, cutO, An.imps, List.replicate, decide_true, decide_false, cond_true, cond_false, if_true, if_false, ite_true, ite_false, ne_eq, forall_const, eq_self, reduceCtorEq, reduceIte, Nat.reduceLT, Nat.reduceLeDiff, Nat.reduceAdd, Nat.reduceSub, Nat.reduceMul, Nat.reduceEqDiff, Nat.reduceBEq, Int.reduceLE, Int.reduceLT, Int.reduceToNat, Int.reduceEq, Int.reduceAdd, Int.reduceSub, Int.reduceMul, ty_3, tk_3, ty_36, tk_36, ty_4, tk_4, a13, a14, a15, hl, encI_len]
    refine condW_b _ _ _ _ (fun hq => ?_) (fun hq => ?_)
    · have hk2 : k < s.length := by simpa using hq
      obtain ⟨c, hc⟩ := at_lt hk2
      have hw : IntKind.i64.wrap ((k : Int) + 1) = ((k + 1 : Nat) : Int) := by rw [wrap64] <;> omega
      have hst := pairF_step cmpS s k c ([], none) hc
      have hok := okS_fold s k hk
      generalize (s.take k).foldl cmpS ([], none) = st at *
      obtain ⟨row, at'⟩ := st
      obtain ⟨hok1, hok2⟩ := hok
      dsimp only at a4 hacc hok1 hok2
      obtain ⟨v1, R1, e1, ho1⟩ := acc_push hacc c (by omega)
      have hacc2 : Acc 3 1 0 (.rf 0 v1 0 (row.length + 1)) R1 (encI (row ++ [c])) := acc_of ho1 (by simp)
      have hwl : IntKind.i64.wrap (((row.length + 1 : Nat) : Int) - 1) = (row.length : Int) := by rw [wrap64] <;> omega
      clear hq
      rcases Nat.eq_zero_or_pos row.length with hm | hm
      · have hr : row = [] := List.length_eq_zero_iff.1 hm
        subst hr
        have hat : at' = none := by
          cases at' with
          | none => rfl
          | some a => have := hok2 a rfl; simp at this
        subst hat
        simp only [atI] at a4
        have hwn : IntKind.i64.wrap (0 - 1) = -1 := by rw [wrap64] <;> omega
        have hgt : ¬ ((-1 : Int) < -1) := by omega
        have hge : ¬ ((-1 : Int) ≥ 0) := by omega
        have hge2 : ¬ ((0 : Int) ≤ -1) := by omega
        rcases hacc with ⟨_, a3⟩ | ⟨ver, a3, ho⟩
        · rw [a3] at e1
          by_cases k0 : classF c = 0
          · have hS : cmpS ([], none) c = ([] ++ [c], some 0) := by simp [cmpS, pushC, k0]
            simp only [wB, E0_tys, bsI, slI, sliceI, sliceS, optI, appendI, srcI, chunk, fillI, fzParts, fzL, fz1, planAt, loadI, storeI, takeI, TK.agg, TK.known, cellsI, fillRow, okCell, bltI, builtinI, lenI, indexAddrI, fieldAddrI, fieldI, indexI, nilChkI, An.isImm, pureC, pure0, impI, impL, impC, cutO, An.imps, List.replicate, decide_true, decide_false, cond_true, cond_false, if_true, if_false, ite_true, ite_false, ne_eq, forall_const, eq_self, reduceCtorEq, reduceIte, Nat.reduceLT, Nat.reduceLeDiff, Nat.reduceAdd, Nat.reduceSub, Nat.reduceMul, Nat.reduceEqDiff, Nat.reduceBEq, Int.reduceLE, Int.reduceLT, Int.reduceToNat, Int.reduceEq, Int.reduceAdd, Int.reduceSub, Int.reduceMul, ty_3, tk_3, ty_36, tk_36, ty_4, tk_4, a3, a4, a13, a14, a15, hl, encI_len, hk2, encI_at hc]
            refine callPu0 (c59 c) rfl rfl ?_
            simp only [wB, E0_tys, bsI, slI, sliceI, sliceS, optI, appendI, srcI, chunk, fillI, fzParts, fzL, fz1, planAt, loadI, storeI, takeI, TK.agg, TK.known, cellsI, fillRow, okCell, bltI, builtinI, lenI, indexAddrI, fieldAddrI, fieldI, indexI, nilChkI, An.isImm, pureC, pure0, impI, impL, impC, cutO, An.imps, List.replicate, decide_true, decide_false, cond_true, cond_false, if_true, if_false, ite_true, ite_false, ne_eq, forall_const, eq_self, reduceCtorEq, reduceIte, Nat.reduceLT, Nat.reduceLeDiff, Nat.reduceAdd, Nat.reduceSub, Nat.reduceMul, Nat.reduceEqDiff, Nat.reduceBEq, Int.reduceLE, Int.reduceLT, Int.reduceToNat, Int.reduceEq, Int.reduceAdd, Int.reduceSub, Int.reduceMul, ty_3, tk_3, ty_36, tk_36, ty_4, tk_4, a3, a4, a13, a14, a15, hl, encI_len, hk2, hw, e1, hwn, hgt, hge2, ho1, hwl, k0]
            refine ⟨⟨k + 1, hk2, rfl, ?_, ?_⟩, by simp only [asI]; omega⟩
            · rw [hst, hS]; simp only [atI]; try rfl
            · rw [hst, hS]; first | exact hacc2 | exact hacc3 _
          · have hS : cmpS ([], none) c = ([] ++ [c], none) := by simp [cmpS, pushC, k0]
            simp only [wB, E0_tys, bsI, slI, sliceI, sliceS, optI, appendI, srcI, chunk, fillI, fzParts, fzL, fz1, planAt, loadI, storeI, takeI, TK.agg, TK.known, cellsI, fillRow, okCell, bltI, builtinI, lenI, indexAddrI, fieldAddrI, fieldI, indexI, nilChkI, An.isImm, pureC, pure0, impI, impL, impC, cutO, An.imps, List.replicate, decide_true, decide_false, cond_true, cond_false, if_true, if_false, ite_true, ite_false, ne_eq, forall_const, eq_self, reduceCtorEq, reduceIte, Nat.reduceLT, Nat.reduceLeDiff, Nat.reduceAdd, Nat.reduceSub, Nat.reduceMul, Nat.reduceEqDiff, Nat.reduceBEq, Int.reduceLE, Int.reduceLT, Int.reduceToNat, Int.reduceEq, Int.reduceAdd, Int.reduceSub, Int.reduceMul, ty_3, tk_3, ty_36, tk_36, ty_4, tk_4, a3, a4, a13, a14, a15, hl, encI_len, hk2, encI_at hc]
            refine callPu0 (c59 c) rfl rfl ?_
            simp only [wB, E0_tys, bsI, slI, sliceI, sliceS, optI, appendI, srcI, chunk, fillI, fzParts, fzL, fz1, planAt, loadI, storeI, takeI, TK.agg, TK.known, cellsI, fillRow, okCell, bltI, builtinI, lenI, indexAddrI, fieldAddrI, fieldI, indexI, nilChkI, An.isImm, pureC, pure0, impI, impL, impC, cutO, An.imps, List.replicate, decide_true, decide_false, cond_true, cond_false, if_true, if_false, ite_true, ite_false, ne_eq, forall_const, eq_self, reduceCtorEq, reduceIte, Nat.reduceLT, Nat.reduceLeDiff, Nat.reduceAdd, Nat.reduceSub, Nat.reduceMul, Nat.reduceEqDiff, Nat.reduceBEq, Int.reduceLE, Int.reduceLT, Int.reduceToNat, Int.reduceEq, Int.reduceAdd, Int.reduceSub, Int.reduceMul, ty_3, tk_3, ty_36, tk_36, ty_4, tk_4, a3, a4, a13, a14, a15, hl, encI_len, hk2, hw, e1, hwn, hgt, hge2, ho1, hwl, k0]
            refine ⟨⟨k + 1, hk2, rfl, ?_, ?_⟩, by simp only [asI]; omega⟩
            · rw [hst, hS]; simp only [atI]; try rfl
            · rw [hst, hS]; first | exact hacc2 | exact hacc3 _
        · have a3' : getT T 3 = .rf 0 ver 0 0 := a3
          have ho' : liveR R 0 ver = some ⟨false, 3, 1, []⟩ := ho
          rw [a3'] at e1
          clear a3 ho
          by_cases k0 : classF c = 0
          · have hS : cmpS ([], none) c = ([] ++ [c], some 0) := by simp [cmpS, pushC, k0]
            simp only [wB, E0_tys, bsI, slI, sliceI, sliceS, optI, appendI, srcI, chunk, fillI, fzParts, fzL, fz1, planAt, loadI, storeI, takeI, TK.agg, TK.known, cellsI, fillRow, okCell, bltI, builtinI, lenI, indexAddrI, fieldAddrI, fieldI, indexI, nilChkI, An.isImm, pureC, pure0, impI, impL, impC, cutO, An.imps, List.replicate, decide_true, decide_false, cond_true, cond_false, if_true, if_false, ite_true, ite_false, ne_eq, forall_const, eq_self, reduceCtorEq, reduceIte, Nat.reduceLT, Nat.reduceLeDiff, Nat.reduceAdd, Nat.reduceSub, Nat.reduceMul, Nat.reduceEqDiff, Nat.reduceBEq, Int.reduceLE, Int.reduceLT, Int.reduceToNat, Int.reduceEq, Int.reduceAdd, Int.reduceSub, Int.reduceMul, ty_3, tk_3, ty_36, tk_36, ty_4, tk_4, a3', ho', a4, a13, a14, a15, hl, encI_len, hk2, encI_at hc]
            refine callPu0 (c59 c) rfl rfl ?_
            simp only [wB, E0_tys, bsI, slI, sliceI, sliceS, optI, appendI, srcI, chunk, fillI, fzParts, fzL, fz1, planAt, loadI, storeI, takeI, TK.agg, TK.known, cellsI, fillRow, okCell, bltI, builtinI, lenI, indexAddrI, fieldAddrI, fieldI, indexI, nilChkI, An.isImm, pureC, pure0, impI, impL, impC, cutO, An.imps, List.replicate, decide_true, decide_false, cond_true, cond_false, if_true, if_false, ite_true, ite_false, ne_eq, forall_const, eq_self, reduceCtorEq, reduceIte, Nat.reduceLT, Nat.reduceLeDiff, Nat.reduceAdd, Nat.reduceSub, Nat.reduceMul, Nat.reduceEqDiff, Nat.reduceBEq, Int.reduceLE, Int.reduceLT, Int.reduceToNat, Int.reduceEq, Int.reduceAdd, Int.reduceSub, Int.reduceMul, ty_3, tk_3, ty_36, tk_36, ty_4, tk_4, a3', ho', a4, a13, a14, a15, hl, encI_len, hk2, hw, e1, hwn, hgt, hge2, ho1, hwl, k0]
            refine ⟨⟨k + 1, hk2, rfl, ?_, ?_⟩, by simp only [asI]; omega⟩
            · rw [hst, hS]; simp only [atI]; try rfl
            · rw [hst, hS]; first | exact hacc2 | exact hacc3 _
          · have hS : cmpS ([], none) c = ([] ++ [c], none) := by simp [cmpS, pushC, k0]
            simp only [wB, E0_tys, bsI, slI, sliceI, sliceS, optI, appendI, srcI, chunk, fillI, fzParts, fzL, fz1, planAt, loadI, storeI, takeI, TK.agg, TK.known, cellsI, fillRow, okCell, bltI, builtinI, lenI, indexAddrI, fieldAddrI, fieldI, indexI, nilChkI, An.isImm, pureC, pure0, impI, impL, impC, cutO, An.imps, List.replicate, decide_true, decide_false, cond_true, cond_false, if_true, if_false, ite_true, ite_false, ne_eq, forall_const, eq_self, reduceCtorEq, reduceIte, Nat.reduceLT, Nat.reduceLeDiff, Nat.reduceAdd, Nat.reduceSub, Nat.reduceMul, Nat.reduceEqDiff, Nat.reduceBEq, Int.reduceLE, Int.reduceLT, Int.reduceToNat, Int.reduceEq, Int.reduceAdd, Int.reduceSub, Int.reduceMul, ty_3, tk_3, ty_36, tk_36, ty_4, tk_4, a3', ho', a4, a13, a14, a15, hl, encI_len, hk2, encI_at hc]
            refine callPu0 (c59 c) rfl rfl ?_
            simp only [wB, E0_tys, bsI, slI, sliceI, sliceS, optI, appendI, srcI, chunk, fillI, fzParts, fzL, fz1, planAt, loadI, storeI, takeI, TK.agg, TK.known, cellsI, fillRow, okCell, bltI, builtinI, lenI, indexAddrI, fieldAddrI, fieldI, indexI, nilChkI, An.isImm, pureC, pure0, impI, impL, impC, cutO, An.imps, List.replicate, decide_true, decide_false, cond_true, cond_false, if_true, if_false, ite_true, ite_false, ne_eq, forall_const, eq_self, reduceCtorEq, reduceIte, Nat.reduceLT, Nat.reduceLeDiff, Nat.reduceAdd, Nat.reduceSub, Nat.reduceMul, Nat.reduceEqDiff, Nat.reduceBEq, Int.reduceLE, Int.reduceLT, Int.reduceToNat, Int.reduceEq, Int.reduceAdd, Int.reduceSub, Int.reduceMul, ty_3, tk_3, ty_36, tk_36, ty_4, tk_4, a3', ho', a4, a13, a14, a15, hl, encI_len, hk2, hw, e1, hwn, hgt, hge2, ho1, hwl, k0]
            refine ⟨⟨k + 1, hk2, rfl, ?_, ?_⟩, by simp only [asI]; omega⟩
            · rw [hst, hS]; simp only [atI]; try rfl
            · rw [hst, hS]; first | exact hacc2 | exact hacc3 _
      · obtain ⟨x, hx⟩ := at_lt (show row.length - 1 < row.length by omega)
        have hxd : row.getD (row.length - 1) 0 = x := by simp [List.getD, hx]
        rcases hacc with ⟨h0, _⟩ | ⟨ver, a3, ho⟩
        · have h1 : row.length = 0 := by have := congrArg List.length h0; rwa [encI_len] at this
          omega
        rw [encI_len] at a3
        rw [a3] at e1
        have hxe := encI_get hx
        have hwm : IntKind.i64.wrap ((row.length : Int) - 1) = ((row.length - 1 : Nat) : Int) := by rw [wrap64] <;> omega
        have hlt : row.length - 1 < row.length := by omega
        cases at' with
        | none =>
          simp only [atI] at a4
          have hg : (-1 : Int) < ((row.length - 1 : Nat) : Int) := by omega
          have hge2 : ¬ ((0 : Int) ≤ -1) := by omega
          by_cases k0 : classF c = 0
          · have hS : cmpS (row, none) c = (row ++ [c], some row.length) := by simp [cmpS, pushC, k0]
            by_cases l0 : classF x = 0
            · simp only [wB, E0_tys, bsI, slI, sliceI, sliceS, optI, appendI, srcI, chunk, fillI, fzParts, fzL, fz1, planAt, loadI, storeI, takeI, TK.agg, TK.known, cellsI, fillRow, okCell, bltI, builtinI, lenI, indexAddrI, fieldAddrI, fieldI, indexI, nilChkI, An.isImm, pureC, pure0, impI, impL, impC, cutO, An.imps, List.replicate, decide_true, decide_false, cond_true, cond_false, if_true, if_false, ite_true, ite_false, ne_eq, forall_const, eq_self, reduceCtorEq, reduceIte, Nat.reduceLT, Nat.reduceLeDiff, Nat.reduceAdd, Nat.reduceSub, Nat.reduceMul, Nat.reduceEqDiff, Nat.reduceBEq, Int.reduceLE, Int.reduceLT, Int.reduceToNat, Int.reduceEq, Int.reduceAdd, Int.reduceSub, Int.reduceMul, ty_3, tk_3, ty_36, tk_36, ty_4, tk_4, a3, a4, a13, a14, a15, hl, encI_len, hk2, encI_at hc]
              refine callPu0 (c59 c) rfl rfl ?_
              simp only [wB, E0_tys, bsI, slI, sliceI, sliceS, optI, appendI, srcI, chunk, fillI, fzParts, fzL, fz1, planAt, loadI, storeI, takeI, TK.agg, TK.known, cellsI, fillRow, okCell, bltI, builtinI, lenI, indexAddrI, fieldAddrI, fieldI, indexI, nilChkI, An.isImm, pureC, pure0, impI, impL, impC, cutO, An.imps, List.replicate, decide_true, decide_false, cond_true, cond_false, if_true, if_false, ite_true, ite_false, ne_eq, forall_const, eq_self, reduceCtorEq, reduceIte, Nat.reduceLT, Nat.reduceLeDiff, Nat.reduceAdd, Nat.reduceSub, Nat.reduceMul, Nat.reduceEqDiff, Nat.reduceBEq, Int.reduceLE, Int.reduceLT, Int.reduceToNat, Int.reduceEq, Int.reduceAdd, Int.reduceSub, Int.reduceMul, ty_3, tk_3, ty_36, tk_36, ty_4, tk_4, a3, a4, a13, a14, a15, hl, encI_len, hk2, ho, hwm, hg, hlt, hxe]
              refine callPu0 (c59 x) rfl rfl ?_
              simp only [wB, E0_tys, bsI, slI, sliceI, sliceS, optI, appendI, srcI, chunk, fillI, fzParts, fzL, fz1, planAt, loadI, storeI, takeI, TK.agg, TK.known, cellsI, fillRow, okCell, bltI, builtinI, lenI, indexAddrI, fieldAddrI, fieldI, indexI, nilChkI, An.isImm, pureC, pure0, impI, impL, impC, cutO, An.imps, List.replicate, decide_true, decide_false, cond_true, cond_false, if_true, if_false, ite_true, ite_false, ne_eq, forall_const, eq_self, reduceCtorEq, reduceIte, Nat.reduceLT, Nat.reduceLeDiff, Nat.reduceAdd, Nat.reduceSub, Nat.reduceMul, Nat.reduceEqDiff, Nat.reduceBEq, Int.reduceLE, Int.reduceLT, Int.reduceToNat, Int.reduceEq, Int.reduceAdd, Int.reduceSub, Int.reduceMul, ty_3, tk_3, ty_36, tk_36, ty_4, tk_4, a3, a4, a13, a14, a15, hl, encI_len, hk2, hw, e1, ho, hwm, hg, hge2, hlt, hxe, ho1, hwl, k0, l0]
              refine ⟨⟨k + 1, hk2, rfl, ?_, ?_⟩, by simp only [asI]; omega⟩
              · rw [hst, hS]; simp only [atI]; try rfl
              · rw [hst, hS]; first | exact hacc2 | exact hacc3 _
            · simp only [wB, E0_tys, bsI, slI, sliceI, sliceS, optI, appendI, srcI, chunk, fillI, fzParts, fzL, fz1, planAt, loadI, storeI, takeI, TK.agg, TK.known, cellsI, fillRow, okCell, bltI, builtinI, lenI, indexAddrI, fieldAddrI, fieldI, indexI, nilChkI, An.isImm, pureC, pure0, impI, impL, impC, cutO, An.imps, List.replicate, decide_true, decide_false, cond_true, cond_false, if_true, if_false, ite_true, ite_false, ne_eq, forall_const, eq_self, reduceCtorEq, reduceIte, Nat.reduceLT, Nat.reduceLeDiff, Nat.reduceAdd, Nat.reduceSub, Nat.reduceMul, Nat.reduceEqDiff, Nat.reduceBEq, Int.reduceLE, Int.reduceLT, Int.reduceToNat, Int.reduceEq, Int.reduceAdd, Int.reduceSub, Int.reduceMul, ty_3, tk_3, ty_36, tk_36, ty_4, tk_4, a3, a4, a13, a14, a15, hl, encI_len, hk2, encI_at hc]
              refine callPu0 (c59 c) rfl rfl ?_
              simp only [wB, E0_tys, bsI, slI, sliceI, sliceS, optI, appendI, srcI, chunk, fillI, fzParts, fzL, fz1, planAt, loadI, storeI, takeI, TK.agg, TK.known, cellsI, fillRow, okCell, bltI, builtinI, lenI, indexAddrI, fieldAddrI, fieldI, indexI, nilChkI, An.isImm, pureC, pure0, impI, impL, impC, cutO, An.imps, List.replicate, decide_true, decide_false, cond_true, cond_false, if_true, if_false, ite_true, ite_false, ne_eq, forall_const, eq_self, reduceCtorEq, reduceIte, Nat.reduceLT, Nat.reduceLeDiff, Nat.reduceAdd, Nat.reduceSub, Nat.reduceMul, Nat.reduceEqDiff, Nat.reduceBEq, Int.reduceLE, Int.reduceLT, Int.reduceToNat, Int.reduceEq, Int.reduceAdd, Int.reduceSub, Int.reduceMul, ty_3, tk_3, ty_36, tk_36, ty_4, tk_4, a3, a4, a13, a14, a15, hl, encI_len, hk2, ho, hwm, hg, hlt, hxe]
              refine callPu0 (c59 x) rfl rfl ?_
              simp only [wB, E0_tys, bsI, slI, sliceI, sliceS, optI, appendI, srcI, chunk, fillI, fzParts, fzL, fz1, planAt, loadI, storeI, takeI, TK.agg, TK.known, cellsI, fillRow, okCell, bltI, builtinI, lenI, indexAddrI, fieldAddrI, fieldI, indexI, nilChkI, An.isImm, pureC, pure0, impI, impL, impC, cutO, An.imps, List.replicate, decide_true, decide_false, cond_true, cond_false, if_true, if_false, ite_true, ite_false, ne_eq, forall_const, eq_self, reduceCtorEq, reduceIte, Nat.reduceLT, Nat.reduceLeDiff, Nat.reduceAdd, Nat.reduceSub, Nat.reduceMul, Nat.reduceEqDiff, Nat.reduceBEq, Int.reduceLE, Int.reduceLT, Int.reduceToNat, Int.reduceEq, Int.reduceAdd, Int.reduceSub, Int.reduceMul, ty_3, tk_3, ty_36, tk_36, ty_4, tk_4, a3, a4, a13, a14, a15, hl, encI_len, hk2, hw, e1, ho, hwm, hg, hge2, hlt, hxe, ho1, hwl, k0, l0]
              refine ⟨⟨k + 1, hk2, rfl, ?_, ?_⟩, by simp only [asI]; omega⟩
              · rw [hst, hS]; simp only [atI]; try rfl
              · rw [hst, hS]; first | exact hacc2 | exact hacc3 _
          · have hS : cmpS (row, none) c = (row ++ [c], none) := by simp [cmpS, pushC, k0]
            by_cases l0 : classF x = 0
            · simp only [wB, E0_tys, bsI, slI, sliceI, sliceS, optI, appendI, srcI, chunk, fillI, fzParts, fzL, fz1, planAt, loadI, storeI, takeI, TK.agg, TK.known, cellsI, fillRow, okCell, bltI, builtinI, lenI, indexAddrI, fieldAddrI, fieldI, indexI, nilChkI, An.isImm, pureC, pure0, impI, impL, impC, cutO, An.imps, List.replicate, decide_true, decide_false, cond_true, cond_false, if_true, if_false, ite_true, ite_false, ne_eq, forall_const, eq_self, reduceCtorEq, reduceIte, Nat.reduceLT, Nat.reduceLeDiff, Nat.reduceAdd, Nat.reduceSub, Nat.reduceMul, Nat.reduceEqDiff, Nat.reduceBEq, Int.reduceLE, Int.reduceLT, Int.reduceToNat, Int.reduceEq, Int.reduceAdd, Int.reduceSub, Int.reduceMul, ty_3, tk_3, ty_36, tk_36, ty_4, tk_4, a3, a4, a13, a14, a15, hl, encI_len, hk2, encI_at hc]
              refine callPu0 (c59 c) rfl rfl ?_
              simp only [wB, E0_tys, bsI, slI, sliceI, sliceS, optI, appendI, srcI, chunk, fillI, fzParts, fzL, fz1, planAt, loadI, storeI, takeI, TK.agg, TK.known, cellsI, fillRow, okCell, bltI, builtinI, lenI, indexAddrI, fieldAddrI, fieldI, indexI, nilChkI, An.isImm, pureC, pure0, impI, impL, impC, cutO, An.imps, List.replicate, decide_true, decide_false, cond_true, cond_false, if_true, if_false, ite_true, ite_false, ne_eq, forall_const, eq_self, reduceCtorEq, reduceIte, Nat.reduceLT, Nat.reduceLeDiff, Nat.reduceAdd, Nat.reduceSub, Nat.reduceMul, Nat.reduceEqDiff, Nat.reduceBEq, Int.reduceLE, Int.reduceLT, Int.reduceToNat, Int.reduceEq, Int.reduceAdd, Int.reduceSub, Int.reduceMul, ty_3, tk_3, ty_36, tk_36, ty_4, tk_4, a3, a4, a13, a14, a15, hl, encI_len, hk2, ho, hwm, hg, hlt, hxe]
              refine callPu0 (c59 x) rfl rfl ?_
              simp only [wB, E0_tys, bsI, slI, sliceI, sliceS, optI, appendI, srcI, chunk, fillI, fzParts, fzL, fz1, planAt, loadI, storeI, takeI, TK.agg, TK.known, cellsI, fillRow, okCell, bltI, builtinI, lenI, indexAddrI, fieldAddrI, fieldI, indexI, nilChkI, An.isImm, pureC, pure0, impI, impL, impC, cutO, An.imps, List.replicate, decide_true, decide_false, cond_true, cond_false, if_true, if_false, ite_true, ite_false, ne_eq, forall_const, eq_self, reduceCtorEq, reduceIte, Nat.reduceLT, Nat.reduceLeDiff, Nat.reduceAdd, Nat.reduceSub, Nat.reduceMul, Nat.reduceEqDiff, Nat.reduceBEq, Int.reduceLE, Int.reduceLT, Int.reduceToNat, Int.reduceEq, Int.reduceAdd, Int.reduceSub, Int.reduceMul, ty_3, tk_3, ty_36, tk_36, ty_4, tk_4, a3, a4, a13, a14, a15, hl, encI_len, hk2, hw, e1, ho, hwm, hg, hge2, hlt, hxe, ho1, hwl, k0, l0]
              refine ⟨⟨k + 1, hk2, rfl, ?_, ?_⟩, by simp only [asI]; omega⟩
              · rw [hst, hS]; simp only [atI]; try rfl
              · rw [hst, hS]; first | exact hacc2 | exact hacc3 _
            · simp only [wB, E0_tys, bsI, slI, sliceI, sliceS, optI, appendI, srcI, chunk, fillI, fzParts, fzL, fz1, planAt, loadI, storeI, takeI, TK.agg, TK.known, cellsI, fillRow, okCell, bltI, builtinI, lenI, indexAddrI, fieldAddrI, fieldI, indexI, nilChkI, An.isImm, pureC, pure0, impI, impL, impC, cutO, An.imps, List.replicate, decide_true, decide_false, cond_true, cond_false, if_true, if_false, ite_true, ite_false, ne_eq, forall_const, eq_self, reduceCtorEq, reduceIte, Nat.reduceLT, Nat.reduceLeDiff, Nat.reduceAdd, Nat.reduceSub, Nat.reduceMul, Nat.reduceEqDiff, Nat.reduceBEq, Int.reduceLE, Int.reduceLT, Int.reduceToNat, Int.reduceEq, Int.reduceAdd, Int.reduceSub, Int.reduceMul, ty_3, tk_3, ty_36, tk_36, ty_4, tk_4, a3, a4, a13, a14, a15, hl, encI_len, hk2, encI_at hc]
              refine callPu0 (c59 c) rfl rfl ?_
              simp only [wB, E0_tys, bsI, slI, sliceI, sliceS, optI, appendI, srcI, chunk, fillI, fzParts, fzL, fz1, planAt, loadI, storeI, takeI, TK.agg, TK.known, cellsI, fillRow, okCell, bltI, builtinI, lenI, indexAddrI, fieldAddrI, fieldI, indexI, nilChkI, An.isImm, pureC, pure0, impI, impL, impC, cutO, An.imps, List.replicate, decide_true, decide_false, cond_true, cond_false, if_true, if_false, ite_true, ite_false, ne_eq, forall_const, eq_self, reduceCtorEq, reduceIte, Nat.reduceLT, Nat.reduceLeDiff, Nat.reduceAdd, Nat.reduceSub, Nat.reduceMul, Nat.reduceEqDiff, Nat.reduceBEq, Int.reduceLE, Int.reduceLT, Int.reduceToNat, Int.reduceEq, Int.reduceAdd, Int.reduceSub, Int.reduceMul, ty_3, tk_3, ty_36, tk_36, ty_4, tk_4, a3, a4, a13, a14, a15, hl, encI_len, hk2, ho, hwm, hg, hlt, hxe]
              refine callPu0 (c59 x) rfl rfl ?_
              simp only [wB, E0_tys, bsI, slI, sliceI, sliceS, optI, appendI, srcI, chunk, fillI, fzParts, fzL, fz1, planAt, loadI, storeI, takeI, TK.agg, TK.known, cellsI, fillRow, okCell, bltI, builtinI, lenI, indexAddrI, fieldAddrI, fieldI, indexI, nilChkI, An.isImm, pureC, pure0, impI, impL, impC, cutO, An.imps, List.replicate, decide_true, decide_false, cond_true, cond_false, if_true, if_false, ite_true, ite_false, ne_eq, forall_const, eq_self, reduceCtorEq, reduceIte, Nat.reduceLT, Nat.reduceLeDiff, Nat.reduceAdd, Nat.reduceSub, Nat.reduceMul, Nat.reduceEqDiff, Nat.reduceBEq, Int.reduceLE, Int.reduceLT, Int.reduceToNat, Int.reduceEq, Int.reduceAdd, Int.reduceSub, Int.reduceMul, ty_3, tk_3, ty_36, tk_36, ty_4, tk_4, a3, a4, a13, a14, a15, hl, encI_len, hk2, hw, e1, ho, hwm, hg, hge2, hlt, hxe, ho1, hwl, k0, l0]
              refine ⟨⟨k + 1, hk2, rfl, ?_, ?_⟩, by simp only [asI]; omega⟩
              · rw [hst, hS]; simp only [atI]; try rfl
              · rw [hst, hS]; first | exact hacc2 | exact hacc3 _
        | some a =>
          have ha := hok2 a rfl
          simp only [atI] at a4
          obtain ⟨y, hy⟩ := at_lt ha
          have hyd : row.getD a 0 = y := by simp [List.getD, hy]
          have hye := encI_get hy
          have hg0 : (0 : Int) ≤ (a : Int) := by omega
          have hset : ∀ z, (encI row).set a [.i .i64 z] = encI (row.set a z) := fun z => encI_set row a z
          have hacc3 : ∀ z, Acc 3 1 0 (.rf 0 ver 0 row.length) (setR R 0 ⟨ver, some ⟨false, 3, 1, encI (row.set a z)⟩⟩) (encI (row.set a z)) := fun z => acc_of (lr_set _ _ _ _) (by simp)
          by_cases hb : a + 1 < row.length
          · have hg : ((a : Int) < ((row.length - 1 : Nat) : Int)) := by omega
            by_cases hkp : classF x = 0 ∨ classF c ≤ classF x
            · have hK : keptC row a c = true := by unfold keptC; rw [hxd]; simp [hb, hkp]
              have hcase : (classF x = 0) ∨ (¬ classF x = 0 ∧ classF c ≤ classF x) := by omega
              rcases hcase with l0 | ⟨l0, l1⟩
              · skip
                by_cases k0 : classF c = 0
                · have hS : cmpS (row, some a) c = (row ++ [c], some row.length) := by unfold cmpS; dsimp only; rw [hK]; simp [pushC, k0]
                  have hl1b : classF c = 0 → classF c ≤ classF x → (0 : Int) ≤ classF x := fun e h => by omega
                  simp only [wB, E0_tys, bsI, slI, sliceI, sliceS, optI, appendI, srcI, chunk, fillI, fzParts, fzL, fz1, planAt, loadI, storeI, takeI, TK.agg, TK.known, cellsI, fillRow, okCell, bltI, builtinI, lenI, indexAddrI, fieldAddrI, fieldI, indexI, nilChkI, An.isImm, pureC, pure0, impI, impL, impC, cutO, An.imps, List.replicate, decide_true, decide_false, cond_true, cond_false, if_true, if_false, ite_true, ite_false, ne_eq, forall_const, eq_self, reduceCtorEq, reduceIte, Nat.reduceLT, Nat.reduceLeDiff, Nat.reduceAdd, Nat.reduceSub, Nat.reduceMul, Nat.reduceEqDiff, Nat.reduceBEq, Int.reduceLE, Int.reduceLT, Int.reduceToNat, Int.reduceEq, Int.reduceAdd, Int.reduceSub, Int.reduceMul, ty_3, tk_3, ty_36, tk_36, ty_4, tk_4, a3, a4, a13, a14, a15, hl, encI_len, hk2, encI_at hc]
                  refine callPu0 (c59 c) rfl rfl ?_
                  simp only [wB, E0_tys, bsI, slI, sliceI, sliceS, optI, appendI, srcI, chunk, fillI, fzParts, fzL, fz1, planAt, loadI, storeI, takeI, TK.agg, TK.known, cellsI, fillRow, okCell, bltI, builtinI, lenI, indexAddrI, fieldAddrI, fieldI, indexI, nilChkI, An.isImm, pureC, pure0, impI, impL, impC, cutO, An.imps, List.replicate, decide_true, decide_false, cond_true, cond_false, if_true, if_false, ite_true, ite_false, ne_eq, forall_const, eq_self, reduceCtorEq, reduceIte, Nat.reduceLT, Nat.reduceLeDiff, Nat.reduceAdd, Nat.reduceSub, Nat.reduceMul, Nat.reduceEqDiff, Nat.reduceBEq, Int.reduceLE, Int.reduceLT, Int.reduceToNat, Int.reduceEq, Int.reduceAdd, Int.reduceSub, Int.reduceMul, ty_3, tk_3, ty_36, tk_36, ty_4, tk_4, a3, a4, a13, a14, a15, hl, encI_len, hk2, ho, hwm, hg, hlt, hxe]
                  refine callPu0 (c59 x) rfl rfl ?_
                  simp only [wB, E0_tys, bsI, slI, sliceI, sliceS, optI, appendI, srcI, chunk, fillI, fzParts, fzL, fz1, planAt, loadI, storeI, takeI, TK.agg, TK.known, cellsI, fillRow, okCell, bltI, builtinI, lenI, indexAddrI, fieldAddrI, fieldI, indexI, nilChkI, An.isImm, pureC, pure0, impI, impL, impC, cutO, An.imps, List.replicate, decide_true, decide_false, cond_true, cond_false, if_true, if_false, ite_true, ite_false, ne_eq, forall_const, eq_self, reduceCtorEq, reduceIte, Nat.reduceLT, Nat.reduceLeDiff, Nat.reduceAdd, Nat.reduceSub, Nat.reduceMul, Nat.reduceEqDiff, Nat.reduceBEq, Int.reduceLE, Int.reduceLT, Int.reduceToNat, Int.reduceEq, Int.reduceAdd, Int.reduceSub, Int.reduceMul, ty_3, tk_3, ty_36, tk_36, ty_4, tk_4, a3, a4, a13, a14, a15, hl, encI_len, hk2, hw, e1, ho, hwm, hg, hg0, hlt, hxe, ho1, hwl, k0, l0]
                  refine ⟨⟨k + 1, hk2, rfl, ?_, ?_⟩, by simp only [asI]; omega⟩
                  · rw [hst, hS]; simp only [atI]; try rfl
                  · rw [hst, hS]; first | exact hacc2 | exact hacc3 _
                · have hS : cmpS (row, some a) c = (row ++ [c], some a) := by unfold cmpS; dsimp only; rw [hK]; simp [pushC, k0]
                  have hl1b : classF c = 0 → classF c ≤ classF x → (0 : Int) ≤ classF x := fun e h => by omega
                  simp only [wB, E0_tys, bsI, slI, sliceI, sliceS, optI, appendI, srcI, chunk, fillI, fzParts, fzL, fz1, planAt, loadI, storeI, takeI, TK.agg, TK.known, cellsI, fillRow, okCell, bltI, builtinI, lenI, indexAddrI, fieldAddrI, fieldI, indexI, nilChkI, An.isImm, pureC, pure0, impI, impL, impC, cutO, An.imps, List.replicate, decide_true, decide_false, cond_true, cond_false, if_true, if_false, ite_true, ite_false, ne_eq, forall_const, eq_self, reduceCtorEq, reduceIte, Nat.reduceLT, Nat.reduceLeDiff, Nat.reduceAdd, Nat.reduceSub, Nat.reduceMul, Nat.reduceEqDiff, Nat.reduceBEq, Int.reduceLE, Int.reduceLT, Int.reduceToNat, Int.reduceEq, Int.reduceAdd, Int.reduceSub, Int.reduceMul, ty_3, tk_3, ty_36, tk_36, ty_4, tk_4, a3, a4, a13, a14, a15, hl, encI_len, hk2, encI_at hc]
                  refine callPu0 (c59 c) rfl rfl ?_
                  simp only [wB, E0_tys, bsI, slI, sliceI, sliceS, optI, appendI, srcI, chunk, fillI, fzParts, fzL, fz1, planAt, loadI, storeI, takeI, TK.agg, TK.known, cellsI, fillRow, okCell, bltI, builtinI, lenI, indexAddrI, fieldAddrI, fieldI, indexI, nilChkI, An.isImm, pureC, pure0, impI, impL, impC, cutO, An.imps, List.replicate, decide_true, decide_false, cond_true, cond_false, if_true, if_false, ite_true, ite_false, ne_eq, forall_const, eq_self, reduceCtorEq, reduceIte, Nat.reduceLT, Nat.reduceLeDiff, Nat.reduceAdd, Nat.reduceSub, Nat.reduceMul, Nat.reduceEqDiff, Nat.reduceBEq, Int.reduceLE, Int.reduceLT, Int.reduceToNat, Int.reduceEq, Int.reduceAdd, Int.reduceSub, Int.reduceMul, ty_3, tk_3, ty_36, tk_36, ty_4, tk_4, a3, a4, a13, a14, a15, hl, encI_len, hk2, ho, hwm, hg, hlt, hxe]
                  refine callPu0 (c59 x) rfl rfl ?_
                  simp only [wB, E0_tys, bsI, slI, sliceI, sliceS, optI, appendI, srcI, chunk, fillI, fzParts, fzL, fz1, planAt, loadI, storeI, takeI, TK.agg, TK.known, cellsI, fillRow, okCell, bltI, builtinI, lenI, indexAddrI, fieldAddrI, fieldI, indexI, nilChkI, An.isImm, pureC, pure0, impI, impL, impC, cutO, An.imps, List.replicate, decide_true, decide_false, cond_true, cond_false, if_true, if_false, ite_true, ite_false, ne_eq, forall_const, eq_self, reduceCtorEq, reduceIte, Nat.reduceLT, Nat.reduceLeDiff, Nat.reduceAdd, Nat.reduceSub, Nat.reduceMul, Nat.reduceEqDiff, Nat.reduceBEq, Int.reduceLE, Int.reduceLT, Int.reduceToNat, Int.reduceEq, Int.reduceAdd, Int.reduceSub, Int.reduceMul, ty_3, tk_3, ty_36, tk_36, ty_4, tk_4, a3, a4, a13, a14, a15, hl, encI_len, hk2, hw, e1, ho, hwm, hg, hg0, hlt, hxe, ho1, hwl, k0, l0]
                  refine ⟨⟨k + 1, hk2, rfl, ?_, ?_⟩, by simp only [asI]; omega⟩
                  · rw [hst, hS]; simp only [atI]; try rfl
                  · rw [hst, hS]; first | exact hacc2 | exact hacc3 _
              · skip
                by_cases k0 : classF c = 0
                · have hS : cmpS (row, some a) c = (row ++ [c], some row.length) := by unfold cmpS; dsimp only; rw [hK]; simp [pushC, k0]
                  have hl1b : classF c = 0 → classF c ≤ classF x → (0 : Int) ≤ classF x := fun e h => by omega
                  simp only [wB, E0_tys, bsI, slI, sliceI, sliceS, optI, appendI, srcI, chunk, fillI, fzParts, fzL, fz1, planAt, loadI, storeI, takeI, TK.agg, TK.known, cellsI, fillRow, okCell, bltI, builtinI, lenI, indexAddrI, fieldAddrI, fieldI, indexI, nilChkI, An.isImm, pureC, pure0, impI, impL, impC, cutO, An.imps, List.replicate, decide_true, decide_false, cond_true, cond_false, if_true, if_false, ite_true, ite_false, ne_eq, forall_const, eq_self, reduceCtorEq, reduceIte, Nat.reduceLT, Nat.reduceLeDiff, Nat.reduceAdd, Nat.reduceSub, Nat.reduceMul, Nat.reduceEqDiff, Nat.reduceBEq, Int.reduceLE, Int.reduceLT, Int.reduceToNat, Int.reduceEq, Int.reduceAdd, Int.reduceSub, Int.reduceMul, ty_3, tk_3, ty_36, tk_36, ty_4, tk_4, a3, a4, a13, a14, a15, hl, encI_len, hk2, encI_at hc]
                  refine callPu0 (c59 c) rfl rfl ?_
                  simp only [wB, E0_tys, bsI, slI, sliceI, sliceS, optI, appendI, srcI, chunk, fillI, fzParts, fzL, fz1, planAt, loadI, storeI, takeI, TK.agg, TK.known, cellsI, fillRow, okCell, bltI, builtinI, lenI, indexAddrI, fieldAddrI, fieldI, indexI, nilChkI, An.isImm, pureC, pure0, impI, impL, impC, cutO, An.imps, List.replicate, decide_true, decide_false, cond_true, cond_false, if_true, if_false, ite_true, ite_false, ne_eq, forall_const, eq_self, reduceCtorEq, reduceIte, Nat.reduceLT, Nat.reduceLeDiff, Nat.reduceAdd, Nat.reduceSub, Nat.reduceMul, Nat.reduceEqDiff, Nat.reduceBEq, Int.reduceLE, Int.reduceLT, Int.reduceToNat, Int.reduceEq, Int.reduceAdd, Int.reduceSub, Int.reduceMul, ty_3, tk_3, ty_36, tk_36, ty_4, tk_4, a3, a4, a13, a14, a15, hl, encI_len, hk2, ho, hwm, hg, hlt, hxe]
                  refine callPu0 (c59 x) rfl rfl ?_
                  have hl1c := hl1b k0 l1
                  simp only [wB, E0_tys, bsI, slI, sliceI, sliceS, optI, appendI, srcI, chunk, fillI, fzParts, fzL, fz1, planAt, loadI, storeI, takeI, TK.agg, TK.known, cellsI, fillRow, okCell, bltI, builtinI, lenI, indexAddrI, fieldAddrI, fieldI, indexI, nilChkI, An.isImm, pureC, pure0, impI, impL, impC, cutO, An.imps, List.replicate, decide_true, decide_false, cond_true, cond_false, if_true, if_false, ite_true, ite_false, ne_eq, forall_const, eq_self, reduceCtorEq, reduceIte, Nat.reduceLT, Nat.reduceLeDiff, Nat.reduceAdd, Nat.reduceSub, Nat.reduceMul, Nat.reduceEqDiff, Nat.reduceBEq, Int.reduceLE, Int.reduceLT, Int.reduceToNat, Int.reduceEq, Int.reduceAdd, Int.reduceSub, Int.reduceMul, ty_3, tk_3, ty_36, tk_36, ty_4, tk_4, a3, a4, a13, a14, a15, hl, encI_len, hk2, hw, e1, ho, hwm, hg, hg0, hlt, hxe, ho1, hwl, k0, l0, l1, hl1c]
                  refine ⟨⟨k + 1, hk2, rfl, ?_, ?_⟩, by simp only [asI]; omega⟩
                  · rw [hst, hS]; simp only [atI]; try rfl
                  · rw [hst, hS]; first | exact hacc2 | exact hacc3 _
                · have hS : cmpS (row, some a) c = (row ++ [c], some a) := by unfold cmpS; dsimp only; rw [hK]; simp [pushC, k0]
                  have hl1b : classF c = 0 → classF c ≤ classF x → (0 : Int) ≤ classF x := fun e h => by omega
                  simp only [wB, E0_tys, bsI, slI, sliceI, sliceS, optI, appendI, srcI, chunk, fillI, fzParts, fzL, fz1, planAt, loadI, storeI, takeI, TK.agg, TK.known, cellsI, fillRow, okCell, bltI, builtinI, lenI, indexAddrI, fieldAddrI, fieldI, indexI, nilChkI, An.isImm, pureC, pure0, impI, impL, impC, cutO, An.imps, List.replicate, decide_true, decide_false, cond_true, cond_false, if_true, if_false, ite_true, ite_false, ne_eq, forall_const, eq_self, reduceCtorEq, reduceIte, Nat.reduceLT, Nat.reduceLeDiff, Nat.reduceAdd, Nat.reduceSub, Nat.reduceMul, Nat.reduceEqDiff, Nat.reduceBEq, Int.reduceLE, Int.reduceLT, Int.reduceToNat, Int.reduceEq, Int.reduceAdd, Int.reduceSub, Int.reduceMul, ty_3, tk_3, ty_36, tk_36, ty_4, tk_4, a3, a4, a13, a14, a15, hl, encI_len, hk2, encI_at hc]
                  refine callPu0 (c59 c) rfl rfl ?_
                  simp only [wB, E0_tys, bsI, slI, sliceI, sliceS, optI, appendI, srcI, chunk, fillI, fzParts, fzL, fz1, planAt, loadI, storeI, takeI, TK.agg, TK.known, cellsI, fillRow, okCell, bltI, builtinI, lenI, indexAddrI, fieldAddrI, fieldI, indexI, nilChkI, An.isImm, pureC, pure0, impI, impL, impC, cutO, An.imps, List.replicate, decide_true, decide_false, cond_true, cond_false, if_true, if_false, ite_true, ite_false, ne_eq, forall_const, eq_self, reduceCtorEq, reduceIte, Nat.reduceLT, Nat.reduceLeDiff, Nat.reduceAdd, Nat.reduceSub, Nat.reduceMul, Nat.reduceEqDiff, Nat.reduceBEq, Int.reduceLE, Int.reduceLT, Int.reduceToNat, Int.reduceEq, Int.reduceAdd, Int.reduceSub, Int.reduceMul, ty_3, tk_3, ty_36, tk_36, ty_4, tk_4, a3, a4, a13, a14, a15, hl, encI_len, hk2, ho, hwm, hg, hlt, hxe]
                  refine callPu0 (c59 x) rfl rfl ?_
                  simp only [wB, E0_tys, bsI, slI, sliceI, sliceS, optI, appendI, srcI, chunk, fillI, fzParts, fzL, fz1, planAt, loadI, storeI, takeI, TK.agg, TK.known, cellsI, fillRow, okCell, bltI, builtinI, lenI, indexAddrI, fieldAddrI, fieldI, indexI, nilChkI, An.isImm, pureC, pure0, impI, impL, impC, cutO, An.imps, List.replicate, decide_true, decide_false, cond_true, cond_false, if_true, if_false, ite_true, ite_false, ne_eq, forall_const, eq_self, reduceCtorEq, reduceIte, Nat.reduceLT, Nat.reduceLeDiff, Nat.reduceAdd, Nat.reduceSub, Nat.reduceMul, Nat.reduceEqDiff, Nat.reduceBEq, Int.reduceLE, Int.reduceLT, Int.reduceToNat, Int.reduceEq, Int.reduceAdd, Int.reduceSub, Int.reduceMul, ty_3, tk_3, ty_36, tk_36, ty_4, tk_4, a3, a4, a13, a14, a15, hl, encI_len, hk2, hw, e1, ho, hwm, hg, hg0, hlt, hxe, ho1, hwl, k0, l0, l1]
                  refine ⟨⟨k + 1, hk2, rfl, ?_, ?_⟩, by simp only [asI]; omega⟩
                  · rw [hst, hS]; simp only [atI]; try rfl
                  · rw [hst, hS]; first | exact hacc2 | exact hacc3 _
            · have hK : keptC row a c = false := by unfold keptC; rw [hxd]; simp [hb]; omega
              have l0 : ¬ classF x = 0 := fun h => hkp (.inl h)
              have l1 : ¬ classF c ≤ classF x := fun h => hkp (.inr h)
              cases ht : (twoF y c).2 with
              | true =>
                have hS : cmpS (row, some a) c = (row.set a (twoF y c).1, some a) := by unfold cmpS; dsimp only; rw [hK, hyd, ht]; simp
                simp only [wB, E0_tys, bsI, slI, sliceI, sliceS, optI, appendI, srcI, chunk, fillI, fzParts, fzL, fz1, planAt, loadI, storeI, takeI, TK.agg, TK.known, cellsI, fillRow, okCell, bltI, builtinI, lenI, indexAddrI, fieldAddrI, fieldI, indexI, nilChkI, An.isImm, pureC, pure0, impI, impL, impC, cutO, An.imps, List.replicate, decide_true, decide_false, cond_true, cond_false, if_true, if_false, ite_true, ite_false, ne_eq, forall_const, eq_self, reduceCtorEq, reduceIte, Nat.reduceLT, Nat.reduceLeDiff, Nat.reduceAdd, Nat.reduceSub, Nat.reduceMul, Nat.reduceEqDiff, Nat.reduceBEq, Int.reduceLE, Int.reduceLT, Int.reduceToNat, Int.reduceEq, Int.reduceAdd, Int.reduceSub, Int.reduceMul, ty_3, tk_3, ty_36, tk_36, ty_4, tk_4, a3, a4, a13, a14, a15, hl, encI_len, hk2, encI_at hc]
                refine callPu0 (c59 c) rfl rfl ?_
                simp only [wB, E0_tys, bsI, slI, sliceI, sliceS, optI, appendI, srcI, chunk, fillI, fzParts, fzL, fz1, planAt, loadI, storeI, takeI, TK.agg, TK.known, cellsI, fillRow, okCell, bltI, builtinI, lenI, indexAddrI, fieldAddrI, fieldI, indexI, nilChkI, An.isImm, pureC, pure0, impI, impL, impC, cutO, An.imps, List.replicate, decide_true, decide_false, cond_true, cond_false, if_true, if_false, ite_true, ite_false, ne_eq, forall_const, eq_self, reduceCtorEq, reduceIte, Nat.reduceLT, Nat.reduceLeDiff, Nat.reduceAdd, Nat.reduceSub, Nat.reduceMul, Nat.reduceEqDiff, Nat.reduceBEq, Int.reduceLE, Int.reduceLT, Int.reduceToNat, Int.reduceEq, Int.reduceAdd, Int.reduceSub, Int.reduceMul, ty_3, tk_3, ty_36, tk_36, ty_4, tk_4, a3, a4, a13, a14, a15, hl, encI_len, hk2, ho, hwm, hg, hg0, hlt, ha, hxe, hye]
                refine callPu0 (c59 x) rfl rfl ?_
                simp only [wB, E0_tys, bsI, slI, sliceI, sliceS, optI, appendI, srcI, chunk, fillI, fzParts, fzL, fz1, planAt, loadI, storeI, takeI, TK.agg, TK.known, cellsI, fillRow, okCell, bltI, builtinI, lenI, indexAddrI, fieldAddrI, fieldI, indexI, nilChkI, An.isImm, pureC, pure0, impI, impL, impC, cutO, An.imps, List.replicate, decide_true, decide_false, cond_true, cond_false, if_true, if_false, ite_true, ite_false, ne_eq, forall_const, eq_self, reduceCtorEq, reduceIte, Nat.reduceLT, Nat.reduceLeDiff, Nat.reduceAdd, Nat.reduceSub, Nat.reduceMul, Nat.reduceEqDiff, Nat.reduceBEq, Int.reduceLE, Int.reduceLT, Int.reduceToNat, Int.reduceEq, Int.reduceAdd, Int.reduceSub, Int.reduceMul, ty_3, tk_3, ty_36, tk_36, ty_4, tk_4, a3, a4, a13, a14, a15, hl, encI_len, hk2, ho, hwm, hg, hg0, hlt, ha, hxe, hye, l0, l1]
                refine callPu0 (c60 y c) rfl rfl ?_
                simp only [wB, E0_tys, bsI, slI, sliceI, sliceS, optI, appendI, srcI, chunk, fillI, fzParts, fzL, fz1, planAt, loadI, storeI, takeI, TK.agg, TK.known, cellsI, fillRow, okCell, bltI, builtinI, lenI, indexAddrI, fieldAddrI, fieldI, indexI, nilChkI, An.isImm, pureC, pure0, impI, impL, impC, cutO, An.imps, List.replicate, decide_true, decide_false, cond_true, cond_false, if_true, if_false, ite_true, ite_false, ne_eq, forall_const, eq_self, reduceCtorEq, reduceIte, Nat.reduceLT, Nat.reduceLeDiff, Nat.reduceAdd, Nat.reduceSub, Nat.reduceMul, Nat.reduceEqDiff, Nat.reduceBEq, Int.reduceLE, Int.reduceLT, Int.reduceToNat, Int.reduceEq, Int.reduceAdd, Int.reduceSub, Int.reduceMul, ty_3, tk_3, ty_36, tk_36, ty_4, tk_4, a3, a4, a13, a14, a15, hl, encI_len, hk2, hw, ho, hwm, hg, hg0, hlt, ha, hxe, hye, hset, ht]
                refine ⟨⟨k + 1, hk2, rfl, ?_, ?_⟩, by simp only [asI]; omega⟩
                · rw [hst, hS]; simp only [atI]; try rfl
                · rw [hst, hS]; first | exact hacc2 | exact hacc3 _
              | false =>
                by_cases k0 : classF c = 0
                · have hS : cmpS (row, some a) c = (row ++ [c], some row.length) := by unfold cmpS; dsimp only; rw [hK, hyd, ht]; simp [pushC, k0]
                  simp only [wB, E0_tys, bsI, slI, sliceI, sliceS, optI, appendI, srcI, chunk, fillI, fzParts, fzL, fz1, planAt, loadI, storeI, takeI, TK.agg, TK.known, cellsI, fillRow, okCell, bltI, builtinI, lenI, indexAddrI, fieldAddrI, fieldI, indexI, nilChkI, An.isImm, pureC, pure0, impI, impL, impC, cutO, An.imps, List.replicate, decide_true, decide_false, cond_true, cond_false, if_true, if_false, ite_true, ite_false, ne_eq, forall_const, eq_self, reduceCtorEq, reduceIte, Nat.reduceLT, Nat.reduceLeDiff, Nat.reduceAdd, Nat.reduceSub, Nat.reduceMul, Nat.reduceEqDiff, Nat.reduceBEq, Int.reduceLE, Int.reduceLT, Int.reduceToNat, Int.reduceEq, Int.reduceAdd, Int.reduceSub, Int.reduceMul, ty_3, tk_3, ty_36, tk_36, ty_4, tk_4, a3, a4, a13, a14, a15, hl, encI_len, hk2, encI_at hc]
                  refine callPu0 (c59 c) rfl rfl ?_
                  simp only [wB, E0_tys, bsI, slI, sliceI, sliceS, optI, appendI, srcI, chunk, fillI, fzParts, fzL, fz1, planAt, loadI, storeI, takeI, TK.agg, TK.known, cellsI, fillRow, okCell, bltI, builtinI, lenI, indexAddrI, fieldAddrI, fieldI, indexI, nilChkI, An.isImm, pureC, pure0, impI, impL, impC, cutO, An.imps, List.replicate, decide_true, decide_false, cond_true, cond_false, if_true, if_false, ite_true, ite_false, ne_eq, forall_const, eq_self, reduceCtorEq, reduceIte, Nat.reduceLT, Nat.reduceLeDiff, Nat.reduceAdd, Nat.reduceSub, Nat.reduceMul, Nat.reduceEqDiff, Nat.reduceBEq, Int.reduceLE, Int.reduceLT, Int.reduceToNat, Int.reduceEq, Int.reduceAdd, Int.reduceSub, Int.reduceMul, ty_3, tk_3, ty_36, tk_36, ty_4, tk_4, a3, a4, a13, a14, a15, hl, encI_len, hk2, ho, hwm, hg, hg0, hlt, ha, hxe, hye]
                  refine callPu0 (c59 x) rfl rfl ?_
                  simp only [wB, E0_tys, bsI, slI, sliceI, sliceS, optI, appendI, srcI, chunk, fillI, fzParts, fzL, fz1, planAt, loadI, storeI, takeI, TK.agg, TK.known, cellsI, fillRow, okCell, bltI, builtinI, lenI, indexAddrI, fieldAddrI, fieldI, indexI, nilChkI, An.isImm, pureC, pure0, impI, impL, impC, cutO, An.imps, List.replicate, decide_true, decide_false, cond_true, cond_false, if_true, if_false, ite_true, ite_false, ne_eq, forall_const, eq_self, reduceCtorEq, reduceIte, Nat.reduceLT, Nat.reduceLeDiff, Nat.reduceAdd, Nat.reduceSub, Nat.reduceMul, Nat.reduceEqDiff, Nat.reduceBEq, Int.reduceLE, Int.reduceLT, Int.reduceToNat, Int.reduceEq, Int.reduceAdd, Int.reduceSub, Int.reduceMul, ty_3, tk_3, ty_36, tk_36, ty_4, tk_4, a3, a4, a13, a14, a15, hl, encI_len, hk2, ho, hwm, hg, hg0, hlt, ha, hxe, hye, l0, l1]
                  refine callPu0 (c60 y c) rfl rfl ?_
                  simp only [wB, E0_tys, bsI, slI, sliceI, sliceS, optI, appendI, srcI, chunk, fillI, fzParts, fzL, fz1, planAt, loadI, storeI, takeI, TK.agg, TK.known, cellsI, fillRow, okCell, bltI, builtinI, lenI, indexAddrI, fieldAddrI, fieldI, indexI, nilChkI, An.isImm, pureC, pure0, impI, impL, impC, cutO, An.imps, List.replicate, decide_true, decide_false, cond_true, cond_false, if_true, if_false, ite_true, ite_false, ne_eq, forall_const, eq_self, reduceCtorEq, reduceIte, Nat.reduceLT, Nat.reduceLeDiff, Nat.reduceAdd, Nat.reduceSub, Nat.reduceMul, Nat.reduceEqDiff, Nat.reduceBEq, Int.reduceLE, Int.reduceLT, Int.reduceToNat, Int.reduceEq, Int.reduceAdd, Int.reduceSub, Int.reduceMul, ty_3, tk_3, ty_36, tk_36, ty_4, tk_4, a3, a4, a13, a14, a15, hl, encI_len, hk2, hw, e1, ho, hwm, hg, hg0, hlt, ha, hxe, hye, ho1, hwl, ht, k0]
                  refine ⟨⟨k + 1, hk2, rfl, ?_, ?_⟩, by simp only [asI]; omega⟩
                  · rw [hst, hS]; simp only [atI]; try rfl
                  · rw [hst, hS]; first | exact hacc2 | exact hacc3 _
                · have hS : cmpS (row, some a) c = (row ++ [c], some a) := by unfold cmpS; dsimp only; rw [hK, hyd, ht]; simp [pushC, k0]
                  simp only [wB, E0_tys, bsI, slI, sliceI, sliceS, optI, appendI, srcI, chunk, fillI, fzParts, fzL, fz1, planAt, loadI, storeI, takeI, TK.agg, TK.known, cellsI, fillRow, okCell, bltI, builtinI, lenI, indexAddrI, fieldAddrI, fieldI, indexI, nilChkI, An.isImm, pureC, pure0, impI, impL, impC, cutO, An.imps, List.replicate, decide_true, decide_false, cond_true, cond_false, if_true, if_false, ite_true, ite_false, ne_eq, forall_const, eq_self, reduceCtorEq, reduceIte, Nat.reduceLT, Nat.reduceLeDiff, Nat.reduceAdd, Nat.reduceSub, Nat.reduceMul, Nat.reduceEqDiff, Nat.reduceBEq, Int.reduceLE, Int.reduceLT, Int.reduceToNat, Int.reduceEq, Int.reduceAdd, Int.reduceSub, Int.reduceMul, ty_3, tk_3, ty_36, tk_36, ty_4, tk_4, a3, a4, a13, a14, a15, hl, encI_len, hk2, encI_at hc]
                  refine callPu0 (c59 c) rfl rfl ?_
                  simp only [wB, E0_tys, bsI, slI, sliceI, sliceS, optI, appendI, srcI, chunk, fillI, fzParts, fzL, fz1, planAt, loadI, storeI, takeI, TK.agg, TK.known, cellsI, fillRow, okCell, bltI, builtinI, lenI, indexAddrI, fieldAddrI, fieldI, indexI, nilChkI, An.isImm, pureC, pure0, impI, impL, impC, cutO, An.imps, List.replicate, decide_true, decide_false, cond_true, cond_false, if_true, if_false, ite_true, ite_false, ne_eq, forall_const, eq_self, reduceCtorEq, reduceIte, Nat.reduceLT, Nat.reduceLeDiff, Nat.reduceAdd, Nat.reduceSub, Nat.reduceMul, Nat.reduceEqDiff, Nat.reduceBEq, Int.reduceLE, Int.reduceLT, Int.reduceToNat, Int.reduceEq, Int.reduceAdd, Int.reduceSub, Int.reduceMul, ty_3, tk_3, ty_36, tk_36, ty_4, tk_4, a3, a4, a13, a14, a15, hl, encI_len, hk2, ho, hwm, hg, hg0, hlt, ha, hxe, hye]
                  refine callPu0 (c59 x) rfl rfl ?_
                  simp only [wB, E0_tys, bsI, slI, sliceI, sliceS, optI, appendI, srcI, chunk, fillI, fzParts, fzL, fz1, planAt, loadI, storeI, takeI, TK.agg, TK.known, cellsI, fillRow, okCell, bltI, builtinI, lenI, indexAddrI, fieldAddrI, fieldI, indexI, nilChkI, An.isImm, pureC, pure0, impI, impL, impC, cutO, An.imps, List.replicate, decide_true, decide_false, cond_true, cond_false, if_true, if_false, ite_true, ite_false, ne_eq, forall_const, eq_self, reduceCtorEq, reduceIte, Nat.reduceLT, Nat.reduceLeDiff, Nat.reduceAdd, Nat.reduceSub, Nat.reduceMul, Nat.reduceEqDiff, Nat.reduceBEq, Int.reduceLE, Int.reduceLT, Int.reduceToNat, Int.reduceEq, Int.reduceAdd, Int.reduceSub, Int.reduceMul, ty_3, tk_3, ty_36, tk_36, ty_4, tk_4, a3, a4, a13, a14, a15, hl, encI_len, hk2, ho, hwm, hg, hg0, hlt, ha, hxe, hye, l0, l1]
                  refine callPu0 (c60 y c) rfl rfl ?_
                  simp only [wB, E0_tys, bsI, slI, sliceI, sliceS, optI, appendI, srcI, chunk, fillI, fzParts, fzL, fz1, planAt, loadI, storeI, takeI, TK.agg, TK.known, cellsI, fillRow, okCell, bltI, builtinI, lenI, indexAddrI, fieldAddrI, fieldI, indexI, nilChkI, An.isImm, pureC, pure0, impI, impL, impC, cutO, An.imps, List.replicate, decide_true, decide_false, cond_true, cond_false, if_true, if_false, ite_true, ite_false, ne_eq, forall_const, eq_self, reduceCtorEq, reduceIte, Nat.reduceLT, Nat.reduceLeDiff, Nat.reduceAdd, Nat.reduceSub, Nat.reduceMul, Nat.reduceEqDiff, Nat.reduceBEq, Int.reduceLE, Int.reduceLT, Int.reduceToNat, Int.reduceEq, Int.reduceAdd, Int.reduceSub, Int.reduceMul, ty_3, tk_3, ty_36, tk_36, ty_4, tk_4, a3, a4, a13, a14, a15, hl, encI_len, hk2, hw, e1, ho, hwm, hg, hg0, hlt, ha, hxe, hye, ho1, hwl, ht, k0]
                  refine ⟨⟨k + 1, hk2, rfl, ?_, ?_⟩, by simp only [asI]; omega⟩
                  · rw [hst, hS]; simp only [atI]; try rfl
                  · rw [hst, hS]; first | exact hacc2 | exact hacc3 _
          · have hg : ¬ ((a : Int) < ((row.length - 1 : Nat) : Int)) := by omega
            have hK : keptC row a c = false := by simp [keptC, hb]
            cases ht : (twoF y c).2 with
            | true =>
              have hS : cmpS (row, some a) c = (row.set a (twoF y c).1, some a) := by unfold cmpS; dsimp only; rw [hK, hyd, ht]; simp
              simp only [wB, E0_tys, bsI, slI, sliceI, sliceS, optI, appendI, srcI, chunk, fillI, fzParts, fzL, fz1, planAt, loadI, storeI, takeI, TK.agg, TK.known, cellsI, fillRow, okCell, bltI, builtinI, lenI, indexAddrI, fieldAddrI, fieldI, indexI, nilChkI, An.isImm, pureC, pure0, impI, impL, impC, cutO, An.imps, List.replicate, decide_true, decide_false, cond_true, cond_false, if_true, if_false, ite_true, ite_false, ne_eq, forall_const, eq_self, reduceCtorEq, reduceIte, Nat.reduceLT, Nat.reduceLeDiff, Nat.reduceAdd, Nat.reduceSub, Nat.reduceMul, Nat.reduceEqDiff, Nat.reduceBEq, Int.reduceLE, Int.reduceLT, Int.reduceToNat, Int.reduceEq, Int.reduceAdd, Int.reduceSub, Int.reduceMul, ty_3, tk_3, ty_36, tk_36, ty_4, tk_4, a3, a4, a13, a14, a15, hl, encI_len, hk2, encI_at hc]
              refine callPu0 (c59 c) rfl rfl ?_
              simp only [wB, E0_tys, bsI, slI, sliceI, sliceS, optI, appendI, srcI, chunk, fillI, fzParts, fzL, fz1, planAt, loadI, storeI, takeI, TK.agg, TK.known, cellsI, fillRow, okCell, bltI, builtinI, lenI, indexAddrI, fieldAddrI, fieldI, indexI, nilChkI, An.isImm, pureC, pure0, impI, impL, impC, cutO, An.imps, List.replicate, decide_true, decide_false, cond_true, cond_false, if_true, if_false, ite_true, ite_false, ne_eq, forall_const, eq_self, reduceCtorEq, reduceIte, Nat.reduceLT, Nat.reduceLeDiff, Nat.reduceAdd, Nat.reduceSub, Nat.reduceMul, Nat.reduceEqDiff, Nat.reduceBEq, Int.reduceLE, Int.reduceLT, Int.reduceToNat, Int.reduceEq, Int.reduceAdd, Int.reduceSub, Int.reduceMul, ty_3, tk_3, ty_36, tk_36, ty_4, tk_4, a3, a4, a13, a14, a15, hl, encI_len, hk2, ho, hwm, hg, hg0, hlt, ha, hxe, hye]
              refine callPu0 (c60 y c) rfl rfl ?_
              simp only [wB, E0_tys, bsI, slI, sliceI, sliceS, optI, appendI, srcI, chunk, fillI, fzParts, fzL, fz1, planAt, loadI, storeI, takeI, TK.agg, TK.known, cellsI, fillRow, okCell, bltI, builtinI, lenI, indexAddrI, fieldAddrI, fieldI, indexI, nilChkI, An.isImm, pureC, pure0, impI, impL, impC, cutO, An.imps, List.replicate, decide_true, decide_false, cond_true, cond_false, if_true, if_false, ite_true, ite_false, ne_eq, forall_const, eq_self, reduceCtorEq, reduceIte, Nat.reduceLT, Nat.reduceLeDiff, Nat.reduceAdd, Nat.reduceSub, Nat.reduceMul, Nat.reduceEqDiff, Nat.reduceBEq, Int.reduceLE, Int.reduceLT, Int.reduceToNat, Int.reduceEq, Int.reduceAdd, Int.reduceSub, Int.reduceMul, ty_3, tk_3, ty_36, tk_36, ty_4, tk_4, a3, a4, a13, a14, a15, hl, encI_len, hk2, hw, ho, hwm, hg, hg0, hlt, ha, hxe, hye, hset, ht]
              refine ⟨⟨k + 1, hk2, rfl, ?_, ?_⟩, by simp only [asI]; omega⟩
              · rw [hst, hS]; simp only [atI]; try rfl
              · rw [hst, hS]; first | exact hacc2 | exact hacc3 _
            | false =>
              by_cases k0 : classF c = 0
              · have hS : cmpS (row, some a) c = (row ++ [c], some row.length) := by unfold cmpS; dsimp only; rw [hK, hyd, ht]; simp [pushC, k0]
                simp only [wB, E0_tys, bsI, slI, sliceI, sliceS, optI, appendI, srcI, chunk, fillI, fzParts, fzL, fz1, planAt, loadI, storeI, takeI, TK.agg, TK.known, cellsI, fillRow, okCell, bltI, builtinI, lenI, indexAddrI, fieldAddrI, fieldI, indexI, nilChkI, An.isImm, pureC, pure0, impI, impL, impC, cutO, An.imps, List.replicate, decide_true, decide_false, cond_true, cond_false, if_true, if_false, ite_true, ite_false, ne_eq, forall_const, eq_self, reduceCtorEq, reduceIte, Nat.reduceLT, Nat.reduceLeDiff, Nat.reduceAdd, Nat.reduceSub, Nat.reduceMul, Nat.reduceEqDiff, Nat.reduceBEq, Int.reduceLE, Int.reduceLT, Int.reduceToNat, Int.reduceEq, Int.reduceAdd, Int.reduceSub, Int.reduceMul, ty_3, tk_3, ty_36, tk_36, ty_4, tk_4, a3, a4, a13, a14, a15, hl, encI_len, hk2, encI_at hc]
                refine callPu0 (c59 c) rfl rfl ?_
                simp only [wB, E0_tys, bsI, slI, sliceI, sliceS, optI, appendI, srcI, chunk, fillI, fzParts, fzL, fz1, planAt, loadI, storeI, takeI, TK.agg, TK.known, cellsI, fillRow, okCell, bltI, builtinI, lenI, indexAddrI, fieldAddrI, fieldI, indexI, nilChkI, An.isImm, pureC, pure0, impI, impL, impC, cutO, An.imps, List.replicate, decide_true, decide_false, cond_true, cond_false, if_true, if_false, ite_true, ite_false, ne_eq, forall_const, eq_self, reduceCtorEq, reduceIte, Nat.reduceLT, Nat.reduceLeDiff, Nat.reduceAdd, Nat.reduceSub, Nat.reduceMul, Nat.reduceEqDiff, Nat.reduceBEq, Int.reduceLE, Int.reduceLT, Int.reduceToNat, Int.reduceEq, Int.reduceAdd, Int.reduceSub, Int.reduceMul, ty_3, tk_3, ty_36, tk_36, ty_4, tk_4, a3, a4, a13, a14, a15, hl, encI_len, hk2, ho, hwm, hg, hg0, hlt, ha, hxe, hye]
                refine callPu0 (c60 y c) rfl rfl ?_
                simp only [wB, E0_tys, bsI, slI, sliceI, sliceS, optI, appendI, srcI, chunk, fillI, fzParts, fzL, fz1, planAt, loadI, storeI, takeI, TK.agg, TK.known, cellsI, fillRow, okCell, bltI, builtinI, lenI, indexAddrI, fieldAddrI, fieldI, indexI, nilChkI, An.isImm, pureC, pure0, impI, impL, impC, cutO, An.imps, List.replicate, decide_true, decide_false, cond_true, cond_false, if_true, if_false, ite_true, ite_false, ne_eq, forall_const, eq_self, reduceCtorEq, reduceIte, Nat.reduceLT, Nat.reduceLeDiff, Nat.reduceAdd, Nat.reduceSub, Nat.reduceMul, Nat.reduceEqDiff, Nat.reduceBEq, Int.reduceLE, Int.reduceLT, Int.reduceToNat, Int.reduceEq, Int.reduceAdd, Int.reduceSub, Int.reduceMul, ty_3, tk_3, ty_36, tk_36, ty_4, tk_4, a3, a4, a13, a14, a15, hl, encI_len, hk2, hw, e1, ho, hwm, hg, hg0, hlt, ha, hxe, hye, ho1, hwl, ht, k0]
                refine ⟨⟨k + 1, hk2, rfl, ?_, ?_⟩, by simp only [asI]; omega⟩
                · rw [hst, hS]; simp only [atI]; try rfl
                · rw [hst, hS]; first | exact hacc2 | exact hacc3 _
              · have hS : cmpS (row, some a) c = (row ++ [c], some a) := by unfold cmpS; dsimp only; rw [hK, hyd, ht]; simp [pushC, k0]
                simp only [wB, E0_tys, bsI, slI, sliceI, sliceS, optI, appendI, srcI, chunk, fillI, fzParts, fzL, fz1, planAt, loadI, storeI, takeI, TK.agg, TK.known, cellsI, fillRow, okCell, bltI, builtinI, lenI, indexAddrI, fieldAddrI, fieldI, indexI, nilChkI, An.isImm, pureC, pure0, impI, impL, impC, cutO, An.imps, List.replicate, decide_true, decide_false, cond_true, cond_false, if_true, if_false, ite_true, ite_false, ne_eq, forall_const, eq_self, reduceCtorEq, reduceIte, Nat.reduceLT, Nat.reduceLeDiff, Nat.reduceAdd, Nat.reduceSub, Nat.reduceMul, Nat.reduceEqDiff, Nat.reduceBEq, Int.reduceLE, Int.reduceLT, Int.reduceToNat, Int.reduceEq, Int.reduceAdd, Int.reduceSub, Int.reduceMul, ty_3, tk_3, ty_36, tk_36, ty_4, tk_4, a3, a4, a13, a14, a15, hl, encI_len, hk2, encI_at hc]
                refine callPu0 (c59 c) rfl rfl ?_
                simp only [wB, E0_tys, bsI, slI, sliceI, sliceS, optI, appendI, srcI, chunk, fillI, fzParts, fzL, fz1, planAt, loadI, storeI, takeI, TK.agg, TK.known, cellsI, fillRow, okCell, bltI, builtinI, lenI, indexAddrI, fieldAddrI, fieldI, indexI, nilChkI, An.isImm, pureC, pure0, impI, impL, impC, cutO, An.imps, List.replicate, decide_true, decide_false, cond_true, cond_false, if_true, if_false, ite_true, ite_false, ne_eq, forall_const, eq_self, reduceCtorEq, reduceIte, Nat.reduceLT, Nat.reduceLeDiff, Nat.reduceAdd, Nat.reduceSub, Nat.reduceMul, Nat.reduceEqDiff, Nat.reduceBEq, Int.reduceLE, Int.reduceLT, Int.reduceToNat, Int.reduceEq, Int.reduceAdd, Int.reduceSub, Int.reduceMul, ty_3, tk_3, ty_36, tk_36, ty_4, tk_4, a3, a4, a13, a14, a15, hl, encI_len, hk2, ho, hwm, hg, hg0, hlt, ha, hxe, hye]
                refine callPu0 (c60 y c) rfl rfl ?_
                simp only [wB, E0_tys, bsI, slI, sliceI, sliceS, optI, appendI, srcI, chunk, fillI, fzParts, fzL, fz1, planAt, loadI, storeI, takeI, TK.agg, TK.known, cellsI, fillRow, okCell, bltI, builtinI, lenI, indexAddrI, fieldAddrI, fieldI, indexI, nilChkI, An.isImm, pureC, pure0, impI, impL, impC, cutO, An.imps, List.replicate, decide_true, decide_false, cond_true, cond_false, if_true, if_false, ite_true, ite_false, ne_eq, forall_const, eq_self, reduceCtorEq, reduceIte, Nat.reduceLT, Nat.reduceLeDiff, Nat.reduceAdd, Nat.reduceSub, Nat.reduceMul, Nat.reduceEqDiff, Nat.reduceBEq, Int.reduceLE, Int.reduceLT, Int.reduceToNat, Int.reduceEq, Int.reduceAdd, Int.reduceSub, Int.reduceMul, ty_3, tk_3, ty_36, tk_36, ty_4, tk_4, a3, a4, a13, a14, a15, hl, encI_len, hk2, hw, e1, ho, hwm, hg, hg0, hlt, ha, hxe, hye, ho1, hwl, ht, k0]
                refine ⟨⟨k + 1, hk2, rfl, ?_, ?_⟩, by simp only [asI]; omega⟩
                · rw [hst, hS]; simp only [atI]; try rfl
                · rw [hst, hS]; first | exact hacc2 | exact hacc3 _
    · have hk2 : k = s.length := by have := of_decide_eq_false hq; omega
      subst hk2
      rw [List.take_length] at hacc
      simp only [wB, E0_tys, bsI, slI, sliceI, sliceS, optI, appendI, srcI, chunk, fillI, fzParts, fzL, fz1, planAt, loadI, storeI, takeI, TK.agg, TK.known, cellsI, fillRow, okCell, bltI, builtinI, lenI, indexAddrI, fieldAddrI, fieldI, indexI, nilChkI, An.isImm, pureC, pure0, impI, impL, impC, cutO, An.imps, List.replicate, decide_true, decide_false, cond_true, cond_false, if_true, if_false, ite_true, ite_false, ne_eq, forall_const, eq_self, reduceCtorEq, reduceIte, Nat.reduceLT, Nat.reduceLeDiff, Nat.reduceAdd, Nat.reduceSub, Nat.reduceMul, Nat.reduceEqDiff, Nat.reduceBEq, Int.reduceLE, Int.reduceLT, Int.reduceToNat, Int.reduceEq, Int.reduceAdd, Int.reduceSub, Int.reduceMul, ty_3, tk_3, ty_36, tk_36, ty_4, tk_4, hl]
      exact hacc.out
end Go.Proofs
