import Derived.Test.YtapigbgcghekgaaM34
set_option linter.unusedVariables false
set_option linter.unusedSimpArgs false
set_option maxRecDepth 100000
set_option maxHeartbeats 8000000
set_option linter.unusedVariables false
set_option linter.unusedSimpArgs false
namespace Go.Proofs
open Go.Iv
abbrev RdnV := Option Bool × List PairV
def encN (l : List RdnV) : List (List IV) := l.map fun r => [.sl r.1 (encP r.2)]
def encKK (l : List (List KV)) : List (List IV) := l.map fun r => [.sl none (encK r)]
theorem encN_len (l : List RdnV) : (encN l).length = l.length := by simp [encN]
theorem encN_at {l : List RdnV} {k : Nat} {r : RdnV} (h : l[k]? = some r) : (encN l).getD k [] = [.sl r.1 (encP r.2)] := getD_enc h
theorem encKK_len (l : List (List KV)) : (encKK l).length = l.length := by simp [encKK]
theorem encKK_at {l : List (List KV)} {k : Nat} {r : List KV} (h : l[k]? = some r) : (encKK l).getD k [] = [.sl none (encK r)] := getD_enc h
theorem encKK_app (a b : List (List KV)) : encKK (a ++ b) = encKK a ++ encKK b := by simp [encKK]
/-- One after another, if each has a result. -/
noncomputable def allKF : List RdnV → Option (List (List KV))
  | [] => some []
  | r :: rs => match keysF r.2 with
    | none => none
    | some k => match allKF rs with
      | none => none
      | some l => some (k :: l)
theorem allKF_app_none {a : List RdnV} {p : RdnV} (h : keysF p.2 = none) (b : List RdnV) : allKF (a ++ p :: b) = none := by
  induction a with
  | nil => simp [allKF, h]
  | cons x a ih => simp only [List.cons_append, allKF, ih]; cases keysF x.2 <;> rfl
theorem allKF_snoc {a : List RdnV} {l : List (List KV)} (h : allKF a = some l) {p : RdnV} {k : List KV} (hk : keysF p.2 = some k) : allKF (a ++ [p]) = some (l ++ [k]) := by
  induction a generalizing l with
  | nil => simp only [allKF] at h; cases h; simp [allKF, hk]
  | cons x a ih =>
    simp only [allKF] at h
    simp only [List.cons_append, allKF]
    cases hx : keysF x.2 with
    | none => rw [hx] at h; cases h
    | some kx =>
      rw [hx] at h
      cases hl : allKF a with
      | none => rw [hl] at h; cases h
      | some la => rw [hl] at h; rw [ih hl]; cases h; rfl
theorem allKF_len {a : List RdnV} {l : List (List KV)} (h : allKF a = some l) : l.length = a.length := by
  induction a generalizing l with
  | nil => cases h; rfl
  | cons x a ih =>
    simp only [allKF] at h
    cases hx : keysF x.2 with
    | none => rw [hx] at h; cases h
    | some kx =>
      rw [hx] at h
      cases hl : allKF a with
      | none => rw [hl] at h; cases h
      | some la => rw [hl] at h; cases h; simp [ih hl]
theorem acc_appKK {r : Nat} {v : IV} {R : List Reg} {xs : List (List KV)} (h : Acc 68 1 r v R (encKK xs)) (l : List KV) (hb : xs.length + 1 ≤ 1000000) :
    ∃ v1 R1, appI tysL (.reg r) 64 64 v (.sl (some false) [[.sl none (encK l)]]) R = some (v1, R1) ∧ Acc 68 1 r v1 R1 (encKK (xs ++ [l])) ∧ ∃ o, R1 = newR R r o := by
  obtain ⟨v1, R1, e1, hacc1, o1, hR1⟩ := Acc.append (tys := tysL) (ts := 64) (tx := 64) (ei := ⟨.slice 80, 1, 24, [.sl (some true) []]⟩) (x := .sl (some false) [[.sl none (encK l)]]) (new := [[.sl none (encK l)]]) h tk_64 ty_68 ⟨_, tk_64⟩ rfl rfl (by decide) rfl (by decide) (by simp) (by rw [encKK_len]; exact room_24 (by simp; omega))
  exact ⟨v1, R1, e1, by rw [encKK_app]; exact hacc1, o1, hR1⟩
def allV : Option (List (List KV)) → IV
  | some l => .tu [.sl none (encKK l), .b true]
  | none => .tu [.sl (some true) [], .b false]
def okN (l : List RdnV) : Prop := l.length ≤ 1000 ∧ ∀ r ∈ l, okP r.2
theorem c27 (nl : Option Bool) (rs : List RdnV) (hok : okN rs) : PC Try.prog true 27 [.sl nl (encN rs)] (allV (allKF rs)) [] := by
  obtain ⟨hx1, hx2⟩ := hok
  refine pcK E0_ok mm (fn := Try.f27) (by kernel_rfl) (by kernel_rfl) (by kernel_rfl) [(4, 2, .reg 1), (8, 3, .reg 0)] (by kernel_rfl) [] (by rw [show Try.f27.ntmps = 1 + 27 by kernel_rfl]; exact Nat.le_add_right _ _) ?_
  intro T hl hx
  have a0 := hx 0 _ rfl
  clear hx
  simp only [bodyOf, Try.f27] at hl ⊢
  simp only [wB, E0_tys, buildI, placesI, okPart, bsI, slI, sliceI, sliceS, optI, appendI, srcI, chunk, fillI, fzParts, fzL, fz1, planAt, loadI, storeI, takeI, TK.agg, TK.known, cellsI, fillRow, okCell, bltI, builtinI, lenI, indexAddrI, fieldAddrI, fieldI, indexI, nilChkI, An.isImm, pureC, pure0, impI, impL, impC, cutO, An.imps, List.replicate, decide_true, decide_false, cond_true, cond_false, if_true, if_false, ite_true, ite_false, ne_eq, forall_const, eq_self, reduceCtorEq, reduceIte, Nat.reduceLT, Nat.reduceLeDiff, Nat.reduceAdd, Nat.reduceSub, Nat.reduceMul, Nat.reduceEqDiff, Nat.reduceBEq, Int.reduceLE, Int.reduceLT, Int.reduceToNat, Int.reduceEq, Int.reduceAdd, Int.reduceSub, Int.reduceMul, ty_3, tk_3, ty_4, tk_4, ty_22, tk_22, ty_33, tk_33, ty_31, tk_31, ty_76, tk_76, ty_68, tk_68, ty_80, tk_80, ty_64, tk_64, a0, hl, encN_len]
  refine W_loop _ _ _ _ _ _ _ (fun T R => ∃ k : Nat, k ≤ rs.length ∧ T.length = 28 ∧ getT T 9 = .sl nl (encN rs) ∧ getT T 10 = .i .i64 (rs.length : Int) ∧ getT T 11 = .i .i64 (k : Int) ∧ ∃ ks, allKF (rs.take k) = some ks ∧ Acc 68 1 0 (getT T 4) R (encKK ks))
    (fun T _ => rs.length - (asI (getT T 11)).toNat) ⟨0, by omega, ?_⟩ ?_
  · simp only [wB, E0_tys, buildI, placesI, okPart, bsI, slI, sliceI, sliceS, optI, appendI, srcI, chunk, fillI, fzParts, fzL, fz1, planAt, loadI, storeI, takeI, TK.agg, TK.known, cellsI, fillRow, okCell, bltI, builtinI, lenI, indexAddrI, fieldAddrI, fieldI, indexI, nilChkI, An.isImm, pureC, pure0, impI, impL, impC, cutO, An.imps, List.replicate, decide_true, decide_false, cond_true, cond_false, if_true, if_false, ite_true, ite_false, ne_eq, forall_const, eq_self, reduceCtorEq, reduceIte, Nat.reduceLT, Nat.reduceLeDiff, Nat.reduceAdd, Nat.reduceSub, Nat.reduceMul, Nat.reduceEqDiff, Nat.reduceBEq, Int.reduceLE, Int.reduceLT, Int.reduceToNat, Int.reduceEq, Int.reduceAdd, Int.reduceSub, Int.reduceMul, ty_3, tk_3, ty_4, tk_4, ty_22, tk_22, ty_33, tk_33, ty_31, tk_31, ty_76, tk_76, ty_68, tk_68, ty_80, tk_80, ty_64, tk_64, a0, hl, encN_len]
    exact ⟨[], rfl, Acc.nil _ _ _ _⟩
  · clear hl a0
    rintro T R ⟨k, hk, hl, a9, a10, a11, ks, hks, hacc⟩
    simp only [wB, E0_tys, buildI, placesI, okPart, bsI, slI, sliceI, sliceS, optI, appendI, srcI, chunk, fillI, fzParts, fzL, fz1, planAt, loadI, storeI, takeI, TK.agg, TK.known, cellsI, fillRow, okCell, bltI, builtinI, lenI, indexAddrI, fieldAddrI, fieldI, indexI, nilChkI, An.isImm, pureC, pure0, impI, impL, impC, cutO, An.imps, List.replicate, decide_true, decide_false, cond_true, cond_false, if_true, if_false, ite_true, ite_false, ne_eq, forall_const, eq_self, reduceCtorEq, reduceIte, Nat.reduceLT, Nat.reduceLeDiff, Nat.reduceAdd, Nat.reduceSub, Nat.reduceMul, Nat.reduceEqDiff, Nat.reduceBEq, Int.reduceLE, Int.reduceLT, Int.reduceToNat, Int.reduceEq, Int.reduceAdd, Int.reduceSub, Int.reduceMul, ty_3, tk_3, ty_4, tk_4, ty_22, tk_22, ty_33, tk_33, ty_31, tk_31, ty_76, tk_76, ty_68, tk_68, ty_80, tk_80, ty_64, tk_64, a9, a10, a11, hl]
    refine condW_b _ _ _ _ (fun hq => ?_) (fun hq => ?_)
    · have hk2 : k < rs.length := by have := of_decide_eq_true hq; omega
      obtain ⟨p, hp⟩ := at_lt hk2
      have k37 := c37 p.1 p.2 (hx2 p (List.mem_of_getElem? hp))
      have hw : IntKind.i64.wrap ((k : Int) + 1) = ((k + 1 : Nat) : Int) := by rw [wrap64] <;> omega
      have htk := take_succ' hp
      have hkl := allKF_len hks
      rw [List.length_take] at hkl
      have hdec : rs = rs.take k ++ p :: rs.drop (k + 1) := by rw [← drop_at hp, List.take_append_drop]
      have hacc' : Acc 68 1 0 (getT T 4) (setR (newR R 1 ⟨true, 33, 1, [[.sl (some true) []]]⟩) 1 ⟨verR R 1, some ⟨true, 33, 1, [[.sl p.1 (encP p.2)]]⟩⟩) (encKK ks) := acc_set_ne (hacc.ne _ (by decide)) _ (by decide)
      clear hq
      cases hkp : keysF p.2 with
      | none =>
        rw [hkp] at k37
        have hN : allKF rs = none := by rw [hdec]; exact allKF_app_none hkp _
        rw [hN]
        simp only [wB, E0_tys, buildI, placesI, okPart, bsI, slI, sliceI, sliceS, optI, appendI, srcI, chunk, fillI, fzParts, fzL, fz1, planAt, loadI, storeI, takeI, TK.agg, TK.known, cellsI, fillRow, okCell, bltI, builtinI, lenI, indexAddrI, fieldAddrI, fieldI, indexI, nilChkI, An.isImm, pureC, pure0, impI, impL, impC, cutO, An.imps, List.replicate, decide_true, decide_false, cond_true, cond_false, if_true, if_false, ite_true, ite_false, ne_eq, forall_const, eq_self, reduceCtorEq, reduceIte, Nat.reduceLT, Nat.reduceLeDiff, Nat.reduceAdd, Nat.reduceSub, Nat.reduceMul, Nat.reduceEqDiff, Nat.reduceBEq, Int.reduceLE, Int.reduceLT, Int.reduceToNat, Int.reduceEq, Int.reduceAdd, Int.reduceSub, Int.reduceMul, ty_3, tk_3, ty_4, tk_4, ty_22, tk_22, ty_33, tk_33, ty_31, tk_31, ty_76, tk_76, ty_68, tk_68, ty_80, tk_80, ty_64, tk_64, a9, a10, a11, hl, encN_len, hk2, encN_at hp]
        refine callPu0 k37 rfl rfl ?_
        simp only [wB, E0_tys, buildI, placesI, okPart, bsI, slI, sliceI, sliceS, optI, appendI, srcI, chunk, fillI, fzParts, fzL, fz1, planAt, loadI, storeI, takeI, TK.agg, TK.known, cellsI, fillRow, okCell, bltI, builtinI, lenI, indexAddrI, fieldAddrI, fieldI, indexI, nilChkI, An.isImm, pureC, pure0, impI, impL, impC, cutO, An.imps, List.replicate, decide_true, decide_false, cond_true, cond_false, if_true, if_false, ite_true, ite_false, ne_eq, forall_const, eq_self, reduceCtorEq, reduceIte, Nat.reduceLT, Nat.reduceLeDiff, Nat.reduceAdd, Nat.reduceSub, Nat.reduceMul, Nat.reduceEqDiff, Nat.reduceBEq, Int.reduceLE, Int.reduceLT, Int.reduceToNat, Int.reduceEq, Int.reduceAdd, Int.reduceSub, Int.reduceMul, ty_3, tk_3, ty_4, tk_4, ty_22, tk_22, ty_33, tk_33, ty_31, tk_31, ty_76, tk_76, ty_68, tk_68, ty_80, tk_80, ty_64, tk_64, a9, a10, a11, hl, keysV]
        exact ⟨_, rfl, Wk.rfl' _⟩
      | some l =>
        rw [hkp] at k37
        obtain ⟨v1, R1, e1, hacc1, _⟩ := acc_appKK hacc' l (by omega)
        have hks2 := allKF_snoc hks hkp
        rw [← htk] at hks2
        simp only [wB, E0_tys, buildI, placesI, okPart, bsI, slI, sliceI, sliceS, optI, appendI, srcI, chunk, fillI, fzParts, fzL, fz1, planAt, loadI, storeI, takeI, TK.agg, TK.known, cellsI, fillRow, okCell, bltI, builtinI, lenI, indexAddrI, fieldAddrI, fieldI, indexI, nilChkI, An.isImm, pureC, pure0, impI, impL, impC, cutO, An.imps, List.replicate, decide_true, decide_false, cond_true, cond_false, if_true, if_false, ite_true, ite_false, ne_eq, forall_const, eq_self, reduceCtorEq, reduceIte, Nat.reduceLT, Nat.reduceLeDiff, Nat.reduceAdd, Nat.reduceSub, Nat.reduceMul, Nat.reduceEqDiff, Nat.reduceBEq, Int.reduceLE, Int.reduceLT, Int.reduceToNat, Int.reduceEq, Int.reduceAdd, Int.reduceSub, Int.reduceMul, ty_3, tk_3, ty_4, tk_4, ty_22, tk_22, ty_33, tk_33, ty_31, tk_31, ty_76, tk_76, ty_68, tk_68, ty_80, tk_80, ty_64, tk_64, a9, a10, a11, hl, encN_len, hk2, encN_at hp]
        refine callPu0 k37 rfl rfl ?_
        simp only [wB, E0_tys, buildI, placesI, okPart, bsI, slI, sliceI, sliceS, optI, appendI, srcI, chunk, fillI, fzParts, fzL, fz1, planAt, loadI, storeI, takeI, TK.agg, TK.known, cellsI, fillRow, okCell, bltI, builtinI, lenI, indexAddrI, fieldAddrI, fieldI, indexI, nilChkI, An.isImm, pureC, pure0, impI, impL, impC, cutO, An.imps, List.replicate, decide_true, decide_false, cond_true, cond_false, if_true, if_false, ite_true, ite_false, ne_eq, forall_const, eq_self, reduceCtorEq, reduceIte, Nat.reduceLT, Nat.reduceLeDiff, Nat.reduceAdd, Nat.reduceSub, Nat.reduceMul, Nat.reduceEqDiff, Nat.reduceBEq, Int.reduceLE, Int.reduceLT, Int.reduceToNat, Int.reduceEq, Int.reduceAdd, Int.reduceSub, Int.reduceMul, ty_3, tk_3, ty_4, tk_4, ty_22, tk_22, ty_33, tk_33, ty_31, tk_31, ty_76, tk_76, ty_68, tk_68, ty_80, tk_80, ty_64, tk_64, a9, a10, a11, hl, hw, keysV, e1, Bool.or_true, Bool.or_self]
        exact ⟨⟨k + 1, hk2, rfl, _, hks2, hacc1⟩, by simp only [asI]; omega⟩
    · have hk2 : k = rs.length := by have := of_decide_eq_false hq; omega
      subst hk2
      rw [List.take_length] at hks
      simp only [wB, E0_tys, buildI, placesI, okPart, bsI, slI, sliceI, sliceS, optI, appendI, srcI, chunk, fillI, fzParts, fzL, fz1, planAt, loadI, storeI, takeI, TK.agg, TK.known, cellsI, fillRow, okCell, bltI, builtinI, lenI, indexAddrI, fieldAddrI, fieldI, indexI, nilChkI, An.isImm, pureC, pure0, impI, impL, impC, cutO, An.imps, List.replicate, decide_true, decide_false, cond_true, cond_false, if_true, if_false, ite_true, ite_false, ne_eq, forall_const, eq_self, reduceCtorEq, reduceIte, Nat.reduceLT, Nat.reduceLeDiff, Nat.reduceAdd, Nat.reduceSub, Nat.reduceMul, Nat.reduceEqDiff, Nat.reduceBEq, Int.reduceLE, Int.reduceLT, Int.reduceToNat, Int.reduceEq, Int.reduceAdd, Int.reduceSub, Int.reduceMul, ty_3, tk_3, ty_4, tk_4, ty_22, tk_22, ty_33, tk_33, ty_31, tk_31, ty_76, tk_76, ty_68, tk_68, ty_80, tk_80, ty_64, tk_64, hl]
      rw [hks]
      exact acc_outT hacc true
end Go.Proofs
set_option maxRecDepth 100000
set_option maxHeartbeats 8000000
set_option linter.unusedVariables false
set_option linter.unusedSimpArgs false
namespace Go.Proofs
open Go.Iv
theorem bin_neb (x y : Bool) : binI tysL .neq 4 (.b x) (.b y) = some (.b (x != y)) := by simp only [binI, tk_4, bne]
theorem bin_eqb (x y : Bool) : binI tysL .eql 4 (.b x) (.b y) = some (.b (x == y)) := by simp only [binI, tk_4]
theorem bnn : (true != true) = false ∧ (true != false) = true ∧ (false != true) = true ∧ (false != false) = false ∧ (true == true) = true ∧ (true == false) = false ∧ (false == true) = false ∧ (false == false) = true := by decide
def sameF (x y : KV) : Bool := decide (x.p.oid = y.p.oid) && (decide (x.p.kind = 0) == decide (y.p.kind = 0)) && if x.p.kind = 0 then bytesEqF x.p.raw y.p.raw else decide (x.k = y.k)
def okK (x : KV) : Prop := x.p.oid.length ≤ 10000 ∧ x.k.length ≤ 400000
theorem c41 (x y : KV) (hx : okK x) : PC Try.prog true 41 [.ag (kvC x), .ag (kvC y)] (.b (sameF x y)) [] := by
  obtain ⟨⟨no, oid, kind, nt, text, nr, raw⟩, k⟩ := x
  obtain ⟨⟨no', oid', kind', nt', text', nr', raw'⟩, k'⟩ := y
  obtain ⟨hx1, hx2⟩ := hx
  unfold sameF
  dsimp only at hx1 hx2 ⊢
  have k25 := c25 no no' oid oid' (by omega)
  have k25k := fun a b => c25 a b k k' (by omega)
  have k58 := c58 nr nr' raw raw'
  by_cases h1 : oid = oid'
  · by_cases h2 : kind = 0
    · by_cases h3 : kind' = 0
      all_goals
        refine pcW E0_ok mm (fn := Try.f41) (by kernel_rfl) (by kernel_rfl) (by kernel_rfl) [] (by kernel_rfl) [] (by rw [show Try.f41.ntmps = 2 + 38 by kernel_rfl]; exact Nat.le_add_right _ _) ?_
        intro T hl hx
        have a0 := hx 0 _ rfl
        have a1 := hx 1 _ rfl
        clear hx
        simp only [bodyOf, Try.f41] at hl ⊢
        simp only [wB, E0_tys, appI, buildI, placesI, okPart, bsI, slI, sliceI, sliceS, optI, appendI, srcI, chunk, fillI, fzParts, fzL, fz1, planAt, loadI, storeI, takeI, TK.agg, TK.known, cellsI, fillRow, okCell, bltI, builtinI, lenI, indexAddrI, fieldAddrI, fieldI, indexI, nilChkI, An.isImm, pureC, pure0, impI, impL, impC, cutO, An.imps, List.replicate, decide_true, decide_false, cond_true, cond_false, if_true, if_false, ite_true, ite_false, ne_eq, forall_const, eq_self, reduceCtorEq, reduceIte, Nat.reduceLT, Nat.reduceLeDiff, Nat.reduceAdd, Nat.reduceSub, Nat.reduceMul, Nat.reduceEqDiff, Nat.reduceBEq, Int.reduceLE, Int.reduceLT, Int.reduceToNat, Int.reduceEq, Int.reduceAdd, Int.reduceSub, Int.reduceMul, ty_3, tk_3, ty_4, tk_4, ty_5, tk_5, ty_6, tk_6, ty_36, tk_36, ty_39, tk_39, ty_37, tk_37, ty_80, tk_80, a0, a1, hl, kvC, prC, List.cons_append, List.nil_append, h2, h3]
        refine callPu0 k25 rfl rfl ?_
        simp only [wB, E0_tys, appI, buildI, placesI, okPart, bsI, slI, sliceI, sliceS, optI, appendI, srcI, chunk, fillI, fzParts, fzL, fz1, planAt, loadI, storeI, takeI, TK.agg, TK.known, cellsI, fillRow, okCell, bltI, builtinI, lenI, indexAddrI, fieldAddrI, fieldI, indexI, nilChkI, An.isImm, pureC, pure0, impI, impL, impC, cutO, An.imps, List.replicate, decide_true, decide_false, cond_true, cond_false, if_true, if_false, ite_true, ite_false, ne_eq, forall_const, eq_self, reduceCtorEq, reduceIte, Nat.reduceLT, Nat.reduceLeDiff, Nat.reduceAdd, Nat.reduceSub, Nat.reduceMul, Nat.reduceEqDiff, Nat.reduceBEq, Int.reduceLE, Int.reduceLT, Int.reduceToNat, Int.reduceEq, Int.reduceAdd, Int.reduceSub, Int.reduceMul, ty_3, tk_3, ty_4, tk_4, ty_5, tk_5, ty_6, tk_6, ty_36, tk_36, ty_39, tk_39, ty_37, tk_37, ty_80, tk_80, h1, hl, h2, h3, bin_neb, bnn]
        first
          | (simp [h1, h2, h3]; done)
          | done
          | refine callPu0 k58 rfl rfl ?_
          | refine callPu0 (k25k _ _) rfl rfl ?_
        all_goals simp only [wB, E0_tys, appI, buildI, placesI, okPart, bsI, slI, sliceI, sliceS, optI, appendI, srcI, chunk, fillI, fzParts, fzL, fz1, planAt, loadI, storeI, takeI, TK.agg, TK.known, cellsI, fillRow, okCell, bltI, builtinI, lenI, indexAddrI, fieldAddrI, fieldI, indexI, nilChkI, An.isImm, pureC, pure0, impI, impL, impC, cutO, An.imps, List.replicate, decide_true, decide_false, cond_true, cond_false, if_true, if_false, ite_true, ite_false, ne_eq, forall_const, eq_self, reduceCtorEq, reduceIte, Nat.reduceLT, Nat.reduceLeDiff, Nat.reduceAdd, Nat.reduceSub, Nat.reduceMul, Nat.reduceEqDiff, Nat.reduceBEq, Int.reduceLE, Int.reduceLT, Int.reduceToNat, Int.reduceEq, Int.reduceAdd, Int.reduceSub, Int.reduceMul, ty_3, tk_3, ty_4, tk_4, ty_5, tk_5, ty_6, tk_6, ty_36, tk_36, ty_39, tk_39, ty_37, tk_37, ty_80, tk_80, hl, bin_neb, bnn, Bool.true_and]
        all_goals simp [h1, h2, h3]
    · by_cases h3 : kind' = 0
      all_goals
        refine pcW E0_ok mm (fn := Try.f41) (by kernel_rfl) (by kernel_rfl) (by kernel_rfl) [] (by kernel_rfl) [] (by rw [show Try.f41.ntmps = 2 + 38 by kernel_rfl]; exact Nat.le_add_right _ _) ?_
        intro T hl hx
        have a0 := hx 0 _ rfl
        have a1 := hx 1 _ rfl
        clear hx
        simp only [bodyOf, Try.f41] at hl ⊢
        simp only [wB, E0_tys, appI, buildI, placesI, okPart, bsI, slI, sliceI, sliceS, optI, appendI, srcI, chunk, fillI, fzParts, fzL, fz1, planAt, loadI, storeI, takeI, TK.agg, TK.known, cellsI, fillRow, okCell, bltI, builtinI, lenI, indexAddrI, fieldAddrI, fieldI, indexI, nilChkI, An.isImm, pureC, pure0, impI, impL, impC, cutO, An.imps, List.replicate, decide_true, decide_false, cond_true, cond_false, if_true, if_false, ite_true, ite_false, ne_eq, forall_const, eq_self, reduceCtorEq, reduceIte, Nat.reduceLT, Nat.reduceLeDiff, Nat.reduceAdd, Nat.reduceSub, Nat.reduceMul, Nat.reduceEqDiff, Nat.reduceBEq, Int.reduceLE, Int.reduceLT, Int.reduceToNat, Int.reduceEq, Int.reduceAdd, Int.reduceSub, Int.reduceMul, ty_3, tk_3, ty_4, tk_4, ty_5, tk_5, ty_6, tk_6, ty_36, tk_36, ty_39, tk_39, ty_37, tk_37, ty_80, tk_80, a0, a1, hl, kvC, prC, List.cons_append, List.nil_append, h2, h3]
        refine callPu0 k25 rfl rfl ?_
        simp only [wB, E0_tys, appI, buildI, placesI, okPart, bsI, slI, sliceI, sliceS, optI, appendI, srcI, chunk, fillI, fzParts, fzL, fz1, planAt, loadI, storeI, takeI, TK.agg, TK.known, cellsI, fillRow, okCell, bltI, builtinI, lenI, indexAddrI, fieldAddrI, fieldI, indexI, nilChkI, An.isImm, pureC, pure0, impI, impL, impC, cutO, An.imps, List.replicate, decide_true, decide_false, cond_true, cond_false, if_true, if_false, ite_true, ite_false, ne_eq, forall_const, eq_self, reduceCtorEq, reduceIte, Nat.reduceLT, Nat.reduceLeDiff, Nat.reduceAdd, Nat.reduceSub, Nat.reduceMul, Nat.reduceEqDiff, Nat.reduceBEq, Int.reduceLE, Int.reduceLT, Int.reduceToNat, Int.reduceEq, Int.reduceAdd, Int.reduceSub, Int.reduceMul, ty_3, tk_3, ty_4, tk_4, ty_5, tk_5, ty_6, tk_6, ty_36, tk_36, ty_39, tk_39, ty_37, tk_37, ty_80, tk_80, h1, hl, h2, h3, bin_neb, bnn]
        first
          | (simp [h1, h2, h3]; done)
          | done
          | refine callPu0 k58 rfl rfl ?_
          | refine callPu0 (k25k _ _) rfl rfl ?_
        all_goals simp only [wB, E0_tys, appI, buildI, placesI, okPart, bsI, slI, sliceI, sliceS, optI, appendI, srcI, chunk, fillI, fzParts, fzL, fz1, planAt, loadI, storeI, takeI, TK.agg, TK.known, cellsI, fillRow, okCell, bltI, builtinI, lenI, indexAddrI, fieldAddrI, fieldI, indexI, nilChkI, An.isImm, pureC, pure0, impI, impL, impC, cutO, An.imps, List.replicate, decide_true, decide_false, cond_true, cond_false, if_true, if_false, ite_true, ite_false, ne_eq, forall_const, eq_self, reduceCtorEq, reduceIte, Nat.reduceLT, Nat.reduceLeDiff, Nat.reduceAdd, Nat.reduceSub, Nat.reduceMul, Nat.reduceEqDiff, Nat.reduceBEq, Int.reduceLE, Int.reduceLT, Int.reduceToNat, Int.reduceEq, Int.reduceAdd, Int.reduceSub, Int.reduceMul, ty_3, tk_3, ty_4, tk_4, ty_5, tk_5, ty_6, tk_6, ty_36, tk_36, ty_39, tk_39, ty_37, tk_37, ty_80, tk_80, hl, bin_neb, bnn, Bool.true_and]
        all_goals simp [h1, h2, h3]
  · skip
    refine pcW E0_ok mm (fn := Try.f41) (by kernel_rfl) (by kernel_rfl) (by kernel_rfl) [] (by kernel_rfl) [] (by rw [show Try.f41.ntmps = 2 + 38 by kernel_rfl]; exact Nat.le_add_right _ _) ?_
    intro T hl hx
    have a0 := hx 0 _ rfl
    have a1 := hx 1 _ rfl
    clear hx
    simp only [bodyOf, Try.f41] at hl ⊢
    simp only [wB, E0_tys, appI, buildI, placesI, okPart, bsI, slI, sliceI, sliceS, optI, appendI, srcI, chunk, fillI, fzParts, fzL, fz1, planAt, loadI, storeI, takeI, TK.agg, TK.known, cellsI, fillRow, okCell, bltI, builtinI, lenI, indexAddrI, fieldAddrI, fieldI, indexI, nilChkI, An.isImm, pureC, pure0, impI, impL, impC, cutO, An.imps, List.replicate, decide_true, decide_false, cond_true, cond_false, if_true, if_false, ite_true, ite_false, ne_eq, forall_const, eq_self, reduceCtorEq, reduceIte, Nat.reduceLT, Nat.reduceLeDiff, Nat.reduceAdd, Nat.reduceSub, Nat.reduceMul, Nat.reduceEqDiff, Nat.reduceBEq, Int.reduceLE, Int.reduceLT, Int.reduceToNat, Int.reduceEq, Int.reduceAdd, Int.reduceSub, Int.reduceMul, ty_3, tk_3, ty_4, tk_4, ty_5, tk_5, ty_6, tk_6, ty_36, tk_36, ty_39, tk_39, ty_37, tk_37, ty_80, tk_80, a0, a1, hl, kvC, prC, List.cons_append, List.nil_append]
    refine callPu0 k25 rfl rfl ?_
    simp only [wB, E0_tys, appI, buildI, placesI, okPart, bsI, slI, sliceI, sliceS, optI, appendI, srcI, chunk, fillI, fzParts, fzL, fz1, planAt, loadI, storeI, takeI, TK.agg, TK.known, cellsI, fillRow, okCell, bltI, builtinI, lenI, indexAddrI, fieldAddrI, fieldI, indexI, nilChkI, An.isImm, pureC, pure0, impI, impL, impC, cutO, An.imps, List.replicate, decide_true, decide_false, cond_true, cond_false, if_true, if_false, ite_true, ite_false, ne_eq, forall_const, eq_self, reduceCtorEq, reduceIte, Nat.reduceLT, Nat.reduceLeDiff, Nat.reduceAdd, Nat.reduceSub, Nat.reduceMul, Nat.reduceEqDiff, Nat.reduceBEq, Int.reduceLE, Int.reduceLT, Int.reduceToNat, Int.reduceEq, Int.reduceAdd, Int.reduceSub, Int.reduceMul, ty_3, tk_3, ty_4, tk_4, ty_5, tk_5, ty_6, tk_6, ty_36, tk_36, ty_39, tk_39, ty_37, tk_37, ty_80, tk_80, h1, hl]
    simp
end Go.Proofs
set_option maxRecDepth 100000
set_option maxHeartbeats 8000000
set_option linter.unusedVariables false
set_option linter.unusedSimpArgs false
namespace Go.Proofs
open Go.Iv
theorem PC.noal {f : FuncId} {xs : List IV} {y : IV} (h : PC Try.prog true f xs y []) (hy : ∀ s s' R v, Rel s R y v → Rel s' R y v) : PC Try.prog false f xs y [] := by
  refine ⟨h.cal, fun w F β vs hF hx => Calls.mono (h.run w F β vs hF hx) ?_⟩
  rintro e w1 ⟨v, sc, h1, h2, h3, h4⟩
  refine ⟨v, ⟨sc.w, fun _ => False, sc.β⟩, h1, h2, ⟨h3.below, fun b hb => hb.elim, fun b hb => hb.elim, ?_, ?_, h3.ver, ?_⟩, hy _ _ _ _ h4⟩
  · intro r ver o hr; simp [getR] at hr
  · intro r r' ver o ver' o' b k k' hr; simp [getR] at hr
  · intro b o hb; cases hb
theorem rel_i {k : IntKind} {n : Int} : ∀ s s' R v, Rel s R (.i k n) v → Rel s' R (.i k n) v := by
  intro s s' R v h; cases h; exact .i _ _ _
theorem callRd0 {f : FuncId} {xs ys : List IV} {y : IV} {R : List Reg} {K : IV → List Reg → Prop} {t : Tok K} (ha : argsI R xs = some (false, ys)) (h : PC Try.prog false f ys y []) (hy : pureY y = true) (hK : K y R) : callW E0 .imm f xs R K t := by
  unfold callW
  exact callP_iff.2 ⟨(false, ys), ha, y, [], h, (y, R), impI_pure hy, hK⟩
/-! ### Clone -/
theorem bin_nil68 (b : Bool) (rows : List (List IV)) : binI tysL .eql 68 (.sl (some b) rows) (.sl (some true) []) = some (.b b) := by
  simp only [binI, tk_68, nilI]
theorem bin_nil68c (r : List IV) (rows : List (List IV)) : binI tysL .eql 68 (.sl none (r :: rows)) (.sl (some true) []) = some (.b false) := by
  simp only [binI, tk_68]; rfl
theorem encK_ok (l : List KV) : okRows 5 (encK l) = true := by
  unfold okRows
  rw [List.all_eq_true]
  intro r hr
  obtain ⟨x, _, rfl⟩ := List.mem_map.1 hr
  rfl
theorem c38z : PC Try.prog true 38 [.sl none []] (.sl none []) [] := by
  refine PC.split (pre := []) (post := []) (fun b _ => PC.weaken (y := .sl (if b then some true else none) []) ?_ (sl_none_of _ _))
  have hr : ∀ k s z, room ⟨k, s, 104, z⟩ 0 = true := fun k s z => room_104 (by omega)
  cases b
  all_goals
    refine pcW E0_ok mm (fn := Try.f38) (by kernel_rfl) (by kernel_rfl) (by kernel_rfl) [(3, 0, .reg 0), (3, 2, .reg 0)] (by kernel_rfl) [] (by rw [show Try.f38.ntmps = 1 + 7 by kernel_rfl]; exact Nat.le_add_right _ _) ?_
    intro T hl hx
    have a0 := hx 0 _ rfl
    clear hx
    simp only [bodyOf, Try.f38] at hl ⊢
    simp only [wB, E0_tys, appI, buildI, placesI, okPart, bsI, slI, sliceI, sliceS, optI, appendI, srcI, chunk, fillI, fzParts, fzL, fz1, planAt, loadI, storeI, takeI, TK.agg, TK.known, cellsI, fillRow, okCell, bltI, builtinI, lenI, indexAddrI, fieldAddrI, fieldI, indexI, nilChkI, An.isImm, pureC, pure0, impI, impL, impC, cutO, An.imps, List.replicate, decide_true, decide_false, cond_true, cond_false, if_true, if_false, ite_true, ite_false, ne_eq, forall_const, eq_self, reduceCtorEq, reduceIte, Nat.reduceLT, Nat.reduceLeDiff, Nat.reduceAdd, Nat.reduceSub, Nat.reduceMul, Nat.reduceEqDiff, Nat.reduceBEq, Int.reduceLE, Int.reduceLT, Int.reduceToNat, Int.reduceEq, Int.reduceAdd, Int.reduceSub, Int.reduceMul, ty_68, tk_68, ty_80, tk_80, a0, hl, bin_nil68, hr]
    try rfl
theorem c38 (x : KV) (xs : List KV) (hx : xs.length ≤ 100000) : PC Try.prog true 38 [.sl none (encK (x :: xs))] (.rf 0 1 0 (xs.length + 1)) [⟨1, some ⟨false, 80, 5, encK (x :: xs)⟩⟩] := by
  have hr : ∀ k s z, room ⟨k, s, 104, z⟩ (xs.length + 1) = true := fun k s z => room_104 (by omega)
  have hx4 : xs.length + 1 ≤ 4611686018427387904 := by omega
  have hb : binI tysL .eql 68 (.sl none (encK (x :: xs))) (.sl (some true) []) = some (.b false) := bin_nil68c _ _
  have hk := encK_ok (x :: xs)
  have hle : (encK (x :: xs)).length = xs.length + 1 := by simp [encK]
  refine pcW E0_ok mm (fn := Try.f38) (by kernel_rfl) (by kernel_rfl) (by kernel_rfl) [(3, 0, .reg 0), (3, 2, .reg 0)] (by kernel_rfl) [1] (by rw [show Try.f38.ntmps = 1 + 7 by kernel_rfl]; exact Nat.le_add_right _ _) ?_
  intro T hl hx
  have a0 := hx 0 _ rfl
  clear hx
  simp only [bodyOf, Try.f38] at hl ⊢
  simp only [wB, E0_tys, appI, buildI, placesI, okPart, bsI, slI, sliceI, sliceS, optI, appendI, srcI, chunk, fillI, fzParts, fzL, fz1, planAt, loadI, storeI, takeI, TK.agg, TK.known, cellsI, fillRow, okCell, bltI, builtinI, lenI, indexAddrI, fieldAddrI, fieldI, indexI, nilChkI, An.isImm, pureC, pure0, impI, impL, impC, cutO, An.imps, List.replicate, decide_true, decide_false, cond_true, cond_false, if_true, if_false, ite_true, ite_false, ne_eq, forall_const, eq_self, reduceCtorEq, reduceIte, Nat.reduceLT, Nat.reduceLeDiff, Nat.reduceAdd, Nat.reduceSub, Nat.reduceMul, Nat.reduceEqDiff, Nat.reduceBEq, Int.reduceLE, Int.reduceLT, Int.reduceToNat, Int.reduceEq, Int.reduceAdd, Int.reduceSub, Int.reduceMul, ty_68, tk_68, ty_80, tk_80, a0, hl, hb, hr, hx4, hle, hk]
  try rfl
/-! ### IndexFunc -/
theorem c40 (x y : KV) (hx : okK x) : PC Try.prog true 40 [.ag (kvC y), .pi (kvC x)] (.b (sameF x y)) [] := by
  have k41 := c41 x y hx
  refine pcW E0_ok mm (fn := Try.f40) (by kernel_rfl) (by kernel_rfl) (by kernel_rfl) [] (by kernel_rfl) [] (by rw [show Try.f40.ntmps = 2 + 5 by kernel_rfl]; exact Nat.le_add_right _ _) ?_
  intro T hl hx
  have a0 := hx 0 _ rfl
  have a1 := hx 1 _ rfl
  clear hx
  simp only [bodyOf, Try.f40] at hl ⊢
  simp only [wB, E0_tys, appI, buildI, placesI, okPart, bsI, slI, sliceI, sliceS, optI, appendI, srcI, chunk, fillI, fzParts, fzL, fz1, planAt, loadI, storeI, takeI, TK.agg, TK.known, cellsI, fillRow, okCell, bltI, builtinI, lenI, indexAddrI, fieldAddrI, fieldI, indexI, nilChkI, An.isImm, pureC, pure0, impI, impL, impC, cutO, An.imps, List.replicate, decide_true, decide_false, cond_true, cond_false, if_true, if_false, ite_true, ite_false, ne_eq, forall_const, eq_self, reduceCtorEq, reduceIte, Nat.reduceLT, Nat.reduceLeDiff, Nat.reduceAdd, Nat.reduceSub, Nat.reduceMul, Nat.reduceEqDiff, Nat.reduceBEq, Int.reduceLE, Int.reduceLT, Int.reduceToNat, Int.reduceEq, Int.reduceAdd, Int.reduceSub, Int.reduceMul, ty_80, tk_80, ty_39, tk_39, ty_36, tk_36, ty_3, tk_3, ty_37, tk_37, ty_4, tk_4, a0, a1, hl, kvC, prC]
  refine callPu0 k41 rfl rfl ?_
  simp only [wB, E0_tys, appI, buildI, placesI, okPart, bsI, slI, sliceI, sliceS, optI, appendI, srcI, chunk, fillI, fzParts, fzL, fz1, planAt, loadI, storeI, takeI, TK.agg, TK.known, cellsI, fillRow, okCell, bltI, builtinI, lenI, indexAddrI, fieldAddrI, fieldI, indexI, nilChkI, An.isImm, pureC, pure0, impI, impL, impC, cutO, An.imps, List.replicate, decide_true, decide_false, cond_true, cond_false, if_true, if_false, ite_true, ite_false, ne_eq, forall_const, eq_self, reduceCtorEq, reduceIte, Nat.reduceLT, Nat.reduceLeDiff, Nat.reduceAdd, Nat.reduceSub, Nat.reduceMul, Nat.reduceEqDiff, Nat.reduceBEq, Int.reduceLE, Int.reduceLT, Int.reduceToNat, Int.reduceEq, Int.reduceAdd, Int.reduceSub, Int.reduceMul, ty_80, tk_80, ty_39, tk_39, ty_36, tk_36, ty_3, tk_3, ty_37, tk_37, ty_4, tk_4, hl]
theorem encK_at {l : List KV} {k : Nat} {x : KV} (h : l[k]? = some x) : (encK l).getD k [] = [.sl x.p.no (encI x.p.oid), .i .i64 x.p.kind, .sl x.p.nt (encI x.p.text), .sl x.p.nr (encB x.p.raw), .sl (keyN x.p) (encI x.k)] := getD_enc h
def idxV : Option Nat → IV
  | some i => .i .i64 (i : Int)
  | none => .i .i64 (-1)
def idxQ (p : KV → Bool) : List KV → Nat → Option Nat
  | [], _ => none
  | x :: xs, k => if p x then some k else idxQ p xs (k + 1)
theorem c39 (x : KV) (l : List KV) (hx : okK x) (hl0 : l.length ≤ 100000) : PC Try.prog true 39 [.sl none (encK l), .fn (.func 40) [] [.pi (kvC x)]] (idxV (idxQ (sameF x) l 0)) [] := by
  refine pcW E0_ok mm (fn := Try.f39) (by kernel_rfl) (by kernel_rfl) (by kernel_rfl) [] (by kernel_rfl) [] (by rw [show Try.f39.ntmps = 2 + 17 by kernel_rfl]; exact Nat.le_add_right _ _) ?_
  intro T hl hx
  have a0 := hx 0 _ rfl
  have a1 := hx 1 _ rfl
  clear hx
  simp only [bodyOf, Try.f39] at hl ⊢
  simp only [wB, E0_tys, appI, buildI, placesI, okPart, bsI, slI, sliceI, sliceS, optI, appendI, srcI, chunk, fillI, fzParts, fzL, fz1, planAt, loadI, storeI, takeI, TK.agg, TK.known, cellsI, fillRow, okCell, bltI, builtinI, lenI, indexAddrI, fieldAddrI, fieldI, indexI, nilChkI, An.isImm, pureC, pure0, impI, impL, impC, cutO, An.imps, List.replicate, decide_true, decide_false, cond_true, cond_false, if_true, if_false, ite_true, ite_false, ne_eq, forall_const, eq_self, reduceCtorEq, reduceIte, Nat.reduceLT, Nat.reduceLeDiff, Nat.reduceAdd, Nat.reduceSub, Nat.reduceMul, Nat.reduceEqDiff, Nat.reduceBEq, Int.reduceLE, Int.reduceLT, Int.reduceToNat, Int.reduceEq, Int.reduceAdd, Int.reduceSub, Int.reduceMul, ty_68, tk_68, ty_80, tk_80, ty_83, tk_83, ty_3, tk_3, ty_4, tk_4, a0, a1, hl, encK_len]
  refine W_loop _ _ _ _ _ _ _ (fun T R => ∃ k : Nat, k ≤ l.length ∧ T.length = 19 ∧ getT T 0 = .sl none (encK l) ∧ getT T 1 = .fn (.func 40) [] [.pi (kvC x)] ∧ getT T 7 = .i .i64 (l.length : Int) ∧ getT T 8 = .i .i64 (k : Int) ∧ idxQ (sameF x) (l.drop k) k = idxQ (sameF x) l 0)
    (fun T _ => l.length - (asI (getT T 8)).toNat) ⟨0, ?_⟩ ?_
  · simp only [wB, E0_tys, appI, buildI, placesI, okPart, bsI, slI, sliceI, sliceS, optI, appendI, srcI, chunk, fillI, fzParts, fzL, fz1, planAt, loadI, storeI, takeI, TK.agg, TK.known, cellsI, fillRow, okCell, bltI, builtinI, lenI, indexAddrI, fieldAddrI, fieldI, indexI, nilChkI, An.isImm, pureC, pure0, impI, impL, impC, cutO, An.imps, List.replicate, decide_true, decide_false, cond_true, cond_false, if_true, if_false, ite_true, ite_false, ne_eq, forall_const, eq_self, reduceCtorEq, reduceIte, Nat.reduceLT, Nat.reduceLeDiff, Nat.reduceAdd, Nat.reduceSub, Nat.reduceMul, Nat.reduceEqDiff, Nat.reduceBEq, Int.reduceLE, Int.reduceLT, Int.reduceToNat, Int.reduceEq, Int.reduceAdd, Int.reduceSub, Int.reduceMul, ty_68, tk_68, ty_80, tk_80, ty_83, tk_83, ty_3, tk_3, ty_4, tk_4, a0, a1, hl, encK_len]
    try rfl
  · clear a0 a1 hl
    rintro T R ⟨k, hk, hl, a0, a1, a7, a8, hf2⟩
    simp only [wB, E0_tys, appI, buildI, placesI, okPart, bsI, slI, sliceI, sliceS, optI, appendI, srcI, chunk, fillI, fzParts, fzL, fz1, planAt, loadI, storeI, takeI, TK.agg, TK.known, cellsI, fillRow, okCell, bltI, builtinI, lenI, indexAddrI, fieldAddrI, fieldI, indexI, nilChkI, An.isImm, pureC, pure0, impI, impL, impC, cutO, An.imps, List.replicate, decide_true, decide_false, cond_true, cond_false, if_true, if_false, ite_true, ite_false, ne_eq, forall_const, eq_self, reduceCtorEq, reduceIte, Nat.reduceLT, Nat.reduceLeDiff, Nat.reduceAdd, Nat.reduceSub, Nat.reduceMul, Nat.reduceEqDiff, Nat.reduceBEq, Int.reduceLE, Int.reduceLT, Int.reduceToNat, Int.reduceEq, Int.reduceAdd, Int.reduceSub, Int.reduceMul, ty_68, tk_68, ty_80, tk_80, ty_83, tk_83, ty_3, tk_3, ty_4, tk_4, a0, a1, a7, a8, hl, encK_len]
    refine condW_b _ _ _ _ (fun hq => ?_) (fun hq => ?_)
    · have hk2 : k < l.length := by simpa using hq
      obtain ⟨c, hc⟩ := at_lt hk2
      have hw : IntKind.i64.wrap ((k : Int) + 1) = ((k + 1 : Nat) : Int) := by rw [wrap64] <;> omega
      have k40 := c40 x c hx
      rw [drop_at hc] at hf2
      simp only [wB, E0_tys, appI, buildI, placesI, okPart, bsI, slI, sliceI, sliceS, optI, appendI, srcI, chunk, fillI, fzParts, fzL, fz1, planAt, loadI, storeI, takeI, TK.agg, TK.known, cellsI, fillRow, okCell, bltI, builtinI, lenI, indexAddrI, fieldAddrI, fieldI, indexI, nilChkI, An.isImm, pureC, pure0, impI, impL, impC, cutO, An.imps, List.replicate, decide_true, decide_false, cond_true, cond_false, if_true, if_false, ite_true, ite_false, ne_eq, forall_const, eq_self, reduceCtorEq, reduceIte, Nat.reduceLT, Nat.reduceLeDiff, Nat.reduceAdd, Nat.reduceSub, Nat.reduceMul, Nat.reduceEqDiff, Nat.reduceBEq, Int.reduceLE, Int.reduceLT, Int.reduceToNat, Int.reduceEq, Int.reduceAdd, Int.reduceSub, Int.reduceMul, ty_68, tk_68, ty_80, tk_80, ty_83, tk_83, ty_3, tk_3, ty_4, tk_4, a0, a1, a7, a8, hl, encK_len, hk2, encK_at hc, hw]
      refine callPu0 k40 rfl rfl ?_
      simp only [wB, E0_tys, appI, buildI, placesI, okPart, bsI, slI, sliceI, sliceS, optI, appendI, srcI, chunk, fillI, fzParts, fzL, fz1, planAt, loadI, storeI, takeI, TK.agg, TK.known, cellsI, fillRow, okCell, bltI, builtinI, lenI, indexAddrI, fieldAddrI, fieldI, indexI, nilChkI, An.isImm, pureC, pure0, impI, impL, impC, cutO, An.imps, List.replicate, decide_true, decide_false, cond_true, cond_false, if_true, if_false, ite_true, ite_false, ne_eq, forall_const, eq_self, reduceCtorEq, reduceIte, Nat.reduceLT, Nat.reduceLeDiff, Nat.reduceAdd, Nat.reduceSub, Nat.reduceMul, Nat.reduceEqDiff, Nat.reduceBEq, Int.reduceLE, Int.reduceLT, Int.reduceToNat, Int.reduceEq, Int.reduceAdd, Int.reduceSub, Int.reduceMul, ty_68, tk_68, ty_80, tk_80, ty_83, tk_83, ty_3, tk_3, ty_4, tk_4, a0, a1, a7, a8, hl, hw]
      refine condW_b _ _ _ _ (fun hq2 => ?_) (fun hq2 => ?_)
      · simp only [wB, E0_tys, appI, buildI, placesI, okPart, bsI, slI, sliceI, sliceS, optI, appendI, srcI, chunk, fillI, fzParts, fzL, fz1, planAt, loadI, storeI, takeI, TK.agg, TK.known, cellsI, fillRow, okCell, bltI, builtinI, lenI, indexAddrI, fieldAddrI, fieldI, indexI, nilChkI, An.isImm, pureC, pure0, impI, impL, impC, cutO, An.imps, List.replicate, decide_true, decide_false, cond_true, cond_false, if_true, if_false, ite_true, ite_false, ne_eq, forall_const, eq_self, reduceCtorEq, reduceIte, Nat.reduceLT, Nat.reduceLeDiff, Nat.reduceAdd, Nat.reduceSub, Nat.reduceMul, Nat.reduceEqDiff, Nat.reduceBEq, Int.reduceLE, Int.reduceLT, Int.reduceToNat, Int.reduceEq, Int.reduceAdd, Int.reduceSub, Int.reduceMul, ty_68, tk_68, ty_80, tk_80, ty_83, tk_83, ty_3, tk_3, ty_4, tk_4, a0, a1, a7, a8, hl, hw]
        have hf3 : idxQ (sameF x) l 0 = some k := by rw [← hf2]; simp [idxQ, hq2]
        rw [hf3]; rfl
      · simp only [wB, E0_tys, appI, buildI, placesI, okPart, bsI, slI, sliceI, sliceS, optI, appendI, srcI, chunk, fillI, fzParts, fzL, fz1, planAt, loadI, storeI, takeI, TK.agg, TK.known, cellsI, fillRow, okCell, bltI, builtinI, lenI, indexAddrI, fieldAddrI, fieldI, indexI, nilChkI, An.isImm, pureC, pure0, impI, impL, impC, cutO, An.imps, List.replicate, decide_true, decide_false, cond_true, cond_false, if_true, if_false, ite_true, ite_false, ne_eq, forall_const, eq_self, reduceCtorEq, reduceIte, Nat.reduceLT, Nat.reduceLeDiff, Nat.reduceAdd, Nat.reduceSub, Nat.reduceMul, Nat.reduceEqDiff, Nat.reduceBEq, Int.reduceLE, Int.reduceLT, Int.reduceToNat, Int.reduceEq, Int.reduceAdd, Int.reduceSub, Int.reduceMul, ty_68, tk_68, ty_80, tk_80, ty_83, tk_83, ty_3, tk_3, ty_4, tk_4, a0, a1, a7, a8, hl, hw]
        refine ⟨⟨k + 1, hk2, rfl, ?_⟩, by simp only [asI]; omega⟩
        rw [← hf2]; simp_all [idxQ]
    · have hk2 : k = l.length := by have := of_decide_eq_false hq; omega
      subst hk2
      rw [List.drop_length] at hf2
      simp only [wB, E0_tys, appI, buildI, placesI, okPart, bsI, slI, sliceI, sliceS, optI, appendI, srcI, chunk, fillI, fzParts, fzL, fz1, planAt, loadI, storeI, takeI, TK.agg, TK.known, cellsI, fillRow, okCell, bltI, builtinI, lenI, indexAddrI, fieldAddrI, fieldI, indexI, nilChkI, An.isImm, pureC, pure0, impI, impL, impC, cutO, An.imps, List.replicate, decide_true, decide_false, cond_true, cond_false, if_true, if_false, ite_true, ite_false, ne_eq, forall_const, eq_self, reduceCtorEq, reduceIte, Nat.reduceLT, Nat.reduceLeDiff, Nat.reduceAdd, Nat.reduceSub, Nat.reduceMul, Nat.reduceEqDiff, Nat.reduceBEq, Int.reduceLE, Int.reduceLT, Int.reduceToNat, Int.reduceEq, Int.reduceAdd, Int.reduceSub, Int.reduceMul, ty_68, tk_68, ty_80, tk_80, ty_83, tk_83, ty_3, tk_3, ty_4, tk_4, hl]
      rw [← hf2]; rfl
end Go.Proofs
set_option maxRecDepth 100000
set_option maxHeartbeats 8000000
set_option linter.unusedVariables false
set_option linter.unusedSimpArgs false
namespace Go.Proofs
open Go.Iv
def zK : List IV := [.sl (some true) [], .i .i64 0, .sl (some true) [], .sl (some true) [], .sl (some true) []]
theorem okRows_mem {rows rows' : List (List IV)} (h : okRows 5 rows = true) (hs : ∀ r ∈ rows', r ∈ rows ∨ r = zK) : okRows 5 rows' = true := by
  unfold okRows at h ⊢
  rw [List.all_eq_true] at h ⊢
  intro r hr
  rcases hs r hr with h1 | h1
  · exact h r h1
  · subst h1; rfl
/-- Delete in a register's row. -/
theorem c42 (R : List Reg) (ver n i : Nat) (rows : List (List IV)) (hL : liveR R 0 ver = some ⟨false, 80, 5, rows⟩) (hok : okRows 5 rows = true) (hn : n ≤ rows.length) (hi : i < n) (hx : rows.length ≤ 100000) :
    ∃ y R1, (y = .rf 0 ver 0 (n - 1) ∧ ∃ rows', liveR R1 0 ver = some ⟨false, 80, 5, rows'⟩ ∧ okRows 5 rows' = true ∧ rows'.length = rows.length ∧ rows'.take (n - 1) = (rows.take n).eraseIdx i) ∧
      IC Try.prog 42 [.rf 0 ver 0 n, .i .i64 (i : Int), .i .i64 ((i + 1 : Nat) : Int)] R y R1 := by
  have e1 : slI tysL 68 (.rf 0 ver 0 n) (some (some i)) (some (some (i + 1))) (some (some n)) R = some .un := by
    simp only [slI, sliceI, tk_68, ty_80, sliceS, hL, Option.getD_some]
    rw [if_pos ⟨by omega, by omega, by omega, trivial, by omega⟩]
  have e2 : slI tysL 68 (.rf 0 ver 0 n) (some none) (some (some i)) (some none) R = some (.rf 0 ver 0 i) := by
    simp only [slI, sliceI, tk_68, ty_80, sliceS, hL, Option.getD_some, Option.getD_none]
    rw [if_pos ⟨by omega, by omega, trivial⟩, if_pos trivial]
  have e3 : ∃ X, slI tysL 68 (.rf 0 ver 0 n) (some (some (i + 1))) (some none) (some none) R = some X ∧ srcI X R = some ((rows.take n).drop (i + 1)) := by
    simp only [slI, sliceI, tk_68, ty_80, sliceS, hL, Option.getD_some, Option.getD_none]
    rw [if_pos ⟨by omega, by omega, trivial⟩, if_neg (by omega)]
    by_cases h : i + 1 < n
    · rw [if_pos h]
      refine ⟨_, rfl, ?_⟩
      simp only [srcI, hL]
      rw [if_neg (by simp), List.drop_take, Nat.zero_add]
    · rw [if_neg h]
      refine ⟨_, rfl, ?_⟩
      have : (rows.take n).drop (i + 1) = [] := by apply List.eq_nil_of_length_eq_zero; simp; omega
      rw [this]; rfl
  obtain ⟨X, e3, hX⟩ := e3
  have htl : ((rows.take n).drop (i + 1)).length = n - (i + 1) := by simp; omega
  have htok : okRows 5 ((rows.take n).drop (i + 1)) = true := okRows_mem hok fun r hr => .inl (List.mem_of_mem_take (List.mem_of_mem_drop hr))
  generalize hrows2 : rows.take i ++ (rows.take n).drop (i + 1) ++ rows.drop (n - 1) = rows2
  have hl2 : rows2.length = rows.length := by subst hrows2; simp; omega
  have e4 : appI tysL .imm 68 68 (.rf 0 ver 0 i) X R = some (.rf 0 ver 0 (n - 1), setR R 0 ⟨ver, some ⟨false, 80, 5, rows2⟩⟩) := by
    unfold appI appendI
    simp only [tk_68, ty_80, hX]
    rw [htok, htl]
    simp only [hL]
    rw [if_pos ⟨trivial, by decide, rfl, by decide, by omega⟩]
    dsimp only
    rw [if_neg (by simp), if_neg (by omega), if_pos (by rw [htl]; omega), htl, Nat.zero_add, show i + (n - (i + 1)) = n - 1 by omega, hrows2]
  have e5 : slI tysL 68 (.rf 0 ver 0 (n - 1)) (some (some (n - 1))) (some (some n)) (some none) (setR R 0 ⟨ver, some ⟨false, 80, 5, rows2⟩⟩) = some (.rf 0 ver (n - 1) 1) := by
    simp only [slI, sliceI, tk_68, ty_80, sliceS, lr_set, Option.getD_some]
    rw [if_pos ⟨by omega, by omega, trivial⟩]
    by_cases h : n - 1 = 0
    · rw [if_pos h]; simp; omega
    · rw [if_neg h, if_pos (by omega)]; simp; omega
  generalize hrows3 : rows2.take (n - 1) ++ [zK] ++ rows2.drop (n - 1 + 1) = rows3
  have e6 : clearI tysL 68 (.rf 0 ver (n - 1) 1) (setR R 0 ⟨ver, some ⟨false, 80, 5, rows2⟩⟩) = some (setR (setR R 0 ⟨ver, some ⟨false, 80, 5, rows2⟩⟩) 0 ⟨ver, some ⟨false, 80, 5, rows3⟩⟩) := by
    simp only [clearI, tk_68, ty_80, lr_set]
    rw [if_neg (by decide), if_neg (by decide), ← hrows3]
    rfl
  have h12 : ¬ (i : Int) = ((i + 1 : Nat) : Int) := by omega
  have g1 : rows3.length = rows.length := by subst hrows3; simp; omega
  have g2 : rows3.take (n - 1) = (rows.take n).eraseIdx i := by
    subst hrows3
    rw [List.append_assoc, List.take_append_of_le_length (by simp; omega), List.take_take, Nat.min_self, List.eraseIdx_eq_take_drop_succ]
    subst hrows2
    rw [List.take_append_of_le_length (by simp; omega), List.take_of_length_le (by simp; omega), List.take_take, Nat.min_eq_left (by omega)]
  have g3 : okRows 5 rows3 = true := by
    refine okRows_mem hok fun r hr => ?_
    subst hrows3
    have h2 : ∀ r ∈ rows2, r ∈ rows := by
      subst hrows2
      intro r hr
      rcases List.mem_append.1 hr with hr | hr
      · rcases List.mem_append.1 hr with hr | hr
        · exact List.mem_of_mem_take hr
        · exact List.mem_of_mem_take (List.mem_of_mem_drop hr)
      · exact List.mem_of_mem_drop hr
    rcases List.mem_append.1 hr with hr | hr
    · rcases List.mem_append.1 hr with hr | hr
      · exact .inl (h2 _ (List.mem_of_mem_take hr))
      · exact .inr (by simpa using hr)
    · exact .inl (h2 _ (List.mem_of_mem_drop hr))
  clear hrows2 hrows3 hX htok
  refine icE E0_ok mm (fn := Try.f42) (by kernel_rfl) (by kernel_rfl) (by kernel_rfl) [(5, 999, .plan (.pure 0 (.pure 1 (.pure 3 (.pure 4 (.read 2 (.read 5 (.one 6 (.one 7 (.done))))))))))] (by kernel_rfl) [] (by rw [show Try.f42.ntmps = 3 + 30 by kernel_rfl]; exact Nat.le_add_right _ _) ?_
  intro T hl hx
  have a0 := hx 0 _ rfl
  have a1 := hx 1 _ rfl
  have a2 := hx 2 _ rfl
  clear hx
  simp only [bodyOf, Try.f42] at hl ⊢
  simp only [wB, E0_tys, buildI, placesI, okPart, bsI, optI, appendI, srcI, chunk, fillI, fzParts, fzL, fz1, planAt, loadI, storeI, takeI, TK.agg, TK.known, cellsI, fillRow, okCell, bltI, builtinI, lenI, indexAddrI, fieldAddrI, fieldI, indexI, nilChkI, An.isImm, pureC, pure0, impI, impL, impC, cutO, An.imps, List.replicate, decide_true, decide_false, cond_true, cond_false, if_true, if_false, ite_true, ite_false, ne_eq, forall_const, eq_self, reduceCtorEq, reduceIte, Nat.reduceLT, Nat.reduceLeDiff, Nat.reduceAdd, Nat.reduceSub, Nat.reduceMul, Nat.reduceEqDiff, Nat.reduceBEq, Int.reduceLE, Int.reduceLT, Int.reduceToNat, Int.reduceEq, Int.reduceAdd, Int.reduceSub, Int.reduceMul, ty_68, tk_68, ty_80, tk_80, ty_3, tk_3, ty_4, tk_4, a0, a1, a2, hl, hL, e1, e2, e3, e4, e5, e6, h12]
  exact ⟨rows3, lr_set _ _ _ _, g3, g1, g2⟩
end Go.Proofs
