import Derived.Test.YtapigbgcghekgaaM08
import Derived.RangeFuncSeq
import Derived.RangeFuncLeaves
import Derived.TacticsIn
set_option linter.unusedVariables false
set_option linter.unusedSimpArgs false
set_option linter.unusedVariables false
set_option linter.unusedSimpArgs false
namespace Go.Iv
/-! What the evaluator says of some outcome it says of ONE: so a function's result may be named after it has been shown that there is one. -/
theorem stepW_det {E : Env} {an : An} {o : Op} {T : List IV} {R : List Reg} {K : IV → List Reg → Prop} {t : Tok K} (h : stepW E an o T R K t) :
    ∃ v R1, K v R1 ∧ ∀ (K' : IV → List Reg → Prop) (t' : Tok K'), K' v R1 → stepW E an o T R K' t' := by
  obtain ⟨v, R1, ho, hK⟩ := stepW_iff.1 h
  exact ⟨v, R1, hK, fun K' t' hk => stepW_iff.2 ⟨v, R1, ho, hk⟩⟩
theorem opsW_det {E : Env} {an : Nat → An} {all : List Oper} : ∀ (os : List Oper) (ix : Nat) (T : List IV) (R : List Reg) (K : List IV → List Reg → Prop) (t : Tok (all, K)), opsW E an all ix os T R K t →
    ∃ T1 R1, K T1 R1 ∧ ∀ (K' : List IV → List Reg → Prop) (t' : Tok (all, K')), K' T1 R1 → opsW E an all ix os T R K' t'
  | [], ix, T, R, K, t, h => ⟨T, R, h, fun K' t' hk => hk⟩
  | o :: os, ix, T, R, K, t, h => by
    simp only [opsW] at h ⊢
    cases hg : o.guard with
    | none =>
      simp only [hg] at h ⊢
      obtain ⟨v, R1, h1, h2⟩ := stepW_det h
      obtain ⟨T2, R2, h3, h4⟩ := opsW_det os _ _ _ _ _ h1
      exact ⟨T2, R2, h3, fun K' t' hk => h2 _ _ (h4 _ _ hk)⟩
    | some g =>
      obtain ⟨j, want⟩ := g
      simp only [hg] at h ⊢
      cases hy : yieldI all j with
      | none => simp only [hy, onO] at h
      | some d =>
        simp only [hy, onO] at h ⊢
        unfold guardW at h ⊢
        cases hv : getT T d with
        | b x =>
          simp only [hv] at h ⊢
          by_cases hx : x = want
          · simp only [if_pos hx] at h ⊢
            obtain ⟨v, R1, h1, h2⟩ := stepW_det h
            obtain ⟨T2, R2, h3, h4⟩ := opsW_det os _ _ _ _ _ h1
            exact ⟨T2, R2, h3, fun K' t' hk => h2 _ _ (h4 _ _ hk)⟩
          · simp only [if_neg hx] at h ⊢
            obtain ⟨T2, R2, h3, h4⟩ := opsW_det os _ _ _ _ _ h
            exact ⟨T2, R2, h3, fun K' t' hk => h4 _ _ hk⟩
        | tu xs =>
          simp only [hv] at h ⊢
          obtain ⟨T2, R2, h3, h4⟩ := opsW_det os _ _ _ _ _ h
          exact ⟨T2, R2, h3, fun K' t' hk => h4 _ _ hk⟩
        | _ => simp only [hv] at h
theorem stpW_det {E : Env} {an : An} {all : List Oper} {o : Oper} {T : List IV} {R : List Reg} {K : List IV → List Reg → Prop} {t : Tok (all, K)} (h : stpW E an all o T R K t) :
    ∃ T1 R1, K T1 R1 ∧ ∀ (K' : List IV → List Reg → Prop) (t' : Tok (all, K')), K' T1 R1 → stpW E an all o T R K' t' := by
  unfold stpW at h ⊢
  cases hg : o.guard with
  | none =>
    simp only [hg] at h ⊢
    obtain ⟨v, R1, h1, h2⟩ := stepW_det h
    exact ⟨_, R1, h1, fun K' t' hk => h2 _ _ hk⟩
  | some g =>
    obtain ⟨j, want⟩ := g
    simp only [hg] at h ⊢
    cases hy : yieldI all j with
    | none => simp only [hy, onO] at h
    | some d =>
      simp only [hy, onO] at h ⊢
      unfold guardW at h ⊢
      cases hv : getT T d with
      | b x =>
        simp only [hv] at h ⊢
        by_cases hx : x = want
        · simp only [if_pos hx] at h ⊢
          obtain ⟨v, R1, h1, h2⟩ := stepW_det h
          exact ⟨_, R1, h1, fun K' t' hk => h2 _ _ hk⟩
        · simp only [if_neg hx] at h ⊢
          exact ⟨_, R, h, fun K' t' hk => hk⟩
      | tu xs =>
        simp only [hv] at h ⊢
        exact ⟨_, R, h, fun K' t' hk => hk⟩
      | _ => simp only [hv] at h
theorem drawW_det {E : Env} {an : Nat → An} {all : List Oper} : ∀ (p : Plan) (T : List IV) (R : List Reg) (K : List IV → List Reg → Prop) (t : Tok (all, K)), drawW E an all p T R K t →
    ∃ T1 R1, K T1 R1 ∧ ∀ (K' : List IV → List Reg → Prop) (t' : Tok (all, K')), K' T1 R1 → drawW E an all p T R K' t'
  | .done, T, R, K, t, h => ⟨T, R, h, fun K' t' hk => hk⟩
  | .pure i p, T, R, K, t, h => by
    simp only [drawW] at h ⊢
    obtain ⟨o, ho, h⟩ := onO_iff.1 h
    obtain ⟨T1, R1, ⟨h0, h1⟩, h2⟩ := stpW_det h
    obtain ⟨T2, R2, h3, h4⟩ := drawW_det p _ _ _ _ h1
    exact ⟨T2, R2, h3, fun K' t' hk => onO_iff.2 ⟨o, ho, h2 _ _ ⟨h0, h4 _ _ hk⟩⟩⟩
  | .read i p, T, R, K, t, h => by
    simp only [drawW] at h ⊢
    obtain ⟨o, ho, h⟩ := onO_iff.1 h
    obtain ⟨T1, R1, h1, h2⟩ := stpW_det h
    obtain ⟨T2, R2, h3, h4⟩ := drawW_det p _ _ _ _ h1
    exact ⟨T2, R2, h3, fun K' t' hk => onO_iff.2 ⟨o, ho, h2 _ _ (h4 _ _ hk)⟩⟩
  | .one i p, T, R, K, t, h => by
    simp only [drawW] at h ⊢
    obtain ⟨o, ho, h⟩ := onO_iff.1 h
    obtain ⟨T1, R1, h1, h2⟩ := stpW_det h
    obtain ⟨T2, R2, h3, h4⟩ := drawW_det p _ _ _ _ h1
    exact ⟨T2, R2, h3, fun K' t' hk => onO_iff.2 ⟨o, ho, h2 _ _ (h4 _ _ hk)⟩⟩
  | .two i p j q, T, R, K, t, h => by
    simp only [drawW] at h ⊢
    obtain ⟨T2, R2, h1, h2, h3⟩ := h
    exact ⟨T2, R2, h3, fun K' t' hk => ⟨T2, R2, h1, h2, hk⟩⟩

/-- How a loop comes to its end. -/
def FinN (E : Env) (an : List (Nat × Nat × An)) (body : Code) (m : List IV → List Reg → Nat) (e : Ex) (T1 : List IV) (R1 : List Reg) : Nat → List IV → List Reg → Prop
  | 0, T, R => e ≠ .n ∧ ∀ (Q' : Post) (t' : Tok Q'), Q' e T1 R1 → W E an body T R Q' t'
  | n + 1, T, R => ∃ T' R', m T' R' < m T R ∧ FinN E an body m e T1 R1 n T' R' ∧ ∀ (Q' : Post) (t' : Tok Q'), Q' .n T' R' → W E an body T R Q' t'

theorem W_det {E : Env} {an : List (Nat × Nat × An)} : ∀ (c : Code) (T : List IV) (R : List Reg) (Q : Post) (t : Tok Q), W E an c T R Q t →
    ∃ e T1 R1, Q e T1 R1 ∧ ∀ (Q' : Post) (t' : Tok Q'), Q' e T1 R1 → W E an c T R Q' t' := by
  intro c
  induction c with
  | skip => intro T R Q t h; exact ⟨.n, T, R, h, fun Q' t' hk => hk⟩
  | region id ops draw =>
    intro T R Q t h
    cases draw with
    | false =>
      obtain ⟨T1, R1, h1, h2⟩ := opsW_det _ _ _ _ _ _ h
      exact ⟨.n, T1, R1, h1, fun Q' t' hk => h2 _ _ hk⟩
    | true =>
      obtain ⟨T1, R1, h1, h2⟩ := drawW_det _ _ _ _ _ h
      exact ⟨.n, T1, R1, h1, fun Q' t' hk => h2 _ _ hk⟩
  | seq x y ih1 ih2 =>
    intro T R Q t h
    obtain ⟨e, T1, R1, h1, h2⟩ := ih1 _ _ _ _ h
    cases e with
    | n =>
      obtain ⟨e, T2, R2, h3, h4⟩ := ih2 _ _ _ _ h1
      exact ⟨e, T2, R2, h3, fun Q' t' hk => h2 (seqK (fun T R => W E an y T R Q' .mk) Q' .mk) .mk (h4 _ _ hk)⟩
    | x id => exact ⟨.x id, T1, R1, h1, fun Q' t' hk => h2 (seqK (fun T R => W E an y T R Q' .mk) Q' .mk) .mk hk⟩
    | r => exact ⟨.r, T1, R1, h1, fun Q' t' hk => h2 (seqK (fun T R => W E an y T R Q' .mk) Q' .mk) .mk hk⟩
  | cond cnd x y ih1 ih2 =>
    intro T R Q t h
    simp only [W] at h ⊢
    unfold condW at h ⊢
    cases hv : evI T cnd with
    | b v =>
      cases v with
      | true =>
        simp only [hv] at h ⊢
        exact ih1 _ _ _ _ h
      | false =>
        simp only [hv] at h ⊢
        exact ih2 _ _ _ _ h
    | _ => simp only [hv] at h
  | block id x ih =>
    intro T R Q t h
    obtain ⟨e, T1, R1, h1, h2⟩ := ih _ _ _ _ h
    cases e with
    | n => exact ⟨.n, T1, R1, h1, fun Q' t' hk => h2 (blockK id Q' .mk) .mk hk⟩
    | x id' =>
      by_cases he : id' = id
      · simp only [blockK, if_pos he] at h1
        exact ⟨.n, T1, R1, h1, fun Q' t' hk => h2 (blockK id Q' .mk) .mk (by simp only [blockK, if_pos he]; exact hk)⟩
      · simp only [blockK, if_neg he] at h1
        exact ⟨.x id', T1, R1, h1, fun Q' t' hk => h2 (blockK id Q' .mk) .mk (by simp only [blockK, if_neg he]; exact hk)⟩
    | r => exact ⟨.r, T1, R1, h1, fun Q' t' hk => h2 (blockK id Q' .mk) .mk hk⟩
  | loop x ih =>
    intro T R Q t h
    obtain ⟨I, m, h0, hr⟩ := h
    have key : ∀ (k : Nat) (T : List IV) (R : List Reg), I T R → m T R = k → ∃ e T1 R1 n, Q e T1 R1 ∧ FinN E an x m e T1 R1 n T R := by
      intro k
      induction k using Nat.strongRecOn with
      | _ k ihk =>
        intro T R hI hk
        obtain ⟨e, T1, R1, h1, h2⟩ := ih _ _ _ _ (hr T R hI)
        cases e with
        | n =>
          obtain ⟨h3, h4⟩ := h1
          obtain ⟨e, T2, R2, n, h5, h6⟩ := ihk (m T1 R1) (hk ▸ h4) T1 R1 h3 rfl
          exact ⟨e, T2, R2, n + 1, h5, T1, R1, h4, h6, h2⟩
        | x id => exact ⟨.x id, T1, R1, 0, h1, by simp, h2⟩
        | r => exact ⟨.r, T1, R1, 0, h1, by simp, h2⟩
    obtain ⟨e, T1, R1, n, h1, h2⟩ := key _ T R h0 rfl
    refine ⟨e, T1, R1, h1, fun Q' t' hk => ⟨fun T R => ∃ n, FinN E an x m e T1 R1 n T R, m, ⟨n, h2⟩, ?_⟩⟩
    rintro T R ⟨n, hn⟩
    cases n with
    | zero =>
      obtain ⟨he, hn⟩ := hn
      refine hn _ _ ?_
      cases e with
      | n => exact absurd rfl he
      | x id => exact hk
      | r => exact hk
    | succ n =>
      obtain ⟨T', R', hlt, hf, hw⟩ := hn
      exact hw _ _ ⟨⟨n, hf⟩, hlt⟩
  | exit id => intro T R Q t h; exact ⟨.x id, T, R, h, fun Q' t' hk => hk⟩
  | ret => intro T R Q t h; exact ⟨.r, T, R, h, fun Q' t' hk => hk⟩
  | label l => intro T R Q t h; exact ⟨.n, T, R, h, fun Q' t' hk => hk⟩
  | _ => intro T R Q t h; exact h.elim

def outE (l : List Nat) (Sh : IV → List Reg → Prop) (v : IV) (R : List Reg) : Prop := ∃ y Rr, impI l R [] v = some (y, Rr) ∧ Sh y Rr
theorem outE_iff (l : List Nat) (Sh : IV → List Reg → Prop) (v : IV) (R : List Reg) : outE l Sh v R ↔ ∃ y Rr, impI l R [] v = some (y, Rr) ∧ Sh y Rr := iff_id rfl
def outS (D : List Nat) (Sh : IV → List Reg → Prop) (v : IV) (R : List Reg) : Prop := Sh v (clrR D R)
theorem outS_iff (D : List Nat) (Sh : IV → List Reg → Prop) (v : IV) (R : List Reg) : outS D Sh v R ↔ Sh v (clrR D R) := iff_id rfl

theorem retQ_det {tys : Tys} {rs : List ResultVar} {out : IV → List Reg → Prop} {e : Ex} {T : List IV} {R : List Reg} (h : retQ tys rs out e T R) : ∃ v, out v R ∧ ∀ out' : IV → List Reg → Prop, out' v R → retQ tys rs out' e T R := by
  cases e with
  | n => obtain ⟨v, hv, ho⟩ := onO_iff.1 (show onO (resI tys rs T R) (fun v => out v R) .mk from h); exact ⟨v, ho, fun out' ho' => (onO_iff (t := .mk)).2 ⟨v, hv, ho'⟩⟩
  | r => obtain ⟨v, hv, ho⟩ := onO_iff.1 (show onO (resI tys rs T R) (fun v => out v R) .mk from h); exact ⟨v, ho, fun out' ho' => (onO_iff (t := .mk)).2 ⟨v, hv, ho'⟩⟩
  | x id => exact h.elim

/-- How it is shown that a function has a contract, without naming the result ahead. -/
theorem pcE {P : Program} {E : Env} (hE : EnvOK P E) (hm : P.follows .mixedOrders = true) {f : FuncId} {fn : Func} (hf : P.funcs[f]? = some fn) (hn : (fn.name == "runtime.NumGoroutine") = false) (hb : fn.body.isSome = true)
    (an : List (Nat × Nat × An)) (hok : okC an (bodyOf fn) = true) {xs : List IV} {Sh : IV → List Reg → Prop} (l : List Nat) (hx : xs.length ≤ fn.ntmps)
    (h : ∀ T, T.length = fn.ntmps → (∀ i x, xs[i]? = some x → getT T i = x) → W E an (bodyOf fn) T [] (retQ E.tys fn.results.toList (outE l Sh)) .mk) : ∃ y Rr, Sh y Rr ∧ PC P true f xs y Rr := by
  obtain ⟨e, T1, R1, h1, h2⟩ := W_det _ _ _ _ _ (h _ (initT_len _ _ hx) (initT_at _ _))
  obtain ⟨v, ⟨y, Rr, h3, h4⟩, h5⟩ := retQ_det h1
  exact ⟨y, Rr, h4, PC_of_W hE hm hf hn (bodyOf_some fn hb) hok l (t := .mk) (h2 _ _ (h5 _ h3))⟩
theorem icE {P : Program} {E : Env} (hE : EnvOK P E) (hm : P.follows .mixedOrders = true) {f : FuncId} {fn : Func} (hf : P.funcs[f]? = some fn) (hn : (fn.name == "runtime.NumGoroutine") = false) (hb : fn.body.isSome = true)
    (an : List (Nat × Nat × An)) (hok : okC an (bodyOf fn) = true) {xs : List IV} {R : List Reg} {Sh : IV → List Reg → Prop} (D : List Nat) (hx : xs.length ≤ fn.ntmps)
    (h : ∀ T, T.length = fn.ntmps → (∀ i x, xs[i]? = some x → getT T i = x) → W E an (bodyOf fn) T R (retQ E.tys fn.results.toList (outS D Sh)) .mk) : ∃ y R1, Sh y R1 ∧ IC P f xs R y R1 := by
  obtain ⟨e, T1, R1, h1, h2⟩ := W_det _ _ _ _ _ (h _ (initT_len _ _ hx) (initT_at _ _))
  obtain ⟨v, h3, h5⟩ := retQ_det h1
  exact ⟨v, clrR D R1, h3, IC_of_W hE hm hf hn (bodyOf_some fn hb) hok D (t := .mk) (h2 _ _ (h5 _ ⟨rfl, rfl⟩))⟩

/-- What is known less of. -/
def Wk (y' y : IV) : Prop := ∀ s R v, Rel s R y' v → Rel s R y v
theorem Wk.rfl' (y : IV) : Wk y y := fun _ _ _ h => h
theorem Wk.sl (nl : Option Bool) (rows : List (List IV)) : Wk (.sl nl rows) (.sl none rows) := fun s R v h => sl_none_of nl rows s R v h
def outK (l : List Nat) (y : IV) (Rr : List Reg) (v : IV) (R : List Reg) : Prop := ∃ y', impI l R [] v = some (y', Rr) ∧ Wk y' y
theorem outK_iff (l : List Nat) (y : IV) (Rr : List Reg) (v : IV) (R : List Reg) : outK l y Rr v R ↔ ∃ y', impI l R [] v = some (y', Rr) ∧ Wk y' y := iff_id rfl
theorem pcK {P : Program} {E : Env} (hE : EnvOK P E) (hm : P.follows .mixedOrders = true) {f : FuncId} {fn : Func} (hf : P.funcs[f]? = some fn) (hn : (fn.name == "runtime.NumGoroutine") = false) (hb : fn.body.isSome = true)
    (an : List (Nat × Nat × An)) (hok : okC an (bodyOf fn) = true) {xs : List IV} {y : IV} {Rr : List Reg} (l : List Nat) (hx : xs.length ≤ fn.ntmps)
    (h : ∀ T, T.length = fn.ntmps → (∀ i x, xs[i]? = some x → getT T i = x) → W E an (bodyOf fn) T [] (retQ E.tys fn.results.toList (outK l y Rr)) .mk) : PC P true f xs y Rr := by
  obtain ⟨y', Rr', ⟨rfl, hw⟩, hp⟩ := pcE (Sh := fun y' Rr' => Rr' = Rr ∧ Wk y' y) hE hm hf hn hb an hok l hx (fun T hl hT => by
    obtain ⟨e, T1, R1, h1, h2⟩ := W_det _ _ _ _ _ (h T hl hT)
    obtain ⟨v, ⟨y', h3, h4⟩, h5⟩ := retQ_det h1
    exact h2 _ _ (h5 _ ⟨y', Rr, h3, rfl, h4⟩))
  exact hp.weaken hw

theorem leastN {p : Nat → Prop} (h : ∃ n, p n) : ∃ n, p n ∧ ∀ m, p m → n ≤ m := by
  obtain ⟨n, hn⟩ := h
  induction n using Nat.strongRecOn with
  | _ n ih =>
    by_cases hl : ∃ m, m < n ∧ p m
    · obtain ⟨m, h1, h2⟩ := hl; exact ih m h1 h2
    · exact ⟨n, hn, fun m hm => by
        rcases Nat.lt_or_ge m n with h1 | h1
        · exact absurd ⟨m, h1, hm⟩ hl
        · exact h1⟩
/-- A loop whose rounds are counted by what no slot holds. -/
theorem W_loopN {E : Env} {an : List (Nat × Nat × An)} {T : List IV} {R : List Reg} {Q : Post} {tq : Tok Q} (body : Code) (I : Nat → List IV → List Reg → Prop) (n : Nat) (h0 : I n T R)
    (h : ∀ n T R, I n T R → W E an body T R (seqK (fun T1 R1 => ∃ n', n' < n ∧ I n' T1 R1) Q .mk) .mk) : W E an (.loop body) T R Q tq := by
  have cm : ∃ m : List IV → List Reg → Nat, ∀ T R, (∃ n, I n T R) → I (m T R) T R ∧ ∀ k, I k T R → m T R ≤ k := by
    refine ⟨fun T R => open Classical in if h : ∃ n, I n T R then Classical.choose (leastN h) else 0, fun T R hT => ?_⟩
    dsimp only
    rw [dif_pos hT]
    exact Classical.choose_spec (leastN hT)
  obtain ⟨m, hm⟩ := cm
  refine W_loop _ _ _ _ _ _ _ (fun T R => ∃ n, I n T R) m ⟨n, h0⟩ ?_
  rintro T R hTR
  obtain ⟨e, T1, R1, h1, h2⟩ := W_det _ _ _ _ _ (h _ T R (hm T R hTR).1)
  refine h2 _ _ ?_
  cases e with
  | n =>
    obtain ⟨n', h3, h4⟩ := h1
    exact ⟨⟨n', h4⟩, Nat.lt_of_le_of_lt ((hm T1 R1 ⟨n', h4⟩).2 n' h4) h3⟩
  | x id => exact h1
  | r => exact h1
end Go.Iv
set_option linter.unusedVariables false
set_option linter.unusedSimpArgs false
namespace Go.Iv
open Go.RowKit
/-! The evaluator in a round's frame, and where a round is called. -/
def rF : Option Nat → Fence
  | none => Fence.wide
  | some l => Fence.wide.inRound l
theorem rF_fn (r : Option Nat) (f : FuncId) : (rF r).fn f := by cases r <;> trivial
theorem rF_round (r : Option Nat) : (rF r).round = r := by cases r <;> rfl
theorem rF_depth (r : Option Nat) : (rF r).depth = none := by cases r <;> rfl
theorem rF_calls {r : Option Nat} {n : Nat} {P : Program} {f : FuncId} {args : Array Value} {w : World} {R : Ending → World → Prop} (h : Calls P f args w R) : CallsIn (rF r) n P f args w R := by
  have := (callsIn_wide (n := n)).2 h
  cases r <;> exact this
theorem rF_rows {r : Option Nat} {n : Nat} {P : Program} {row : String} {args : Array Value} {w : World} {R : Value → World → Prop} (h : Rows P row args w R) : RowsIn (rF r) n P row args w R := by
  intro c cs _
  obtain ⟨v, w', h1, h2⟩ := h c cs
  refine ⟨v, w', h1, ?_⟩
  have := stepsIn_wide.2 h2
  cases r <;> exact this

theorem oper_in {P : Program} {o : Oper} {a : Act} {w : World} {next : Act → World → Prop} {Q : Exit → Act → World → Prop} (n : Nat) (r : Option Nat) (hd : ∀ c, o.op ≠ .defer c) (h : o.wp P a w next Q) : o.wpIn (rF r) n P a w next Q := by
  refine ⟨fun f _ => rF_fn r f, ?_⟩
  rw [Oper.semAt_eq _ _ _ hd]
  unfold Oper.wp at h
  generalize (execOp a.eval o).run P w = res at h ⊢
  cases res with
  | ok v w' =>
    cases v with
    | enter f args => exact ⟨fun e => (by rw [rF_depth] at e; cases e), rF_calls h⟩
    | row row args => exact ⟨fun e => (by rw [rF_depth] at e; cases e), rF_rows h⟩
    | _ => first | exact h | exact False.elim h
  | halt x w' => cases x <;> first | exact h | exact False.elim h

def okOp : Oper → Bool
  | ⟨_, .defer _, _, _, _, _⟩ => false
  | _ => true
theorem okOp_def {o : Oper} (h : okOp o = true) : ∀ c, o.op ≠ .defer c := by
  intro c e
  obtain ⟨d, op, t, p, a, g⟩ := o
  simp only at e
  subst e
  cases h

theorem wpOps_in {P : Program} {ops : Array Oper} {Q : Exit → Act → World → Prop} (n : Nat) (r : Option Nat) (hQ : ¬ LetsOut Q) (hok : ∀ (i : Nat) (o : Oper), ops[i]? = some o → okOp o = true) : ∀ (l : List Nat) (a : Act) (w : World), wpOps P ops Q l a w → wpOpsIn (rF r) n P ops Q l a w
  | [], a, w, h => h
  | i :: l, a, w, h => by
    simp only [wpOps, wpOpsIn] at h ⊢
    cases ho : ops[i]? with
    | none => simp only [ho] at h ⊢; exact wpOps_in n r hQ hok l _ _ h
    | some o =>
      simp only [ho] at h ⊢
      by_cases hw : Region.wanted o (yielded ops a.tmps) = true
      · simp only [hw, if_true] at h ⊢
        rcases h with h | h
        · have h2 : o.wp P a w (wpOpsIn (rF r) n P ops Q l) Q := Oper.wp_mono (fun a w hh => wpOps_in n r hQ hok l a w hh) h
          exact oper_in n r (okOp_def (hok i o ho)) h2
        · exact absurd h.2 hQ
      · simp only [hw, if_false] at h ⊢
        exact ⟨fun f _ => rF_fn r f, wpOps_in n r hQ hok l _ _ h⟩

/-- Code without jumps, loops or draws: what may stand in a round. -/
def okB : Code → Bool
  | .skip => true
  | .region _ ops draw => !draw && ops.all okOp
  | .seq a b => okB a && okB b
  | .block _ c => okB c
  | _ => false

theorem W_sound_in {P : Program} {E : Env} {w0 : Base} {an : List (Nat × Nat × An)} (hE : EnvOK P E) (n : Nat) (r : Option Nat) : ∀ (c : Code), okB c = true → ∀ {s : CS} {R : List Reg} {T : List IV} {a : Act} {Q : Post} {tok : Tok Q} {Q' : Exit → Act → World → Prop},
    Inv w0 s R → RelT s R T a.tmps → W E an c T R Q tok → PostOK w0 s R a Q Q' → c.wpIn (rF r) n P Q' a s.w := by
  intro c
  induction c with
  | skip => intro _ s R T a Q tok Q' hi hT h hQ; exact wpIn_skip (hQ .n T R s a h hi (Ext.refl _ _) hT rfl)
  | region id ops draw =>
    intro hok s R T a Q tok Q' hi hT h hQ
    simp only [okB, Bool.and_eq_true, Bool.not_eq_true'] at hok
    obtain ⟨hdr, hall⟩ := hok
    subst hdr
    have hop : ∀ (i : Nat) (o : Oper), ops[i]? = some o → okOp o = true := fun i o ho => by
      obtain ⟨hlt, he⟩ := Array.getElem?_eq_some_iff.1 ho
      have := Array.all_eq_true.1 hall i hlt
      rwa [he] at this
    let Q2 : Exit → Act → World → Prop := fun e a w => e = .normal ∧ Q' e a w
    have hno : ¬ LetsOut Q2 := by
      rintro ⟨a, w, e, _⟩
      cases e
    have hQ2 : After w0 s R a (Q .n) (Q2 .normal) := fun T1 R1 s1 a1 hK hi1 he hT1 hd => ⟨rfl, hQ .n T1 R1 s1 a1 hK hi1 he hT1 hd⟩
    have key := opsW_sound (Q := Q2) hE ops.toList 0 (by simp) hi hT h hQ2
    rw [Array.length_toList, ← List.range_eq_range'] at key
    exact wpIn_mono (wpIn_region (wpOps_in n r hno hop _ _ _ key)) (fun e a w hh => hh.2)
  | seq x y ih1 ih2 =>
    intro hok s R T a Q tok Q' hi hT h hQ
    simp only [okB, Bool.and_eq_true] at hok
    refine wpIn_seq (ih1 hok.1 hi hT h (fun e => ?_))
    intro T1 R1 s1 a1 hK hi1 he hT1 hd
    cases e with
    | n => exact ih2 hok.2 hi1 hT1 hK (hQ.step he hd)
    | x id => exact hQ (.x id) T1 R1 s1 a1 hK hi1 he hT1 hd
    | r => exact hQ .r T1 R1 s1 a1 hK hi1 he hT1 hd
  | block id x ih =>
    intro hok s R T a Q tok Q' hi hT h hQ
    simp only [okB] at hok
    refine wpIn_block (ih hok hi hT h (fun e => ?_))
    intro T1 R1 s1 a1 hK hi1 he hT1 hd
    cases e with
    | n => exact hQ .n T1 R1 s1 a1 hK hi1 he hT1 hd
    | x id' =>
      simp only [blockK] at hK
      simp only [exitOf, Exit.inBlock]
      split
      · rename_i e
        rw [if_pos e] at hK
        exact hQ .n T1 R1 s1 a1 hK hi1 he hT1 hd
      · rename_i e
        rw [if_neg e] at hK
        exact hQ (.x id') T1 R1 s1 a1 hK hi1 he hT1 hd
    | r => exact hQ .r T1 R1 s1 a1 hK hi1 he hT1 hd
  | _ => intro hok; cases hok

/-! ### an iterator's contract: it gives these numbers -/
structure IT (P : Program) (f : FuncId) (xs : List IV) (zs : List Int) : Prop where
  cal : Callable P f
  run : ∀ (w : World) (F : Nat → Prop) (β : Nat → Option (Nat × Nat)) (vs : Array Value) (l : Nat) (J : List Int → (Nat → Prop) → World → Prop),
    (∀ b, F b → b < w.heap.size) → RelL ⟨w, F, β⟩ [] xs vs.toList →
    (∀ pre C W W', J pre C W → Below W.heap.size W W' → J pre C W') →
    (∀ pre C W, J pre C W → ∀ b, C b → b < W.heap.size) →
    (∀ n pre x C W, (pre ++ [x]) <+: zs → J pre C W → YieldAt Fence.wide n P l #[.int .i64 x] W (fun e W' => e = .returned (.bool true) ∧ ∃ C', J (pre ++ [x]) C' W' ∧
      (∀ b, b < W.heap.size → ¬ C b → W'.heap[b]? = W.heap[b]?) ∧ (∀ b, C' b → C b ∨ W.heap.size ≤ b))) →
    ∀ C, J [] C w → (∀ b, F b → ¬ C b) →
    Calls P f (#[.func (.yield l) #[] #[]] ++ vs) w fun e w' => (∃ v, e = .returned v) ∧ ∃ C', J zs C' w'
end Go.Iv
set_option linter.unusedVariables false
set_option linter.unusedSimpArgs false
namespace Go.Iv
open Go.RowKit
/-! An iterator's body, evaluated: what it gives is told step by step. -/
theorem i_inv {s : CS} {R : List Reg} {k : IntKind} {n : Int} {v : Value} (h : Rel s R (.i k n) v) : v = .int k n := by cases h; rfl
structure YC (P : Program) where
  zs : List Int
  l : Nat
  J : List Int → (Nat → Prop) → World → Prop
  st : ∀ pre C W W', J pre C W → Below W.heap.size W W' → J pre C W'
  lt : ∀ pre C W, J pre C W → ∀ b, C b → b < W.heap.size
  y : ∀ n pre x C W, (pre ++ [x]) <+: zs → J pre C W → YieldAt Fence.wide n P l #[.int .i64 x] W (fun e W' => e = .returned (.bool true) ∧ ∃ C', J (pre ++ [x]) C' W' ∧
      (∀ b, b < W.heap.size → ¬ C b → W'.heap[b]? = W.heap[b]?) ∧ (∀ b, C' b → C b ∨ W.heap.size ≤ b))

structure StY {P : Program} (X : YC P) (s : CS) (T : List IV) (pre : List Int) (a : Act) : Prop where
  T : RelT s [] T a.tmps
  F : ∀ b, s.F b → b < s.w.heap.size
  d : a.defers = []
  J : ∃ C, X.J pre C s.w ∧ ∀ b, s.F b → ¬ C b

abbrev PY := Ex → List IV → List Int → Prop
def PostY {P : Program} (X : YC P) (Q : PY) (Q' : Exit → Act → World → Prop) : Prop := ∀ e T pre s a, Q e T pre → StY X s T pre a → Q' (exitOf e) a s.w
def Sg {P : Program} (X : YC P) (c : Code) (T : List IV) (pre : List Int) (Q : PY) : Prop := ∀ s a Q', StY X s T pre a → PostY X Q Q' → c.wp P Q' a s.w

theorem StY.start {P : Program} {X : YC P} {s : CS} {T : List IV} {pre : List Int} {a : Act} (h : StY X s T pre a) : Inv ⟨s.w, fun b => true = true ∧ s.F b, fun _ => none⟩ s [] := Inv.start s.w s.F s.β h.F
theorem StY.next {P : Program} {X : YC P} {s s1 : CS} {T T1 : List IV} {pre : List Int} {a a1 : Act} (h : StY X s T pre a) (hi : Inv ⟨s.w, fun b => true = true ∧ s.F b, fun _ => none⟩ s1 []) (hT : RelT s1 [] T1 a1.tmps) (hd : a1.defers = []) : StY X s1 T1 pre a1 := by
  obtain ⟨C, hJ, hC⟩ := h.J
  refine ⟨hT, hi.hF, hd, C, X.st _ _ _ _ hJ hi.below, fun b hb hc => ?_⟩
  rcases hi.fg b hb with k | k
  · exact hC b k.2 hc
  · have k' : s.w.heap.size ≤ b := k
    have := X.lt _ _ _ hJ b hc
    omega

theorem Sg.ofW {P : Program} {X : YC P} {E : Env} {an : List (Nat × Nat × An)} {c : Code} {T : List IV} {pre : List Int} {Q : PY} (hE : EnvOK P E) (hm : P.follows .mixedOrders = true) (hok : okC an c = true)
    {t : Tok (fun e T1 R1 => R1 = [] ∧ Q e T1 pre : Post)} (h : W E an c T [] (fun e T1 R1 => R1 = [] ∧ Q e T1 pre) t) : Sg X c T pre Q := by
  intro s a Q' hs hQ
  refine W_sound hE hm c hok hs.start hs.T h (fun e => ?_)
  rintro T1 R1 s1 a1 ⟨rfl, hq⟩ hi1 he hT1 hd
  exact hQ e T1 pre s1 a1 hq (hs.next hi1 hT1 (hd.trans hs.d))
def seqY (K : List IV → List Int → Prop) (Q : PY) : PY
  | .n, T, p => K T p
  | e, T, p => Q e T p
theorem Sg.seq {P : Program} {X : YC P} {x y : Code} {T : List IV} {pre : List Int} {Q : PY} (h : Sg X x T pre (seqY (fun T p => Sg X y T p Q) Q)) : Sg X (.seq x y) T pre Q := by
  intro s a Q' hs hQ
  refine wp_seq (h s a _ hs (fun e T1 p s1 a1 hq h1 => ?_))
  cases e with
  | n => exact hq s1 a1 Q' h1 hQ
  | x id => exact hQ (.x id) T1 p s1 a1 hq h1
  | r => exact hQ .r T1 p s1 a1 hq h1
theorem Sg.cond {P : Program} {X : YC P} {c : Operand} {x y : Code} {T : List IV} {pre : List Int} {Q : PY} {v : Bool} (hv : evI T c = .b v) (h1 : v = true → Sg X x T pre Q) (h2 : v = false → Sg X y T pre Q) : Sg X (.cond c x y) T pre Q := by
  intro s a Q' hs hQ
  have hc := hs.T.ev c
  rw [hv] at hc
  cases v with
  | true => exact wp_cond_true (b_inv hc) (h1 rfl s a Q' hs hQ)
  | false => exact wp_cond_false (b_inv hc) (h2 rfl s a Q' hs hQ)
def blockY (id : Nat) (Q : PY) : PY
  | .x id', T, R => if id' = id then Q .n T R else Q (.x id') T R
  | e, T, R => Q e T R
theorem Sg.block {P : Program} {X : YC P} {id : Nat} {x : Code} {T : List IV} {pre : List Int} {Q : PY} (h : Sg X x T pre (blockY id Q)) : Sg X (.block id x) T pre Q := by
  intro s a Q' hs hQ
  refine wp_block (h s a _ hs (fun e T1 p s1 a1 hq h1 => ?_))
  cases e with
  | n => exact hQ .n T1 p s1 a1 hq h1
  | x id' =>
    simp only [blockY] at hq
    simp only [exitOf, Exit.inBlock]
    split
    · rename_i e
      rw [if_pos e] at hq
      exact hQ .n T1 p s1 a1 hq h1
    · rename_i e
      rw [if_neg e] at hq
      exact hQ (.x id') T1 p s1 a1 hq h1
  | r => exact hQ .r T1 p s1 a1 hq h1
theorem Sg.loop {P : Program} {X : YC P} {x : Code} {T : List IV} {pre : List Int} {Q : PY} (I : List IV → List Int → Prop) (m : List IV → List Int → Nat) (h0 : I T pre)
    (h : ∀ T p, I T p → Sg X x T p (seqY (fun T1 p1 => I T1 p1 ∧ m T1 p1 < m T p) Q)) : Sg X (.loop x) T pre Q := by
  intro s a Q' hs hQ
  refine wp_loop_rel (fun n a' w' => ∃ T' p' s', I T' p' ∧ m T' p' = n ∧ s'.w = w' ∧ StY X s' T' p' a') (n := m T pre) ⟨T, pre, s, h0, rfl, rfl, hs⟩ ?_
  rintro n a' w' ⟨T', p', s', h1, h2, rfl, h3⟩
  refine h T' p' h1 s' a' _ h3 (fun e T1 p1 s1 a1 hq hs1 => ?_)
  cases e with
  | n => exact ⟨m T1 p1, h2 ▸ hq.2, T1, p1, s1, hq.1, rfl, rfl, hs1⟩
  | x id => exact hQ (.x id) T1 p1 s1 a1 hq hs1
  | r => exact hQ .r T1 p1 s1 a1 hq hs1
theorem Sg.loopN {P : Program} {X : YC P} {x : Code} {T : List IV} {pre : List Int} {Q : PY} (I : Nat → List IV → List Int → Prop) (n : Nat) (h0 : I n T pre)
    (h : ∀ n T p, I n T p → Sg X x T p (seqY (fun T1 p1 => ∃ n', n' < n ∧ I n' T1 p1) Q)) : Sg X (.loop x) T pre Q := by
  intro s a Q' hs hQ
  refine wp_loop_rel (fun n a' w' => ∃ T' p' s', I n T' p' ∧ s'.w = w' ∧ StY X s' T' p' a') (n := n) ⟨T, pre, s, h0, rfl, hs⟩ ?_
  rintro n a' w' ⟨T', p', s', h1, rfl, h3⟩
  refine h n T' p' h1 s' a' _ h3 (fun e T1 p1 s1 a1 hq hs1 => ?_)
  cases e with
  | n => obtain ⟨n', h4, h5⟩ := hq; exact ⟨n', h4, T1, p1, s1, h5, rfl, hs1⟩
  | x id => exact hQ (.x id) T1 p1 s1 a1 hq hs1
  | r => exact hQ .r T1 p1 s1 a1 hq hs1
theorem Sg.mono {P : Program} {X : YC P} {c : Code} {T : List IV} {pre : List Int} {Q Q' : PY} (h : Sg X c T pre Q) (hq : ∀ e T p, Q e T p → Q' e T p) : Sg X c T pre Q' :=
  fun s a K hs hK => h s a K hs (fun e T p s1 a1 h1 h2 => hK e T p s1 a1 (hq _ _ _ h1) h2)

/-! regions with calls of yield -/
def stepY (E : Env) (an : An) {P : Program} (X : YC P) (o : Op) (T : List IV) (pre : List Int) (K : IV → List Int → Prop) : Prop :=
  stepW E an o T [] (fun v R1 => R1 = [] ∧ K v pre) .mk ∨
  ∃ g a ts x, o = .call ⟨.value g, #[a], ts⟩ ∧ evI T g = .fn (.yield X.l) [] [] ∧ evI T a = .i .i64 x ∧ (pre ++ [x]) <+: X.zs ∧ K (.b true) (pre ++ [x])
def opsY (E : Env) (an : Nat → An) {P : Program} (X : YC P) (all : List Oper) : Nat → List Oper → List IV → List Int → (K : List IV → List Int → Prop) → Prop
  | _, [], T, p, K => K T p
  | ix, o :: os, T, p, K => match o.guard with
    | none => stepY E (an ix) X o.op T p (fun v p1 => opsY E an X all (ix + 1) os (putT T o.dst v) p1 K)
    | some (j, want) => ∃ d, yieldI all j = some d ∧ ((getT T d = .b want ∧ stepY E (an ix) X o.op T p (fun v p1 => opsY E an X all (ix + 1) os (putT T o.dst v) p1 K)) ∨
        ((getT T d = .b (!want) ∨ ∃ xs, getT T d = .tu xs) ∧ opsY E an X all (ix + 1) os (putT T o.dst (.tu [])) p K))

theorem stepY_sound {P : Program} {E : Env} {X : YC P} {s : CS} {T : List IV} {pre : List Int} {a : Act} {an : An} {o : Oper} {K : IV → List Int → Prop} (hE : EnvOK P E) (hok : okOp o = true) (n : Nat) (hs : StY X s T pre a) (h : stepY E an X o.op T pre K)
    {next : Act → World → Prop} {Q : Exit → Act → World → Prop} (hn : ∀ v p s1 y, K v p → (∀ T1 R, RelT s [] T1 R → RelT s1 [] T1 R) → (∀ T1 a1, RelT s1 [] T1 a1.tmps → a1.defers = [] → StY X s1 T1 p a1) → Rel s1 [] v y → next (a.put o.dst y) s1.w) : o.wpIn (rF none) n P a s.w next Q := by
  rcases h with h | ⟨g, x, ts, z, ho, hg, hx, hpre, hK⟩
  · refine oper_in n none (okOp_def hok) (stepW_sound hE hs.start hs.T h ?_)
    rintro v y s1 R1 ⟨rfl, hK⟩ hi1 he hr
    exact hn v pre s1 y hK (fun T1 R hh => hh.ext he) (fun T1 a1 hT1 hd => hs.next hi1 hT1 hd) hr
  · refine ⟨fun f _ => rF_fn none f, ?_⟩
    rw [Oper.semAt_eq _ _ _ (okOp_def hok)]
    have hgv := hs.T.ev g
    rw [hg] at hgv
    obtain ⟨vs, us, hv, hl, hl2⟩ := fn_inv hgv
    have e1 : vs = #[] := by have := hl.1; simp at this; exact Array.eq_empty_of_size_eq_zero this.symm
    have e2 : us = #[] := by have := hl2.1; simp at this; exact Array.eq_empty_of_size_eq_zero this.symm
    subst e1; subst e2
    have hxv := hs.T.ev x
    rw [hx] at hxv
    have hxe : a.eval x = .int .i64 z := i_inv hxv
    obtain ⟨C, hJ, hC⟩ := hs.J
    obtain ⟨fn, tmps, assign, body, hy, hR⟩ := X.y (n - 1) pre z C s.w hpre hJ
    obtain ⟨dst, op, ty, pos, after, guard⟩ := o
    dsimp only at ho hn ⊢
    subst ho
    have hrun : (execOp a.eval ⟨dst, .call ⟨.value g, #[x], ts⟩, ty, pos, after, guard⟩).run P s.w = .ok (.round X.l fn tmps assign body) s.w := by
      simp only [execOp, resolve, hv, Deferred.ofValue, invoke, Sem.run_bind, Sem.run_pure, List.map_toArray, List.map_cons, List.map_nil, hxe]
      exact hy
    rw [hrun]
    refine ⟨fun e => (by cases e), RoundIn.mono hR ?_⟩
    rintro e W' ⟨rfl, C', hJ', k1, k2⟩
    have key : ∀ b, s.F b → W'.heap[b]? = s.w.heap[b]? := fun b hb => k1 b (hs.F b hb) (hC b hb)
    have ext : Ext s [] ⟨W', s.F, s.β⟩ [] := ⟨fun b hb => hb, key, fun r => RegExt.refl _ _⟩
    refine hn (.b true) (pre ++ [z]) ⟨W', s.F, s.β⟩ (.bool true) hK (fun T1 R hh => hh.ext ext) (fun T1 a1 hT1 hd => ⟨hT1, fun b hb => (Array.getElem?_eq_some_iff.1 ((key b hb).trans (Array.getElem?_eq_getElem (hs.F b hb)))).1, hd, C', hJ', fun b hb hc => ?_⟩) (.b _ _)
    rcases k2 b hc with q | q
    · exact hC b hb q
    · have := hs.F b hb; omega

theorem opsY_sound {P : Program} {E : Env} {X : YC P} {an : Nat → An} {ops : Array Oper} {K : List IV → List Int → Prop} {Q : Exit → Act → World → Prop} (hE : EnvOK P E) (n : Nat) (hall : ∀ (i : Nat) (o : Oper), ops[i]? = some o → okOp o = true) : ∀ (os : List Oper) (ix : Nat) {s : CS} {T : List IV} {pre : List Int} {a : Act},
    ops.toList.drop ix = os → StY X s T pre a → opsY E an X ops.toList ix os T pre K → (∀ T p s a, K T p → StY X s T p a → Q .normal a s.w) → wpOpsIn (rF none) n P ops Q (List.range' ix os.length) a s.w
  | [], ix, s, T, pre, a, hd, hs, h, hQ => hQ _ _ s a h hs
  | o :: os, ix, s, T, pre, a, hd, hs, h, hQ => by
    have ho : ops[ix]? = some o := by
      have := congrArg (·[0]?) hd
      simpa using this
    have hd' : ops.toList.drop (ix + 1) = os := by
      have := congrArg (List.drop 1) hd
      simpa using this
    have hok := hall ix o ho
    have put_d : ∀ (y : Value), (a.put o.dst y).defers = [] := fun y => (Act.put_defers' _ _ _).trans hs.d
    have go : stepY E (an ix) X o.op T pre (fun v p1 => opsY E an X ops.toList (ix + 1) os (putT T o.dst v) p1 K) → o.wpIn (rF none) n P a s.w (wpOpsIn (rF none) n P ops Q (List.range' (ix + 1) os.length)) Q := fun hst =>
      stepY_sound hE hok n hs hst (fun v p s1 y hK hT hst1 hr => opsY_sound hE n hall os (ix + 1) hd' (hst1 _ _ ((hT _ _ hs.T).put _ hr) (put_d y)) hK hQ)
    rw [List.length_cons, List.range'_succ]
    simp only [wpOpsIn, ho]
    simp only [opsY] at h
    split at h
    · rename_i hg
      rw [show Region.wanted o (yielded ops a.tmps) = true by simp [Region.wanted, hg], if_pos rfl]
      exact go h
    · rename_i j want hg
      obtain ⟨d, hd1, h⟩ := h
      rcases h with ⟨hv, h⟩ | ⟨hv, h⟩
      · have hy := yielded_b hs.T hd1 hv
        rw [show Region.wanted o (yielded ops a.tmps) = true by simp [Region.wanted, hg, hy], if_pos rfl]
        exact go h
      · have hw : Region.wanted o (yielded ops a.tmps) = false := by
          rcases hv with hv | ⟨xs, hv⟩
          · have hy := yielded_b hs.T hd1 hv
            cases want <;> simp [Region.wanted, hg, hy]
          · have hy := yielded_tu hs.T hd1 hv
            simp [Region.wanted, hg, hy]
        rw [hw, if_neg (by simp)]
        refine ⟨fun f _ => rF_fn none f, opsY_sound hE n hall os (ix + 1) hd' (T := putT T o.dst (.tu [])) (pre := pre) ⟨hs.T.put _ (.tu _ _ _ rfl (fun j x v hx => by simp at hx)), hs.F, put_d undef, hs.J⟩ h hQ⟩

theorem Sg.region {P : Program} {E : Env} {X : YC P} {an : Nat → An} {id : Nat} {ops : Array Oper} {T : List IV} {pre : List Int} {Q : PY} (hE : EnvOK P E) (hall : ops.all okOp = true) (h : opsY E an X ops.toList 0 ops.toList T pre (Q .n)) : Sg X (.region id ops false) T pre Q := by
  intro s a Q' hs hQ
  refine (wpIn_wide (n := 0)).1 (wpIn_region ?_)
  have := opsY_sound (Q := Q') hE 0 (fun i o ho => by
    obtain ⟨hlt, he⟩ := Array.getElem?_eq_some_iff.1 ho
    have := Array.all_eq_true.1 hall i hlt
    rwa [he] at this) ops.toList 0 (by simp) hs h (fun T p s a hk h1 => hQ .n T p s a hk h1)
  rwa [Array.length_toList, ← List.range_eq_range'] at this


section
variable {E : Env} {an : Nat → An} {P : Program} {X : YC P} {all os : List Oper} {ix : Nat} {T : List IV} {p : List Int} {K : List IV → List Int → Prop} {d : Option Nat} {op : Op} {ty : TypeId} {pos : String} {af : Array Edge}
theorem oY_p (h : stepY E (an ix) X op T p (fun v p1 => opsY E an X all (ix + 1) os (putT T d v) p1 K)) : opsY E an X all ix (⟨d, op, ty, pos, af, none⟩ :: os) T p K := h
theorem oY_t {j dj : Nat} {want : Bool} (hj : yieldI all j = some dj) (hv : getT T dj = .b want) (h : stepY E (an ix) X op T p (fun v p1 => opsY E an X all (ix + 1) os (putT T d v) p1 K)) : opsY E an X all ix (⟨d, op, ty, pos, af, some (j, want)⟩ :: os) T p K := ⟨dj, hj, .inl ⟨hv, h⟩⟩
theorem oY_f {j dj : Nat} {want : Bool} (hj : yieldI all j = some dj) (hv : getT T dj = .b (!want)) (h : opsY E an X all (ix + 1) os (putT T d (.tu [])) p K) : opsY E an X all ix (⟨d, op, ty, pos, af, some (j, want)⟩ :: os) T p K := ⟨dj, hj, .inr ⟨.inl hv, h⟩⟩
theorem oY_n (h : K T p) : opsY E an X all ix [] T p K := h
theorem sY {a : An} {K : IV → List Int → Prop} (h : stepW E a op T [] (fun v R1 => R1 = [] ∧ K v p) .mk) : stepY E a X op T p K := .inl h
theorem sYy {a : An} {K : IV → List Int → Prop} {g x : Operand} {ts : Array TypeId} {z : Int} (hg : evI T g = .fn (.yield X.l) [] []) (hx : evI T x = .i .i64 z) (hp : (p ++ [z]) <+: X.zs) (hK : K (.b true) (p ++ [z])) : stepY E a X (.call ⟨.value g, #[x], ts⟩) T p K := .inr ⟨g, x, ts, z, rfl, hg, hx, hp, hK⟩
end
/-- AN ITERATOR's CONTRACT, out of its body. -/
theorem IT_of_Sg {P : Program} {f : FuncId} {fn : Func} (hf : P.funcs[f]? = some fn) (hn : (fn.name == "runtime.NumGoroutine") = false) (hb : fn.body.isSome = true) (hr : fn.results = #[])
    {xs : List IV} {zs : List Int} (h : ∀ X : YC P, X.zs = zs → ∀ T, T = initT fn.ntmps (.fn (.yield X.l) [] [] :: xs) → Sg X (bodyOf fn) T [] (fun e T p => (e = .n ∨ e = .r) ∧ p = zs)) : IT P f xs zs := by
  refine ⟨⟨fn, hf, hn, by rw [bodyOf_some fn hb]; rfl⟩, fun w F β vs l J hF hx hst hlt hy C hJ hC => ?_⟩
  have hX := h ⟨zs, l, J, hst, hlt, hy⟩ rfl _ rfl
  have hargs : RelL ⟨w, F, β⟩ [] (.fn (.yield l) [] [] :: xs) (#[.func (.yield l) #[] #[]] ++ vs : Array Value).toList := by
    have := RelL.cons (s := ⟨w, F, β⟩) (R := []) (x := .fn (.yield l) [] []) (v := .func (.yield l) #[] #[]) (.fn _ _ _ _ _ _ rfl rfl (fun j x v hx => by simp at hx) (fun j x v hx => by simp at hx)) hx
    simpa using this
  refine calls_of_wp hf (bodyOf_some fn hb) (hX ⟨w, F, β⟩ _ _ ⟨initT_rel fn.ntmps hargs, hF, rfl, C, hJ, hC⟩ ?_)
  rintro e T p s a ⟨he, hp⟩ hs
  obtain ⟨C', hJ', _⟩ := hs.J
  have hrun : (results fn a.tmps).run P s.w = .ok (.tuple #[]) s.w := by
    unfold results
    rw [hr]
    simp
  rw [hp] at hJ'
  rcases he with rfl | rfl
  · exact ⟨hs.d, _, hrun, ⟨_, rfl⟩, C', hJ'⟩
  · exact ⟨hs.d, _, hrun, ⟨_, rfl⟩, C', hJ'⟩
end Go.Iv
