import Derived.Test.YtapigbgcghekgaaM06
import Derived.Laws.Sem
set_option linter.unusedVariables false
set_option linter.unusedSimpArgs false
set_option linter.unusedVariables false
set_option linter.unusedSimpArgs false
namespace Go.Iv
open Go.RowKit

def wantI (all : List Oper) (o : Oper) (T : List IV) : Option Bool := match o.guard with
  | none => some true
  | some (j, want) => match yieldI all j with
    | some d => (match getT T d with | .b x => some (x == want) | .tu _ => some false | _ => none)
    | none => none
def Stp (E : Env) (an : An) (all : List Oper) (o : Oper) (T : List IV) (R : List Reg) (v : IV) (R1 : List Reg) : Prop :=
  (wantI all o T = some true ∧ Out E an o.op T R v R1) ∨ (wantI all o T = some false ∧ v = .tu [] ∧ R1 = R)

theorem stpW_iff {E : Env} {an : An} {all : List Oper} {o : Oper} {T : List IV} {R : List Reg} {K : List IV → List Reg → Prop} {t : Tok (all, K)} :
    stpW E an all o T R K t ↔ ∃ v R1, Stp E an all o T R v R1 ∧ K (putT T o.dst v) R1 := by
  unfold stpW Stp wantI
  cases hg : o.guard with
  | none =>
    dsimp only
    rw [stepW_iff]
    constructor
    · rintro ⟨v, R1, h1, h2⟩; exact ⟨v, R1, .inl ⟨rfl, h1⟩, h2⟩
    · rintro ⟨v, R1, h1, h2⟩
      rcases h1 with ⟨_, h1⟩ | ⟨h1, _⟩
      · exact ⟨v, R1, h1, h2⟩
      · cases h1
  | some g =>
    obtain ⟨j, want⟩ := g
    dsimp only
    cases hd : yieldI all j with
    | none =>
      dsimp only
      constructor
      · intro h; exact h.elim
      · rintro ⟨v, R1, h1, h2⟩
        rcases h1 with ⟨h1, _⟩ | ⟨h1, _⟩ <;> cases h1
    | some d =>
      dsimp only [onO]
      have self := setT_self T d
      cases hx : getT T d with
      | b x =>
        rw [hx] at self
        unfold guardW
        dsimp only
        by_cases hw : x = want
        · rw [if_pos hw]
          subst hw
          rw [self, stepW_iff]
          constructor
          · rintro ⟨v, R1, h1, h2⟩; exact ⟨v, R1, .inl ⟨by simp, h1⟩, h2⟩
          · rintro ⟨v, R1, h1, h2⟩
            rcases h1 with ⟨_, h1⟩ | ⟨h1, _⟩
            · exact ⟨v, R1, h1, h2⟩
            · simp at h1
        · rw [if_neg hw]
          have e : (!want) = x := by cases x <;> cases want <;> simp_all
          rw [e, self]
          constructor
          · intro h; exact ⟨_, _, .inr ⟨by simp [hw], rfl, rfl⟩, h⟩
          · rintro ⟨v, R1, h1, h2⟩
            rcases h1 with ⟨h1, _⟩ | ⟨_, rfl, rfl⟩
            · simp [hw] at h1
            · exact h2
      | tu l =>
        unfold guardW
        dsimp only
        constructor
        · intro h; exact ⟨_, _, .inr ⟨rfl, rfl, rfl⟩, h⟩
        · rintro ⟨v, R1, h1, h2⟩
          rcases h1 with ⟨h1, _⟩ | ⟨_, rfl, rfl⟩
          · cases h1
          · exact h2
      | _ =>
        unfold guardW
        dsimp only
        constructor
        · intro h; exact h.elim
        · rintro ⟨v, R1, h1, h2⟩
          rcases h1 with ⟨h1, _⟩ | ⟨h1, _⟩ <;> cases h1

theorem getT_setT_ne : ∀ (T : List IV) (d t : Nat) (u : IV), d ≠ t → getT (setT T d u) t = getT T t
  | [], d, t, u, h => by cases d <;> rfl
  | x :: T, 0, 0, u, h => absurd rfl h
  | x :: T, 0, t + 1, u, h => rfl
  | x :: T, d + 1, 0, u, h => rfl
  | x :: T, d + 1, t + 1, u, h => by simp only [setT, getT]; exact getT_setT_ne T d t u (by omega)
theorem setT_comm : ∀ (T : List IV) (d t : Nat) (u v : IV), d ≠ t → setT (setT T d u) t v = setT (setT T t v) d u
  | [], d, t, u, v, h => by cases d <;> cases t <;> rfl
  | x :: T, 0, 0, u, v, h => absurd rfl h
  | x :: T, 0, t + 1, u, v, h => rfl
  | x :: T, d + 1, 0, u, v, h => rfl
  | x :: T, d + 1, t + 1, u, v, h => by simp only [setT]; rw [setT_comm T d t u v (by omega)]
theorem putT_comm (T : List IV) (x y : Option Nat) (u v : IV) (h : ∀ d, x = some d → y ≠ some d) : putT (putT T x u) y v = putT (putT T y v) x u := by
  cases x with
  | none => rfl
  | some d => cases y with
    | none => rfl
    | some t => exact setT_comm T d t u v (fun e => h d rfl (by rw [e]))
theorem evI_put {T : List IV} {d : Option Nat} {u : IV} {x : Operand} (h : ∀ t, d = some t → x ≠ .tmp t) : evI (putT T d u) x = evI T x := by
  cases d with
  | none => rfl
  | some d => cases x with
    | tmp t => exact getT_setT_ne T d t u (fun e => h d rfl (by rw [e]))
    | _ => rfl

theorem opI_congr {tys : Tys} {an : An} {op : Op} {T T' : List IV} {R : List Reg} (h : ∀ x ∈ op.operands, evI T x = evI T' x) : opI tys an op T R = opI tys an op T' R := by
  have pairs : ∀ ps : Array (Nat × Operand), (∀ x ∈ ps.map (·.2), evI T x = evI T' x) → (ps.toList.map fun p => (p.1, evI T p.2)) = (ps.toList.map fun p => (p.1, evI T' p.2)) := fun ps hp =>
    List.map_congr_left fun p hm => by
      rw [hp p.2 (Array.mem_map.2 ⟨p, by simpa using hm, rfl⟩)]
  have opt : ∀ o : Option Operand, (∀ x, o = some x → evI T x = evI T' x) → optI T o = optI T' o := fun o ho => by
    cases o with
    | none => rfl
    | some x => simp only [optI, ho x rfl]
  cases op <;> simp only [Op.operands] at h <;> simp only [opI]
  case build t ps => rw [pairs ps fun x hx => h x (by simpa using hx)]
  case buildSlice t n ps => rw [pairs ps fun x hx => h x (by simpa using hx)]
  case makeFunc fn first captured =>
    rw [List.map_congr_left (l := first.toList) fun x hx => h x (Array.mem_append.2 (.inl (Array.mem_toList_iff.1 hx))), List.map_congr_left (l := captured.toList) fun x hx => h x (Array.mem_append.2 (.inr (Array.mem_toList_iff.1 hx)))]
  case slice t x lo hi mx =>
    rw [opt lo fun y e => h y (by subst e; cases hi <;> cases mx <;> simp), opt hi fun y e => h y (by subst e; cases lo <;> cases mx <;> simp), opt mx fun y e => h y (by subst e; cases lo <;> cases hi <;> simp), h x (by cases lo <;> cases hi <;> cases mx <;> simp)]
  all_goals (first | rfl | (simp_all; done))

theorem Out.congr {E : Env} {an : An} {op : Op} {T T' : List IV} {R R1 : List Reg} {v : IV} (h : Out E an op T R v R1) (hT : ∀ x ∈ op.operands, evI T x = evI T' x) : Out E an op T' R v R1 := by
  have args : ∀ (args : Array Operand), (∀ x ∈ args, evI T x = evI T' x) → args.toList.map (evI T) = args.toList.map (evI T') := fun args ha => List.map_congr_left fun x hx => ha x (by simpa using hx)
  cases h with
  | op hn h => exact .op hn (opI_congr hT ▸ h)
  | bi h => rw [args _ fun x hx => hT x (by simp [Op.operands, Call.operands, hx])] at h; exact .bi h
  | pc hi hg h1 h2 h3 =>
    rw [args _ fun x hx => hT x (by simp [Op.operands, Call.operands, hx])] at h1
    exact .pc hi ((hT _ (by simp [Op.operands, Call.operands])).symm.trans hg) h1 h2 h3
  | ic hi hg h1 =>
    rw [args _ fun x hx => hT x (by simp [Op.operands, Call.operands, hx])] at h1
    exact .ic hi ((hT _ (by simp [Op.operands, Call.operands])).symm.trans hg) h1

theorem wantI_put {ops : Array Oper} {o : Oper} {T : List IV} {d : Option Nat} {u : IV} (h : ∀ t, d = some t → t ∉ o.looksAt ops) : wantI ops.toList o (putT T d u) = wantI ops.toList o T := by
  cases d with
  | none => rfl
  | some d =>
    unfold wantI
    cases hg : o.guard with
    | none => rfl
    | some g =>
      obtain ⟨j, want⟩ := g
      dsimp only
      cases hy : yieldI ops.toList j with
      | none => rfl
      | some t =>
        dsimp only
        rw [yieldI_eq] at hy
        rw [show getT (putT T (some d) u) t = getT T t from getT_setT_ne T d t u (fun e => h d rfl (by subst e; simp [Oper.looksAt, hg, hy]))]
theorem Stp.put {E : Env} {an : An} {ops : Array Oper} {o : Oper} {T : List IV} {R R1 : List Reg} {v : IV} {d : Option Nat} {u : IV} (h : ∀ t, d = some t → t ∉ o.looksAt ops) :
    Stp E an ops.toList o (putT T d u) R v R1 ↔ Stp E an ops.toList o T R v R1 := by
  have ev : ∀ x ∈ o.op.operands, evI (putT T d u) x = evI T x := fun x hx => evI_put fun t ht e => h t ht (by
    subst e
    exact List.mem_append_left _ (List.mem_filterMap.2 ⟨.tmp t, by simpa using hx, rfl⟩))
  unfold Stp
  rw [wantI_put h]
  constructor
  · rintro (⟨h1, h2⟩ | h1)
    · exact .inl ⟨h1, h2.congr ev⟩
    · exact .inr h1
  · rintro (⟨h1, h2⟩ | h1)
    · exact .inl ⟨h1, h2.congr fun x hx => (ev x hx).symm⟩
    · exact .inr h1

/-! ### any order -/
def anyI (E : Env) (an : Nat → An) (md : Region.Mode) (ops : Array Oper) (K : List IV → List Reg → Prop) : Nat → Array Bool → List IV → List Reg → Prop
  | 0, listed, T, R => Region.ready md ops listed = [] ∧ K T R
  | fuel + 1, listed, T, R => (Region.ready md ops listed = [] → K T R) ∧
      ∀ i ∈ Region.ready md ops listed, ∀ o, ops[i]? = some o → ∃ v R1, Stp E (an i) ops.toList o T R v R1 ∧ anyI E an md ops K fuel (listed.setIfInBounds i true) (putT T o.dst v) R1

theorem anyI_sound {P : Program} {E : Env} {w0 : Base} {an : Nat → An} {md : Region.Mode} {ops : Array Oper} {K : List IV → List Reg → Prop} {Q : Exit → Act → World → Prop} (hE : EnvOK P E) : ∀ (fuel : Nat) (listed : Array Bool) {s : CS} {R : List Reg} {T : List IV} {a : Act},
    Inv w0 s R → RelT s R T a.tmps → anyI E an md ops K fuel listed T R → After w0 s R a K (Q .normal) → wpAny P md ops Q fuel listed a s.w := by
  intro fuel
  induction fuel with
  | zero => intro listed s R T a hi hT h hQ; exact ⟨h.1, hQ T R s a h.2 hi (Ext.refl _ _) hT rfl⟩
  | succ fuel ih =>
    intro listed s R T a hi hT h hQ
    refine ⟨fun hr => hQ T R s a (h.1 hr) hi (Ext.refl _ _) hT rfl, fun i hir => ?_⟩
    obtain ⟨_, o, ho, _⟩ := mem_ready.1 hir
    have hs := stpW_iff (t := .mk) (K := fun T1 R1 => anyI E an md ops K fuel (listed.setIfInBounds i true) T1 R1) |>.2 (h.2 i hir o ho)
    exact stpW_sound hE ho hi hT hs (fun T1 R1 s1 a1 hK hi1 he hT1 hd => ih _ hi1 hT1 hK (hQ.step he hd))

theorem anyI_first {E : Env} {an : Nat → An} {md : Region.Mode} {ops : Array Oper} {K : List IV → List Reg → Prop} {i : Nat} {oi : Oper} {v : IV} {C : List Reg → Prop} (hi : ops[i]? = some oi) : ∀ (fuel : Nat) (listed : Array Bool) (T : List IV) (R : List Reg),
      (∀ j oj, ops[j]? = some oj → j ≠ i → listed.getD j true = false → (∀ e ∈ oj.after, Region.binds md e = true → e.on ≠ i) → oi.apart ops oj = true ∧ ∀ T R v R1, C R → Stp E (an j) ops.toList oj T R v R1 → C R1) →
      i ∈ Region.ready md ops listed → C R → (∀ R, C R → Stp E (an i) ops.toList oi T R v R) →
      anyI E an md ops K fuel (listed.setIfInBounds i true) (putT T oi.dst v) R → anyI E an md ops K (fuel + 1) listed T R := by
  intro fuel
  induction fuel with
  | zero =>
    intro listed T R _ hr hC hy H
    refine ⟨fun h => (by rw [h] at hr; cases hr), fun j hj o ho => ?_⟩
    by_cases hji : j = i
    · subst hji; rw [hi] at ho; injection ho with ho; subst ho; exact ⟨v, R, hy R hC, H⟩
    · have := ready_mono hj hji
      rw [H.1] at this
      cases this
  | succ fuel ih =>
    intro listed T R hfree hr hC hy H
    refine ⟨fun h => (by rw [h] at hr; cases hr), fun j hj oj hoj => ?_⟩
    by_cases hji : j = i
    · subst hji; rw [hi] at hoj; injection hoj with hoj; subst hoj; exact ⟨v, R, hy R hC, H⟩
    · obtain ⟨u, R1, h1, h2⟩ := H.2 j (ready_mono hj hji) oj hoj
      obtain ⟨hjun, oj', hoj', hall⟩ := mem_ready.1 hj
      rw [hoj] at hoj'; injection hoj' with hoj'; subst hoj'
      have hnot : ∀ e ∈ oj.after, Region.binds md e = true → e.on ≠ i := fun e he hb heq => by
        have h1 := hall e he hb
        have h0 := (mem_ready.1 hr).1
        rw [heq] at h1
        rcases Nat.lt_or_ge i listed.size with h' | h'
        · simp [h'] at h0 h1; rw [h0] at h1; cases h1
        · simp [Array.getElem?_eq_none h'] at h1
      obtain ⟨hap, hpre⟩ := hfree j oj hoj hji hjun hnot
      obtain ⟨a1, a2, a3⟩ := Oper.apart_spec hap
      rw [Stp.put a1] at h1
      have hfree' : ∀ k ok, ops[k]? = some ok → k ≠ i → (listed.setIfInBounds j true).getD k true = false →
          (∀ e ∈ ok.after, Region.binds md e = true → e.on ≠ i) → oi.apart ops ok = true ∧ ∀ T R v R1, C R → Stp E (an k) ops.toList ok T R v R1 → C R1 := fun k ok hk hki hun hno => by
        refine hfree k ok hk hki ?_ hno
        by_cases hjk : j = k
        · subst hjk; exact hjun
        · rw [getD_set_ne true hjk] at hun; exact hun
      refine ⟨u, R1, h1, ih (listed.setIfInBounds j true) (putT T oj.dst u) R1 hfree' (ready_mono hr (Ne.symm hji)) (hpre _ _ _ _ hC h1) (fun R hR => (Stp.put a3).2 (hy R hR)) ?_⟩
      rw [Array.setIfInBounds_comm _ _ hji, ← putT_comm T oi.dst oj.dst v u a2]
      exact h2

/-! ### the plan -/
def othersRead (an : Nat → An) (md : Region.Mode) (ops : Array Oper) (listed : Array Bool) (i : Nat) : Bool :=
  (List.range ops.size).all fun j => j == i || listed.getD j true || match ops[j]? with
      | some oj => oj.after.any (fun e => Region.binds md e && e.on == i) || isRead (an j) oj.op
      | none => true
def planOk (an : Nat → An) (md : Region.Mode) (ops : Array Oper) : Plan → Array Bool → Bool
  | .done, listed => (Region.ready md ops listed).isEmpty
  | .pure i p, listed => (Region.ready md ops listed).contains i && Region.free md ops listed i && planOk an md ops p (listed.setIfInBounds i true)
  | .read i p, listed => (Region.ready md ops listed).contains i && Region.free md ops listed i && othersRead an md ops listed i && ((ops[i]?).map fun o => isRead (an i) o.op).getD false && planOk an md ops p (listed.setIfInBounds i true)
  | .one i p, listed => (Region.ready md ops listed == [i]) && planOk an md ops p (listed.setIfInBounds i true)
  | .two i p j q, listed => (Region.ready md ops listed == [i, j]) && planOk an md ops p (listed.setIfInBounds i true) && planOk an md ops q (listed.setIfInBounds j true)
def Plan.depth : Plan → Nat
  | .done => 0
  | .pure _ p | .read _ p | .one _ p => p.depth + 1
  | .two _ p _ q => max p.depth q.depth + 1

theorem anyI_mono {E : Env} {an : Nat → An} {md : Region.Mode} {ops : Array Oper} {K K' : List IV → List Reg → Prop} (hK : ∀ T R, K T R → K' T R) : ∀ (fuel : Nat) (listed : Array Bool) (T : List IV) (R : List Reg), anyI E an md ops K fuel listed T R → anyI E an md ops K' fuel listed T R := by
  intro fuel
  induction fuel with
  | zero => intro listed T R h; exact ⟨h.1, hK _ _ h.2⟩
  | succ fuel ih =>
    intro listed T R h
    refine ⟨fun hr => hK _ _ (h.1 hr), fun i hir o ho => ?_⟩
    obtain ⟨v, R1, h1, h2⟩ := h.2 i hir o ho
    exact ⟨v, R1, h1, ih _ _ _ h2⟩

theorem othersRead_spec {an : Nat → An} {md : Region.Mode} {ops : Array Oper} {listed : Array Bool} {i : Nat} (h : othersRead an md ops listed i = true) (j : Nat) (oj : Oper)
    (hj : ops[j]? = some oj) (hne : j ≠ i) (hun : listed.getD j true = false) (hno : ∀ e ∈ oj.after, Region.binds md e = true → e.on ≠ i) : isRead (an j) oj.op = true := by
  simp only [othersRead, List.all_eq_true, List.mem_range] at h
  have h1 := h j (Array.getElem?_eq_some_iff.1 hj).1
  simp only [hj, Bool.or_eq_true, beq_iff_eq, hne, false_or, hun, Bool.false_eq_true] at h1
  rcases h1 with h1 | h1
  · obtain ⟨e, he, hb⟩ := Array.any_eq_true'.1 h1
    simp only [Bool.and_eq_true, beq_iff_eq] at hb
    exact absurd hb.2 (hno e he hb.1)
  · exact h1

theorem Stp.read {E : Env} {an : An} {all : List Oper} {o : Oper} {T : List IV} {R R1 : List Reg} {v : IV} (h : Stp E an all o T R v R1) (hr : isRead an o.op = true) : R1 = R := by
  rcases h with ⟨_, h⟩ | ⟨_, _, h⟩
  · exact h.read hr
  · exact h
theorem Stp.pure {E : Env} {all : List Oper} {o : Oper} {T : List IV} {v : IV} (h : Stp E .imm all o T [] v []) (R : List Reg) : Stp E .imm all o T R v R := by
  rcases h with ⟨h0, h⟩ | ⟨h0, h1, _⟩
  · exact .inl ⟨h0, h.pure R⟩
  · exact .inr ⟨h0, h1, rfl⟩
theorem isImm_eq {an : An} (h : an.isImm = true) : an = .imm := by cases an <;> simp_all [An.isImm]

theorem drawW_any {E : Env} {an : Nat → An} {md : Region.Mode} {ops : Array Oper} : ∀ (p : Plan) (fuel : Nat) (listed : Array Bool) {K : List IV → List Reg → Prop} {T : List IV} {R : List Reg} {t : Tok (ops.toList, K)},
    planOk an md ops p listed = true → p.depth ≤ fuel → drawW E an ops.toList p T R K t → anyI E an md ops K fuel listed T R := by
  intro p
  induction p with
  | done =>
    intro fuel listed K T R t hp hd h
    have hr : Region.ready md ops listed = [] := by simpa [planOk] using hp
    cases fuel with
    | zero => exact ⟨hr, h⟩
    | succ fuel => exact ⟨fun _ => h, by rw [hr]; intro i hi; cases hi⟩
  | pure i p ih =>
    intro fuel listed K T R t hp hd h
    obtain ⟨fuel, rfl⟩ : ∃ f, fuel = f + 1 := ⟨fuel - 1, by simp only [Plan.depth] at hd; omega⟩
    simp only [planOk, Bool.and_eq_true] at hp
    obtain ⟨⟨h1, h2⟩, h3⟩ := hp
    simp only [drawW] at h
    obtain ⟨o, ho, h⟩ := onO_iff.1 h
    split at ho
    · rename_i him
      obtain ⟨v, R1, h4, rfl, h5⟩ := stpW_iff.1 h
      have hi : ops[i]? = some o := by rw [← Array.getElem?_toList]; exact ho
      refine anyI_first (C := fun _ => True) (v := v) hi fuel listed T R (fun j oj hj hne hun hno => ⟨Region.free_spec hi h2 j oj hj hne hun hno, fun _ _ _ _ _ _ => trivial⟩) (by simpa using h1) trivial (fun R _ => ?_) (ih _ _ h3 (by simp only [Plan.depth] at hd; omega) h5)
      rw [isImm_eq him]
      exact h4.pure R
    · cases ho
  | read i p ih =>
    intro fuel listed K T R t hp hd h
    obtain ⟨fuel, rfl⟩ : ∃ f, fuel = f + 1 := ⟨fuel - 1, by simp only [Plan.depth] at hd; omega⟩
    simp only [planOk, Bool.and_eq_true] at hp
    obtain ⟨⟨⟨⟨h1, h2⟩, h6⟩, h7⟩, h3⟩ := hp
    simp only [drawW] at h
    obtain ⟨o, ho, h⟩ := onO_iff.1 h
    have hi : ops[i]? = some o := by rw [← Array.getElem?_toList]; exact ho
    rw [hi] at h7
    obtain ⟨v, R1, h4, h5⟩ := stpW_iff.1 h
    have e := h4.read h7
    subst e
    refine anyI_first (C := fun R => R = R1) (v := v) hi fuel listed T R1 (fun j oj hj hne hun hno => ⟨Region.free_spec hi h2 j oj hj hne hun hno, fun T R v R' hC hs => ?_⟩) (by simpa using h1) rfl (fun R hR => ?_) (ih _ _ h3 (by simp only [Plan.depth] at hd; omega) h5)
    · exact (hs.read (othersRead_spec h6 j oj hj hne hun hno)).trans hC
    · subst hR; exact h4
  | one i p ih =>
    intro fuel listed K T R t hp hd h
    obtain ⟨fuel, rfl⟩ : ∃ f, fuel = f + 1 := ⟨fuel - 1, by simp only [Plan.depth] at hd; omega⟩
    simp only [planOk, Bool.and_eq_true, beq_iff_eq] at hp
    obtain ⟨h1, h3⟩ := hp
    simp only [drawW] at h
    obtain ⟨o, ho, h⟩ := onO_iff.1 h
    have hi : ops[i]? = some o := by rw [← Array.getElem?_toList]; exact ho
    obtain ⟨v, R1, h4, h5⟩ := stpW_iff.1 h
    refine ⟨fun hr => (by rw [h1] at hr; cases hr), fun j hj oj hoj => ?_⟩
    rw [h1, List.mem_singleton] at hj
    subst hj
    rw [hi] at hoj; injection hoj with hoj; subst hoj
    exact ⟨v, R1, h4, ih _ _ h3 (by simp only [Plan.depth] at hd; omega) h5⟩
  | two i p j q ih ih2 =>
    intro fuel listed K T R t hp hd h
    obtain ⟨fuel, rfl⟩ : ∃ f, fuel = f + 1 := ⟨fuel - 1, by simp only [Plan.depth] at hd; omega⟩
    simp only [planOk, Bool.and_eq_true, beq_iff_eq] at hp
    obtain ⟨⟨h1, h3⟩, h3'⟩ := hp
    simp only [drawW] at h
    obtain ⟨T2, R2, ha, hb, hK⟩ := h
    obtain ⟨o, ho, ha⟩ := onO_iff.1 ha
    obtain ⟨o', ho', hb⟩ := onO_iff.1 hb
    have hi : ops[i]? = some o := by rw [← Array.getElem?_toList]; exact ho
    have hi' : ops[j]? = some o' := by rw [← Array.getElem?_toList]; exact ho'
    obtain ⟨v, R1, h4, h5⟩ := stpW_iff.1 ha
    obtain ⟨v', R1', h4', h5'⟩ := stpW_iff.1 hb
    have d1 : p.depth ≤ fuel := by simp only [Plan.depth] at hd; omega
    have d2 : q.depth ≤ fuel := by simp only [Plan.depth] at hd; omega
    have toK : ∀ T R, T = T2 ∧ R = R2 → K T R := by rintro T R ⟨rfl, rfl⟩; exact hK
    refine ⟨fun hr => (by rw [h1] at hr; cases hr), fun k hk ok hok => ?_⟩
    rw [h1] at hk
    rcases List.mem_cons.1 hk with rfl | hk
    · rw [hi] at hok; injection hok with hok; subst hok
      exact ⟨v, R1, h4, anyI_mono toK _ _ _ _ (ih _ _ h3 d1 h5)⟩
    · rw [List.mem_singleton] at hk
      subst hk
      rw [hi'] at hok; injection hok with hok; subst hok
      exact ⟨v', R1', h4', anyI_mono toK _ _ _ _ (ih2 _ _ h3' d2 h5')⟩

theorem region_draw {P : Program} {E : Env} {w0 : Base} {an : Nat → An} {ops : Array Oper} {K : List IV → List Reg → Prop} {Q : Exit → Act → World → Prop} (hE : EnvOK P E) (hm : P.follows .mixedOrders = true) {id : Nat} {s : CS} {R : List Reg} {T : List IV} {a : Act} {p : Plan} {tok : Tok (ops.toList, K)}
    (hp : planOk an .any ops p (Array.replicate ops.size false) = true) (hd : p.depth ≤ ops.size) (hi : Inv w0 s R) (hT : RelT s R T a.tmps) (h : drawW E an ops.toList p T R K tok) (hQ : After w0 s R a K (Q .normal)) : (Code.region id ops true).wp P Q a s.w := by
  obtain ⟨i1, e1⟩ := hi.drew
  exact wp_region_any hm (anyI_sound hE ops.size _ i1 (hT.ext e1) (drawW_any p _ _ hp hd h) (hQ.step e1 rfl))
end Go.Iv
set_option linter.unusedVariables false
set_option linter.unusedSimpArgs false
namespace Go.Iv
open Go.RowKit

def okC (an : List (Nat × Nat × An)) : Code → Bool
  | .region id ops draw => !draw || (planOk (anAt an id) .any ops (planAt an id) (Array.replicate ops.size false) && decide ((planAt an id).depth ≤ ops.size))
  | .seq a b | .cond _ a b => okC an a && okC an b
  | .block _ b | .loop b => okC an b
  | _ => true

def exitOf : Ex → Exit
  | .n => .normal
  | .x id => .exit id
  | .r => .ret

def PostOK (w0 : Base) (s : CS) (R : List Reg) (a : Act) (Q : Post) (Q' : Exit → Act → World → Prop) : Prop :=
  ∀ e, After w0 s R a (Q e) (Q' (exitOf e))

theorem PostOK.step {w0 : Base} {s s1 : CS} {R R1 : List Reg} {a a1 : Act} {Q : Post} {Q' : Exit → Act → World → Prop} (h : PostOK w0 s R a Q Q') (e : Ext s R s1 R1) (hd : a1.defers = a.defers) : PostOK w0 s1 R1 a1 Q Q' :=
  fun x => (h x).step e hd

theorem wp_loop_rel {P : Program} {Q : Exit → Act → World → Prop} {c : Code} (I : Nat → Act → World → Prop) {n : Nat} {a : Act} {w : World} (h₀ : I n a w)
    (round : ∀ n a w, I n a w → c.wp P (Exit.then (fun a' w' => ∃ n', n' < n ∧ I n' a' w') Q) a w) : (Code.loop c).wp P Q a w := by
  intro b k cs
  have key : ∀ n a w, I n a w →
      ∃ e a' w', Q e a' w' ∧ Arrives P (lone (b.at a (.code c :: .inLoop c :: k)) cs w) b k cs e a' w' := by
    intro n
    induction n using Nat.strongRecOn with
    | _ n ih =>
      intro a w hI
      obtain ⟨e, a₁, w₁, hq, harr⟩ := round n a w hI b (.inLoop c :: k) cs
      cases e with
      | normal =>
        obtain ⟨n', hlt, hI₁⟩ := hq
        obtain ⟨e₂, a₂, w₂, hq₂, harr₂⟩ := ih n' hlt a₁ w₁ hI₁
        exact ⟨e₂, a₂, w₂, hq₂, .of_steps (Steps.trans harr (.one step_inLoop)) harr₂⟩
      | exit id => exact ⟨_, a₁, w₁, hq, .pass (x := .inLoop c) rfl (fun _ _ => .inl (by simp)) harr⟩
      | goto l => exact ⟨_, a₁, w₁, hq, .pass (x := .inLoop c) rfl (fun _ _ => .inl (by simp)) harr⟩
      | ret => exact ⟨_, a₁, w₁, hq, .pass (x := .inLoop c) rfl (fun _ _ => .inl (by simp)) harr⟩
      | panic ch => exact ⟨_, a₁, w₁, hq, .pass (x := .inLoop c) rfl (fun _ _ => .inl (by simp)) harr⟩
      | outgrown => exact ⟨_, a₁, w₁, hq, .pass (x := .inLoop c) rfl (fun _ _ => .inl (by simp)) harr⟩
  obtain ⟨e, a', w', hq, harr⟩ := key _ a w h₀
  exact ⟨e, a', w', hq, .of_steps (.one step_loop) harr⟩

theorem W_sound {P : Program} {E : Env} {w0 : Base} {an : List (Nat × Nat × An)} (hE : EnvOK P E) (hm : P.follows .mixedOrders = true) : ∀ (c : Code), okC an c = true → ∀ {s : CS} {R : List Reg} {T : List IV} {a : Act} {Q : Post} {tok : Tok Q} {Q' : Exit → Act → World → Prop},
    Inv w0 s R → RelT s R T a.tmps → W E an c T R Q tok → PostOK w0 s R a Q Q' → c.wp P Q' a s.w := by
  intro c
  induction c with
  | skip => intro _ s R T a Q tok Q' hi hT h hQ; exact wp_skip (hQ .n T R s a h hi (Ext.refl _ _) hT rfl)
  | region id ops draw =>
    intro hok s R T a Q tok Q' hi hT h hQ
    cases draw with
    | false => exact region_text hE hi hT h (hQ .n)
    | true =>
      simp only [okC, Bool.not_true, Bool.false_or, Bool.and_eq_true, decide_eq_true_eq] at hok
      exact region_draw hE hm hok.1 hok.2 hi hT h (hQ .n)
  | seq x y ih1 ih2 =>
    intro hok s R T a Q tok Q' hi hT h hQ
    simp only [okC, Bool.and_eq_true] at hok
    refine wp_seq (ih1 hok.1 hi hT h (fun e => ?_))
    intro T1 R1 s1 a1 hK hi1 he hT1 hd
    cases e with
    | n => exact ih2 hok.2 hi1 hT1 hK (hQ.step he hd)
    | x id => exact hQ (.x id) T1 R1 s1 a1 hK hi1 he hT1 hd
    | r => exact hQ .r T1 R1 s1 a1 hK hi1 he hT1 hd
  | cond cnd x y ih1 ih2 =>
    intro hok s R T a Q tok Q' hi hT h hQ
    simp only [okC, Bool.and_eq_true] at hok
    simp only [W] at h
    unfold condW at h
    have hc := hT.ev cnd
    split at h
    · rename_i hb
      rw [hb] at hc
      exact wp_cond_true (b_inv hc) (ih1 hok.1 hi hT h hQ)
    · rename_i hb
      rw [hb] at hc
      exact wp_cond_false (b_inv hc) (ih2 hok.2 hi hT h hQ)
    · exact h.elim
  | block id x ih =>
    intro hok s R T a Q tok Q' hi hT h hQ
    simp only [okC] at hok
    refine wp_block (ih hok hi hT h (fun e => ?_))
    intro T1 R1 s1 a1 hK hi1 he hT1 hd
    cases e with
    | n => exact hQ .n T1 R1 s1 a1 hK hi1 he hT1 hd
    | x id' =>
      simp only [blockK] at hK
      simp only [exitOf, Exit.inBlock]
      split
      · rename_i e
        rw [if_pos e] at hK
        exact hQ .n T1 R1 s1 a1 hK hi1 he hT1 hd
      · rename_i e
        rw [if_neg e] at hK
        exact hQ (.x id') T1 R1 s1 a1 hK hi1 he hT1 hd
    | r => exact hQ .r T1 R1 s1 a1 hK hi1 he hT1 hd
  | loop x ih =>
    intro hok s R T a Q tok Q' hi hT h hQ
    simp only [okC] at hok
    simp only [W] at h
    obtain ⟨I, m, h0, hr⟩ := h
    refine wp_loop_rel (fun n a' w' => ∃ T' R' s', I T' R' ∧ m T' R' = n ∧ s'.w = w' ∧ Inv w0 s' R' ∧ Ext s R s' R' ∧ RelT s' R' T' a'.tmps ∧ a'.defers = a.defers) (n := m T R) ⟨T, R, s, h0, rfl, rfl, hi, Ext.refl _ _, hT, rfl⟩ ?_
    rintro n a' w' ⟨T', R', s', h1, h2, rfl, h4, h5, h6, h7⟩
    refine ih hok h4 h6 (hr T' R' h1) (fun e => ?_)
    intro T1 R1 s1 a1 hK hi1 he hT1 hd
    cases e with
    | n =>
      obtain ⟨k1, k2⟩ := hK
      exact ⟨m T1 R1, h2 ▸ k2, T1, R1, s1, k1, rfl, rfl, hi1, h5.trans he, hT1, hd.trans h7⟩
    | x id => exact hQ (.x id) T1 R1 s1 a1 hK hi1 (h5.trans he) hT1 (hd.trans h7)
    | r => exact hQ .r T1 R1 s1 a1 hK hi1 (h5.trans he) hT1 (hd.trans h7)
  | exit id => intro _ s R T a Q tok Q' hi hT h hQ; exact wp_exit (hQ (.x id) T R s a h hi (Ext.refl _ _) hT rfl)
  | ret => intro _ s R T a Q tok Q' hi hT h hQ; exact wp_ret (hQ .r T R s a h hi (Ext.refl _ _) hT rfl)
  | label l => intro _ s R T a Q tok Q' hi hT h hQ; exact wp_label (hQ .n T R s a h hi (Ext.refl _ _) hT rfl)
  | _ => intro _ s R T a Q tok Q' hi hT h hQ; exact h.elim

/-! ### a function -/
def res1 (tys : Tys) (T : List IV) (R : List Reg) : ResultVar → Option IV
  | .tmp t => some (getT T t)
  | .cell a t => loadI tys t (getT T a) R
def resL (tys : Tys) (T : List IV) (R : List Reg) : List ResultVar → Option (List IV)
  | [] => some []
  | r :: rs => match res1 tys T R r with
    | some x => match resL tys T R rs with
      | some xs => some (x :: xs)
      | none => none
    | none => none
def resI (tys : Tys) (rs : List ResultVar) (T : List IV) (R : List Reg) : Option IV :=
  match resL tys T R rs with
  | some [x] => some x
  | some xs => some (.tu xs)
  | none => none

theorem load_addr {s : CS} {R : List Reg} {tys : Tys} {t : TypeId} {x v : IV} {a : Value} (hx : Rel s R x a) (h : loadI tys t x R = some v) : ∃ A, a = .pointer (some A) := by
  unfold loadI at h
  split at h
  · cases h
  · split at h
    · cases hx; exact ⟨_, rfl⟩
    · split at h
      · rename_i o ho
        obtain ⟨b, k, _, _, rfl⟩ := hx.pt_inv (liveR_lv ho)
        exact ⟨_, rfl⟩
      · cases h
    · cases h

theorem res1_sound {P : Program} {w0 : Base} {s : CS} {R : List Reg} {T : List IV} {tm : Array Value} {r : ResultVar} {x : IV} (hi : Inv w0 s R) (hT : RelT s R T tm) (h : res1 (tysOf P) T R r = some x) :
    ∃ y, (match r with | .tmp t => pure (tm.getD t undef) | .cell a t => do loadVar t (← asAddr (tm.getD a undef)) : Sem Value).run P s.w = .ok y s.w ∧ Rel s R x y := by
  cases r with
  | tmp t =>
    simp only [res1] at h
    injection h with h; subst h
    exact ⟨_, rfl, hT.at t⟩
  | cell a t =>
    simp only [res1] at h
    obtain ⟨A, hA⟩ := load_addr (hT.at a) h
    obtain ⟨y, h1, h2⟩ := load_sound hi (hT.at a) h
    refine ⟨y, ?_, h2⟩
    show (do loadVar t (← asAddr (tm.getD a undef)) : Sem Value).run P s.w = _
    rw [hA] at h1 ⊢
    exact h1

theorem resL_sound {P : Program} {w0 : Base} {s : CS} {R : List Reg} {T : List IV} {tm : Array Value} (hi : Inv w0 s R) (hT : RelT s R T tm) : ∀ (rs : List ResultVar) {xs : List IV}, resL (tysOf P) T R rs = some xs →
    ∃ ys, (rs.mapM (fun r => (match r with | .tmp t => pure (tm.getD t undef) | .cell a t => do loadVar t (← asAddr (tm.getD a undef)) : Sem Value))).run P s.w = .ok ys s.w ∧ RelL s R xs ys
  | [], xs, h => by
    simp only [resL] at h
    injection h with h; subst h
    exact ⟨[], by simp, RelL.nil _ _⟩
  | r :: rs, xs, h => by
    simp only [resL] at h
    split at h
    · rename_i x hx
      split at h
      · rename_i xs' hxs
        injection h with h; subst h
        obtain ⟨y, h1, h2⟩ := res1_sound hi hT hx
        obtain ⟨ys, h3, h4⟩ := resL_sound hi hT rs hxs
        refine ⟨y :: ys, ?_, RelL.cons h2 h4⟩
        rw [List.mapM_cons, Sem.run_bind, h1, Result.andThen_ok, Sem.run_bind, h3, Result.andThen_ok, Sem.run_pure]
      · cases h
    · cases h

theorem resI_sound {P : Program} {w0 : Base} {s : CS} {R : List Reg} {T : List IV} {tm : Array Value} {fn : Func} {x : IV} (hi : Inv w0 s R) (hT : RelT s R T tm) (h : resI (tysOf P) fn.results.toList T R = some x) :
    ∃ y, (results fn tm).run P s.w = .ok y s.w ∧ Rel s R x y := by
  unfold resI at h
  cases hL : resL (tysOf P) T R fn.results.toList with
  | none => rw [hL] at h; cases h
  | some xs =>
    rw [hL] at h
    obtain ⟨ys, h1, h2⟩ := resL_sound hi hT fn.results.toList hL
    have hrun : (results fn tm).run P s.w = .ok (if h : ys.toArray.size = 1 then ys.toArray[0] else .tuple ys.toArray) s.w := by
      unfold results
      rw [Array.mapM_eq_mapM_toList, Sem.run_bind]
      have : ((List.toArray <$> fn.results.toList.mapM (fun r => (match r with | .tmp t => pure (tm.getD t undef) | .cell a t => do loadVar t (← asAddr (tm.getD a undef)) : Sem Value))) : Sem (Array Value)).run P s.w = .ok ys.toArray s.w := by
        rw [map_eq_pure_bind, Sem.run_bind, h1]; rfl
      exact Eq.trans (congrArg (fun r : Result (Array Value) => r.andThen fun a w' => Sem.run P (pure (if h : a.size = 1 then a[0] else Value.tuple a)) w') this) rfl
    refine ⟨_, hrun, ?_⟩
    match xs, ys, h2, h with
    | [x'], [y'], h2, h =>
      injection h with h; subst h
      exact h2.2 0 _ _ rfl rfl
    | [], [], h2, h =>
      injection h with h; subst h
      exact .tu _ _ _ rfl (fun j x v hx => by simp at hx)
    | x1 :: x2 :: xs, y1 :: y2 :: ys, h2, h =>
      injection h with h; subst h
      rw [dif_neg (by simp)]
      exact .tu _ _ _ (by simpa using h2.1) (fun j x v hx hv => h2.2 j x v hx (by simpa using hv))
    | [], _ :: _, h2, h => exact absurd h2.1 (by simp)
    | [x'], [], h2, h => exact absurd h2.1 (by simp)
    | [x'], _ :: _ :: _, h2, h => exact absurd h2.1 (by simp)
    | x1 :: x2 :: xs, [], h2, h => exact absurd h2.1 (by simp)
    | x1 :: x2 :: xs, [y], h2, h => exact absurd h2.1 (by simp)
end Go.Iv
set_option linter.unusedVariables false
set_option linter.unusedSimpArgs false
namespace Go.Iv
open Go.RowKit

def initT (n : Nat) (xs : List IV) : List IV := xs ++ List.replicate (n - xs.length) (.tu [])
def retQ (tys : Tys) (rs : List ResultVar) (out : IV → List Reg → Prop) : Post
  | .x _, _, _ => False
  | _, T, R => onO (resI tys rs T R) (fun v => out v R) .mk

theorem initT_rel {s : CS} {R : List Reg} {xs : List IV} {vs : Array Value} (n : Nat) (h : RelL s R xs vs.toList) : RelT s R (initT n xs) (vs ++ Array.replicate (n - vs.size) undef) := by
  have hl : xs.length = vs.size := by simpa using h.1
  refine ⟨by simp [initT, hl], fun t ht => ?_⟩
  have hget : ∀ (T : List IV) (t : Nat), t < T.length → T[t]? = some (getT T t) := by
    intro T
    induction T with
    | nil => intro t ht; simp at ht
    | cons x T ih => intro t ht; cases t with
      | zero => simp [getT]
      | succ t => simpa [getT] using ih t (by simpa using ht)
  have h1 := hget _ t ht
  rw [initT] at h1 ht ⊢
  by_cases hlt : t < xs.length
  · rw [List.getElem?_append_left hlt] at h1
    have hv : t < vs.size := hl ▸ hlt
    have h2 : vs.toList[t]? = some vs[t] := by simp [hv]
    have e : (vs ++ Array.replicate (n - vs.size) undef).getD t undef = vs[t] := by
      simp [Array.getD, Array.getElem_append, hv, Nat.lt_add_right]
    rw [e]
    exact h.2 t _ _ h1 h2
  · rw [List.getElem?_append_right (by omega)] at h1
    rw [List.getElem?_replicate] at h1
    split at h1
    · injection h1 with h1
      rw [← h1]
      have hv : ¬ t < vs.size := hl ▸ hlt
      have e : (vs ++ Array.replicate (n - vs.size) undef).getD t undef = undef := by
        simp only [Array.getD]
        split
        · rename_i h'
          rw [show (vs ++ Array.replicate (n - vs.size) undef).getInternal t h' = (vs ++ Array.replicate (n - vs.size) undef)[t] from rfl, Array.getElem_append]
          simp [hv]
        · rfl
      rw [e]
      exact .tu _ _ _ rfl (fun j x v hx => by simp at hx)
    · cases h1

theorem Inv.bare {w0 : Base} {s : CS} {R : List Reg} (h : Inv w0 s R) : Inv w0 s [] :=
  ⟨h.below, h.fg, h.hF, fun r ver o hr => (by rw [getR_nil] at hr; cases hr), fun r r' v o v' o' b k k' hr => (by rw [getR_nil] at hr; cases hr), fun r _ => (by rw [getR_nil]), h.keep⟩

theorem Imp.out {w0 : Base} {sc : CS} {R : List Reg} (h : Inv w0 sc R) : Imp w0 w0 sc [] sc R :=
  ⟨rfl, fun _ hb => hb, h.bare, h, fun k ver o b c hk hb => ⟨(h.blk_lt hk hb).2.1, h.blk_own hk hb, fun q v o' c' hq => (by rw [getR_nil] at hq; cases hq)⟩⟩

theorem body_calls {P : Program} {E : Env} {w0 : Base} {an : List (Nat × Nat × An)} (hE : EnvOK P E) (hm : P.follows .mixedOrders = true) {f : FuncId} {fn : Func} {body : Code} (hf : P.funcs[f]? = some fn) (hb : fn.body = some body) (hok : okC an body = true)
    {s : CS} {R : List Reg} {xs : List IV} {vs : Array Value} {out : IV → List Reg → Prop} (hi : Inv w0 s R) (hx : RelL s R xs vs.toList)
    {t : Tok (retQ E.tys fn.results.toList out)} (h : W E an body (initT fn.ntmps xs) R (retQ E.tys fn.results.toList out) t) :
    Calls P f vs s.w fun e w1 => ∃ v s1 y R1, e = .returned v ∧ s1.w = w1 ∧ Inv w0 s1 R1 ∧ Ext s R s1 R1 ∧ Rel s1 R1 y v ∧ out y R1 := by
  refine calls_of_wp hf hb (W_sound hE hm body hok hi (initT_rel fn.ntmps hx) h ?_)
  have key : ∀ (T1 : List IV) (R1 : List Reg) (s1 : CS) (a1 : Act), onO (resI E.tys fn.results.toList T1 R1) (fun v => out v R1) .mk → Inv w0 s1 R1 → Ext s R s1 R1 → RelT s1 R1 T1 a1.tmps → a1.defers = [] →
      a1.defers = [] ∧ ∃ v, (results fn a1.tmps).run P s1.w = .ok v s1.w ∧ ∃ v' s2 y R2, Ending.returned v = .returned v' ∧ s2.w = s1.w ∧ Inv w0 s2 R2 ∧ Ext s R s2 R2 ∧ Rel s2 R2 y v' ∧ out y R2 := by
    intro T1 R1 s1 a1 hK hi1 he hT1 hd
    obtain ⟨x, h1, h2⟩ := onO_iff.1 hK
    rw [hE.tys] at h1
    obtain ⟨y, h3, h4⟩ := resI_sound hi1 hT1 h1
    exact ⟨hd, y, h3, y, s1, x, R1, rfl, rfl, hi1, he, h4, h2⟩
  intro e T1 R1 s1 a1 hK hi1 he hT1 hd
  cases e with
  | n => exact key T1 R1 s1 a1 hK hi1 he hT1 hd
  | x id => exact hK.elim
  | r => exact key T1 R1 s1 a1 hK hi1 he hT1 hd

theorem Inv.start (w : World) (F : Nat → Prop) (β : Nat → Option (Nat × Nat)) (hF : ∀ b, F b → b < w.heap.size) : Inv ⟨w, fun b => true = true ∧ F b, fun _ => none⟩ ⟨w, F, β⟩ [] :=
  ⟨Below.refl _ _, fun b hb => .inl ⟨rfl, hb⟩, hF, fun r ver o hr => (by rw [getR_nil] at hr; cases hr), fun r r' v o v' o' b k k' hr => (by rw [getR_nil] at hr; cases hr), fun r _ => (by rw [getR_nil]), fun b o hb => by cases hb⟩

/-- THE RULE of a function that is called by values. l: which of its registers' rows it hands out. -/
theorem PC_of_W {P : Program} {E : Env} {an : List (Nat × Nat × An)} (hE : EnvOK P E) (hm : P.follows .mixedOrders = true) {f : FuncId} {fn : Func} {body : Code} (hf : P.funcs[f]? = some fn) (hn : (fn.name == "runtime.NumGoroutine") = false) (hb : fn.body = some body) (hok : okC an body = true)
    {xs : List IV} {y : IV} {Rr : List Reg} (l : List Nat) {t : Tok (retQ E.tys fn.results.toList fun v R => impI l R [] v = some (y, Rr))}
    (h : W E an body (initT fn.ntmps xs) [] (retQ E.tys fn.results.toList fun v R => impI l R [] v = some (y, Rr)) t) : PC P true f xs y Rr := by
  refine ⟨⟨fn, hf, hn, by rw [hb]; rfl⟩, fun w F β vs hF hrel => Calls.mono (body_calls hE hm hf hb hok (Inv.start w F β hF) hrel h) ?_⟩
  rintro e w1 ⟨v, s1, y', R1, rfl, rfl, hi1, he, hr, ho⟩
  obtain ⟨s2, k1, k2, k3, k4⟩ := impI_sound (Imp.out hi1) hr ho
  exact ⟨v, s2, rfl, k2, k1, k4⟩

def flat0 : IV → Bool
  | .sl _ rows => rows.isEmpty
  | .pi _ | .fn .. | .ag _ | .tu _ => false
  | _ => true
def flatI : IV → Bool
  | .ag xs | .tu xs => xs.all flat0
  | x => flat0 x
def flatR (R : List Reg) : Bool := R.all fun g => match g.obj with | some o => o.rows.all (·.all flat0) | none => true

theorem flat0_rel {s s' : CS} {R : List Reg} {x : IV} {v : Value} (h : Rel s R x v) (hf : flat0 x = true) (hb : s'.β = s.β) : Rel s' R x v := by
  cases h <;> simp only [flat0, Bool.false_eq_true] at hf
  case un => exact .un _ _
  case b => exact .b _ _
  case i => exact .i _ _ _
  case s => exact .s _ _
  case np => exact .np _
  case vp => exact .vp _ _
  case nf => exact .nf _
  case slN h => exact .slN _ _ h
  case slE h => exact .slE _ _ _ _ h
  case sl rows a off cap sz c h hF hc hr hcell hrel =>
    have : rows = [] := List.isEmpty_iff.1 hf
    subst this
    exact .slE _ _ _ _ h
  case seN => exact .seN _
  case seE => exact .seE _ _
  case stale h h2 => exact .stale _ _ _ _ _ _ h h2
  case staleP h h2 => exact .staleP _ _ _ _ _ _ h h2
  case rfN => exact .rfN _ _ _ _ _ (by assumption) (by rw [hb]; assumption)
  case rf => exact .rf _ _ _ _ _ _ _ _ (by assumption) (by rw [hb]; assumption) (by assumption)
  case pt => exact .pt _ _ _ _ _ _ _ _ (by assumption) (by rw [hb]; assumption) (by assumption)
theorem flat_rel {s s' : CS} {R : List Reg} {x : IV} {v : Value} (h : Rel s R x v) (hf : flatI x = true) (hb : s'.β = s.β) : Rel s' R x v := by
  cases x with
  | ag xs =>
    obtain ⟨vs, rfl, hl⟩ := ag_inv h
    exact .ag _ _ _ (by simpa using hl.1) (fun j x u hx hu => flat0_rel (hl.2 j x u hx (by simpa using hu)) (List.all_eq_true.1 hf x (List.mem_of_getElem? hx)) hb)
  | tu xs =>
    obtain ⟨vs, rfl, hl⟩ := tu_inv h
    exact .tu _ _ _ (by simpa using hl.1) (fun j x u hx hu => flat0_rel (hl.2 j x u hx (by simpa using hu)) (List.all_eq_true.1 hf x (List.mem_of_getElem? hx)) hb)
  | _ => exact flat0_rel h hf hb

theorem getR_mem : ∀ {R : List Reg} {r ver : Nat} {o : Obj}, getR R r = ⟨ver, some o⟩ → (⟨ver, some o⟩ : Reg) ∈ R
  | [], r, ver, o, h => by rw [getR_nil] at h; cases h
  | g :: R, 0, ver, o, h => by simp only [getR] at h; rw [h]; exact List.mem_cons_self
  | g :: R, r + 1, ver, o, h => by simp only [getR] at h; exact List.mem_cons_of_mem _ (getR_mem h)

/-- What comes out flat leads to nothing that the arguments led to. -/
theorem PC.flat {P : Program} {f : FuncId} {xs : List IV} {y : IV} {Rr : List Reg} (h : PC P true f xs y Rr) (hy : flatI y = true) (hR : flatR Rr = true) (al : Bool) : PC P al f xs y Rr := by
  refine ⟨h.1, fun w F β vs hF hrel => Calls.mono (h.2 w F β vs hF hrel) ?_⟩
  rintro e w1 ⟨v, sc, rfl, rfl, hi, hr⟩
  refine ⟨v, ⟨sc.w, fun b => sc.F b ∧ w.heap.size ≤ b, sc.β⟩, rfl, rfl, ⟨hi.below, fun b hb => .inr hb.2, fun b hb => hi.hF b hb.1, fun r ver o hro => ?_, hi.inj, hi.ver, fun b o hb => by cases hb⟩, flat_rel hr hy rfl⟩
  have k := hi.regs r ver o hro
  have hflat : o.rows.all (·.all flat0) = true := by
    have := List.all_eq_true.1 hR _ (getR_mem hro)
    exact this
  cases hb : sc.β r with
  | none => exact (RegOK.none_ (s := ⟨sc.w, fun b => sc.F b ∧ w.heap.size ≤ b, sc.β⟩) hb).2 ((RegOK.none_ hb).1 k)
  | some bk =>
    obtain ⟨b, c⟩ := bk
    obtain ⟨k1, k2, k3, k4, k5, cur, k6, k7, k8⟩ := (RegOK.some_ hb).1 k
    refine (RegOK.some_ (s := ⟨sc.w, fun b => sc.F b ∧ w.heap.size ≤ b, sc.β⟩) hb).2 ⟨k1, fun hh => k2 hh.1, k3, k4, k5, cur, k6, k7, k8.1, fun j x u hx hu => flat0_rel (k8.2 j x u hx hu) ?_ rfl⟩
    obtain ⟨row, hrow, hxr⟩ := List.mem_flatten.1 (List.mem_of_getElem? hx)
    exact List.all_eq_true.1 (List.all_eq_true.1 hflat row hrow) x hxr

def clrR (D : List Nat) (R : List Reg) : List Reg := D.foldl (fun R d => setR R d ⟨(getR R d).ver, none⟩) R
theorem Inv.clr {w0 : Base} {s : CS} : ∀ (D : List Nat) {R : List Reg}, Inv w0 s R → Inv w0 s (clrR D R) ∧ Ext s R s (clrR D R)
  | [], R, h => ⟨h, Ext.refl _ _⟩
  | d :: D, R, h => by
    have one : Inv w0 s (setR R d ⟨(getR R d).ver, none⟩) ∧ Ext s R s (setR R d ⟨(getR R d).ver, none⟩) := by
      cases ho : (getR R d).obj with
      | some o => exact h.drop (r := d) (ver := (getR R d).ver) (o := o) (by show getR R d = _; rw [← ho])
      | none =>
        have e : ∀ q, getR (setR R d ⟨(getR R d).ver, none⟩) q = getR R q := by
          intro q
          rw [getR_setR]
          split
          · rename_i e; rw [e, ← ho]
          · rfl
        have ex : Ext s R s (setR R d ⟨(getR R d).ver, none⟩) := ⟨fun _ hb => hb, fun _ _ => rfl, fun r => by rw [e]; exact RegExt.refl _ _⟩
        refine ⟨⟨h.below, h.fg, h.hF, fun r ver o hr => ?_, fun r r' v o v' o' b k k' hr hr' => h.inj r r' v o v' o' b k k' (e r ▸ hr) (e r' ▸ hr'), fun r hr => by rw [e] at hr ⊢; exact h.ver r hr, h.keep⟩, ex⟩
        exact h.other ex (e r ▸ hr) rfl (fun b k hb => ⟨rfl, (h.blk_lt (e r ▸ hr) hb).2.1⟩)
    obtain ⟨h2, e2⟩ := Inv.clr D one.1
    exact ⟨h2, one.2.trans e2⟩

/-- THE RULE of a function that is called with the registers. D: its own registers, let go at the end. -/
theorem IC_of_W {P : Program} {E : Env} {an : List (Nat × Nat × An)} (hE : EnvOK P E) (hm : P.follows .mixedOrders = true) {f : FuncId} {fn : Func} {body : Code} (hf : P.funcs[f]? = some fn) (hn : (fn.name == "runtime.NumGoroutine") = false) (hb : fn.body = some body) (hok : okC an body = true)
    {xs : List IV} {y : IV} {R R1 : List Reg} (D : List Nat) {t : Tok (retQ E.tys fn.results.toList fun v Rf => v = y ∧ clrR D Rf = R1)}
    (h : W E an body (initT fn.ntmps xs) R (retQ E.tys fn.results.toList fun v Rf => v = y ∧ clrR D Rf = R1) t) : IC P f xs R y R1 := by
  refine ⟨⟨fn, hf, hn, by rw [hb]; rfl⟩, fun w0 s vs hi hrel => Calls.mono (body_calls hE hm hf hb hok hi hrel h) ?_⟩
  rintro e w1 ⟨v, s1, y', R1', rfl, rfl, hi1, he, hr, rfl, rfl⟩
  obtain ⟨h2, e2⟩ := Inv.clr D hi1
  exact ⟨v, s1, rfl, rfl, h2, he.trans e2, hr.ext e2⟩
end Go.Iv
