import Derived.Test.YtapigbgcghekgaaM09
import Derived.RangeFuncRecord
set_option linter.unusedVariables false
set_option linter.unusedSimpArgs false
set_option linter.unusedVariables false
set_option linter.unusedSimpArgs false
namespace Go.Iv
open Go.RowKit
/-! The ranges over an iterator, evaluated. -/
theorem Inv.same {w0 : Base} {s : CS} {R : List Reg} (h : Inv w0 s R) (w1 : World) (hbel : Below s.w.heap.size s.w w1) : Inv w0 ⟨w1, s.F, s.β⟩ R ∧ Ext s R ⟨w1, s.F, s.β⟩ R := by
  have := h.grow w1 hbel (fun _ => False) (fun b hb => hb.elim)
  have e : (fun b => s.F b ∨ False) = s.F := by funext b; simp
  rw [e] at this
  exact this

/-- Another set of blocks to be kept. -/
theorem Inv.rebase {w0 w1 : Base} {s : CS} {R : List Reg} (h : Inv w0 s R) (hw : w1.toWorld = w0.toWorld) (hf : w1.F0 = w0.F0)
    (ho : ∀ r ver o b k, getR R r = ⟨ver, some o⟩ → s.β r = some (b, k) → w1.K b = none) (hk : ∀ b o, w1.K b = some o → s.w.heap[b]? = some o ∧ ¬ s.F b) : Inv w1 s R := by
  refine ⟨by rw [hw]; exact h.below, by rw [hf, hw]; exact h.fg, h.hF, fun r ver o hr => ?_, h.inj, h.ver, hk⟩
  have k := h.regs r ver o hr
  cases hb : s.β r with
  | none => exact (RegOK.none_ hb).2 ((RegOK.none_ hb).1 k)
  | some bk =>
    obtain ⟨b, c⟩ := bk
    obtain ⟨k1, k2⟩ := (RegOK.some_ hb).1 k
    exact (RegOK.some_ hb).2 ⟨⟨by rw [hw]; exact k1.1, ho r ver o b c hr hb⟩, k2⟩

def upK (w0 : Base) (l : Nat) (o : Option Go.Obj) : Base := { w0 with K := fun b => if b = l then o else w0.K b }
theorem upK_same (w0 : Base) (l : Nat) (o : Option Go.Obj) : (upK w0 l o).K l = o := by simp [upK]
theorem upK_other (w0 : Base) (l b : Nat) (o : Option Go.Obj) (h : b ≠ l) : (upK w0 l o).K b = w0.K b := by simp [upK, h]

/-- A block that is kept is turned (by the loop's own steps). -/
theorem Inv.turn {w0 : Base} {s : CS} {R : List Reg} {l : Nat} {o1 : Go.Obj} (h : Inv (upK w0 l (some o1)) s R) (hl : w0.heap.size ≤ l) (o2 : Go.Obj) :
    Inv (upK w0 l (some o2)) ⟨s.w.putObj l o2, s.F, s.β⟩ R ∧ Ext s R ⟨s.w.putObj l o2, s.F, s.β⟩ R := by
  obtain ⟨hh, hnF⟩ := h.keep l o1 (upK_same _ _ _)
  have hlt : l < s.w.heap.size := (Array.getElem?_eq_some_iff.1 hh).1
  have e : Ext s R ⟨s.w.putObj l o2, s.F, s.β⟩ R := ⟨fun b hb => hb, fun b hb => World.putObj_heap_other (fun e => hnF (e ▸ hb)), fun r => RegExt.refl _ _⟩
  have own : ∀ r ver o b k, getR R r = ⟨ver, some o⟩ → s.β r = some (b, k) → b ≠ l := fun r ver o b k hr hb e => by
    have := (h.blk_own hr hb).2
    rw [e, upK_same] at this
    cases this
  refine ⟨⟨h.below.trans ⟨rfl, rfl, rfl, by simp, fun b hb => World.putObj_heap_other (by have hb' : b < w0.heap.size := hb; omega)⟩, h.fg, fun b hb => by have := h.hF b hb; simpa using this, fun r ver o hr => ?_, h.inj, h.ver, fun b o hb => ?_⟩, e⟩
  · have k := h.regs r ver o hr
    cases hb : s.β r with
    | none => exact (RegOK.none_ (s := ⟨s.w.putObj l o2, s.F, s.β⟩) hb).2 ((RegOK.none_ hb).1 k)
    | some bk =>
      obtain ⟨b, c⟩ := bk
      have hne := own r ver o b c hr hb
      obtain ⟨k1, k2, k3, k4, k5, cur, k6, k7, k8⟩ := (RegOK.some_ hb).1 k
      refine (RegOK.some_ (s := ⟨s.w.putObj l o2, s.F, s.β⟩) hb).2 ⟨⟨k1.1, by have := k1.2; rw [upK_other _ _ _ _ hne] at this ⊢; exact this⟩, k2, k3, k4, k5, cur, (World.putObj_heap_other hne).trans k6, k7, ?_⟩
      split
      · rename_i hbx; rw [if_pos hbx] at k8; exact k8.ext e
      · rename_i hbx; rw [if_neg hbx] at k8; exact k8.ext e.nil
  · by_cases eb : b = l
    · subst eb
      rw [upK_same] at hb
      injection hb with hb; subst hb
      exact ⟨World.putObj_heap_same hlt, hnF⟩
    · rw [upK_other _ _ _ _ eb] at hb
      obtain ⟨q1, q2⟩ := h.keep b o (by rw [upK_other _ _ _ _ eb]; exact hb)
      exact ⟨(World.putObj_heap_other eb).trans q1, q2⟩

/-- The marks of the loops that have been. -/
def Base.kd (w0 : Base) (Ds : List Nat) : Base := { w0 with K := fun b => if b ∈ Ds then some (.deferred (some [])) else none }
theorem kd_mem (w0 : Base) {Ds : List Nat} {b : Nat} (h : b ∈ Ds) : (w0.kd Ds).K b = some (.deferred (some [])) := by simp [Base.kd, h]
theorem kd_not (w0 : Base) {Ds : List Nat} {b : Nat} (h : ¬ b ∈ Ds) : (w0.kd Ds).K b = none := by simp [Base.kd, h]
def mark (D : Nat) : Deferred := { target := .collected D, args := #[] }

structure StR (w0 : Base) (s : CS) (R : List Reg) (T : List IV) (Ds : List Nat) (a : Act) : Prop where
  I : Inv (w0.kd Ds) s R
  T : RelT s R T a.tmps
  d : a.defers = Ds.map mark
  nd : Ds.Nodup
  hD : ∀ D ∈ Ds, w0.heap.size ≤ D
def PostR (w0 : Base) (Q : Post) (Q' : Exit → Act → World → Prop) : Prop := ∀ e T R s a Ds, Q e T R → StR w0 s R T Ds a → Q' (exitOf e) a s.w
def Sr (P : Program) (w0 : Base) (c : Code) (T : List IV) (R : List Reg) (Q : Post) : Prop := ∀ s a Ds Q', StR w0 s R T Ds a → PostR w0 Q Q' → c.wp P Q' a s.w

theorem Sr.ofW {P : Program} {w0 : Base} {E : Env} {an : List (Nat × Nat × An)} {c : Code} {T : List IV} {R : List Reg} {Q : Post} (hE : EnvOK P E) (hm : P.follows .mixedOrders = true) (hok : okC an c = true)
    {t : Tok Q} (h : W E an c T R Q t) : Sr P w0 c T R Q := by
  intro s a Ds Q' hs hQ
  refine W_sound hE hm c hok hs.I hs.T h (fun e => ?_)
  intro T1 R1 s1 a1 hq hi1 he hT1 hd
  exact hQ e T1 R1 s1 a1 Ds hq ⟨hi1, hT1, hd.trans hs.d, hs.nd, hs.hD⟩
theorem Sr.seq {P : Program} {w0 : Base} {x y : Code} {T : List IV} {R : List Reg} {Q : Post} {t : Tok (fun T R => Sr P w0 y T R Q, Q)} (h : Sr P w0 x T R (seqK (fun T R => Sr P w0 y T R Q) Q t)) : Sr P w0 (.seq x y) T R Q := by
  intro s a Ds Q' hs hQ
  refine wp_seq (h s a Ds _ hs (fun e T1 R1 s1 a1 Ds1 hq h1 => ?_))
  cases e with
  | n => exact hq s1 a1 Ds1 Q' h1 hQ
  | x id => exact hQ (.x id) T1 R1 s1 a1 Ds1 hq h1
  | r => exact hQ .r T1 R1 s1 a1 Ds1 hq h1
theorem Sr.cond {P : Program} {w0 : Base} {c : Operand} {x y : Code} {T : List IV} {R : List Reg} {Q : Post} {v : Bool} (hv : evI T c = .b v) (h1 : v = true → Sr P w0 x T R Q) (h2 : v = false → Sr P w0 y T R Q) : Sr P w0 (.cond c x y) T R Q := by
  intro s a Ds Q' hs hQ
  have hc := hs.T.ev c
  rw [hv] at hc
  cases v with
  | true => exact wp_cond_true (b_inv hc) (h1 rfl s a Ds Q' hs hQ)
  | false => exact wp_cond_false (b_inv hc) (h2 rfl s a Ds Q' hs hQ)
theorem Sr.block {P : Program} {w0 : Base} {id : Nat} {x : Code} {T : List IV} {R : List Reg} {Q : Post} {t : Tok Q} (h : Sr P w0 x T R (blockK id Q t)) : Sr P w0 (.block id x) T R Q := by
  intro s a Ds Q' hs hQ
  refine wp_block (h s a Ds _ hs (fun e T1 R1 s1 a1 Ds1 hq h1 => ?_))
  cases e with
  | n => exact hQ .n T1 R1 s1 a1 Ds1 hq h1
  | x id' =>
    simp only [blockK] at hq
    simp only [exitOf, Exit.inBlock]
    split
    · rename_i e
      rw [if_pos e] at hq
      exact hQ .n T1 R1 s1 a1 Ds1 hq h1
    · rename_i e
      rw [if_neg e] at hq
      exact hQ (.x id') T1 R1 s1 a1 Ds1 hq h1
  | r => exact hQ .r T1 R1 s1 a1 Ds1 hq h1
theorem Sr.loop {P : Program} {w0 : Base} {x : Code} {T : List IV} {R : List Reg} {Q : Post} (I : List IV → List Reg → Prop) (m : List IV → List Reg → Nat) (h0 : I T R)
    (h : ∀ T R, I T R → ∃ t, Sr P w0 x T R (seqK (fun T1 R1 => I T1 R1 ∧ m T1 R1 < m T R) Q t)) : Sr P w0 (.loop x) T R Q := by
  intro s a Ds Q' hs hQ
  refine wp_loop_rel (fun n a' w' => ∃ T' R' s' Ds', I T' R' ∧ m T' R' = n ∧ s'.w = w' ∧ StR w0 s' R' T' Ds' a') (n := m T R) ⟨T, R, s, Ds, h0, rfl, rfl, hs⟩ ?_
  rintro n a' w' ⟨T', R', s', Ds', h1, h2, rfl, h3⟩
  obtain ⟨t, hr⟩ := h T' R' h1
  refine hr s' a' Ds' _ h3 (fun e T1 R1 s1 a1 Ds1 hq hs1 => ?_)
  cases e with
  | n => exact ⟨m T1 R1, h2 ▸ hq.2, T1, R1, s1, Ds1, hq.1, rfl, rfl, hs1⟩
  | x id => exact hQ (.x id) T1 R1 s1 a1 Ds1 hq hs1
  | r => exact hQ .r T1 R1 s1 a1 Ds1 hq hs1
theorem Sr.mono {P : Program} {w0 : Base} {c : Code} {T : List IV} {R : List Reg} {Q Q' : Post} (h : Sr P w0 c T R Q) (hq : ∀ e T R, Q e T R → Q' e T R) : Sr P w0 c T R Q' :=
  fun s a Ds K hs hK => h s a Ds K hs (fun e T R s1 a1 Ds1 h1 h2 => hK e T R s1 a1 Ds1 (hq _ _ _ h1) h2)

/-- What the client holds between two rounds. -/
structure JR (w0 : Base) (s : CS) (R : List Reg) (D : Nat) (Ds : List Nat) (l : Nat) (o : Go.Obj) (R' : List Reg) (C : Nat → Prop) (s' : CS) : Prop where
  I : Inv (upK (w0.kd (D :: Ds)) l (some o)) s' R'
  e : Ext s R s' R'
  c : ∀ q ver o b k, getR R' q = ⟨ver, some o⟩ → s'.β q = some (b, k) → C b
  lt : ∀ b, C b → b < s'.w.heap.size
  cl : C l
  cD : C D

theorem JR.step {w0 : Base} {s : CS} {R : List Reg} {D : Nat} {Ds : List Nat} {l : Nat} {o : Go.Obj} {R' : List Reg} {C : Nat → Prop} {s' : CS} (h : JR w0 s R D Ds l o R' C s') (w1 : World) (hb : Below s'.w.heap.size s'.w w1) : JR w0 s R D Ds l o R' C ⟨w1, s'.F, s'.β⟩ := by
  obtain ⟨h1, h2⟩ := h.I.same w1 hb
  exact ⟨h1, h.e.trans h2, h.c, fun b hc => Nat.lt_of_lt_of_le (h.lt b hc) hb.size, h.cl, h.cD⟩
theorem JR.turn {w0 : Base} {s : CS} {R : List Reg} {D : Nat} {Ds : List Nat} {l : Nat} {o : Go.Obj} {R' : List Reg} {C : Nat → Prop} {s' : CS} (h : JR w0 s R D Ds l o R' C s') (hl : w0.heap.size ≤ l) (o2 : Go.Obj) : JR w0 s R D Ds l o2 R' C ⟨s'.w.putObj l o2, s'.F, s'.β⟩ := by
  obtain ⟨h1, h2⟩ := h.I.turn hl o2
  exact ⟨h1, h.e.trans h2, h.c, fun b hc => by have := h.lt b hc; simpa using this, h.cl, h.cD⟩

/-- The base under which a piece of a round is evaluated: all is kept that is not the client's. -/
noncomputable def rb (w0 : Base) (D : Nat) (Ds : List Nat) (l : Nat) (o : Go.Obj) (C F : Nat → Prop) (w : World) : Base :=
  upK { w0 with K := fun b => open Classical in if ¬ C b ∧ ¬ F b then w.heap[b]? else (w0.kd (D :: Ds)).K b } l (some o)
theorem JR.round {w0 : Base} {s : CS} {R : List Reg} {D : Nat} {Ds : List Nat} {l : Nat} {o : Go.Obj} {R' : List Reg} {C : Nat → Prop} {s' : CS} (h : JR w0 s R D Ds l o R' C s') : Inv (rb w0 D Ds l o C s'.F s'.w) s' R' := by
  have hk := h.I.keep
  refine h.I.rebase rfl rfl (fun r ver ob b k hr hb => ?_) (fun b ob hb => ?_)
  · have own := (h.I.blk_own hr hb).2
    have hne : b ≠ l := fun e => by rw [e, upK_same] at own; cases own
    have hc := h.c r ver ob b k hr hb
    rw [upK_other _ _ _ _ hne] at own
    rw [rb, upK_other _ _ _ _ hne]
    simp [hc]
    exact own
  · by_cases e : b = l
    · subst e
      rw [rb, upK_same] at hb
      exact hk b ob (by rw [upK_same]; exact hb)
    · rw [rb, upK_other _ _ _ _ e] at hb
      simp only at hb
      split at hb
      · rename_i hc; exact ⟨hb, hc.2⟩
      · exact hk b ob (by rw [upK_other _ _ _ _ e]; exact hb)
theorem JR.back {w0 : Base} {s : CS} {R : List Reg} {D : Nat} {Ds : List Nat} {l : Nat} {o : Go.Obj} {R' R1 : List Reg} {C : Nat → Prop} {s' s1 : CS} (h : JR w0 s R D Ds l o R' C s') (hi : Inv (rb w0 D Ds l o C s'.F s'.w) s1 R1) (he : Ext s' R' s1 R1) (hDl : D ≠ l) :
    JR w0 s R D Ds l o R1 (fun b => (C b ∨ s'.w.heap.size ≤ b) ∧ b < s1.w.heap.size) s1 ∧ (∀ b, b < s'.w.heap.size → ¬ C b → s1.w.heap[b]? = s'.w.heap[b]?) := by
  have hkeep : ∀ b, ¬ C b → ¬ s'.F b → ∀ ob, s'.w.heap[b]? = some ob → s1.w.heap[b]? = some ob ∧ ¬ s1.F b := by
    intro b hc hf ob hb
    have hne : b ≠ l := fun e => hc (e ▸ h.cl)
    refine hi.keep b ob ?_
    rw [rb, upK_other _ _ _ _ hne]
    simp [hc, hf, hb]
  have hregs : ∀ r ver ob b k, getR R1 r = ⟨ver, some ob⟩ → s1.β r = some (b, k) → b ≠ l ∧ (C b ∨ s'.w.heap.size ≤ b) := by
    intro r ver ob b k hr hb
    have own := (hi.blk_own hr hb).2
    have hne : b ≠ l := fun e => by rw [e, rb, upK_same] at own; cases own
    refine ⟨hne, ?_⟩
    by_cases hc : C b
    · exact .inl hc
    · right
      have hf : ¬ s'.F b := fun hf => (hi.blk_lt hr hb).2.1 (he.F b hf)
      rw [rb, upK_other _ _ _ _ hne] at own
      simp [hc, hf] at own
      exact own
  refine ⟨⟨hi.rebase rfl rfl (fun r ver ob b k hr hb => ?_) (fun b ob hb => ?_), h.e.trans he, fun q ver ob b k hq hb => ?_, fun b hb => hb.2, ⟨.inl h.cl, ?_⟩, ⟨.inl h.cD, ?_⟩⟩, fun b hb hc => ?_⟩
  · obtain ⟨hne, hc⟩ := hregs r ver ob b k hr hb
    rw [upK_other _ _ _ _ hne]
    refine kd_not _ (fun hm => ?_)
    have hkm := h.I.keep b (.deferred (some [])) (by rw [upK_other _ _ _ _ hne]; exact kd_mem _ hm)
    have hlt : b < s'.w.heap.size := (Array.getElem?_eq_some_iff.1 hkm.1).1
    have own := (hi.blk_own hr hb).2
    rw [rb, upK_other _ _ _ _ hne] at own
    rcases hc with hc | hc
    · simp [hc, Base.kd] at own
      exact (List.mem_cons.1 hm).elim own.1 own.2
    · omega
  · by_cases e : b = l
    · subst e
      rw [upK_same] at hb
      exact hi.keep b ob (by rw [rb, upK_same]; exact hb)
    · rw [upK_other _ _ _ _ e] at hb
      obtain ⟨q1, q2⟩ := h.I.keep b ob (by rw [upK_other _ _ _ _ e]; exact hb)
      by_cases hc : C b
      · refine hi.keep b ob ?_
        rw [rb, upK_other _ _ _ _ e]
        simp [hc]
        exact hb
      · exact hkeep b hc q2 ob q1
  · rcases (hregs q ver ob b k hq hb).2 with hc | hc
    · exact ⟨.inl hc, (hi.blk_lt hq hb).1⟩
    · exact ⟨.inr hc, (hi.blk_lt hq hb).1⟩
  · exact (Array.getElem?_eq_some_iff.1 (hi.keep l o (by rw [rb, upK_same])).1).1
  · refine (Array.getElem?_eq_some_iff.1 (hi.keep D (.deferred (some [])) ?_).1).1
    rw [rb, upK_other _ _ _ _ hDl]
    simp [h.cD]
    exact kd_mem _ (List.mem_cons_self ..)
  · by_cases hf : s'.F b
    · exact he.blk b hf
    · have : s'.w.heap[b]? = some s'.w.heap[b] := Array.getElem?_eq_getElem hb
      rw [this]
      exact (hkeep b hc hf _ this).1

/-- THE RULE of a range over an iterator. -/
theorem Sr.range {P : Program} {w0 : Base} {E : Env} {an : List (Nat × Nat × An)} {g : Operand} {p : Tmp} {assign body : Code} {T : List IV} {R : List Reg} {Q : Post} {f : FuncId} {caps : List IV} {zs : List Int} (hE : EnvOK P E)
    (hg : evI T g = .fn (.func f) [] caps) (hp : caps.all pureC = true) (hit : IT P f caps zs) (ha : okB assign = true) (hb : okB body = true) (I : List Int → List Reg → Prop) (h0 : I [] R)
    (hr : ∀ pre x R, (pre ++ [x]) <+: zs → I pre R → W E an assign (setT T p (.i .i64 x)) R (fun e T1 R1 => e = .n ∧ W E an body T1 R1 (fun e _ R2 => e = .n ∧ I (pre ++ [x]) R2) .mk) .mk)
    (hd : ∀ R, I zs R → Q .n T R) : Sr P w0 (.rangeFunc g #[p] assign body) T R Q := by
  intro s a Ds Q' hs hQ
  refine (wpIn_wide (n := 0)).1 (wpIn_rangeFunc ?_)
  intro fn hfn
  have hgv := hs.T.ev g
  rw [hg] at hgv
  obtain ⟨vs, us, hv, hl1, hl2⟩ := fn_inv hgv
  have e1 : vs = #[] := by have := hl1.1; simp at this; exact Array.eq_empty_of_size_eq_zero this.symm
  subst e1
  obtain ⟨rec, hrec⟩ : ∃ rec : LoopState → Option Code → Loop, rec = fun st pe => { state := st, pending := pe, fn, tmps := a.tmps, params := #[p], assign, body, defers := s.w.heap.size } := ⟨_, rfl⟩
  obtain ⟨W1, hW1⟩ : ∃ W1, (s.w.alloc (.deferred (some []))).alloc (.loop (rec .ready none)) = W1 := ⟨_, rfl⟩
  have hsz1 : W1.heap.size = s.w.heap.size + 2 := by rw [← hW1]; simp
  have hL1 : W1.heap[s.w.heap.size + 1]? = some (.loop (rec .ready none)) := by
    rw [← hW1]; have := World.alloc_heap_new (s.w.alloc (.deferred (some []))) (.loop (rec .ready none)); rwa [World.size_alloc] at this
  have hK1 : W1.heap[s.w.heap.size]? = some (.deferred (some [])) := by
    rw [← hW1]; exact (Below.heap_alloc _ _ _ (by simp)).trans (World.alloc_heap_new s.w _)
  have hb1 : Below s.w.heap.size s.w W1 := by
    rw [← hW1]; exact ((Below.refl _ s.w).alloc (Nat.le_refl _) _).alloc (by simp) _
  have hw0 : w0.heap.size ≤ s.w.heap.size := hs.I.below.size
  obtain ⟨i1, x1⟩ := hs.I.same W1 hb1
  have hDn : ¬ s.w.heap.size ∈ Ds := fun hm => by
    have := (Array.getElem?_eq_some_iff.1 (hs.I.keep _ _ (kd_mem _ hm)).1).1
    omega
  have j0 : JR w0 ⟨W1, s.F, s.β⟩ R s.w.heap.size Ds (s.w.heap.size + 1) (.loop (rec .ready none)) R (fun b => b < W1.heap.size ∧ ((∃ q ver o k, getR R q = ⟨ver, some o⟩ ∧ s.β q = some (b, k)) ∨ s.w.heap.size ≤ b)) ⟨W1, s.F, s.β⟩ := by
    refine ⟨i1.rebase rfl rfl (fun r ver o b k hr hb => ?_) (fun b o hb => ?_), Ext.refl _ _, fun q ver o b k hq hb => ?_, fun b hb => hb.1, ⟨by omega, .inr (by omega)⟩, ⟨by omega, .inr (by omega)⟩⟩
    · have hlt := (hs.I.blk_lt hr hb).1
      have own := (hs.I.blk_own hr hb).2
      rw [upK_other _ _ _ _ (by omega)]
      refine kd_not _ (fun hm => ?_)
      rcases List.mem_cons.1 hm with e | e
      · omega
      · rw [kd_mem _ e] at own; cases own
    · by_cases e : b = s.w.heap.size + 1
      · subst e
        rw [upK_same] at hb
        injection hb with hb; subst hb
        exact ⟨hL1, fun hf => by have := hs.I.hF _ hf; omega⟩
      · rw [upK_other _ _ _ _ e] at hb
        by_cases e2 : b = s.w.heap.size
        · subst e2
          rw [kd_mem _ (List.mem_cons_self ..)] at hb
          injection hb with hb; subst hb
          exact ⟨hK1, fun hf => by have := hs.I.hF _ hf; omega⟩
        · by_cases hm : b ∈ Ds
          · rw [kd_mem _ (List.mem_cons_of_mem _ hm)] at hb
            injection hb with hb; subst hb
            exact i1.keep b _ (kd_mem _ hm)
          · rw [kd_not _ (by simp [e2, hm])] at hb; cases hb
    · exact ⟨by have := (hs.I.blk_lt hq hb).1; omega, .inl ⟨q, ver, o, k, hq, hb⟩⟩
  refine ⟨s.w.heap.size + 1, [{ target := .collected s.w.heap.size, args := #[] }], W1, { target := .fn (.func f) us, args := #[.func (.yield (s.w.heap.size + 1)) #[] #[]] }, W1, f,
    #[.func (.yield (s.w.heap.size + 1)) #[] #[]] ++ us, W1, ?_, ?_, fun f' _ => trivial, ?_, fun e => (by cases e), ?_⟩
  · rw [← hW1, hrec]; exact run_enterLoop_outer _ _ _ _ _
  · simp only [resolve, hv]
    simp [Deferred.ofValue, Act.eval]
  · simp only [invoke]
    exact callFunc_run hit.cal _ _
  · refine callsIn_wide.2 ?_
    have hcaps : RelL ⟨W1, s.F, s.β⟩ [] caps us.toList := by
      have := pure_all hl2 hp []
      exact this.ext (Ext.nil x1)
    refine Calls.mono (hit.run W1 s.F s.β us (s.w.heap.size + 1)
      (fun pre C W => ∃ s' R', s'.w = W ∧ JR w0 ⟨W1, s.F, s.β⟩ R s.w.heap.size Ds (s.w.heap.size + 1) (.loop (rec .ready none)) R' C s' ∧ I pre R')
      (fun b hb => i1.hF b hb) hcaps ?_ ?_ ?_ _ ⟨_, _, rfl, j0, h0⟩ ?_) ?_
    · rintro pre C W W' ⟨s', R', rfl, hj, hi⟩ hbel
      exact ⟨⟨W', s'.F, s'.β⟩, R', rfl, hj.step W' hbel, hi⟩
    · rintro pre C W ⟨s', R', rfl, hj, hi⟩
      exact hj.lt
    · rintro n pre x C W hpre ⟨s', R', rfl, hj, hi⟩
      have hl := (hj.I.keep _ _ (upK_same _ _ _)).1
      have hy := run_yield (P := P) (args := #[.int .i64 x]) hl (by rw [hrec]; rfl)
      rw [hrec] at hy
      have hT1 : RelT s' R' (setT T p (.i .i64 x)) (a.tmps.setIfInBounds p (.int .i64 x)) := RelT.set ((hs.T.ext x1).ext hj.e) p (.i _ _ _)
      have htm : ((#[p] : Array Tmp).zip #[Value.int .i64 x]).foldl (fun t (p, v) => t.setIfInBounds p v) a.tmps = a.tmps.setIfInBounds p (.int .i64 x) := by simp
      dsimp only at hy
      rw [htm] at hy
      refine ⟨fn, _, assign, body, hy, roundIn_of_wpIn hfn ?_⟩
      have hW := hr pre x R' hpre hi
      refine W_sound_in (a := { tmps := a.tmps.setIfInBounds p (.int .i64 x), defers := [] }) hE n (some (s.w.heap.size + 1)) assign ha hj.round hT1 hW (fun e => ?_)
      rintro T2 R2 s2 a2 ⟨rfl, hW2⟩ hi2 he2 hT2 hd2
      obtain ⟨hj2, hsame2⟩ := hj.back hi2 he2 (by omega)
      have hl2 := (hj2.I.keep _ _ (upK_same _ _ _)).1
      refine ⟨_, run_beginRound hl2 (by rw [hrec]), ?_⟩
      have hj3 := hj2.turn (by omega) (.loop { rec .ready none with state := .busy })
      have hT3 := hT2.ext ((hj2.I.turn (by show w0.heap.size ≤ _; omega) (.loop { rec .ready none with state := .busy })).2)
      refine W_sound_in hE n (some (s.w.heap.size + 1)) body hb (s := ⟨s2.w.putObj (s.w.heap.size + 1) (.loop { rec .ready none with state := .busy }), s2.F, s2.β⟩) hj3.round hT3 hW2 (fun e => ?_)
      rintro T4 R4 s4 a4 ⟨rfl, hi4⟩ hinv4 he4 hT4 hd4
      obtain ⟨hj4, hsame4⟩ := hj3.back hinv4 he4 (by omega)
      have hl4 := (hj4.I.keep _ _ (upK_same _ _ _)).1
      have hj5 := hj4.turn (by omega) (.loop (rec .ready none))
      have hend := run_endRound (P := P) none hl4
      refine ⟨_, _, hend, rfl, _, ⟨_, R4, ?_, hj5, hi4⟩, fun b hb hc => ?_, fun b hb => ?_⟩
      · rw [hrec]; rfl
      · have hne : b ≠ s.w.heap.size + 1 := fun e => hc (e ▸ hj.cl)
        have a1 := hsame2 b hb hc
        have hlt2 : b < s2.w.heap.size := (Array.getElem?_eq_some_iff.1 (a1.trans (Array.getElem?_eq_getElem hb))).1
        have a3 := hsame4 b (by simpa using hlt2) (fun q => q.1.elim hc (fun q => by omega))
        exact ((World.putObj_heap_other hne).trans a3).trans ((World.putObj_heap_other hne).trans a1)
      · rcases hb.1 with q | q
        · rcases q.1 with q | q
          · exact .inl q
          · exact .inr q
        · have q' : s2.w.heap.size ≤ b := by simpa using q
          by_cases hlt : b < s'.w.heap.size
          · have hc : C b := by
              apply Classical.byContradiction
              intro hc
              have := (Array.getElem?_eq_some_iff.1 ((hsame2 b hlt hc).trans (Array.getElem?_eq_getElem hlt))).1
              omega
            exact .inl hc
          · exact .inr (by omega)
    · rintro b hb ⟨_, hc⟩
      rcases hc with ⟨q, ver, o, k, hq, hbq⟩ | hc
      · exact (hs.I.blk_lt hq hbq).2.1 hb
      · have := hs.I.hF b hb; omega
    · rintro e W2 ⟨⟨v, rfl⟩, C', s', R', rfl, hj, hi⟩
      have hl := (hj.I.keep _ _ (upK_same _ _ _)).1
      refine ⟨none, _, by have := run_endLoop (P := P) hl (by rw [hrec]; simp); rw [hrec] at this; exact this, ?_⟩
      obtain ⟨t1, t2⟩ := hj.I.turn (show (w0.kd (s.w.heap.size :: Ds)).heap.size ≤ s.w.heap.size + 1 by show w0.heap.size ≤ _; omega) (.loop { rec .ready none with state := .exhausted })
      rw [hrec] at t1 t2
      refine hQ .n T R' _ { a with defers := { target := .collected s.w.heap.size, args := #[] } :: a.defers } (s.w.heap.size :: Ds) (hd R' hi) ⟨t1.rebase rfl rfl (fun r ver o b k hr hb => ?_) (fun b o hb => ?_), (((hs.T.ext x1).ext hj.e).ext t2), ?_, ?_, ?_⟩
      · have own := (t1.blk_own hr hb).2
        have hne : b ≠ s.w.heap.size + 1 := fun e => by rw [e, upK_same] at own; cases own
        rw [upK_other _ _ _ _ hne] at own
        exact own
      · refine t1.keep b o ?_
        rw [upK_other]
        · exact hb
        · intro e
          have hm : b ∈ s.w.heap.size :: Ds := by
            apply Classical.byContradiction
            intro hm
            rw [kd_not _ hm] at hb
            cases hb
          rcases List.mem_cons.1 hm with q | q
          · omega
          · have := (Array.getElem?_eq_some_iff.1 (hs.I.keep _ _ (kd_mem _ q)).1).1
            omega
      · show _ :: a.defers = _
        rw [hs.d]; rfl
      · exact List.nodup_cons.2 ⟨hDn, hs.nd⟩
      · intro D hD
        rcases List.mem_cons.1 hD with e | e
        · omega
        · exact hs.hD D e

/-! ### leaving -/
def shut (w : World) (Ds : List Nat) : World := Ds.foldl (fun w D => w.putObj D (.deferred none)) w
theorem StR.shut {w0 : Base} {T : List IV} {R : List Reg} {tm : Array Value} : ∀ (Ds : List Nat) {s : CS}, Inv (w0.kd Ds) s R → RelT s R T tm → Ds.Nodup → (∀ D ∈ Ds, w0.heap.size ≤ D) → Inv (w0.kd []) ⟨shut s.w Ds, s.F, s.β⟩ R ∧ RelT ⟨shut s.w Ds, s.F, s.β⟩ R T tm
  | [], s, h, hT, _, _ => ⟨h, hT⟩
  | D :: Ds, s, h, hT, hn, hd => by
    have hn' := List.nodup_cons.1 hn
    have hk := h.keep D _ (kd_mem _ (List.mem_cons_self ..))
    have h1 : Inv (upK (w0.kd Ds) D (some (.deferred (some [])))) s R := by
      refine h.rebase rfl rfl (fun r ver o b k hr hb => ?_) (fun b o hb => ?_)
      · have own := (h.blk_own hr hb).2
        by_cases e : b = D
        · subst e; rw [kd_mem _ (List.mem_cons_self ..)] at own; cases own
        · rw [upK_other _ _ _ _ e]
          refine kd_not _ (fun hm => ?_)
          rw [kd_mem _ (List.mem_cons_of_mem _ hm)] at own; cases own
      · by_cases e : b = D
        · subst e
          rw [upK_same] at hb
          injection hb with hb; subst hb
          exact hk
        · rw [upK_other _ _ _ _ e] at hb
          refine h.keep b o ?_
          by_cases hm : b ∈ Ds
          · rw [kd_mem _ hm] at hb
            rw [kd_mem _ (List.mem_cons_of_mem _ hm)]; exact hb
          · rw [kd_not _ hm] at hb; cases hb
    obtain ⟨t1, t2⟩ := h1.turn (hd D (List.mem_cons_self ..)) (.deferred none)
    have h2 : Inv (w0.kd Ds) ⟨s.w.putObj D (.deferred none), s.F, s.β⟩ R := by
      refine t1.rebase rfl rfl (fun r ver o b k hr hb => ?_) (fun b o hb => ?_)
      · have own := (t1.blk_own hr hb).2
        by_cases e : b = D
        · subst e; exact kd_not _ hn'.1
        · rw [upK_other _ _ _ _ e] at own; exact own
      · refine t1.keep b o ?_
        rw [upK_other]
        · exact hb
        · intro e
          rw [e, kd_not _ hn'.1] at hb
          cases hb
    exact StR.shut Ds h2 (hT.ext t2) hn'.2 (fun D' hD' => hd D' (List.mem_cons_of_mem _ hD'))

theorem leaves_marks {P : Program} {F : Fence} {n : Nat} {fn : Func} {tmps : Array Value} {R : Ending → World → Prop} : ∀ (Ds : List Nat) (w : World), Ds.Nodup → (∀ D ∈ Ds, w.heap[D]? = some (.deferred (some []))) →
    LeavesInM F n P fn tmps R [] .returning (shut w Ds) → LeavesInM F n P fn tmps R (Ds.map mark) .returning w
  | [], w, _, _, h => h
  | D :: Ds, w, hn, hk, h => by
    have hn' := List.nodup_cons.1 hn
    refine ⟨by simp, .inl ⟨D, _, rfl, run_takeDeferred (hk D (List.mem_cons_self ..)), leaves_marks Ds _ hn'.2 (fun D' hD' => ?_) h⟩⟩
    rw [World.putObj_heap_other (fun (e : D' = D) => hn'.1 (e ▸ hD'))]
    exact hk D' (List.mem_cons_of_mem _ hD')

/-- THE RULE of a function that ranges over iterators. -/
theorem PC_of_Sr {P : Program} {tys : Tys} (ht : tys = tysOf P) {f : FuncId} {fn : Func} (hf : P.funcs[f]? = some fn) (hn : (fn.name == "runtime.NumGoroutine") = false) (hb : fn.body.isSome = true)
    {xs : List IV} {y : IV} {Rr : List Reg} (l : List Nat) (hx : xs.length ≤ fn.ntmps)
    (h : ∀ w0 T, T.length = fn.ntmps → (∀ i x, xs[i]? = some x → getT T i = x) → Sr P w0 (bodyOf fn) T [] (retQ tys fn.results.toList (outK l y Rr))) : PC P true f xs y Rr := by
  subst ht
  refine ⟨⟨fn, hf, hn, by rw [bodyOf_some fn hb]; rfl⟩, fun w F β vs hF hrel => ?_⟩
  have start := Inv.start w F β hF
  refine callsIn_wide.1 (callsIn_of_wp_marks (n := 0) hf (bodyOf_some fn hb) trivial (wpIn_wide.2 ?_))
  refine h ⟨w, fun b => true = true ∧ F b, fun _ => none⟩ (initT fn.ntmps xs) (initT_len _ _ hx) (initT_at _ _) ⟨w, F, β⟩ _ [] _ ⟨?_, initT_rel fn.ntmps hrel, rfl, List.nodup_nil, fun D hD => by simp at hD⟩ ?_
  · exact start.rebase rfl rfl (fun r ver o b k hr => by rw [getR_nil] at hr; cases hr) (fun b o hb => by simp [Base.kd] at hb)
  · have key : ∀ (T : List IV) (R : List Reg) (s : CS) (a : Act) (Ds : List Nat), onO (resI (tysOf P) fn.results.toList T R) (fun v => outK l y Rr v R) .mk → StR ⟨w, fun b => true = true ∧ F b, fun _ => none⟩ s R T Ds a →
        LeavesInM Fence.wide 0 P fn a.tmps (fun e w1 => ∃ v sc, e = .returned v ∧ sc.w = w1 ∧ Inv ⟨w, fun b => true = true ∧ F b, fun _ => none⟩ sc Rr ∧ Rel sc Rr y v) a.defers .returning s.w := by
      intro T R s a Ds hK hs
      obtain ⟨x, h1, h2⟩ := onO_iff.1 hK
      rw [hs.d]
      refine leaves_marks Ds s.w hs.nd (fun D hD => (hs.I.keep D _ (kd_mem _ hD)).1) ?_
      obtain ⟨q1, q2⟩ := StR.shut Ds hs.I hs.T hs.nd hs.hD
      have q3 : Inv ⟨w, fun b => true = true ∧ F b, fun _ => none⟩ ⟨shut s.w Ds, s.F, s.β⟩ R := q1.rebase rfl rfl (fun r ver o b k hr hb => rfl) (fun b o hb => by cases hb)
      obtain ⟨v, h3, h4⟩ := resI_sound (P := P) q3 q2 h1
      obtain ⟨y', h2, hwk⟩ := h2
      obtain ⟨s2, k1, k2, k3, k4⟩ := impI_sound (Imp.out q3) h4 h2
      exact ⟨v, h3, v, s2, rfl, k2, k1, hwk _ _ _ k4⟩
    intro e T R s a Ds hK hs
    cases e with
    | n => exact key T R s a Ds hK hs
    | x id => exact hK.elim
    | r => exact key T R s a Ds hK hs
end Go.Iv
set_option linter.unusedVariables false
set_option linter.unusedSimpArgs false
namespace Go.Iv
open Go.RowKit
/-! Code that ranges over a string. -/
theorem vp_inv {s : CS} {R : List Reg} {l : Nat} {v : Value} (h : Rel s R (.vp l) v) : v = .pointer (some ⟨l, 0, none⟩) := by cases h; rfl
structure SX where
  T : List IV
  R : List Reg
  l : Nat
  b : ByteArray
  pos : Nat
structure StX (w0 : Base) (x : SX) (a : Act) (w : World) : Prop where
  h : ∃ s : CS, s.w = w ∧ Inv (upK w0 x.l (some (.stringIter x.b x.pos))) s x.R ∧ RelT s x.R x.T a.tmps
  d : a.defers = []
  hl : w0.heap.size ≤ x.l
abbrev PX := Ex → SX → Prop
def PostX (w0 : Base) (Q : PX) (Q' : Exit → Act → World → Prop) : Prop := ∀ e x a w, Q e x → StX w0 x a w → Q' (exitOf e) a w
def Sx (P : Program) (w0 : Base) (c : Code) (x : SX) (Q : PX) : Prop := ∀ a w Q', StX w0 x a w → PostX w0 Q Q' → c.wp P Q' a w
theorem Sx.ofW {P : Program} {w0 : Base} {E : Env} {an : List (Nat × Nat × An)} {c : Code} {x : SX} {Q : PX} (hE : EnvOK P E) (hm : P.follows .mixedOrders = true) (hok : okC an c = true)
    {t : Tok (fun e T R => Q e { x with T := T, R := R } : Post)} (h : W E an c x.T x.R (fun e T R => Q e { x with T := T, R := R }) t) : Sx P w0 c x Q := by
  rintro a w Q' ⟨⟨s, rfl, hi, hT⟩, hd, hl⟩ hQ
  refine W_sound hE hm c hok hi hT h (fun e => ?_)
  intro T1 R1 s1 a1 hq hi1 he hT1 hd1
  exact hQ e _ a1 s1.w hq ⟨⟨s1, rfl, hi1, hT1⟩, hd1.trans hd, hl⟩
def seqX (K : SX → Prop) (Q : PX) : PX
  | .n, x => K x
  | e, x => Q e x
theorem Sx.seq {P : Program} {w0 : Base} {c d : Code} {x : SX} {Q : PX} (h : Sx P w0 c x (seqX (fun x => Sx P w0 d x Q) Q)) : Sx P w0 (.seq c d) x Q := by
  intro a w Q' hs hQ
  refine wp_seq (h a w _ hs (fun e x1 a1 w1 hq h1 => ?_))
  cases e with
  | n => exact hq a1 w1 Q' h1 hQ
  | x id => exact hQ (.x id) x1 a1 w1 hq h1
  | r => exact hQ .r x1 a1 w1 hq h1
theorem Sx.cond {P : Program} {w0 : Base} {c : Operand} {d e : Code} {x : SX} {Q : PX} {v : Bool} (hv : evI x.T c = .b v) (h1 : v = true → Sx P w0 d x Q) (h2 : v = false → Sx P w0 e x Q) : Sx P w0 (.cond c d e) x Q := by
  intro a w Q' hs hQ
  obtain ⟨s, rfl, hi, hT⟩ := hs.h
  have hc := hT.ev c
  rw [hv] at hc
  cases v with
  | true => exact wp_cond_true (b_inv hc) (h1 rfl a _ Q' hs hQ)
  | false => exact wp_cond_false (b_inv hc) (h2 rfl a _ Q' hs hQ)
def blockX (id : Nat) (Q : PX) : PX
  | .x id', x => if id' = id then Q .n x else Q (.x id') x
  | e, x => Q e x
theorem Sx.block {P : Program} {w0 : Base} {id : Nat} {c : Code} {x : SX} {Q : PX} (h : Sx P w0 c x (blockX id Q)) : Sx P w0 (.block id c) x Q := by
  intro a w Q' hs hQ
  refine wp_block (h a w _ hs (fun e x1 a1 w1 hq h1 => ?_))
  cases e with
  | n => exact hQ .n x1 a1 w1 hq h1
  | x id' =>
    simp only [blockX] at hq
    simp only [exitOf, Exit.inBlock]
    split
    · rename_i e
      rw [if_pos e] at hq
      exact hQ .n x1 a1 w1 hq h1
    · rename_i e
      rw [if_neg e] at hq
      exact hQ (.x id') x1 a1 w1 hq h1
  | r => exact hQ .r x1 a1 w1 hq h1
theorem Sx.loop {P : Program} {w0 : Base} {c : Code} {x : SX} {Q : PX} (I : SX → Prop) (m : SX → Nat) (h0 : I x)
    (h : ∀ x, I x → Sx P w0 c x (seqX (fun x1 => I x1 ∧ m x1 < m x) Q)) : Sx P w0 (.loop c) x Q := by
  intro a w Q' hs hQ
  refine wp_loop_rel (fun n a' w' => ∃ x', I x' ∧ m x' = n ∧ StX w0 x' a' w') (n := m x) ⟨x, h0, rfl, hs⟩ ?_
  rintro n a' w' ⟨x', h1, h2, h3⟩
  refine h x' h1 a' w' _ h3 (fun e x1 a1 w1 hq hs1 => ?_)
  cases e with
  | n => exact ⟨m x1, h2 ▸ hq.2, x1, hq.1, rfl, hs1⟩
  | x id => exact hQ (.x id) x1 a1 w1 hq hs1
  | r => exact hQ .r x1 a1 w1 hq hs1

/-- The step of the range. -/
def nextX (x : SX) : SX × IV := if x.pos < x.b.size then ({ x with pos := x.pos + (Utf8.decode x.b x.pos).2 }, .tu [.b true, .i .i64 x.pos, .i .i32 (Utf8.decode x.b x.pos).1]) else (x, .tu [.b false])
theorem Sx.next {P : Program} {w0 : Base} {E : Env} {an : List (Nat × Nat × An)} {id d t : Nat} {ty : TypeId} {pos : String} {af : Array Edge} {rest : List Oper} {x : SX} {Q : PX} (hE : EnvOK P E) (hx : getT x.T t = .vp x.l)
    {tok : Tok ((⟨some d, .next (.tmp t) true, ty, pos, af, none⟩ :: rest : List Oper), fun T R => Q .n { (nextX x).1 with T := T, R := R })}
    (h : opsW E (anAt an id) (⟨some d, .next (.tmp t) true, ty, pos, af, none⟩ :: rest) 1 rest (setT x.T d (nextX x).2) x.R (fun T R => Q .n { (nextX x).1 with T := T, R := R }) tok) :
    Sx P w0 (.region id ⟨⟨some d, .next (.tmp t) true, ty, pos, af, none⟩ :: rest⟩ false) x Q := by
  intro a w Q' hs hQ
  obtain ⟨⟨s, rfl, hi, hT⟩, hd, hl⟩ := hs
  refine wp_region ?_
  have hv := hT.at t
  rw [hx] at hv
  have hva : a.eval (.tmp t) = .pointer (some ⟨x.l, 0, none⟩) := vp_inv hv
  have hk := (hi.keep x.l _ (upK_same _ _ _)).1
  have hlt : x.l < s.w.heap.size := (Array.getElem?_eq_some_iff.1 hk).1
  -- what the step does
  have step : ∃ y s1, (execOp a.eval ⟨some d, .next (.tmp t) true, ty, pos, af, none⟩).run P s.w = .ok (.value y) s1.w ∧ Inv (upK w0 x.l (some (.stringIter x.b (nextX x).1.pos))) s1 x.R ∧ Ext s x.R s1 x.R ∧ Rel s1 x.R (nextX x).2 y := by
    have hget : (getObj x.l).run P s.w = .ok (.stringIter x.b x.pos) s.w := by simp [getObj, Sem.run, hk]
    unfold nextX
    by_cases hp : x.pos < x.b.size
    · obtain ⟨t1, t2⟩ := hi.turn hl (.stringIter x.b (x.pos + (Utf8.decode x.b x.pos).2))
      refine ⟨.tuple #[.bool true, goInt x.pos, .int .i32 (Utf8.decode x.b x.pos).1], _, ?_, (by simp only [if_pos hp]; exact t1), t2, ?_⟩
      · have hset : (setObj x.l (.stringIter x.b (x.pos + (Utf8.decode x.b x.pos).2))).run P s.w = .ok () (s.w.putObj x.l (.stringIter x.b (x.pos + (Utf8.decode x.b x.pos).2))) := by simp [setObj, Sem.run, hk, World.putObj]
        simp only [execOp, Instr.next, hva, Sem.run_bind, hget, Result.andThen_ok, if_pos hp, hset, Sem.run_pure]
      · rw [if_pos hp]
        refine .tu _ _ _ rfl (fun j z v hz hzv => ?_)
        match j, hz, hzv with
        | 0, hz, hzv => simp at hz hzv; subst hz; subst hzv; exact .b _ _
        | 1, hz, hzv => simp at hz hzv; subst hz; subst hzv; exact .i _ _ _
        | 2, hz, hzv => simp at hz hzv; subst hz; subst hzv; exact .i _ _ _
        | j + 3, hz, hzv => simp at hz
    · refine ⟨.tuple #[.bool false], s, ?_, (by simp only [if_neg hp]; exact hi), Ext.refl _ _, ?_⟩
      · simp only [execOp, Instr.next, hva, Sem.run_bind, hget, Result.andThen_ok, if_neg hp, Sem.run_pure]
      · rw [if_neg hp]
        refine .tu _ _ _ rfl (fun j z v hz hzv => ?_)
        match j, hz, hzv with
        | 0, hz, hzv => simp at hz hzv; subst hz; subst hzv; exact .b _ _
        | j + 1, hz, hzv => simp at hz
  obtain ⟨y, s1, e1, e2, e3, e4⟩ := step
  have hRl : (nextX x).1.l = x.l ∧ (nextX x).1.b = x.b := by unfold nextX; split <;> exact ⟨rfl, rfl⟩
  have hrange : List.range (⟨⟨some d, .next (.tmp t) true, ty, pos, af, none⟩ :: rest⟩ : Array Oper).size = 0 :: List.range' 1 rest.length := by
    rw [List.range_eq_range']
    show List.range' 0 (rest.length + 1) = _
    rw [List.range'_succ]
  rw [hrange, wpOps_cons]
  unfold wpOp
  simp only [List.getElem?_toArray, List.getElem?_cons_zero]
  rw [show Region.wanted (⟨some d, .next (.tmp t) true, ty, pos, af, none⟩ : Oper) (yielded (⟨⟨some d, .next (.tmp t) true, ty, pos, af, none⟩ :: rest⟩ : Array Oper) a.tmps) = true by simp [Region.wanted], if_pos rfl]
  refine .inl ?_
  unfold Oper.wp
  rw [e1, Oper.upon_value]
  refine opsW_sound (ops := ⟨⟨some d, .next (.tmp t) true, ty, pos, af, none⟩ :: rest⟩) hE rest 1 (by simp) e2 ((hT.ext e3).put (some d) e4) h ?_
  intro T2 R2 s2 a2 hq hi2 he2 hT2 hd2
  refine hQ .n _ a2 s2.w hq ⟨⟨s2, rfl, ?_, hT2⟩, (hd2.trans (Act.put_defers' _ _ _)).trans hd, by rw [hRl.1]; exact hl⟩
  rw [hRl.1, hRl.2]
  exact hi2

theorem Sx.next_t {P : Program} {w0 : Base} {E : Env} {an : List (Nat × Nat × An)} {id d t : Nat} {ty : TypeId} {pos : String} {af : Array Edge} {rest : List Oper} {T : List IV} {R : List Reg} {l p : Nat} {b : ByteArray} {Q : PX} (hE : EnvOK P E) (hx : getT T t = .vp l) (hp : p < b.size)
    {tok : Tok ((⟨some d, .next (.tmp t) true, ty, pos, af, none⟩ :: rest : List Oper), fun T R => Q .n ⟨T, R, l, b, p + (Utf8.decode b p).2⟩)}
    (h : opsW E (anAt an id) (⟨some d, .next (.tmp t) true, ty, pos, af, none⟩ :: rest) 1 rest (setT T d (.tu [.b true, .i .i64 p, .i .i32 (Utf8.decode b p).1])) R (fun T R => Q .n ⟨T, R, l, b, p + (Utf8.decode b p).2⟩) tok) :
    Sx P w0 (.region id ⟨⟨some d, .next (.tmp t) true, ty, pos, af, none⟩ :: rest⟩ false) ⟨T, R, l, b, p⟩ Q := by
  have e : nextX ⟨T, R, l, b, p⟩ = (⟨T, R, l, b, p + (Utf8.decode b p).2⟩, .tu [.b true, .i .i64 p, .i .i32 (Utf8.decode b p).1]) := if_pos hp
  refine Sx.next (an := an) (tok := .mk) hE hx ?_
  cases tok
  rw [e]
  exact h
theorem Sx.next_f {P : Program} {w0 : Base} {E : Env} {an : List (Nat × Nat × An)} {id d t : Nat} {ty : TypeId} {pos : String} {af : Array Edge} {rest : List Oper} {T : List IV} {R : List Reg} {l p : Nat} {b : ByteArray} {Q : PX} (hE : EnvOK P E) (hx : getT T t = .vp l) (hp : ¬ p < b.size)
    {tok : Tok ((⟨some d, .next (.tmp t) true, ty, pos, af, none⟩ :: rest : List Oper), fun T R => Q .n ⟨T, R, l, b, p⟩)}
    (h : opsW E (anAt an id) (⟨some d, .next (.tmp t) true, ty, pos, af, none⟩ :: rest) 1 rest (setT T d (.tu [.b false])) R (fun T R => Q .n ⟨T, R, l, b, p⟩) tok) :
    Sx P w0 (.region id ⟨⟨some d, .next (.tmp t) true, ty, pos, af, none⟩ :: rest⟩ false) ⟨T, R, l, b, p⟩ Q := by
  have e : nextX ⟨T, R, l, b, p⟩ = (⟨T, R, l, b, p⟩, .tu [.b false]) := if_neg hp
  refine Sx.next (an := an) (tok := .mk) hE hx ?_
  cases tok
  rw [e]
  exact h

/-- Where the range begins: the state that was, and the iterator's block. -/
theorem Sx.start {P : Program} {w0 : Base} {id d0 d : Nat} {xo : Operand} {ty ty0 xt : TypeId} {pos pos0 : String} {af af0 : Array Edge} {T : List IV} {R : List Reg} {Q : PX} {b : ByteArray} {a : Act} {s : CS} {Q' : Exit → Act → World → Prop}
    (hi : Inv w0 s R) (hT : RelT s R T a.tmps) (hd : a.defers = []) (hs : tyK (tysOf P) xt = .str) (hev : evI T xo = .s b) (hdt : d0 < T.length)
    (h : ∀ l, Q .n ⟨setT (setT T d0 (.s b)) d (.vp l), R, l, b, 0⟩) (hQ : PostX w0 Q Q') (hK : w0.K = fun _ => none) :
    (Code.region id ⟨[⟨some d0, .move xo, ty0, pos0, af0, none⟩, ⟨some d, .range xt (.tmp d0), ty, pos, af, none⟩]⟩ false).wp P Q' a s.w := by
  have hu : P.underlying xt = some .string := under_of hs
  refine wp_region ?_
  have hv := hT.ev xo
  rw [hev] at hv
  have hva : a.eval xo = .string b := by cases h' : a.eval xo <;> rw [h'] at hv <;> cases hv; rfl
  have hT1 := hT.put (a := a) (some d0) hv
  have hv1 := hT1.at d0
  rw [show getT (putT T (some d0) (.s b)) d0 = .s b from gs hdt] at hv1
  have hva1 : (a.put (some d0) (a.eval xo)).eval (.tmp d0) = .string b := by
    show (a.put (some d0) (a.eval xo)).tmps.getD d0 undef = _
    cases h' : (a.put (some d0) (a.eval xo)).tmps.getD d0 undef <;> rw [h'] at hv1 <;> cases hv1; rfl
  rw [show List.range (⟨[⟨some d0, .move xo, ty0, pos0, af0, none⟩, ⟨some d, .range xt (.tmp d0), ty, pos, af, none⟩]⟩ : Array Oper).size = [0, 1] from rfl, wpOps_cons]
  unfold wpOp
  simp only [List.getElem?_toArray, List.getElem?_cons_zero]
  rw [show Region.wanted (⟨some d0, .move xo, ty0, pos0, af0, none⟩ : Oper) _ = true by simp [Region.wanted], if_pos rfl]
  refine .inl ?_
  unfold Oper.wp
  rw [show (execOp a.eval ⟨some d0, .move xo, ty0, pos0, af0, none⟩).run P s.w = .ok (.value (a.eval xo)) s.w from rfl, Oper.upon_value, wpOps_cons]
  unfold wpOp
  simp only [List.getElem?_toArray, List.getElem?_cons_zero, List.getElem?_cons_succ]
  rw [show Region.wanted (⟨some d, .range xt (.tmp d0), ty, pos, af, none⟩ : Oper) _ = true by simp [Region.wanted], if_pos rfl]
  refine .inl ?_
  unfold Oper.wp
  have hrun : (execOp (a.put (some d0) (a.eval xo)).eval ⟨some d, .range xt (.tmp d0), ty, pos, af, none⟩).run P s.w = .ok (.value (.pointer (some ⟨s.w.heap.size, 0, none⟩))) (s.w.alloc (.stringIter b 0)) := by
    simp only [execOp, Instr.range, hva1, Sem.run_bind, run_underlying hu, Result.andThen_ok, Sem.run_pure, run_newObj_alloc]
  rw [hrun, Oper.upon_value]
  obtain ⟨i1, x1⟩ := hi.same (s.w.alloc (.stringIter b 0)) ((Below.refl _ _).alloc (Nat.le_refl _) _)
  refine hQ .n _ ((a.put (some d0) (a.eval xo)).put (some d) (.pointer (some ⟨s.w.heap.size, 0, none⟩))) _ (h s.w.heap.size) ⟨⟨⟨s.w.alloc (.stringIter b 0), s.F, s.β⟩, rfl, ?_, ?_⟩, ?_, hi.below.size⟩
  · refine i1.rebase rfl rfl (fun r ver o b2 k hr hb => ?_) (fun b2 o hb => ?_)
    · have := (hi.blk_lt hr hb).1
      rw [upK_other _ _ _ _ (by dsimp only; omega), hK]
    · by_cases e : b2 = s.w.heap.size
      · subst e
        rw [upK_same] at hb
        injection hb with hb; subst hb
        exact ⟨World.alloc_heap_new _ _, fun hf => by have := hi.hF _ hf; omega⟩
      · rw [upK_other _ _ _ _ e, hK] at hb
        cases hb
  · exact (hT1.ext x1).put (some d) (.vp _ _)
  · exact ((Act.put_defers' _ _ _).trans (Act.put_defers' _ _ _)).trans hd
/-- THE RULE of a function that ranges over a string. -/
theorem PC_of_Sx {P : Program} {tys : Tys} (ht : tys = tysOf P) {f : FuncId} {fn : Func} (hf : P.funcs[f]? = some fn) (hn : (fn.name == "runtime.NumGoroutine") = false) (hb : fn.body.isSome = true)
    {xs : List IV} {y : IV} {Rr : List Reg} (l : List Nat) (hx : xs.length ≤ fn.ntmps)
    (h : ∀ (w0 : Base) T, w0.K = (fun _ => none) → T.length = fn.ntmps → (∀ i x, xs[i]? = some x → getT T i = x) → ∀ s a Q', Inv w0 s [] → RelT s [] T a.tmps → a.defers = [] →
      PostX w0 (fun e x => retQ tys fn.results.toList (outK l y Rr) e x.T x.R) Q' → (bodyOf fn).wp P Q' a s.w) : PC P true f xs y Rr := by
  subst ht
  refine ⟨⟨fn, hf, hn, by rw [bodyOf_some fn hb]; rfl⟩, fun w F β vs hF hrel => ?_⟩
  have start := Inv.start w F β hF
  refine calls_of_wp hf (bodyOf_some fn hb) (h _ _ rfl (initT_len _ _ hx) (initT_at _ _) ⟨w, F, β⟩ _ _ start (initT_rel fn.ntmps hrel) rfl ?_)
  have key : ∀ (x : SX) (a : Act) (w1 : World), onO (resI (tysOf P) fn.results.toList x.T x.R) (fun v => outK l y Rr v x.R) .mk → StX ⟨w, fun b => true = true ∧ F b, fun _ => none⟩ x a w1 →
      a.defers = [] ∧ ∃ v, (results fn a.tmps).run P w1 = .ok v w1 ∧ ∃ v' sc, Ending.returned v = .returned v' ∧ sc.w = w1 ∧ Inv ⟨w, fun b => true = true ∧ F b, fun _ => none⟩ sc Rr ∧ Rel sc Rr y v' := by
    rintro x a w1 hK ⟨⟨s, rfl, hi, hT⟩, hd, hl⟩
    obtain ⟨z, h1, h2⟩ := onO_iff.1 hK
    have q3 : Inv ⟨w, fun b => true = true ∧ F b, fun _ => none⟩ s x.R := hi.rebase rfl rfl (fun r ver o b k hr hb => rfl) (fun b o hb => by cases hb)
    obtain ⟨v, h3, h4⟩ := resI_sound (P := P) q3 hT h1
    obtain ⟨y', h2, hwk⟩ := h2
    obtain ⟨s2, k1, k2, k3, k4⟩ := impI_sound (Imp.out q3) h4 h2
    exact ⟨hd, v, h3, v, s2, rfl, k2, k1, hwk _ _ _ k4⟩
  intro e x a w1 hK hs
  cases e with
  | n => exact key x a w1 hK hs
  | x id => exact hK.elim
  | r => exact key x a w1 hK hs
end Go.Iv
set_option linter.unusedVariables false
namespace Go.Iv
/-! appends, one by one -/
def appI (tys : Tys) (an : An) (ts tx : TypeId) (s x : IV) (R : List Reg) : Option (IV × List Reg) := appendI tys an ts tx s x R
def bltI (tys : Tys) (an : An) (b : Builtin) (ts : List TypeId) (vs : List IV) (R : List Reg) : Option (IV × List Reg) := builtinI tys an b ts vs R
theorem st_append (E : Env) (T : List IV) (R : List Reg) (K : IV → List Reg → Prop) (tk : Tok K) (an : An) (x y : Operand) (t u : TypeId) : stepW E an (.call ⟨.builtin .append, ⟨[x, y]⟩, ⟨[t, u]⟩⟩) T R K tk ↔ onO (appI E.tys an t u (evI T x) (evI T y) R) (fun p => K p.1 p.2) .mk := Iff.rfl
theorem st_len (E : Env) (T : List IV) (R : List Reg) (K : IV → List Reg → Prop) (tk : Tok K) (an : An) (x : Operand) (t : TypeId) : stepW E an (.call ⟨.builtin .len, ⟨[x]⟩, ⟨[t]⟩⟩) T R K tk ↔ onO (bltI E.tys an .len [t] [evI T x] R) (fun p => K p.1 p.2) .mk := Iff.rfl
theorem st_cap (E : Env) (T : List IV) (R : List Reg) (K : IV → List Reg → Prop) (tk : Tok K) (an : An) (x : Operand) (t : TypeId) : stepW E an (.call ⟨.builtin .cap, ⟨[x]⟩, ⟨[t]⟩⟩) T R K tk ↔ onO (bltI E.tys an .cap [t] [evI T x] R) (fun p => K p.1 p.2) .mk := Iff.rfl
theorem st_clear (E : Env) (T : List IV) (R : List Reg) (K : IV → List Reg → Prop) (tk : Tok K) (an : An) (x : Operand) (t : TypeId) : stepW E an (.call ⟨.builtin .clear, ⟨[x]⟩, ⟨[t]⟩⟩) T R K tk ↔ onO (bltI E.tys an .clear [t] [evI T x] R) (fun p => K p.1 p.2) .mk := Iff.rfl
theorem st_min (E : Env) (T : List IV) (R : List Reg) (K : IV → List Reg → Prop) (tk : Tok K) (an : An) (x y : Operand) (t u : TypeId) : stepW E an (.call ⟨.builtin .min, ⟨[x, y]⟩, ⟨[t, u]⟩⟩) T R K tk ↔ onO (bltI E.tys an .min [t, u] [evI T x, evI T y] R) (fun p => K p.1 p.2) .mk := Iff.rfl
theorem st_max (E : Env) (T : List IV) (R : List Reg) (K : IV → List Reg → Prop) (tk : Tok K) (an : An) (x y : Operand) (t u : TypeId) : stepW E an (.call ⟨.builtin .max, ⟨[x, y]⟩, ⟨[t, u]⟩⟩) T R K tk ↔ onO (bltI E.tys an .max [t, u] [evI T x, evI T y] R) (fun p => K p.1 p.2) .mk := Iff.rfl
/-- What gathers: nothing yet, or a register's row. -/
def Acc (e sz : Nat) (r : Nat) (v : IV) (R : List Reg) (rows : List (List IV)) : Prop :=
  (rows = [] ∧ v = .sl (some true) []) ∨ ∃ ver, v = .rf r ver 0 rows.length ∧ liveR R r ver = some ⟨false, e, sz, rows⟩
theorem Acc.nil (e sz r : Nat) (R : List Reg) : Acc e sz r (.sl (some true) []) R [] := .inl ⟨rfl, rfl⟩
theorem Acc.append {tys : Tys} {e ts tx r : Nat} {ei : TI} {v x : IV} {R : List Reg} {rows new : List (List IV)} (h : Acc e ei.size r v R rows) (hts : tyK tys ts = .slice e) (hei : tys[e]? = some ei) (htx : ∃ e', tyK tys tx = .slice e')
    (hx : srcI x R = some new) (hok : okRows ei.size new = true) (h1 : 0 < ei.size) (h2 : ei.zero.length = ei.size) (h3 : 0 < ei.bytes) (hl : new.length ≤ 4611686018427387904) (hroom : room ei (rows.length + new.length) = true) :
    ∃ v1 R1, appI tys (.reg r) ts tx v x R = some (v1, R1) ∧ Acc e ei.size r v1 R1 (rows ++ new) ∧ ∃ o, R1 = newR R r o := by
  obtain ⟨e', htx⟩ := htx
  unfold appI
  rcases h with ⟨h, hv⟩ | ⟨ver, hv, ho⟩
  · subst h; subst hv
    refine ⟨.rf r (verR R r) 0 new.length, newR R r ⟨false, e, ei.size, new⟩, ?_, .inr ⟨verR R r, by simp, by simp only [List.nil_append]; exact lr_new _ _ _⟩, _, rfl⟩
    have hroom' : room ei new.length = true := by simpa using hroom
    simp only [appendI, hts, hei, htx, hx, hok, h1, h2, h3, hl, hroom', and_self, if_true]
  · subst hv
    refine ⟨.rf r (verR R r) 0 (rows.length + new.length), newR R r ⟨false, e, ei.size, rows ++ new⟩, ?_, .inr ⟨verR R r, by simp, lr_new _ _ _⟩, _, rfl⟩
    simp only [appendI, hts, hei, htx, hx, hok, h1, h2, h3, hl, and_self, if_true, ho]
    simp [hroom]
theorem Acc.len {tys : Tys} {e sz r ts : Nat} {v : IV} {R : List Reg} {rows : List (List IV)} (h : Acc e sz r v R rows) (an : An) (hts : tyK tys ts = .slice e) : bltI tys an .len [ts] [v] R = some (.i .i64 (rows.length : Int), R) := by
  unfold bltI
  rcases h with ⟨h, hv⟩ | ⟨ver, hv, ho⟩
  · subst h; subst hv; simp only [builtinI, hts, lenI, List.length_nil]
  · subst hv; simp only [builtinI, hts, lenI, ho]
/-- What has been gathered, given back by value. -/
theorem Acc.out {e sz r : Nat} {v : IV} {R : List Reg} {rows : List (List IV)} (h : Acc e sz r v R rows) : ∃ y', impI [] R [] v = some (y', []) ∧ Wk y' (.sl none rows) := by
  rcases h with ⟨h, hv⟩ | ⟨ver, hv, ho⟩
  · subst h; subst hv
    exact ⟨.sl (some true) [], rfl, Wk.sl _ _⟩
  · subst hv
    exact ⟨.sl none rows, by simp [impI, impC, cutO, ho], Wk.sl _ _⟩
theorem Acc.ne {e sz r q : Nat} {v : IV} {R : List Reg} {rows : List (List IV)} (h : Acc e sz r v R rows) (o : Obj) (hq : r ≠ q) : Acc e sz r v (newR R q o) rows := by
  rcases h with h | ⟨ver, hv, ho⟩
  · exact .inl h
  · exact .inr ⟨ver, hv, by rw [lr_new_ne _ _ _ _ _ hq]; exact ho⟩
theorem nc0 : ((0 : Nat) : Int) = 0 := Eq.trans rfl rfl
theorem nc1 : ((1 : Nat) : Int) = 1 := Eq.trans rfl rfl
theorem nc2 : ((2 : Nat) : Int) = 2 := Eq.trans rfl rfl
theorem nc3 : ((3 : Nat) : Int) = 3 := Eq.trans rfl rfl
theorem w0 : IntKind.i64.wrap 0 = 0 := by rw [wrap64] <;> omega
theorem w1 : IntKind.i64.wrap 1 = 1 := by rw [wrap64] <;> omega
theorem w2 : IntKind.i64.wrap 2 = 2 := by rw [wrap64] <;> omega
theorem wm1 : IntKind.i64.wrap (-1) = -1 := by rw [wrap64] <;> omega
theorem allLen_nil (sz : Nat) : allLen sz [] = true := Eq.trans rfl rfl
theorem encI_take (xs : List Int) (n : Nat) : (encI xs).take n = encI (xs.take n) := by simp [encI]
theorem encI_drop (xs : List Int) (n : Nat) : (encI xs).drop n = encI (xs.drop n) := by simp [encI]
theorem wB : type_of% @W_skip ∧ type_of% @allLen_nil ∧ type_of% @encI_all ∧ type_of% @Option.getD_none.{0} ∧ type_of% @Option.getD_some.{0} ∧ type_of% @List.take_nil.{0} ∧ type_of% @List.drop_nil.{0} ∧ type_of% @nc0 ∧ type_of% @nc1 ∧ type_of% @nc2 ∧ type_of% @nc3 ∧ type_of% @w0 ∧ type_of% @w1 ∧ type_of% @w2 ∧ type_of% @wm1 ∧ type_of% @W_region ∧ type_of% @W_regionD ∧ type_of% @W_seq ∧ type_of% @W_cond ∧ type_of% @W_block ∧ type_of% @W_exit ∧ type_of% @W_ret ∧ type_of% @W_label ∧ type_of% @gs ∧ type_of% @gn ∧ type_of% @sl ∧ type_of% @putT_some ∧ type_of% @putT_none ∧ type_of% @ev_tmp ∧ type_of% @ev_func ∧ type_of% @ev_int ∧ type_of% @ev_bool ∧ type_of% @ev_str ∧ type_of% @ev_nil ∧ type_of% @ev_np ∧ type_of% @ev_agg ∧ type_of% @ofV0_int ∧ type_of% @ofV0_bool ∧ type_of% @ofV0_str ∧ type_of% @ofV0_nil ∧ type_of% @ops_nil ∧ type_of% @ops_cons ∧ type_of% @ops_guard ∧ type_of% @yield_s ∧ type_of% @yield_z ∧ type_of% @anAt_nil ∧ type_of% @anAt_cons ∧ type_of% @draw_done ∧ type_of% @draw_pure ∧ type_of% @draw_read ∧ type_of% @draw_one ∧ type_of% @stp_plain ∧ type_of% @stp_guard ∧ type_of% @seqK_n ∧ type_of% @seqK_x ∧ type_of% @seqK_r ∧ type_of% @blockK_n ∧ type_of% @blockK_r ∧ type_of% @blockK_eq ∧ type_of% @blockK_ne ∧ type_of% @condW_t ∧ type_of% @condW_f ∧ type_of% @guardW_tt ∧ type_of% @guardW_ff ∧ type_of% @guardW_tf ∧ type_of% @guardW_ft ∧ type_of% @guardW_u ∧ type_of% @onO_some ∧ type_of% @onO_none ∧ type_of% @callV_fn ∧ type_of% @bool_b ∧ type_of% @st_bs ∧ type_of% @st_slice ∧ type_of% @okRows_nil ∧ type_of% @okRows_cons ∧ type_of% @encI_ok ∧ type_of% @beq_self_eq_true.{0} ∧ type_of% @List.flatten_cons.{0} ∧ type_of% @List.flatten_nil.{0} ∧ type_of% @tup_tu ∧ type_of% @st_move ∧ type_of% @st_assign ∧ type_of% @st_pick ∧ type_of% @st_bin ∧ type_of% @st_un ∧ type_of% @st_conv ∧ type_of% @st_load ∧ type_of% @st_store ∧ type_of% @st_fieldAddr ∧ type_of% @st_field ∧ type_of% @st_indexAddr ∧ type_of% @st_index ∧ type_of% @st_build ∧ type_of% @st_extract ∧ type_of% @st_makeFunc ∧ type_of% @st_nilCheck ∧ type_of% @st_alloc ∧ type_of% @st_boxI ∧ type_of% @st_call ∧ type_of% @bin_add ∧ type_of% @bin_sub ∧ type_of% @bin_mul ∧ type_of% @bin_quo ∧ type_of% @bin_rem ∧ type_of% @bin_eql ∧ type_of% @bin_neq ∧ type_of% @bin_lss ∧ type_of% @bin_leq ∧ type_of% @bin_gtr ∧ type_of% @bin_geq ∧ type_of% @un_not ∧ type_of% @un_neg ∧ type_of% @nat_ofNat ∧ type_of% @nat_i ∧ type_of% @ret_r ∧ type_of% @ret_n ∧ type_of% @outQ_iff ∧ type_of% @outK_iff ∧ type_of% @outE_iff ∧ type_of% @outS_iff ∧ type_of% @outR_iff ∧ type_of% @resI_nil ∧ type_of% @resI_one ∧ type_of% @resI_two ∧ type_of% @res1_tmp ∧ type_of% @res1_cell ∧ type_of% @lr_new ∧ type_of% @lr_set ∧ type_of% @lr_new_ne ∧ type_of% @lr_set_ne ∧ type_of% @encI_len ∧ type_of% @List.append_assoc.{0} ∧ type_of% @List.cons_append.{0} ∧ type_of% @List.nil_append.{0} ∧ type_of% @List.append_nil.{0} ∧ type_of% @List.map_cons.{0, 0} ∧ type_of% @List.map_nil.{0, 0} ∧ type_of% @List.all_cons.{0} ∧ type_of% @List.all_nil.{0} ∧ type_of% @List.length_cons.{0} ∧ type_of% @List.length_nil.{0} ∧ type_of% @List.getElem?_nil.{0} ∧ type_of% @List.getElem?_cons_zero.{0} ∧ type_of% @List.getElem?_cons_succ.{0} ∧ type_of% @List.getElem_cons_zero.{0} ∧ type_of% @List.drop_zero.{0} ∧ type_of% @List.drop_succ_cons.{0} ∧ type_of% @List.take_zero.{0} ∧ type_of% @List.take_succ_cons.{0} ∧ type_of% @List.set_cons_zero.{0} ∧ type_of% @List.set_cons_succ.{0} ∧ type_of% @List.head?_cons.{0} ∧ type_of% @List.isEmpty_cons.{0} ∧ type_of% @List.isEmpty_nil.{0} ∧ type_of% @Bool.and_true ∧ type_of% @Bool.true_and ∧ type_of% @Bool.and_self ∧ type_of% @Bool.not_true ∧ type_of% @Bool.not_false ∧ type_of% @Bool.false_eq_true ∧ type_of% @Bool.true_eq_false ∧ type_of% @and_self ∧ type_of% @false_and ∧ type_of% @and_true ∧ type_of% @true_and ∧ type_of% @or_self ∧ type_of% @or_false ∧ type_of% @false_or ∧ type_of% @not_true_eq_false ∧ type_of% @not_false_eq_true ∧ type_of% @false_implies ∧ type_of% @Nat.zero_add ∧ type_of% @Nat.add_zero ∧ type_of% @Nat.mul_one ∧ type_of% @Nat.one_mul ∧ type_of% @Nat.mul_zero ∧ type_of% @Nat.zero_mul ∧ type_of% @Nat.zero_le ∧ type_of% @Nat.le_refl ∧ type_of% @Nat.sub_zero ∧ type_of% @Nat.succ_eq_add_one ∧ type_of% @Int.toNat_natCast ∧ type_of% @Int.natCast_nonneg ∧ type_of% @List.foldl_nil.{0, 0} ∧ type_of% @Option.some.injEq.{0} ∧ type_of% @Option.map_some.{0, 0} ∧ type_of% @Option.map_none.{0, 0} ∧ type_of% @st_append ∧ type_of% @st_len ∧ type_of% @st_cap ∧ type_of% @st_clear ∧ type_of% @st_min ∧ type_of% @st_max := ⟨@W_skip, @allLen_nil, @encI_all, @Option.getD_none.{0}, @Option.getD_some.{0}, @List.take_nil.{0}, @List.drop_nil.{0}, @nc0, @nc1, @nc2, @nc3, @w0, @w1, @w2, @wm1, @W_region, @W_regionD, @W_seq, @W_cond, @W_block, @W_exit, @W_ret, @W_label, @gs, @gn, @sl, @putT_some, @putT_none, @ev_tmp, @ev_func, @ev_int, @ev_bool, @ev_str, @ev_nil, @ev_np, @ev_agg, @ofV0_int, @ofV0_bool, @ofV0_str, @ofV0_nil, @ops_nil, @ops_cons, @ops_guard, @yield_s, @yield_z, @anAt_nil, @anAt_cons, @draw_done, @draw_pure, @draw_read, @draw_one, @stp_plain, @stp_guard, @seqK_n, @seqK_x, @seqK_r, @blockK_n, @blockK_r, @blockK_eq, @blockK_ne, @condW_t, @condW_f, @guardW_tt, @guardW_ff, @guardW_tf, @guardW_ft, @guardW_u, @onO_some, @onO_none, @callV_fn, @bool_b, @st_bs, @st_slice, @okRows_nil, @okRows_cons, @encI_ok, @beq_self_eq_true.{0}, @List.flatten_cons.{0}, @List.flatten_nil.{0}, @tup_tu, @st_move, @st_assign, @st_pick, @st_bin, @st_un, @st_conv, @st_load, @st_store, @st_fieldAddr, @st_field, @st_indexAddr, @st_index, @st_build, @st_extract, @st_makeFunc, @st_nilCheck, @st_alloc, @st_boxI, @st_call, @bin_add, @bin_sub, @bin_mul, @bin_quo, @bin_rem, @bin_eql, @bin_neq, @bin_lss, @bin_leq, @bin_gtr, @bin_geq, @un_not, @un_neg, @nat_ofNat, @nat_i, @ret_r, @ret_n, @outQ_iff, @outK_iff, @outE_iff, @outS_iff, @outR_iff, @resI_nil, @resI_one, @resI_two, @res1_tmp, @res1_cell, @lr_new, @lr_set, @lr_new_ne, @lr_set_ne, @encI_len, @List.append_assoc.{0}, @List.cons_append.{0}, @List.nil_append.{0}, @List.append_nil.{0}, @List.map_cons.{0, 0}, @List.map_nil.{0, 0}, @List.all_cons.{0}, @List.all_nil.{0}, @List.length_cons.{0}, @List.length_nil.{0}, @List.getElem?_nil.{0}, @List.getElem?_cons_zero.{0}, @List.getElem?_cons_succ.{0}, @List.getElem_cons_zero.{0}, @List.drop_zero.{0}, @List.drop_succ_cons.{0}, @List.take_zero.{0}, @List.take_succ_cons.{0}, @List.set_cons_zero.{0}, @List.set_cons_succ.{0}, @List.head?_cons.{0}, @List.isEmpty_cons.{0}, @List.isEmpty_nil.{0}, @Bool.and_true, @Bool.true_and, @Bool.and_self, @Bool.not_true, @Bool.not_false, @Bool.false_eq_true, @Bool.true_eq_false, @and_self, @false_and, @and_true, @true_and, @or_self, @or_false, @false_or, @not_true_eq_false, @not_false_eq_true, @false_implies, @Nat.zero_add, @Nat.add_zero, @Nat.mul_one, @Nat.one_mul, @Nat.mul_zero, @Nat.zero_mul, @Nat.zero_le, @Nat.le_refl, @Nat.sub_zero, @Nat.succ_eq_add_one, @Int.toNat_natCast, @Int.natCast_nonneg, @List.foldl_nil.{0, 0}, @Option.some.injEq.{0}, @Option.map_some.{0, 0}, @Option.map_none.{0, 0}, @st_append, @st_len, @st_cap, @st_clear, @st_min, @st_max⟩
end Go.Iv
