import Derived.Test.YtapigbgcghekgaaM01
import Derived.Laws.CopyRow
import Derived.Laws.Cells
import Derived.Maps.AppendAt
import Derived.WalkKit
set_option linter.unusedVariables false
set_option linter.unusedSimpArgs false
set_option linter.unusedVariables false
set_option linter.unusedSimpArgs false
namespace Go.Iv
open Go.RowKit

/-- What the ideal state is told by: the world, the blocks that nobody writes, where each register's row lies (block, capacity). -/
structure CS where
  w : World
  F : Nat → Prop
  β : Nat → Option (Nat × Nat)

def rowAt (rows : List (List IV)) (i j : Nat) : Option IV := (rows[i]?).bind (·[j]?)

def lv (R : List Reg) (r ver : Nat) (o : Obj) : Prop := getR R r = ⟨ver, some o⟩

inductive Rel (s : CS) : List Reg → IV → Value → Prop
  | un R v : Rel s R .un v
  | b R x : Rel s R (.b x) (.bool x)
  | i R k n : Rel s R (.i k n) (.int k n)
  | s R x : Rel s R (.s x) (.string x)
  | np R : Rel s R .np (.pointer none)
  | vp R l : Rel s R (.vp l) (.pointer (some ⟨l, 0, none⟩))
  | nf R : Rel s R .nf .nilFunc
  | slN R nl (h : nl ≠ some false) : Rel s R (.sl nl []) (.slice none 0 0)
  | slE R nl a cap (h : nl ≠ some true) : Rel s R (.sl nl []) (.slice (some a) 0 cap)
  | sl R nl rows a off cap sz (c : Nat → Nat → Value) (h : nl ≠ some true) (hF : s.F a) (hc : rows.length ≤ cap) (hr : ∀ row ∈ rows, row.length = sz)
      (hcell : ∀ i j, i < rows.length → j < sz → s.w.cell? ⟨a, off + (i * sz + j), none⟩ = some (c i j))
      (hrel : ∀ i j x, rowAt rows i j = some x → Rel s [] x (c i j)) : Rel s R (.sl nl rows) (.slice (some ⟨a, off, none⟩) rows.length cap)
  | seN R : Rel s R (.se true) (.slice none 0 0)
  | seE R a : Rel s R (.se false) (.slice (some a) 0 0)
  | pi R (cells : List IV) a off (c : Nat → Value) (hF : s.F a) (hcell : ∀ j, j < cells.length → s.w.cell? ⟨a, off + j, none⟩ = some (c j))
      (hrel : ∀ j x, cells[j]? = some x → Rel s [] x (c j)) : Rel s R (.pi cells) (.pointer (some ⟨a, off, none⟩))
  | stale R r ver off len v (h : ver ≤ (getR R r).ver) (h2 : ver = (getR R r).ver → (getR R r).obj = none) : Rel s R (.rf r ver off len) v
  | staleP R r ver row col v (h : ver ≤ (getR R r).ver) (h2 : ver = (getR R r).ver → (getR R r).obj = none) : Rel s R (.pt r ver row col) v
  | rfN R r ver o A (h : lv R r ver o) (hb : s.β r = none) : Rel s R (.rf r ver 0 0) (.slice A 0 0)
  | rf R r ver o off len b k (h : lv R r ver o) (hb : s.β r = some (b, k)) (hl : off + len ≤ o.rows.length) : Rel s R (.rf r ver off len) (.slice (some ⟨b, off * o.sz, none⟩) len (k - off))
  | pt R r ver o row col b k (h : lv R r ver o) (hb : s.β r = some (b, k)) (hl : row < o.rows.length) : Rel s R (.pt r ver row col) (.pointer (some ⟨b, row * o.sz + col, none⟩))
  | ag R (xs : List IV) (vs : Array Value) (hl : xs.length = vs.size) (h : ∀ (j : Nat) x v, xs[j]? = some x → vs[j]? = some v → Rel s R x v) : Rel s R (.ag xs) (.agg vs)
  | tu R (xs : List IV) (vs : Array Value) (hl : xs.length = vs.size) (h : ∀ (j : Nat) x v, xs[j]? = some x → vs[j]? = some v → Rel s R x v) : Rel s R (.tu xs) (.tuple vs)
  | fn R f (xs ys : List IV) (vs us : Array Value) (hl : xs.length = vs.size) (hl2 : ys.length = us.size) (h : ∀ (j : Nat) x v, xs[j]? = some x → vs[j]? = some v → Rel s R x v)
      (h2 : ∀ (j : Nat) x v, ys[j]? = some x → us[j]? = some v → Rel s R x v) : Rel s R (.fn f xs ys) (.func f vs us)

/-- What a register may turn to without a reference to it losing its sense. -/
def RegExt (g : Reg) (β : Option (Nat × Nat)) (g' : Reg) (β' : Option (Nat × Nat)) : Prop :=
  g.ver ≤ g'.ver ∧ (g.ver = g'.ver → (g.obj = none → g'.obj = none) ∧ ∀ o, g.obj = some o → g'.obj = none ∨ ∃ o', g'.obj = some o' ∧ o'.sz = o.sz ∧ o.rows.length ≤ o'.rows.length ∧ β' = β)

theorem RegExt.refl (g : Reg) (β : Option (Nat × Nat)) : RegExt g β g β :=
  ⟨Nat.le_refl _, fun _ => ⟨id, fun o ho => .inr ⟨o, ho, rfl, Nat.le_refl _, rfl⟩⟩⟩
theorem RegExt.trans {g g1 g2 : Reg} {β β1 β2 : Option (Nat × Nat)} (h : RegExt g β g1 β1) (k : RegExt g1 β1 g2 β2) : RegExt g β g2 β2 := by
  refine ⟨Nat.le_trans h.1 k.1, fun e => ?_⟩
  have e1 : g.ver = g1.ver := Nat.le_antisymm h.1 (by rw [e]; exact k.1)
  have e2 : g1.ver = g2.ver := e1 ▸ e
  obtain ⟨a, c⟩ := h.2 e1
  obtain ⟨a2, c2⟩ := k.2 e2
  refine ⟨fun hn => a2 (a hn), fun o ho => ?_⟩
  rcases c o ho with hn | ⟨o1, h1, hs, hl, hb⟩
  · exact .inl (a2 hn)
  · rcases c2 o1 h1 with hn | ⟨o2, h2, hs2, hl2, hb2⟩
    · exact .inl hn
    · exact .inr ⟨o2, h2, hs2.trans hs, Nat.le_trans hl hl2, hb2.trans hb⟩

structure Ext (s : CS) (R : List Reg) (s' : CS) (R' : List Reg) : Prop where
  F : ∀ b, s.F b → s'.F b
  blk : ∀ b, s.F b → s'.w.heap[b]? = s.w.heap[b]?
  reg : ∀ r, RegExt (getR R r) (s.β r) (getR R' r) (s'.β r)

theorem Ext.refl (s : CS) (R : List Reg) : Ext s R s R := ⟨fun _ h => h, fun _ _ => rfl, fun r => RegExt.refl _ _⟩
theorem Ext.trans {s s1 s2 : CS} {R R1 R2 : List Reg} (h : Ext s R s1 R1) (k : Ext s1 R1 s2 R2) : Ext s R s2 R2 :=
  ⟨fun b hb => k.F b (h.F b hb), fun b hb => (k.blk b (h.F b hb)).trans (h.blk b hb), fun r => (h.reg r).trans (k.reg r)⟩
theorem getR_nil (r : Nat) : getR [] r = ⟨0, none⟩ := by cases r <;> rfl
theorem getR_setR (R : List Reg) (r r' : Nat) (g : Reg) : getR (setR R r g) r' = if r' = r then g else getR R r' := by
  induction r generalizing R r' with
  | zero => cases R <;> cases r' <;> simp [setR, getR]
  | succ r ih => cases R <;> cases r' <;> simp [setR, getR, ih]
theorem Ext.nil {s s' : CS} {R R' : List Reg} (h : Ext s R s' R') : Ext s [] s' [] :=
  ⟨h.F, h.blk, fun r => by rw [getR_nil]; exact ⟨Nat.le_refl _, fun _ => ⟨id, fun o ho => by cases ho⟩⟩⟩

theorem Rel.ext {s : CS} {R : List Reg} {x : IV} {v : Value} (h : Rel s R x v) : ∀ {s' : CS} {R' : List Reg}, Ext s R s' R' → Rel s' R' x v := by
  induction h with
  | un => intro s' R' e; exact .un _ _
  | b => intro s' R' e; exact .b _ _
  | i => intro s' R' e; exact .i _ _ _
  | s => intro s' R' e; exact .s _ _
  | np => intro s' R' e; exact .np _
  | vp => intro s' R' e; exact .vp _ _
  | nf => intro s' R' e; exact .nf _
  | slN R nl h => intro s' R' e; exact .slN _ _ h
  | slE R nl a cap h => intro s' R' e; exact .slE _ _ _ _ h
  | sl R nl rows a off cap sz c h hF hc hr hcell hrel ih =>
    intro s' R' e
    exact .sl _ _ _ _ _ _ _ c h (e.F _ hF) hc hr (fun i j hi hj => (World.cell?_of_block (a := ⟨a, _, none⟩) (e.blk _ hF)).trans (hcell i j hi hj)) (fun i j x hx => ih i j x hx e.nil)
  | seN => intro s' R' e; exact .seN _
  | seE => intro s' R' e; exact .seE _ _
  | pi R cells a off c hF hcell hrel ih =>
    intro s' R' e
    exact .pi _ _ _ _ c (e.F _ hF) (fun j hj => (World.cell?_of_block (a := ⟨a, _, none⟩) (e.blk _ hF)).trans (hcell j hj)) (fun j x hx => ih j x hx e.nil)
  | stale R r ver off len v h h2 =>
    intro s' R' e
    obtain ⟨e1, e2⟩ := e.reg r
    exact .stale _ _ _ _ _ _ (Nat.le_trans h e1) (fun q => (e2 (Nat.le_antisymm e1 (by omega))).1 (h2 (by omega)))
  | staleP R r ver row col v h h2 =>
    intro s' R' e
    obtain ⟨e1, e2⟩ := e.reg r
    exact .staleP _ _ _ _ _ _ (Nat.le_trans h e1) (fun q => (e2 (Nat.le_antisymm e1 (by omega))).1 (h2 (by omega)))
  | rfN R r ver o A h hb =>
    intro s' R' e
    obtain ⟨e1, e2⟩ := e.reg r
    rw [h] at e1 e2
    by_cases q : ver = (getR R' r).ver
    · rcases (e2 q).2 o rfl with hn | ⟨o', ho, hs, hl, hbb⟩
      · exact .stale _ _ _ _ _ _ e1 (fun _ => hn)
      · refine .rfN _ _ _ o' _ ?_ (hbb.trans hb)
        unfold lv
        rw [q, ← ho]
    · exact .stale _ _ _ _ _ _ e1 (fun q' => absurd q' q)
  | rf R r ver o off len b k h hb hl =>
    intro s' R' e
    obtain ⟨e1, e2⟩ := e.reg r
    rw [h] at e1 e2
    by_cases q : ver = (getR R' r).ver
    · rcases (e2 q).2 o rfl with hn | ⟨o', ho, hs, hl', hbb⟩
      · exact .stale _ _ _ _ _ _ e1 (fun _ => hn)
      · rw [← hs]
        refine .rf _ _ _ o' _ _ _ _ ?_ (hbb.trans hb) (by omega)
        unfold lv
        rw [q, ← ho]
    · exact .stale _ _ _ _ _ _ e1 (fun q' => absurd q' q)
  | pt R r ver o row col b k h hb hl =>
    intro s' R' e
    obtain ⟨e1, e2⟩ := e.reg r
    rw [h] at e1 e2
    by_cases q : ver = (getR R' r).ver
    · rcases (e2 q).2 o rfl with hn | ⟨o', ho, hs, hl', hbb⟩
      · exact .staleP _ _ _ _ _ _ e1 (fun _ => hn)
      · rw [← hs]
        refine .pt _ _ _ o' _ _ _ k ?_ (hbb.trans hb) (by omega)
        unfold lv
        rw [q, ← ho]
    · exact .staleP _ _ _ _ _ _ e1 (fun q' => absurd q' q)
  | ag R xs vs hl h ih => intro s' R' e; exact .ag _ _ _ hl (fun j x v hx hv => ih j x v hx hv e)
  | tu R xs vs hl h ih => intro s' R' e; exact .tu _ _ _ hl (fun j x v hx hv => ih j x v hx hv e)
  | fn R f xs ys vs us hl hl2 h h2 ih ih2 => intro s' R' e; exact .fn _ _ _ _ _ _ hl hl2 (fun j x v hx hv => ih j x v hx hv e) (fun j x v hx hv => ih2 j x v hx hv e)

/-- A list of values. -/
def RelL (s : CS) (R : List Reg) (xs : List IV) (vs : List Value) : Prop := xs.length = vs.length ∧ ∀ (j : Nat) x v, xs[j]? = some x → vs[j]? = some v → Rel s R x v
theorem RelL.ext {s s' : CS} {R R' : List Reg} {xs : List IV} {vs : List Value} (h : RelL s R xs vs) (e : Ext s R s' R') : RelL s' R' xs vs :=
  ⟨h.1, fun j x v hx hv => (h.2 j x v hx hv).ext e⟩
theorem RelL.nil (s : CS) (R : List Reg) : RelL s R [] [] := ⟨rfl, fun j x v hx => by simp at hx⟩
theorem RelL.cons {s : CS} {R : List Reg} {x : IV} {v : Value} {xs : List IV} {vs : List Value} (h : Rel s R x v) (hs : RelL s R xs vs) : RelL s R (x :: xs) (v :: vs) :=
  ⟨by simp [hs.1], fun j y u hy hu => by
    cases j with
    | zero => simp at hy hu; subst hy; subst hu; exact h
    | succ j => simp at hy hu; exact hs.2 j y u hy hu⟩
theorem RelL.uncons {s : CS} {R : List Reg} {x : IV} {xs : List IV} {vs : List Value} (h : RelL s R (x :: xs) vs) : ∃ v us, vs = v :: us ∧ Rel s R x v ∧ RelL s R xs us := by
  cases vs with
  | nil => simp [RelL] at h
  | cons v us => exact ⟨v, us, rfl, h.2 0 x v rfl rfl, by have := h.1; simpa using this, fun j y u hy hu => h.2 (j + 1) y u (by simpa using hy) (by simpa using hu)⟩

theorem RelL.append {s : CS} {R : List Reg} {xs ys : List IV} {vs us : List Value} (h : RelL s R xs vs) (k : RelL s R ys us) : RelL s R (xs ++ ys) (vs ++ us) := by
  refine ⟨by simp [h.1, k.1], fun j x v hx hv => ?_⟩
  by_cases hj : j < xs.length
  · rw [List.getElem?_append_left hj] at hx
    rw [List.getElem?_append_left (h.1 ▸ hj)] at hv
    exact h.2 j x v hx hv
  · rw [List.getElem?_append_right (by omega)] at hx
    rw [List.getElem?_append_right (by have := h.1; omega), ← h.1] at hv
    exact k.2 _ x v hx hv
theorem RelL.drop {s : CS} {R : List Reg} {xs : List IV} {vs : List Value} (h : RelL s R xs vs) (n : Nat) : RelL s R (xs.drop n) (vs.drop n) :=
  ⟨by simp [h.1], fun j x v hx hv => h.2 (n + j) x v (by simpa using hx) (by simpa using hv)⟩
theorem RelL.take {s : CS} {R : List Reg} {xs : List IV} {vs : List Value} (h : RelL s R xs vs) (n : Nat) : RelL s R (xs.take n) (vs.take n) := by
  refine ⟨by simp [h.1], fun j x v hx hv => ?_⟩
  rw [List.getElem?_take] at hx hv
  by_cases hj : j < n
  · simp [hj] at hx hv
    exact h.2 j x v hx hv
  · simp [hj] at hx

/-- Where a body began: its world, and what it was told that nobody writes. -/
structure Base extends World where
  F0 : Nat → Prop
  K : Nat → Option Go.Obj
/-- A block that a register may have: new since the body began, and none that is to be kept. -/
def Base.own (w0 : Base) (b : Nat) : Prop := w0.heap.size ≤ b ∧ w0.K b = none

/-- A register's row lies where β says, and holds what is told. -/
def RegOK (w0 : Base) (s : CS) (R : List Reg) (r : Nat) (o : Obj) : Prop :=
  match s.β r with
  | none => o.rows = [] ∧ o.box = false
  | some (b, k) => w0.own b ∧ ¬ s.F b ∧ k ≤ maxLen ∧ o.rows.length ≤ k ∧ (∀ row ∈ o.rows, row.length = o.sz) ∧
      ∃ c, s.w.heap[b]? = some (.cells c o.ety (0, 0)) ∧ c.size = k * o.sz ∧ RelL s (if o.box then R else []) o.rows.flatten (c.toList.take (o.rows.length * o.sz))

/-- No register is at version 0 and full: so what leads to no register leads to none of ours. -/
def VerOK (R : List Reg) : Prop := ∀ r, (getR R r).ver = 0 → (getR R r).obj = none

structure Inv (w0 : Base) (s : CS) (R : List Reg) : Prop where
  below : Below w0.heap.size w0.toWorld s.w
  fg : ∀ b, s.F b → w0.F0 b ∨ w0.heap.size ≤ b
  hF : ∀ b, s.F b → b < s.w.heap.size
  regs : ∀ r ver o, getR R r = ⟨ver, some o⟩ → RegOK w0 s R r o
  inj : ∀ r r' ver o ver' o' b k k', getR R r = ⟨ver, some o⟩ → getR R r' = ⟨ver', some o'⟩ → s.β r = some (b, k) → s.β r' = some (b, k') → r = r'
  ver : VerOK R
  keep : ∀ b o, w0.K b = some o → s.w.heap[b]? = some o ∧ ¬ s.F b

theorem Inv.keepB {w0 : Base} {s : CS} {R : List Reg} (h : Inv w0 s R) {w1 : World} (hbel : Below s.w.heap.size s.w w1) : ∀ b o, w0.K b = some o → w1.heap[b]? = some o ∧ ¬ s.F b :=
  fun b o hb => ⟨(hbel.block b (Array.getElem?_eq_some_iff.1 (h.keep b o hb).1).1).trans (h.keep b o hb).1, (h.keep b o hb).2⟩
theorem Inv.keepP {w0 : Base} {s : CS} {R : List Reg} (h : Inv w0 s R) {w1 : World} (hbel : Below s.w.heap.size s.w w1) : ∀ b o, w0.K b = some o → w1.heap[b]? = some o ∧ ¬ (s.F b ∨ b = s.w.heap.size) :=
  fun b o hb => ⟨(h.keepB hbel b o hb).1, fun q => q.elim (h.keep b o hb).2 (fun e => by have := (Array.getElem?_eq_some_iff.1 (h.keep b o hb).1).1; omega)⟩
theorem Inv.newOwn {w0 : Base} {s : CS} {R : List Reg} (h : Inv w0 s R) {b : Nat} (hb : s.w.heap.size ≤ b) : w0.own b :=
  ⟨Nat.le_trans h.below.size hb, by
    cases hk : w0.K b with
    | none => rfl
    | some o => have := (Array.getElem?_eq_some_iff.1 (h.keep b o hk).1).1; omega⟩


/-- A new block that nobody will write. -/
theorem Inv.pushF {w0 : Base} {s : CS} {R : List Reg} (h : Inv w0 s R) (o : Go.Obj) :
    Inv w0 ⟨s.w.alloc o, fun b => s.F b ∨ b = s.w.heap.size, s.β⟩ R ∧ Ext s R ⟨s.w.alloc o, fun b => s.F b ∨ b = s.w.heap.size, s.β⟩ R := by
  have e : Ext s R ⟨s.w.alloc o, fun b => s.F b ∨ b = s.w.heap.size, s.β⟩ R :=
    ⟨fun b hb => .inl hb, fun b hb => Below.heap_alloc _ _ _ (h.hF b hb), fun r => RegExt.refl _ _⟩
  refine ⟨⟨h.below.alloc h.below.size o, fun b hb => (by rcases hb with hb | hb; exact h.fg b hb; right; rw [hb]; exact h.below.size), fun b hb => ?_, fun r ver ob hr => ?_, h.inj, h.ver, h.keepP ((Below.refl _ _).alloc (Nat.le_refl _) _)⟩, e⟩
  · rcases hb with hb | hb
    · have := h.hF b hb; simp; omega
    · subst hb; simp
  · have k := h.regs r ver ob hr
    unfold RegOK at k ⊢
    dsimp only at k ⊢
    split at k
    · exact k
    · rename_i b c hb
      obtain ⟨k1, k2, k3, k4, k5, cur, k6, k7, k8⟩ := k
      have hlt : b < s.w.heap.size := (Array.getElem?_eq_some_iff.1 k6).1
      refine ⟨k1, ?_, k3, k4, k5, cur, (Below.heap_alloc _ _ _ hlt).trans k6, k7, ?_⟩
      · rintro (q | q)
        · exact k2 q
        · omega
      · split
        · rename_i hbx; rw [if_pos hbx] at k8; exact k8.ext e
        · rename_i hbx; rw [if_neg hbx] at k8; exact k8.ext e.nil

/-- A draw. -/
theorem Inv.drew {w0 : Base} {s : CS} {R : List Reg} (h : Inv w0 s R) : Inv w0 ⟨s.w.drew, s.F, s.β⟩ R ∧ Ext s R ⟨s.w.drew, s.F, s.β⟩ R := by
  have e : Ext s R ⟨s.w.drew, s.F, s.β⟩ R := ⟨fun b hb => hb, fun b hb => rfl, fun r => RegExt.refl _ _⟩
  refine ⟨⟨h.below.drew, h.fg, h.hF, fun r ver ob hr => ?_, h.inj, h.ver, h.keep⟩, e⟩
  have k := h.regs r ver ob hr
  unfold RegOK at k ⊢
  dsimp only at k ⊢
  split at k
  · exact k
  · rename_i b c hb
    obtain ⟨k1, k2, k3, k4, k5, cur, k6, k7, k8⟩ := k
    refine ⟨k1, k2, k3, k4, k5, cur, k6, k7, ?_⟩
    split
    · rename_i hbx; rw [if_pos hbx] at k8; exact k8.ext e
    · rename_i hbx; rw [if_neg hbx] at k8; exact k8.ext e.nil

theorem verR_lt (R : List Reg) (r : Nat) : (getR R r).ver < verR R r := by unfold verR; omega
theorem VerOK.new {R : List Reg} (h : VerOK R) (r : Nat) (o : Obj) : VerOK (newR R r o) := by
  intro q hq
  unfold newR at hq ⊢
  rw [getR_setR] at hq ⊢
  by_cases e : q = r
  · rw [if_pos e] at hq; simp at hq
  · rw [if_neg e] at hq ⊢; exact h q hq
theorem VerOK.set {R : List Reg} (h : VerOK R) (r : Nat) (g : Reg) (hg : g.ver = 0 → g.obj = none) : VerOK (setR R r g) := by
  intro q hq
  rw [getR_setR] at hq ⊢
  by_cases e : q = r
  · rw [if_pos e] at hq ⊢; exact hg hq
  · rw [if_neg e] at hq ⊢; exact h q hq
theorem lv_new (R : List Reg) (r : Nat) (o : Obj) : lv (newR R r o) r (verR R r) o := by simp [lv, newR, verR, getR_setR]
theorem RegExt.set {R : List Reg} {r : Nat} {g : Reg} {β β' : Nat → Option (Nat × Nat)} (h : RegExt (getR R r) (β r) g (β' r)) (hb : ∀ q, q ≠ r → β' q = β q) (q : Nat) : RegExt (getR R q) (β q) (getR (setR R r g) q) (β' q) := by
  rw [getR_setR]
  by_cases e : q = r
  · subst e; rw [if_pos rfl]; exact h
  · rw [if_neg e, hb q e]; exact RegExt.refl _ _
theorem RegExt.newer {g g' : Reg} (β β' : Option (Nat × Nat)) (h : g.ver < g'.ver) : RegExt g β g' β' := ⟨by omega, fun e => by omega⟩
theorem RegExt.freed (g : Reg) (β β' : Option (Nat × Nat)) : RegExt g β ⟨g.ver, none⟩ β' := ⟨Nat.le_refl _, fun _ => ⟨fun _ => rfl, fun o ho => .inl rfl⟩⟩

/-- How the rest of the registers fares when one is turned: the world's other blocks and what they hold stay. -/
theorem RegOK.some_ {w0 : Base} {s : CS} {R : List Reg} {r b k : Nat} {o : Obj} (hb : s.β r = some (b, k)) : RegOK w0 s R r o ↔ (w0.own b ∧ ¬ s.F b ∧ k ≤ maxLen ∧ o.rows.length ≤ k ∧ (∀ row ∈ o.rows, row.length = o.sz) ∧
      ∃ c, s.w.heap[b]? = some (.cells c o.ety (0, 0)) ∧ c.size = k * o.sz ∧ RelL s (if o.box then R else []) o.rows.flatten (c.toList.take (o.rows.length * o.sz))) := by
  unfold RegOK; rw [hb]
theorem RegOK.none_ {w0 : Base} {s : CS} {R : List Reg} {r : Nat} {o : Obj} (hb : s.β r = none) : RegOK w0 s R r o ↔ (o.rows = [] ∧ o.box = false) := by
  unfold RegOK; rw [hb]
theorem Inv.other {w0 : Base} {s s1 : CS} {R R1 : List Reg} (h : Inv w0 s R) (e : Ext s R s1 R1) {q ver : Nat} {o : Obj} (hq : getR R q = ⟨ver, some o⟩) (hb : s1.β q = s.β q)
    (hblk : ∀ b k, s.β q = some (b, k) → s1.w.heap[b]? = s.w.heap[b]? ∧ ¬ s1.F b) : RegOK w0 s1 R1 q o := by
  have k := h.regs q ver o hq
  cases hn : s.β q with
  | none => exact (RegOK.none_ (hb.trans hn)).2 ((RegOK.none_ hn).1 k)
  | some bk =>
    obtain ⟨b, c⟩ := bk
    obtain ⟨k1, k2, k3, k4, k5, cur, k6, k7, k8⟩ := (RegOK.some_ hn).1 k
    obtain ⟨j1, j2⟩ := hblk b c hn
    refine (RegOK.some_ (hb.trans hn)).2 ⟨k1, j2, k3, k4, k5, cur, j1.trans k6, k7, ?_⟩
    split
    · rename_i hbx; rw [if_pos hbx] at k8; exact k8.ext e
    · rename_i hbx; rw [if_neg hbx] at k8; exact k8.ext e.nil

def upd (β : Nat → Option (Nat × Nat)) (r : Nat) (x : Option (Nat × Nat)) : Nat → Option (Nat × Nat) := fun q => if q = r then x else β q
theorem upd_same (β : Nat → Option (Nat × Nat)) (r : Nat) (x : Option (Nat × Nat)) : upd β r x r = x := by simp [upd]
theorem upd_other (β : Nat → Option (Nat × Nat)) (r : Nat) (x : Option (Nat × Nat)) (q : Nat) (h : q ≠ r) : upd β r x q = β q := by simp [upd, h]

theorem Inv.blk_lt {w0 : Base} {s : CS} {R : List Reg} (h : Inv w0 s R) {r ver b k : Nat} {o : Obj} (hr : getR R r = ⟨ver, some o⟩) (hb : s.β r = some (b, k)) : b < s.w.heap.size ∧ ¬ s.F b ∧ w0.heap.size ≤ b := by
  obtain ⟨k1, k2, k3, k4, k5, cur, k6, k7, k8⟩ := (RegOK.some_ hb).1 (h.regs r ver o hr)
  exact ⟨(Array.getElem?_eq_some_iff.1 k6).1, k2, k1.1⟩
theorem Inv.blk_own {w0 : Base} {s : CS} {R : List Reg} (h : Inv w0 s R) {r ver b k : Nat} {o : Obj} (hr : getR R r = ⟨ver, some o⟩) (hb : s.β r = some (b, k)) : w0.own b := ((RegOK.some_ hb).1 (h.regs r ver o hr)).1

/-- A register takes a block that is nobody's (or none: no rows); the world may have grown. -/
theorem Inv.adopt {w0 : Base} {s : CS} {R : List Reg} (h : Inv w0 s R) (r : Nat) (o : Obj) (w1 : World) (x : Option (Nat × Nat))
    (hbel : Below s.w.heap.size s.w w1)
    (hx : ∀ b k, x = some (b, k) → w0.own b ∧ ¬ s.F b ∧ (∀ q ver o' k', getR R q = ⟨ver, some o'⟩ → s.β q ≠ some (b, k')) ∧ k ≤ maxLen ∧ o.rows.length ≤ k ∧ (∀ row ∈ o.rows, row.length = o.sz) ∧
      ∃ c, w1.heap[b]? = some (.cells c o.ety (0, 0)) ∧ c.size = k * o.sz ∧ RelL ⟨w1, s.F, s.β⟩ (if o.box then R else []) o.rows.flatten (c.toList.take (o.rows.length * o.sz)))
    (hn : x = none → o.rows = [] ∧ o.box = false) :
    Inv w0 ⟨w1, s.F, upd s.β r x⟩ (newR R r o) ∧ Ext s R ⟨w1, s.F, upd s.β r x⟩ (newR R r o) := by
  have e : Ext s R ⟨w1, s.F, upd s.β r x⟩ (newR R r o) :=
    ⟨fun b hb => hb, fun b hb => hbel.block b (h.hF b hb), fun q => RegExt.set (RegExt.newer _ _ (verR_lt R r)) (fun q hq => upd_other _ _ _ _ hq) q⟩
  have e1 : Ext ⟨w1, s.F, s.β⟩ R ⟨w1, s.F, upd s.β r x⟩ (newR R r o) :=
    ⟨fun b hb => hb, fun b hb => rfl, fun q => RegExt.set (RegExt.newer _ _ (verR_lt R r)) (fun q hq => upd_other _ _ _ _ hq) q⟩
  have hbelow : Below w0.heap.size w0.toWorld w1 := h.below.trans (hbel.mono h.below.size)
  refine ⟨⟨hbelow, h.fg, fun b hb => Nat.lt_of_lt_of_le (h.hF b hb) hbel.size, fun q ver ob hq => ?_, ?_, h.ver.new r o, h.keepB hbel⟩, e⟩
  · unfold newR at hq
    rw [getR_setR] at hq
    by_cases eq : q = r
    · subst eq
      rw [if_pos rfl] at hq
      injection hq with _ hq
      injection hq with hq
      subst hq
      cases x with
      | none => exact (RegOK.none_ (upd_same _ _ _)).2 (hn rfl)
      | some bk =>
        obtain ⟨b, k⟩ := bk
        obtain ⟨j1, jF, jo, j2, j3, j4, c, j5, j6, j7⟩ := hx b k rfl
        refine (RegOK.some_ (upd_same _ _ _)).2 ⟨j1, jF, j2, j3, j4, c, j5, j6, ?_⟩
        split
        · rename_i hbx; rw [if_pos hbx] at j7; exact j7.ext e1
        · rename_i hbx; rw [if_neg hbx] at j7; exact j7.ext e1.nil
    · rw [if_neg eq] at hq
      exact h.other e hq (upd_other _ _ _ _ eq) (fun b k hb => ⟨hbel.block b (h.blk_lt hq hb).1, (h.blk_lt hq hb).2.1⟩)
  · intro q q' v1 o1 v2 o2 b k k' hq hq' hb hb'
    change upd s.β r x q = _ at hb
    change upd s.β r x q' = _ at hb'
    unfold newR at hq hq'
    rw [getR_setR] at hq hq'
    by_cases eq : q = r <;> by_cases eq' : q' = r
    · rw [eq, eq']
    · rw [if_neg eq'] at hq'
      subst eq
      rw [upd_same] at hb
      rw [upd_other _ _ _ _ eq'] at hb'
      exact absurd hb' ((hx b k hb).2.2.1 q' _ _ k' hq')
    · rw [if_neg eq] at hq
      subst eq'
      rw [upd_same] at hb'
      rw [upd_other _ _ _ _ eq] at hb
      exact absurd hb ((hx b k' hb').2.2.1 q _ _ k hq)
    · rw [if_neg eq] at hq
      rw [if_neg eq'] at hq'
      rw [upd_other _ _ _ _ eq] at hb
      rw [upd_other _ _ _ _ eq'] at hb'
      exact h.inj q q' v1 o1 v2 o2 b k k' hq hq' hb hb'

/-- A register takes a new block (or none: no rows). -/
theorem Inv.take {w0 : Base} {s : CS} {R : List Reg} (h : Inv w0 s R) (r : Nat) (o : Obj) (w1 : World) (x : Option (Nat × Nat))
    (hbel : Below s.w.heap.size s.w w1)
    (hx : ∀ b k, x = some (b, k) → s.w.heap.size ≤ b ∧ k ≤ maxLen ∧ o.rows.length ≤ k ∧ (∀ row ∈ o.rows, row.length = o.sz) ∧ ∃ c, w1.heap[b]? = some (.cells c o.ety (0, 0)) ∧ c.size = k * o.sz ∧
      RelL s (if o.box then R else []) o.rows.flatten (c.toList.take (o.rows.length * o.sz)))
    (hn : x = none → o.rows = [] ∧ o.box = false) :
    Inv w0 ⟨w1, s.F, upd s.β r x⟩ (newR R r o) ∧ Ext s R ⟨w1, s.F, upd s.β r x⟩ (newR R r o) := by
  have e1 : Ext s R ⟨w1, s.F, s.β⟩ R := ⟨fun b hb => hb, fun b hb => hbel.block b (h.hF b hb), fun q => RegExt.refl _ _⟩
  refine h.adopt r o w1 x hbel (fun b k e => ?_) hn
  obtain ⟨j1, j2, j3, j4, c, j5, j6, j7⟩ := hx b k e
  refine ⟨h.newOwn j1, fun hF => ?_, fun q ver o' k' hq hb => ?_, j2, j3, j4, c, j5, j6, ?_⟩
  · have := h.hF b hF; omega
  · have := (h.blk_lt hq hb).1; omega
  · split
    · rename_i hbx; rw [if_pos hbx] at j7; exact j7.ext e1
    · rename_i hbx; rw [if_neg hbx] at j7; exact j7.ext e1.nil

/-- A register's row is written where it lies. -/
theorem Inv.put {w0 : Base} {s : CS} {R : List Reg} (h : Inv w0 s R) {r ver b k : Nat} {o : Obj} (hr : lv R r ver o) (hb : s.β r = some (b, k)) (o' : Obj) (c' : Array Value)
    (hbox : o'.box = o.box) (hety : o'.ety = o.ety) (hsz : o'.sz = o.sz) (hl : o.rows.length ≤ o'.rows.length) (hk : o'.rows.length ≤ k) (hrows : ∀ row ∈ o'.rows, row.length = o.sz)
    (hc : c'.size = k * o.sz) (hrel : RelL s (if o.box then R else []) o'.rows.flatten (c'.toList.take (o'.rows.length * o.sz))) (ver' : Nat) (hver : ver ≤ ver') :
    Inv w0 ⟨s.w.setRow b c', s.F, s.β⟩ (setR R r ⟨ver', some o'⟩) ∧ Ext s R ⟨s.w.setRow b c', s.F, s.β⟩ (setR R r ⟨ver', some o'⟩) := by
  obtain ⟨k1, k2, k3, k4, k5, cur, k6, k7, k8⟩ := (RegOK.some_ hb).1 (h.regs r ver o hr)
  have hne : ∀ q, s.F q → q ≠ b := fun q hq e => k2 (e ▸ hq)
  have e : Ext s R ⟨s.w.setRow b c', s.F, s.β⟩ (setR R r ⟨ver', some o'⟩) := by
    refine ⟨fun b hb => hb, fun q hq => setRow_other _ _ _ _ (hne q hq), fun q => RegExt.set (g := ⟨ver', some o'⟩) (β := s.β) (β' := s.β) ?_ (fun _ _ => rfl) q⟩
    rw [show getR R r = ⟨ver, some o⟩ from hr]
    exact ⟨hver, fun _ => ⟨(fun hn => by cases hn), (fun o1 ho1 => by injection ho1 with ho1; subst ho1; exact .inr ⟨o', rfl, hsz, hl, rfl⟩)⟩⟩
  have hbel : Below w0.heap.size w0.toWorld (s.w.setRow b c') := h.below.trans ⟨rfl, rfl, rfl, by simp [World.setRow], fun q hq => setRow_other _ _ _ _ (by have := k1.1; omega)⟩
  refine ⟨⟨hbel, h.fg, fun q hq => by have := h.hF q hq; simpa [World.setRow] using this, fun q v2 o2 hq => ?_, ?_, ?_, fun q o hq => ⟨(setRow_other _ _ _ _ (fun e => by have := k1.2; rw [e] at hq; rw [hq] at this; cases this)) |>.trans (h.keep q o hq).1, (h.keep q o hq).2⟩⟩, e⟩
  · rw [getR_setR] at hq
    by_cases eq : q = r
    · subst eq
      rw [if_pos rfl] at hq
      injection hq with _ hq
      injection hq with hq
      subst hq
      refine (RegOK.some_ (s := ⟨s.w.setRow b c', s.F, s.β⟩) hb).2 ⟨k1, k2, k3, hk, fun row hrow => (hrows row hrow).trans hsz.symm, c', ?_, by rw [hsz]; exact hc, ?_⟩
      · rw [hety]; exact setRow_heap _ _ _ _ _ _ k6
      · rw [hbox, hsz]
        split
        · rename_i hbx; rw [if_pos hbx] at hrel; exact hrel.ext e
        · rename_i hbx; rw [if_neg hbx] at hrel; exact hrel.ext e.nil
    · rw [if_neg eq] at hq
      refine h.other e hq rfl (fun b2 k2' hb2 => ⟨setRow_other _ _ _ _ (fun e2 => ?_), (h.blk_lt hq hb2).2.1⟩)
      subst e2
      exact eq (h.inj q r v2 o2 ver o b2 k2' k hq hr hb2 hb)
  · intro q q' v1 o1 v2 o2 b2 k2 k2' hq hq' hb2 hb2'
    have get : ∀ q v1 o1, getR (setR R r ⟨ver', some o'⟩) q = ⟨v1, some o1⟩ → ∃ v o, getR R q = ⟨v, some o⟩ := by
      intro q v1 o1 hq
      rw [getR_setR] at hq
      by_cases eq : q = r
      · subst eq; exact ⟨_, _, hr⟩
      · rw [if_neg eq] at hq; exact ⟨_, _, hq⟩
    obtain ⟨_, _, g1⟩ := get q _ _ hq
    obtain ⟨_, _, g2⟩ := get q' _ _ hq'
    exact h.inj q q' _ _ _ _ b2 k2 k2' g1 g2 hb2 hb2'
  · refine h.ver.set r _ (fun hz => ?_)
    have hz' : ver = 0 := by have : ver' = 0 := hz; omega
    have := h.ver r (by rw [show getR R r = ⟨ver, some o⟩ from hr]; exact hz')
    rw [show getR R r = ⟨ver, some o⟩ from hr] at this
    cases this

/-- A register's row (or what has none) is handed out: nobody will write it. -/
theorem Inv.free {w0 : Base} {s : CS} {R : List Reg} (h : Inv w0 s R) {r ver : Nat} {o : Obj} (hr : lv R r ver o) (hbx : o.box = false) :
    ∃ s1 : CS, s1.w = s.w ∧ s1.β = s.β ∧ Inv w0 s1 (setR R r ⟨ver, none⟩) ∧ Ext s R s1 (setR R r ⟨ver, none⟩) ∧ ∀ b k, s.β r = some (b, k) → s1.F b := by
  refine ⟨⟨s.w, fun q => s.F q ∨ ∃ k, s.β r = some (q, k), s.β⟩, rfl, rfl, ?_⟩
  have e : Ext s R ⟨s.w, fun q => s.F q ∨ ∃ k, s.β r = some (q, k), s.β⟩ (setR R r ⟨ver, none⟩) := by
    refine ⟨fun q hq => .inl hq, fun q hq => rfl, fun q => RegExt.set (g := ⟨ver, none⟩) (β := s.β) (β' := s.β) ?_ (fun _ _ => rfl) q⟩
    rw [show getR R r = ⟨ver, some o⟩ from hr]
    exact ⟨Nat.le_refl _, fun _ => ⟨fun _ => rfl, fun o1 ho1 => .inl rfl⟩⟩
  have get : ∀ q v1 o1, getR (setR R r ⟨ver, none⟩) q = ⟨v1, some o1⟩ → getR R q = ⟨v1, some o1⟩ ∧ q ≠ r := by
    intro q v1 o1 hq
    rw [getR_setR] at hq
    by_cases eq : q = r
    · rw [if_pos eq] at hq; cases hq
    · rw [if_neg eq] at hq; exact ⟨hq, eq⟩
  refine ⟨⟨h.below, fun q hq => (by rcases hq with hq | ⟨k, hk⟩; exact h.fg q hq; exact .inr (h.blk_lt hr hk).2.2), fun q hq => ?_, fun q v2 o2 hq => ?_, fun q q' v1 o1 v2 o2 b2 k2 k2' hq hq' hb2 hb2' => h.inj q q' _ _ _ _ b2 k2 k2' (get _ _ _ hq).1 (get _ _ _ hq').1 hb2 hb2', h.ver.set r _ (fun _ => rfl), fun b o2 hb => ⟨(h.keep b o2 hb).1, fun q => q.elim (h.keep b o2 hb).2 (fun ⟨k, hk⟩ => by have := (h.blk_own hr hk).2; rw [hb] at this; cases this)⟩⟩, e, fun b k hb => .inr ⟨k, hb⟩⟩
  · rcases hq with hq | ⟨k, hk⟩
    · exact h.hF q hq
    · exact (h.blk_lt hr hk).1
  · obtain ⟨hq, hne⟩ := get _ _ _ hq
    refine h.other e hq rfl (fun b2 k2 hb2 => ⟨rfl, ?_⟩)
    rintro (hF | ⟨k, hk⟩)
    · exact (h.blk_lt hq hb2).2.1 hF
    · exact hne (h.inj q r v2 o2 ver o b2 k2 k hq hr hb2 hk)

end Go.Iv
set_option linter.unusedVariables false
set_option linter.unusedSimpArgs false
namespace Go.Iv
open Go.RowKit

/-! ### types -/
theorem tys_at {P : Program} {t : TypeId} {ti : TI} (h : (tysOf P)[t]? = some ti) : ti = tiOf P t := by
  unfold tysOf at h
  rw [List.getElem?_map] at h
  cases hr : (List.range (Array.size P.types))[t]? with
  | none => rw [hr] at h; cases h
  | some q =>
    rw [hr] at h
    have : q = t := by
      rw [List.getElem?_range] at hr
      · injection hr with hr; exact hr.symm
      · have := (List.getElem?_eq_some_iff.1 hr).1; simpa using this
    subst this
    injection h with h
    exact h.symm
theorem tys_lt {P : Program} {t : TypeId} {ti : TI} (h : (tysOf P)[t]? = some ti) : t < P.types.size := by
  have := (List.getElem?_eq_some_iff.1 h).1
  simpa [tysOf] using this
theorem tys_info {P : Program} {t : TypeId} {ti : TI} (h : (tysOf P)[t]? = some ti) : ∃ i, P.info? t = some i ∧ i.size = ti.size ∧ i.bytes = ti.bytes ∧ ti.zero = (match i.zero with | some z => z.cells.toList.map ofV0 | none => []) := by
  obtain rfl := tys_at h
  have hl := tys_lt h
  have hi : P.info? t = some P.types[t] := by
    unfold Tables.info?
    rw [Array.getElem?_eq_getElem hl, if_pos hl]
  exact ⟨_, hi, by simp [tiOf, hi], by simp [tiOf, hi], by simp only [tiOf, hi]; rfl⟩
theorem run_sizeOf' {P : Program} {t : TypeId} {i : TypeInfo} (h : P.info? t = some i) (w : World) : (sizeOf t).run P w = .ok i.size w := by
  simp [sizeOf, typeInfo, h]
theorem k_of {P : Program} {t : TypeId} {ti : TI} (h : (tysOf P)[t]? = some ti) : tyK (tysOf P) t = ti.k := by simp [tyK, h]
theorem tyK_at {P : Program} {t : TypeId} (h : tyK (tysOf P) t ≠ .other) : tyK (tysOf P) t = (tiOf P t).k := by
  unfold tyK at h ⊢
  cases ht : (tysOf P)[t]? with
  | none => rw [ht] at h; exact absurd rfl h
  | some ti => rw [tys_at ht]
def Under (P : Program) (t : TypeId) : TK → Prop
  | .int q => P.underlying t = some (.int q)
  | .bool => P.underlying t = some .bool
  | .str => P.underlying t = some .string
  | .slice e => P.underlying t = some (.slice e)
  | .struct fs => ∃ gs, P.underlying t = some (.struct gs) ∧ fs = gs.toList.map fun f => (f.offset, f.type)
  | .arr n e => P.underlying t = some (.array n e)
  | .ptr e => P.underlying t = some (.pointer e)
  | .fun_ => ∃ a b c, P.underlying t = some (.func a b c)
  | .other => True
theorem under_ti (P : Program) (t : TypeId) : Under P t (tiOf P t).k := by
  unfold tiOf
  dsimp only
  cases hu : P.underlying t with
  | none => simp [Under]
  | some d => cases d <;> simp [Under, hu]
theorem under_of {P : Program} {t : TypeId} {k : TK} (h : tyK (tysOf P) t = k) : Under P t k := by
  by_cases hk : k = .other
  · rw [hk]; trivial
  · have h2 := tyK_at (P := P) (t := t) (by rw [h]; exact hk)
    rw [h] at h2
    rw [h2]
    exact under_ti P t
theorem agg_run {P : Program} {t : TypeId} {k : TK} (h : Under P t k) (hk : k.known = true) (w : World) : (isAgg t).run P w = .ok k.agg w := by
  cases k <;> simp only [Under] at h
  · simp [isAgg, underlying, h, TK.agg]
  · simp [isAgg, underlying, h, TK.agg]
  · simp [isAgg, underlying, h, TK.agg]
  · simp [isAgg, underlying, h, TK.agg]
  · obtain ⟨gs, h, _⟩ := h; simp [isAgg, underlying, h, TK.agg]
  · simp [isAgg, underlying, h, TK.agg]
  · simp [isAgg, underlying, h, TK.agg]
  · obtain ⟨a, b, c, h⟩ := h; simp [isAgg, underlying, h, TK.agg]
  · cases hk
theorem agg_known {k : TK} (h : k.agg = true) : k.known = true := by cases k <;> simp_all [TK.agg, TK.known]
theorem under_tys {P : Program} {t : TypeId} {ti : TI} (h : (tysOf P)[t]? = some ti) : Under P t ti.k := by rw [tys_at h]; exact under_ti P t

/-! ### constants, slots -/
theorem ofV0_rel (s : CS) (R : List Reg) (v : Value) : Rel s R (ofV0 v) v := by
  unfold ofV0
  split
  · exact .b _ _
  · exact .i _ _ _
  · exact .s _ _
  · exact .np _
  · exact .nf _
  · exact .slN _ _ (by simp)
  · exact .un _ _
theorem relL_ofV0 (s : CS) (R : List Reg) (vs : List Value) : RelL s R (vs.map ofV0) vs := by
  refine ⟨by simp, fun j x v hx hv => ?_⟩
  rw [List.getElem?_map, hv] at hx
  injection hx with hx
  subst hx
  exact ofV0_rel _ _ _
theorem ofV_rel (s : CS) (R : List Reg) (v : Value) : Rel s R (ofV v) v := by
  unfold ofV
  split
  · rename_i cs
    have h := relL_ofV0 s R cs.toList
    exact .ag _ _ _ (by simp) (fun j x v hx hv => h.2 j x v hx (by simpa using hv))
  · rename_i cs
    have h := relL_ofV0 s R cs.toList
    exact .tu _ _ _ (by simp) (fun j x v hx hv => h.2 j x v hx (by simpa using hv))
  · exact ofV0_rel _ _ _

def RelT (s : CS) (R : List Reg) (T : List IV) (tm : Array Value) : Prop := T.length ≤ tm.size ∧ ∀ t, t < T.length → Rel s R (getT T t) (tm.getD t undef)
theorem RelT.ext {s s' : CS} {R R' : List Reg} {T : List IV} {tm : Array Value} (h : RelT s R T tm) (e : Ext s R s' R') : RelT s' R' T tm := ⟨h.1, fun t ht => (h.2 t ht).ext e⟩
theorem getT_ge (T : List IV) (t : Nat) (h : T.length ≤ t) : getT T t = .un := by
  induction T generalizing t with
  | nil => rfl
  | cons x T ih => cases t with
    | zero => simp at h
    | succ t => exact ih t (by simpa using h)
theorem RelT.at {s : CS} {R : List Reg} {T : List IV} {tm : Array Value} (h : RelT s R T tm) (t : Nat) : Rel s R (getT T t) (tm.getD t undef) := by
  by_cases ht : t < T.length
  · exact h.2 t ht
  · rw [getT_ge T t (by omega)]; exact .un _ _
theorem setT_length (T : List IV) (t : Nat) (v : IV) : (setT T t v).length = T.length := by
  induction T generalizing t with
  | nil => rfl
  | cons x T ih => cases t <;> simp [setT, ih]
theorem getT_setT (T : List IV) (t q : Nat) (v : IV) (h : q < T.length) : getT (setT T t v) q = if q = t then v else getT T q := by
  induction T generalizing t q with
  | nil => simp at h
  | cons x T ih =>
    cases t with
    | zero => cases q <;> simp [setT, getT]
    | succ t => cases q with
      | zero => simp [setT, getT]
      | succ q => simp only [setT, getT]; rw [ih t q (by simpa using h)]; simp
theorem RelT.set {s : CS} {R : List Reg} {T : List IV} {tm : Array Value} (h : RelT s R T tm) (t : Nat) {x : IV} {v : Value} (hv : Rel s R x v) : RelT s R (setT T t x) (tm.setIfInBounds t v) := by
  refine ⟨by rw [setT_length, Array.size_setIfInBounds]; exact h.1, fun q hq => ?_⟩
  rw [setT_length] at hq
  rw [getT_setT T t q x hq]
  by_cases e : q = t
  · subst e
    rw [if_pos rfl]
    have : q < tm.size := Nat.lt_of_lt_of_le hq h.1
    simpa [Array.getD, this] using hv
  · rw [if_neg e]
    have hq2 : q < tm.size := Nat.lt_of_lt_of_le hq h.1
    have := h.2 q hq
    rw [Array.getD_eq_getD_getElem?] at this ⊢
    rwa [Array.getElem?_setIfInBounds_ne (h := fun e' => e e'.symm)]
theorem RelT.put {s : CS} {R : List Reg} {T : List IV} {a : Act} (h : RelT s R T a.tmps) (d : Option Nat) {x : IV} {v : Value} (hv : Rel s R x v) : RelT s R (putT T d x) (a.put d v).tmps := by
  cases d with
  | none => exact h
  | some d => exact h.set d hv
theorem RelT.ev {s : CS} {R : List Reg} {T : List IV} {a : Act} (h : RelT s R T a.tmps) (x : Operand) : Rel s R (evI T x) (a.eval x) := by
  cases x with
  | tmp t => exact h.at t
  | const v => exact ofV_rel _ _ _
  | global g => exact .un _ _
  | func f => exact .fn _ _ _ _ _ _ rfl rfl (fun j x v hx => by simp at hx) (fun j x v hx => by simp at hx)
end Go.Iv
set_option linter.unusedVariables false
set_option linter.unusedSimpArgs false
namespace Go.Iv
open Go.RowKit

def Res (w0 : Base) (s : CS) (R : List Reg) (run : Result Next) (v : IV) (R1 : List Reg) : Prop :=
  ∃ y s1, (run = .ok (.value y) s1.w ∨ (run = .ok .skip s1.w ∧ y = undef)) ∧ Inv w0 s1 R1 ∧ Ext s R s1 R1 ∧ Rel s1 R1 v y
theorem Res.ofPure {w0 : Base} {s : CS} {R : List Reg} {run : Result Next} {v : IV} {y : Value} (hi : Inv w0 s R) (h : run = .ok (.value y) s.w) (hr : Rel s R v y) : Res w0 s R run v R :=
  ⟨y, s, .inl h, hi, Ext.refl _ _, hr⟩

theorem rel_bit {s : CS} {R : List Reg} {x y : Bool} (h : x = y) : Rel s R (.b x) (.bool y) := by subst h; exact .b _ _
theorem rel_int {s : CS} {R : List Reg} {k : IntKind} {x y : Int} (h : x = y) : Rel s R (.i k x) (.int k y) := by subst h; exact .i _ _ _

theorem guard_int {P : Program} {w : World} {op : BinOp} {t : TypeId} {xo yo : Operand} {k k' : IntKind} {a b : Int} : (eqGuard op t xo yo (.int k a) (.int k' b)).run P w = .ok () w := by
  unfold eqGuard; cases op <;> rfl
theorem guard_bool {P : Program} {w : World} {op : BinOp} {t : TypeId} {xo yo : Operand} {a b : Bool} : (eqGuard op t xo yo (.bool a) (.bool b)).run P w = .ok () w := by
  unfold eqGuard; cases op <;> rfl
theorem guard_str {P : Program} {w : World} {op : BinOp} {t : TypeId} {xo yo : Operand} {a b : ByteArray} : (eqGuard op t xo yo (.string a) (.string b)).run P w = .ok () w := by
  unfold eqGuard; cases op <;> rfl

theorem arith_sound {P : Program} {w : World} {s : CS} {R : List Reg} {op : BinOp} {k : IntKind} {x y : Int} {v : IV} {t : TypeId} (h : arithI op k x y = some v) (h1 : op ≠ .shl) (h2 : op ≠ .shr) :
    ∃ z, (binOp op t (.int k x) (.int k y)).run P w = .ok z w ∧ Rel s R v z := by
  cases op <;> simp only [arithI] at h <;> first | (exact absurd rfl h1) | (exact absurd rfl h2) | skip
  case add => injection h with h; subst h; exact ⟨_, by simp [binOp, Op.intArith], .i _ _ _⟩
  case sub => injection h with h; subst h; exact ⟨_, by simp [binOp, Op.intArith], .i _ _ _⟩
  case mul => injection h with h; subst h; exact ⟨_, by simp [binOp, Op.intArith], .i _ _ _⟩
  case quo =>
    split at h
    · cases h
    · rename_i hy; injection h with h; subst h
      exact ⟨_, by simp [binOp, Op.intDiv, hy], .i _ _ _⟩
  case rem =>
    split at h
    · cases h
    · rename_i hy; injection h with h; subst h
      exact ⟨_, by simp [binOp, Op.intDiv, hy], .i _ _ _⟩
  case and => injection h with h; subst h; exact ⟨_, by simp [binOp, Op.intBits], .i _ _ _⟩
  case or => injection h with h; subst h; exact ⟨_, by simp [binOp, Op.intBits], .i _ _ _⟩
  case xor => injection h with h; subst h; exact ⟨_, by simp [binOp, Op.intBits], .i _ _ _⟩
  case andNot => injection h with h; subst h; exact ⟨_, by simp [binOp, Op.intBits], .i _ _ _⟩
  case eql => injection h with h; subst h; exact ⟨_, by simp [binOp, Op.intCmp]; rfl, rel_bit (by simp [BEq.beq])⟩
  case neq => injection h with h; subst h; exact ⟨_, by simp [binOp, Op.intCmp]; rfl, rel_bit (by simp [bne, BEq.beq])⟩
  case lss => injection h with h; subst h; exact ⟨_, by simp [binOp, Op.intCmp], rel_bit rfl⟩
  case leq => injection h with h; subst h; exact ⟨_, by simp [binOp, Op.intCmp], rel_bit rfl⟩
  case gtr => injection h with h; subst h; exact ⟨_, by simp [binOp, Op.intCmp], rel_bit rfl⟩
  case geq => injection h with h; subst h; exact ⟨_, by simp [binOp, Op.intCmp], rel_bit rfl⟩
  all_goals skip

theorem equalIn_bool {P : Program} {w : World} {t : TypeId} (hu : P.underlying t = some .bool) (a b : Bool) (n : Nat) : (Op.equalIn (n + 1) t (.bool a) (.bool b)).run P w = .ok (a == b) w := by
  unfold Op.equalIn
  simp [underlying, hu]
theorem equal_bool {P : Program} {w : World} {t : TypeId} (hu : P.underlying t = some .bool) (a b : Bool) : (Op.equal t (.bool a) (.bool b)).run P w = .ok (a == b) w := by
  have h : Op.maxDepth = 9999 + 1 := rfl
  unfold Op.equal
  rw [h]
  exact equalIn_bool hu a b 9999
theorem binEql_bool {P : Program} {w : World} {t : TypeId} (hu : P.underlying t = some .bool) (a b : Bool) : (binOp .eql t (.bool a) (.bool b)).run P w = .ok (.bool (a == b)) w := by
  have e : binOp .eql t (.bool a) (.bool b) = (do pure (.bool (← Op.equal t (.bool a) (.bool b)))) := rfl
  rw [e]; simp [equal_bool hu]
theorem binNeq_bool {P : Program} {w : World} {t : TypeId} (hu : P.underlying t = some .bool) (a b : Bool) : (binOp .neq t (.bool a) (.bool b)).run P w = .ok (.bool (!(a == b))) w := by
  have e : binOp .neq t (.bool a) (.bool b) = (do pure (.bool (!(← Op.equal t (.bool a) (.bool b))))) := rfl
  rw [e]; simp [equal_bool hu]

theorem nil_sound {s : CS} {R : List Reg} {x : IV} {a : Value} {q : Bool} (hx : Rel s R x a) (h : nilI x = some q) : ∃ A l c, a = .slice A l c ∧ A.isNone = q := by
  unfold nilI at h
  split at h
  · injection h with h; subst h
    cases hx with
    | slN _ _ hn => exact ⟨_, _, _, rfl, by rename_i x; cases x <;> simp_all⟩
    | slE _ _ a cap hn => exact ⟨_, _, _, rfl, by rename_i x; cases x <;> simp_all⟩
    | sl _ _ _ a off cap sz c hn => exact ⟨_, _, _, rfl, by rename_i x _ _ _ _ _; cases x <;> simp_all⟩
  · injection h with h; subst h
    cases hx with
    | sl _ _ _ a off cap sz c hn => exact ⟨_, _, _, rfl, rfl⟩
  · injection h with h; subst h
    cases hx with
    | seN => exact ⟨_, _, _, rfl, rfl⟩
    | seE => exact ⟨_, _, _, rfl, rfl⟩
  · cases h
theorem nil_only {s : CS} {R : List Reg} {a : Value} (hx : Rel s R (.sl (some true) []) a) : a = .slice none 0 0 := by
  cases hx with
  | slN => rfl
  | slE _ _ a cap hn => exact absurd rfl hn
  | sl _ _ _ a off cap sz c hn => exact absurd rfl hn
theorem equal_nil {P : Program} {w : World} {t e : TypeId} (hu : P.underlying t = some (.slice e)) (A : Option Addr) (l c : Nat) : (Op.equal t (.slice A l c) (.slice none 0 0)).run P w = .ok A.isNone w := by
  have h : Op.maxDepth = 9999 + 1 := rfl
  unfold Op.equal
  rw [h]
  unfold Op.equalIn
  cases A <;> simp [underlying, hu]
theorem guard_sl {P : Program} {w : World} {op : BinOp} {t : TypeId} {xo yo : Operand} {A B : Option Addr} {l c l' c' : Nat} : (eqGuard op t xo yo (.slice A l c) (.slice B l' c')).run P w = .ok () w := by
  unfold eqGuard; split <;> simp
theorem bin_sound {P : Program} {w : World} {s : CS} {R : List Reg} {op : BinOp} {x y v : IV} {a b : Value} {t : TypeId} {xo yo : Operand}
    (hx : Rel s R x a) (hy : Rel s R y b) (h : binI (tysOf P) op t x y = some v) :
    ∃ z, (do eqGuard op t xo yo a b; binOp op t a b : Sem Value).run P w = .ok z w ∧ Rel s R v z := by
  unfold binI at h
  split at h
  · cases hx; cases hy
    split at h
    · cases h
    · rename_i q; injection h with h; subst h
      exact ⟨_, by simp [guard_int, binOp, Op.shift, q], .i _ _ _⟩
  · cases hx; cases hy
    split at h
    · cases h
    · rename_i q; injection h with h; subst h
      exact ⟨_, by simp [guard_int, binOp, Op.shift, q], .i _ _ _⟩
  · rename_i n1 n2
    cases hx; cases hy
    split at h
    · rename_i e; subst e
      obtain ⟨z, hz, hr⟩ := arith_sound (P := P) (w := w) (s := s) (R := R) (t := t) h (fun e => n1 e) (fun e => n2 e)
      exact ⟨z, by simp [guard_int, hz], hr⟩
    · cases h
  · cases hx; cases hy
    split at h
    · rename_i e
      injection h with h; subst h
      have hu : P.underlying t = some .bool := under_of e
      exact ⟨_, by simp only [Sem.run_bind, guard_bool, Result.andThen_ok, binEql_bool hu], rel_bit rfl⟩
    · cases h
  · cases hx; cases hy
    split at h
    · rename_i e
      injection h with h; subst h
      have hu : P.underlying t = some .bool := under_of e
      exact ⟨_, by simp only [Sem.run_bind, guard_bool, Result.andThen_ok, binNeq_bool hu], rel_bit rfl⟩
    · cases h
  · cases hx; cases hy
    injection h with h; subst h
    exact ⟨_, by simp [guard_str, binOp, Op.stringOp], rel_bit rfl⟩
  · cases hx; cases hy
    injection h with h; subst h
    exact ⟨_, by simp [guard_str, binOp, Op.stringOp], rel_bit rfl⟩
  · have := nil_only hy; subst this
    split at h
    · rename_i e q he hq
      injection h with h; subst h
      obtain ⟨A, l, c, rfl, hA⟩ := nil_sound hx hq
      have hu : P.underlying t = some (.slice e) := under_of he
      refine ⟨.bool q, ?_, .b _ _⟩
      have e : binOp .eql t (.slice A l c) (.slice none 0 0) = (do pure (.bool (← Op.equal t (.slice A l c) (.slice none 0 0)))) := rfl
      simp only [Sem.run_bind, guard_sl, Result.andThen_ok, e, equal_nil hu, Sem.run_pure, hA]
    · cases h
  · have := nil_only hy; subst this
    split at h
    · rename_i e q he hq
      injection h with h; subst h
      obtain ⟨A, l, c, rfl, hA⟩ := nil_sound hx hq
      have hu : P.underlying t = some (.slice e) := under_of he
      refine ⟨.bool (!q), ?_, .b _ _⟩
      have e : binOp .neq t (.slice A l c) (.slice none 0 0) = (do pure (.bool (!(← Op.equal t (.slice A l c) (.slice none 0 0))))) := rfl
      simp only [Sem.run_bind, guard_sl, Result.andThen_ok, e, equal_nil hu, Sem.run_pure, hA]
    · cases h
  · cases h

theorem un_sound {P : Program} {w : World} {s : CS} {R : List Reg} {op : UnOp} {x v : IV} {a : Value} (hx : Rel s R x a) (h : unI op x = some v) :
    ∃ z, (Op.unary op a).run P w = .ok z w ∧ Rel s R v z := by
  unfold unI at h
  split at h
  · cases hx; injection h with h; subst h; exact ⟨_, rfl, .b _ _⟩
  · cases hx; injection h with h; subst h; exact ⟨_, rfl, .i _ _ _⟩
  · cases h
end Go.Iv
set_option linter.unusedVariables false
set_option linter.unusedSimpArgs false
namespace Go.Iv
open Go.RowKit

theorem plain_add (b o j : Nat) : (⟨b, o, none⟩ : Addr).add j = ⟨b, o + j, none⟩ := by unfold Addr.add; split <;> simp_all

theorem flatten_len {sz : Nat} : ∀ (rows : List (List IV)), (∀ row ∈ rows, row.length = sz) → rows.flatten.length = rows.length * sz
  | [], _ => by simp
  | r :: rows, h => by
    have := flatten_len rows (fun q hq => h q (by simp [hq]))
    simp only [List.flatten_cons, List.length_append, this, h r (by simp), List.length_cons]
    rw [Nat.add_mul]; omega
theorem flatten_get {sz : Nat} : ∀ (rows : List (List IV)) (i j : Nat) (cs : List IV) (x : IV), (∀ row ∈ rows, row.length = sz) → rows[i]? = some cs → cs[j]? = some x → rows.flatten[i * sz + j]? = some x
  | [], i, j, cs, x, _, h, _ => by simp at h
  | r :: rows, 0, j, cs, x, hs, h, hx => by
    simp at h; subst h
    have hj : j < r.length := (List.getElem?_eq_some_iff.1 hx).1
    simp only [List.flatten_cons, Nat.zero_mul, Nat.zero_add]
    rw [List.getElem?_append_left hj]; exact hx
  | r :: rows, i + 1, j, cs, x, hs, h, hx => by
    have hr := hs r (by simp)
    have := flatten_get rows i j cs x (fun q hq => hs q (by simp [hq])) (by simpa using h) hx
    simp only [List.flatten_cons]
    have e : (i + 1) * sz + j = r.length + (i * sz + j) := by rw [hr, Nat.add_mul]; omega
    rw [e, List.getElem?_append_right (by omega)]
    simpa using this

/-- The cells that an address leads to, with what they hold. -/
def Reads (s : CS) (R : List Reg) (v : Value) (cells : List IV) : Prop :=
  ∃ b off, v = .pointer (some ⟨b, off, none⟩) ∧ ∀ j x, cells[j]? = some x → ∃ u, s.w.cell? ⟨b, off + j, none⟩ = some u ∧ Rel s R x u

theorem Rel.up {s : CS} {x : IV} {v : Value} (h : Rel s [] x v) (R : List Reg) (hR : VerOK R) : Rel s R x v := by
  refine h.ext ⟨fun b hb => hb, fun b hb => rfl, fun r => ?_⟩
  rw [getR_nil]
  refine ⟨Nat.zero_le _, fun e => ⟨fun _ => hR r e.symm, fun o ho => by cases ho⟩⟩

theorem liveR_lv {R : List Reg} {r ver : Nat} {o : Obj} (h : liveR R r ver = some o) : lv R r ver o := by
  unfold liveR at h
  split at h
  · rename_i v o' hg
    split at h
    · rename_i e; injection h with h; subst h; subst e; exact hg
    · cases h
  · cases h

theorem lv_fun {R : List Reg} {r ver ver' : Nat} {o o' : Obj} (h : lv R r ver o) (h' : lv R r ver' o') : ver = ver' ∧ o = o' := by
  unfold lv at h h'
  rw [h] at h'
  injection h' with a b
  injection b with b
  exact ⟨a, b⟩

theorem Rel.pt_inv {s : CS} {R : List Reg} {r ver row col : Nat} {v : Value} {o : Obj} (h : Rel s R (.pt r ver row col) v) (ho : lv R r ver o) :
    ∃ b k, s.β r = some (b, k) ∧ row < o.rows.length ∧ v = .pointer (some ⟨b, row * o.sz + col, none⟩) := by
  cases h with
  | staleP _ _ _ _ _ _ h1 h2 =>
    rw [show getR R r = ⟨ver, some o⟩ from ho] at h2
    exact absurd (h2 rfl) (by simp)
  | pt _ _ _ o' _ _ b k h1 h2 h3 =>
    obtain ⟨_, rfl⟩ := lv_fun h1 ho
    exact ⟨b, k, h2, h3, rfl⟩
theorem Rel.rf_inv {s : CS} {R : List Reg} {r ver off len : Nat} {v : Value} {o : Obj} (h : Rel s R (.rf r ver off len) v) (ho : lv R r ver o) :
    (s.β r = none ∧ off = 0 ∧ len = 0 ∧ ∃ A, v = .slice A 0 0) ∨ ∃ b k, s.β r = some (b, k) ∧ off + len ≤ o.rows.length ∧ v = .slice (some ⟨b, off * o.sz, none⟩) len (k - off) := by
  cases h with
  | stale _ _ _ _ _ _ h1 h2 =>
    rw [show getR R r = ⟨ver, some o⟩ from ho] at h2
    exact absurd (h2 rfl) (by simp)
  | rfN _ _ _ o' A h1 h2 => exact .inl ⟨h2, rfl, rfl, A, rfl⟩
  | rf _ _ _ o' _ _ b k h1 h2 h3 =>
    obtain ⟨_, rfl⟩ := lv_fun h1 ho
    exact .inr ⟨b, k, h2, h3, rfl⟩

end Go.Iv
set_option linter.unusedVariables false
set_option linter.unusedSimpArgs false
namespace Go.Iv
open Go.RowKit

theorem pi_reads {w0 : Base} {s : CS} {R : List Reg} {cells : List IV} {v : Value} (hi : Inv w0 s R) (h : Rel s R (.pi cells) v) : Reads s R v cells := by
  cases h with
  | pi _ _ a off c hF hcell hrel =>
    refine ⟨a, off, rfl, fun j x hx => ⟨c j, hcell j (List.getElem?_eq_some_iff.1 hx).1, (hrel j x hx).up R hi.ver⟩⟩

theorem reg_cell {w0 : Base} {s : CS} {R : List Reg} {r ver b k : Nat} {o : Obj} (hi : Inv w0 s R) (hr : lv R r ver o) (hb : s.β r = some (b, k)) {row j : Nat} {cs : List IV} {x : IV}
    (hrow : o.rows[row]? = some cs) (hx : cs[j]? = some x) : ∃ u, s.w.cell? ⟨b, row * o.sz + j, none⟩ = some u ∧ Rel s (if o.box then R else []) x u ∧ row * o.sz + j < k * o.sz := by
  obtain ⟨k1, k2, k3, k4, k5, cur, k6, k7, k8⟩ := (RegOK.some_ hb).1 (hi.regs r ver o hr)
  have hf := flatten_get o.rows row j cs x k5 hrow hx
  have hlt : row * o.sz + j < o.rows.length * o.sz := by
    have := (List.getElem?_eq_some_iff.1 hf).1
    rwa [flatten_len _ k5] at this
  have hle : o.rows.length * o.sz ≤ k * o.sz := Nat.mul_le_mul_right _ k4
  have hsz : row * o.sz + j < cur.size := by omega
  refine ⟨cur[row * o.sz + j], ?_, k8.2 _ x _ hf ?_, by omega⟩
  · simp [World.cell?, k6, hsz]
  · rw [List.getElem?_take, if_pos hlt]; simp [hsz]

theorem Rel.box {s : CS} {R : List Reg} {x : IV} {v : Value} {bx : Bool} (h : Rel s (if bx then R else []) x v) (hR : VerOK R) : Rel s R x v := by
  cases bx with
  | true => exact h
  | false => exact h.up R hR

theorem pt_reads {w0 : Base} {s : CS} {R : List Reg} {r ver row col : Nat} {v : Value} {o : Obj} {cs : List IV} (hi : Inv w0 s R) (h : Rel s R (.pt r ver row col) v) (ho : lv R r ver o) (hrow : o.rows[row]? = some cs) :
    Reads s R v (cs.drop col) := by
  obtain ⟨b, k, hb, hl, rfl⟩ := h.pt_inv ho
  refine ⟨b, row * o.sz + col, rfl, fun j x hx => ?_⟩
  rw [List.getElem?_drop] at hx
  obtain ⟨u, h1, h2, _⟩ := reg_cell hi ho hb hrow hx
  exact ⟨u, by rw [Nat.add_assoc]; exact h1, h2.box hi.ver⟩

theorem take_sound {P : Program} {s : CS} {R : List Reg} {t : TypeId} {ti : TI} {a : Value} {cells : List IV} {v : IV} (ht : (tysOf P)[t]? = some ti) (h : Reads s R a cells) (hv : takeI ti cells = some v) :
    ∃ y, (Instr.loadAt t a).run P s.w = .ok y s.w ∧ Rel s R v y := by
  obtain ⟨b, off, rfl, hc⟩ := h
  obtain ⟨i, hi, hsz, _, _⟩ := tys_info ht
  unfold takeI at hv
  have hu := under_tys ht
  split at hv
  · rename_i hag
    split at hv
    · rename_i hle
      injection hv with hv
      subst hv
      have hr := run_loadCells (P := P) s.w ⟨b, off, none⟩ ti.size (fun j => (s.w.cell? ⟨b, off + j, none⟩).getD undef) (fun j hj => by
        rw [plain_add]
        obtain ⟨u, hu1, _⟩ := hc j (cells[j]'(by omega)) (List.getElem?_eq_getElem (by omega))
        rw [hu1]; rfl)
      refine ⟨.agg ((List.range ti.size).map fun j => (s.w.cell? ⟨b, off + j, none⟩).getD undef).toArray, ?_, .ag _ _ _ ?_ ?_⟩
      · simp only [Instr.loadAt, Instr.sureAddr, loadVar, Sem.run_bind, Sem.run_pure, Result.andThen_ok, agg_run hu (agg_known hag), hag, if_true, run_sizeOf' hi, hsz, hr]
      · simp; omega
      · intro j x u hx hu1
        rw [List.getElem?_take] at hx
        by_cases hj : j < ti.size
        · rw [if_pos hj] at hx
          obtain ⟨u', hu', hrel⟩ := hc j x hx
          simp [hj] at hu1
          rw [hu'] at hu1
          simp at hu1
          subst hu1
          exact hrel
        · rw [if_neg hj] at hx; cases hx
    · cases hv
  · rename_i hag
    split at hv
    · rename_i hk
      cases cells with
      | nil => cases hv
      | cons x rest =>
        injection hv with hv
        subst hv
        obtain ⟨u, hu1, hrel⟩ := hc 0 x rfl
        refine ⟨u, ?_, hrel⟩
        have hag' : ti.k.agg = false := by simpa using hag
        have hu2 : s.w.cell? ⟨b, off, none⟩ = some u := hu1
        simp only [Instr.loadAt, Instr.sureAddr, loadVar, Sem.run_bind, Sem.run_pure, Result.andThen_ok, agg_run hu hk, hag', Bool.false_eq_true, if_false, run_load, hu2]
    · cases hv

theorem load_sound {P : Program} {w0 : Base} {s : CS} {R : List Reg} {t : TypeId} {x v : IV} {a : Value} (hi : Inv w0 s R) (hx : Rel s R x a) (h : loadI (tysOf P) t x R = some v) :
    ∃ y, (Instr.loadAt t a).run P s.w = .ok y s.w ∧ Rel s R v y := by
  unfold loadI at h
  split at h
  · cases h
  · rename_i ti ht
    split at h
    · exact take_sound ht (pi_reads hi hx) h
    · split at h
      · rename_i o ho
        split at h
        · rename_i cs hcs
          exact take_sound ht (pt_reads hi hx (liveR_lv ho) hcs) h
        · cases h
      · cases h
    · cases h

/-! ### parts of a value -/
theorem part_sound {P : Program} {s : CS} {R : List Reg} {t : TypeId} {ti : TI} {xs : List IV} {vs : Array Value} {v : IV} {off : Nat} {w : World} (ht : (tysOf P)[t]? = some ti) (h : RelL s R xs vs.toList) (hv : takeI ti (xs.drop off) = some v) :
    ∃ y, (part t vs off).run P w = .ok y w ∧ Rel s R v y := by
  obtain ⟨i, hi, hsz, _, _⟩ := tys_info ht
  have hu := under_tys ht
  unfold takeI at hv
  split at hv
  · rename_i hag
    split at hv
    · rename_i hle
      injection hv with hv; subst hv
      have hlen : xs.length = vs.size := by simpa using h.1
      refine ⟨.agg (vs.extract off (off + ti.size)), ?_, .ag _ _ _ ?_ ?_⟩
      · simp [part, agg_run hu (agg_known hag), hag, run_sizeOf' hi, hsz]
      · simp at hle ⊢; omega
      · intro j x u hx hu1
        rw [List.getElem?_take] at hx
        by_cases hj : j < ti.size
        · rw [if_pos hj, List.getElem?_drop] at hx
          have : vs.toList[off + j]? = some u := by
            rw [Array.getElem?_extract] at hu1
            simp at hu1 ⊢
            exact hu1.2
          exact h.2 _ x u hx this
        · rw [if_neg hj] at hx; cases hx
    · cases hv
  · rename_i hag
    split at hv
    · rename_i hk
      have hag' : ti.k.agg = false := by simpa using hag
      rw [List.head?_drop] at hv
      have hlt := (List.getElem?_eq_some_iff.1 hv).1
      have hlen : xs.length = vs.size := by simpa using h.1
      have hvs : vs[off]? = some (vs[off]'(by omega)) := Array.getElem?_eq_getElem (by omega)
      refine ⟨vs[off]'(by omega), ?_, h.2 off v _ hv (by simp)⟩
      simp [part, agg_run hu hk, hag', hvs]
    · cases hv

theorem ag_inv {s : CS} {R : List Reg} {xs : List IV} {a : Value} (h : Rel s R (.ag xs) a) : ∃ vs, a = .agg vs ∧ RelL s R xs vs.toList := by
  cases h with
  | ag _ _ vs hl h => exact ⟨vs, rfl, by simpa using hl, fun j x v hx hv => h j x v hx (by simpa using hv)⟩

theorem field_sound {P : Program} {s : CS} {R : List Reg} {w : World} {st : TypeId} {x v : IV} {a : Value} {f : Nat} (hx : Rel s R x a) (h : fieldI (tysOf P) st x f = some v) :
    ∃ y, (Instr.field st a f).run P w = .ok y w ∧ Rel s R v y := by
  unfold fieldI at h
  split at h
  · rename_i fs cs hk
    obtain ⟨gs, hg, rfl⟩ := under_of hk
    split at h
    · rename_i off ft hf
      split at h
      · rename_i fi hfi
        rw [List.getElem?_map] at hf
        cases hgf : gs.toList[f]? with
        | none => rw [hgf] at hf; cases hf
        | some g =>
          rw [hgf] at hf
          injection hf with hf
          injection hf with h1 h2
          subst h1; subst h2
          obtain ⟨vs, rfl, hl⟩ := ag_inv hx
          obtain ⟨y, hy, hrel⟩ := part_sound (P := P) (w := w) hfi hl h
          refine ⟨y, ?_, hrel⟩
          have hgf' : gs[f]? = some g := by simpa using hgf
          simp [Instr.field, underlying, hg, hgf', asAgg, hy]
      · cases h
    · cases h
  · cases h
end Go.Iv
