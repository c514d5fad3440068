import Derived.Test.YtapigbgcghekgaaM03
set_option linter.unusedVariables false
set_option linter.unusedSimpArgs false
set_option linter.unusedVariables false
set_option linter.unusedSimpArgs false
namespace Go.Iv
open Go.RowKit

theorem run_newVar' {P : Program} (w : World) (t : TypeId) (v : Value) : (newVar t v).run P w = .ok ⟨w.heap.size, 0, none⟩ (w.alloc (.cells v.cells t)) := by
  simp [newVar, newRow]

/-- A new box in a register. -/
theorem box_reg {w0 : Base} {s : CS} {R : List Reg} (hi : Inv w0 s R) (r : Nat) (e : TypeId) (cells : List IV) (vs : Array Value) (h : RelL s R cells vs.toList) :
    ∃ s1 : CS, s1.w = s.w.alloc (.cells vs e) ∧ Inv w0 s1 (newR R r { box := true, ety := e, sz := cells.length, rows := [cells] }) ∧ Ext s R s1 (newR R r { box := true, ety := e, sz := cells.length, rows := [cells] }) ∧
      Rel s1 (newR R r { box := true, ety := e, sz := cells.length, rows := [cells] }) (.pt r (verR R r) 0 0) (.pointer (some ⟨s.w.heap.size, 0, none⟩)) := by
  have T1 := hi.take r { box := true, ety := e, sz := cells.length, rows := [cells] } (s.w.alloc (.cells vs e)) (some (s.w.heap.size, 1))
    ((Below.refl _ _).alloc (Nat.le_refl _) _)
    (fun b k hbk => by
      injection hbk with hbk; injection hbk with q1 q2; subst q1; subst q2
      refine ⟨Nat.le_refl _, by unfold maxLen; omega, by simp, by simp, vs, heap_alloc_new _ _, by simp; have := h.1; simpa using this.symm, ?_⟩
      simp only [List.flatten_cons, List.flatten_nil, List.append_nil, List.length_cons, List.length_nil, Nat.zero_add, Nat.one_mul, if_true]
      rw [List.take_of_length_le (by rw [← h.1]; exact Nat.le_refl _)]
      exact h)
    (fun hn => by cases hn)
  refine ⟨_, rfl, T1.1, T1.2, ?_⟩
  have := Rel.pt (s := ⟨s.w.alloc (.cells vs e), s.F, upd s.β r (some (s.w.heap.size, 1))⟩) (newR R r { box := true, ety := e, sz := cells.length, rows := [cells] }) r (verR R r) _ 0 0 s.w.heap.size 1 (lv_new _ _ _) (upd_same _ _ _) (by simp)
  simpa using this

/-- A new block that is read alone. -/
theorem box_imm {w0 : Base} {s : CS} {R : List Reg} (hi : Inv w0 s R) (e : TypeId) (cells : List IV) (vs : Array Value) (h : RelL s [] cells vs.toList) :
    ∃ s1 : CS, s1.w = s.w.alloc (.cells vs e) ∧ Inv w0 s1 R ∧ Ext s R s1 R ∧ Rel s1 R (.pi cells) (.pointer (some ⟨s.w.heap.size, 0, none⟩)) := by
  obtain ⟨j1, j2⟩ := hi.pushF (.cells vs e)
  refine ⟨_, rfl, j1, j2, .pi _ _ _ _ (fun j => (vs[j]?).getD undef) (.inr rfl) (fun j hj => ?_) (fun j x hx => ?_)⟩
  · have : j < vs.size := by have := h.1; simp at this; omega
    show World.cell? _ _ = _
    unfold World.cell?
    rw [heap_alloc_new]
    simp [this]
  · have hj : j < vs.size := by have := (List.getElem?_eq_some_iff.1 hx).1; have := h.1; simp at this; omega
    exact (h.2 j x vs[j] hx (by simp [hj])).ext j2.nil |> fun q => by simpa [hj] using q

theorem alloc_sound {P : Program} {w0 : Base} {s : CS} {R R1 : List Reg} {T : List IV} {e : TypeId} {an : An} {v : IV} (hi : Inv w0 s R) (h : opI (tysOf P) an (.alloc e) T R = some (v, R1)) :
    ∃ y s1, (Instr.alloc e true (.tuple #[])).run P s.w = .ok y s1.w ∧ Inv w0 s1 R1 ∧ Ext s R s1 R1 ∧ Rel s1 R1 v y := by
  simp only [opI] at h
  split at h
  · rename_i ti hti
    split at h
    · cases h
    · rename_i hz
      obtain ⟨i, z, hie, hiz, hs, hb, hzero⟩ := zero_of hti (by simpa using hz)
      have hrun : (Instr.alloc e true (.tuple #[])).run P s.w = .ok (.pointer (some ⟨s.w.heap.size, 0, none⟩)) (s.w.alloc (.cells z.cells e)) := by
        simp [Instr.alloc, zeroValue, typeInfo, hie, hiz, run_newVar']
      split at h
      · injection h with h; injection h with h1 h2
        subst h1; subst h2
        obtain ⟨s1, hw, i1, x1, r1⟩ := box_reg hi _ e ti.zero z.cells (by rw [hzero]; exact relL_ofV0 _ _ _)
        exact ⟨_, s1, by rw [hrun, hw], i1, x1, r1⟩
      · injection h with h; injection h with h1 h2
        subst h1; subst h2
        obtain ⟨s1, hw, i1, x1, r1⟩ := box_imm hi e ti.zero z.cells (by rw [hzero]; exact relL_ofV0 _ _ _)
        exact ⟨_, s1, by rw [hrun, hw], i1, x1, r1⟩
  · cases h

theorem box_sound {P : Program} {w0 : Base} {s : CS} {R R1 : List Reg} {T : List IV} {a : Act} {e : TypeId} {x : Operand} {an : An} {v : IV} (hi : Inv w0 s R) (hT : RelT s R T a.tmps) (h : opI (tysOf P) an (.box e x) T R = some (v, R1)) :
    ∃ y s1, (Instr.box e (a.eval x)).run P s.w = .ok y s1.w ∧ Inv w0 s1 R1 ∧ Ext s R s1 R1 ∧ Rel s1 R1 v y := by
  have hrun : (Instr.box e (a.eval x)).run P s.w = .ok (.pointer (some ⟨s.w.heap.size, 0, none⟩)) (s.w.alloc (.cells (a.eval x).cells e)) := by
    simp [Instr.box, run_newVar']
  simp only [opI] at h
  split at h
  · split at h
    · rename_i hc
      injection h with h; injection h with h1 h2
      subst h1; subst h2
      obtain ⟨s1, hw, i1, x1, r1⟩ := box_reg hi _ e (cellsI (evI T x)) (a.eval x).cells (cells_ok (hT.ev x) hc).1
      exact ⟨_, s1, by rw [hrun, hw], i1, x1, r1⟩
    · cases h
  · split at h
    · rename_i cs Rf hf
      injection h with h; injection h with h1 h2
      subst h1; subst h2
      obtain ⟨s1, hw, i1, x1, r1⟩ := fz_cells hi (hT.ev x) hf
      obtain ⟨s2, hw2, i2, x2, r2⟩ := box_imm i1 e cs (a.eval x).cells r1
      exact ⟨_, s2, by rw [hrun, hw2, hw], i2, x1.trans x2, by rw [← hw]; exact r2⟩
    · cases h

theorem makeSlice_sound {P : Program} {w0 : Base} {s : CS} {R R1 : List Reg} {T : List IV} {a : Act} {t : TypeId} {l c : Operand} {an : An} {v : IV} (hi : Inv w0 s R) (hT : RelT s R T a.tmps) (h : opI (tysOf P) an (.makeSlice t l c) T R = some (v, R1)) :
    ∃ y s1, (Instr.makeSlice t (a.eval l) (a.eval c)).run P s.w = .ok y s1.w ∧ Inv w0 s1 R1 ∧ Ext s R s1 R1 ∧ Rel s1 R1 v y := by
  simp only [opI] at h
  split at h
  · rename_i e n m hk hn hm
    have hu : P.underlying t = some (.slice e) := under_of hk
    obtain ⟨kl, hl⟩ := nat_inv (hT.ev l) hn
    obtain ⟨kc, hc⟩ := nat_inv (hT.ev c) hm
    split at h
    · rename_i ei r hei
      split at h
      · rename_i hcnd
        obtain ⟨c1, c2, c3, c4, c5⟩ := hcnd
        subst c1
        injection h with h; injection h with h1 h2
        subst h1; subst h2
        have hzne : ei.zero.isEmpty = false := by
          cases hq : ei.zero with
          | nil => rw [hq] at c4; simp at c4; omega
          | cons => rfl
        obtain ⟨ie, z, hie, hiz, hs, hb, hzero⟩ := zero_of hei hzne
        have hroom : n * ei.bytes ≤ 140737488355328 := by simpa [room] using c2
        have hrun := run_make (P := P) s.w t e ie z hu hie hiz kl kc (n : Int) (n : Int) (by omega) (Int.le_refl _) (by rw [hb]; have : (ei.bytes : Int) * (n : Int) = ((n * ei.bytes : Nat) : Int) := by rw [Nat.mul_comm]; simp
                                                                                                                        rw [this]; omega) (by omega)
        simp only [Int.toNat_natCast, hs] at hrun
        have hzr : RelL s [] (List.replicate n ei.zero).flatten (madeCells z.cells (n * ei.size)).toList := replicate_flat hzero c4 c3
        have T1 := hi.take r { box := false, ety := e, sz := ei.size, rows := List.replicate n ei.zero } (s.w.alloc (.cells (madeCells z.cells (n * ei.size)) e)) (some (s.w.heap.size, n))
          ((Below.refl _ _).alloc (Nat.le_refl _) _)
          (fun b k hbk => by
            injection hbk with hbk; injection hbk with q1 q2; subst q1; subst q2
            refine ⟨Nat.le_refl _, by unfold maxLen; omega, by simp, fun row hr => by rw [(List.mem_replicate.1 hr).2, c4], _, heap_alloc_new _ _, by rw [size_madeCells], ?_⟩
            simp only [List.length_replicate, Bool.false_eq_true, if_false]
            rw [List.take_of_length_le (by simp [madeCells])]
            exact hzr)
          (fun hn => by cases hn)
        refine ⟨.slice (some ⟨s.w.heap.size, 0, none⟩) n n, ⟨s.w.alloc (.cells (madeCells z.cells (n * ei.size)) e), s.F, upd s.β r (some (s.w.heap.size, n))⟩, ?_, T1.1, T1.2, ?_⟩
        · rw [hl, hc, hrun]
        · have := Rel.rf (s := ⟨s.w.alloc (.cells (madeCells z.cells (n * ei.size)) e), s.F, upd s.β r (some (s.w.heap.size, n))⟩) (newR R r { box := false, ety := e, sz := ei.size, rows := List.replicate n ei.zero }) r (verR R r) _ 0 n s.w.heap.size n (lv_new _ _ _) (upd_same _ _ _) (by simp)
          simpa using this
      · cases h
    · cases h
  · cases h

theorem flatten_set {sz : Nat} : ∀ (rows : List (List IV)) (i : Nat) (cs new : List IV) (col : Nat), (∀ row ∈ rows, row.length = sz) → rows[i]? = some cs → col + new.length ≤ sz →
    (rows.set i (fillRow cs col new)).flatten = rows.flatten.take (i * sz + col) ++ new ++ rows.flatten.drop (i * sz + col + new.length)
  | [], i, cs, new, col, _, h, _ => by simp at h
  | r :: rows, 0, cs, new, col, hs, h, hc => by
    simp at h; subst h
    have hr := hs r (by simp)
    simp only [List.set_cons_zero, List.flatten_cons, Nat.zero_mul, Nat.zero_add, fillRow]
    rw [List.take_append_of_le_length (by omega), List.drop_append_of_le_length (by omega)]
    simp [List.append_assoc]
  | r :: rows, i + 1, cs, new, col, hs, h, hc => by
    have hr := hs r (by simp)
    have ih := flatten_set rows i cs new col (fun q hq => hs q (by simp [hq])) (by simpa using h) hc
    simp only [List.set_cons_succ, List.flatten_cons, ih]
    have e : (i + 1) * sz + col = r.length + (i * sz + col) := by rw [hr, Nat.add_mul]; omega
    have h1 : ∀ n, (r ++ rows.flatten).take (r.length + n) = r ++ rows.flatten.take n := by
      intro n
      rw [List.take_append, List.take_of_length_le (show r.length ≤ r.length + n by omega), Nat.add_sub_cancel_left]
    have h2 : ∀ n, (r ++ rows.flatten).drop (r.length + n) = rows.flatten.drop n := by
      intro n
      rw [List.drop_append, List.drop_eq_nil_of_le (show r.length ≤ r.length + n by omega), Nat.add_sub_cancel_left, List.nil_append]
    rw [e, h1, show r.length + (i * sz + col) + new.length = r.length + (i * sz + col + new.length) by omega, h2]
    simp [List.append_assoc]

/-- A store into a register's row. -/
theorem put_sound {P : Program} {w0 : Base} {s : CS} {R : List Reg} {r ver row col b k : Nat} {o : Obj} {cs new : List IV} {us : List Value} (hi : Inv w0 s R) (hr : lv R r ver o) (hb : s.β r = some (b, k)) (hrow : o.rows[row]? = some cs)
    (hc : col + new.length ≤ cs.length) (h : RelL s (if o.box then R else []) new us) (h1 : ∀ u ∈ us, u.oneCell' = true) :
    ∃ s1 : CS, (storeCells ⟨b, row * o.sz + col, none⟩ us).run P s.w = .ok () s1.w ∧ Inv w0 s1 (setR R r ⟨ver, some { o with rows := o.rows.set row (fillRow cs col new) }⟩) ∧ Ext s R s1 (setR R r ⟨ver, some { o with rows := o.rows.set row (fillRow cs col new) }⟩) := by
  obtain ⟨k1, k2, k3, k4, k5, cur, k6, k7, k8⟩ := (RegOK.some_ hb).1 (hi.regs r ver o hr)
  have hcs : cs.length = o.sz := k5 cs (List.mem_of_getElem? hrow)
  have hlt : row < o.rows.length := (List.getElem?_eq_some_iff.1 hrow).1
  have hus : us.length = new.length := h.1.symm
  have hin : row * o.sz + col + us.length ≤ o.rows.length * o.sz := by
    calc row * o.sz + col + us.length ≤ row * o.sz + o.sz := by omega
      _ = (row + 1) * o.sz := by rw [Nat.add_mul]; omega
      _ ≤ o.rows.length * o.sz := Nat.mul_le_mul_right _ hlt
  have hcap : o.rows.length * o.sz ≤ k * o.sz := Nat.mul_le_mul_right _ k4
  have hst := run_storeCells_at (P := P) b (row * o.sz + col) o.ety us 0 cur s.w k6 (by omega) h1
  simp only [Nat.add_zero] at hst
  have hput := hi.put hr hb { o with rows := o.rows.set row (fillRow cs col new) } (cur.toList.take (row * o.sz + col) ++ us ++ cur.toList.drop (row * o.sz + col + us.length)).toArray rfl rfl rfl (by simp) (by simpa using k4)
    (fun q hq => by
      rcases List.mem_or_eq_of_mem_set hq with hq | rfl
      · exact k5 q hq
      · rw [fillRow_len hc, hcs])
    (by simp; omega)
    (by
      simp only [List.length_set]
      rw [flatten_set o.rows row cs new col k5 hrow (by omega)]
      have hfl := flatten_len o.rows k5
      have e : (cur.toList.take (row * o.sz + col) ++ us ++ cur.toList.drop (row * o.sz + col + us.length)).take (o.rows.length * o.sz) =
          (cur.toList.take (o.rows.length * o.sz)).take (row * o.sz + col) ++ us ++ (cur.toList.take (o.rows.length * o.sz)).drop (row * o.sz + col + us.length) := by
        apply List.ext_getElem?
        intro q
        simp only [List.append_assoc, List.getElem?_take, List.getElem?_append, List.getElem?_drop, List.length_take, Array.length_toList]
        have hmin : min (row * o.sz + col) cur.size = row * o.sz + col := by omega
        have hmin2 : min (row * o.sz + col) (min (o.rows.length * o.sz) cur.size) = row * o.sz + col := by omega
        rw [hmin, hmin2]
        by_cases g1 : q < o.rows.length * o.sz
        · rw [if_pos g1]
          by_cases g2 : q < row * o.sz + col
          · rw [if_pos g2, if_pos g2, if_pos g2, if_pos g2, if_pos g1]
          · rw [if_neg g2, if_neg g2]
            by_cases g3 : q - (row * o.sz + col) < us.length
            · rw [if_pos g3, if_pos g3]
            · rw [if_neg g3, if_neg g3, if_pos (by omega)]
        · rw [if_neg g1]
          have g2 : ¬ q < row * o.sz + col := by omega
          have g3 : ¬ q - (row * o.sz + col) < us.length := by omega
          rw [if_neg g2, if_neg g3, if_neg (by omega)]
      rw [e]
      have := ((k8.take (row * o.sz + col)).append h).append (k8.drop (row * o.sz + col + new.length))
      rw [hus]
      exact this)
    ver (Nat.le_refl _)
  exact ⟨_, hst, hput.1, hput.2⟩

theorem store_sound {P : Program} {w0 : Base} {s : CS} {R R1 : List Reg} {t : TypeId} {x y : IV} {a b : Value} (hi : Inv w0 s R) (hx : Rel s R x a) (hy : Rel s R y b) (h : storeI (tysOf P) t x y R = some R1) :
    ∃ s1 : CS, (Instr.storeAt t a b).run P s.w = .ok () s1.w ∧ Inv w0 s1 R1 ∧ Ext s R s1 R1 := by
  unfold storeI at h
  split at h
  · rename_i ti r ver row col hti
    obtain ⟨i, hie, hs, _, _⟩ := tys_info hti
    split at h
    · rename_i o ho
      have ho' : liveR R r ver = some o := by split at ho; exact ho; cases ho
      have hl := liveR_lv ho'
      obtain ⟨bb, k, hb, hrl, rfl⟩ := hx.pt_inv hl
      have run : ∀ w w1, b.cells.size = ti.size → (storeCells ⟨bb, row * o.sz + col, none⟩ b.cells.toList).run P w = .ok () w1 → (Instr.storeAt t (.pointer (some ⟨bb, row * o.sz + col, none⟩)) b).run P w = .ok () w1 := by
        intro w w1 h1 h2
        simp [Instr.storeAt, Instr.sureAddr, storeVar, run_sizeOf' hie, hs, h1, h2]
      split at h
      · rename_i hbx
        split at h
        · rename_i cs hcs
          split at h
          · rename_i hc
            injection h with h; subst h
            obtain ⟨r1, r2⟩ := cells_ok hy hc.2.2
            obtain ⟨s1, q1, q2, q3⟩ := put_sound (P := P) (col := col) (new := cellsI y) hi hl hb hcs (by have := hc.1; have := hc.2.1; omega) (by rw [if_pos hbx]; exact r1) r2
            exact ⟨s1, run _ _ (by have := r1.1; have := hc.1; simp at *; omega) q1, q2, q3⟩
          · cases h
        · cases h
      · rename_i hbx
        split at h
        · rename_i ys Rf hf
          obtain ⟨s1, hw1, i1, x1, r1⟩ := fz_cells hi hy hf
          split at h
          · rename_i o2 ho2
            have hl2 := liveR_lv ho2
            obtain ⟨bb2, k2, hb2, hrl2, hptr⟩ := (hx.ext x1).pt_inv hl2
            split at h
            · rename_i cs hcs
              split at h
              · rename_i hc
                injection h with h; subst h
                have hyok : ∀ u ∈ b.cells.toList, u.oneCell' = true := by
                  intro u hu
                  obtain ⟨j, hj, e⟩ := List.mem_iff_getElem.1 hu
                  have hj' : j < ys.length := by rw [r1.1]; exact hj
                  have hrel := r1.2 j _ u (List.getElem?_eq_getElem hj') (by rw [← e]; exact List.getElem?_eq_getElem hj)
                  exact okCell_one (hrel.up Rf i1.ver) (List.all_eq_true.1 hc.2.2 _ (List.getElem_mem hj'))
                have hrr : RelL s1 (if o2.box then Rf else []) ys b.cells.toList := by
                  split
                  · exact ⟨r1.1, fun j x v hx hv => (r1.2 j x v hx hv).up Rf i1.ver⟩
                  · exact r1
                obtain ⟨s2, q1, q2, q3⟩ := put_sound (P := P) (col := col) (new := ys) i1 hl2 hb2 hcs (by have := hc.1; have := hc.2.1; omega) hrr hyok
                injection hptr with hptr; injection hptr with hptr; injection hptr with p1 p2
                rw [← p1, ← p2] at q1
                exact ⟨s2, by rw [← hw1]; exact run _ _ (by have := r1.1; have := hc.1; simp at *; omega) q1, q2, x1.trans q3⟩
              · cases h
            · cases h
          · cases h
        · cases h
    · cases h
  · cases h
end Go.Iv
set_option linter.unusedVariables false
set_option linter.unusedSimpArgs false
namespace Go.Iv
open Go.RowKit

/-- What an append or a copy reads. -/
def SrcRun (P : Program) (w : World) (u : TypeId) (size bytes : Nat) (z : Value) (x : Value) (m : Nat) (news : List Value) : Prop :=
  (∃ e, P.underlying u = some (.slice e) ∧ (∀ w' : World, (Builtin.lenOf x).run P w' = .ok m w') ∧ ∀ w' : World, w'.heap = w.heap → (Builtin.firstCells size m x).run P w' = .ok news.toArray w') ∨
  (∃ k q, P.underlying u = some (.int k) ∧ x = .int q (m : Int) ∧ m * bytes ≤ 140737488355328 ∧ m ≤ 9223372036854775807 ∧ news = (Builtin.zeroCells z.cells m).toList ∧ z.cells.size = size ∧ 0 < size)

theorem append_grow {P : Program} (w : World) (t u ty e : TypeId) (i : TypeInfo) (z : Value) (ht : P.underlying t = some (.slice e)) (hi : P.info? e = some i) (hz : i.zero = some z)
    (A : Option Addr) (n cap m : Nat) (olds news : List Value) (x : Value) (hs : SrcRun P w u i.size i.bytes z x m news)
    (hold : ∀ w' : World, w'.heap = w.heap → (Builtin.firstCells i.size n (.slice A n cap)).run P w' = .ok olds.toArray w')
    (hg : cap < n + m) (h63 : n + m ≤ 9223372036854775807) (hfit : (n + m) * i.bytes ≤ 140737488355328) :
    (Builtin.append_ #[t, u] ty #[.slice A n cap, x]).run P w = .ok (.slice (some ⟨w.heap.size, 0, none⟩) (n + m) (grownCap w (n + m) cap e))
        (w.drew.alloc (.cells (olds.toArray ++ news.toArray ++ Builtin.zeroCells z.cells (grownCap w (n + m) cap e - (n + m))) e)) := by
  have hn : ¬ (n + m ≤ cap) := by omega
  have h63' : ¬ (9223372036854775807 < ((n : Int) + (m : Int))) := by omega
  have h48' : ¬ (281474976710656 < Builtin.nextslicecap (n + m) cap * i.bytes) := by have := growslice_fits hg hfit; omega
  have hfo := hold w.drew rfl
  rcases hs with ⟨e2, hu, hlen, hfc⟩ | ⟨k, q, hu, rfl, hb, hm, rfl, hzs, hpos⟩
  · have hf := hfc w.drew rfl
    simp [Builtin.append_, run_underlying ht, run_underlying hu, sizeOf, typeInfo, zeroValue, hi, hz, hlen, hn, h63', h48', Question.forced, hf, hfo, newRow, grownCap]
    congr 2
    apply Array.ext'
    simp [List.append_assoc]
  · have hw : IntKind.i64.wrap (m : Int) = (m : Int) := by rw [IntKind.wrap_i64]; omega
    have hl0 : ¬ ((m : Int) < 0) := by omega
    have hmul : (m : Int) * (i.bytes : Int) = ((m * i.bytes : Nat) : Int) := by simp
    have hl1 : ¬ (281474976710656 < (m : Int) * (i.bytes : Int)) := by rw [hmul]; omega
    by_cases hm0 : m * i.size = 0
    · have : m = 0 := by rcases Nat.mul_eq_zero.1 hm0 with h | h; exact h; omega
      subst this
      have hw0 : IntKind.i64.wrap 0 = 0 := by simpa using hw
      simp only [Nat.add_zero] at hn h63' h48'
      have hz0 : Builtin.zeroCells z.cells 0 = #[] := by simp [Builtin.zeroCells]
      simp [Builtin.append_, run_underlying ht, run_underlying hu, sizeOf, typeInfo, zeroValue, hi, hz, asInt, asIntOf, hw0, hn, h63', h48', Question.forced, hfo, newRow, grownCap, hz0]
      intro hcon
      omega
    · simp [Builtin.append_, run_underlying ht, run_underlying hu, sizeOf, typeInfo, zeroValue, hi, hz, asInt, asIntOf, hw, hl0, hl1, hm0, hn, h63', h48', Question.forced, hfo, newRow, grownCap]

/-- A room at the end, or what is written over: in place. -/
theorem append_room {P : Program} (w : World) (t u ty e : TypeId) (i : TypeInfo) (z : Value) (ht : P.underlying t = some (.slice e)) (hi : P.info? e = some i) (hz : i.zero = some z)
    (A : Option Addr) (n cap m : Nat) (news : List Value) (x : Value) (hs : SrcRun P w u i.size i.bytes z x m news) (hroom : n + m ≤ cap) :
    (Builtin.append_ #[t, u] ty #[.slice A n cap, x]).run P w = match A with
      | none => .ok (.slice none (n + m) cap) w
      | some a => ((storeCells (a.add (n * i.size)) news).run P w).andThen fun _ w' => .ok (.slice (some a) (n + m) cap) w' := by
  rcases hs with ⟨e2, hu, hlen, hfc⟩ | ⟨k, q, hu, rfl, hb, hm, rfl, hzs, hpos⟩
  · have hf := hfc w rfl
    cases A with
    | none => simp [Builtin.append_, run_underlying ht, run_underlying hu, sizeOf, typeInfo, zeroValue, hi, hz, hlen, hroom, hf]
    | some a => simp [Builtin.append_, run_underlying ht, run_underlying hu, sizeOf, typeInfo, zeroValue, hi, hz, hlen, hroom, hf]
  · have hw : IntKind.i64.wrap (m : Int) = (m : Int) := by rw [IntKind.wrap_i64]; omega
    have hl0 : ¬ ((m : Int) < 0) := by omega
    have hmul : (m : Int) * (i.bytes : Int) = ((m * i.bytes : Nat) : Int) := by simp
    have hl1 : ¬ (281474976710656 < (m : Int) * (i.bytes : Int)) := by rw [hmul]; omega
    by_cases hm0 : m * i.size = 0
    · have : m = 0 := by rcases Nat.mul_eq_zero.1 hm0 with h | h; exact h; omega
      subst this
      have hw0 : IntKind.i64.wrap 0 = 0 := by simpa using hw
      simp only [Nat.add_zero] at hroom
      have hz0 : Builtin.zeroCells z.cells 0 = #[] := by simp [Builtin.zeroCells]
      cases A with
      | none => simp [Builtin.append_, run_underlying ht, run_underlying hu, sizeOf, typeInfo, zeroValue, hi, hz, asInt, asIntOf, hw0, hroom, hz0]
      | some a => simp [Builtin.append_, run_underlying ht, run_underlying hu, sizeOf, typeInfo, zeroValue, hi, hz, asInt, asIntOf, hw0, hroom, hz0]
    · cases A with
      | none => simp [Builtin.append_, run_underlying ht, run_underlying hu, sizeOf, typeInfo, zeroValue, hi, hz, asInt, asIntOf, hw, hl0, hl1, hm0, hroom]
      | some a => simp [Builtin.append_, run_underlying ht, run_underlying hu, sizeOf, typeInfo, zeroValue, hi, hz, asInt, asIntOf, hw, hl0, hl1, hm0, hroom]

/-- The rows that are read, with their cells. -/
theorem src_sound {P : Program} {w0 : Base} {s : CS} {R : List Reg} {x : IV} {a : Value} {rows : List (List IV)} {sz : Nat} (hi : Inv w0 s R) (hx : Rel s R x a) (h : srcI x R = some rows) (hl : allLen sz rows = true) :
    ∃ news : List Value, RelL s [] rows.flatten news ∧ news.length = rows.length * sz ∧ (∃ A c, a = .slice A rows.length c ∧ (∀ w', (Builtin.lenOf a).run P w' = .ok rows.length w') ∧
      ∀ w' : World, w'.heap = s.w.heap → ∀ n, n ≤ rows.length → (Builtin.firstCells sz n a).run P w' = .ok (news.take (n * sz)).toArray w') := by
  have none_case : ∀ (A : Option Addr) (c : Nat), rows = [] → a = .slice A 0 c → ∃ news : List Value, RelL s [] rows.flatten news ∧ news.length = rows.length * sz ∧ (∃ A c, a = .slice A rows.length c ∧ (∀ w', (Builtin.lenOf a).run P w' = .ok rows.length w') ∧
      ∀ w' : World, w'.heap = s.w.heap → ∀ n, n ≤ rows.length → (Builtin.firstCells sz n a).run P w' = .ok (news.take (n * sz)).toArray w') := by
    intro A c hr ha
    subst hr; subst ha
    refine ⟨[], RelL.nil _ _, by simp, A, c, rfl, fun w' => rfl, fun w' _ n hn => ?_⟩
    obtain rfl : n = 0 := by simpa using hn
    cases A <;> simp [Builtin.firstCells, loadCells, loadCellsFrom]
  have cells_case : ∀ (b off c : Nat) (f : Nat → Value), a = .slice (some ⟨b, off, none⟩) rows.length c → (∀ i j, i < rows.length → j < sz → s.w.cell? ⟨b, off + (i * sz + j), none⟩ = some (f (i * sz + j))) →
      (∀ i j x, rowAt rows i j = some x → Rel s [] x (f (i * sz + j))) → (∀ row ∈ rows, row.length = sz) → ∃ news : List Value, RelL s [] rows.flatten news ∧ news.length = rows.length * sz ∧ (∃ A c, a = .slice A rows.length c ∧ (∀ w', (Builtin.lenOf a).run P w' = .ok rows.length w') ∧
      ∀ w' : World, w'.heap = s.w.heap → ∀ n, n ≤ rows.length → (Builtin.firstCells sz n a).run P w' = .ok (news.take (n * sz)).toArray w') := by
    intro b off c f ha hc hr hrows
    subst ha
    have hfl := flatten_len rows hrows
    have split : ∀ q, q < rows.length * sz → ∃ i j, q = i * sz + j ∧ i < rows.length ∧ j < sz := by
      intro q hq
      have hsz : 0 < sz := by rcases Nat.eq_zero_or_pos sz with h0 | h0; · subst h0; omega
                              · exact h0
      exact ⟨q / sz, q % sz, by rw [Nat.mul_comm]; exact (Nat.div_add_mod q sz).symm, (Nat.div_lt_iff_lt_mul hsz).2 hq, Nat.mod_lt _ hsz⟩
    refine ⟨(List.range (rows.length * sz)).map f, ⟨by rw [hfl]; simp, fun q x v hx hv => ?_⟩, by simp, some ⟨b, off, none⟩, c, rfl, fun w' => rfl, fun w' hw n hn => ?_⟩
    · have hq : q < rows.length * sz := by rw [← hfl]; exact (List.getElem?_eq_some_iff.1 hx).1
      obtain ⟨i, j, rfl, hi', hj⟩ := split q hq
      have hrow : rows[i]? = some rows[i] := List.getElem?_eq_getElem hi'
      have hcs : rows[i][j]? = some (rows[i][j]'(by rw [hrows _ (List.getElem_mem hi')]; exact hj)) := List.getElem?_eq_getElem _
      have hf := flatten_get rows i j _ _ hrows hrow hcs
      rw [hf] at hx
      injection hx with hx
      subst hx
      simp [hq] at hv
      subst hv
      exact hr i j _ (by unfold rowAt; rw [hrow]; exact hcs)
    · have hlr := run_loadCells (P := P) w' ⟨b, off, none⟩ (n * sz) f (fun q hq => by
        have hq' : q < rows.length * sz := Nat.lt_of_lt_of_le hq (Nat.mul_le_mul_right _ hn)
        obtain ⟨i, j, rfl, hi', hj⟩ := split q hq'
        rw [plain_add]
        have := hc i j hi' hj
        unfold World.cell? at this ⊢
        rw [hw]
        exact this)
      simp only [Builtin.firstCells, hlr]
      congr 2
      rw [← List.map_take, List.take_range, Nat.min_eq_left (Nat.mul_le_mul_right _ hn)]
  unfold srcI at h
  split at h
  · rename_i nl rows'
    injection h with h; subst h
    cases hx with
    | slN => exact none_case none 0 rfl rfl
    | slE _ _ b c => exact none_case (some b) c rfl rfl
    | sl _ _ _ b off cap sz' c h1 h2 h3 h4 h5 h6 =>
      by_cases hne : rows' = []
      · subst hne; exact none_case _ _ rfl rfl
      · have : sz' = sz := by
          obtain ⟨row, hrow⟩ := List.exists_mem_of_ne_nil _ hne
          have := List.all_eq_true.1 hl row hrow
          rw [← h4 row hrow]; simpa using this
        subst this
        refine cells_case b off cap (fun q => (s.w.cell? ⟨b, off + q, none⟩).getD undef) rfl (fun i j hi' hj => ?_) (fun i j x hx => ?_) h4
        · rw [h5 i j hi' hj]; rfl
        · have hx' := hx
          unfold rowAt at hx'
          cases hrow : rows'[i]? with
          | none => rw [hrow] at hx'; cases hx'
          | some cs =>
            rw [hrow] at hx'
            have hi' := (List.getElem?_eq_some_iff.1 hrow).1
            have hj := (List.getElem?_eq_some_iff.1 (show cs[j]? = some x from hx')).1
            rw [h4 cs (List.mem_of_getElem? hrow)] at hj
            rw [h5 i j hi' hj]
            exact h6 i j x hx
  · injection h with h; subst h
    cases hx with
    | seN => exact none_case none 0 rfl rfl
    | seE _ b => exact none_case (some b) 0 rfl rfl
  · rename_i r ver off len
    split at h
    · rename_i o ho
      split at h
      · cases h
      · rename_i hbx
        injection h with h; subst h
        have hbx' : o.box = false := by simpa using hbx
        rcases hx.rf_inv (liveR_lv ho) with ⟨hbn, rfl, rfl, A, rfl⟩ | ⟨b, k, hb, hlen, rfl⟩
        · exact none_case A 0 (by simp) rfl
        · have hl2 : ((o.rows.drop off).take len).length = len := by simp; omega
          obtain ⟨k1, k2, k3, k4, k5, cur, k6, k7, k8⟩ := (RegOK.some_ hb).1 (hi.regs r ver o (liveR_lv ho))
          by_cases hne : (o.rows.drop off).take len = []
          · have : len = 0 := by rw [← hl2, hne]; rfl
            subst this
            exact none_case _ _ hne rfl
          · have hszo : o.sz = sz := by
              obtain ⟨row, hrow⟩ := List.exists_mem_of_ne_nil _ hne
              have := List.all_eq_true.1 hl row hrow
              rw [← k5 row (List.mem_of_mem_drop (List.mem_of_mem_take hrow))]; simpa using this
            have rowget : ∀ i, i < len → ((o.rows.drop off).take len)[i]? = o.rows[off + i]? := by
              intro i hi; rw [List.getElem?_take, if_pos hi, List.getElem?_drop]
            refine cells_case b (off * o.sz) (k - off) (fun q => (s.w.cell? ⟨b, off * o.sz + q, none⟩).getD undef) (by rw [hl2]) (fun i j hi' hj => ?_) (fun i j x hx => ?_) (fun row hrow => by rw [← hszo]; exact k5 row (List.mem_of_mem_drop (List.mem_of_mem_take hrow)))
            · rw [hl2] at hi'
              have hrow : o.rows[off + i]? = some (o.rows[off + i]'(by omega)) := List.getElem?_eq_getElem (by omega)
              have hcs : (o.rows[off + i]'(by omega))[j]? = some ((o.rows[off + i]'(by omega))[j]'(by rw [k5 _ (List.getElem_mem _), hszo]; exact hj)) := List.getElem?_eq_getElem _
              obtain ⟨uu, hu, _⟩ := reg_cell hi (liveR_lv ho) hb hrow hcs
              rw [show off * o.sz + (i * sz + j) = (off + i) * o.sz + j by rw [Nat.add_mul, hszo]; omega, hu]; rfl
            · have hx' := hx
              unfold rowAt at hx'
              by_cases hil : i < len
              · rw [rowget i hil] at hx'
                cases hrow : o.rows[off + i]? with
                | none => rw [hrow] at hx'; cases hx'
                | some cs =>
                  rw [hrow] at hx'
                  obtain ⟨uu, hu, hrel, _⟩ := reg_cell hi (liveR_lv ho) hb hrow (show cs[j]? = some x from hx')
                  rw [hbx'] at hrel
                  rw [show off * o.sz + (i * sz + j) = (off + i) * o.sz + j by rw [Nat.add_mul, hszo]; omega, hu]
                  exact hrel
              · rw [List.getElem?_eq_none (by rw [hl2]; omega)] at hx'; cases hx'
    · cases h
  · cases h
end Go.Iv
set_option linter.unusedVariables false
set_option linter.unusedSimpArgs false
namespace Go.Iv
open Go.RowKit

theorem okRows_len {sz : Nat} {rows : List (List IV)} (h : okRows sz rows = true) : allLen sz rows = true := by
  unfold okRows at h; unfold allLen
  rw [List.all_eq_true] at h ⊢
  intro r hr
  have := h r hr
  rw [Bool.and_eq_true] at this
  exact this.1
theorem allLen_mem {sz : Nat} {rows : List (List IV)} (h : allLen sz rows = true) : ∀ row ∈ rows, row.length = sz := by
  intro row hr
  have := List.all_eq_true.1 h row hr
  simpa using this
theorem okRows_one {s : CS} {sz : Nat} {rows : List (List IV)} {vs : List Value} (h : RelL s [] rows.flatten vs) (hok : okRows sz rows = true) : ∀ u ∈ vs, u.oneCell' = true := by
  intro u hu
  obtain ⟨j, hj, e⟩ := List.mem_iff_getElem.1 hu
  have hj' : j < rows.flatten.length := by rw [h.1]; exact hj
  have hrel := h.2 j _ u (List.getElem?_eq_getElem hj') (by rw [← e]; exact List.getElem?_eq_getElem hj)
  obtain ⟨row, hrow, hx⟩ := List.mem_flatten.1 (List.getElem_mem hj')
  have := List.all_eq_true.1 hok row hrow
  rw [Bool.and_eq_true] at this
  exact okCell_one hrel (List.all_eq_true.1 this.2 _ hx)

theorem take_cells (olds news zs : List Value) : (olds.toArray ++ news.toArray ++ zs.toArray).toList.take (olds.length + news.length) = olds ++ news := by
  have : (olds.toArray ++ news.toArray ++ zs.toArray).toList = (olds ++ news) ++ zs := by simp
  rw [this, ← List.length_append, List.take_left]

theorem flat_take (sz : Nat) (rows : List (List IV)) (hs : ∀ row ∈ rows, row.length = sz) (q : Nat) (hq : q ≤ rows.length) : (rows.take q).flatten = rows.flatten.take (q * sz) := by
  have h1 : rows.flatten = (rows.take q).flatten ++ (rows.drop q).flatten := by rw [← List.flatten_append, List.take_append_drop]
  have h2 := flatten_len (rows.take q) (fun r hr => hs r (List.mem_of_mem_take hr))
  have h3 : (rows.take q).flatten.length = q * sz := by rw [h2]; simp; congr 1; omega
  rw [h1, ← h3, List.take_left]
theorem flat_drop (sz : Nat) (rows : List (List IV)) (hs : ∀ row ∈ rows, row.length = sz) (q : Nat) : (rows.drop q).flatten = rows.flatten.drop (q * sz) := by
  by_cases hq : q ≤ rows.length
  · have h1 : rows.flatten = (rows.take q).flatten ++ (rows.drop q).flatten := by rw [← List.flatten_append, List.take_append_drop]
    have h2 := flatten_len (rows.take q) (fun r hr => hs r (List.mem_of_mem_take hr))
    have h3 : (rows.take q).flatten.length = q * sz := by rw [h2]; simp; congr 1; omega
    rw [h1, ← h3, List.drop_left]
  · rw [List.drop_eq_nil_of_le (by omega), List.drop_eq_nil_of_le]
    · rfl
    · rw [flatten_len rows hs]; exact Nat.mul_le_mul_right _ (by omega)

/-- Rows are written where a register's rows lie, or right behind them. -/
theorem putRows {P : Program} {w0 : Base} {s : CS} {R : List Reg} {r ver b k q : Nat} {o : Obj} {new : List (List IV)} {us : List Value} (hi : Inv w0 s R) (hr : lv R r ver o) (hbx : o.box = false) (hb : s.β r = some (b, k))
    (hq : q ≤ o.rows.length) (hm : q + new.length ≤ k) (hor : q = o.rows.length ∨ q + new.length ≤ o.rows.length) (hnew : ∀ row ∈ new, row.length = o.sz) (h : RelL s [] new.flatten us) (h1 : ∀ u ∈ us, u.oneCell' = true) (ver' : Nat) (hver : ver ≤ ver') :
    ∃ s1 : CS, (storeCells ⟨b, q * o.sz, none⟩ us).run P s.w = .ok () s1.w ∧ s1.β = s.β ∧ Inv w0 s1 (setR R r ⟨ver', some { o with rows := o.rows.take q ++ new ++ o.rows.drop (q + new.length) }⟩) ∧ Ext s R s1 (setR R r ⟨ver', some { o with rows := o.rows.take q ++ new ++ o.rows.drop (q + new.length) }⟩) := by
  obtain ⟨k1, k2, k3, k4, k5, cur, k6, k7, k8⟩ := (RegOK.some_ hb).1 (hi.regs r ver o hr)
  rw [hbx] at k8
  have hus : us.length = new.length * o.sz := by rw [← h.1, flatten_len new hnew]
  have hin : q * o.sz + us.length ≤ cur.size := by rw [hus, k7, ← Nat.add_mul]; exact Nat.mul_le_mul_right _ hm
  have hst := run_storeCells_at (P := P) b (q * o.sz) o.ety us 0 cur s.w k6 (by omega) h1
  simp only [Nat.add_zero] at hst
  have hlen : (o.rows.take q ++ new ++ o.rows.drop (q + new.length)).length = q + new.length + (o.rows.length - (q + new.length)) := by simp; omega
  have hput := hi.put hr hb { o with rows := o.rows.take q ++ new ++ o.rows.drop (q + new.length) } (cur.toList.take (q * o.sz) ++ us ++ cur.toList.drop (q * o.sz + us.length)).toArray rfl rfl rfl
    (by rw [hlen]; rcases hor with h | h <;> omega) (by rw [hlen]; rcases hor with h | h <;> omega)
    (fun row hrow => by
      simp only [List.mem_append] at hrow
      rcases hrow with (hrow | hrow) | hrow
      · exact k5 row (List.mem_of_mem_take hrow)
      · exact hnew row hrow
      · exact k5 row (List.mem_of_mem_drop hrow))
    (by simp; omega)
    (by
      rw [hbx]
      simp only [Bool.false_eq_true, if_false]
      rw [List.flatten_append, List.flatten_append, flat_take o.sz o.rows k5 q hq, flat_drop o.sz o.rows k5]
      have e : (cur.toList.take (q * o.sz) ++ us ++ cur.toList.drop (q * o.sz + us.length)).take ((o.rows.take q ++ new ++ o.rows.drop (q + new.length)).length * o.sz) =
          (cur.toList.take (o.rows.length * o.sz)).take (q * o.sz) ++ us ++ (cur.toList.take (o.rows.length * o.sz)).drop ((q + new.length) * o.sz) := by
        rw [hlen]
        have hq' : q * o.sz ≤ o.rows.length * o.sz := Nat.mul_le_mul_right _ hq
        have hk' : o.rows.length * o.sz ≤ cur.size := by rw [k7]; exact Nat.mul_le_mul_right _ k4
        have hqm : (q + new.length) * o.sz = q * o.sz + us.length := by rw [Nat.add_mul, hus]
        rw [hqm]
        rcases hor with hqe | hle
        · have h0 : o.rows.length - (q + new.length) = 0 := by omega
          rw [h0, Nat.add_zero, hqm, ← hqe]
          have hmin : (cur.toList.take (q * o.sz) ++ us).length = q * o.sz + us.length := by simp; omega
          rw [← hmin, List.take_left, hmin]
          rw [List.take_take, Nat.min_self, List.drop_eq_nil_of_le (by simp; omega), List.append_nil]
        · have h0 : q + new.length + (o.rows.length - (q + new.length)) = o.rows.length := by omega
          have hle' : q * o.sz + us.length ≤ o.rows.length * o.sz := by rw [← hqm]; exact Nat.mul_le_mul_right _ hle
          rw [h0]
          apply List.ext_getElem?
          intro j
          simp only [List.append_assoc, List.getElem?_take, List.getElem?_append, List.getElem?_drop, List.length_take, Array.length_toList]
          have hmin : min (q * o.sz) cur.size = q * o.sz := by omega
          have hmin2 : min (q * o.sz) (min (o.rows.length * o.sz) cur.size) = q * o.sz := by omega
          rw [hmin, hmin2]
          by_cases g1 : j < o.rows.length * o.sz
          · rw [if_pos g1]
            by_cases g2 : j < q * o.sz
            · rw [if_pos g2, if_pos g2, if_pos g2, if_pos g2, if_pos g1]
            · rw [if_neg g2, if_neg g2]
              by_cases g3 : j - q * o.sz < us.length
              · rw [if_pos g3, if_pos g3]
              · rw [if_neg g3, if_neg g3, if_pos (by omega)]
          · rw [if_neg g1]
            have g2 : ¬ j < q * o.sz := by omega
            have g3 : ¬ j - q * o.sz < us.length := by omega
            rw [if_neg g2, if_neg g3, if_neg (by omega)]
      rw [e]
      exact ((k8.take _).append h).append (k8.drop _))
    ver' hver
  exact ⟨⟨_, s.F, s.β⟩, hst, rfl, hput.1, hput.2⟩

theorem rf0 {s : CS} {R : List Reg} {r ver len b k : Nat} {o : Obj} (h : lv R r ver o) (hb : s.β r = some (b, k)) (hl : len ≤ o.rows.length) : Rel s R (.rf r ver 0 len) (.slice (some ⟨b, 0, none⟩) len k) := by
  have := Rel.rf (s := s) R r ver o 0 len b k h hb (by omega)
  simpa using this

theorem room_le {ti : TI} {n : Nat} (h : room ti n = true) : n * ti.bytes ≤ 140737488355328 := by simpa [room] using h

theorem srcRun_of {P : Program} {w0 : Base} {s : CS} {R : List Reg} {e u : TypeId} {ei : TI} {i : TypeInfo} {z : Value} {x : IV} {a : Value} {rows : List (List IV)} (hi : Inv w0 s R) (hx : Rel s R x a) (hei : (tysOf P)[e]? = some ei)
    (hs : i.size = ei.size) (hb : i.bytes = ei.bytes) (hzero : ei.zero = z.cells.toList.map ofV0) (h0 : 0 < ei.size)
    (h : (match tyK (tysOf P) u with
        | .int _ => match natI x with | some n => if room ei n ∧ ei.zero.length = ei.size ∧ n ≤ 9223372036854775807 then some (List.replicate n ei.zero) else none | none => none
        | .slice _ => srcI x R
        | _ => none) = some rows) (hok : okRows ei.size rows = true) :
    ∃ news : List Value, RelL s [] rows.flatten news ∧ news.length = rows.length * ei.size ∧ SrcRun P s.w u i.size i.bytes z a rows.length news := by
  split at h
  · rename_i k hk
    have hu : P.underlying u = some (.int k) := under_of hk
    split at h
    · rename_i n hn
      split at h
      · rename_i hc
        injection h with h; subst h
        obtain ⟨q, rfl⟩ := nat_inv hx hn
        have hzs : z.cells.size = ei.size := by rw [← hc.2.1, hzero]; simp
        have hzz : (Builtin.zeroCells z.cells n).toList = (madeCells z.cells (n * ei.size)).toList := by simp [Builtin.zeroCells, madeCells, hzs]
        refine ⟨(Builtin.zeroCells z.cells n).toList, ?_, ?_, .inr ⟨k, q, hu, by simp, ?_, by simpa using hc.2.2, by simp, by rw [hzs, hs], by rw [hs]; exact h0⟩⟩
        · rw [hzz]; exact replicate_flat hzero hc.2.1 h0
        · rw [hzz]; simp [madeCells]
        · have := room_le hc.1; rw [hb]; simpa using this
      · cases h
    · cases h
  · rename_i e2 hk
    have hu : P.underlying u = some (.slice e2) := under_of hk
    obtain ⟨news, h1, h2, A, c, ha, hlen, hfc⟩ := src_sound (P := P) hi hx h (okRows_len hok)
    refine ⟨news, h1, h2, .inl ⟨e2, hu, hlen, fun w' hw => ?_⟩⟩
    have := hfc w' hw rows.length (Nat.le_refl _)
    rw [hs, this, ← h2, List.take_length]
  · cases h

/-- A row appended to a base of no capacity. -/
theorem append_fresh {P : Program} {w0 : Base} {s : CS} {R : List Reg} {t u ty e : TypeId} {ei : TI} {i : TypeInfo} {z : Value} {x : Value} {A : Option Addr} {rows : List (List IV)} {news : List Value} (hi : Inv w0 s R)
    (ht : P.underlying t = some (.slice e)) (hie : P.info? e = some i) (hiz : i.zero = some z) (hs : i.size = ei.size) (hb : i.bytes = ei.bytes) (hzs : z.cells.size = ei.size)
    (h1 : RelL s [] rows.flatten news) (h2 : news.length = rows.length * ei.size) (hsrc : SrcRun P s.w u i.size i.bytes z x rows.length news) (hrows : ∀ row ∈ rows, row.length = ei.size) (hroom : rows.length * ei.bytes ≤ 140737488355328) (h63 : rows.length ≤ 4611686018427387904) :
    (rows = [] ∧ (Builtin.append_ #[t, u] ty #[.slice A 0 0, x]).run P s.w = .ok (.slice A 0 0) s.w) ∨
    (rows ≠ [] ∧ ∃ k w1 c, (Builtin.append_ #[t, u] ty #[.slice A 0 0, x]).run P s.w = .ok (.slice (some ⟨s.w.heap.size, 0, none⟩) rows.length k) w1 ∧ Below s.w.heap.size s.w w1 ∧ w1.heap.size = s.w.heap.size + 1 ∧ w1.heap[s.w.heap.size]? = some (.cells c e (0, 0)) ∧ c.size = k * ei.size ∧ rows.length ≤ k ∧ k ≤ maxLen ∧
      c.toList.take (rows.length * ei.size) = news) := by
  by_cases hne : rows = []
  · left
    refine ⟨hne, ?_⟩
    subst hne
    have hn : news = [] := List.eq_nil_of_length_eq_zero (by rw [h2]; simp)
    subst hn
    rw [append_room s.w t u ty e i z ht hie hiz A 0 0 0 [] x hsrc (Nat.le_refl _)]
    cases A with
    | none => rfl
    | some a => simp [storeCells]
  · right
    have hpos : 0 < rows.length := List.length_pos_iff.2 hne
    refine ⟨hne, ?_⟩
    have hr := append_grow s.w t u ty e i z ht hie hiz A 0 0 rows.length [] news x hsrc (fun w' _ => by cases A <;> simp [Builtin.firstCells, loadCells, loadCellsFrom]) (by omega) (by omega) (by rw [hb]; simpa using hroom)
    simp only [Nat.zero_add] at hr
    have hge := grownCap_ge s.w rows.length 0 e
    have hle := grownCap_le_maxLen s.w rows.length 0 e (by unfold maxLen; omega)
    refine ⟨_, _, _, hr, ((Below.refl _ _).drew).alloc (by simp) _, by simp, by simpa using heap_alloc_new s.w.drew _, ?_, hge, hle, ?_⟩
    · simp only [Array.size_append, List.size_toArray, List.length_nil, Nat.zero_add, size_zeroCells, hzs, h2, ← Nat.add_mul]
      congr 1
      omega
    · rw [← h2]
      simp

theorem append_sound {P : Program} {w0 : Base} {s : CS} {R R1 : List Reg} {an : An} {t u ty : TypeId} {x y v : IV} {a b : Value} (hi : Inv w0 s R) (hx : Rel s R x a) (hy : Rel s R y b) (h : appendI (tysOf P) an t u x y R = some (v, R1)) :
    ∃ z s1, (Builtin.append_ #[t, u] ty #[a, b]).run P s.w = .ok z s1.w ∧ Inv w0 s1 R1 ∧ Ext s R s1 R1 ∧ Rel s1 R1 v z := by
  unfold appendI at h
  split at h
  · rename_i e hk
    have ht : P.underlying t = some (.slice e) := under_of hk
    split at h
    · rename_i ei hei
      dsimp only at h
      split at h
      · rename_i rows hrows
        split at hrows
        · rename_i rows' hnew
          split at hrows
          · rename_i hc
            injection hrows with hrows; subst hrows
            obtain ⟨hok, h0, hzl, hby, h63⟩ := hc
            have hzne : ei.zero.isEmpty = false := by
              cases hq : ei.zero with
              | nil => rw [hq] at hzl; simp at hzl; omega
              | cons => rfl
            obtain ⟨i, z, hie, hiz, hs, hb, hzero⟩ := zero_of hei hzne
            obtain ⟨news, n1, n2, hsrc⟩ := srcRun_of hi hy hei hs hb hzero h0 hnew hok
            have hrl := allLen_mem (okRows_len hok)
            have hone := okRows_one n1 hok
            -- a base of no capacity
            have fresh : ∀ A, a = .slice A 0 0 → rows'.length * ei.bytes ≤ 140737488355328 → ∀ (hzs : z.cells.size = ei.size),
                (∀ r, ∃ z s1, (Builtin.append_ #[t, u] ty #[a, b]).run P s.w = .ok z s1.w ∧ Inv w0 s1 (newR R r { box := false, ety := e, sz := ei.size, rows := rows' }) ∧ Ext s R s1 (newR R r { box := false, ety := e, sz := ei.size, rows := rows' }) ∧
                  Rel s1 (newR R r { box := false, ety := e, sz := ei.size, rows := rows' }) (.rf r (verR R r) 0 rows'.length) z) ∧
                (∃ z s1, (Builtin.append_ #[t, u] ty #[a, b]).run P s.w = .ok z s1.w ∧ Inv w0 s1 R ∧ Ext s R s1 R ∧ Rel s1 R (.sl none rows') z) := by
              intro A ha hroom hzs
              subst ha
              rcases append_fresh (ty := ty) (A := A) hi ht hie hiz hs hb hzs n1 n2 hsrc hrl hroom h63 with ⟨he, hr⟩ | ⟨hne, k, w1, c, hr, hbel, hsz, hblk, hcs, hk1, hk2, htk⟩
              · refine ⟨fun r => ?_, ?_⟩
                · have T1 := hi.take r { box := false, ety := e, sz := ei.size, rows := rows' } s.w none (Below.refl _ _) (fun _ _ hn => by cases hn) (fun _ => ⟨he, rfl⟩)
                  refine ⟨_, ⟨s.w, s.F, upd s.β r none⟩, hr, T1.1, T1.2, ?_⟩
                  have := Rel.rfN (s := ⟨s.w, s.F, upd s.β r none⟩) (newR R r { box := false, ety := e, sz := ei.size, rows := rows' }) r (verR R r) _ A (lv_new _ _ _) (upd_same _ _ _)
                  rw [he] at this ⊢
                  exact this
                · refine ⟨_, s, hr, hi, Ext.refl _ _, ?_⟩
                  rw [he]
                  cases A with
                  | none => exact .slN _ _ (by simp)
                  | some a => exact .slE _ _ _ _ (by simp)
              · refine ⟨fun r => ?_, ?_⟩
                · have T1 := hi.take r { box := false, ety := e, sz := ei.size, rows := rows' } w1 (some (s.w.heap.size, k)) hbel
                    (fun b k' hbk => by
                      injection hbk with hbk; injection hbk with q1 q2; subst q1; subst q2
                      refine ⟨Nat.le_refl _, hk2, hk1, hrl, c, hblk, hcs, ?_⟩
                      simp only [Bool.false_eq_true, if_false]
                      rw [htk]; exact n1)
                    (fun hn => by cases hn)
                  refine ⟨_, ⟨w1, s.F, upd s.β r (some (s.w.heap.size, k))⟩, hr, T1.1, T1.2, ?_⟩
                  have := Rel.rf (s := ⟨w1, s.F, upd s.β r (some (s.w.heap.size, k))⟩) (newR R r { box := false, ety := e, sz := ei.size, rows := rows' }) r (verR R r) _ 0 rows'.length s.w.heap.size k (lv_new _ _ _) (upd_same _ _ _) (by simp)
                  simpa using this
                · have e1 : Ext s R ⟨w1, fun q => s.F q ∨ q = s.w.heap.size, s.β⟩ R := ⟨fun q hq => .inl hq, fun q hq => hbel.block q (hi.hF q hq), fun q => RegExt.refl _ _⟩
                  have i1 : Inv w0 ⟨w1, fun q => s.F q ∨ q = s.w.heap.size, s.β⟩ R := by
                    refine ⟨hi.below.trans (hbel.mono hi.below.size), fun q hq => (by rcases hq with hq | hq; exact hi.fg q hq; right; rw [hq]; exact hi.below.size), fun q hq => ?_, fun q ver o hq => hi.other e1 hq rfl (fun b2 k2 hb2 => ⟨hbel.block _ (hi.blk_lt hq hb2).1, ?_⟩), hi.inj, hi.ver, hi.keepP hbel⟩
                    · rcases hq with hq | hq
                      · have := hi.hF q hq; show q < w1.heap.size; omega
                      · show q < w1.heap.size; omega
                    · rintro (hF | hF)
                      · exact (hi.blk_lt hq hb2).2.1 hF
                      · have := (hi.blk_lt hq hb2).1; omega
                  refine ⟨_, _, hr, i1, e1, ?_⟩
                  have hfl := flatten_len rows' hrl
                  refine .sl _ _ _ _ _ _ ei.size (fun i j => (c[i * ei.size + j]?).getD undef) (by simp) (.inr rfl) hk1 hrl (fun i j hi' hj => ?_) (fun i j x hx => ?_)
                  · have : i * ei.size + j < c.size := by
                      rw [hcs]
                      calc i * ei.size + j < i * ei.size + ei.size := by omega
                        _ = (i + 1) * ei.size := by rw [Nat.add_mul]; omega
                        _ ≤ k * ei.size := Nat.mul_le_mul_right _ (by omega)
                    simp [World.cell?, hblk, this]
                  · unfold rowAt at hx
                    cases hrow : rows'[i]? with
                    | none => rw [hrow] at hx; cases hx
                    | some cs =>
                      rw [hrow] at hx
                      have hf := flatten_get rows' i j cs x hrl hrow hx
                      have hlt : i * ei.size + j < rows'.length * ei.size := by rw [← hfl]; exact (List.getElem?_eq_some_iff.1 hf).1
                      have hle : rows'.length * ei.size ≤ c.size := by rw [hcs]; exact Nat.mul_le_mul_right _ hk1
                      have hcell : news[i * ei.size + j]? = some (c[i * ei.size + j]'(by omega)) := by
                        rw [← htk, List.getElem?_take, if_pos hlt]; simp
                      have := (n1.2 _ x _ hf hcell).ext e1.nil
                      have hlt2 : i * ei.size + j < c.size := by omega
                      simpa [hlt2] using this
            have hzs : z.cells.size = ei.size := by rw [← hzl, hzero]; simp
            split at h
            · -- nil
              split at h
              · rename_i hroom
                have ha : a = .slice none 0 0 := by cases hx with
                  | slN => rfl
                  | slE _ _ _ _ hn => simp at hn
                  | sl _ _ _ _ _ _ _ _ hn => simp at hn
                obtain ⟨f1, f2⟩ := fresh none ha (room_le hroom) hzs
                split at h
                · injection h with h; injection h with e1 e2; subst e1; subst e2
                  exact f1 _
                · injection h with h; injection h with e1 e2; subst e1; subst e2
                  exact f2
              · cases h
            · -- of no capacity
              split at h
              · rename_i hroom
                have ha : ∃ A, a = .slice A 0 0 := by cases hx <;> exact ⟨_, rfl⟩
                obtain ⟨A, ha⟩ := ha
                obtain ⟨f1, f2⟩ := fresh A ha (room_le hroom) hzs
                split at h
                · injection h with h; injection h with e1 e2; subst e1; subst e2
                  exact f1 _
                · injection h with h; injection h with e1 e2; subst e1; subst e2
                  exact f2
              · cases h
            · -- in a register
              rename_i r ver off len
              split at h
              · rename_i o ho
                have hl := liveR_lv ho
                split at h
                · cases h
                · rename_i hcnd
                  rw [not_or, not_or] at hcnd
                  have hbx : o.box = false := by simpa using hcnd.1
                  have hety : o.ety = e := by simpa using hcnd.2.1
                  have hosz : o.sz = ei.size := by simpa using hcnd.2.2
                  rcases hx.rf_inv hl with ⟨hbn, h01, h02, A, ha⟩ | ⟨bb, k, hbb, hlen, ha⟩
                  · -- no block yet
                    have hrows0 : o.rows = [] := ((RegOK.none_ hbn).1 (hi.regs r ver o hl)).1
                    subst h01; subst h02
                    have hcond : 0 + 0 = o.rows.length ∧ 0 = 0 := by rw [hrows0]; exact ⟨rfl, rfl⟩
                    rw [if_pos hcond] at h
                    split at h
                    · rename_i hroom
                      injection h with h; injection h with e1 e2; subst e1; subst e2
                      rw [Nat.zero_add] at hroom
                      obtain ⟨f1, f2⟩ := fresh A ha (room_le hroom) hzs
                      have ho' : ({ o with rows := o.rows ++ rows' } : Obj) = { box := false, ety := e, sz := ei.size, rows := rows' } := by rw [hrows0, ← hety, ← hosz, ← hbx]; rfl
                      rw [ho', Nat.zero_add]
                      exact f1 r
                    · cases h
                  · subst ha
                    obtain ⟨k1, k2, k3, k4, k5, cur, k6, k7, k8⟩ := (RegOK.some_ hbb).1 (hi.regs r ver o hl)
                    rw [hbx] at k8
                    have hrl' : ∀ row ∈ rows', row.length = o.sz := fun row hr => by rw [hosz]; exact hrl row hr
                    split at h
                    · rename_i hext
                      obtain ⟨hx1, hx2⟩ := hext
                      subst hx2
                      have hlen' : len = o.rows.length := by omega
                      split at h
                      · rename_i hroom
                        injection h with h; injection h with e1 e2; subst e1; subst e2
                        have hro := room_le hroom
                        have hsum : len + rows'.length ≤ 140737488355328 := Nat.le_trans (Nat.le_mul_of_pos_right _ hby) hro
                        by_cases hk : len + rows'.length ≤ k
                        · -- room
                          obtain ⟨s1, q1, qb, q2, q3⟩ := putRows (P := P) (q := len) (new := rows') hi hl hbx hbb (by omega) hk (.inl hlen') hrl' n1 hone (ver + 1) (by omega)
                          have ho' : ({ o with rows := o.rows.take len ++ rows' ++ o.rows.drop (len + rows'.length) } : Obj) = { o with rows := o.rows ++ rows' } := by
                            rw [hlen', List.take_length, List.drop_eq_nil_of_le (by omega), List.append_nil]
                          rw [ho'] at q2 q3
                          have hnew : newR R r { o with rows := o.rows ++ rows' } = setR R r ⟨ver + 1, some { o with rows := o.rows ++ rows' }⟩ := by
                            unfold newR; rw [show getR R r = ⟨ver, some o⟩ from hl]
                          have hv : verR R r = ver + 1 := by unfold verR; rw [show getR R r = ⟨ver, some o⟩ from hl]
                          rw [hnew, hv]
                          refine ⟨.slice (some ⟨bb, 0 * o.sz, none⟩) (len + rows'.length) (k - 0), s1, ?_, q2, q3, ?_⟩
                          · rw [append_room s.w t u ty e i z ht hie hiz _ len (k - 0) rows'.length news b hsrc (by omega)]
                            simp only [plain_add]
                            rw [hs, ← hosz, Nat.zero_mul, Nat.zero_add, q1]
                            rfl
                          · exact .rf _ _ _ { o with rows := o.rows ++ rows' } _ _ bb k (by unfold lv; rw [getR_setR, if_pos rfl]) (by rw [qb]; exact hbb) (by simp; omega)
                        · -- a new block
                          have hr := append_grow s.w t u ty e i z ht hie hiz (some ⟨bb, 0 * o.sz, none⟩) len (k - 0) rows'.length (cur.toList.take (len * o.sz)) news b hsrc (fun w' hw => by
                              have := run_loadCells_list (P := P) w' ⟨bb, 0 * o.sz, none⟩ (cur.toList.take (len * o.sz)) (fun j v hv => by
                                rw [List.getElem?_take] at hv
                                split at hv
                                · rw [plain_add]
                                  simp only [World.cell?, hw, k6]
                                  simpa using hv
                                · cases hv)
                              have hle : len * o.sz ≤ cur.size := by rw [k7, hlen']; exact Nat.mul_le_mul_right _ k4
                              have hlt : (cur.toList.take (len * o.sz)).length = len * i.size := by rw [hs, ← hosz]; simp; omega
                              rw [hlt] at this
                              simpa [Builtin.firstCells] using this) (by omega) (by omega) (by rw [hb]; exact hro)
                          have hge := grownCap_ge s.w (len + rows'.length) (k - 0) e
                          have hle := grownCap_le_maxLen s.w (len + rows'.length) (k - 0) e (by unfold maxLen; omega)
                          obtain ⟨g, hg⟩ : ∃ g, grownCap s.w (len + rows'.length) (k - 0) e = g := ⟨_, rfl⟩
                          rw [hg] at hr hge hle
                          have hol : (cur.toList.take (len * o.sz)).length = len * ei.size := by
                            have hle : len * o.sz ≤ cur.size := by rw [k7, hlen']; exact Nat.mul_le_mul_right _ k4
                            rw [← hosz]; simp; omega
                          have hall : (o.rows ++ rows').length = len + rows'.length := by rw [List.length_append, hlen']
                          have T1 := hi.take r { o with rows := o.rows ++ rows' } _ (some (s.w.heap.size, g)) (((Below.refl _ s.w).drew).alloc (by simp) (.cells ((cur.toList.take (len * o.sz)).toArray ++ news.toArray ++ Builtin.zeroCells z.cells (g - (len + rows'.length))) e))
                            (fun b' k' hbk => by
                              injection hbk with hbk; injection hbk with q1 q2; subst q1; subst q2
                              have hsz1 : ((cur.toList.take (len * o.sz)).toArray ++ news.toArray ++ Builtin.zeroCells z.cells (g - (len + rows'.length))).size = g * o.sz := by
                                rw [Array.size_append, Array.size_append, List.size_toArray, List.size_toArray, hol, n2, size_zeroCells, hzs, hosz, ← Nat.add_mul, ← Nat.add_mul]
                                congr 1; omega
                              have hrel1 : RelL s [] (o.rows ++ rows').flatten (((cur.toList.take (len * o.sz)).toArray ++ news.toArray ++ Builtin.zeroCells z.cells (g - (len + rows'.length))).toList.take ((o.rows ++ rows').length * o.sz)) := by
                                have e1 : (o.rows ++ rows').length * o.sz = (cur.toList.take (len * o.sz)).length + news.length := by
                                  rw [hol, n2, hosz, ← Nat.add_mul, hall]
                                have e2 := take_cells (cur.toList.take (len * o.sz)) news (Builtin.zeroCells z.cells (g - (len + rows'.length))).toList
                                rw [Array.toArray_toList] at e2
                                rw [e1, e2, List.flatten_append, hlen']
                                exact k8.append n1
                              refine ⟨Nat.le_refl _, hle, by show (o.rows ++ rows').length ≤ g; rw [hall]; exact hge, fun row hrow => ?_, _, by rw [hety]; simpa using heap_alloc_new s.w.drew _, hsz1, ?_⟩
                              · simp only [List.mem_append] at hrow
                                rcases hrow with hrow | hrow
                                · exact k5 row hrow
                                · exact hrl' row hrow
                              · show RelL s (if o.box = true then R else []) _ _
                                rw [hbx]
                                exact hrel1)
                            (fun hn => by cases hn)
                          refine ⟨_, ⟨_, s.F, upd s.β r (some (s.w.heap.size, g))⟩, hr, T1.1, T1.2, ?_⟩
                          exact rf0 (lv_new _ _ _) (upd_same _ _ _) (by show len + rows'.length ≤ (o.rows ++ rows').length; omega)
                      · cases h
                    · split at h
                      · rename_i hin
                        injection h with h; injection h with e1 e2; subst e1; subst e2
                        obtain ⟨s1, q1, qb, q2, q3⟩ := putRows (P := P) (q := off + len) (new := rows') hi hl hbx hbb hlen (by omega) (.inr hin) hrl' n1 hone ver (Nat.le_refl _)
                        refine ⟨.slice (some ⟨bb, off * o.sz, none⟩) (len + rows'.length) (k - off), s1, ?_, q2, q3, ?_⟩
                        · rw [append_room s.w t u ty e i z ht hie hiz _ len (k - off) rows'.length news b hsrc (by omega)]
                          simp only [plain_add]
                          rw [hs, ← hosz, ← Nat.add_mul, q1]
                          rfl
                        · exact .rf _ _ _ { o with rows := o.rows.take (off + len) ++ rows' ++ o.rows.drop (off + len + rows'.length) } _ _ bb k (by unfold lv; rw [getR_setR, if_pos rfl]) (by rw [qb]; exact hbb) (by simp; omega)
                      · cases h
              · cases h
            · cases h
          · cases hrows
        · cases hrows
      · cases h
    · cases h
  · cases h
end Go.Iv
