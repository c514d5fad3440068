import Derived.Test.YtapigbgcghekgaaM01
import Derived.Test.YtapigbgcghekgaaM07
set_option linter.unusedVariables false
set_option linter.unusedSimpArgs false
set_option linter.unusedVariables false
namespace Go.Iv
section
variable (E : Env) (an : List (Nat × Nat × An)) (T : List IV) (R : List Reg) (Q : Ex → List IV → List Reg → Prop) (K : IV → List Reg → Prop) (KT : List IV → List Reg → Prop)
theorem iff_id {p q : Prop} (h : p = q) : p ↔ q := h ▸ Iff.rfl
variable (tq : Tok Q) (tk : Tok K) (tkt : Tok KT) (tkq : Tok (KT, Q))
theorem W_skip : W E an .skip T R Q tq ↔ Q .n T R := iff_id rfl
theorem W_region (id : Nat) (ops : List Oper) : W E an (.region id ⟨ops⟩ false) T R Q tq ↔ opsW E (anAt an id) ops 0 ops T R (Q .n) .mk := by
  simp [W]
theorem W_regionD (id : Nat) (ops : List Oper) : W E an (.region id ⟨ops⟩ true) T R Q tq ↔ drawW E (anAt an id) ops (planAt an id) T R (Q .n) .mk := by
  simp [W]
theorem W_seq (a b : Code) : W E an (.seq a b) T R Q tq ↔ W E an a T R (seqK (fun T R => W E an b T R Q .mk) Q .mk) .mk := iff_id rfl
theorem W_cond (c : Operand) (a b : Code) : W E an (.cond c a b) T R Q tq ↔ condW (evI T c) (fun _ => W E an a T R Q .mk) (fun _ => W E an b T R Q .mk) .mk := iff_id rfl
theorem W_block (id : Nat) (body : Code) : W E an (.block id body) T R Q tq ↔ W E an body T R (blockK id Q .mk) .mk := iff_id rfl
theorem W_loop (body : Code) (I : List IV → List Reg → Prop) (m : List IV → List Reg → Nat) (h0 : I T R)
    (h : ∀ T R, I T R → W E an body T R (seqK (fun T1 R1 => I T1 R1 ∧ m T1 R1 < m T R) Q .mk) .mk) : W E an (.loop body) T R Q tq := ⟨I, m, h0, h⟩
theorem W_exit (id : Nat) : W E an (.exit id) T R Q tq ↔ Q (.x id) T R := iff_id rfl
theorem W_ret : W E an .ret T R Q tq ↔ Q .r T R := iff_id rfl
theorem W_label (l : Nat) : W E an (.label l) T R Q tq ↔ Q .n T R := iff_id rfl
theorem seqK_n : seqK KT Q tkq .n T R ↔ KT T R := iff_id rfl
theorem seqK_x (id : Nat) : seqK KT Q tkq (.x id) T R ↔ Q (.x id) T R := iff_id rfl
theorem seqK_r : seqK KT Q tkq .r T R ↔ Q .r T R := iff_id rfl
theorem blockK_n (id : Nat) : blockK id Q tq .n T R ↔ Q .n T R := iff_id rfl
theorem blockK_r (id : Nat) : blockK id Q tq .r T R ↔ Q .r T R := iff_id rfl
theorem blockK_eq (id : Nat) : blockK id Q tq (.x id) T R ↔ Q .n T R := by simp [blockK]
theorem blockK_ne (id id' : Nat) (h : (id' == id) = false) : blockK id Q tq (.x id') T R ↔ Q (.x id') T R := by
  have h' : ¬ id' = id := by simpa using h
  simp [blockK, h']
theorem condW_t (A B : Unit → Prop) (t : Tok (A, B)) : condW (.b true) A B t ↔ A () := iff_id rfl
theorem condW_f (A B : Unit → Prop) (t : Tok (A, B)) : condW (.b false) A B t ↔ B () := iff_id rfl
theorem condW_b (x : Bool) (A B : Unit → Prop) (t : Tok (A, B)) (ht : x = true → A ()) (hf : x = false → B ()) : condW (.b x) A B t := by cases x; exact hf rfl; exact ht rfl
theorem guardW_tt (A B C : Unit → Prop) (t : Tok (A, B, C)) : guardW (.b true) true A B C t ↔ A () := by simp [guardW]
theorem guardW_ff (A B C : Unit → Prop) (t : Tok (A, B, C)) : guardW (.b false) false A B C t ↔ A () := by simp [guardW]
theorem guardW_tf (A B C : Unit → Prop) (t : Tok (A, B, C)) : guardW (.b true) false A B C t ↔ B () := by simp [guardW]
theorem guardW_ft (A B C : Unit → Prop) (t : Tok (A, B, C)) : guardW (.b false) true A B C t ↔ B () := by simp [guardW]
theorem guardW_u (want : Bool) (xs : List IV) (A B C : Unit → Prop) (t : Tok (A, B, C)) : guardW (.tu xs) want A B C t ↔ C () := by simp [guardW]
theorem guardW_b (x want : Bool) (A B C : Unit → Prop) (t : Tok (A, B, C)) (ht : x = want → A ()) (hf : x = (!want) → B ()) : guardW (.b x) want A B C t := by
  cases x <;> cases want <;> simp_all [guardW]
theorem onO_some {α : Type} (a : α) (K : α → Prop) (t : Tok K) : onO (some a) K t ↔ K a := iff_id rfl
theorem onO_none {α : Type} (K : α → Prop) (t : Tok K) : onO none K t ↔ False := iff_id rfl
theorem callV_fn (f : FuncId) (a c : List IV) (K : FuncId → List IV → List IV → Prop) (t : Tok K) : callV (.fn (.func f) a c) K t ↔ K f a c := iff_id rfl

theorem getT_z (x : IV) (T : List IV) : getT (x :: T) 0 = x := by cases T <;> rfl
theorem getT_s (x : IV) (T : List IV) (n : Nat) : getT (x :: T) (n + 1) = getT T n := by cases T <;> rfl
theorem setT_z (x v : IV) (T : List IV) : setT (x :: T) 0 v = v :: T := by cases T <;> rfl
theorem setT_s (x v : IV) (T : List IV) (n : Nat) : setT (x :: T) (n + 1) v = x :: setT T n v := by cases T <;> rfl
theorem putT_some (d : Nat) (v : IV) : putT T (some d) v = setT T d v := by cases T <;> rfl
theorem putT_none (v : IV) : putT T none v = T := by cases T <;> rfl
theorem ev_tmp (t : Nat) : evI T (.tmp t) = getT T t := by cases T <;> rfl
theorem ev_func (f : Nat) : evI T (.func f) = .fn (.func f) [] [] := by cases T <;> rfl
theorem ev_int (k : IntKind) (n : Int) : evI T (.const (.int k n)) = .i k n := by cases T <;> rfl
theorem ev_bool (x : Bool) : evI T (.const (.bool x)) = .b x := by cases T <;> rfl
theorem ev_str (x : ByteArray) : evI T (.const (.string x)) = .s x := by cases T <;> rfl
theorem ev_nil : evI T (.const (.slice none 0 0)) = .sl (some true) [] := by cases T <;> rfl
theorem ev_np : evI T (.const (.pointer none)) = .np := by cases T <;> rfl
theorem ev_agg (cs : List Value) : evI T (.const (.agg ⟨cs⟩)) = .ag (cs.map ofV0) := by cases T <;> rfl
theorem ofV0_int (k : IntKind) (n : Int) : ofV0 (.int k n) = .i k n := by cases k <;> rfl
theorem ofV0_bool (x : Bool) : ofV0 (.bool x) = .b x := by cases x <;> rfl
theorem ofV0_str (x : ByteArray) : ofV0 (.string x) = .s x := by cases x <;> rfl
theorem ofV0_nil : ofV0 (.slice none 0 0) = .sl (some true) [] := Eq.trans rfl rfl

theorem ops_nil (an : Nat → An) (all : List Oper) (ix : Nat) (t : Tok (all, KT)) : opsW E an all ix [] T R KT t ↔ KT T R := iff_id rfl
theorem ops_cons (an : Nat → An) (all os : List Oper) (ix : Nat) (d : Option Nat) (op : Op) (ty : TypeId) (pos : String) (after : Array Edge) (t : Tok (all, KT)) :
    opsW E an all ix (⟨d, op, ty, pos, after, none⟩ :: os) T R KT t ↔ stepW E (an ix) op T R (fun v R1 => opsW E an all (ix + 1) os (putT T d v) R1 KT .mk) .mk := iff_id rfl
theorem ops_guard (an : Nat → An) (all os : List Oper) (ix j : Nat) (want : Bool) (d : Option Nat) (op : Op) (ty : TypeId) (pos : String) (after : Array Edge) (t : Tok (all, KT)) :
    opsW E an all ix (⟨d, op, ty, pos, after, some (j, want)⟩ :: os) T R KT t ↔ onO (yieldI all j) (fun d' => guardW (getT T d') want
        (fun _ => stepW E (an ix) op (setT T d' (.b want)) R (fun v R1 => opsW E an all (ix + 1) os (putT (setT T d' (.b want)) d v) R1 KT .mk) .mk)
        (fun _ => opsW E an all (ix + 1) os (putT (setT T d' (.b !want)) d (.tu [])) R KT .mk)
        (fun _ => opsW E an all (ix + 1) os (putT T d (.tu [])) R KT .mk) .mk) .mk := iff_id rfl
theorem draw_done (an : Nat → An) (all : List Oper) (t : Tok (all, KT)) : drawW E an all .done T R KT t ↔ KT T R := iff_id rfl
theorem draw_pure (an : Nat → An) (all : List Oper) (i : Nat) (p : Plan) (t : Tok (all, KT)) :
    drawW E an all (.pure i p) T R KT t ↔ onO (if (an i).isImm then all[i]? else none) (fun o => stpW E .imm all o T [] (fun T1 R1 => R1 = [] ∧ drawW E an all p T1 R KT .mk) .mk) .mk := iff_id rfl
theorem draw_read (an : Nat → An) (all : List Oper) (i : Nat) (p : Plan) (t : Tok (all, KT)) :
    drawW E an all (.read i p) T R KT t ↔ onO (all[i]?) (fun o => stpW E (an i) all o T R (fun T1 R1 => drawW E an all p T1 R1 KT .mk) .mk) .mk := iff_id rfl
theorem draw_one (an : Nat → An) (all : List Oper) (i : Nat) (p : Plan) (t : Tok (all, KT)) :
    drawW E an all (.one i p) T R KT t ↔ onO (all[i]?) (fun o => stpW E (an i) all o T R (fun T1 R1 => drawW E an all p T1 R1 KT .mk) .mk) .mk := iff_id rfl
theorem stp_plain (an : An) (all : List Oper) (d : Option Nat) (op : Op) (ty : TypeId) (pos : String) (after : Array Edge) (t : Tok (all, KT)) :
    stpW E an all ⟨d, op, ty, pos, after, none⟩ T R KT t ↔ stepW E an op T R (fun v R1 => KT (putT T d v) R1) .mk := iff_id rfl
theorem stp_guard (an : An) (all : List Oper) (j : Nat) (want : Bool) (d : Option Nat) (op : Op) (ty : TypeId) (pos : String) (after : Array Edge) (t : Tok (all, KT)) :
    stpW E an all ⟨d, op, ty, pos, after, some (j, want)⟩ T R KT t ↔ onO (yieldI all j) (fun d' => guardW (getT T d') want
      (fun _ => stepW E an op (setT T d' (.b want)) R (fun v R1 => KT (putT (setT T d' (.b want)) d v) R1) .mk)
      (fun _ => KT (putT (setT T d' (.b !want)) d (.tu [])) R)
      (fun _ => KT (putT T d (.tu [])) R) .mk) .mk := iff_id rfl
theorem yield_s (o : Oper) (os : List Oper) (j : Nat) : yieldI (o :: os) (j + 1) = yieldI os j := by cases os <;> rfl
theorem yield_z (d : Option Nat) (op : Op) (ty : TypeId) (pos : String) (after : Array Edge) (g : Option (Nat × Bool)) (os : List Oper) : yieldI (⟨d, op, ty, pos, after, g⟩ :: os) 0 = d := by cases os <;> rfl
theorem anAt_nil (i j : Nat) : anAt [] i j = .imm := by cases i <;> rfl
theorem anAt_cons (a c : Nat) (x : An) (l : List (Nat × Nat × An)) (i j : Nat) : anAt ((a, c, x) :: l) i j = if a = i then if c = j then x else anAt l i j else anAt l i j := by cases l <;> rfl

variable (an : An)
theorem st_move (x : Operand) : stepW E an (.move x) T R K tk ↔ K (evI T x) R := iff_id rfl
theorem st_assign (x : Operand) : stepW E an (.assign x) T R K tk ↔ K (evI T x) R := iff_id rfl
def boolI : IV → Option Bool | .b x => some x | _ => none
theorem bool_b (x : Bool) : boolI (.b x) = some x := by cases x <;> rfl
theorem st_pick (c a b : Operand) : stepW E an (.pick c a b) T R K tk ↔ onO (boolI (evI T c)) (fun x => K (bif x then evI T a else evI T b) R) .mk := by
  simp only [stepW, opI]; cases evI T c <;> exact iff_id rfl
theorem st_bin (op : BinOp) (t u : TypeId) (x y : Operand) : stepW E an (.binOp op t x y u) T R K tk ↔ onO (binI E.tys op t (evI T x) (evI T y)) (fun v => K v R) .mk := by
  simp only [stepW, opI]; cases binI E.tys op t (evI T x) (evI T y) <;> exact iff_id rfl
theorem st_un (op : UnOp) (t : TypeId) (x : Operand) : stepW E an (.unOp op t x) T R K tk ↔ onO (unI op (evI T x)) (fun v => K v R) .mk := by
  simp only [stepW, opI]; cases unI op (evI T x) <;> exact iff_id rfl
theorem st_conv (s d : TypeId) (x : Operand) : stepW E an (.convert s d x) T R K tk ↔ onO (convI E.tys s d (evI T x)) (fun v => K v R) .mk := by
  simp only [stepW, opI]; cases convI E.tys s d (evI T x) <;> exact iff_id rfl
theorem st_load (t : TypeId) (x : Operand) : stepW E an (.load t x) T R K tk ↔ onO (loadI E.tys t (evI T x) R) (fun v => K v R) .mk := by
  simp only [stepW, opI]; cases loadI E.tys t (evI T x) R <;> exact iff_id rfl
theorem st_store (t : TypeId) (a x : Operand) : stepW E an (.store t a x) T R K tk ↔ onO (storeI E.tys t (evI T a) (evI T x) R) (fun v => K (.tu []) v) .mk := by
  simp only [stepW, opI]; cases storeI E.tys t (evI T a) (evI T x) R <;> exact iff_id rfl
theorem st_fieldAddr (s : TypeId) (x : Operand) (f : Nat) : stepW E an (.fieldAddr s x f) T R K tk ↔ onO (fieldAddrI E.tys s (evI T x) f R) (fun v => K v R) .mk := by
  simp only [stepW, opI]; cases fieldAddrI E.tys s (evI T x) f R <;> exact iff_id rfl
theorem st_field (s : TypeId) (x : Operand) (f : Nat) : stepW E an (.field s x f) T R K tk ↔ onO (fieldI E.tys s (evI T x) f) (fun v => K v R) .mk := by
  simp only [stepW, opI]; cases fieldI E.tys s (evI T x) f <;> exact iff_id rfl
theorem st_indexAddr (t : TypeId) (x ix : Operand) : stepW E an (.indexAddr t x ix) T R K tk ↔ onO (indexAddrI E.tys t (evI T x) (evI T ix) R) (fun v => K v R) .mk := by
  simp only [stepW, opI]; cases indexAddrI E.tys t (evI T x) (evI T ix) R <;> exact iff_id rfl
theorem st_index (t : TypeId) (x ix : Operand) : stepW E an (.index t x ix) T R K tk ↔ onO (indexI E.tys t (evI T x) (evI T ix)) (fun v => K v R) .mk := by
  simp only [stepW, opI]; cases indexI E.tys t (evI T x) (evI T ix) <;> exact iff_id rfl
theorem st_build (t : TypeId) (parts : List (Nat × Operand)) : stepW E an (.build t ⟨parts⟩) T R K tk ↔ onO (buildI E.tys t (parts.map fun p => (p.1, evI T p.2)) R) (fun v => K v R) .mk := by
  simp only [stepW, opI]; cases buildI E.tys t (parts.map fun p => (p.1, evI T p.2)) R <;> exact iff_id rfl
def tupI : IV → Nat → Option IV | .tu xs, i => xs[i]? | _, _ => none
theorem tup_tu (xs : List IV) (i : Nat) : tupI (.tu xs) i = xs[i]? := by cases i <;> rfl
theorem st_extract (x : Operand) (ix : Nat) : stepW E an (.extract x ix) T R K tk ↔ onO (tupI (evI T x) ix) (fun v => K v R) .mk := by
  simp only [stepW, opI]
  cases h : evI T x <;> try exact iff_id rfl
  rename_i xs
  simp only [tupI]
  cases h2 : xs[ix]? <;> exact iff_id (by simp only [onO])
theorem st_makeFunc (f : Fn) (a c : Array Operand) : stepW E an (.makeFunc f a c) T R K tk ↔ K (.fn f (a.toList.map (evI T)) (c.toList.map (evI T))) R := iff_id rfl
def nilChkI (R : List Reg) : IV → Option IV | .pi c => some (.pi c) | .pt r v i j => (match liveR R r v with | some _ => some (.pt r v i j) | none => none) | .fn (.func f) a c => some (.fn (.func f) a c) | _ => none
theorem st_nilCheck (x : Operand) : stepW E an (.nilCheck x) T R K tk ↔ onO (nilChkI R (evI T x)) (fun v => K v R) .mk := by
  simp only [stepW, opI]
  cases h : evI T x <;> try exact iff_id rfl
  · rename_i r v i j
    simp only [nilChkI]
    cases liveR R r v <;> exact iff_id rfl
  · rename_i f a c
    cases f <;> exact iff_id rfl
theorem st_alloc (e : TypeId) (r : Nat) : stepW E (.reg r) (.alloc e) T R K tk ↔ onO E.tys[e]? (fun ti => if ti.zero.isEmpty then False else K (.pt r (verR R r) 0 0) (newR R r { box := true, ety := e, sz := ti.zero.length, rows := [ti.zero] })) .mk := by
  simp only [stepW, opI]
  cases E.tys[e]? with
  | none => exact iff_id rfl
  | some ti => cases h : ti.zero.isEmpty <;> exact iff_id (by simp [onO, h])
theorem st_boxI (e : TypeId) (x : Operand) : stepW E .imm (.box e x) T R K tk ↔ onO (fzL R (cellsI (evI T x))) (fun p => K (.pi p.1) p.2) .mk := by
  simp only [stepW, opI]; cases h : fzL R (cellsI (evI T x)) <;> exact iff_id (by simp only [onO])
theorem st_builtin (b : Builtin) (args : List Operand) (ts : List TypeId) : stepW E an (.call ⟨.builtin b, ⟨args⟩, ⟨ts⟩⟩) T R K tk ↔ onO (builtinI E.tys an b ts (args.map (evI T)) R) (fun p => K p.1 p.2) .mk := iff_id rfl
theorem st_call (g : Operand) (args : List Operand) (ts : Array TypeId) : stepW E an (.call ⟨.value g, ⟨args⟩, ts⟩) T R K tk ↔ callV (evI T g) (fun f first caps => callW E an f (first ++ args.map (evI T) ++ caps) R K .mk) .mk := iff_id rfl
end
theorem bin_add (tys : Tys) (t : TypeId) (k : IntKind) (x y : Int) : binI tys .add t (.i k x) (.i k y) = some (.i k (k.wrap (x + y))) := by
  have e : (if k = k then arithI .add k x y else none) = arithI .add k x y := if_pos rfl
  exact e.trans rfl
theorem bin_sub (tys : Tys) (t : TypeId) (k : IntKind) (x y : Int) : binI tys .sub t (.i k x) (.i k y) = some (.i k (k.wrap (x - y))) := by
  have e : (if k = k then arithI .sub k x y else none) = arithI .sub k x y := if_pos rfl
  exact e.trans rfl
theorem bin_mul (tys : Tys) (t : TypeId) (k : IntKind) (x y : Int) : binI tys .mul t (.i k x) (.i k y) = some (.i k (k.wrap (x * y))) := by
  have e : (if k = k then arithI .mul k x y else none) = arithI .mul k x y := if_pos rfl
  exact e.trans rfl
theorem bin_quo (tys : Tys) (t : TypeId) (k : IntKind) (x y : Int) : binI tys .quo t (.i k x) (.i k y) = if y = 0 then none else some (.i k (k.wrap (x.tdiv y))) := by
  have e : (if k = k then arithI .quo k x y else none) = arithI .quo k x y := if_pos rfl
  exact e.trans rfl
theorem bin_rem (tys : Tys) (t : TypeId) (k : IntKind) (x y : Int) : binI tys .rem t (.i k x) (.i k y) = if y = 0 then none else some (.i k (x.tmod y)) := by
  have e : (if k = k then arithI .rem k x y else none) = arithI .rem k x y := if_pos rfl
  exact e.trans rfl
theorem bin_and (tys : Tys) (t : TypeId) (k : IntKind) (x y : Int) : binI tys .and t (.i k x) (.i k y) = some (.i k (k.wrap ((BitVec.ofInt k.bits x) &&& (BitVec.ofInt k.bits y)).toNat)) := by
  have e : (if k = k then arithI .and k x y else none) = arithI .and k x y := if_pos rfl
  exact e.trans rfl
theorem bin_or (tys : Tys) (t : TypeId) (k : IntKind) (x y : Int) : binI tys .or t (.i k x) (.i k y) = some (.i k (k.wrap ((BitVec.ofInt k.bits x) ||| (BitVec.ofInt k.bits y)).toNat)) := by
  have e : (if k = k then arithI .or k x y else none) = arithI .or k x y := if_pos rfl
  exact e.trans rfl
theorem bin_andNot (tys : Tys) (t : TypeId) (k : IntKind) (x y : Int) : binI tys .andNot t (.i k x) (.i k y) = some (.i k (k.wrap ((BitVec.ofInt k.bits x) &&& ~~~(BitVec.ofInt k.bits y)).toNat)) := by
  have e : (if k = k then arithI .andNot k x y else none) = arithI .andNot k x y := if_pos rfl
  exact e.trans rfl
theorem bin_eql (tys : Tys) (t : TypeId) (k : IntKind) (x y : Int) : binI tys .eql t (.i k x) (.i k y) = some (.b (decide (x = y))) := by
  have e : (if k = k then arithI .eql k x y else none) = arithI .eql k x y := if_pos rfl
  exact e.trans rfl
theorem bin_neq (tys : Tys) (t : TypeId) (k : IntKind) (x y : Int) : binI tys .neq t (.i k x) (.i k y) = some (.b (!decide (x = y))) := by
  have e : (if k = k then arithI .neq k x y else none) = arithI .neq k x y := if_pos rfl
  exact e.trans rfl
theorem bin_lss (tys : Tys) (t : TypeId) (k : IntKind) (x y : Int) : binI tys .lss t (.i k x) (.i k y) = some (.b (decide (x < y))) := by
  have e : (if k = k then arithI .lss k x y else none) = arithI .lss k x y := if_pos rfl
  exact e.trans rfl
theorem bin_leq (tys : Tys) (t : TypeId) (k : IntKind) (x y : Int) : binI tys .leq t (.i k x) (.i k y) = some (.b (decide (x ≤ y))) := by
  have e : (if k = k then arithI .leq k x y else none) = arithI .leq k x y := if_pos rfl
  exact e.trans rfl
theorem bin_gtr (tys : Tys) (t : TypeId) (k : IntKind) (x y : Int) : binI tys .gtr t (.i k x) (.i k y) = some (.b (decide (y < x))) := by
  have e : (if k = k then arithI .gtr k x y else none) = arithI .gtr k x y := if_pos rfl
  exact e.trans rfl
theorem bin_geq (tys : Tys) (t : TypeId) (k : IntKind) (x y : Int) : binI tys .geq t (.i k x) (.i k y) = some (.b (decide (y ≤ x))) := by
  have e : (if k = k then arithI .geq k x y else none) = arithI .geq k x y := if_pos rfl
  exact e.trans rfl
theorem bin_shl (tys : Tys) (t : TypeId) (k k' : IntKind) (x y : Int) : binI tys .shl t (.i k x) (.i k' y) = if y < 0 then none else some (.i k (k.wrap (x * 2 ^ (min y.toNat k.bits)))) := by cases k <;> rfl
theorem bin_shr (tys : Tys) (t : TypeId) (k k' : IntKind) (x y : Int) : binI tys .shr t (.i k x) (.i k' y) = if y < 0 then none else some (.i k (x.fdiv (2 ^ (min y.toNat k.bits)))) := by cases k <;> rfl
theorem un_not (x : Bool) : unI .not (.b x) = some (.b (!x)) := by cases x <;> rfl
theorem un_neg (k : IntKind) (x : Int) : unI .neg (.i k x) = some (.i k (k.wrap (0 - x))) := by cases k <;> rfl
theorem nat_i (k : IntKind) (n : Int) : natI (.i k n) = if 0 ≤ n then some n.toNat else none := by cases k <;> rfl
theorem nat_ofNat (k : IntKind) (n : Nat) : natI (.i k (n : Int)) = some n := by
  rw [nat_i, if_pos (Int.natCast_nonneg n), Int.toNat_natCast]
theorem ia_sl (tys : Tys) (t e : TypeId) (ei : TI) (nl : Option Bool) (rows : List (List IV)) (ix : IV) (R : List Reg) (h : tyK tys t = .slice e) (he : tys[e]? = some ei) :
    indexAddrI tys t (.sl nl rows) ix R = match natI ix with | some n => if n < rows.length ∧ (rows.getD n []).length = ei.size then some (.pi (rows.getD n [])) else none | none => none := by
  unfold indexAddrI
  rw [h]
  cases natI ix with
  | none => rfl
  | some n => simp only [he]
end Go.Iv
set_option linter.unusedVariables false
set_option linter.unusedSimpArgs false
namespace Go.Iv
theorem gs {T : List IV} {d : Nat} {v : IV} (h : d < T.length) : getT (setT T d v) d = v := by rw [getT_setT _ _ _ _ h, if_pos rfl]
theorem gn {T : List IV} {d t : Nat} {v : IV} (h : d ≠ t) : getT (setT T d v) t = getT T t := getT_setT_ne T d t v h
theorem sl {T : List IV} {d : Nat} {v : IV} : (setT T d v).length = T.length := setT_length T d v
theorem initT_len (n : Nat) (xs : List IV) (h : xs.length ≤ n) : (initT n xs).length = n := by simp [initT]; omega
theorem initT_at (n : Nat) : ∀ (xs : List IV) (i : Nat) (x : IV), xs[i]? = some x → getT (initT n xs) i = x := by
  intro xs i x h
  have get : ∀ (T : List IV) (t : Nat) (x : IV), T[t]? = some x → getT T t = x := by
    intro T
    induction T with
    | nil => intro t x h; simp at h
    | cons y T ih => intro t x h; cases t with
      | zero => simp at h; subst h; rfl
      | succ t => simp at h; exact ih t x h
  refine get _ _ _ ?_
  unfold initT
  rw [List.getElem?_append_left (List.getElem?_eq_some_iff.1 h).1]
  exact h
def bodyOf (f : Func) : Code := match f.body with | some c => c | none => .skip
theorem bodyOf_some (f : Func) (h : f.body.isSome = true) : f.body = some (bodyOf f) := by
  unfold bodyOf; cases hb : f.body with
  | none => rw [hb] at h; cases h
  | some c => rfl

def outQ (l : List Nat) (y : IV) (Rr : List Reg) (v : IV) (R : List Reg) : Prop := impI l R [] v = some (y, Rr)
def outR (D : List Nat) (y : IV) (R1 : List Reg) (v : IV) (R : List Reg) : Prop := v = y ∧ clrR D R = R1
theorem outQ_iff (l : List Nat) (y : IV) (Rr : List Reg) (v : IV) (R : List Reg) : outQ l y Rr v R ↔ impI l R [] v = some (y, Rr) := iff_id rfl
theorem outR_iff (D : List Nat) (y : IV) (R1 : List Reg) (v : IV) (R : List Reg) : outR D y R1 v R ↔ v = y ∧ clrR D R = R1 := iff_id rfl
/-- How a function's contract is shown. -/
theorem pcW {P : Program} {E : Env} (hE : EnvOK P E) (hm : P.follows .mixedOrders = true) {f : FuncId} {fn : Func} (hf : P.funcs[f]? = some fn) (hn : (fn.name == "runtime.NumGoroutine") = false) (hb : fn.body.isSome = true)
    (an : List (Nat × Nat × An)) (hok : okC an (bodyOf fn) = true) {xs : List IV} {y : IV} {Rr : List Reg} (l : List Nat) (hx : xs.length ≤ fn.ntmps)
    (h : ∀ T, T.length = fn.ntmps → (∀ i x, xs[i]? = some x → getT T i = x) → W E an (bodyOf fn) T [] (retQ E.tys fn.results.toList (outQ l y Rr)) .mk) : PC P true f xs y Rr :=
  PC_of_W hE hm hf hn (bodyOf_some fn hb) hok l (h _ (initT_len _ _ hx) (initT_at _ _))
theorem icW {P : Program} {E : Env} (hE : EnvOK P E) (hm : P.follows .mixedOrders = true) {f : FuncId} {fn : Func} (hf : P.funcs[f]? = some fn) (hn : (fn.name == "runtime.NumGoroutine") = false) (hb : fn.body.isSome = true)
    (an : List (Nat × Nat × An)) (hok : okC an (bodyOf fn) = true) {xs : List IV} {y : IV} {R R1 : List Reg} (D : List Nat) (hx : xs.length ≤ fn.ntmps)
    (h : ∀ T, T.length = fn.ntmps → (∀ i x, xs[i]? = some x → getT T i = x) → W E an (bodyOf fn) T R (retQ E.tys fn.results.toList (outR D y R1)) .mk) : IC P f xs R y R1 :=
  IC_of_W hE hm hf hn (bodyOf_some fn hb) hok D (h _ (initT_len _ _ hx) (initT_at _ _))

section
variable (tys : Tys) (out : IV → List Reg → Prop) (rs : List ResultVar) (T : List IV) (R : List Reg)
theorem ret_r : retQ tys rs out .r T R ↔ onO (resI tys rs T R) (fun v => out v R) .mk := iff_id rfl
theorem ret_n : retQ tys rs out .n T R ↔ onO (resI tys rs T R) (fun v => out v R) .mk := iff_id rfl
theorem resI_nil : resI tys [] T R = some (.tu []) := by cases T <;> rfl
theorem resI_one (r : ResultVar) : resI tys [r] T R = res1 tys T R r := by
  simp only [resI, resL]
  cases res1 tys T R r <;> rfl
theorem resI_two (r1 r2 : ResultVar) : resI tys [r1, r2] T R = (match res1 tys T R r1, res1 tys T R r2 with | some x, some y => some (.tu [x, y]) | _, _ => none) := by
  simp only [resI, resL]
  cases res1 tys T R r1 <;> cases res1 tys T R r2 <;> rfl
theorem res1_tmp (t : Nat) : res1 tys T R (.tmp t) = some (getT T t) := by cases T <;> rfl
theorem res1_cell (a t : Nat) : res1 tys T R (.cell a t) = loadI tys t (getT T a) R := by cases T <;> rfl
end
end Go.Iv
set_option linter.unusedVariables false
set_option linter.unusedSimpArgs false
namespace Go.Iv
/-! ### registers, read -/
theorem lr_new (R : List Reg) (r : Nat) (o : Obj) : liveR (newR R r o) r (verR R r) = some o := by simp [liveR, newR, verR, getR_setR]
theorem lr_set (R : List Reg) (r v : Nat) (o : Obj) : liveR (setR R r ⟨v, some o⟩) r v = some o := by simp [liveR, getR_setR]
theorem lr_new_ne (R : List Reg) (r q v : Nat) (o : Obj) (h : q ≠ r) : liveR (newR R r o) q v = liveR R q v := by simp [liveR, newR, getR_setR, h]
theorem lr_set_ne (R : List Reg) (r q v : Nat) (g : Reg) (h : q ≠ r) : liveR (setR R r g) q v = liveR R q v := by simp [liveR, getR_setR, h]
/-! ### rows -/
def encI (xs : List Int) : List (List IV) := xs.map fun n => [.i .i64 n]
theorem encI_len (xs : List Int) : (encI xs).length = xs.length := by simp [encI]
theorem encI_app (xs ys : List Int) : encI xs ++ encI ys = encI (xs ++ ys) := by simp [encI]
theorem encI_one (x : Int) : [[IV.i .i64 x]] = encI [x] := rfl
theorem encI_nil : ([] : List (List IV)) = encI [] := rfl
theorem encI_ok (xs : List Int) : okRows 1 (encI xs) = true := by simp [okRows, encI, okCell]
theorem encI_all (xs : List Int) : allLen 1 (encI xs) = true := by simp [allLen, encI]
theorem getD_enc {α : Type} {f : α → List IV} {l : List α} {k : Nat} {x : α} (h : l[k]? = some x) : (l.map f).getD k [] = f x := by simp [List.getD, h]
theorem encI_at {xs : List Int} {k : Nat} {x : Int} (h : xs[k]? = some x) : (encI xs).getD k [] = [.i .i64 x] := getD_enc h
theorem take_succ' {α : Type} {l : List α} {k : Nat} {x : α} (h : l[k]? = some x) : l.take (k + 1) = l.take k ++ [x] := by
  rw [List.take_add_one, h]; rfl
theorem at_lt {α : Type} {l : List α} {k : Nat} (h : k < l.length) : ∃ x, l[k]? = some x := ⟨_, List.getElem?_eq_getElem h⟩

/-! ### numbers -/
theorem wrap64 {n : Int} (h1 : -9223372036854775808 ≤ n) (h2 : n ≤ 9223372036854775807) : IntKind.i64.wrap n = n := by
  unfold IntKind.wrap
  simp only [IntKind.signed, IntKind.bits]
  simp
  omega
def asI : IV → Int | .i _ n => n | _ => 0
/-! ### calls -/
def pureZ : IV → Bool
  | .rf .. => false
  | x => pureC x
def pureY : IV → Bool
  | .ag xs | .tu xs => xs.all pureZ
  | x => pureZ x
theorem impC_pure {Rr R : List Reg} {x : IV} (h : pureZ x = true) : impC [] Rr R x = some (x, Rr, R) := by
  unfold impC
  cases x <;> simp_all [pureZ]
theorem impL_pure {Rr R : List Reg} : ∀ {xs : List IV}, xs.all pureZ = true → impL [] Rr R xs = some (xs, R)
  | [], h => rfl
  | x :: xs, h => by
    rw [List.all_cons, Bool.and_eq_true] at h
    simp only [impL, impC_pure h.1, impL_pure h.2]
theorem impI_pure {Rr R : List Reg} {y : IV} (h : pureY y = true) : impI [] Rr R y = some (y, R) := by
  unfold impI
  cases y with
  | ag xs => simp only [impL_pure (show xs.all pureZ = true from h)]
  | tu xs => simp only [impL_pure (show xs.all pureZ = true from h)]
  | _ => (dsimp only; rw [impC_pure (by exact h)])
/-- A call whose arguments and result lead to no register. -/
theorem callPu {E : Env} {f : FuncId} {xs : List IV} {y : IV} {R : List Reg} {K : IV → List Reg → Prop} {t : Tok K} (h : E.pc true f xs y []) (hp : xs.all pureC = true) (hy : pureY y = true) (hK : K y R) : callW E .imm f xs R K t := by
  unfold callW
  exact callP_iff.2 ⟨(true, xs), by unfold argsI; rw [if_pos hp], y, [], h, (y, R), impI_pure hy, hK⟩

/-! ### what is known less of -/
theorem PC.weaken {P : Program} {al : Bool} {f : FuncId} {xs : List IV} {y y' : IV} {Rr : List Reg} (h : PC P al f xs y Rr) (hw : ∀ s R v, Rel s R y v → Rel s R y' v) : PC P al f xs y' Rr :=
  ⟨h.cal, fun w F β vs hF hx => Calls.mono (h.run w F β vs hF hx) (by rintro e w1 ⟨v, sc, h1, h2, h3, h4⟩; exact ⟨v, sc, h1, h2, h3, hw _ _ _ h4⟩)⟩
theorem sl_none_of (nl : Option Bool) (rows : List (List IV)) (s : CS) (R : List Reg) (v : Value) (h : Rel s R (.sl nl rows) v) : Rel s R (.sl none rows) v := by
  cases h with
  | slN _ _ h => exact .slN _ _ (by simp)
  | slE _ _ a cap h => exact .slE _ _ _ _ (by simp)
  | sl _ _ _ a off cap sz c h hF hc hr hcell hrel => exact .sl _ _ _ _ _ _ sz c (by simp) hF hc hr hcell hrel
theorem sl_some_of {rows : List (List IV)} {s : CS} {R : List Reg} {v : Value} (h : Rel s R (.sl none rows) v) : ∃ b, (b = true → rows = []) ∧ Rel s R (.sl (some b) rows) v := by
  cases h with
  | slN _ _ h => exact ⟨true, fun _ => rfl, .slN _ _ (by simp)⟩
  | slE _ _ a cap h => exact ⟨false, fun _ => rfl, .slE _ _ _ _ (by simp)⟩
  | sl _ _ _ a off cap sz c h hF hc hr hcell hrel => exact ⟨false, (fun e => by cases e), .sl _ _ _ _ _ _ sz c (by simp) hF hc hr hcell hrel⟩
theorem PC.split {P : Program} {al : Bool} {f : FuncId} {pre post : List IV} {rows : List (List IV)} {y : IV} {Rr : List Reg} (h : ∀ b, (b = true → rows = []) → PC P al f (pre ++ .sl (some b) rows :: post) y Rr) : PC P al f (pre ++ .sl none rows :: post) y Rr := by
  refine ⟨(h false (fun e => by cases e)).cal, fun w F β vs hF hx => ?_⟩
  have hlen : pre.length < vs.toList.length := by rw [← hx.1]; simp
  obtain ⟨b, hb, hr⟩ := sl_some_of (hx.2 pre.length (.sl none rows) _ (by simp) (List.getElem?_eq_getElem hlen))
  refine (h b hb).run w F β vs hF ⟨by rw [← hx.1]; simp, fun j x v hxj hvj => ?_⟩
  rcases Nat.lt_trichotomy j pre.length with hj | hj | hj
  · rw [List.getElem?_append_left hj] at hxj
    exact hx.2 j x v (by rw [List.getElem?_append_left hj]; exact hxj) hvj
  · subst hj
    simp at hxj
    subst hxj
    rw [List.getElem?_eq_getElem hlen] at hvj
    injection hvj with hvj
    subst hvj
    exact hr
  · rw [List.getElem?_append_right (by omega)] at hxj
    obtain ⟨k, hk⟩ : ∃ k, j - pre.length = k + 1 := ⟨j - pre.length - 1, by omega⟩
    rw [hk, List.getElem?_cons_succ] at hxj
    exact hx.2 j x v (by rw [List.getElem?_append_right (by omega), hk, List.getElem?_cons_succ]; exact hxj) hvj

/-! ### slices that are made -/
def bsI (tys : Tys) (an : An) (t : TypeId) (n : Nat) (parts : List (Nat × IV)) (R : List Reg) : Option (IV × List Reg) := match tyK tys t with
    | .slice e => match tys[e]? with
      | some ei => match fzParts R parts with
        | some (ps, R1) => match fillI (fun i => some (i * ei.size, ei.size)) (List.replicate n ei.zero).flatten ps with
          | some cells => if n * ei.size ≤ 16777216 ∧ 0 < ei.size ∧ ei.zero.length = ei.size ∧ n ≤ 9223372036854775807 then match an with
              | .reg r => some (.rf r (verR R1 r) 0 n, newR R1 r { box := false, ety := e, sz := ei.size, rows := chunk ei.size n cells })
              | _ => some (.sl (some false) (chunk ei.size n cells), R1)
            else none
          | none => none
        | none => none
      | none => none
    | _ => none
theorem st_bs (E : Env) (an : An) (t : TypeId) (n : Nat) (parts : List (Nat × Operand)) (T : List IV) (R : List Reg) (K : IV → List Reg → Prop) (tk : Tok K) :
    stepW E an (.buildSlice t n ⟨parts⟩) T R K tk ↔ onO (bsI E.tys an t n (parts.map fun p => (p.1, evI T p.2)) R) (fun p => K p.1 p.2) .mk := Iff.rfl
def slI (tys : Tys) (t : TypeId) (x : IV) (l h m : Option (Option Nat)) (R : List Reg) : Option IV := match l, h, m with
    | some l, some h, some m => sliceI tys t x l h m R
    | _, _, _ => none
theorem st_slice (E : Env) (an : An) (t : TypeId) (x : Operand) (lo hi mx : Option Operand) (T : List IV) (R : List Reg) (K : IV → List Reg → Prop) (tk : Tok K) :
    stepW E an (.slice t x lo hi mx) T R K tk ↔ onO (slI E.tys t (evI T x) (optI T lo) (optI T hi) (optI T mx) R) (fun v => K v R) .mk := by
  rw [stepW_iff, onO_iff]
  constructor
  · rintro ⟨v, R1, h, hK⟩
    cases h with
    | op hn h =>
      simp only [opI] at h
      split at h
      · rename_i l hh m h1 h2 h3
        obtain ⟨x', h4, h5⟩ := Option.map_eq_some_iff.1 h
        injection h5 with e1 e2; subst e1; subst e2
        exact ⟨x', by simp only [slI, h1, h2, h3, h4], hK⟩
      · cases h
  · rintro ⟨v, h, hK⟩
    refine ⟨v, R, .op (fun c e => by cases e) ?_, hK⟩
    simp only [slI] at h
    simp only [opI]
    split at h
    · rename_i l hh m h1 h2 h3
      simp only [h1, h2, h3, h, Option.map_some]
    · cases h
theorem okRows_nil (sz : Nat) : okRows sz [] = true := rfl
theorem okRows_cons (sz : Nat) (r : List IV) (rs : List (List IV)) : okRows sz (r :: rs) = ((r.length == sz && r.all (okCell [])) && okRows sz rs) := rfl
theorem room_8 {k : TK} {s : Nat} {z : List IV} {n : Nat} (h : n ≤ 17592186044416) : room ⟨k, s, 8, z⟩ n = true := by unfold room; simp; omega
end Go.Iv
set_option linter.unusedVariables false
set_option linter.unusedSimpArgs false
namespace Go.Iv
/-! ### code that is carried out: for what is closed -/
abbrev Cal := FuncId → List IV → Option IV
def runStep (tys : Tys) (cal : Cal) (an : An) (o : Op) (T : List IV) (R : List Reg) : Option (IV × List Reg) :=
  match o with
  | .call ⟨.builtin b, args, ts⟩ => builtinI tys an b ts.toList (args.toList.map (evI T)) R
  | .call ⟨.value g, args, _⟩ => match evI T g with
    | .fn (.func f) first caps => match argsI R (first ++ args.toList.map (evI T) ++ caps) with
      | some (true, xs) => match cal f xs with
        | some y => if an.isImm then impI [] [] R y else none
        | none => none
      | _ => none
    | _ => none
  | .call ⟨.invoke _ _, _, _⟩ => none
  | o => opI tys an o T R
def runOp (tys : Tys) (cal : Cal) (an : An) (all : List Oper) (o : Oper) (T : List IV) (R : List Reg) : Option (List IV × List Reg) :=
  match o.guard with
  | none => match runStep tys cal an o.op T R with
    | some (v, R1) => some (putT T o.dst v, R1)
    | none => none
  | some (j, want) => match yieldI all j with
    | some d => match getT T d with
      | .b x => if x = want then (match runStep tys cal an o.op T R with | some (v, R1) => some (putT T o.dst v, R1) | none => none) else some (putT T o.dst (.tu []), R)
      | .tu _ => some (putT T o.dst (.tu []), R)
      | _ => none
    | none => none
def runOps (tys : Tys) (cal : Cal) (an : Nat → An) (all : List Oper) : Nat → List Oper → List IV → List Reg → Option (List IV × List Reg)
  | _, [], T, R => some (T, R)
  | ix, o :: os, T, R => match runOp tys cal (an ix) all o T R with
    | some (T1, R1) => runOps tys cal an all (ix + 1) os T1 R1
    | none => none
def runPlan (tys : Tys) (cal : Cal) (an : Nat → An) (all : List Oper) : Plan → List IV → List Reg → Option (List IV × List Reg)
  | .done, T, R => some (T, R)
  | .pure i p, T, R => if (an i).isImm then (match all[i]? with
      | some o => match runOp tys cal .imm all o T [] with
        | some (T1, []) => runPlan tys cal an all p T1 R
        | _ => none
      | none => none) else none
  | .read i p, T, R | .one i p, T, R => match all[i]? with
      | some o => match runOp tys cal (an i) all o T R with
        | some (T1, R1) => runPlan tys cal an all p T1 R1
        | _ => none
      | none => none
  | .two .., _, _ => none
def runC (tys : Tys) (cal : Cal) (an : List (Nat × Nat × An)) : Nat → Code → List IV → List Reg → Option (Ex × List IV × List Reg)
  | 0, _, _, _ => none
  | n + 1, c, T, R => match c with
    | .skip | .label _ => some (.n, T, R)
    | .region id ops draw => match (match draw with | false => runOps tys cal (anAt an id) ops.toList 0 ops.toList T R | true => runPlan tys cal (anAt an id) ops.toList (planAt an id) T R) with
      | some (T1, R1) => some (.n, T1, R1)
      | none => none
    | .seq a b => match runC tys cal an n a T R with
      | some (.n, T1, R1) => runC tys cal an n b T1 R1
      | r => r
    | .cond c a b => match evI T c with
      | .b true => runC tys cal an n a T R
      | .b false => runC tys cal an n b T R
      | _ => none
    | .block id body => match runC tys cal an n body T R with
      | some (.x id', T1, R1) => if id' = id then some (.n, T1, R1) else some (.x id', T1, R1)
      | r => r
    | .loop body => match runC tys cal an n body T R with
      | some (.n, T1, R1) => runC tys cal an n (.loop body) T1 R1
      | r => r
    | .exit id => some (.x id, T, R)
    | .ret => some (.r, T, R)
    | _ => none

/-- What the oracle of calls tells is so. -/
def CalOK (E : Env) (cal : Cal) : Prop := ∀ f xs y, cal f xs = some y → E.pc true f xs y []

theorem runStep_out {E : Env} {cal : Cal} (hc : CalOK E cal) {an : An} {o : Op} {T : List IV} {R R1 : List Reg} {v : IV} (h : runStep E.tys cal an o T R = some (v, R1)) : Out E an o T R v R1 := by
  unfold runStep at h
  split at h
  · exact .bi h
  · split at h
    · rename_i hg
      split at h
      · rename_i xs ha
        split at h
        · rename_i y hy
          split at h
          · rename_i him
            have e := isImm_eq him
            subst e
            exact .pc (p := (true, xs)) (q := (v, R1)) (by intro hh; cases hh) hg ha (hc _ _ _ hy) h
          · cases h
        · cases h
      · cases h
    · cases h
  · cases h
  · rename_i h1 h2 h3
    refine .op (fun c e => ?_) h
    subst e
    obtain ⟨callee, args, ts⟩ := c
    cases callee with
    | builtin b => exact h1 b args ts rfl
    | value g => exact h2 g args ts rfl
    | invoke r m => exact h3 r m args ts rfl

theorem runOp_stp {E : Env} {cal : Cal} (hc : CalOK E cal) {an : An} {all : List Oper} {o : Oper} {T T1 : List IV} {R R1 : List Reg} (h : runOp E.tys cal an all o T R = some (T1, R1)) : ∃ v, Stp E an all o T R v R1 ∧ T1 = putT T o.dst v := by
  unfold runOp at h
  split at h
  · rename_i hg
    split at h
    · rename_i v R2 hs
      injection h with h; injection h with e1 e2; subst e1; subst e2
      exact ⟨v, .inl ⟨by simp [wantI, hg], runStep_out hc hs⟩, rfl⟩
    · cases h
  · rename_i j want hg
    split at h
    · rename_i d hd
      split at h
      · rename_i x hx
        split at h
        · rename_i hxw
          split at h
          · rename_i v R2 hs
            injection h with h; injection h with e1 e2; subst e1; subst e2
            exact ⟨v, .inl ⟨by simp [wantI, hg, hd, hx, hxw], runStep_out hc hs⟩, rfl⟩
          · cases h
        · rename_i hxw
          injection h with h; injection h with e1 e2; subst e1; subst e2
          exact ⟨_, .inr ⟨by simp [wantI, hg, hd, hx, hxw], rfl, rfl⟩, rfl⟩
      · rename_i l hx
        injection h with h; injection h with e1 e2; subst e1; subst e2
        exact ⟨_, .inr ⟨by simp [wantI, hg, hd, hx], rfl, rfl⟩, rfl⟩
      · cases h
    · cases h

theorem opsW_stp {E : Env} {an : Nat → An} {all : List Oper} {ix : Nat} {o : Oper} {os : List Oper} {T : List IV} {R : List Reg} {K : List IV → List Reg → Prop} {t : Tok (all, K)} :
    opsW E an all ix (o :: os) T R K t ↔ ∃ v R1, Stp E (an ix) all o T R v R1 ∧ opsW E an all (ix + 1) os (putT T o.dst v) R1 K .mk := by
  rw [← stpW_iff (K := fun T1 R1 => opsW E an all (ix + 1) os T1 R1 K .mk) (t := .mk)]
  obtain ⟨dst, op, ty, pos, after, guard⟩ := o
  cases guard with
  | none => exact Iff.rfl
  | some g => obtain ⟨j, want⟩ := g; exact Iff.rfl

theorem runOps_W {E : Env} {cal : Cal} (hc : CalOK E cal) {an : Nat → An} {all : List Oper} {K : List IV → List Reg → Prop} : ∀ (os : List Oper) (ix : Nat) {T T1 : List IV} {R R1 : List Reg} {t : Tok (all, K)},
    runOps E.tys cal an all ix os T R = some (T1, R1) → K T1 R1 → opsW E an all ix os T R K t
  | [], ix, T, T1, R, R1, t, h, hK => by
    simp only [runOps] at h
    injection h with h; injection h with e1 e2; subst e1; subst e2
    exact hK
  | o :: os, ix, T, T1, R, R1, t, h, hK => by
    simp only [runOps] at h
    split at h
    · rename_i T2 R2 h1
      obtain ⟨v, h2, rfl⟩ := runOp_stp hc h1
      exact opsW_stp.2 ⟨v, R2, h2, runOps_W hc os (ix + 1) h hK⟩
    · cases h

theorem runPlan_W {E : Env} {cal : Cal} (hc : CalOK E cal) {an : Nat → An} {all : List Oper} {K : List IV → List Reg → Prop} : ∀ (p : Plan) {T T1 : List IV} {R R1 : List Reg} {t : Tok (all, K)},
    runPlan E.tys cal an all p T R = some (T1, R1) → K T1 R1 → drawW E an all p T R K t := by
  intro p
  induction p with
  | done =>
    intro T T1 R R1 t h hK
    simp only [runPlan] at h
    injection h with h; injection h with e1 e2; subst e1; subst e2
    exact hK
  | pure i p ih =>
    intro T T1 R R1 t h hK
    simp only [runPlan] at h
    split at h
    · rename_i him
      split at h
      · rename_i o ho
        split at h
        · rename_i T2 h1
          obtain ⟨v, h2, rfl⟩ := runOp_stp hc h1
          simp only [drawW]
          exact onO_iff.2 ⟨o, by rw [if_pos him]; exact ho, stpW_iff.2 ⟨v, [], h2, rfl, ih h hK⟩⟩
        · cases h
      · cases h
    · cases h
  | read i p ih =>
    intro T T1 R R1 t h hK
    simp only [runPlan] at h
    split at h
    · rename_i o ho
      split at h
      · rename_i T2 R2 h1
        obtain ⟨v, h2, rfl⟩ := runOp_stp hc h1
        simp only [drawW]
        exact onO_iff.2 ⟨o, ho, stpW_iff.2 ⟨v, R2, h2, ih h hK⟩⟩
      · cases h
    · cases h
  | one i p ih =>
    intro T T1 R R1 t h hK
    simp only [runPlan] at h
    split at h
    · rename_i o ho
      split at h
      · rename_i T2 R2 h1
        obtain ⟨v, h2, rfl⟩ := runOp_stp hc h1
        simp only [drawW]
        exact onO_iff.2 ⟨o, ho, stpW_iff.2 ⟨v, R2, h2, ih h hK⟩⟩
      · cases h
    · cases h
  | two i p j q ih ih2 =>
    intro T T1 R R1 t h hK
    simp only [runPlan] at h
    cases h

theorem least (p : Nat → Prop) (h : ∃ n, p n) : ∃ n, p n ∧ ∀ k, k < n → ¬ p k := by
  apply Classical.byContradiction
  intro hno
  have all : ∀ n, ¬ p n := by
    intro n
    induction n using Nat.strongRecOn with
    | _ n ih => exact fun hn => hno ⟨n, hn, ih⟩
  obtain ⟨n, hn⟩ := h
  exact all n hn

/-- A loop that ends after so many rounds. -/
theorem W_rounds {E : Env} {an : List (Nat × Nat × An)} {body : Code} {Q : Post} (S : Nat → List IV → List Reg → Prop)
    (step : ∀ n T R, S n T R → W E an body T R (seqK (fun T1 R1 => ∃ n', n' < n ∧ S n' T1 R1) Q .mk) .mk)
    (mono : ∀ (K K' : List IV → List Reg → Prop) T R, (∀ T R, K T R → K' T R) → W E an body T R (seqK K Q .mk) .mk → W E an body T R (seqK K' Q .mk) .mk)
    {n : Nat} {T : List IV} {R : List Reg} (h : S n T R) {t : Tok Q} : W E an (.loop body) T R Q t := by
  classical
  refine ⟨fun T R => ∃ n, S n T R, fun T R => if h : ∃ n, S n T R then Classical.choose (least (fun n => S n T R) h) else 0, ⟨n, h⟩, ?_⟩
  intro T R hI
  have hs := Classical.choose_spec (least (fun n => S n T R) hI)
  refine mono _ _ T R (fun T1 R1 h1 => ?_) (step _ T R hs.1)
  obtain ⟨n', hlt, hS⟩ := h1
  have hI1 : ∃ n, S n T1 R1 := ⟨n', hS⟩
  refine ⟨hI1, ?_⟩
  have hs1 := Classical.choose_spec (least (fun n => S n T1 R1) hI1)
  show (if h : ∃ n, S n T1 R1 then Classical.choose (least (fun n => S n T1 R1) h) else 0) < (if h : ∃ n, S n T R then Classical.choose (least (fun n => S n T R) h) else 0)
  rw [dif_pos hI1, dif_pos hI]
  have : Classical.choose (least (fun n => S n T1 R1) hI1) ≤ n' := by
    rcases Nat.lt_or_ge n' (Classical.choose (least (fun n => S n T1 R1) hI1)) with hl | hl
    · exact absurd hS (hs1.2 n' hl)
    · exact hl
  omega

theorem onO_mono {α : Type} {o : Option α} {K K' : α → Prop} {t : Tok K} {t' : Tok K'} (h : ∀ a, K a → K' a) (hh : onO o K t) : onO o K' t' := by
  obtain ⟨a, h1, h2⟩ := onO_iff.1 hh
  exact onO_iff.2 ⟨a, h1, h _ h2⟩
theorem stpW_mono {E : Env} {an : An} {all : List Oper} {o : Oper} {T : List IV} {R : List Reg} {K K' : List IV → List Reg → Prop} {t : Tok (all, K)} {t' : Tok (all, K')} (h : ∀ T R, K T R → K' T R) (hh : stpW E an all o T R K t) : stpW E an all o T R K' t' := by
  obtain ⟨v, R1, h1, h2⟩ := stpW_iff.1 hh
  exact stpW_iff.2 ⟨v, R1, h1, h _ _ h2⟩
theorem opsW_mono {E : Env} {an : Nat → An} {all : List Oper} {K K' : List IV → List Reg → Prop} (h : ∀ T R, K T R → K' T R) : ∀ (os : List Oper) (ix : Nat) {T : List IV} {R : List Reg} {t : Tok (all, K)} {t' : Tok (all, K')}, opsW E an all ix os T R K t → opsW E an all ix os T R K' t'
  | [], ix, T, R, t, t', hh => h _ _ hh
  | o :: os, ix, T, R, t, t', hh => by
    obtain ⟨v, R1, h1, h2⟩ := opsW_stp.1 hh
    exact opsW_stp.2 ⟨v, R1, h1, opsW_mono h os (ix + 1) h2⟩
theorem drawW_mono {E : Env} {an : Nat → An} {all : List Oper} : ∀ (p : Plan) {K K' : List IV → List Reg → Prop} {T : List IV} {R : List Reg} {t : Tok (all, K)} {t' : Tok (all, K')}, (∀ T R, K T R → K' T R) → drawW E an all p T R K t → drawW E an all p T R K' t' := by
  intro p
  induction p with
  | done => intro K K' T R t t' h hh; exact h _ _ hh
  | pure i p ih => intro K K' T R t t' h hh; simp only [drawW] at hh ⊢; exact onO_mono (fun o ho => stpW_mono (fun T R hq => ⟨hq.1, ih h hq.2⟩) ho) hh
  | read i p ih => intro K K' T R t t' h hh; simp only [drawW] at hh ⊢; exact onO_mono (fun o ho => stpW_mono (fun T R hq => ih h hq) ho) hh
  | one i p ih => intro K K' T R t t' h hh; simp only [drawW] at hh ⊢; exact onO_mono (fun o ho => stpW_mono (fun T R hq => ih h hq) ho) hh
  | two i p j q ih ih2 =>
    intro K K' T R t t' h hh
    simp only [drawW] at hh ⊢
    obtain ⟨T2, R2, h1, h2, h3⟩ := hh
    exact ⟨T2, R2, h1, h2, h _ _ h3⟩
theorem W_mono {E : Env} {an : List (Nat × Nat × An)} : ∀ (c : Code) {T : List IV} {R : List Reg} {Q Q' : Post} {t : Tok Q} {t' : Tok Q'}, (∀ e T R, Q e T R → Q' e T R) → W E an c T R Q t → W E an c T R Q' t' := by
  intro c
  induction c with
  | skip => intro T R Q Q' t t' h hh; exact h _ _ _ hh
  | region id ops draw =>
    intro T R Q Q' t t' h hh
    cases draw with
    | false => exact opsW_mono (fun T R hq => h _ _ _ hq) _ _ hh
    | true => exact drawW_mono _ (fun T R hq => h _ _ _ hq) hh
  | seq a b ih1 ih2 =>
    intro T R Q Q' t t' h hh
    refine ih1 (fun e T R hq => ?_) hh
    cases e with
    | n => exact ih2 h hq
    | x id => exact h _ _ _ hq
    | r => exact h _ _ _ hq
  | cond c a b ih1 ih2 =>
    intro T R Q Q' t t' h hh
    simp only [W] at hh ⊢
    unfold condW at hh ⊢
    split at hh
    · rename_i hc; exact ih1 h hh
    · rename_i hc; exact ih2 h hh
    · exact hh.elim
  | block id b ih =>
    intro T R Q Q' t t' h hh
    refine ih (fun e T R hq => ?_) hh
    cases e with
    | n => exact h _ _ _ hq
    | x id' =>
      simp only [blockK] at hq ⊢
      split
      · rename_i e; rw [if_pos e] at hq; exact h _ _ _ hq
      · rename_i e; rw [if_neg e] at hq; exact h _ _ _ hq
    | r => exact h _ _ _ hq
  | loop b ih =>
    intro T R Q Q' t t' h hh
    obtain ⟨I, m, h0, hs⟩ := hh
    refine ⟨I, m, h0, fun T R hI => ih (fun e T R hq => ?_) (hs T R hI)⟩
    cases e with
    | n => exact hq
    | x id' => exact h _ _ _ hq
    | r => exact h _ _ _ hq
  | exit id => intro T R Q Q' t t' h hh; exact h _ _ _ hh
  | ret => intro T R Q Q' t t' h hh; exact h _ _ _ hh
  | label l => intro T R Q Q' t t' h hh; exact h _ _ _ hh
  | _ => intro T R Q Q' t t' h hh; exact hh.elim

theorem runC_W {E : Env} {cal : Cal} (hc : CalOK E cal) {an : List (Nat × Nat × An)} : ∀ (n : Nat) (c : Code) {T T1 : List IV} {R R1 : List Reg} {e : Ex} {Q : Post} {t : Tok Q},
    runC E.tys cal an n c T R = some (e, T1, R1) → Q e T1 R1 → W E an c T R Q t := by
  intro n
  induction n using Nat.strongRecOn with
  | _ n ih =>
    intro c T T1 R R1 e Q t h hQ
    cases n with
    | zero => cases h
    | succ n =>
      have out : ∀ {a b : Ex × List IV × List Reg}, some a = some b → a = b := fun h => by injection h
      cases c with
      | skip => have := out h; cases this; exact hQ
      | label l => have := out h; cases this; exact hQ
      | exit id => have := out h; cases this; exact hQ
      | ret => have := out h; cases this; exact hQ
      | region id ops draw =>
        simp only [runC] at h
        split at h
        · rename_i T2 R2 h1
          have := out h; cases this
          cases draw with
          | false => exact runOps_W hc _ _ h1 hQ
          | true => exact runPlan_W hc _ h1 hQ
        · cases h
      | seq a b =>
        simp only [runC] at h
        split at h
        · rename_i T2 R2 h1
          exact ih n (Nat.lt_succ_self n) a h1 (ih n (Nat.lt_succ_self n) b h hQ)
        · rename_i r hne
          refine ih n (Nat.lt_succ_self n) a h ?_
          cases e with
          | n => exact absurd h (hne _ _)
          | x id => exact hQ
          | r => exact hQ
      | cond cc a b =>
        simp only [runC] at h
        simp only [W]
        unfold condW
        split at h
        · rename_i hv; rw [hv]; exact ih n (Nat.lt_succ_self n) a h hQ
        · rename_i hv; rw [hv]; exact ih n (Nat.lt_succ_self n) b h hQ
        · cases h
      | block id body =>
        simp only [runC] at h
        split at h
        · rename_i id' T2 R2 h1
          refine ih n (Nat.lt_succ_self n) body h1 ?_
          split at h
          · rename_i e; have := out h; cases this; simp only [blockK]; rw [if_pos e]; exact hQ
          · rename_i e; have := out h; cases this; simp only [blockK]; rw [if_neg e]; exact hQ
        · rename_i r hne
          refine ih n (Nat.lt_succ_self n) body h ?_
          cases e with
          | n => exact hQ
          | x id' => exact absurd h (hne _ _ _)
          | r => exact hQ
      | loop body =>
        refine W_rounds (fun k T R => k ≤ n + 1 ∧ runC E.tys cal an k (.loop body) T R = some (e, T1, R1)) ?_ (fun K K' T R hKK => W_mono body (fun e T R hq => by cases e <;> first | exact hKK _ _ hq | exact hq)) (n := n + 1) ⟨Nat.le_refl _, h⟩
        rintro k T R ⟨hk, hr⟩
        cases k with
        | zero => cases hr
        | succ k =>
          simp only [runC] at hr
          split at hr
          · rename_i T2 R2 h1
            exact ih k (by omega) body h1 ⟨k, Nat.lt_succ_self k, by omega, hr⟩
          · rename_i r hne
            refine ih k (by omega) body hr ?_
            cases e with
            | n => exact absurd hr (hne _ _)
            | x id => exact hQ
            | r => exact hQ
      | _ => cases h

def runF (tys : Tys) (cal : Cal) (an : List (Nat × Nat × An)) (fuel : Nat) (fn : Func) (l : List Nat) (xs : List IV) : Option (IV × List Reg) :=
  match runC tys cal an fuel (bodyOf fn) (initT fn.ntmps xs) [] with
  | some (e, T, R) => match e with
    | .x _ => none
    | _ => match resI tys fn.results.toList T R with
      | some v => impI l R [] v
      | none => none
  | none => none
/-- A closed function, carried out. -/
theorem pcRun {P : Program} {E : Env} (hE : EnvOK P E) (hm : P.follows .mixedOrders = true) {cal : Cal} (hc : CalOK E cal) {f : FuncId} {fn : Func} (hf : P.funcs[f]? = some fn) (hn : (fn.name == "runtime.NumGoroutine") = false) (hb : fn.body.isSome = true)
    (an : List (Nat × Nat × An)) (hok : okC an (bodyOf fn) = true) {xs : List IV} {y : IV} {Rr : List Reg} (l : List Nat) (fuel : Nat) (h : runF E.tys cal an fuel fn l xs = some (y, Rr)) : PC P true f xs y Rr := by
  unfold runF at h
  split at h
  · rename_i e T R hr
    split at h
    · cases h
    · rename_i hne
      split at h
      · rename_i v hv
        refine PC_of_W hE hm hf hn (bodyOf_some fn hb) hok l (t := .mk) (runC_W hc fuel _ hr ?_)
        cases e with
        | n => exact (onO_iff (t := .mk)).2 ⟨v, hv, h⟩
        | x id => exact absurd rfl (hne id)
        | r => exact (onO_iff (t := .mk)).2 ⟨v, hv, h⟩
      · cases h
  · cases h
def noCal : Cal := fun _ _ => none
theorem noCal_ok (E : Env) : CalOK E noCal := fun _ _ _ h => by cases h
end Go.Iv
