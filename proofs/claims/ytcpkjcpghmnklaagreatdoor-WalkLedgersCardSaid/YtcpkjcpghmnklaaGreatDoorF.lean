/- Going through code by rules: the steps as they are taken in proofs. -/
import Derived.Test.YtcpkjcpghmnklaaGreatDoorE
import Derived.KernelRfl
import Derived.Lib.Mul64
set_option linter.all false

/- Going through code by rules: the steps as they are taken in proofs. -/
namespace Go.AM
open Go

def optP {α : Type} (o : Option α) (k : α → Prop) : Prop := ∃ x, o = some x ∧ k x
theorem optP_some {α : Type} {x : α} {k : α → Prop} : optP (some x) k = k x := propext ⟨fun ⟨_, h, hk⟩ => by cases h; exact hk, fun h => ⟨x, rfl, h⟩⟩
theorem optP_none {α : Type} {k : α → Prop} : optP none k = False := propext ⟨fun ⟨_, h, _⟩ => (by cases h), False.elim⟩
@[congr] theorem optP_congr {α : Type} {o o' : Option α} {k : α → Prop} (h : o = o') : optP o k = optP o' k := by rw [h]

section
variable {E : Env} {T : Tr Ctr} {n : Nat} {ro : Option Nat}

@[congr] theorem OpsTo_congr {ops : Array Oper} {os : List Oper} {a a' : A} {σ σ' : St} {Q : A → St → Prop} (h : a = a') (h' : σ = σ') : OpsTo E T n ops os a σ Q = OpsTo E T n ops os a' σ' Q := by rw [h, h']
@[congr] theorem CodeTo_congr {c : Code} {a a' : A} {σ σ' : St} {Q : Ex → A → St → Prop} (h : a = a') (h' : σ = σ') : CodeTo E T n c ro a σ Q = CodeTo E T n c ro a' σ' Q := by rw [h, h']
@[congr] theorem CallTo_congr {f : FuncId} {l l' : List V} {σ σ' : St} {Q : V → St → Prop} (h : l = l') (h' : σ = σ') : CallTo E T f l σ Q = CallTo E T f l' σ' Q := by rw [h, h']
@[congr] theorem DrawTo_congr {ops : Array Oper} {ss : List PStep} {d d' : DS} {a a' : A} {σ σ' : St} {Q : A → St → Prop} (hd : d = d') (h : a = a') (h' : σ = σ') : DrawTo E T n ops ss d a σ Q = DrawTo E T n ops ss d' a' σ' Q := by rw [hd, h, h']

/-- The slot that tells whether an operation is made. -/
def gslot (ops : Array Oper) (o : Oper) : Option (Nat × Bool) :=
  match o.guard with
  | none => none
  | some (j, w) => match ops[j]? with
    | some g => match g.dst with
      | some d => some (d, w)
      | none => none
    | none => none

theorem gc_slot {ops : Array Oper} {o : Oper} {d : Nat} {w : Bool} (h : gslot ops o = some (d, w)) (tm : Tr V) : (gc ops o).run tm = isB w (sl tm d) := by
  unfold gslot at h
  unfold gc sl
  split at h
  · cases h
  · rename_i j w' hg
    rw [hg]
    dsimp only
    split at h
    · rename_i g hj
      rw [hj]
      dsimp only
      split at h
      · rename_i d' hd
        cases h
        rw [hd]
        dsimp only
        cases tm.get d <;> rfl
      · cases h
    · cases h

/-- 'k': of a region's operation, by the kernel: how it goes. -/
noncomputable def opCls (E : Env) (n : Nat) (o : Oper) : Option Cls := bcase (dstOk n o.dst) (some (clsOf E o.op)) none

theorem opCls_dst {o : Oper} {c : Cls} (h : opCls E n o = some c) : dstOk n o.dst = true ∧ clsOf E o.op = c := by
  unfold opCls at h
  rw [bcase_eq] at h
  split at h
  · rename_i hd; cases h; exact ⟨hd, rfl⟩
  · cases h

variable {tm : Tr V} {df : List Dfr} {σ : St} {ops : Array Oper} {o : Oper} {os : List Oper} {Q : A → St → Prop}

theorem goV (hc : opCls E n o = some .value) (hg : o.guard = none) (h : optP ((vc E o.op).run tm σ) fun v => OpsTo E T n ops os (A.put ⟨tm, df⟩ o.dst v) σ Q) : OpsTo E T n ops (o :: os) ⟨tm, df⟩ σ Q :=
  let ⟨_, h1, h2⟩ := h
  let ⟨h3, h4⟩ := opCls_dst hc
  opsTo_val (gc_none hg) (by unfold isVal; rw [h4]) h3 h1 h2
theorem goR (hc : opCls E n o = some .reads) (hg : o.guard = none) (h : optP ((vc E o.op).run tm σ) fun v => OpsTo E T n ops os (A.put ⟨tm, df⟩ o.dst v) σ Q) : OpsTo E T n ops (o :: os) ⟨tm, df⟩ σ Q :=
  let ⟨_, h1, h2⟩ := h
  let ⟨h3, h4⟩ := opCls_dst hc
  opsTo_val (gc_none hg) (by unfold isVal; rw [h4]) h3 h1 h2
theorem goM (hc : opCls E n o = some .makes) (hg : o.guard = none) (h : optP ((ac E o.op).run tm) fun m => OpsTo E T n ops os (A.put ⟨tm, df⟩ o.dst (m.how.v σ.next)) (σ.new m.blk) Q) : OpsTo E T n ops (o :: os) ⟨tm, df⟩ σ Q :=
  let ⟨_, h1, h2⟩ := h
  let ⟨h3, h4⟩ := opCls_dst hc
  opsTo_make (gc_none hg) (by unfold isCls; rw [h4]; rfl) h3 h1 h2

/-- What comes of what an operation asks for. -/
def outTo (E : Env) (T : Tr Ctr) (σ : St) (x : Out) (k : V → St → Prop) : Prop :=
  match x with
  | .val v σ' => k v σ'
  | .call f args => CallTo E T f args σ k
  | .round l args => ∃ m r, roundF (evT E T m) l args σ = some r ∧ k r.v r.σ
  | .defer _ _ => False
theorem outTo_val {v : V} {σ' : St} {k : V → St → Prop} : outTo E T σ (.val v σ') k = k v σ' := rfl
theorem outTo_call {f : FuncId} {args : List V} {k : V → St → Prop} : outTo E T σ (.call f args) k = CallTo E T f args σ k := rfl

theorem goA (hc : opCls E n o = some .acts) (hg : (gc ops o).run tm = true) (h : optP ((wc E o.op).run tm σ) fun x => outTo E T σ x fun v σ' => OpsTo E T n ops os (A.put ⟨tm, df⟩ o.dst v) σ' Q) : OpsTo E T n ops (o :: os) ⟨tm, df⟩ σ Q := by
  obtain ⟨x, h1, h2⟩ := h
  obtain ⟨h3, h4⟩ := opCls_dst hc
  have hk : isCls E o .acts = true := by unfold isCls; rw [h4]; rfl
  cases x with
  | val v σ' => exact opsTo_act hg hk h3 h1 h2
  | call f args => exact opsTo_call hg hk h3 h1 h2
  | round l args => exact opsTo_round hg hk h3 h1 h2
  | defer f args => exact h2.elim

/-- .. where it is made only if a slot says so. -/
theorem goVg {d : Nat} {w : Bool} (hc : opCls E n o = some .value) (hg : gslot ops o = some (d, w)) (hb : isB w (sl tm d) = true) (h : optP ((vc E o.op).run tm σ) fun v => OpsTo E T n ops os (A.put ⟨tm, df⟩ o.dst v) σ Q) : OpsTo E T n ops (o :: os) ⟨tm, df⟩ σ Q :=
  let ⟨_, h1, h2⟩ := h
  let ⟨h3, h4⟩ := opCls_dst hc
  opsTo_val (by rw [gc_slot hg]; exact hb) (by unfold isVal; rw [h4]) h3 h1 h2
theorem goRg {d : Nat} {w : Bool} (hc : opCls E n o = some .reads) (hg : gslot ops o = some (d, w)) (hb : isB w (sl tm d) = true) (h : optP ((vc E o.op).run tm σ) fun v => OpsTo E T n ops os (A.put ⟨tm, df⟩ o.dst v) σ Q) : OpsTo E T n ops (o :: os) ⟨tm, df⟩ σ Q :=
  let ⟨_, h1, h2⟩ := h
  let ⟨h3, h4⟩ := opCls_dst hc
  opsTo_val (by rw [gc_slot hg]; exact hb) (by unfold isVal; rw [h4]) h3 h1 h2
theorem goAg {d : Nat} {w : Bool} (hc : opCls E n o = some .acts) (hg : gslot ops o = some (d, w)) (hb : isB w (sl tm d) = true) (h : optP ((wc E o.op).run tm σ) fun x => outTo E T σ x fun v σ' => OpsTo E T n ops os (A.put ⟨tm, df⟩ o.dst v) σ' Q) : OpsTo E T n ops (o :: os) ⟨tm, df⟩ σ Q :=
  goA hc (by rw [gc_slot hg]; exact hb) h
theorem goS {d : Nat} {w : Bool} {c : Cls} (hc : opCls E n o = some c) (hg : gslot ops o = some (d, w)) (hb : isB w (sl tm d) = false) (h : OpsTo E T n ops os (A.put ⟨tm, df⟩ o.dst undefV) σ Q) : OpsTo E T n ops (o :: os) ⟨tm, df⟩ σ Q :=
  opsTo_skip (by rw [gc_slot hg]; exact hb) (opCls_dst hc).1 h

/-! ### Operands, forced values -/
theorem opc_sl (t : Nat) : (opc E (.tmp t)).get tm = some (sl tm t) := by
  show optE (tm.get t) (some undefV) some = some (optE (tm.get t) undefV id)
  cases tm.get t <;> rfl
theorem opc_const (v : Value) : (opc E (.const v)).get tm = ofVal 3 v := by
  unfold opc
  dsimp only
  cases ofVal 3 v <;> rfl
theorem opc_global {g : Nat} (h : g < E.gl) : (opc E (.global g)).get tm = some (.p (some (g, 0))) := by
  unfold opc
  have : Nat.blt g E.gl = true := by simpa using h
  dsimp only
  rw [this]
theorem opc_func (f : FuncId) : (opc E (.func f)).get tm = some (.f (.func f) [] []) := rfl
theorem bindV_go {α : Type} {v : V} {f : V → Option α} : bindV (some v) f = f v := rfl
theorem opcs_nil {α : Type} {k : List V → Option α} : opcs E [] tm k = k [] := rfl
theorem opcs_cons {α : Type} {x : Operand} {xs : List Operand} {k : List V → Option α} : opcs E (x :: xs) tm k = bindV ((opc E x).get tm) fun v => opcs E xs tm fun vs => k (v :: vs) := rfl
theorem ofVal_int (m : Nat) (k : IntKind) (x : Int) : ofVal (m + 1) (.int k x) = some (.i k x) := by unfold ofVal; exact forceI_eq _ _
theorem ofVal_bool (m : Nat) (x : Bool) : ofVal (m + 1) (.bool x) = some (.b x) := rfl
theorem ofVal_pnil (m : Nat) : ofVal (m + 1) (.pointer none) = some (.p none) := rfl
theorem ofVal_snil (m l c : Nat) : ofVal (m + 1) (.slice none l c) = some (.sl none l (.ex c)) := rfl
theorem ofVal_str (m : Nat) (s : ByteArray) : ofVal (m + 1) (.string s) = some (.s (s.data.toList.map UInt8.toNat)) := by unfold ofVal; exact forceL_eq _ _
theorem ofVal_mnil (m : Nat) : ofVal (m + 1) (.map none) = some (.m none) := rfl
theorem ofVal_nilFunc (m : Nat) : ofVal (m + 1) .nilFunc = some .nf := rfl
theorem ofVal_nilIface (m : Nat) : ofVal (m + 1) .nilIface = some .ni := rfl
theorem ptr_go {α : Type} {i o : Nat} {k : Nat → Nat → Option α} : ptr (.p (some (i, o))) k = k i o := rfl
theorem natV_go {α : Type} {k : IntKind} {m : Nat} {f : Nat → Option α} : natV (.i k (.ofNat m)) f = f m := rfl
theorem natV_cast {α : Type} {k : IntKind} {m : Nat} {f : Nat → Option α} : natV (.i k (m : Int)) f = f m := rfl
theorem bin2_int {fi : IC} {fs : SC} {fo : B2} {k : IntKind} {x y : Int} {σ : St} : bin2 fi fs fo (.i k x) (.i k y) σ = fi.run k x y := by
  show bcase (kEq k k) _ _ = _
  rw [show kEq k k = true by cases k <;> rfl]; rfl
theorem bin2_str {fi : IC} {fs : SC} {fo : B2} {x y : List Nat} {σ : St} : bin2 fi fs fo (.s x) (.s y) σ = fs.run x y := rfl
theorem eqI_dec (x y : Int) : eqI x y = decide (x = y) := by rw [eqI_eq]; rfl
end
end Go.AM

/- Words for a seat's tables. -/
namespace Go.AM
open Go

theorem ofList_get {α : Type} {l : Array α} {n : Nat} {x : α} (h : (Tr.ofList l.toList 0 .nil).get n = some x) : l[n]? = some x := by
  rw [Tr.get_ofList] at h
  simp only [Nat.not_lt_zero, if_false, Nat.sub_zero] at h
  split at h
  · simpa using h
  · cases h
theorem ofList_mem {α : Type} {l : Array α} {n : Nat} {x : α} (h : (Tr.ofList l.toList 0 .nil).get n = some x) : x ∈ l.toList := by
  have := ofList_get h
  exact List.mem_of_getElem? (by simpa using this)

theorem info_get {P : Program} {t : TypeId} {i : TypeInfo} (h : P.types[t]? = some i) : P.info? t = some i := by
  have hlt : t < P.types.size := by
    rcases Nat.lt_or_ge t P.types.size with x | x
    · exact x
    · rw [Array.getElem?_eq_none x] at h; cases h
  show Tables.info? _ t = some i
  unfold Tables.info?
  rw [if_pos hlt]
  exact h

/-- A test of all that stands in a store. -/
noncomputable def allG {α : Type} (p : Nat → α → Bool) (t : Tr α) : (Nat → Nat) → Bool :=
  Tr.rec (fun _ => true) (fun _ v _ gl gr f => bcase (optE v true fun x => p (f 0) x) (bcase (gl fun n => f (Nat.succ (Nat.mul 2 n))) (gr fun n => f (Nat.succ (Nat.succ (Nat.mul 2 n)))) false) false) t
noncomputable def allT {α : Type} (p : Nat → α → Bool) (t : Tr α) : Bool := allG p t id

theorem allG_get {α : Type} {p : Nat → α → Bool} : ∀ {t : Tr α} {f : Nat → Nat} {n : Nat} {x : α}, allG p t f = true → t.get n = some x → p (f n) x = true := by
  intro t
  induction t with
  | nil => intro f n x _ h; cases h
  | nd l v r ihl ihr =>
    intro f n x h hg
    have h' : bcase (optE v true fun x => p (f 0) x) (bcase (allG p l fun n => f (Nat.succ (Nat.mul 2 n))) (allG p r fun n => f (Nat.succ (Nat.succ (Nat.mul 2 n)))) false) false = true := h
    simp only [bcase_eq] at h'
    split at h'
    · rename_i h1
      split at h'
      · rename_i h2
        cases n with
        | zero =>
          rw [Tr.get_zero] at hg
          subst hg
          exact h1
        | succ n =>
          rw [Tr.get_succ'] at hg
          split at hg
          · rename_i hn
            have := ihl h2 hg
            have e : Nat.succ (Nat.mul 2 (n / 2)) = n + 1 := by show 2 * (n / 2) + 1 = _; omega
            simpa only [e] using this
          · rename_i hn
            have := ihr h' hg
            have e : Nat.succ (Nat.succ (Nat.mul 2 (n / 2))) = n + 1 := by show 2 * (n / 2) + 1 + 1 = _; omega
            simpa only [e] using this
      · cases h'
    · cases h'
theorem allT_get {α : Type} {p : Nat → α → Bool} {t : Tr α} {n : Nat} {x : α} (h : allT p t = true) (hg : t.get n = some x) : p n x = true := allG_get h hg

theorem nothing_row {E : Env} {g : Nat} {f : Func} (h1 : E.fn.get g = some f) (h2 : f.body = none) (h3 : Extern.findNext f = none)
    (h4 : Extern.find f = some (fun _ => do mark .disable; pure Extern.Race.none_) ∨ Extern.find f = some (fun _ => do mark .enable; pure Extern.Race.none_)) :
    ∃ fn row, E.fn.get g = some fn ∧ fn.body = none ∧ Extern.findNext fn = none ∧ Extern.find fn = some row ∧ RowAt .nothing row := by
  rcases h4 with h4 | h4
  · exact ⟨f, _, h1, h2, h3, h4, .of (.nothing _ fun args P w => rfl)⟩
  · exact ⟨f, _, h1, h2, h3, h4, .of (.nothing _ fun args P w => rfl)⟩

theorem at_row {E : Env} {g : Nat} {f : Func} (h1 : E.fn.get g = some f) (h2 : f.body = none) (h3 : Extern.findNext f = none)
    (h4 : Extern.find f = some (Extern.Race.marked .acquire) ∨ Extern.find f = some (Extern.Race.marked .release) ∨ Extern.find f = some (Extern.Race.marked .releaseMerge)) :
    ∃ fn row, E.fn.get g = some fn ∧ fn.body = none ∧ Extern.findNext fn = none ∧ Extern.find fn = some row ∧ RowAt .at_ row := by
  rcases h4 with h4 | h4 | h4 <;> exact ⟨f, _, h1, h2, h3, h4, .of (.at_ _)⟩
end Go.AM

/- Going through code by rules: words for the steps ('go_sem'). -/
namespace Go.AM
open Go

/-- An operation's class, by its form alone ('none': it hangs on a type). -/
def clsS (o : Op) : Option Cls :=
  match o with
  | .move _ | .assign _ | .pick .. | .nilCheck _ | .unOp .. | .makeInterface .. | .makeFunc .. | .slice .. | .fieldAddr .. | .field .. | .indexAddr .. | .index .. | .extract .. | .build .. | .typeAssert .. => some .value
  | .binOp op .. => match op with | .eql | .neq => some .reads | _ => some .value
  | .load .. | .lookup .. | .entry _ => some .reads
  | .convert .. => none
  | .call c => match c.callee with
    | .builtin b => match b with
      | .len => some .reads
      | .cap | .min | .max => some .value
      | _ => some .acts
    | _ => some .acts
  | .alloc _ | .box .. | .buildSlice .. | .makeMap .. => some .makes
  | _ => some .acts

theorem clsS_ok {E : Env} {o : Op} {c : Cls} (h : clsS o = some c) : clsOf E o = c := by
  cases o with
  | binOp op _ _ _ _ => cases op <;> (cases h; rfl)
  | call c =>
    obtain ⟨callee, _, _⟩ := c
    cases callee with
    | builtin b => cases b <;> (cases h; rfl)
    | value f => cases h; rfl
    | invoke r m => cases h; rfl
  | convert _ _ _ => cases h
  | _ => cases h; rfl

/-- .. and that its slot is one of the frame's. -/
def opS (n : Nat) (o : Oper) : Option Cls := if dstOk n o.dst then clsS o.op else none
theorem opS_ok {E : Env} {n : Nat} {o : Oper} {c : Cls} (h : opS n o = some c) : opCls E n o = some c := by
  unfold opS at h
  split at h
  · rename_i hd
    unfold opCls
    rw [hd, bcase_true, clsS_ok h]
  · cases h

section
variable {E : Env} {T : Tr Ctr} {n : Nat} {tm : Tr V} {df : List Dfr} {σ : St} {ops : Array Oper} {o : Oper} {os : List Oper} {Q : A → St → Prop}

theorem sV (hc : opS n o = some .value) (hg : o.guard = none) (h : optP ((vc E o.op).run tm σ) fun v => OpsTo E T n ops os (A.put ⟨tm, df⟩ o.dst v) σ Q) : OpsTo E T n ops (o :: os) ⟨tm, df⟩ σ Q := goV (opS_ok hc) hg h
theorem sR (hc : opS n o = some .reads) (hg : o.guard = none) (h : optP ((vc E o.op).run tm σ) fun v => OpsTo E T n ops os (A.put ⟨tm, df⟩ o.dst v) σ Q) : OpsTo E T n ops (o :: os) ⟨tm, df⟩ σ Q := goR (opS_ok hc) hg h
theorem sM (hc : opS n o = some .makes) (hg : o.guard = none) (h : optP ((ac E o.op).run tm) fun m => OpsTo E T n ops os (A.put ⟨tm, df⟩ o.dst (m.how.v σ.next)) (σ.new m.blk) Q) : OpsTo E T n ops (o :: os) ⟨tm, df⟩ σ Q := goM (opS_ok hc) hg h
theorem sA (hc : opS n o = some .acts) (hg : o.guard = none) (h : optP ((wc E o.op).run tm σ) fun x => outTo E T σ x fun v σ' => OpsTo E T n ops os (A.put ⟨tm, df⟩ o.dst v) σ' Q) : OpsTo E T n ops (o :: os) ⟨tm, df⟩ σ Q := goA (opS_ok hc) (gc_none hg) h
theorem sVg {d : Nat} {w : Bool} (hc : opS n o = some .value) (hg : gslot ops o = some (d, w)) (hb : isB w (sl tm d) = true) (h : optP ((vc E o.op).run tm σ) fun v => OpsTo E T n ops os (A.put ⟨tm, df⟩ o.dst v) σ Q) : OpsTo E T n ops (o :: os) ⟨tm, df⟩ σ Q := goVg (opS_ok hc) hg hb h
theorem sRg {d : Nat} {w : Bool} (hc : opS n o = some .reads) (hg : gslot ops o = some (d, w)) (hb : isB w (sl tm d) = true) (h : optP ((vc E o.op).run tm σ) fun v => OpsTo E T n ops os (A.put ⟨tm, df⟩ o.dst v) σ Q) : OpsTo E T n ops (o :: os) ⟨tm, df⟩ σ Q := goRg (opS_ok hc) hg hb h
theorem sMg {d : Nat} {w : Bool} (hc : opS n o = some .makes) (hg : gslot ops o = some (d, w)) (hb : isB w (sl tm d) = true) (h : optP ((ac E o.op).run tm) fun m => OpsTo E T n ops os (A.put ⟨tm, df⟩ o.dst (m.how.v σ.next)) (σ.new m.blk) Q) : OpsTo E T n ops (o :: os) ⟨tm, df⟩ σ Q := by
  obtain ⟨m, h1, h2⟩ := h
  obtain ⟨h3, h4⟩ := opCls_dst (opS_ok (E := E) hc)
  exact opsTo_make (by rw [gc_slot hg]; exact hb) (by unfold isCls; rw [h4]; rfl) h3 h1 h2
theorem sAg {d : Nat} {w : Bool} (hc : opS n o = some .acts) (hg : gslot ops o = some (d, w)) (hb : isB w (sl tm d) = true) (h : optP ((wc E o.op).run tm σ) fun x => outTo E T σ x fun v σ' => OpsTo E T n ops os (A.put ⟨tm, df⟩ o.dst v) σ' Q) : OpsTo E T n ops (o :: os) ⟨tm, df⟩ σ Q := goAg (opS_ok hc) hg hb h
theorem sS {d : Nat} {w : Bool} (hd : dstOk n o.dst = true) (hg : gslot ops o = some (d, w)) (hb : isB w (sl tm d) = false) (h : OpsTo E T n ops os (A.put ⟨tm, df⟩ o.dst undefV) σ Q) : OpsTo E T n ops (o :: os) ⟨tm, df⟩ σ Q :=
  opsTo_skip (by rw [gc_slot hg]; exact hb) hd h

/-! ### Steps that are often met -/
theorem vc_mv {x : Operand} : (vc E (.move x)).run tm σ = (opc E x).get tm := rfl
theorem vc_as {x : Operand} : (vc E (.assign x)).run tm σ = (opc E x).get tm := rfl
end

section ints
variable {k : IntKind} {x y : Int}
theorem int_add : (intC .add).run k x y = some (.i k (wr k (x + y))) := retI_eq _ _
theorem int_sub : (intC .sub).run k x y = some (.i k (wr k (x - y))) := retI_eq _ _
theorem int_mul : (intC .mul).run k x y = some (.i k (wr k (x * y))) := retI_eq _ _
theorem int_and : (intC .and).run k x y = some (.i k (sg k (Nat.land (um k x) (um k y)))) := retI_eq _ _
theorem int_or : (intC .or).run k x y = some (.i k (sg k (Nat.lor (um k x) (um k y)))) := retI_eq _ _
theorem int_xor : (intC .xor).run k x y = some (.i k (sg k (Nat.xor (um k x) (um k y)))) := retI_eq _ _
theorem int_eql : (intC .eql).run k x y = some (.b (decide (x = y))) := (retB_eq _).trans (by rw [eqI_dec])
theorem int_neq : (intC .neq).run k x y = some (.b (!decide (x = y))) := (retB_eq _).trans (by rw [eqI_dec])
theorem int_lss : (intC .lss).run k x y = some (.b (decide (x < y))) := (retB_eq _).trans (by rw [ltI_eq])
theorem int_gtr : (intC .gtr).run k x y = some (.b (decide (y < x))) := (retB_eq _).trans (by rw [ltI_eq])
theorem int_leq : (intC .leq).run k x y = some (.b (decide (x ≤ y))) := (retB_eq _).trans (by rw [ltI_eq]; congr 2; rw [Bool.eq_iff_iff]; simp)
theorem int_geq : (intC .geq).run k x y = some (.b (decide (y ≤ x))) := (retB_eq _).trans (by rw [ltI_eq]; congr 2; rw [Bool.eq_iff_iff]; simp)
theorem int_rem : (intC .rem).run k x y = if y = 0 then none else some (.i k (x.tmod y)) := by
  show bcase (eqI y 0) none (retI k (x.tmod y)) = _
  rw [bcase_eq, eqI_dec, retI_eq]
  by_cases h : y = 0 <;> simp [h]
theorem int_quo : (intC .quo).run k x y = if y = 0 then none else some (.i k (wr k (x.tdiv y))) := by
  show bcase (eqI y 0) none (retI k (wr k (x.tdiv y))) = _
  rw [bcase_eq, eqI_dec, retI_eq]
  by_cases h : y = 0 <;> simp [h]

theorem wr_in_i64 (h : -9223372036854775808 ≤ x) (h' : x ≤ 9223372036854775807) : wr .i64 x = x := by
  rw [wr_eq, IntKind.wrap_i64]; omega
theorem wr_u64 (x : Nat) : wr .u64 (x : Int) = ((x % 18446744073709551616 : Nat) : Int) := by rw [wr_eq]; simp [IntKind.wrap, IntKind.bits, IntKind.signed]
theorem um_u64 {x : Nat} (h : x < 18446744073709551616) : um .u64 (x : Int) = x := Nat.mod_eq_of_lt h
theorem um_u32 {x : Nat} (h : x < 4294967296) : um .u32 (x : Int) = x := Nat.mod_eq_of_lt h
theorem um_u8 {x : Nat} (h : x < 256) : um .u8 (x : Int) = x := Nat.mod_eq_of_lt h
theorem sg_u64 {x : Nat} (h : x < 18446744073709551616) : sg .u64 x = (x : Int) := by
  show bcase (Nat.blt x 18446744073709551616) _ _ = _
  rw [bcase_eq, if_pos (by simpa using h)]; rfl
theorem sg_u32 {x : Nat} (h : x < 4294967296) : sg .u32 x = (x : Int) := by
  show bcase (Nat.blt x 4294967296) _ _ = _
  rw [bcase_eq, if_pos (by simpa using h)]; rfl
theorem sg_u8 {x : Nat} (h : x < 256) : sg .u8 x = (x : Int) := by
  show bcase (Nat.blt x 256) _ _ = _
  rw [bcase_eq, if_pos (by simpa using h)]; rfl
theorem shr_nat {k : IntKind} {x : Nat} {n : Nat} (hn : n ≤ bitsOf k) : shrV k (x : Int) (n : Int) = some (.i k ((x / 2 ^ n : Nat) : Int)) := by
  show retI k (shrI (Int.ofNat x) (shN k n)) = _
  rw [retI_eq]
  unfold shN
  rw [bcase_eq, if_pos (by simpa using hn)]
  rfl
theorem shl_nat {k : IntKind} {x : Nat} {n m : Nat} (hn : n ≤ bitsOf k) (hm : 2 ^ n = m) : shlV k (x : Int) (n : Int) = some (.i k (wr k ((m * x : Nat) : Int))) := by
  subst hm
  show retI k (wr k (Int.mul (Int.ofNat (2 ^ shN k n)) (Int.ofNat x))) = _
  rw [retI_eq]
  unfold shN
  rw [bcase_eq, if_pos (by simpa using hn)]
  rfl
end ints

theorem condB {t : Bool} {α : Type} {x y : α} : bcase t x y = if t = true then x else y := bcase_eq _ _ _
theorem sh2_go {f : IntKind → Int → Int → Option V} {k k' : IntKind} {x y : Int} : sh2 f (.i k x) (.i k' y) = f k x y := rfl
theorem isB_t (t : Bool) : isB true (.b t) = t := by cases t <;> rfl
theorem isB_f (t : Bool) : isB false (.b t) = !t := by cases t <;> rfl
theorem isB_undef (w : Bool) : isB w undefV = false := rfl

/-- What is handed back. -/
def tuV : List V → V
  | [] => .tu []
  | [v] => v
  | v :: w :: r => .tu (v :: w :: r)

theorem resC_tmp {E : Env} {tm : Tr V} {σ : St} : ∀ {ts : List Nat} {k : List V → Option VS}, (resC E (ts.map .tmp)).run tm σ k = k (ts.map (sl tm)) := by
  intro ts
  induction ts with
  | nil => intro k; rfl
  | cons t ts ih =>
    intro k
    show bindV ((opc E (.tmp t)).get tm) (fun v => (resC E (ts.map .tmp)).run tm σ fun l => k (v :: l)) = _
    rw [opc_sl, bindV_go, ih]
    rfl

theorem hands_tmp {E : Env} {rs : List ResultVar} {ts : List Nat} {Q : V → St → Prop} {tm : Tr V} {σ : St} {e : Ex} (hrs : rs = ts.map .tmp) (he : match e with | .exit _ => False | _ => True)
    (hq : Q (tuV (ts.map (sl tm))) σ) : Hands E rs Q e ⟨tm, []⟩ σ := by
  refine ⟨he, rfl, ⟨tuV (ts.map (sl tm)), σ⟩, ?_, hq⟩
  subst hrs
  rw [resC_tmp]
  unfold retL
  cases ts.map (sl tm) with
  | nil => rfl
  | cons v l => cases l with
    | nil => rfl
    | cons w l => rfl

/-- At a loop: what holds of the slots whenever a round begins. -/
theorem atLoop {E : Env} {T : Tr Ctr} {n : Nat} {ro : Option Nat} {tm : Tr V} {df : List Dfr} {σ : St} {B : Code} {Q : Ex → A → St → Prop} {α : Type} (I : α → Tr V → St → Prop) (x : α) (h0 : I x tm σ)
    (h : ∀ x tm σ, I x tm σ → CodeTo E T n (.loop B) ro ⟨tm, df⟩ σ Q) : CodeTo E T n (.loop B) ro ⟨tm, df⟩ σ Q := h x tm σ h0

theorem cellsAt_go {α : Type} {σ : St} {id : Nat} {c : List V} {el : TypeId} {md : Mode} {k : List V → Option α} (h : σ.get id = some (.cells c el md)) : cellsAt σ id k = k c := by
  unfold cellsAt; rw [h]
theorem callV_go {g : FuncId} {first cap args : List V} : callV (.f (.func g) first cap) args = some (.call g (first ++ args ++ cap)) := catV_eq _ _ _ _
attribute [go_sem] loadC loadOne loadAgg callV_go List.nil_append List.append_nil List.cons_append

attribute [go_sem] optP_some A.put_none A.put_some opc_sl opc_const opc_func bindV_go opcs_nil opcs_cons ofVal_int ofVal_bool ofVal_pnil ofVal_snil ofVal_str ofVal_mnil ofVal_nilFunc ofVal_nilIface
  ptr_go retI_eq retB_eq bin2_int bin2_str int_add int_sub int_mul int_and int_or int_xor int_eql int_neq int_lss int_gtr int_leq int_geq sh2_go sl_set outTo_val outTo_call
  vc ac wc binC unV forceN_eq forceB_eq forceL_eq forceV_eq forceI_eq isB_t isB_f isB_undef Mk.v builtinC builtinW andThen_normal andThen_exit andThen_ret outOf_normal outOf_exit outOf_ret nth_eq bcase_true bcase_false
end Go.AM

/- Contracts that reckon: words. -/
namespace Go.AM
open Go

/-- Out of a proof by rules: what a call comes to, as a contract's row. -/
theorem callOk_of {E : Env} {P : Program} {T : Tr Ctr} (hok : ∀ m, (evT E T m).Ok E P) {f : FuncId} {args : List V} {σ : St} {r : VS} (h : CallTo E T f args σ fun v σ' => v = r.v ∧ σ' = r.σ)
    {ρ : Pm} {w : World} {cargs : Array Value} (hR : Rel E.gl ρ σ w) (ha : RepL ρ args cargs.toList) : CallOk E P ρ σ w f cargs r := by
  obtain ⟨⟨v, σ'⟩, h1, h2, h3⟩ := h.ok hok hR ha
  cases r
  cases h2; cases h3
  exact h1

theorem add64 (a b : Nat) : wr .u64 ((a : Int) + (b : Int)) = (((a + b) % 18446744073709551616 : Nat) : Int) := by rw [← Int.natCast_add, wr_u64]
theorem mul64 (a b : Nat) : wr .u64 ((a : Int) * (b : Int)) = (((a * b) % 18446744073709551616 : Nat) : Int) := by rw [← Int.natCast_mul, wr_u64]
theorem and64 {a : Nat} (h : a < 18446744073709551616) : sg .u64 (Nat.land (um .u64 (a : Int)) (um .u64 4294967295)) = ((a % 4294967296 : Nat) : Int) := by
  rw [um_u64 h]
  show sg .u64 (a &&& (2 ^ 32 - 1)) = _
  rw [Nat.and_two_pow_sub_one_eq_mod, sg_u64 (by omega)]
theorem shr64_32 (a : Nat) : shrV .u64 (a : Int) 32 = some (.i .u64 ((a / 4294967296 : Nat) : Int)) := shr_nat (k := .u64) (n := 32) (by decide)

noncomputable def nat64 (v : V) (k : Nat → Option VS) : Option VS := match v with
  | .i t n => Int.rec (fun m => bcase (kEq t .u64 && Nat.blt m 18446744073709551616) (k m) none) (fun _ => none) n
  | _ => none
theorem nat64_some {v : V} {k : Nat → Option VS} {r : VS} (h : nat64 v k = some r) : ∃ m : Nat, m < 18446744073709551616 ∧ v = .i .u64 (m : Int) ∧ k m = some r := by
  unfold nat64 at h
  split at h
  · rename_i t n
    cases n with
    | ofNat m =>
      have h : bcase (kEq t .u64 && Nat.blt m 18446744073709551616) (k m) none = some r := h
      rw [bcase_eq] at h
      split at h
      · rename_i hb
        simp only [Bool.and_eq_true] at hb
        exact ⟨m, by simpa using hb.2, by rw [kEq_iff hb.1]; rfl, h⟩
      · cases h
    | negSucc m => cases h
  · cases h

/-- (x * y) as two words. -/
noncomputable def mulC : Ctr := ⟨fun args σ => match args with
  | [a, b] => nat64 a fun x => nat64 b fun y => forceN (x * y / 18446744073709551616) fun hi => forceN (x * y % 18446744073709551616) fun lo => some ⟨.tu [.i .u64 (.ofNat hi), .i .u64 (.ofNat lo)], σ⟩
  | _ => none⟩
noncomputable def squaredN (x n : Nat) : Bool := let p := x * x; Nat.blt (p / 18446744073709551616) n || (Nat.beq (p / 18446744073709551616) n && Nat.beq (p % 18446744073709551616) 0)
noncomputable def squaredC : Ctr := ⟨fun args σ => match args with
  | [a, b] => nat64 a fun x => nat64 b fun n => forceB (squaredN x n) fun r => some ⟨.b r, σ⟩
  | _ => none⟩
noncomputable def cubedS (x : Nat) : Nat := (x * x % 18446744073709551616 * x / 18446744073709551616 + x * x / 18446744073709551616 * x % 18446744073709551616) % 18446744073709551616
noncomputable def cubedN (x n : Nat) : Bool := Nat.blt (cubedS x) (4294967296 * n % 18446744073709551616) || (Nat.beq (cubedS x) (4294967296 * n % 18446744073709551616) && Nat.beq (x * x % 18446744073709551616 * x % 18446744073709551616) 0)
noncomputable def cubedC : Ctr := ⟨fun args σ => match args with
  | [a, b] => nat64 a fun x => nat64 b fun n => forceB (cubedN x n) fun r => some ⟨.b r, σ⟩
  | _ => none⟩

/-- The last number of which something is not above, bit by bit. -/
noncomputable def leastN (p : Nat → Bool) (j : Nat) : Nat → Nat :=
  Nat.rec (fun x => x) (fun j ih x => forceN (Nat.lor x (2 ^ j)) fun y => bcase (p y) (ih y) (ih x)) j
theorem leastN_zero (p : Nat → Bool) (x : Nat) : leastN p 0 x = x := rfl
theorem leastN_succ (p : Nat → Bool) (j x : Nat) : leastN p (j + 1) x = if p (x ||| 2 ^ j) = true then leastN p j (x ||| 2 ^ j) else leastN p j x := by
  show (forceN (Nat.lor x (2 ^ j)) fun y => bcase (p y) (leastN p j y) (leastN p j x)) = _
  rw [forceN_eq, bcase_eq]
  rfl

/-- A word of 32 bits, turned. -/
noncomputable def rotN (x s : Nat) : Nat := Nat.lor (2 ^ s * x % 4294967296) (x / 2 ^ (32 - s))
noncomputable def nat32 (v : V) (k : Nat → Option VS) : Option VS := match v with
  | .i t n => Int.rec (fun m => bcase (kEq t .u32 && Nat.blt m 4294967296) (k m) none) (fun _ => none) n
  | _ => none
theorem nat32_some {v : V} {k : Nat → Option VS} {r : VS} (h : nat32 v k = some r) : ∃ m : Nat, m < 4294967296 ∧ v = .i .u32 (m : Int) ∧ k m = some r := by
  unfold nat32 at h
  split at h
  · rename_i t n
    cases n with
    | ofNat m =>
      have h : bcase (kEq t .u32 && Nat.blt m 4294967296) (k m) none = some r := h
      rw [bcase_eq] at h
      split at h
      · rename_i hb
        simp only [Bool.and_eq_true] at hb
        exact ⟨m, by simpa using hb.2, by rw [kEq_iff hb.1]; rfl, h⟩
      · cases h
    | negSucc m => cases h
  · cases h
noncomputable def rotS (k : Int) : Nat := Nat.land (um .u64 (wr .u64 k)) 31
noncomputable def rotC : Ctr := ⟨fun args σ => match args with
  | [a, b] => nat32 a fun x => match b with
    | .i t k => bcase (kEq t .i64) (forceN (rotS k) fun s => forceN (rotN x s) fun r => some ⟨.i .u32 (.ofNat r), σ⟩) none
    | _ => none
  | _ => none⟩
/-- One bit down. -/
noncomputable def halfN (r : Nat) : Nat := bcase (Nat.beq (Nat.land r 1) 1) (Nat.xor (r / 2) 2197175160) (r / 2)
noncomputable def halfC : Ctr := ⟨fun args σ => match args with
  | [a] => nat32 a fun x => forceN (halfN x) fun r => some ⟨.i .u32 (.ofNat r), σ⟩
  | _ => none⟩
/-- The roots. -/
noncomputable def leastC (cub sq : FuncId) : Ctr := ⟨fun args σ => match args with
  | [.f (.func g) [] [.p (some (id, 0))]] => match σ.get id with
    | some (.cells (.i t n :: _) _ _) => nat64 (.i t n) fun n =>
      bcase (Nat.beq g cub) (forceN (leastN (fun x => cubedN x n) 37 0) fun r => some ⟨.i .u64 (.ofNat r), σ⟩)
        (bcase (Nat.beq g sq) (forceN (leastN (fun x => squaredN x n) 37 0) fun r => some ⟨.i .u64 (.ofNat r), σ⟩) none)
    | _ => none
  | _ => none⟩
theorem lor_bit {x j : Nat} (hj : j < 37) (hx : x < 137438953472) : x ||| 2 ^ j < 137438953472 := by
  have : (137438953472 : Nat) = 2 ^ 37 := by decide
  rw [this] at hx ⊢
  exact Nat.or_lt_two_pow hx (Nat.pow_lt_pow_right (by decide) hj)
end Go.AM

/- A call that was gone through once, over the memory that it looks at: a contract at every memory that holds this. -/
namespace Go.AM
open Go

theorem Goes.over {gl : Nat} {ρ ρ' : Pm} {σ σ₀ σ₁ σ₂ : St} {w w' : World} (h : Rel gl ρ σ w) (hsub : σ₀.Sub σ) (g : Goes gl ρ σ₀ w ρ' σ₁ w') (hn : σ₂.next = σ₁.next)
    (hg : ∀ id b, σ₂.get id = some b → σ₁.get id = some b ∨ (σ.get id = some b ∧ σ₀.get id = none)) : Goes gl ρ σ w ρ' σ₂ w' := by
  have keep : ∀ id b, σ.get id = some b → σ₀.get id = none → ∃ pl, ρ id = some pl ∧ ρ' id = some pl ∧ pl.blk < w.heap.size ∧ ¬ Owned ρ σ₀ pl.blk := by
    intro id b h1 h2
    obtain ⟨pl, o, h3, h4, h5⟩ := h.blk _ _ h1
    refine ⟨pl, h3, g.le _ _ h3, h.bnd _ _ h3, ?_⟩
    rintro ⟨id', b', pl', k1, k2, k3, k4⟩
    rcases h.inj _ _ _ _ _ _ h1 (hsub.2 _ _ k1) h3 k3 k4.symm with e | ⟨_, e⟩
    · subst e; rw [h2] at k1; cases k1
    · rw [k2] at e; cases e
  have apart : ∀ id b id' b' pl, σ₁.get id = some b → σ.get id' = some b' → σ₀.get id' = none → ρ' id = some pl → ρ' id' = some pl → True := fun _ _ _ _ _ _ _ _ _ _ => trivial
  have mixed : ∀ id b id' b' pl pl', σ₁.get id = some b → σ.get id' = some b' → σ₀.get id' = none → ρ' id = some pl → ρ' id' = some pl' → pl.blk = pl'.blk → b.ro = true ∧ b'.ro = true := by
    intro id b id' b' pl pl' h1 h2 h3 r r' hb
    obtain ⟨q, k1, k2, k3, k4⟩ := keep _ _ h2 h3
    rw [k2] at r'; cases r'
    constructor
    · cases hro : b.ro with
      | true => rfl
      | false => exact absurd (g.own _ k3 ⟨id, b, pl, h1, hro, r, hb⟩) k4
    · obtain ⟨i3, b3, p3, e1, e2, e3⟩ := g.trk _ k3 ⟨id, b, pl, h1, r, hb⟩
      rcases h.inj _ _ _ _ _ _ h2 (hsub.2 _ _ e1) k1 e2 e3.symm with e | ⟨e, _⟩
      · subst e; rw [h3] at e1; cases e1
      · exact e
  refine ⟨g.le, ⟨g.rel.glob, fun id pl hp => by rw [hn]; exact g.rel.dom _ _ hp, g.rel.bnd, ?_, ?_⟩, g.size, ?_, ?_, g.os, g.out, g.tape, ?_, by rw [hn, ← hsub.1]; exact g.nxt, fun id pl hp => by rw [← hsub.1]; exact g.new_ id pl hp⟩
  · intro id b h2
    rcases hg _ _ h2 with h3 | ⟨h3, h4⟩
    · exact g.rel.blk _ _ h3
    · obtain ⟨pl, k1, k2, k3, k4⟩ := keep _ _ h3 h4
      obtain ⟨pl', o, e1, e2, e3⟩ := h.blk _ _ h3
      rw [k1] at e1; cases e1
      exact ⟨pl, o, k2, by rw [g.frame _ k3 k4]; exact e2, e3.mono g.le⟩
  · intro id id' b b' pl pl' g1 g2 r1 r2 hb
    rcases hg _ _ g1 with h3 | ⟨h3, h4⟩
    · rcases hg _ _ g2 with h5 | ⟨h5, h6⟩
      · exact g.rel.inj _ _ _ _ _ _ h3 h5 r1 r2 hb
      · exact .inr (mixed _ _ _ _ _ _ h3 h5 h6 r1 r2 hb)
    · rcases hg _ _ g2 with h5 | ⟨h5, h6⟩
      · have := mixed _ _ _ _ _ _ h5 h3 h4 r2 r1 hb.symm
        exact .inr ⟨this.2, this.1⟩
      · obtain ⟨q, k1, k2, _⟩ := keep _ _ h3 h4
        obtain ⟨q', k3, k4, _⟩ := keep _ _ h5 h6
        rw [k2] at r1; cases r1
        rw [k4] at r2; cases r2
        exact h.inj _ _ _ _ _ _ h3 h5 k1 k3 hb
  · rintro i hi ⟨id, b, pl, g1, hro, r, e⟩
    rcases hg _ _ g1 with h3 | ⟨h3, h4⟩
    · obtain ⟨id', b', pl', k1, k2⟩ := g.own i hi ⟨id, b, pl, h3, hro, r, e⟩
      exact ⟨id', b', pl', hsub.2 _ _ k1, k2⟩
    · obtain ⟨q, k1, k2, _⟩ := keep _ _ h3 h4
      rw [k2] at r; cases r
      exact ⟨id, b, pl, h3, hro, k1, e⟩
  · intro i hi ho
    refine g.frame i hi (fun ⟨id', b', pl', k1, k2⟩ => ho ⟨id', b', pl', hsub.2 _ _ k1, k2⟩)
  · rintro i hi ⟨id, b, pl, g1, r, e⟩
    rcases hg _ _ g1 with h3 | ⟨h3, h4⟩
    · obtain ⟨id', b', pl', k1, k2⟩ := g.trk i hi ⟨id, b, pl, h3, r, e⟩
      exact ⟨id', b', pl', hsub.2 _ _ k1, k2⟩
    · obtain ⟨q, k1, k2, _⟩ := keep _ _ h3 h4
      rw [k2] at r; cases r
      exact ⟨id, b, pl, h3, k1, e⟩

theorem Rel.sub {gl : Nat} {ρ : Pm} {σ σ₀ : St} {w : World} (h : Rel gl ρ σ w) (hs : σ₀.Sub σ) : Rel gl ρ σ₀ w :=
  ⟨h.glob, fun id pl hp => by rw [hs.1]; exact h.dom _ _ hp, h.bnd, fun id b hg => h.blk _ _ (hs.2 _ _ hg), fun id id' b b' pl pl' g1 g2 => h.inj _ _ _ _ _ _ (hs.2 _ _ g1) (hs.2 _ _ g2)⟩

/-! ### Are two blocks spelled alike? -/
noncomputable def eqVL (a b : List V) : Bool := eqbL (eqb 8) a b
theorem eqVL_eq {a b : List V} (h : eqVL a b = true) : a = b := eqbL_eq (fun _ _ => eqb_eq 8 _ _) h
noncomputable def eqMd (a b : Mode) : Bool :=
  match a with
  | .ro => match b with | .ro => true | _ => false
  | .ex => match b with | .ex => true | _ => false
  | .ms => match b with | .ms => true | _ => false
  | .op x => match b with | .op y => Nat.beq x y | _ => false
theorem eqMd_eq {a b : Mode} (h : eqMd a b = true) : a = b := by
  cases a <;> cases b <;> first | rfl | (simp [eqMd] at h; done) | (simp only [eqMd, Nat.beq_eq] at h; rw [h])
noncomputable def eqEs : List (V × V × Nat) → List (V × V × Nat) → Bool
  | [], [] => true
  | x :: xs, y :: ys => bcase (eqb 8 x.1 y.1 && eqb 8 x.2.1 y.2.1 && Nat.beq x.2.2 y.2.2) (eqEs xs ys) false
  | _, _ => false
theorem eqEs_eq : ∀ {a b : List (V × V × Nat)}, eqEs a b = true → a = b := by
  intro a
  induction a with
  | nil => intro b h; cases b with
    | nil => rfl
    | cons y ys => simp [eqEs] at h
  | cons x xs ih => intro b h; cases b with
    | nil => simp [eqEs] at h
    | cons y ys =>
      simp only [eqEs, bcase_eq] at h
      split at h
      · rename_i hh
        simp only [Bool.and_eq_true] at hh
        obtain ⟨⟨h1, h2⟩, h3⟩ := hh
        obtain ⟨x1, x2, x3⟩ := x
        obtain ⟨y1, y2, y3⟩ := y
        have e1 := eqb_eq 8 _ _ h1
        have e2 := eqb_eq 8 _ _ h2
        have e3 : x3 = y3 := by simpa using h3
        simp only at e1 e2
        rw [ih h, e1, e2, e3]
      · cases h
noncomputable def eqBlk (x y : Blk) : Bool :=
  match x with
  | .cells c el md => match y with | .cells c' el' md' => eqVL c c' && Nat.beq el el' && eqMd md md' | _ => false
  | .map es k => match y with | .map es' k' => eqEs es es' && Nat.beq k k' | _ => false
  | _ => false
theorem eqBlk_eq {x y : Blk} (h : eqBlk x y = true) : x = y := by
  cases x with
  | cells c el md => cases y with
    | cells c' el' md' =>
      simp only [eqBlk, Bool.and_eq_true] at h
      rw [eqVL_eq h.1.1, eqMd_eq h.2, show el = el' by simpa using h.1.2]
    | _ => simp [eqBlk] at h
  | map es k => cases y with
    | map es' k' =>
      simp only [eqBlk, Bool.and_eq_true] at h
      rw [eqEs_eq h.1, show k = k' by simpa using h.2]
    | _ => simp [eqBlk] at h
  | _ => simp [eqBlk] at h

/-! ### What was gone through once -/
structure Memo where
  n0 : Nat
  args : List V
  pre : List (Nat × Blk)
  v : V
  post : List (Nat × Option Blk)
  n1 : Nat

noncomputable def atId (σ : St) (p : Nat × Blk) : Bool := optE (σ.get p.1) false fun b => eqBlk b p.2
noncomputable def preOk (σ : St) : List (Nat × Blk) → Bool
  | [] => true
  | p :: ps => bcase (atId σ p) (preOk σ ps) false
noncomputable def setAll {α : Type} (h : Tr Blk) : List (Nat × Option Blk) → (Tr Blk → α) → α
  | [], k => k h
  | p :: ps, k => setAll h ps fun h => h.setK p.1 p.2 k
noncomputable def setAllP (h : Tr Blk) : List (Nat × Blk) → Tr Blk
  | [] => h
  | p :: ps => (setAllP h ps).setK p.1 (some p.2) id

noncomputable def Memo.st (m : Memo) : St := { heap := setAllP .nil m.pre, next := m.n0 }
noncomputable def inPost (id : Nat) : List (Nat × Option Blk) → Bool
  | [] => false
  | p :: ps => bcase (Nat.beq p.1 id) true (inPost id ps)
noncomputable def postOk (σ : St) : List (Nat × Option Blk) → Bool
  | [] => true
  | p :: ps => bcase (match p.2 with | some b => atId σ (p.1, b) | none => true) (postOk σ ps) false
noncomputable def keptOk (σ : St) (post : List (Nat × Option Blk)) : List (Nat × Blk) → Bool
  | [] => true
  | p :: ps => bcase (bcase (inPost p.1 post) true (atId σ p)) (keptOk σ post ps) false
/-- Does the run give what the row says? -/
noncomputable def Memo.chk (m : Memo) (r : Option VS) : Bool :=
  optE r false fun r => eqb 8 r.v m.v && Nat.beq r.σ.next m.n1 && postOk r.σ m.post && keptOk r.σ m.post m.pre

noncomputable def Memo.run (m : Memo) (args : List V) (σ : St) : Option VS :=
  bcase (Nat.beq σ.next m.n0 && eqVL args m.args && preOk σ m.pre) (setAll σ.heap m.post fun h => some ⟨m.v, { heap := h, next := m.n1 }⟩) none
noncomputable def memosRun (args : List V) (σ : St) : List Memo → Option VS
  | [] => none
  | m :: ms => optE (m.run args σ) (memosRun args σ ms) some
noncomputable def memosC (l : List Memo) : Ctr := ⟨fun args σ => memosRun args σ l⟩

theorem preOk_get {σ : St} : ∀ {l : List (Nat × Blk)}, preOk σ l = true → ∀ p ∈ l, σ.get p.1 = some p.2 := by
  intro l
  induction l with
  | nil => intro _ p hp; cases hp
  | cons q l ih =>
    intro h p hp
    simp only [preOk, bcase_eq] at h
    split at h
    · rename_i hq
      rcases List.mem_cons.1 hp with rfl | hp
      · unfold atId at hq
        cases hs : σ.get p.1 with
        | none => rw [hs] at hq; cases hq
        | some b => rw [hs, optE_some] at hq; rw [eqBlk_eq hq]
      · exact ih h p hp
    · cases h
theorem setAllP_get {l : List (Nat × Blk)} : ∀ {id : Nat} {b : Blk}, (setAllP .nil l).get id = some b → (id, b) ∈ l := by
  induction l with
  | nil => intro id b h; cases h
  | cons q l ih =>
    intro id b h
    simp only [setAllP, Tr.setK_eq, id_eq, Tr.get_set] at h
    split at h
    · rename_i e; cases h; subst e; exact List.mem_cons_self
    · exact List.mem_cons_of_mem _ (ih h)
noncomputable def setAllL (h : Tr Blk) : List (Nat × Option Blk) → Tr Blk
  | [] => h
  | p :: ps => (setAllL h ps).set p.1 p.2
theorem setAll_eq {α : Type} {h : Tr Blk} : ∀ {l : List (Nat × Option Blk)} {k : Tr Blk → α}, setAll h l k = k (setAllL h l) := by
  intro l
  induction l with
  | nil => intro k; rfl
  | cons p l ih => intro k; simp only [setAll, ih, Tr.setK_eq, setAllL]
theorem setAllL_get {h : Tr Blk} : ∀ {l : List (Nat × Option Blk)} {id : Nat} {b : Blk}, (setAllL h l).get id = some b → (id, some b) ∈ l ∨ (inPost id l = false ∧ h.get id = some b) := by
  intro l
  induction l with
  | nil => intro id b hb; exact .inr ⟨rfl, hb⟩
  | cons p l ih =>
    intro id b hb
    simp only [setAllL, Tr.get_set] at hb
    split at hb
    · rename_i e
      subst e
      left
      obtain ⟨i, x⟩ := p
      simp only at hb
      subst hb
      exact List.mem_cons_self
    · rename_i e
      rcases ih hb with h1 | ⟨h1, h2⟩
      · exact .inl (List.mem_cons_of_mem _ h1)
      · refine .inr ⟨?_, h2⟩
        simp only [inPost, bcase_eq]
        rw [if_neg (by simp; exact fun e' => e e'.symm)]
        exact h1
theorem bcase_and {a b : Bool} (h : bcase a b false = true) : a = true ∧ b = true := by
  cases a
  · cases h
  · exact ⟨rfl, h⟩
theorem atId_get {σ : St} {p : Nat × Blk} (h : atId σ p = true) : σ.get p.1 = some p.2 := by
  unfold atId at h
  cases hs : σ.get p.1 with
  | none => rw [hs] at h; cases h
  | some b => rw [hs, optE_some] at h; rw [eqBlk_eq h]
theorem postOk_get {σ : St} : ∀ {l : List (Nat × Option Blk)}, postOk σ l = true → ∀ id b, (id, some b) ∈ l → σ.get id = some b := by
  intro l
  induction l with
  | nil => intro _ id b h; cases h
  | cons p l ih =>
    intro h id b hm
    obtain ⟨h1, h2⟩ := bcase_and h
    rcases List.mem_cons.1 hm with e | hm
    · subst e
      exact atId_get h1
    · exact ih h2 id b hm
theorem keptOk_get {σ : St} {post : List (Nat × Option Blk)} : ∀ {l : List (Nat × Blk)}, keptOk σ post l = true → ∀ p ∈ l, inPost p.1 post = true ∨ σ.get p.1 = some p.2 := by
  intro l
  induction l with
  | nil => intro _ p h; cases h
  | cons q l ih =>
    intro h p hm
    obtain ⟨h1, h2⟩ := bcase_and h
    rcases List.mem_cons.1 hm with e | hm
    · subst e
      cases hi : inPost p.1 post with
      | true => exact .inl rfl
      | false => rw [hi] at h1; exact .inr (atId_get h1)
    · exact ih h2 p hm

/-- A row that was checked holds at every memory that fits. -/
theorem Memo.ok {E : Env} {P : Program} {T : Tr Ctr} (hok : ∀ m, (evT E T m).Ok E P) {f : FuncId} {fuel : Nat} {m : Memo} (h : m.chk ((evT E T fuel).call f m.args false m.st) = true)
    {args : List V} {σ : St} {vs : VS} (hr : m.run args σ = some vs) {ρ : Pm} {w : World} {cargs : Array Value} (hR : Rel E.gl ρ σ w) (ha : RepL ρ args cargs.toList) : CallOk E P ρ σ w f cargs vs := by
  unfold Memo.run at hr
  rw [bcase_eq] at hr
  split at hr
  · rename_i hc
    simp only [Bool.and_eq_true] at hc
    obtain ⟨⟨hn, harg⟩, hpre⟩ := hc
    have hn : σ.next = m.n0 := by simpa using hn
    have harg := eqVL_eq harg
    subst harg
    rw [setAll_eq] at hr
    cases hr
    unfold Memo.chk at h
    cases hx : (evT E T fuel).call f m.args false m.st with
    | none => rw [hx] at h; cases h
    | some r =>
      rw [hx, optE_some] at h
      simp only [Bool.and_eq_true] at h
      obtain ⟨⟨⟨h1, h2⟩, h3⟩, h4⟩ := h
      have h1 := eqb_eq 8 _ _ h1
      have h2 : r.σ.next = m.n1 := by simpa using h2
      have hsub : m.st.Sub σ := ⟨hn.symm, fun id b hb => preOk_get hpre (id, b) (setAllP_get hb)⟩
      have hgoes : ∀ {ρ' : Pm} {w' : World}, Goes E.gl ρ m.st w ρ' r.σ w' → Goes E.gl ρ σ w ρ' { heap := setAllL σ.heap m.post, next := m.n1 } w' := by
        intro ρ' w' g
        refine g.over hR hsub h2.symm ?_
        intro id b hb
        rcases setAllL_get (show (setAllL σ.heap m.post).get id = some b from hb) with k | ⟨k1, k2⟩
        · exact .inl (postOk_get h3 id b k)
        · cases hs : m.st.get id with
          | none => exact .inr ⟨k2, rfl⟩
          | some b0 =>
            have hmem := setAllP_get hs
            have hb0 : σ.get id = some b0 := preOk_get hpre (id, b0) hmem
            have : b = b0 := by
              have k2' : σ.get id = some b := k2
              rw [hb0] at k2'; exact (Option.some.inj k2').symm
            subst this
            rcases keptOk_get h4 (id, b) hmem with k | k
            · rw [k1] at k; cases k
            · exact .inl k
      have hcall := (hok fuel).call _ _ _ _ hx ρ w cargs (hR.sub hsub) ha
      rcases hcall with ⟨c, w', q1, ρ', g, rr⟩ | ⟨q1, q2⟩
      · exact .inl ⟨c, w', q1, ρ', hgoes g, by rw [← h1]; exact rr⟩
      · refine .inr ⟨q1, q2.mono ?_⟩
        rintro e w' ⟨c, he, ρ', g, rr⟩
        exact ⟨c, he, ρ', hgoes g, by rw [← h1]; exact rr⟩
  · cases hr

theorem memos_ok {E : Env} {P : Program} {f : FuncId} {l : List Memo} (h : ∀ m ∈ l, ∀ args σ vs, m.run args σ = some vs → ∀ ρ w (cargs : Array Value), Rel E.gl ρ σ w → RepL ρ args cargs.toList → CallOk E P ρ σ w f cargs vs) :
    ∀ args σ vs, (memosC l).run args σ = some vs → ∀ ρ w (cargs : Array Value), Rel E.gl ρ σ w → RepL ρ args cargs.toList → CallOk E P ρ σ w f cargs vs := by
  intro args σ vs hr
  replace hr : memosRun args σ l = some vs := hr
  induction l with
  | nil => cases hr
  | cons m ms ih =>
    unfold memosRun at hr
    cases hm : m.run args σ with
    | none => rw [hm, optE_none] at hr; exact ih (fun x hx => h x (List.mem_cons_of_mem _ hx)) hr
    | some r => rw [hm, optE_some] at hr; cases hr; exact h m List.mem_cons_self args σ _ hm
end Go.AM

/- A call that reads known tables alone: a contract at every memory that holds them. -/
namespace Go.AM
open Go

def roB (gl : Nat) (p : Nat × Blk) : Bool := Nat.blt p.1 gl && (match p.2 with | .cells c _ .ro => c.all V.pure | _ => false)

theorem quiet_row {E : Env} {P : Program} {T : Tr Ctr} (hok : ∀ m, (evT E T m).Ok E P) {f : FuncId} {fuel : Nat} {m : Memo} (h : m.chk ((evT E T fuel).call f m.args false m.st) = true)
    (ha : m.args.all V.pure = true) (hv : m.v.pure = true) (hro : m.pre.all (roB E.gl) = true) (hn : E.gl ≤ m.n0) {σ : St} (hσ : ∀ p ∈ m.pre, σ.get p.1 = some p.2)
    {ρ : Pm} {w : World} {cargs : Array Value} (hR : Rel E.gl ρ σ w) (hc : RepL ρ m.args cargs.toList) : CallOk E P ρ σ w f cargs ⟨m.v, σ⟩ := by
  have hget : ∀ id b, m.st.get id = some b → id < E.gl ∧ σ.get id = some b ∧ ∃ c el, b = .cells c el .ro ∧ c.all V.pure = true := by
    intro id b hb
    have hm := setAllP_get hb
    have := List.all_eq_true.1 hro _ hm
    simp only [roB, Bool.and_eq_true] at this
    obtain ⟨h1, h2⟩ := this
    refine ⟨by simpa using h1, hσ _ hm, ?_⟩
    cases b with
    | cells c el md => cases md with
      | ro => exact ⟨c, el, rfl, h2⟩
      | _ => cases h2
    | _ => cases h2
  let j : Nat → Option Nat := fun id => if id < E.gl then some id else none
  have hR0 : Rel E.gl (fun id => (j id).bind ρ) m.st w := by
    refine hR.view j (fun g hg => if_pos hg) (fun id k hk => ?_) (fun id b hb => ?_)
    · show id < m.n0
      by_cases hi : id < E.gl
      · omega
      · simp only [j, if_neg hi] at hk; cases hk
    · obtain ⟨h1, h2, c, el, rfl, h4⟩ := hget _ _ hb
      exact ⟨id, c, el, .ro, if_pos h1, h2, rfl, h4⟩
  unfold Memo.chk at h
  cases hx : (evT E T fuel).call f m.args false m.st with
  | none => rw [hx] at h; cases h
  | some r =>
    rw [hx, optE_some] at h
    simp only [Bool.and_eq_true] at h
    have hv' := eqb_eq 8 _ _ h.1.1.1
    have := (hok fuel).call _ _ _ _ hx _ w cargs hR0 (pure_repL ha hc)
    obtain ⟨v, σ'⟩ := r
    simp only at hv'
    subst hv'
    exact this.quiet hR hv (fun id b hb => by obtain ⟨_, _, c, el, rfl, _⟩ := hget _ _ hb; rfl)

/-- .. as a contract's relation. -/
def quietP (m : Memo) (args : List V) (σ : St) (r : VS) : Prop := args = m.args ∧ (∀ p ∈ m.pre, σ.get p.1 = some p.2) ∧ r = ⟨m.v, σ⟩
end Go.AM

/- Going through code by rules: regions that draw their order; memory words. -/
namespace Go.AM
open Go

def nthO : List Oper → Nat → Option Oper
  | [], _ => none
  | x :: _, 0 => some x
  | _ :: xs, i + 1 => nthO xs i
theorem nthO_eq : ∀ {l : List Oper} {i : Nat}, nthO l i = l[i]? := by
  intro l
  induction l with
  | nil => intro i; rfl
  | cons x xs ih => intro i; cases i with
    | zero => rfl
    | succ i => simp [nthO, ih]
theorem nthO_get {ops : Array Oper} {i : Nat} {o : Oper} (h : nthO ops.toList i = some o) : ops[i]? = some o := by
  rw [nthO_eq] at h; simpa using h

section
variable {E : Env} {T : Tr Ctr} {n : Nat} {tm : Tr V} {df : List Dfr} {σ τ : St} {ops : Array Oper} {s : PStep} {ss : List PStep} {o : Oper} {Q : A → St → Prop} {hist : List St} {fl : List Flt} {mid : Nat} {i back : Nat} {chk : List Nat}

theorem recheck_nil : ∀ {fl : List Flt}, recheck E σ [] fl = true := by
  intro fl
  induction fl with
  | nil => rfl
  | cons f fs ih => exact ih

theorem dV (ho : nthO ops.toList i = some o) (hg : o.guard = none) (hd : dstOk n o.dst = true) (h : optP ((vc E o.op).run tm nilSt) fun v => DrawTo E T n ops ss ⟨hist, fl, mid⟩ (A.put ⟨tm, df⟩ o.dst v) σ Q) : DrawTo E T n ops (⟨i, .value, chk, back⟩ :: ss) ⟨hist, fl, mid⟩ ⟨tm, df⟩ σ Q :=
  let ⟨_, h1, h2⟩ := h
  drawTo_val (nthO_get ho) (gc_none hg) rfl hd h1 h2
theorem dR (ho : nthO ops.toList i = some o) (hg : o.guard = none) (hd : dstOk n o.dst = true) (h : optP ((vc E o.op).run tm τ) fun v => DrawTo E T n ops ss ⟨τ :: hist, ⟨i, o.op, tm, v⟩ :: fl, mid⟩ (A.put ⟨tm, df⟩ o.dst v) σ Q) : DrawTo E T n ops (⟨i, .reads, chk, 0⟩ :: ss) ⟨τ :: hist, fl, mid⟩ ⟨tm, df⟩ σ Q :=
  let ⟨_, h1, h2⟩ := h
  drawTo_read (nthO_get ho) (gc_none hg) rfl hd h1 rfl h2
theorem dM (ho : nthO ops.toList i = some o) (hg : o.guard = none) (hd : dstOk n o.dst = true) (h : optP ((ac E o.op).run tm) fun m => DrawTo E T n ops ss ⟨hist, fl, mid + 1⟩ (A.put ⟨tm, df⟩ o.dst (m.how.v mid)) (σ.put mid m.blk) Q) : DrawTo E T n ops (⟨i, .makes, chk, back⟩ :: ss) ⟨hist, fl, mid⟩ ⟨tm, df⟩ σ Q :=
  let ⟨_, h1, h2⟩ := h
  drawTo_make (nthO_get ho) (gc_none hg) rfl hd h1 h2

/-- What comes of what an operation of such a region asks for. -/
def outD (E : Env) (T : Tr Ctr) (σ : St) (x : Out) (k : V → St → Prop) : Prop :=
  match x with
  | .val v σ' => k v σ'
  | .call f args => CallTo E T f args σ k
  | _ => False
theorem outD_val {v : V} {σ' : St} {k : V → St → Prop} : outD E T σ (.val v σ') k = k v σ' := rfl
theorem outD_call {f : FuncId} {args : List V} {k : V → St → Prop} : outD E T σ (.call f args) k = CallTo E T f args σ k := rfl

theorem dA_ (ho : nthO ops.toList i = some o) (hg : (gc ops o).run tm = true) (hd : dstOk n o.dst = true)
    (h : optP ((wc E o.op).run tm σ) fun x => outD E T σ x fun v σ' => recheck E σ' chk fl = true ∧ σ'.next ≤ big ∧ DrawTo E T n ops ss ⟨σ' :: hist, fl, mid⟩ (A.put ⟨tm, df⟩ o.dst v) σ' Q) : DrawTo E T n ops (⟨i, .acts, chk, back⟩ :: ss) ⟨hist, fl, mid⟩ ⟨tm, df⟩ σ Q := by
  obtain ⟨x, h1, h2⟩ := h
  cases x with
  | val v σ' => obtain ⟨h3, h4, h5⟩ := h2; exact drawTo_act (nthO_get ho) hg rfl hd h1 h3 (by simpa using h4) h5
  | call f args => exact drawTo_call (nthO_get ho) hg rfl hd h1 (CallTo.mono h2 fun v σ' ⟨h3, h4, h5⟩ => ⟨h3, by simpa using h4, h5⟩)
  | round l args => exact h2.elim
  | defer f args => exact h2.elim
theorem dA (ho : nthO ops.toList i = some o) (hg : o.guard = none) (hd : dstOk n o.dst = true)
    (h : optP ((wc E o.op).run tm σ) fun x => outD E T σ x fun v σ' => recheck E σ' chk fl = true ∧ σ'.next ≤ big ∧ DrawTo E T n ops ss ⟨σ' :: hist, fl, mid⟩ (A.put ⟨tm, df⟩ o.dst v) σ' Q) : DrawTo E T n ops (⟨i, .acts, chk, back⟩ :: ss) ⟨hist, fl, mid⟩ ⟨tm, df⟩ σ Q :=
  dA_ ho (gc_none hg) hd h

variable {d : Nat} {w : Bool}
theorem dVg (ho : nthO ops.toList i = some o) (hg : gslot ops o = some (d, w)) (hd : dstOk n o.dst = true) (hb : isB w (sl tm d) = true) (h : optP ((vc E o.op).run tm nilSt) fun v => DrawTo E T n ops ss ⟨hist, fl, mid⟩ (A.put ⟨tm, df⟩ o.dst v) σ Q) : DrawTo E T n ops (⟨i, .value, chk, back⟩ :: ss) ⟨hist, fl, mid⟩ ⟨tm, df⟩ σ Q :=
  let ⟨_, h1, h2⟩ := h
  drawTo_val (nthO_get ho) (by rw [gc_slot hg]; exact hb) rfl hd h1 h2
theorem dRg (ho : nthO ops.toList i = some o) (hg : gslot ops o = some (d, w)) (hd : dstOk n o.dst = true) (hb : isB w (sl tm d) = true) (h : optP ((vc E o.op).run tm τ) fun v => DrawTo E T n ops ss ⟨τ :: hist, ⟨i, o.op, tm, v⟩ :: fl, mid⟩ (A.put ⟨tm, df⟩ o.dst v) σ Q) : DrawTo E T n ops (⟨i, .reads, chk, 0⟩ :: ss) ⟨τ :: hist, fl, mid⟩ ⟨tm, df⟩ σ Q :=
  let ⟨_, h1, h2⟩ := h
  drawTo_read (nthO_get ho) (by rw [gc_slot hg]; exact hb) rfl hd h1 rfl h2
theorem dMg (ho : nthO ops.toList i = some o) (hg : gslot ops o = some (d, w)) (hd : dstOk n o.dst = true) (hb : isB w (sl tm d) = true) (h : optP ((ac E o.op).run tm) fun m => DrawTo E T n ops ss ⟨hist, fl, mid + 1⟩ (A.put ⟨tm, df⟩ o.dst (m.how.v mid)) (σ.put mid m.blk) Q) : DrawTo E T n ops (⟨i, .makes, chk, back⟩ :: ss) ⟨hist, fl, mid⟩ ⟨tm, df⟩ σ Q :=
  let ⟨_, h1, h2⟩ := h
  drawTo_make (nthO_get ho) (by rw [gc_slot hg]; exact hb) rfl hd h1 h2
theorem dAg (ho : nthO ops.toList i = some o) (hg : gslot ops o = some (d, w)) (hd : dstOk n o.dst = true) (hb : isB w (sl tm d) = true)
    (h : optP ((wc E o.op).run tm σ) fun x => outD E T σ x fun v σ' => recheck E σ' chk fl = true ∧ σ'.next ≤ big ∧ DrawTo E T n ops ss ⟨σ' :: hist, fl, mid⟩ (A.put ⟨tm, df⟩ o.dst v) σ' Q) : DrawTo E T n ops (⟨i, .acts, chk, back⟩ :: ss) ⟨hist, fl, mid⟩ ⟨tm, df⟩ σ Q :=
  dA_ ho (by rw [gc_slot hg]; exact hb) hd h
/-- What is not made. -/
theorem dS {c : Cls} (ho : nthO ops.toList i = some o) (hg : gslot ops o = some (d, w)) (hd : dstOk n o.dst = true) (hb : isB w (sl tm d) = false) (hc : c ≠ .makes) (h : DrawTo E T n ops ss ⟨hist, fl, mid⟩ (A.put ⟨tm, df⟩ o.dst undefV) σ Q) : DrawTo E T n ops (⟨i, c, chk, back⟩ :: ss) ⟨hist, fl, mid⟩ ⟨tm, df⟩ σ Q := by
  refine drawTo_skip (nthO_get ho) (by rw [gc_slot hg]; exact hb) hd ?_
  have : skipD (⟨i, c, chk, back⟩ : PStep) ⟨hist, fl, mid⟩ = ⟨hist, fl, mid⟩ := by
    unfold skipD; cases c <;> first | rfl | exact absurd rfl hc
  rw [this]; exact h
end

theorem codeTo_draw0 {E : Env} {T : Tr Ctr} {n : Nat} {ro : Option Nat} {a : A} {σ : St} {id : Nat} {ops : Array Oper} {Q : Ex → A → St → Prop} (p : List PStep) (hp : plan E ops = some p) (h0 : makesIn p = 0) (hb : σ.next ≤ big)
    (h : DrawTo E T n ops p ⟨[σ], [], σ.next⟩ a σ (Q .normal)) : CodeTo E T n (.region id ops true) ro a σ Q := by
  refine codeTo_draw hp (by rw [h0]; exact hb) ?_
  rw [h0]
  exact h

theorem codeTo_drawN {E : Env} {T : Tr Ctr} {n : Nat} {ro : Option Nat} {a : A} {σ : St} {id : Nat} {ops : Array Oper} {Q : Ex → A → St → Prop} (p : List PStep) (k : Nat) (hp : plan E ops = some p) (hk : makesIn p = k) (hb : σ.next + k ≤ big)
    (h : DrawTo E T n ops p ⟨[⟨σ.heap, σ.next + k⟩], [], σ.next⟩ a ⟨σ.heap, σ.next + k⟩ (Q .normal)) : CodeTo E T n (.region id ops true) ro a σ Q := by
  subst hk
  exact codeTo_draw hp hb h

/-- A block that is left by its own exit. -/
theorem codeTo_blockK {E : Env} {T : Tr Ctr} {n : Nat} {ro : Option Nat} {a : A} {σ : St} {id : Nat} {body : Code} {Q : Ex → A → St → Prop} {df : List Dfr} (K : Tr V → St → Prop)
    (h : CodeTo E T n body ro a σ fun e a σ => e = .exit id ∧ ∃ tm, a = ⟨tm, df⟩ ∧ K tm σ) (hk : ∀ tm σ, K tm σ → Q .normal ⟨tm, df⟩ σ) : CodeTo E T n (.block id body) ro a σ Q := by
  refine codeTo_block (h.mono ?_)
  rintro e a σ ⟨rfl, tm, rfl, h⟩
  rw [outOf_exit, if_pos rfl]
  exact hk _ _ h

/-- .. or by a return. -/
theorem codeTo_blockR {E : Env} {T : Tr Ctr} {n : Nat} {ro : Option Nat} {a : A} {σ : St} {id : Nat} {body : Code} {Q : Ex → A → St → Prop} {df : List Dfr} (K R : Tr V → St → Prop)
    (h : CodeTo E T n body ro a σ fun e a σ => ∃ tm, a = ⟨tm, df⟩ ∧ ((e = .exit id ∧ K tm σ) ∨ (e = .ret ∧ R tm σ))) (hk : ∀ tm σ, K tm σ → Q .normal ⟨tm, df⟩ σ) (hr : ∀ tm σ, R tm σ → Q .ret ⟨tm, df⟩ σ) : CodeTo E T n (.block id body) ro a σ Q := by
  refine codeTo_block (h.mono ?_)
  rintro e a σ ⟨tm, rfl, ⟨rfl, h⟩ | ⟨rfl, h⟩⟩
  · rw [outOf_exit, if_pos rfl]
    exact hk _ _ h
  · rw [outOf_ret]
    exact hr _ _ h

/-- A piece of code that ends by itself. -/
theorem codeTo_cut {E : Env} {T : Tr Ctr} {n : Nat} {ro : Option Nat} {a : A} {σ : St} {c : Code} {Q : Ex → A → St → Prop} {df : List Dfr} (K : Tr V → St → Prop)
    (h : CodeTo E T n c ro a σ fun e a σ => e = .normal ∧ ∃ tm, a = ⟨tm, df⟩ ∧ K tm σ) (hk : ∀ tm σ, K tm σ → Q .normal ⟨tm, df⟩ σ) : CodeTo E T n c ro a σ Q := by
  refine h.mono ?_
  rintro e a σ ⟨rfl, tm, rfl, h⟩
  exact hk _ _ h

theorem optP_mk {α : Type} {o : Option α} {k : α → Prop} {x : α} (h : o = some x) (hk : k x) : optP o k := ⟨x, h, hk⟩

/-! ### Memory -/
/-- What was there is there. -/
structure Grow (σ σ' : St) : Prop where
  le : σ.next ≤ σ'.next
  get : ∀ id, id < σ.next → σ'.get id = σ.get id
theorem Grow.refl (σ : St) : Grow σ σ := ⟨Nat.le_refl _, fun _ _ => rfl⟩
theorem Grow.trans {a b c : St} (h : Grow a b) (h' : Grow b c) : Grow a c := ⟨Nat.le_trans h.le h'.le, fun id hid => by rw [h'.get id (Nat.lt_of_lt_of_le hid h.le), h.get id hid]⟩
theorem Grow.new (σ : St) (b : Blk) : Grow σ (σ.new b) := ⟨Nat.le_succ _, fun id hid => by rw [St.get_new, if_neg (by omega)]⟩
theorem Grow.new' {σ₀ σ : St} (h : Grow σ₀ σ) (b : Blk) : Grow σ₀ (σ.new b) := h.trans (Grow.new σ b)
theorem Grow.put {σ₀ σ : St} (h : Grow σ₀ σ) {id : Nat} {b : Blk} (hid : σ₀.next ≤ id) : Grow σ₀ (σ.put id b) := ⟨h.le, fun j hj => by rw [St.get_put, if_neg (by omega), h.get j hj]⟩
theorem Grow.del {σ₀ σ : St} (h : Grow σ₀ σ) {id : Nat} (hid : σ₀.next ≤ id) : Grow σ₀ (σ.del id) := ⟨h.le, fun j hj => by rw [St.get_del, if_neg (by omega), h.get j hj]⟩
theorem Grow.room {σ₀ σ : St} (h : Grow σ₀ σ) {k : Nat} : Grow σ₀ { heap := σ.heap, next := σ.next + k } := ⟨Nat.le_trans h.le (Nat.le_add_right _ _), fun id hid => h.get id hid⟩
theorem St.new_next (σ : St) (b : Blk) : (σ.new b).next = σ.next + 1 := rfl
theorem St.put_next (σ : St) (id : Nat) (b : Blk) : (σ.put id b).next = σ.next := rfl
theorem St.del_next (σ : St) (id : Nat) : (σ.del id).next = σ.next := rfl
theorem St.get_room (σ : St) (k id : Nat) : ({ heap := σ.heap, next := k } : St).get id = σ.get id := rfl

theorem rangeK_go {α : Type} {c : List V} {off n : Nat} {k : List V → Option α} (h : n ≤ c.length - off) : rangeK c off n k = k ((c.drop off).take n) := by
  rw [rangeK, takeK_eq, dropN_eq, if_pos (by simpa using h)]

theorem indexSl_go {s id off len : Nat} {cap : Cap} {i : Nat} (h : i < len) : indexSl s (.sl (some (id, off)) len cap) i = some (.p (some (id, off + i * s))) := by
  unfold indexSl
  dsimp only
  rw [bcase_eq, if_pos (by simpa using h), retP_eq]
theorem indexArr_go {len s id off i : Nat} (h : i < len) : indexArr len s (.p (some (id, off))) i = some (.p (some (id, off + i * s))) := by
  unfold indexArr
  show bcase (Nat.blt i len) (retP id (off + i * s)) none = _
  rw [bcase_eq, if_pos (by simpa using h), retP_eq]

theorem add_i64 {a b : Int} (h : -9223372036854775808 ≤ a + b) (h' : a + b ≤ 9223372036854775807) : wr .i64 (a + b) = a + b := wr_in_i64 h h'
theorem sub_i64 {a b : Int} (h : -9223372036854775808 ≤ a - b) (h' : a - b ≤ 9223372036854775807) : wr .i64 (a - b) = a - b := wr_in_i64 h h'
theorem incr_i64 {a : Nat} (h : a < 9223372036854775807) : wr .i64 ((a : Int) + 1) = ((a + 1 : Nat) : Int) := by rw [wr_in_i64 (by omega) (by omega)]; rfl

theorem bin2_ag {fi : IC} {fs : SC} {fo : B2} {a : List V} {b : V} {σ : St} : bin2 fi fs fo (.ag a) b σ = fo.run (.ag a) b σ := rfl
theorem cellsAt_room {α : Type} {σ : St} {k id : Nat} {f : List V → Option α} : cellsAt { heap := σ.heap, next := k } id f = cellsAt σ id f := rfl
theorem recheck_one {E : Env} {σ : St} {i : Nat} {f : Flt} (h : (vc E f.op).run f.tmps σ = some f.v) (hb : eqb 8 f.v f.v = true) : recheck E σ [i] [f] = true := by
  have hs : sameAt E f σ = true := by unfold sameAt; rw [h]; exact hb
  show bcase (bcase (memN f.idx [i]) (sameAt E f σ) true) true false = true
  rw [hs]
  cases memN f.idx [i] <;> rfl
attribute [go_sem] bin2_ag otherC cellsAt_room
attribute [go_sem] outD_val outD_call natV_cast natV_go indexAddrC fieldAddrC lenC retP_eq ac St.new_next St.put_next St.del_next St.get_room
end Go.AM
