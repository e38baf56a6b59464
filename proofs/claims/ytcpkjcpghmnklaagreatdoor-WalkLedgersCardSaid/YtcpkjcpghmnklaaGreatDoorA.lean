/- The abstract machine's values and memory: addresses are abstract numbers, a placement tells where they lie. -/
import Derived.CallsIn
import Derived.OrdersIn
import Derived.RangeFuncLeaves
import Derived.Laws.IdiomCopy
import Derived.Laws.Cells
set_option linter.all false

/- The abstract machine's values and memory: addresses are abstract numbers, a placement tells where they lie. -/
namespace Go.AM
open Go

/-! ### Cases by the recursors: what the kernel does in one step -/
section
universe u v
noncomputable def bcase {α : Type u} (b : Bool) (x y : α) : α := Bool.rec y x b
@[simp] theorem bcase_true {α : Type u} (x y : α) : bcase true x y = x := rfl
@[simp] theorem bcase_false {α : Type u} (x y : α) : bcase false x y = y := rfl
theorem bcase_eq {α : Type u} (b : Bool) (x y : α) : bcase b x y = if b = true then x else y := by cases b <;> rfl
noncomputable def optE {β : Type v} {α : Type u} (o : Option β) (n : α) (s : β → α) : α := Option.rec n s o
@[simp] theorem optE_none {β : Type v} {α : Type u} (n : α) (s : β → α) : optE none n s = n := rfl
@[simp] theorem optE_some {β : Type v} {α : Type u} (x : β) (n : α) (s : β → α) : optE (some x) n s = s x := rfl
noncomputable def natE {α : Type u} (n : Nat) (z : α) (s : Nat → α) : α := Nat.rec z (fun m _ => s m) n
@[simp] theorem natE_zero {α : Type u} (z : α) (s : Nat → α) : natE 0 z s = z := rfl
@[simp] theorem natE_succ {α : Type u} (n : Nat) (z : α) (s : Nat → α) : natE (n + 1) z s = s n := rfl
end

/-! ### A store by numbers -/
inductive Tr (α : Type) where
  | nil
  | nd (l : Tr α) (v : Option α) (r : Tr α)

namespace Tr
variable {α : Type}
noncomputable def get (t : Tr α) : Nat → Option α :=
  Tr.rec (fun _ => none) (fun _ v _ gl gr n => natE n v fun n => bcase (Nat.beq (Nat.mod n 2) 0) (gl (Nat.div n 2)) (gr (Nat.div n 2))) t
theorem get_nil (n : Nat) : (Tr.nil : Tr α).get n = none := rfl
theorem get_zero (l r : Tr α) (v : Option α) : (Tr.nd l v r).get 0 = v := rfl
theorem get_succ (l r : Tr α) (v : Option α) (n : Nat) : (Tr.nd l v r).get (n + 1) = bcase (Nat.beq (Nat.mod n 2) 0) (l.get (Nat.div n 2)) (r.get (Nat.div n 2)) := rfl

def setF : Nat → Tr α → Nat → Option α → Tr α
  | 0, t, _, _ => t
  | f + 1, t, n, x =>
    match t with
    | .nil =>
      match n with
      | 0 => .nd .nil x .nil
      | n + 1 => if n % 2 = 0 then .nd (setF f .nil (n / 2) x) none .nil else .nd .nil none (setF f .nil (n / 2) x)
    | .nd l v r =>
      match n with
      | 0 => .nd l x r
      | n + 1 => if n % 2 = 0 then .nd (setF f l (n / 2) x) v r else .nd l v (setF f r (n / 2) x)

def set (t : Tr α) (n : Nat) (x : Option α) : Tr α := setF (n + 1) t n x

theorem get_succ' (l r : Tr α) (v : Option α) (n : Nat) : (Tr.nd l v r).get (n + 1) = if n % 2 = 0 then l.get (n / 2) else r.get (n / 2) := by
  rw [get_succ, bcase_eq]
  by_cases h : n % 2 = 0
  · rw [if_pos h, if_pos (by show Nat.beq (n % 2) 0 = true; rw [h]; rfl)]; rfl
  · rw [if_neg h, if_neg (by show ¬ Nat.beq (n % 2) 0 = true; simpa using h)]; rfl

theorem get_setF (f : Nat) : ∀ (t : Tr α) (n : Nat) (x : Option α) (m : Nat), n < f → (setF f t n x).get m = if m = n then x else t.get m := by
  induction f with
  | zero => intro t n x m h; omega
  | succ f ih =>
    intro t n x m h
    cases t with
    | nil =>
      cases n with
      | zero => cases m with
        | zero => simp [setF, get_zero]
        | succ m => simp only [setF, get_succ', get_nil]; simp
      | succ n =>
        simp only [setF]
        by_cases hn : n % 2 = 0
        all_goals
          simp only [hn, if_true, if_false]
          cases m with
          | zero => simp [get_zero, get_nil]
          | succ m =>
            rw [get_succ', get_nil, ih _ _ _ _ (by omega), get_nil, get_nil]
            by_cases hm : m % 2 = 0
            all_goals
              simp only [hm, if_true, if_false]
              by_cases hh : m = n
              · subst hh; simp_all
              · have : ¬ m + 1 = n + 1 := by omega
                simp only [this, if_false]
                try rw [if_neg (by omega)]
    | nd l v r =>
      cases n with
      | zero => cases m with
        | zero => simp [setF, get_zero]
        | succ m => simp only [setF, get_succ']; simp
      | succ n =>
        simp only [setF]
        by_cases hn : n % 2 = 0
        all_goals
          simp only [hn, if_true, if_false]
          cases m with
          | zero => simp [get_zero]
          | succ m =>
            rw [get_succ', get_succ', ih _ _ _ _ (by omega)]
            by_cases hm : m % 2 = 0
            all_goals
              simp only [hm, if_true, if_false]
              by_cases hh : m = n
              · subst hh; simp_all
              · have : ¬ m + 1 = n + 1 := by omega
                simp only [this, if_false]
                try rw [if_neg (by omega)]

theorem get_set (t : Tr α) (n : Nat) (x : Option α) (m : Nat) : (t.set n x).get m = if m = n then x else t.get m :=
  get_setF (n + 1) t n x m (by omega)

/-- A list as a store, its first thing at 'n'. -/
def ofList : List α → Nat → Tr α → Tr α
  | [], _, t => t
  | x :: xs, n, t => ofList xs (n + 1) (t.set n (some x))

theorem get_ofList (l : List α) : ∀ (n : Nat) (t : Tr α) (m : Nat), (ofList l n t).get m = if m < n then t.get m else if m - n < l.length then l[m - n]? else t.get m := by
  induction l with
  | nil => intro n t m; simp [ofList]
  | cons x xs ih =>
    intro n t m
    simp only [ofList, ih, get_set]
    by_cases h : m < n
    · rw [if_pos (by omega), if_neg (by omega), if_pos h]
    · by_cases h1 : m = n
      · subst h1; simp
      · rw [if_neg (by omega), if_neg h]
        have e : m - n = (m - (n + 1)) + 1 := by omega
        by_cases h2 : m - (n + 1) < xs.length
        · rw [if_pos h2, if_pos (by simp; omega), e]; simp
        · rw [if_neg h2, if_neg h1, if_neg (by simp; omega)]
end Tr

/-! ### Values -/
/-- A slice's capacity: a known number, or up to the end of its block, but for 'd' elements. -/
inductive Cap where
  | ex (n : Nat)
  | op (d : Nat)
  deriving DecidableEq

inductive V where
  | b (x : Bool)
  | i (k : IntKind) (n : Int)
  | s (l : List Nat)
  | p (a : Option (Nat × Nat))
  | sl (a : Option (Nat × Nat)) (len : Nat) (cap : Cap)
  | m (r : Option Nat)
  | f (fn : Fn) (first cap : List V)
  | nf
  | if_ (t : TypeId) (v : V)
  | ni
  | ag (cs : List V)
  | tu (vs : List V)

def V.cells : V → List V
  | .ag cs => cs
  | v => [v]

/-- May it stand in one cell? -/
def V.one : V → Bool
  | .ag _ | .tu _ => false
  | _ => true

abbrev undefV : V := .tu []

/-- Where an abstract block lies: its block, its first cell, and how many elements its row can hold. -/
structure Pl where
  blk : Nat
  base : Nat
  cap : Nat

abbrev Pm := Nat → Option Pl

def Pm.le (ρ ρ' : Pm) : Prop := ∀ id pl, ρ id = some pl → ρ' id = some pl
theorem Pm.le_refl (ρ : Pm) : ρ.le ρ := fun _ _ h => h
theorem Pm.le_trans {a b c : Pm} (h : a.le b) (h' : b.le c) : a.le c := fun _ _ h0 => h' _ _ (h _ _ h0)

def Pm.at (ρ : Pm) (id : Nat) (pl : Pl) : Pm := fun j => if j = id then some pl else ρ j
theorem Pm.le_at {ρ : Pm} {id : Nat} {pl : Pl} (h : ρ id = none) : ρ.le (ρ.at id pl) := fun j pl' hj => by
  unfold Pm.at
  by_cases e : j = id
  · subst e; rw [h] at hj; cases hj
  · rw [if_neg e]; exact hj
theorem Pm.at_self {ρ : Pm} {id : Nat} {pl : Pl} : ρ.at id pl id = some pl := by simp [Pm.at]
theorem Pm.at_ne {ρ : Pm} {id j : Nat} {pl : Pl} (h : j ≠ id) : ρ.at id pl j = ρ j := by simp [Pm.at, h]

inductive RepFn (ρ : Pm) : Fn → Fn → Prop
  | func (f : FuncId) : RepFn ρ (.func f) (.func f)
  | yield (l : Nat) (pl : Pl) (h : ρ l = some pl) : RepFn ρ (.yield l) (.yield pl.blk)

theorem RepFn.mono {ρ ρ' : Pm} (h : ρ.le ρ') {a b : Fn} (r : RepFn ρ a b) : RepFn ρ' a b := by
  cases r with
  | func f => exact .func f
  | yield l pl hl => exact .yield l pl (h _ _ hl)

mutual
inductive Rep (ρ : Pm) : V → Value → Prop
  | b (x : Bool) : Rep ρ (.b x) (.bool x)
  | i (k : IntKind) (n : Int) : Rep ρ (.i k n) (.int k n)
  | s (l : List Nat) (ba : ByteArray) (h : ba.data.toList.map UInt8.toNat = l) : Rep ρ (.s l) (.string ba)
  | pn : Rep ρ (.p none) (.pointer none)
  | p (id off : Nat) (pl : Pl) (h : ρ id = some pl) : Rep ρ (.p (some (id, off))) (.pointer (some ⟨pl.blk, pl.base + off, none⟩))
  | sn (len c : Nat) : Rep ρ (.sl none len (.ex c)) (.slice none len c)
  | se (id off len c : Nat) (pl : Pl) (h : ρ id = some pl) : Rep ρ (.sl (some (id, off)) len (.ex c)) (.slice (some ⟨pl.blk, pl.base + off, none⟩) len c)
  | so (id off len d : Nat) (pl : Pl) (h : ρ id = some pl) (hd : d + len ≤ pl.cap) : Rep ρ (.sl (some (id, off)) len (.op d)) (.slice (some ⟨pl.blk, pl.base + off, none⟩) len (pl.cap - d))
  | sz (id off d : Nat) (pl : Pl) (a : Addr) (h : ρ id = some pl) (hd : pl.cap = d) : Rep ρ (.sl (some (id, off)) 0 (.op d)) (.slice (some a) 0 0)
  | mn : Rep ρ (.m none) (.map none)
  | m (id : Nat) (pl : Pl) (h : ρ id = some pl) : Rep ρ (.m (some id)) (.map (some pl.blk))
  | f (fn fn' : Fn) (as cs : List V) (as' cs' : Array Value) (h : RepFn ρ fn fn') (ha : RepL ρ as as'.toList) (hc : RepL ρ cs cs'.toList) : Rep ρ (.f fn as cs) (.func fn' as' cs')
  | nf : Rep ρ .nf .nilFunc
  | if_ (t : TypeId) (v : V) (c : Value) (h : Rep ρ v c) : Rep ρ (.if_ t v) (.iface t c)
  | ni : Rep ρ .ni .nilIface
  | ag (cs : List V) (cs' : Array Value) (h : RepL ρ cs cs'.toList) : Rep ρ (.ag cs) (.agg cs')
  | tu (cs : List V) (cs' : Array Value) (h : RepL ρ cs cs'.toList) : Rep ρ (.tu cs) (.tuple cs')
inductive RepL (ρ : Pm) : List V → List Value → Prop
  | nil : RepL ρ [] []
  | cons (v : V) (c : Value) (vs : List V) (cs : List Value) (h : Rep ρ v c) (hs : RepL ρ vs cs) : RepL ρ (v :: vs) (c :: cs)
end

mutual
theorem Rep.mono {ρ ρ' : Pm} (h : ρ.le ρ') {v : V} {c : Value} : Rep ρ v c → Rep ρ' v c
  | .b x => .b x
  | .i k n => .i k n
  | .s l ba hl => .s l ba hl
  | .pn => .pn
  | .p id off pl hp => .p id off pl (h _ _ hp)
  | .sn len c => .sn len c
  | .se id off len c pl hp => .se id off len c pl (h _ _ hp)
  | .so id off len d pl hp hd => .so id off len d pl (h _ _ hp) hd
  | .sz id off d pl a hp hd => .sz id off d pl a (h _ _ hp) hd
  | .mn => .mn
  | .m id pl hp => .m id pl (h _ _ hp)
  | .f fn fn' as cs as' cs' hf ha hc => .f fn fn' as cs as' cs' (hf.mono h) (RepL.mono h ha) (RepL.mono h hc)
  | .nf => .nf
  | .if_ t v c hv => .if_ t v c (Rep.mono h hv)
  | .ni => .ni
  | .ag cs cs' hc => .ag cs cs' (RepL.mono h hc)
  | .tu cs cs' hc => .tu cs cs' (RepL.mono h hc)
theorem RepL.mono {ρ ρ' : Pm} (h : ρ.le ρ') {vs : List V} {cs : List Value} : RepL ρ vs cs → RepL ρ' vs cs
  | .nil => .nil
  | .cons v c vs cs hv hs => .cons v c vs cs (Rep.mono h hv) (RepL.mono h hs)
end

section lists
variable {ρ : Pm}
theorem RepL.length {vs : List V} : ∀ {cs : List Value}, RepL ρ vs cs → vs.length = cs.length := by
  induction vs with
  | nil => intro cs h; cases h; rfl
  | cons v vs ih => intro cs h; cases h with | cons _ c _ cs _ hs => simp [ih hs]

theorem RepL.get {vs : List V} : ∀ {cs : List Value} {n : Nat} {v : V}, RepL ρ vs cs → vs[n]? = some v → ∃ c, cs[n]? = some c ∧ Rep ρ v c := by
  induction vs with
  | nil => intro cs n v h hv; simp at hv
  | cons x xs ih =>
    intro cs n v h hv
    cases h with
    | cons _ c _ cs hx hs =>
      cases n with
      | zero => simp at hv; subst hv; exact ⟨c, by simp, hx⟩
      | succ n => simp at hv; obtain ⟨c', h1, h2⟩ := ih hs hv; exact ⟨c', by simpa using h1, h2⟩

theorem RepL.append {vs us : List V} : ∀ {cs ds : List Value}, RepL ρ vs cs → RepL ρ us ds → RepL ρ (vs ++ us) (cs ++ ds) := by
  induction vs with
  | nil => intro cs ds h h'; cases h; exact h'
  | cons v vs ih => intro cs ds h h'; cases h with | cons _ c _ cs hv hs => exact .cons _ _ _ _ hv (ih hs h')

theorem RepL.take {vs : List V} : ∀ {cs : List Value} (n : Nat), RepL ρ vs cs → RepL ρ (vs.take n) (cs.take n) := by
  induction vs with
  | nil => intro cs n h; cases h; simp; exact .nil
  | cons v vs ih =>
    intro cs n h
    cases h with
    | cons _ c _ cs hv hs => cases n with
      | zero => simp; exact .nil
      | succ n => simp; exact .cons _ _ _ _ hv (ih n hs)

theorem RepL.drop {vs : List V} : ∀ {cs : List Value} (n : Nat), RepL ρ vs cs → RepL ρ (vs.drop n) (cs.drop n) := by
  induction vs with
  | nil => intro cs n h; cases h; simp; exact .nil
  | cons v vs ih =>
    intro cs n h
    cases h with
    | cons _ c _ cs hv hs => cases n with
      | zero => simp; exact .cons _ _ _ _ hv hs
      | succ n => simp; exact ih n hs

theorem RepL.set {vs : List V} : ∀ {cs : List Value} (n : Nat) {v : V} {c : Value}, RepL ρ vs cs → Rep ρ v c → RepL ρ (vs.set n v) (cs.set n c) := by
  induction vs with
  | nil => intro cs n v c h _; cases h; exact .nil
  | cons x xs ih =>
    intro cs n v c h hv
    cases h with
    | cons _ d _ cs hx hs => cases n with
      | zero => exact .cons _ _ _ _ hv hs
      | succ n => exact .cons _ _ _ _ hx (ih n hs hv)

theorem RepL.replicate {v : V} {c : Value} (h : Rep ρ v c) : ∀ n, RepL ρ (List.replicate n v) (List.replicate n c)
  | 0 => .nil
  | n + 1 => .cons _ _ _ _ h (RepL.replicate h n)

theorem Rep.cells {v : V} {c : Value} (h : Rep ρ v c) : RepL ρ v.cells c.cells.toList := by
  cases h with
  | ag cs cs' h => exact h
  | _ => exact .cons _ _ _ _ (by constructor <;> assumption) .nil
end lists

end Go.AM

/- The abstract machine's memory, and what it says of a world. -/
namespace Go.AM
open Go

/-- How a row of cells is held: read alone; its own whole block; the same, where a string's bytes may begin behind it; its own, up to the block's end ('esz' cells an element). -/
inductive Mode where
  | ro
  | ex
  | ms
  | op (esz : Nat)
  deriving DecidableEq

inductive Blk where
  | cells (c : List V) (el : TypeId) (md : Mode)
  | map (es : List (V × V × Nat)) (clock : Nat)
  | siter (s : List Nat) (pos : Nat)
  | miter (m : Option Nat) (since : Nat) (seen : List Nat) (stepped : Nat)
  | loop (st : LoopState) (pend : Option Code) (n : Nat) (tmps : Tr V) (params : Array Tmp) (assign body : Code) (dfr : Nat)
  | dfd

def Blk.ro : Blk → Bool
  | .cells _ _ .ro => true
  | _ => false

structure St where
  heap : Tr Blk
  next : Nat

noncomputable def St.get (σ : St) (id : Nat) : Option Blk := σ.heap.get id
def St.put (σ : St) (id : Nat) (b : Blk) : St := { σ with heap := σ.heap.set id (some b) }
def St.del (σ : St) (id : Nat) : St := { σ with heap := σ.heap.set id none }
def St.new (σ : St) (b : Blk) : St := { heap := σ.heap.set σ.next (some b), next := σ.next + 1 }

theorem St.get_put (σ : St) (id : Nat) (b : Blk) (j : Nat) : (σ.put id b).get j = if j = id then some b else σ.get j := Tr.get_set _ _ _ _
theorem St.get_del (σ : St) (id j : Nat) : (σ.del id).get j = if j = id then none else σ.get j := Tr.get_set _ _ _ _
theorem St.get_new (σ : St) (b : Blk) (j : Nat) : (σ.new b).get j = if j = σ.next then some b else σ.get j := Tr.get_set _ _ _ _

/-- The cells of a row from 'base' on, 'n' of them. -/
def win (l : List Value) (base n : Nat) : List Value := (l.drop base).take n

inductive RepE (ρ : Pm) : List (V × V × Nat) → List MapEntry → Prop
  | nil : RepE ρ [] []
  | cons (k v : V) (n : Nat) (e : MapEntry) (es : List (V × V × Nat)) (es' : List MapEntry) (hk : Rep ρ k e.key) (hv : Rep ρ v e.val) (hn : e.born = n) (h : RepE ρ es es') :
    RepE ρ ((k, v, n) :: es) (e :: es')

theorem RepE.mono {ρ ρ' : Pm} (h : ρ.le ρ') {es : List (V × V × Nat)} {es' : List MapEntry} (r : RepE ρ es es') : RepE ρ' es es' := by
  induction r with
  | nil => exact .nil
  | cons k v n e es es' hk hv hn _ ih => exact .cons k v n e es es' (hk.mono h) (hv.mono h) hn ih

theorem RepE.length {ρ : Pm} {es : List (V × V × Nat)} {es' : List MapEntry} (r : RepE ρ es es') : es.length = es'.length := by
  induction r with
  | nil => rfl
  | cons _ _ _ _ _ _ _ _ _ _ ih => simp [ih]

def RepMd (pl : Pl) (n : Nat) (arr : Array Value) (frz : Nat × Nat) : Mode → Prop
  | .ro => True
  | .ex => pl.base = 0 ∧ arr.size = n ∧ frz = (0, 0)
  | .ms => pl.base = 0 ∧ arr.size = n ∧ n ≤ frz.1
  | .op esz => pl.base + pl.cap * esz = arr.size ∧ ∀ j, j < arr.size → ¬ (frz.1 ≤ j ∧ j < frz.2)

/-- A frame's slots. -/
noncomputable def slot (t : Tr V) (i : Nat) : V := match t.get i with | some v => v | none => undefV

structure RepT (ρ : Pm) (n : Nat) (t : Tr V) (arr : Array Value) : Prop where
  size : arr.size = n
  get : ∀ i, Rep ρ (slot t i) (arr.getD i undef)

theorem RepT.mono {ρ ρ' : Pm} (h : ρ.le ρ') {n : Nat} {t : Tr V} {arr : Array Value} (r : RepT ρ n t arr) : RepT ρ' n t arr :=
  ⟨r.size, fun i => (r.get i).mono h⟩

inductive RepB (ρ : Pm) : Blk → Pl → Obj → Prop
  | cells (c : List V) (el : TypeId) (md : Mode) (pl : Pl) (arr : Array Value) (frz : Nat × Nat)
      (hc : RepL ρ c (win arr.toList pl.base c.length)) (hm : RepMd pl c.length arr frz md) : RepB ρ (.cells c el md) pl (.cells arr el frz)
  | map (es : List (V × V × Nat)) (clock : Nat) (pl : Pl) (es' : Array MapEntry) (h : RepE ρ es es'.toList) : RepB ρ (.map es clock) pl (.map es' clock)
  | siter (s : List Nat) (pos : Nat) (pl : Pl) (ba : ByteArray) (h : ba.data.toList.map UInt8.toNat = s) (hb : pl.base = 0) : RepB ρ (.siter s pos) pl (.stringIter ba pos)
  | mitern (since : Nat) (seen : List Nat) (stepped : Nat) (pl : Pl) (seen' : Array Nat) (h : seen'.toList = seen) (hb : pl.base = 0) :
      RepB ρ (.miter none since seen stepped) pl (.mapIter none since seen' stepped)
  | miter (id : Nat) (since : Nat) (seen : List Nat) (stepped : Nat) (pl plm : Pl) (seen' : Array Nat) (h : seen'.toList = seen) (hm : ρ id = some plm) (hb : pl.base = 0) :
      RepB ρ (.miter (some id) since seen stepped) pl (.mapIter (some plm.blk) since seen' stepped)
  | loop (st : LoopState) (pend : Option Code) (fn : FuncId) (n : Nat) (tmps : Tr V) (params : Array Tmp) (assign body : Code) (dfr : Nat) (pl pld : Pl) (tmps' : Array Value)
      (ht : RepT ρ n tmps tmps') (hd : ρ dfr = some pld) :
      RepB ρ (.loop st pend n tmps params assign body dfr) pl (.loop { state := st, pending := pend, fn, tmps := tmps', params, assign, body, defers := pld.blk })
  | dfd (pl : Pl) : RepB ρ .dfd pl (.deferred (some []))

theorem RepB.mono {ρ ρ' : Pm} (h : ρ.le ρ') {b : Blk} {pl : Pl} {o : Obj} (r : RepB ρ b pl o) : RepB ρ' b pl o := by
  cases r with
  | cells c el md pl arr frz hc hm => exact .cells c el md pl arr frz (hc.mono h) hm
  | map es clock pl es' he => exact .map es clock pl es' (he.mono h)
  | siter s pos pl ba hs hb => exact .siter s pos pl ba hs hb
  | mitern since seen stepped pl seen' hs hb => exact .mitern since seen stepped pl seen' hs hb
  | miter id since seen stepped pl plm seen' hs hm hb => exact .miter id since seen stepped pl plm seen' hs (h _ _ hm) hb
  | loop st pend fn n tmps params assign body dfr pl pld tmps' ht hd => exact .loop st pend fn n tmps params assign body dfr pl pld tmps' (ht.mono h) (h _ _ hd)
  | dfd pl => exact .dfd pl

structure Rel (gl : Nat) (ρ : Pm) (σ : St) (w : World) : Prop where
  glob : ∀ g, g < gl → ∃ c, ρ g = some ⟨g, 0, c⟩
  dom : ∀ id pl, ρ id = some pl → id < σ.next
  bnd : ∀ id pl, ρ id = some pl → pl.blk < w.heap.size
  blk : ∀ id b, σ.get id = some b → ∃ pl o, ρ id = some pl ∧ w.heap[pl.blk]? = some o ∧ RepB ρ b pl o
  inj : ∀ id id' b b' pl pl', σ.get id = some b → σ.get id' = some b' → ρ id = some pl → ρ id' = some pl' → pl.blk = pl'.blk → id = id' ∨ (b.ro = true ∧ b'.ro = true)

variable {gl : Nat}

theorem Rel.fresh {ρ : Pm} {σ : St} {w : World} (h : Rel gl ρ σ w) : ρ σ.next = none := by
  cases e : ρ σ.next with
  | none => rfl
  | some pl => exact absurd (h.dom _ _ e) (by omega)

theorem Rel.get_next {ρ : Pm} {σ : St} {w : World} (h : Rel gl ρ σ w) : σ.get σ.next = none := by
  cases e : σ.get σ.next with
  | none => rfl
  | some b => obtain ⟨pl, o, hp, _⟩ := h.blk _ _ e; exact absurd (h.dom _ _ hp) (by omega)

/-- The blocks that the abstract memory may write. -/
def Owned (ρ : Pm) (σ : St) (i : Nat) : Prop := ∃ id b pl, σ.get id = some b ∧ b.ro = false ∧ ρ id = some pl ∧ pl.blk = i

/-- The blocks that the abstract memory speaks of. -/
def Tracked (ρ : Pm) (σ : St) (i : Nat) : Prop := ∃ id b pl, σ.get id = some b ∧ ρ id = some pl ∧ pl.blk = i

structure Goes (gl : Nat) (ρ : Pm) (σ : St) (w : World) (ρ' : Pm) (σ' : St) (w' : World) : Prop where
  le : ρ.le ρ'
  rel : Rel gl ρ' σ' w'
  size : w.heap.size ≤ w'.heap.size
  own : ∀ i, i < w.heap.size → Owned ρ' σ' i → Owned ρ σ i
  frame : ∀ i, i < w.heap.size → ¬ Owned ρ σ i → w'.heap[i]? = w.heap[i]?
  os : w'.os = w.os
  out : w'.output = w.output
  tape : w'.tape = w.tape
  trk : ∀ i, i < w.heap.size → Tracked ρ' σ' i → Tracked ρ σ i
  nxt : σ.next ≤ σ'.next
  new_ : ∀ id pl, ρ' id = some pl → ρ id = some pl ∨ σ.next ≤ id

theorem Goes.refl {ρ : Pm} {σ : St} {w : World} (h : Rel gl ρ σ w) : Goes gl ρ σ w ρ σ w :=
  ⟨Pm.le_refl _, h, Nat.le_refl _, fun _ _ h => h, fun _ _ _ => rfl, rfl, rfl, rfl, fun _ _ h => h, Nat.le_refl _, fun _ _ h => .inl h⟩

theorem Goes.trans {ρ ρ₁ ρ₂ : Pm} {σ σ₁ σ₂ : St} {w w₁ w₂ : World} (a : Goes gl ρ σ w ρ₁ σ₁ w₁) (b : Goes gl ρ₁ σ₁ w₁ ρ₂ σ₂ w₂) : Goes gl ρ σ w ρ₂ σ₂ w₂ where
  le := Pm.le_trans a.le b.le
  rel := b.rel
  size := Nat.le_trans a.size b.size
  own := fun i hi ho => a.own i hi (b.own i (Nat.lt_of_lt_of_le hi a.size) ho)
  frame := fun i hi ho => by
    rw [b.frame i (Nat.lt_of_lt_of_le hi a.size) (fun h => ho (a.own i hi h)), a.frame i hi ho]
  os := b.os.trans a.os
  out := b.out.trans a.out
  tape := b.tape.trans a.tape
  trk := fun i hi ho => a.trk i hi (b.trk i (Nat.lt_of_lt_of_le hi a.size) ho)
  nxt := Nat.le_trans a.nxt b.nxt
  new_ := fun id pl h => (b.new_ id pl h).elim (fun h => a.new_ id pl h) (fun h => .inr (Nat.le_trans a.nxt h))

/-- One block of the world is written; nothing else. -/
structure Upd (w : World) (i : Nat) (o : Obj) (w' : World) : Prop where
  size : w'.heap.size = w.heap.size
  self : w'.heap[i]? = some o
  other : ∀ j, j ≠ i → w'.heap[j]? = w.heap[j]?
  os : w'.os = w.os
  out : w'.output = w.output
  tape : w'.tape = w.tape

/-- Only the count of draws has moved. -/
structure Alk (w w' : World) : Prop where
  heap : w'.heap = w.heap
  os : w'.os = w.os
  out : w'.output = w.output
  tape : w'.tape = w.tape

theorem Alk.refl (w : World) : Alk w w := ⟨rfl, rfl, rfl, rfl⟩

theorem Rel.alk {ρ : Pm} {σ : St} {w w' : World} (h : Rel gl ρ σ w) (a : Alk w w') : Rel gl ρ σ w' :=
  ⟨h.glob, h.dom, by rw [a.heap]; exact h.bnd, by rw [a.heap]; exact h.blk, h.inj⟩

theorem Goes.alk {ρ : Pm} {σ : St} {w w' : World} (h : Rel gl ρ σ w) (a : Alk w w') : Goes gl ρ σ w ρ σ w' :=
  ⟨Pm.le_refl _, h.alk a, by rw [a.heap]; exact Nat.le_refl _, fun _ _ h => h, fun _ _ _ => by rw [a.heap], a.os, a.out, a.tape, fun _ _ h => h, Nat.le_refl _, fun _ _ h => .inl h⟩

theorem Goes.new {ρ : Pm} {σ : St} {w : World} {b : Blk} {o : Obj} {pl : Pl} (h : Rel gl ρ σ w) (hp : pl.blk = w.heap.size) (hb : RepB ρ b pl o) :
    Goes gl ρ σ w (ρ.at σ.next pl) (σ.new b) { w with heap := w.heap.push o } := by
  have hle : ρ.le (ρ.at σ.next pl) := Pm.le_at h.fresh
  refine ⟨hle, ⟨fun g hg => let ⟨c, hc⟩ := h.glob g hg; ⟨c, hle _ _ hc⟩, ?_, ?_, ?_, ?_⟩, by simp, ?_, ?_, rfl, rfl, rfl, ?_, Nat.le_succ _, ?_⟩
  · intro id p hid
    show id < σ.next + 1
    unfold Pm.at at hid
    split at hid
    · omega
    · have := h.dom _ _ hid; omega
  · intro id p hid
    simp only [Array.size_push]
    unfold Pm.at at hid
    split at hid
    · cases hid; omega
    · have := h.bnd _ _ hid; omega
  · intro id b' hid
    rw [St.get_new] at hid
    by_cases e : id = σ.next
    · subst e
      rw [if_pos rfl] at hid
      cases hid
      refine ⟨pl, o, Pm.at_self, ?_, hb.mono hle⟩
      simp [hp]
    · rw [if_neg e] at hid
      obtain ⟨p, o', h1, h2, h3⟩ := h.blk _ _ hid
      refine ⟨p, o', hle _ _ h1, ?_, h3.mono hle⟩
      have := h.bnd _ _ h1
      simp only [Array.getElem?_push]
      rw [if_neg (by omega)]
      exact h2
  · intro id id' b1 b2 p1 p2 g1 g2 r1 r2 hb'
    rw [St.get_new] at g1 g2
    unfold Pm.at at r1 r2
    by_cases e1 : id = σ.next
    · by_cases e2 : id' = σ.next
      · exact .inl (e1.trans e2.symm)
      · rw [if_pos e1] at r1; rw [if_neg e2] at r2
        cases r1
        have := h.bnd _ _ r2
        omega
    · by_cases e2 : id' = σ.next
      · rw [if_neg e1] at r1; rw [if_pos e2] at r2
        cases r2
        have := h.bnd _ _ r1
        omega
      · rw [if_neg e1] at r1 g1; rw [if_neg e2] at r2 g2
        exact h.inj _ _ _ _ _ _ g1 g2 r1 r2 hb'
  · rintro i hi ⟨id, b', p, g, hro, r, hi'⟩
    rw [St.get_new] at g
    unfold Pm.at at r
    by_cases e : id = σ.next
    · rw [if_pos e] at r; cases r; omega
    · rw [if_neg e] at r g
      exact ⟨id, b', p, g, hro, r, hi'⟩
  · intro i hi _
    simp only [Array.getElem?_push]
    rw [if_neg (by omega)]
  · rintro i hi ⟨id, b', p, g, r, hi'⟩
    rw [St.get_new] at g
    unfold Pm.at at r
    by_cases e : id = σ.next
    · rw [if_pos e] at r; cases r; omega
    · rw [if_neg e] at r g
      exact ⟨id, b', p, g, r, hi'⟩
  · intro id p hid
    by_cases e : id = σ.next
    · exact .inr (by omega)
    · rw [Pm.at_ne e] at hid; exact .inl hid

theorem Goes.upd {ρ : Pm} {σ : St} {w w' : World} {id : Nat} {b b' : Blk} {o' : Obj} {pl : Pl} (h : Rel gl ρ σ w) (hg : σ.get id = some b) (hro : b.ro = false) (hp : ρ id = some pl)
    (hb : RepB ρ b' pl o') (hw : Upd w pl.blk o' w') : Goes gl ρ σ w ρ (σ.put id b') w' := by
  refine ⟨Pm.le_refl _, ⟨h.glob, h.dom, by rw [hw.size]; exact h.bnd, ?_, ?_⟩, by rw [hw.size]; exact Nat.le_refl _, ?_, ?_, hw.os, hw.out, hw.tape, ?_, Nat.le_refl _, fun _ _ h => .inl h⟩
  · intro j c hj
    rw [St.get_put] at hj
    by_cases e : j = id
    · subst e
      rw [if_pos rfl] at hj; cases hj
      exact ⟨pl, o', hp, hw.self, hb⟩
    · rw [if_neg e] at hj
      obtain ⟨p, o, h1, h2, h3⟩ := h.blk _ _ hj
      refine ⟨p, o, h1, ?_, h3⟩
      rw [hw.other _ ?_]
      · exact h2
      · intro heq
        rcases h.inj _ _ _ _ _ _ hj hg h1 hp heq with e' | ⟨_, e'⟩
        · exact e e'
        · rw [hro] at e'; cases e'
  · intro j j' c c' p p' g g' r r' hpb
    rw [St.get_put] at g g'
    by_cases e : j = id
    · by_cases e' : j' = id
      · exact .inl (e.trans e'.symm)
      · subst e
        rw [if_neg e'] at g'
        rcases h.inj _ _ _ _ _ _ hg g' r r' hpb with x | ⟨x, _⟩
        · exact .inl x
        · rw [hro] at x; cases x
    · by_cases e' : j' = id
      · subst e'
        rw [if_neg e] at g
        rcases h.inj _ _ _ _ _ _ g hg r r' hpb with x | ⟨_, x⟩
        · exact .inl x
        · rw [hro] at x; cases x
      · rw [if_neg e] at g; rw [if_neg e'] at g'
        exact h.inj _ _ _ _ _ _ g g' r r' hpb
  · rintro i _ ⟨j, c, p, g, r, rp, hi⟩
    rw [St.get_put] at g
    by_cases e : j = id
    · subst e; exact ⟨j, b, pl, hg, hro, hp, by rw [hp] at rp; cases rp; exact hi⟩
    · rw [if_neg e] at g; exact ⟨j, c, p, g, r, rp, hi⟩
  · intro i _ ho
    exact hw.other _ (fun e => ho ⟨id, b, pl, hg, hro, hp, e.symm⟩)
  · rintro i _ ⟨j, c, p, g, rp, hi⟩
    rw [St.get_put] at g
    by_cases e : j = id
    · subst e; exact ⟨j, b, pl, hg, hp, by rw [hp] at rp; cases rp; exact hi⟩
    · rw [if_neg e] at g; exact ⟨j, c, p, g, rp, hi⟩

theorem Goes.del {ρ : Pm} {σ : St} {w : World} (id : Nat) (h : Rel gl ρ σ w) : Goes gl ρ σ w ρ (σ.del id) w := by
  refine ⟨Pm.le_refl _, ⟨h.glob, h.dom, h.bnd, ?_, ?_⟩, Nat.le_refl _, ?_, fun _ _ _ => rfl, rfl, rfl, rfl, ?_, Nat.le_refl _, fun _ _ h => .inl h⟩
  · intro j c hj
    rw [St.get_del] at hj
    split at hj
    · cases hj
    · exact h.blk _ _ hj
  · intro j j' c c' p p' g g' r r' hpb
    rw [St.get_del] at g g'
    split at g
    · cases g
    · split at g'
      · cases g'
      · exact h.inj _ _ _ _ _ _ g g' r r' hpb
  · rintro i _ ⟨j, c, p, g, r⟩
    rw [St.get_del] at g
    split at g
    · cases g
    · exact ⟨j, c, p, g, r⟩
  · rintro i _ ⟨j, c, p, g, r⟩
    rw [St.get_del] at g
    split at g
    · cases g
    · exact ⟨j, c, p, g, r⟩

/-- A row that is written in place under a new number: the old number is gone. -/
theorem Goes.renew {ρ : Pm} {σ : St} {w w' : World} {id : Nat} {b b' : Blk} {o' : Obj} {pl pl' : Pl} (h : Rel gl ρ σ w) (hg : σ.get id = some b) (hro : b.ro = false) (hp : ρ id = some pl)
    (hpl : pl'.blk = pl.blk) (hb : RepB ρ b' pl' o') (hw : Upd w pl.blk o' w') : Goes gl ρ σ w (ρ.at σ.next pl') ((σ.del id).new b') w' := by
  have hle : ρ.le (ρ.at σ.next pl') := Pm.le_at h.fresh
  have hne : id ≠ σ.next := by have := h.dom _ _ hp; omega
  have other : ∀ j c p, σ.get j = some c → ρ j = some p → j ≠ id → p.blk ≠ pl.blk := by
    intro j c p g r e heq
    rcases h.inj _ _ _ _ _ _ g hg r hp heq with x | ⟨_, x⟩
    · exact e x
    · rw [hro] at x; cases x
  have gets : ∀ j c, ((σ.del id).new b').get j = some c → (j = σ.next ∧ c = b') ∨ (j ≠ σ.next ∧ j ≠ id ∧ σ.get j = some c) := by
    intro j c hj
    rw [St.get_new, St.get_del] at hj
    by_cases e : j = σ.next
    · have e2 : j = (σ.del id).next := e
      exact .inl ⟨e, by rw [if_pos e2] at hj; cases hj; rfl⟩
    · have e2 : ¬ (j = (σ.del id).next) := e
      rw [if_neg e2] at hj
      split at hj
      · cases hj
      · exact .inr ⟨e, by assumption, hj⟩
  refine ⟨hle, ⟨fun g hg => let ⟨c, hc⟩ := h.glob g hg; ⟨c, hle _ _ hc⟩, ?_, ?_, ?_, ?_⟩, by rw [hw.size]; exact Nat.le_refl _, ?_, ?_, hw.os, hw.out, hw.tape, ?_, Nat.le_succ _, ?_⟩
  · intro j p hj
    show j < σ.next + 1
    unfold Pm.at at hj
    split at hj
    · omega
    · have := h.dom _ _ hj; omega
  · intro j p hj
    rw [hw.size]
    unfold Pm.at at hj
    split at hj
    · cases hj; rw [hpl]; exact h.bnd _ _ hp
    · exact h.bnd _ _ hj
  · intro j c hj
    rcases gets _ _ hj with ⟨rfl, rfl⟩ | ⟨e1, e2, g⟩
    · exact ⟨pl', o', Pm.at_self, by rw [hpl]; exact hw.self, hb.mono hle⟩
    · obtain ⟨p, o, h1, h2, h3⟩ := h.blk _ _ g
      exact ⟨p, o, hle _ _ h1, by rw [hw.other _ (other _ _ _ g h1 e2)]; exact h2, h3.mono hle⟩
  · intro j j' c c' p p' g g' r r' hpb
    rcases gets _ _ g with ⟨rfl, rfl⟩ | ⟨e1, e2, g1⟩
    · rcases gets _ _ g' with ⟨rfl, rfl⟩ | ⟨e1', e2', g1'⟩
      · exact .inl rfl
      · rw [Pm.at_self] at r; cases r
        rw [Pm.at_ne e1'] at r'
        exact absurd (hpb.symm.trans hpl) (other _ _ _ g1' r' e2')
    · rw [Pm.at_ne e1] at r
      rcases gets _ _ g' with ⟨rfl, rfl⟩ | ⟨e1', e2', g1'⟩
      · rw [Pm.at_self] at r'; cases r'
        exact absurd (hpb.trans hpl) (other _ _ _ g1 r e2)
      · rw [Pm.at_ne e1'] at r'
        exact h.inj _ _ _ _ _ _ g1 g1' r r' hpb
  · rintro i _ ⟨j, c, p, g, r, rp, hi⟩
    rcases gets _ _ g with ⟨rfl, rfl⟩ | ⟨e1, e2, g1⟩
    · rw [Pm.at_self] at rp; cases rp
      exact ⟨id, b, pl, hg, hro, hp, by rw [← hpl]; exact hi⟩
    · rw [Pm.at_ne e1] at rp
      exact ⟨j, c, p, g1, r, rp, hi⟩
  · intro i _ ho
    exact hw.other _ (fun e => ho ⟨id, b, pl, hg, hro, hp, e.symm⟩)
  · rintro i _ ⟨j, c, p, g, rp, hi⟩
    rcases gets _ _ g with ⟨rfl, rfl⟩ | ⟨e1, e2, g1⟩
    · rw [Pm.at_self] at rp; cases rp
      exact ⟨id, b, pl, hg, hp, by rw [← hpl]; exact hi⟩
    · rw [Pm.at_ne e1] at rp
      exact ⟨j, c, p, g1, rp, hi⟩
  · intro j p hj
    by_cases e : j = σ.next
    · exact .inr (by omega)
    · rw [Pm.at_ne e] at hj; exact .inl hj

/-! ### Reading -/
theorem win_get (l : List Value) (base n i : Nat) (h : i < n) : (win l base n)[i]? = l[base + i]? := by
  unfold win
  rw [List.getElem?_take, if_pos h, List.getElem?_drop]

theorem Rel.cells {ρ : Pm} {σ : St} {w : World} (h : Rel gl ρ σ w) {id : Nat} {c : List V} {el : TypeId} {md : Mode} (hg : σ.get id = some (.cells c el md)) :
    ∃ pl arr frz, ρ id = some pl ∧ w.heap[pl.blk]? = some (.cells arr el frz) ∧ RepL ρ c (win arr.toList pl.base c.length) ∧ RepMd pl c.length arr frz md := by
  obtain ⟨pl, o, h1, h2, h3⟩ := h.blk _ _ hg
  cases h3 with
  | cells _ _ _ _ arr frz hc hm => exact ⟨pl, arr, frz, h1, h2, hc, hm⟩

/-- One cell. -/
theorem Rel.cell {ρ : Pm} {σ : St} {w : World} (h : Rel gl ρ σ w) {id off : Nat} {c : List V} {el : TypeId} {md : Mode} {v : V} {pl : Pl}
    (hg : σ.get id = some (.cells c el md)) (hv : c[off]? = some v) (hp : ρ id = some pl) : ∃ cv, w.cell? ⟨pl.blk, pl.base + off, none⟩ = some cv ∧ Rep ρ v cv := by
  obtain ⟨pl', arr, frz, h1, h2, h3, h4⟩ := h.cells hg
  rw [hp] at h1; cases h1
  obtain ⟨cv, h5, h6⟩ := h3.get hv
  have hl : off < c.length := by
    rcases Nat.lt_or_ge off c.length with x | x
    · exact x
    · rw [List.getElem?_eq_none x] at hv; cases hv
  rw [win_get _ _ _ _ hl] at h5
  exact ⟨cv, by simp [World.cell?, h2]; simpa using h5, h6⟩

/-- Several cells. -/
theorem Rel.many {ρ : Pm} {σ : St} {w : World} (h : Rel gl ρ σ w) {id off n : Nat} {c : List V} {el : TypeId} {md : Mode} {pl : Pl}
    (hg : σ.get id = some (.cells c el md)) (hn : off + n ≤ c.length) (hp : ρ id = some pl) :
    ∃ cs : List Value, cs.length = n ∧ RepL ρ ((c.drop off).take n) cs ∧ ∀ (P : Program), (loadCells ⟨pl.blk, pl.base + off, none⟩ n).run P w = .ok cs.toArray w := by
  obtain ⟨pl', arr, frz, h1, h2, h3, h4⟩ := h.cells hg
  rw [hp] at h1; cases h1
  have h5 := (h3.drop off).take n
  have hlen : (((win arr.toList pl.base c.length).drop off).take n).length = n := by
    have := h5.length
    rw [← this]
    simp only [List.length_take, List.length_drop]
    omega
  refine ⟨_, hlen, h5, fun P => ?_⟩
  have := run_loadCells_list (P := P) w ⟨pl.blk, pl.base + off, none⟩ (cs := ((win arr.toList pl.base c.length).drop off).take n)
  rw [hlen] at this
  refine this ?_
  · intro j v hj
    have hjn : j < n := by
      rcases Nat.lt_or_ge j n with x | x
      · exact x
      · rw [List.getElem?_eq_none (by rw [hlen]; exact x)] at hj; cases hj
    rw [List.getElem?_take, if_pos hjn, List.getElem?_drop, win_get _ _ _ _ (by omega)] at hj
    have e : (⟨pl.blk, pl.base + off, none⟩ : Addr).add j = ⟨pl.blk, pl.base + off + j, none⟩ := by unfold Addr.add; split <;> simp_all
    rw [e]
    simp only [World.cell?, h2]
    simp only [Option.isSome_none, Bool.false_eq_true, if_false]
    rw [← hj]
    simp [Nat.add_assoc]

end Go.AM

/- The abstract machine's operations on values. Each operation of the code is made into a closure, once:
   the kernel keeps what a closed term comes to. What goes into the memory is numerals and constructors alone ('K': continuations). -/
namespace Go.AM
open Go

/-! ### Forcing -/
section force
variable {α : Type}
noncomputable def forceN (n : Nat) (k : Nat → α) : α := natE n (k 0) fun m => k (Nat.succ m)
theorem forceN_eq (n : Nat) (k : Nat → α) : forceN n k = k n := by cases n <;> rfl
noncomputable def forceI (n : Int) (k : Int → α) : α := Int.rec (fun m => forceN m fun m => k (.ofNat m)) (fun m => forceN m fun m => k (.negSucc m)) n
theorem forceI_eq (n : Int) (k : Int → α) : forceI n k = k n := by cases n <;> simp [forceI, forceN_eq]
noncomputable def forceB (b : Bool) (k : Bool → α) : α := bcase b (k true) (k false)
theorem forceB_eq (b : Bool) (k : Bool → α) : forceB b k = k b := by cases b <;> rfl
noncomputable def forceL (l : List Nat) : (List Nat → α) → α := List.rec (fun k => k []) (fun x _ ih k => forceN x fun x => ih fun xs => k (x :: xs)) l
theorem forceL_eq (l : List Nat) : ∀ (k : List Nat → α), forceL l k = k l := by
  induction l with
  | nil => intro k; rfl
  | cons x xs ih => intro k; show (forceN x fun x => forceL xs fun xs => k (x :: xs)) = _; rw [forceN_eq, ih]
/-- The spine of a list of values. -/
noncomputable def forceV (l : List V) : (List V → α) → α := List.rec (fun k => k []) (fun x _ ih k => ih fun xs => k (x :: xs)) l
theorem forceV_eq (l : List V) : ∀ (k : List V → α), forceV l k = k l := by
  induction l with
  | nil => intro k; rfl
  | cons x xs ih => intro k; show (forceV xs fun xs => k (x :: xs)) = _; rw [ih]

/-- 'vs' over the cells from 'n' on. -/
noncomputable def spl : List V → Nat → List V → List V
  | [], _, _ => []
  | x :: xs, n, vs => match n with
    | 0 => match vs with
      | [] => x :: xs
      | v :: vs => v :: spl xs 0 vs
    | n + 1 => x :: spl xs n vs
noncomputable def splK (l : List V) : Nat → List V → (List V → α) → α :=
  List.rec (fun _ _ k => k []) (fun x xs ih n vs k => natE n (List.rec (k (x :: xs)) (fun v vs _ => ih 0 vs fun xs => k (v :: xs)) vs) fun n => ih n vs fun xs => k (x :: xs)) l
theorem splK_eq (l : List V) : ∀ (n : Nat) (vs : List V) (k : List V → α), splK l n vs k = k (spl l n vs) := by
  induction l with
  | nil => intro n vs k; rfl
  | cons x xs ih =>
    intro n vs k
    cases n with
    | zero => cases vs with
      | nil => rfl
      | cons v vs => show (splK xs 0 vs fun xs => k (v :: xs)) = _; rw [ih]; rfl
    | succ n => show (splK xs n vs fun xs => k (x :: xs)) = _; rw [ih]; rfl

noncomputable def nth (l : List V) : Nat → Option V := List.rec (fun _ => none) (fun x _ ih n => natE n (some x) ih) l
theorem nth_eq (l : List V) : ∀ n, nth l n = l[n]? := by
  induction l with
  | nil => intro n; simp; rfl
  | cons x xs ih => intro n; cases n with
    | zero => rfl
    | succ n => show nth xs n = _; rw [ih]; simp

noncomputable def dropN (l : List V) : Nat → List V := List.rec (fun _ => []) (fun x xs ih n => natE n (x :: xs) ih) l
theorem dropN_eq (l : List V) : ∀ n, dropN l n = l.drop n := by
  induction l with
  | nil => intro n; simp; rfl
  | cons x xs ih => intro n; cases n with
    | zero => rfl
    | succ n => show dropN xs n = _; rw [ih]; simp

noncomputable def takeK (n : Nat) : List V → (List V → Option α) → Option α :=
  Nat.rec (fun _ k => k []) (fun _ ih l k => List.rec none (fun x xs _ => ih xs fun l => k (x :: l)) l) n
theorem takeK_eq (n : Nat) : ∀ (l : List V) (k : List V → Option α), takeK n l k = if n ≤ l.length then k (l.take n) else none := by
  induction n with
  | zero => intro l k; simp; rfl
  | succ n ih =>
    intro l k
    cases l with
    | nil => simp; rfl
    | cons x xs => show (takeK n xs fun l => k (x :: l)) = _; rw [ih]; simp

noncomputable def rangeK (c : List V) (off n : Nat) (k : List V → Option α) : Option α := takeK n (dropN c off) k
theorem rangeK_some {c : List V} {off n : Nat} {k : List V → Option α} {r : α} (h : rangeK c off n k = some r) : n ≤ c.length - off ∧ k ((c.drop off).take n) = some r := by
  rw [rangeK, takeK_eq, dropN_eq] at h
  split at h
  · rename_i hl; simp at hl; exact ⟨hl, h⟩
  · cases h
end force

namespace Tr
variable {β α : Type}
noncomputable def setFK (f : Nat) : Tr β → Nat → Option β → (Tr β → α) → α :=
  Nat.rec (fun t _ _ k => k t) (fun _ ih t n x k =>
    Tr.rec
      (natE n (k (.nd .nil x .nil)) fun n => bcase (Nat.beq (Nat.mod n 2) 0) (ih .nil (Nat.div n 2) x fun l => k (.nd l none .nil)) (ih .nil (Nat.div n 2) x fun r => k (.nd .nil none r)))
      (fun l v r _ _ => natE n (k (.nd l x r)) fun n => bcase (Nat.beq (Nat.mod n 2) 0) (ih l (Nat.div n 2) x fun l => k (.nd l v r)) (ih r (Nat.div n 2) x fun r => k (.nd l v r))) t) f
theorem beq_mod {n : Nat} : Nat.beq (Nat.mod n 2) 0 = decide (n % 2 = 0) := by
  show Nat.beq (n % 2) 0 = _
  rw [Bool.eq_iff_iff]; simp
theorem setFK_eq (f : Nat) : ∀ (t : Tr β) (n : Nat) (x : Option β) (k : Tr β → α), setFK f t n x k = k (setF f t n x) := by
  induction f with
  | zero => intro t n x k; rfl
  | succ f ih =>
    intro t n x k
    cases t with
    | nil => cases n with
      | zero => rfl
      | succ n =>
        show bcase (Nat.beq (Nat.mod n 2) 0) (setFK f .nil (Nat.div n 2) x fun l => k (.nd l none .nil)) (setFK f .nil (Nat.div n 2) x fun r => k (.nd .nil none r)) = _
        rw [beq_mod, ih, ih]
        simp only [setF]
        by_cases h : n % 2 = 0 <;> simp [h] <;> rfl
    | nd l v r => cases n with
      | zero => rfl
      | succ n =>
        show bcase (Nat.beq (Nat.mod n 2) 0) (setFK f l (Nat.div n 2) x fun l => k (.nd l v r)) (setFK f r (Nat.div n 2) x fun r => k (.nd l v r)) = _
        rw [beq_mod, ih, ih]
        simp only [setF]
        by_cases h : n % 2 = 0 <;> simp [h] <;> rfl
noncomputable def setK (t : Tr β) (n : Nat) (x : Option β) (k : Tr β → α) : α := setFK (Nat.succ n) t n x k
theorem setK_eq (t : Tr β) (n : Nat) (x : Option β) (k : Tr β → α) : t.setK n x k = k (t.set n x) := setFK_eq _ _ _ _ _
noncomputable def ofListK (l : List β) : Nat → Tr β → (Tr β → α) → α :=
  List.rec (fun _ t k => k t) (fun x _ ih n t k => forceN n fun n => t.setK n (some x) fun t => ih (Nat.succ n) t k) l
theorem ofListK_eq (l : List β) : ∀ (n : Nat) (t : Tr β) (k : Tr β → α), ofListK l n t k = k (ofList l n t) := by
  induction l with
  | nil => intro n t k; rfl
  | cons x xs ih =>
    intro n t k
    show (forceN n fun n => t.setK n (some x) fun t => ofListK xs (Nat.succ n) t k) = _
    rw [forceN_eq, setK_eq, ih]; rfl
end Tr

section
variable {α : Type}
noncomputable def St.putK (σ : St) (id : Nat) (b : Blk) (k : St → α) : α := σ.heap.setK id (some b) fun h => k { heap := h, next := σ.next }
theorem St.putK_eq (σ : St) (id : Nat) (b : Blk) (k : St → α) : σ.putK id b k = k (σ.put id b) := by simp [St.putK, Tr.setK_eq, St.put]
noncomputable def St.delK (σ : St) (id : Nat) (k : St → α) : α := σ.heap.setK id none fun h => k { heap := h, next := σ.next }
theorem St.delK_eq (σ : St) (id : Nat) (k : St → α) : σ.delK id k = k (σ.del id) := by simp [St.delK, Tr.setK_eq, St.del]
noncomputable def St.newK (σ : St) (b : Blk) (k : Nat → St → α) : α := forceN σ.next fun id => σ.heap.setK id (some b) fun h => forceN (Nat.succ id) fun n => k id { heap := h, next := n }
theorem St.newK_eq (σ : St) (b : Blk) (k : Nat → St → α) : σ.newK b k = k σ.next (σ.new b) := by simp [St.newK, Tr.setK_eq, St.new, forceN_eq]
end

/-! ### The program's tables -/
inductive Ext where
  | add (k : IntKind) | load (k : IntKind) | store | cas (k : IntKind)
  | nothing | at_ | cmp | indexByte
  deriving DecidableEq

structure Env where
  ty : Tr TypeInfo
  fn : Tr Func
  ext : Tr Ext
  /-- types of structs and arrays at which '==' needs no look at stand-ins or nil interfaces -/
  plain : Tr Unit
  /-- how many package-level variables there are -/
  gl : Nat

noncomputable def Env.und (E : Env) (t : TypeId) : Option TypeDesc :=
  match E.ty.get t with
  | none => none
  | some i => match i.desc with
    | .named _ u => match E.ty.get u with | some i => some i.desc | none => none
    | d => some d
noncomputable def Env.size (E : Env) (t : TypeId) : Option Nat := match E.ty.get t with | some i => some i.size | none => none
noncomputable def Env.agg (E : Env) (t : TypeId) : Option Bool :=
  match E.und t with
  | some (.struct _) => some true
  | some (.array _ _) => some true
  | some _ => some false
  | none => none

noncomputable def mapO {α β : Type} (f : α → Option β) : List α → Option (List β)
  | [] => some []
  | x :: xs => match f x with
    | none => none
    | some y => match mapO f xs with
      | none => none
      | some ys => some (y :: ys)

/-- A constant as a value. -/
noncomputable def ofVal : Nat → Value → Option V
  | 0, _ => none
  | n + 1, v => match v with
    | .bool x => some (.b x)
    | .int k x => forceI x fun x => some (.i k x)
    | .string s => forceL (s.data.toList.map UInt8.toNat) fun l => some (.s l)
    | .pointer none => some (.p none)
    | .slice none l c => some (.sl none l (.ex c))
    | .map none => some (.m none)
    | .nilFunc => some .nf
    | .nilIface => some .ni
    | .agg cs => match mapO (ofVal n) cs.toList with | some l => some (.ag l) | none => none
    | .tuple cs => match mapO (ofVal n) cs.toList with | some l => some (.tu l) | none => none
    | _ => none

noncomputable def Env.zero (E : Env) (t : TypeId) : Option V :=
  match E.ty.get t with
  | some i => match i.zero with | some v => ofVal 3 v | none => none
  | none => none

/-! ### Operands -/
structure OpC where
  get : Tr V → Option V

noncomputable def opc (E : Env) (x : Operand) : OpC :=
  match x with
  | .tmp t => ⟨fun tm => optE (tm.get t) (some undefV) some⟩
  | .const v => match ofVal 3 v with | some x => ⟨fun _ => some x⟩ | none => ⟨fun _ => none⟩
  | .global g => match Nat.blt g E.gl with | true => ⟨fun _ => some (.p (some (g, 0)))⟩ | false => ⟨fun _ => none⟩
  | .func f => ⟨fun _ => some (.f (.func f) [] [])⟩

noncomputable def bindV {α : Type} (o : Option V) (f : V → Option α) : Option α := optE o none f

/-- Several operands. -/
noncomputable def opcs {α : Type} (E : Env) : List Operand → Tr V → (List V → Option α) → Option α
  | [], _, k => k []
  | x :: xs, tm, k => bindV ((opc E x).get tm) fun v => opcs E xs tm fun vs => k (v :: vs)

/-! ### Numbers -/
noncomputable def kNum : IntKind → Nat
  | .i8 => 0 | .i16 => 1 | .i32 => 2 | .i64 => 3 | .u8 => 4 | .u16 => 5 | .u32 => 6 | .u64 => 7
noncomputable def kEq (a b : IntKind) : Bool := Nat.beq (kNum a) (kNum b)
theorem kEq_iff {a b : IntKind} (h : kEq a b = true) : a = b := by
  unfold kEq at h
  have := Nat.eq_of_beq_eq_true h
  cases a <;> cases b <;> simp_all [kNum]

noncomputable def modOf : IntKind → Nat
  | .i64 => 18446744073709551616
  | .u8 => 256
  | .u32 => 4294967296
  | .u64 => 18446744073709551616
  | .i32 => 4294967296
  | .i8 => 256
  | .i16 => 65536
  | .u16 => 65536
noncomputable def halfOf : IntKind → Nat
  | .i64 => 9223372036854775808
  | .u8 => 256
  | .u32 => 4294967296
  | .u64 => 18446744073709551616
  | .i32 => 2147483648
  | .i8 => 128
  | .i16 => 32768
  | .u16 => 65536
noncomputable def bitsOf : IntKind → Nat
  | .i8 | .u8 => 8
  | .i16 | .u16 => 16
  | .i32 | .u32 => 32
  | .i64 | .u64 => 64
/-- The bits of a number of the kind. -/
noncomputable def um (k : IntKind) (n : Int) : Nat := Int.rec (fun m => Nat.mod m (modOf k)) (fun m => Nat.sub (Nat.sub (modOf k) 1) (Nat.mod m (modOf k))) n
/-- A number of the kind by its bits. -/
noncomputable def sg (k : IntKind) (u : Nat) : Int := bcase (Nat.blt u (halfOf k)) (.ofNat u) (.negSucc (Nat.sub (Nat.sub (modOf k) 1) u))
noncomputable def wr (k : IntKind) (n : Int) : Int := sg k (um k n)
noncomputable def retI (k : IntKind) (n : Int) : Option V := forceI n fun n => some (.i k n)
noncomputable def retB (b : Bool) : Option V := forceB b fun b => some (.b b)

noncomputable def ltI (x y : Int) : Bool :=
  Int.rec (fun a => Int.rec (fun b => Nat.blt a b) (fun _ => false) y) (fun a => Int.rec (fun _ => true) (fun b => Nat.blt b a) y) x
noncomputable def eqI (x y : Int) : Bool :=
  Int.rec (fun a => Int.rec (fun b => Nat.beq a b) (fun _ => false) y) (fun a => Int.rec (fun _ => false) (fun b => Nat.beq a b) y) x

structure IC where
  run : IntKind → Int → Int → Option V
noncomputable def intC (op : BinOp) : IC :=
  match op with
  | .add => ⟨fun k x y => retI k (wr k (Int.add x y))⟩
  | .sub => ⟨fun k x y => retI k (wr k (Int.sub x y))⟩
  | .mul => ⟨fun k x y => retI k (wr k (Int.mul x y))⟩
  | .quo => ⟨fun k x y => bcase (eqI y 0) none (retI k (wr k (x.tdiv y)))⟩
  | .rem => ⟨fun k x y => bcase (eqI y 0) none (retI k (x.tmod y))⟩
  | .and => ⟨fun k x y => retI k (sg k (Nat.land (um k x) (um k y)))⟩
  | .or => ⟨fun k x y => retI k (sg k (Nat.lor (um k x) (um k y)))⟩
  | .xor => ⟨fun k x y => retI k (sg k (Nat.xor (um k x) (um k y)))⟩
  | .andNot => ⟨fun k x y => retI k (sg k (Nat.land (um k x) (modOf k - 1 - um k y)))⟩
  | .eql => ⟨fun _ x y => retB (eqI x y)⟩
  | .neq => ⟨fun _ x y => retB (!eqI x y)⟩
  | .lss => ⟨fun _ x y => retB (ltI x y)⟩
  | .leq => ⟨fun _ x y => retB (!ltI y x)⟩
  | .gtr => ⟨fun _ x y => retB (ltI y x)⟩
  | .geq => ⟨fun _ x y => retB (!ltI x y)⟩
  | .shl => ⟨fun _ _ _ => none⟩
  | .shr => ⟨fun _ _ _ => none⟩

noncomputable def shN (k : IntKind) (y : Nat) : Nat := bcase (Nat.ble y (bitsOf k)) y (bitsOf k)
noncomputable def shlV (k : IntKind) (x y : Int) : Option V := match y with | .negSucc _ => none | .ofNat y => retI k (wr k (Int.mul (Int.ofNat (2 ^ shN k y)) x))
noncomputable def shrI (x : Int) (n : Nat) : Int := match x with | .ofNat m => .ofNat (m / 2 ^ n) | .negSucc m => .negSucc (m / 2 ^ n)
noncomputable def shrV (k : IntKind) (x y : Int) : Option V := match y with | .negSucc _ => none | .ofNat y => retI k (shrI x (shN k y))

noncomputable def eqL (x : List Nat) : List Nat → Bool :=
  List.rec (fun y => List.rec true (fun _ _ _ => false) y) (fun a _ ih y => List.rec false (fun b y _ => bcase (Nat.beq a b) (ih y) false) y) x
noncomputable def ltL (x : List Nat) : List Nat → Bool :=
  List.rec (fun y => List.rec false (fun _ _ _ => true) y) (fun a _ ih y => List.rec false (fun b y _ => bcase (Nat.blt a b) true (bcase (Nat.beq a b) (ih y) false)) y) x

structure SC where
  run : List Nat → List Nat → Option V
noncomputable def strC (op : BinOp) : SC :=
  match op with
  | .add => ⟨fun x y => bcase (Nat.ble (x.length + y.length) 9223372036854775807) (forceL (x ++ y) fun l => some (.s l)) none⟩
  | .eql => ⟨fun x y => retB (eqL x y)⟩
  | .neq => ⟨fun x y => retB (!eqL x y)⟩
  | .lss => ⟨fun x y => retB (ltL x y)⟩
  | .leq => ⟨fun x y => retB (ltL x y || eqL x y)⟩
  | .gtr => ⟨fun x y => retB (!(ltL x y || eqL x y))⟩
  | .geq => ⟨fun x y => retB (!ltL x y)⟩
  | _ => ⟨fun _ _ => none⟩

/-! ### Parts, equality -/
noncomputable def partOf (agg : Bool) (s : Nat) (cs : List V) (off : Nat) : Option V :=
  match agg with
  | true => rangeK cs off s fun l => some (.ag l)
  | false => nth cs off
noncomputable def part (E : Env) (t : TypeId) (cs : List V) (off : Nat) : Option V :=
  match E.agg t with
  | some g => match E.size t with | some s => partOf g s cs off | none => none
  | none => none

noncomputable def allO {α : Type} (f : α → Option Bool) : List α → Option Bool
  | [] => some true
  | x :: xs => match f x with
    | some true => allO f xs
    | some false => some false
    | none => none

/-- Two blocks of the machine's own, not the same one. -/
noncomputable def St.apart (σ : St) (a b : Nat) : Bool :=
  match σ.get a, σ.get b with
  | some (.cells _ _ .ex), some (.cells _ _ .ex) => true
  | _, _ => false

noncomputable def eqV (E : Env) (σ : St) : Nat → TypeId → V → V → Option Bool
  | 0, _, _, _ => none
  | n + 1, t, x, y =>
    match E.und t with
    | none => none
    | some d =>
      match d, x, y with
      | .bool, .b a, .b b => some (a == b)
      | .int _, .i k a, .i k' b => bcase (kEq k k') (some (eqI a b)) none
      | .string, .s a, .s b => some (eqL a b)
      | .pointer _, .p none, .p none => some true
      | .pointer _, .p none, .p (some _) => some false
      | .pointer _, .p (some _), .p none => some false
      | .pointer e, .p (some (a, i)), .p (some (b, j)) =>
        match E.size e with
        | some (_ + 1) => bcase (Nat.beq a b) (some (Nat.beq i j)) (bcase (σ.apart a b) (some false) none)
        | _ => none
      | .interface _, .ni, .ni => some true
      | .interface _, .ni, .if_ _ _ => some false
      | .interface _, .if_ _ _, .ni => some false
      | .interface _, .if_ tx vx, .if_ ty vy =>
        bcase (Nat.beq tx ty) (match E.ty.get tx with
          | some i => bcase i.comparable (eqV E σ n tx vx vy) none
          | none => none) (some false)
      | .struct fs, .ag xs, .ag ys =>
        match E.plain.get t with
        | some _ => allO (fun (f : Field) => bcase (f.name == "_") (some true) (match part E f.type xs f.offset, part E f.type ys f.offset with
          | some a, some b => eqV E σ n f.type a b
          | _, _ => none)) fs.toList
        | none => none
      | .array len e, .ag xs, .ag ys =>
        match E.size e with
        | some s => allO (fun i => match part E e xs (i * s), part E e ys (i * s) with
          | some a, some b => eqV E σ n e a b
          | _, _ => none) (List.range len)
        | none => none
      | .slice _, .sl none _ _, .sl a _ _ => some a.isNone
      | .slice _, .sl (some _) _ _, .sl none _ _ => some false
      | .map _ _, .m none, .m b => some b.isNone
      | .map _ _, .m (some _), .m none => some false
      | .func _ _ _, .nf, .nf => some true
      | .func _ _ _, .nf, .f _ _ _ => some false
      | .func _ _ _, .f _ _ _, .nf => some false
      | _, _, _ => none

noncomputable def isConst : Operand → Bool
  | .const _ => true
  | _ => false

/-- What the model looks at ahead of '==' on two nil interfaces, or two structs. -/
noncomputable def eqGuardOk (E : Env) (t : TypeId) (x y : Operand) (a b : V) : Bool :=
  match a, b with
  | .ni, .ni => isConst x || isConst y
  | .ag _, .ag _ => (E.plain.get t).isSome
  | _, _ => true

/-- '==' on what is no number and no string. -/
noncomputable def eqOther (E : Env) (t : TypeId) (x y : Operand) (neg : Bool) (a b : V) (σ : St) : Option V :=
  bcase (eqGuardOk E t x y a b) (match eqV E σ 12 t a b with | some r => retB (bcase neg (!r) r) | none => none) none

structure VC where
  run : Tr V → St → Option V
noncomputable def VC.no : VC := ⟨fun _ _ => none⟩

structure B2 where
  run : V → V → St → Option V

/-- Two operands of one kind. -/
noncomputable def bin2 (fi : IC) (fs : SC) (fo : B2) (a b : V) (σ : St) : Option V :=
  match a with
  | .i k m => match b with | .i k' n => bcase (kEq k k') (fi.run k m n) none | _ => none
  | .s m => match b with | .s n => fs.run m n | _ => none
  | a => fo.run a b σ

noncomputable def otherC (E : Env) (op : BinOp) (t : TypeId) (x y : Operand) : B2 :=
  match op with
  | .eql => ⟨fun a b σ => eqOther E t x y false a b σ⟩
  | .neq => ⟨fun a b σ => eqOther E t x y true a b σ⟩
  | _ => ⟨fun _ _ _ => none⟩

noncomputable def sh2 (f : IntKind → Int → Int → Option V) (a b : V) : Option V :=
  match a with
  | .i k m => match b with | .i _ n => f k m n | _ => none
  | _ => none

noncomputable def binC (E : Env) (op : BinOp) (t : TypeId) (x y : Operand) : VC :=
  match op with
  | .shl => ⟨fun tm _ => bindV ((opc E x).get tm) fun a => bindV ((opc E y).get tm) fun b => sh2 shlV a b⟩
  | .shr => ⟨fun tm _ => bindV ((opc E x).get tm) fun a => bindV ((opc E y).get tm) fun b => sh2 shrV a b⟩
  | op => ⟨fun tm σ => bindV ((opc E x).get tm) fun a => bindV ((opc E y).get tm) fun b => bin2 (intC op) (strC op) (otherC E op t x y) a b σ⟩

noncomputable def unV (op : UnOp) (a : V) : Option V :=
  match op with
  | .neg => match a with | .i k n => retI k (wr k (Int.sub 0 n)) | _ => none
  | .xor => match a with | .i k n => retI k (sg k (modOf k - 1 - um k n)) | _ => none
  | .not => match a with | .b x => retB (!x) | _ => none
  | .plus => none

/-! ### Reading the memory -/
noncomputable def cellsAt {α : Type} (σ : St) (id : Nat) (k : List V → Option α) : Option α :=
  match σ.get id with
  | some b => match b with | .cells c _ _ => k c | _ => none
  | none => none

noncomputable def ptr {α : Type} (a : V) (k : Nat → Nat → Option α) : Option α :=
  match a with
  | .p q => match q with | some x => k x.1 x.2 | none => none
  | _ => none

noncomputable def loadAgg (s : Nat) (a : V) (σ : St) : Option V := ptr a fun id off => cellsAt σ id fun c => rangeK c off s fun l => some (.ag l)
noncomputable def loadOne (a : V) (σ : St) : Option V := ptr a fun id off => cellsAt σ id fun c => nth c off
noncomputable def loadC (E : Env) (t : TypeId) (x : Operand) : VC :=
  match E.agg t with
  | some true => match E.size t with | some s => ⟨fun tm σ => bindV ((opc E x).get tm) fun a => loadAgg s a σ⟩ | none => .no
  | some false => ⟨fun tm σ => bindV ((opc E x).get tm) fun a => loadOne a σ⟩
  | none => .no

noncomputable def bytesOfL {α : Type} : List V → (List Nat → Option α) → Option α
  | [], k => k []
  | x :: xs, k => match x with
    | .i t n => match n with
      | .ofNat n => bcase (kEq t .u8 && Nat.blt n 256) (bytesOfL xs fun l => k (n :: l)) none
      | .negSucc _ => none
    | _ => none

/-- The cells of a slice's first elements. -/
noncomputable def sliceCells {α : Type} (σ : St) (size n : Nat) (x : V) (k : List V → Option α) : Option α :=
  match x with
  | .sl a _ _ => match a with
    | none => bcase (Nat.beq n 0) (k []) none
    | some p => bcase (Nat.beq (n * size) 0) (k []) (cellsAt σ p.1 fun c => rangeK c p.2 (n * size) k)
  | _ => none

noncomputable def lenL {β : Type} (l : List β) : Nat := List.rec 0 (fun _ _ n => Nat.succ n) l
theorem lenL_eq {β : Type} (l : List β) : lenL l = l.length := by
  induction l with
  | nil => rfl
  | cons x xs ih => show Nat.succ (lenL xs) = _; rw [ih]; rfl

/-- Keys that the model compares without a question. -/
noncomputable def keyOk (E : Env) (t : TypeId) : Bool :=
  match E.und t with
  | some (.int _) | some .string | some .bool => true
  | some (.pointer e) => match E.size e with | some (_ + 1) => true | _ => false
  | some (.array _ e) => match E.und e, E.size e with | some (.int _), some 1 => true | _, _ => false
  | _ => false
/-- .. how many cells such a key has, where it is an array. -/
noncomputable def keyLen (E : Env) (t : TypeId) : Option Nat :=
  match E.und t with
  | some (.array n _) => some n
  | _ => none
noncomputable def keyFits (n : Option Nat) (k : V) : Bool :=
  match n with
  | none => true
  | some n => match k with | .ag cs => Nat.beq (lenL cs) n | _ => false

/-- The entry of a key: its value and its place. -/
noncomputable def findK {α : Type} (E : Env) (σ : St) (t : TypeId) (k : V) (yes : V → Nat → Option α) (no : Option α) : List (V × V × Nat) → Nat → Option α
  | [], _ => no
  | e :: es, i => match eqV E σ 3 t k e.1 with
    | some true => yes e.2.1 i
    | some false => findK E σ t k yes no es (Nat.succ i)
    | none => none

noncomputable def mapAt {α : Type} (σ : St) (m : V) (k : List (V × V × Nat) → Nat → Option α) : Option α :=
  match m with
  | .m r => match r with
    | none => k [] 0
    | some id => match σ.get id with
      | some b => match b with | .map es c => k es c | _ => none
      | none => none
  | _ => none

noncomputable def lookV (E : Env) (kt : TypeId) (z : V) (ok : Bool) (m k : V) (σ : St) : Option V :=
  bcase (keyFits (keyLen E kt) k) (mapAt σ m fun es _ => findK E σ kt k (fun v _ => some (bcase ok (.tu [v, .b true]) v)) (some (bcase ok (.tu [z, .b false]) z)) es 0) none
noncomputable def lookC (E : Env) (t : TypeId) (m k : Operand) (ok : Bool) : VC :=
  match E.und t with
  | some (.map kt et) => match keyOk E kt with
    | true => match E.zero et with
      | some z => ⟨fun tm σ => bindV ((opc E m).get tm) fun m => bindV ((opc E k).get tm) fun k => lookV E kt z ok m k σ⟩
      | none => .no
    | false => .no
  | _ => .no

/-! ### Slices -/
/-- A bound: as it is given, or else. -/
noncomputable def bnd {α : Type} (v : Option V) (dflt : Nat) (k : Nat → Option α) : Option α :=
  match v with
  | none => k dflt
  | some v => match v with
    | .i _ n => match n with | .ofNat n => k n | .negSucc _ => none
    | _ => none

noncomputable def nat3 (a : Option (Nat × Nat)) (len : Nat) (c : Cap) : Option V :=
  forceN len fun len => match c with
    | .ex c => forceN c fun c => some (.sl a len (.ex c))
    | .op c => forceN c fun c => some (.sl a len (.op c))
noncomputable def retSl (id off len : Nat) (c : Cap) : Option V := forceN off fun off => nat3 (some (id, off)) len c

/-- x[lo:hi:mx], x of a known capacity: 'm' its end, 'b' its begin. -/
noncomputable def cutEx (s : Nat) (a : Option (Nat × Nat)) (m h b : Nat) : Option V :=
  match a with
  | none => nat3 none (h - b) (.ex (m - b))
  | some p => retSl p.1 (bcase (Nat.beq m b) p.2 (p.2 + b * s)) (h - b) (.ex (m - b))

noncomputable def sliceStr (lo hi : Option V) (l : List Nat) : Option V :=
  bnd hi l.length fun h => bnd lo 0 fun b => bcase (Nat.ble h l.length && Nat.ble b h) (forceL ((l.take h).drop b) fun l => some (.s l)) none

noncomputable def sliceEx (s : Nat) (lo hi mx : Option V) (a : Option (Nat × Nat)) (len c : Nat) : Option V :=
  bnd mx c fun m => bnd hi len fun h => bnd lo 0 fun b =>
    bcase (Nat.ble m c && Nat.ble h m && Nat.ble b h && (mx.isNone || hi.isSome)) (cutEx s a m h b) none

noncomputable def sliceOp (s : Nat) (lo hi mx : Option V) (a : Option (Nat × Nat)) (len d : Nat) : Option V :=
  match a with
  | none => none
  | some p =>
    match mx with
    | none => bnd hi len fun h => bnd lo 0 fun b =>
      -- the capacity is the length, or more: what lies past the length is not known
      bcase (Nat.ble h len && Nat.ble b h) (retSl p.1 (p.2 + b * s) (h - b) (.op (d + b))) none
    | some m => bnd (some m) 0 fun m => bnd hi len fun h => bnd lo 0 fun b =>
      bcase (Nat.ble m len && Nat.ble h m && Nat.ble b h && hi.isSome && Nat.blt 0 len) (cutEx s (some p) m h b) none

noncomputable def sliceSl (s : Nat) (lo hi mx : Option V) (x : V) : Option V :=
  match x with
  | .sl a len cap => match cap with
    | .ex c => sliceEx s lo hi mx a len c
    | .op d => sliceOp s lo hi mx a len d
  | _ => none

noncomputable def sliceArr (n s : Nat) (lo hi mx : Option V) (x : V) : Option V := ptr x fun id off => sliceEx s lo hi mx (some (id, off)) n n

noncomputable def sliceV (E : Env) (t : TypeId) (lo hi mx : Option V) (x : V) : Option V :=
  match E.und t with
  | some .string => match mx with
    | none => match x with | .s l => sliceStr lo hi l | _ => none
    | some _ => none
  | some (.slice e) => match E.size e with | some s => sliceSl s lo hi mx x | none => none
  | some (.array n e) => match E.size e with | some s => sliceArr n s lo hi mx x | none => none
  | some (.pointer arr) => match E.und arr with
    | some (.array n e) => match E.size e with | some s => sliceArr n s lo hi mx x | none => none
    | _ => none
  | _ => none

noncomputable def optV {α : Type} (E : Env) (x : Option Operand) (tm : Tr V) (k : Option V → Option α) : Option α :=
  match x with
  | none => k none
  | some x => bindV ((opc E x).get tm) fun v => k (some v)

noncomputable def sliceC (E : Env) (t : TypeId) (x : Operand) (lo hi mx : Option Operand) : VC :=
  ⟨fun tm _ => bindV ((opc E x).get tm) fun v => optV E lo tm fun lo => optV E hi tm fun hi => optV E mx tm fun mx => sliceV E t lo hi mx v⟩

/-! ### Conversions -/
noncomputable def bytesToStr (σ : St) (x : V) : Option V :=
  match x with
  | .sl a len c => match a with
    | none => bcase (Nat.beq len 0) (some (.s [])) none
    | some p => sliceCells σ 1 len (.sl (some p) len c) fun cs => bytesOfL cs fun l => some (.s l)
  | _ => none

noncomputable def toUnsafe (σ : St) (x : V) : Option V := ptr x fun id off => cellsAt σ id fun c => bcase (Nat.blt off c.length) (some (.p (some (id, off)))) none

noncomputable def convC (E : Env) (src dst : TypeId) (x : Operand) : VC :=
  match E.und src, E.und dst with
  | some _, some (.int k) => ⟨fun tm _ => bindV ((opc E x).get tm) fun v => match v with | .i _ n => retI k (wr k n) | _ => none⟩
  | some .string, some .string => ⟨fun tm _ => bindV ((opc E x).get tm) fun v => match v with | .s l => some (.s l) | _ => none⟩
  | some (.slice e), some .string => match E.und e with
    | some (.int .u8) => ⟨fun tm σ => bindV ((opc E x).get tm) fun v => bytesToStr σ v⟩
    | _ => .no
  | some (.pointer t), some .unsafePointer => match E.size t with
    | some (_ + 1) => ⟨fun tm σ => bindV ((opc E x).get tm) fun v => toUnsafe σ v⟩
    | _ => .no
  | _, _ => .no

/-! ### Addresses, parts -/
noncomputable def retP (id off : Nat) : Option V := forceN off fun off => some (.p (some (id, off)))

noncomputable def fieldAddrC (E : Env) (s : TypeId) (x : Operand) (f : Nat) : VC :=
  match E.und s with
  | some (.struct fs) => match fs[f]? with
    | some fd => match E.size fd.type with
      | some (_ + 1) => ⟨fun tm _ => bindV ((opc E x).get tm) fun v => ptr v fun id off => retP id (off + fd.offset)⟩
      | _ => .no
    | none => .no
  | _ => .no

noncomputable def aggV {α : Type} (x : V) (k : List V → Option α) : Option α := match x with | .ag cs => k cs | _ => none

noncomputable def fieldC (E : Env) (s : TypeId) (x : Operand) (f : Nat) : VC :=
  match E.und s with
  | some (.struct fs) => match fs[f]? with
    | some fd => match E.agg fd.type, E.size fd.type with
      | some g, some z => ⟨fun tm _ => bindV ((opc E x).get tm) fun v => aggV v fun cs => partOf g z cs fd.offset⟩
      | _, _ => .no
    | none => .no
  | _ => .no

noncomputable def natV {α : Type} (i : V) (k : Nat → Option α) : Option α :=
  match i with
  | .i _ n => match n with | .ofNat n => k n | .negSucc _ => none
  | _ => none

noncomputable def indexArr (len s : Nat) (x : V) (i : Nat) : Option V := ptr x fun id off => bcase (Nat.blt i len) (retP id (off + i * s)) none
noncomputable def indexSl (s : Nat) (x : V) (i : Nat) : Option V :=
  match x with
  | .sl a len _ => match a with
    | some p => bcase (Nat.blt i len) (retP p.1 (p.2 + i * s)) none
    | none => none
  | _ => none
noncomputable def indexAddrC (E : Env) (t : TypeId) (x i : Operand) : VC :=
  match E.und t with
  | some (.array len e) => match E.size e with
    | some s => ⟨fun tm _ => bindV ((opc E x).get tm) fun v => bindV ((opc E i).get tm) fun i => natV i fun i => indexArr len s v i⟩
    | none => .no
  | some (.slice e) => match E.size e with
    | some s => ⟨fun tm _ => bindV ((opc E x).get tm) fun v => bindV ((opc E i).get tm) fun i => natV i fun i => indexSl s v i⟩
    | none => .no
  | _ => .no

noncomputable def nthN (l : List Nat) : Nat → Option Nat := List.rec (fun _ => none) (fun x _ ih n => natE n (some x) ih) l
theorem nthN_eq (l : List Nat) : ∀ n, nthN l n = l[n]? := by
  induction l with
  | nil => intro n; simp; rfl
  | cons x xs ih => intro n; cases n with
    | zero => rfl
    | succ n => show nthN xs n = _; rw [ih]; simp

noncomputable def indexStr (x : V) (i : Nat) : Option V :=
  match x with
  | .s l => match nthN l i with | some b => some (.i .u8 (.ofNat b)) | none => none
  | _ => none
noncomputable def indexC (E : Env) (t : TypeId) (x i : Operand) : VC :=
  match E.und t with
  | some (.array len e) => match E.agg e, E.size e with
    | some g, some s => ⟨fun tm _ => bindV ((opc E x).get tm) fun v => bindV ((opc E i).get tm) fun i => natV i fun i => bcase (Nat.blt i len) (aggV v fun cs => partOf g s cs (i * s)) none⟩
    | _, _ => .no
  | some .string => ⟨fun tm _ => bindV ((opc E x).get tm) fun v => bindV ((opc E i).get tm) fun i => natV i fun i => indexStr v i⟩
  | _ => .no

/-! ### Building -/
/-- Parts over a row of cells: where each begins, and how many cells it has. -/
noncomputable def fillK {α : Type} (place : Nat → Option (Nat × Nat)) : List V → List (Nat × V) → (List V → Option α) → Option α
  | cells, [], k => k cells
  | cells, p :: rest, k =>
    match place p.1 with
    | none => none
    | some q => bcase (Nat.beq (lenL p.2.cells) q.2 && Nat.ble (q.1 + q.2) (lenL cells)) (splK cells q.1 p.2.cells fun cells => fillK place cells rest k) none

noncomputable def evalParts {α : Type} (E : Env) : List (Nat × Operand) → Tr V → (List (Nat × V) → Option α) → Option α
  | [], _, k => k []
  | p :: r, tm, k => bindV ((opc E p.2).get tm) fun v => evalParts E r tm fun l => k ((p.1, v) :: l)

noncomputable def placesOf (E : Env) (fs : Array Field) (i : Nat) : Option (Nat × Nat) :=
  match fs[i]? with
  | some f => match E.size f.type with | some s => some (f.offset, s) | none => none
  | none => none

noncomputable def sizesKnown (E : Env) : List Field → Bool
  | [] => true
  | f :: r => (E.size f.type).isSome && sizesKnown E r

noncomputable def buildC (E : Env) (t : TypeId) (parts : List (Nat × Operand)) : VC :=
  match E.zero t, E.und t with
  | some z, some (.struct fs) => match sizesKnown E fs.toList with
    | true => ⟨fun tm _ => evalParts E parts tm fun l => fillK (placesOf E fs) z.cells l fun cs => some (.ag cs)⟩
    | false => .no
  | some z, some (.array _ e) => match E.size e with
    | some s => ⟨fun tm _ => evalParts E parts tm fun l => fillK (fun i => some (i * s, s)) z.cells l fun cs => some (.ag cs)⟩
    | none => .no
  | _, _ => .no

noncomputable def lenC (E : Env) (t : TypeId) (x : Operand) : VC :=
  match E.und t with
  | some .string => ⟨fun tm _ => bindV ((opc E x).get tm) fun v => match v with | .s l => forceN (lenL l) fun n => some (.i .i64 (.ofNat n)) | _ => none⟩
  | some (.array n _) => ⟨fun _ _ => some (.i .i64 (.ofNat n))⟩
  | some (.pointer arr) => match E.und arr with | some (.array n _) => ⟨fun _ _ => some (.i .i64 (.ofNat n))⟩ | _ => .no
  | some (.slice _) => ⟨fun tm _ => bindV ((opc E x).get tm) fun v => match v with | .sl _ n _ => some (.i .i64 (.ofNat n)) | _ => none⟩
  | some (.map _ _) => ⟨fun tm σ => bindV ((opc E x).get tm) fun v => mapAt σ v fun es _ => forceN (lenL es) fun n => some (.i .i64 (.ofNat n))⟩
  | _ => .no

noncomputable def capC (E : Env) (t : TypeId) (x : Operand) : VC :=
  match E.und t with
  | some (.slice _) => ⟨fun tm _ => bindV ((opc E x).get tm) fun v => match v with | .sl _ _ (.ex c) => some (.i .i64 (.ofNat c)) | _ => none⟩
  | _ => .no

noncomputable def minMax (max : Bool) (x y : V) : Option V :=
  match x with
  | .i k a => match y with
    | .i k' b => bcase (kEq k k') (some (.i k (bcase (bcase max (ltI a b) (ltI b a)) b a))) none
    | _ => none
  | _ => none
noncomputable def minMaxL (max : Bool) : V → List V → Option V
  | x, [] => some x
  | x, y :: r => bindV (minMax max x y) fun z => minMaxL max z r
noncomputable def minMaxV (max : Bool) (l : List V) : Option V := match l with | [] => none | x :: r => match x with | .i k n => minMaxL max (.i k n) r | _ => none

noncomputable def nilOk (v : V) : Option V :=
  match v with
  | .p q => match q with | some a => some (.p (some a)) | none => none
  | .f fn as cs => match fn with | .func f => some (.f (.func f) as cs) | _ => none
  | .if_ t v => some (.if_ t v)
  | _ => none

noncomputable def entryV (it : V) (σ : St) : Option V :=
  ptr it fun id off => match off with
    | _ + 1 => none
    | 0 => match σ.get id with
      | some (.miter (some m) _ seen stepped) => match seen.getLast? with
        | none => none
        | some stamp => match σ.get m with
          | some (.map es clock) => bcase (Nat.beq clock stepped) (match es.find? (fun e => Nat.beq e.2.2 stamp) with
            | some e => some (.tu [e.1, e.2.1])
            | none => none) none
          | _ => none
      | _ => none

noncomputable def assertC (E : Env) (asserted : TypeId) (x : Operand) (ok : Bool) : VC :=
  match E.und asserted with
  | none => .no
  | some (.interface _) => .no
  | some _ => ⟨fun tm _ => bindV ((opc E x).get tm) fun v => match v with
    | .if_ t v => bcase (Nat.beq t asserted) (some (bcase ok (.tu [v, .b true]) v)) none
    | _ => none⟩

/-- Calls of builtins that leave the memory alone. -/
noncomputable def builtinC (E : Env) (b : Builtin) (argTypes : Array TypeId) (args : List Operand) : VC :=
  match b with
  | .len => match argTypes[0]?, args with
    | some t, [x] => lenC E t x
    | _, _ => .no
  | .cap => match argTypes[0]?, args with
    | some t, [x] => capC E t x
    | _, _ => .no
  | .min => ⟨fun tm _ => opcs E args tm fun l => minMaxV false l⟩
  | .max => ⟨fun tm _ => opcs E args tm fun l => minMaxV true l⟩
  | _ => .no

/-- Operations that leave the memory alone. -/
noncomputable def vc (E : Env) (o : Op) : VC :=
  match o with
  | .move x => ⟨fun tm _ => (opc E x).get tm⟩
  | .assign x => ⟨fun tm _ => (opc E x).get tm⟩
  | .pick c a b => ⟨fun tm _ => bindV ((opc E c).get tm) fun c => match c with | .b t => bcase t ((opc E a).get tm) ((opc E b).get tm) | _ => none⟩
  | .nilCheck x => ⟨fun tm _ => bindV ((opc E x).get tm) fun v => nilOk v⟩
  | .binOp op t x y _ => binC E op t x y
  | .unOp op _ x => ⟨fun tm _ => bindV ((opc E x).get tm) fun v => unV op v⟩
  | .convert src dst x => convC E src dst x
  | .makeInterface t x => match E.und t with
    | none => .no
    | some (.interface _) => .no
    | some _ => ⟨fun tm _ => bindV ((opc E x).get tm) fun v => some (.if_ t v)⟩
  | .makeFunc fn first cap => match fn with
    | .func f => ⟨fun tm _ => opcs E first.toList tm fun a => opcs E cap.toList tm fun c => some (.f (.func f) a c)⟩
    | _ => .no
  | .slice t x lo hi mx => sliceC E t x lo hi mx
  | .fieldAddr s x f => fieldAddrC E s x f
  | .field s x f => fieldC E s x f
  | .indexAddr t x i => indexAddrC E t x i
  | .index t x i => indexC E t x i
  | .extract x i => ⟨fun tm _ => bindV ((opc E x).get tm) fun v => match v with | .tu vs => nth vs i | _ => none⟩
  | .load t x => loadC E t x
  | .lookup t m k ok => lookC E t m k ok
  | .build t parts => buildC E t parts.toList
  | .typeAssert x _ asserted ok => assertC E asserted x ok
  | .entry it => ⟨fun tm σ => bindV ((opc E it).get tm) fun it => entryV it σ⟩
  | .call c => match c.callee with
    | .builtin b => builtinC E b c.argTypes c.args.toList
    | _ => .no
  | _ => .no

inductive Cls where
  | value | reads | makes | acts
  deriving DecidableEq
/-- 'value': of values alone · 'reads': it looks at the memory · 'makes': it makes one block, out of values alone · 'acts': all else. -/
noncomputable def clsOf (E : Env) (o : Op) : Cls :=
  match o with
  | .move _ | .assign _ | .pick .. | .nilCheck _ | .unOp .. | .makeInterface .. | .makeFunc .. | .slice .. | .fieldAddr .. | .field .. | .indexAddr .. | .index .. | .extract .. | .build .. | .typeAssert .. => .value
  | .binOp op .. => match op with | .eql | .neq => .reads | _ => .value
  | .load .. | .lookup .. | .entry _ => .reads
  | .convert src dst _ => match E.und src, E.und dst with
    | some .string, some (.slice _) => .makes
    | some (.slice _), some (.slice _) => .acts
    | some (.slice _), _ => .reads
    | some (.pointer _), _ => .reads
    | _, _ => .value
  | .call c => match c.callee with
    | .builtin b => match b with
      | .len => .reads
      | .cap | .min | .max => .value
      | _ => .acts
    | _ => .acts
  | .alloc _ | .box .. | .buildSlice .. | .makeMap .. => .makes
  | _ => .acts

/-! ### Operations that make one block, out of values alone -/
inductive Mk where
  | ptr
  | sl (len : Nat) (cap : Cap)
  | map
noncomputable def Mk.v (m : Mk) (id : Nat) : V :=
  match m with
  | .ptr => .p (some (id, 0))
  | .sl len cap => .sl (some (id, 0)) len cap
  | .map => .m (some id)

structure Made where
  blk : Blk
  how : Mk

structure AC where
  run : Tr V → Option Made
noncomputable def AC.no : AC := ⟨fun _ => none⟩

noncomputable def retBytes (e : TypeId) (l : List Nat) : Option Made :=
  forceV (l.map fun b => .i .u8 (.ofNat b)) fun cs => forceN (lenL l) fun n => some ⟨.cells cs e (.op 1), .sl n (.op 0)⟩

/-- 'n' times the cells, ahead of others. -/
noncomputable def repC : Nat → List V → List V
  | 0, _ => []
  | n + 1, z => z ++ repC n z

noncomputable def buildSliceC (E : Env) (t : TypeId) (len : Nat) (parts : List (Nat × Operand)) : AC :=
  match E.und t with
  | some (.slice e) => match E.size e with
    | some s => match (bcase (Nat.beq (len * s) 0) (some []) (match E.zero e with | some z => some z.cells | none => none)) with
      | some zs => match Nat.ble (len * s) 1000000 && (Nat.beq (len * s) 0 || Nat.beq (lenL zs) s) with
        | true => ⟨fun tm => evalParts E parts tm fun l => forceV (repC len zs) fun row => fillK (fun i => some (i * s, s)) row l fun cs => some { blk := .cells cs e .ex, how := .sl len (.ex len) }⟩
        | false => .no
      | none => .no
    | none => .no
  | _ => .no

noncomputable def ac (E : Env) (o : Op) : AC :=
  match o with
  | .alloc t => match E.zero t with | some z => ⟨fun _ => some ⟨.cells z.cells t .ex, .ptr⟩⟩ | none => .no
  | .box t x => ⟨fun tm => bindV ((opc E x).get tm) fun v => some ⟨.cells v.cells t .ex, .ptr⟩⟩
  | .buildSlice t len parts => buildSliceC E t len parts.toList
  | .makeMap t r => match r with
    | none => match E.und t with | some (.map _ _) => ⟨fun _ => some ⟨.map [] 0, .map⟩⟩ | _ => .no
    | some _ => .no
  | .convert src dst x => match E.und src, E.und dst with
    | some .string, some (.slice e) => match E.und e, E.size e with
      | some (.int .u8), some 1 => ⟨fun tm => bindV ((opc E x).get tm) fun v => match v with | .s l => retBytes e l | _ => none⟩
      | _, _ => .no
    | _, _ => .no
  | _ => .no

end Go.AM

/- The abstract machine: operations that act, and code. -/
namespace Go.AM
open Go

noncomputable def oneV (v : V) : Bool := match v with | .ag _ => false | .tu _ => false | _ => true
noncomputable def allOne (l : List V) : Bool := List.rec true (fun v _ ih => bcase (oneV v) ih false) l

/-- Cells over a row of the machine's own. -/
noncomputable def writeK {α : Type} (σ : St) (id off : Nat) (cs : List V) (k : St → Option α) : Option α :=
  match σ.get id with
  | none => none
  | some b => match b with
    | .cells c el md => match md with
      | .ro => none
      | md => bcase (Nat.ble (off + lenL cs) (lenL c) && allOne cs) (splK c off cs fun c => σ.putK id (.cells c el md) k) none
    | _ => none

inductive Out where
  | val (v : V) (σ : St)
  | call (f : FuncId) (args : List V)
  | round (l : Nat) (args : List V)
  | defer (f : FuncId) (args : List V)

noncomputable def done (v : V) (σ : St) : Option Out := some (.val v σ)

structure WC where
  run : Tr V → St → Option Out
noncomputable def WC.no : WC := ⟨fun _ _ => none⟩

noncomputable def storeV (s : Nat) (a v : V) (σ : St) : Option Out := ptr a fun id off => bcase (Nat.beq (lenL v.cells) s) (writeK σ id off v.cells (done undefV)) none
noncomputable def storeC (E : Env) (t : TypeId) (a x : Operand) : WC :=
  match E.size t with
  | some s => ⟨fun tm σ => bindV ((opc E a).get tm) fun a => bindV ((opc E x).get tm) fun v => storeV s a v σ⟩
  | none => .no

/-! ### append, copy, clear -/
noncomputable def sliceLen {α : Type} (x : V) (k : Nat → Option α) : Option α :=
  match x with
  | .sl _ n _ => k n
  | .s l => forceN (lenL l) k
  | _ => none

/-- What is appended: a slice's elements, a string's bytes. -/
noncomputable def argCells {α : Type} (σ : St) (size : Nat) (x : V) (k : Nat → List V → Option α) : Option α :=
  match x with
  | .s l => forceV (l.map fun b => .i .u8 (.ofNat b)) fun cs => forceN (lenL l) fun n => k n cs
  | .sl a n c => sliceCells σ size n (.sl a n c) fun cs => k n cs
  | _ => none
/-- .. or so many zeros. -/
noncomputable def argZeros {α : Type} (z : List V) (x : V) (k : Nat → List V → Option α) : Option α :=
  natV x fun n => bcase (Nat.ble n 1000000) (forceV (repC n z) fun cs => k n cs) none

structure Elem where
  id : TypeId
  size : Nat
  bytes : Nat
  zero : List V
noncomputable def elemOf (E : Env) (e : TypeId) : Option Elem :=
  match E.ty.get e, E.zero e with
  | some i, some z => bcase (Nat.beq (lenL z.cells) i.size && Nat.ble i.bytes 1000000) (some { id := e, size := i.size, bytes := i.bytes, zero := z.cells }) none
  | _, _ => none

noncomputable def small (e : Elem) (sLen n : Nat) (new : List V) : Bool := Nat.ble ((sLen + n) * e.bytes) 1000000000 && Nat.ble (sLen + n) 1000000000 && Nat.beq (lenL new) (n * e.size)

/-- A new row: what was, and what comes behind it. -/
noncomputable def growNew (e : Elem) (old new : List V) (need : Nat) (σ : St) : Option Out :=
  forceV (old ++ new) fun cs => σ.newK (.cells cs e.id (.op e.size)) fun id σ => forceN need fun need => done (.sl (some (id, 0)) need (.op 0)) σ

noncomputable def appEx (e : Elem) (base : Option (Nat × Nat)) (sLen c n : Nat) (new : List V) (σ : St) : Option Out :=
  bcase (Nat.ble (sLen + n) c)
    (match base with
      | none => forceN (sLen + n) fun need => done (.sl none need (.ex c)) σ
      | some p => writeK σ p.1 (p.2 + sLen * e.size) new fun σ => forceN (sLen + n) fun need => done (.sl (some p) need (.ex c)) σ)
    (sliceCells σ e.size sLen (.sl base sLen (.ex c)) fun old => bcase (small e sLen n new) (growNew e old new (sLen + n) σ) none)

noncomputable def appOp (e : Elem) (p : Nat × Nat) (sLen d n : Nat) (new : List V) (σ : St) : Option Out :=
  match σ.get p.1 with
  | none => none
  | some b => match b with
    | .cells c el md => match md with
      | .op esz =>
        bcase (Nat.beq esz e.size && Nat.blt 0 e.size && Nat.beq p.2 (d * e.size) && Nat.beq el e.id)
          (bcase (Nat.beq n 0) (done (.sl (some p) sLen (.op d)) σ)
            (bcase (Nat.ble (p.2 + (sLen + n) * e.size) (lenL c))
              (writeK σ p.1 (p.2 + sLen * e.size) new fun σ => forceN (sLen + n) fun need => done (.sl (some p) need (.op d)) σ)
              (sliceCells σ e.size sLen (.sl (some p) sLen (.op d)) fun old => bcase (small e sLen n new && allOne new) (σ.delK p.1 fun σ => growNew e old new (sLen + n) σ) none)))
          none
      | _ => none
    | _ => none

noncomputable def appendV (e : Elem) (s : V) (n : Nat) (new : List V) (σ : St) : Option Out :=
  match s with
  | .sl base sLen cap => match cap with
    | .ex c => appEx e base sLen c n new σ
    | .op d => match base with | some p => appOp e p sLen d n new σ | none => none
  | _ => none

noncomputable def appendC (E : Env) (t tx : TypeId) (s x : Operand) : WC :=
  match E.und t, E.und tx with
  | some (.slice e), some d => match elemOf E e with
    | none => .no
    | some e => match d with
      | .int _ => ⟨fun tm σ => bindV ((opc E s).get tm) fun s => bindV ((opc E x).get tm) fun x => argZeros e.zero x fun n new => appendV e s n new σ⟩
      | _ => ⟨fun tm σ => bindV ((opc E s).get tm) fun s => bindV ((opc E x).get tm) fun x => argCells σ e.size x fun n new => appendV e s n new σ⟩
  | _, _ => .no

noncomputable def copyFrom {α : Type} (σ : St) (size m : Nat) (x : V) (k : List V → Option α) : Option α :=
  match x with
  | .s l => forceV ((l.take m).map fun b => .i .u8 (.ofNat b)) k
  | x => sliceCells σ size m x k

noncomputable def copyV (size : Nat) (d x : V) (σ : St) : Option Out :=
  match d with
  | .sl base dLen _ => sliceLen x fun n => forceN (bcase (Nat.ble n dLen) n dLen) fun m =>
    bcase (Nat.beq m 0) (done (.i .i64 (.ofNat 0)) σ) (match base with
      | some p => copyFrom σ size m x fun cs => writeK σ p.1 p.2 cs (done (.i .i64 (.ofNat m)))
      | none => none)
  | _ => none
noncomputable def copyC (E : Env) (t : TypeId) (d x : Operand) : WC :=
  match E.und t with
  | some (.slice e) => match E.size e with
    | some size => ⟨fun tm σ => bindV ((opc E d).get tm) fun d => bindV ((opc E x).get tm) fun x => copyV size d x σ⟩
    | none => .no
  | _ => .no

noncomputable def clearMap (x : V) (σ : St) : Option Out :=
  match x with
  | .m r => match r with
    | none => done (.tu []) σ
    | some id => match σ.get id with
      | some (.map _ clock) => σ.putK id (.map [] clock) (done (.tu []))
      | _ => none
  | _ => none
noncomputable def clearSl (z : List V) (x : V) (σ : St) : Option Out :=
  match x with
  | .sl a n _ => match a with
    | none => done (.tu []) σ
    | some p => bcase (Nat.beq n 0) (done (.tu []) σ) (bcase (Nat.ble n 1000000) (forceV (repC n z) fun cs => writeK σ p.1 p.2 cs (done (.tu []))) none)
  | _ => none
noncomputable def clearC (E : Env) (t : TypeId) (x : Operand) : WC :=
  match E.und t with
  | some (.map _ _) => ⟨fun tm σ => bindV ((opc E x).get tm) fun x => clearMap x σ⟩
  | some (.slice e) => match elemOf E e with
    | some e => ⟨fun tm σ => bindV ((opc E x).get tm) fun x => clearSl e.zero x σ⟩
    | none => .no
  | _ => .no

/-! ### Maps -/
noncomputable def same1 (k k' : V) : Bool :=
  match k, k' with
  | .b a, .b b => a == b
  | .i t a, .i t' b => kEq t t' && eqI a b
  | .s a, .s b => eqL a b
  | _, _ => false
noncomputable def sameL : List V → List V → Bool
  | [], [] => true
  | x :: xs, y :: ys => bcase (same1 x y) (sameL xs ys) false
  | _, _ => false
noncomputable def sameK (k k' : V) : Bool :=
  match k, k' with
  | .ag a, .ag b => sameL a b
  | a, b => same1 a b
noncomputable def setEK {α : Type} (k v : V) : List (V × V × Nat) → Nat → (List (V × V × Nat) → Option α) → Option α
  | [], _, _ => none
  | e :: es, i, f => natE i (bcase (sameK k e.1) (f ((k, v, e.2.2) :: es)) none) fun i => setEK k v es i fun es => f (e :: es)
noncomputable def delEK {α : Type} : List (V × V × Nat) → Nat → (List (V × V × Nat) → α) → α
  | [], _, f => f []
  | e :: es, i, f => natE i (f es) fun i => delEK es i fun es => f (e :: es)
noncomputable def pushEK {α : Type} (e : V × V × Nat) : List (V × V × Nat) → (List (V × V × Nat) → α) → α
  | [], f => f [e]
  | x :: es, f => pushEK e es fun es => f (x :: es)

noncomputable def mapUpdV (E : Env) (kt : TypeId) (m k v : V) (σ : St) : Option Out :=
  match m with
  | .m r => match r with
    | none => none
    | some id => match σ.get id with
      | some b => match b with
        | .map es clock => bcase (keyFits (keyLen E kt) k) (findK E σ kt k (fun _ i => setEK k v es i fun es => σ.putK id (.map es clock) (done undefV))
            (pushEK (k, v, clock) es fun es => forceN (clock + 1) fun clock => σ.putK id (.map es clock) (done undefV)) es 0) none
        | _ => none
      | none => none
  | _ => none
noncomputable def mapUpdC (E : Env) (t : TypeId) (m k x : Operand) : WC :=
  match E.und t with
  | some (.map kt _) => match keyOk E kt with
    | true => ⟨fun tm σ => bindV ((opc E m).get tm) fun m => bindV ((opc E k).get tm) fun k => bindV ((opc E x).get tm) fun v => mapUpdV E kt m k v σ⟩
    | false => .no
  | _ => .no

noncomputable def deleteV (E : Env) (kt : TypeId) (m k : V) (σ : St) : Option Out :=
  match m with
  | .m r => match r with
    | none => bcase (keyFits (keyLen E kt) k) (done (.tu []) σ) none
    | some id => match σ.get id with
      | some b => match b with
        | .map es clock => bcase (keyFits (keyLen E kt) k) (findK E σ kt k (fun _ i => delEK es i fun es => σ.putK id (.map es clock) (done (.tu []))) (done (.tu []) σ) es 0) none
        | _ => none
      | none => none
  | _ => none
noncomputable def deleteC (E : Env) (t : TypeId) (m k : Operand) : WC :=
  match E.und t with
  | some (.map kt _) => match keyOk E kt with
    | true => ⟨fun tm σ => bindV ((opc E m).get tm) fun m => bindV ((opc E k).get tm) fun k => deleteV E kt m k σ⟩
    | false => .no
  | _ => .no

noncomputable def memN (n : Nat) : List Nat → Bool
  | [] => false
  | x :: xs => bcase (Nat.beq x n) true (memN n xs)

noncomputable def nextStr (id : Nat) (s : List Nat) (pos : Nat) (σ : St) : Option Out :=
  match nthN s pos with
  | none => done (.tu [.b false]) σ
  | some c => bcase (Nat.blt c 128) (forceN (pos + 1) fun pos' => σ.putK id (.siter s pos') (done (.tu [.b true, .i .i64 (.ofNat pos), .i .i32 (.ofNat c)]))) none

noncomputable def restE (seen : List Nat) : List (V × V × Nat) → List (V × V × Nat)
  | [] => []
  | e :: es => bcase (memN e.2.2 seen) (restE seen es) (e :: restE seen es)
noncomputable def allNew (stepped : Nat) : List (V × V × Nat) → Bool
  | [] => true
  | e :: es => bcase (Nat.ble stepped e.2.2) (allNew stepped es) false

noncomputable def nextMap (id m since : Nat) (seen : List Nat) (stepped : Nat) (es : List (V × V × Nat)) (clock : Nat) (σ : St) : Option Out :=
  bcase (!seen.isEmpty && !es.isEmpty && allNew stepped es) none
    (match restE seen es with
     | [] => done (.tu [.b false]) σ
     | e :: r => match r with
       | [] => bcase (Nat.blt e.2.2 since) (forceL (seen ++ [e.2.2]) fun seen => σ.putK id (.miter (some m) since seen clock) (done (.tu [.b true, e.1, e.2.1]))) none
       | _ => none)

noncomputable def nextV (isString : Bool) (it : V) (σ : St) : Option Out :=
  ptr it fun id off => match off with
    | _ + 1 => none
    | 0 => match σ.get id with
      | none => none
      | some b => match b with
        | .siter s pos => bcase isString (nextStr id s pos σ) none
        | .miter m since seen stepped => bcase isString none (match m with
          | none => done (.tu [.b false]) σ
          | some m => match σ.get m with
            | some (.map es clock) => nextMap id m since seen stepped es clock σ
            | _ => none)
        | _ => none

noncomputable def rangeNew (b : Blk) (σ : St) : Option Out := σ.newK b fun id σ => done (.p (some (id, 0))) σ
noncomputable def rangeMap (x : V) (σ : St) : Option Out :=
  match x with
  | .m r => match r with
    | none => rangeNew (.miter none 0 [] 0) σ
    | some m => match σ.get m with
      | some (.map _ clock) => rangeNew (.miter (some m) clock [] clock) σ
      | _ => none
  | _ => none
noncomputable def rangeC (E : Env) (t : TypeId) (x : Operand) : WC :=
  match E.und t with
  | some .string => ⟨fun tm σ => bindV ((opc E x).get tm) fun v => match v with | .s l => rangeNew (.siter l 0) σ | _ => none⟩
  | some (.map _ _) => ⟨fun tm σ => bindV ((opc E x).get tm) fun v => rangeMap v σ⟩
  | _ => .no

noncomputable def makeSliceV (e : Elem) (l c : V) (σ : St) : Option Out :=
  natV l fun l => natV c fun c => bcase (Nat.ble l c && Nat.ble c 1000000)
    (forceV (repC c e.zero) fun cs => σ.newK (.cells cs e.id .ex) fun id σ => done (.sl (some (id, 0)) l (.ex c)) σ) none
noncomputable def makeSliceC (E : Env) (t : TypeId) (l c : Operand) : WC :=
  match E.und t with
  | some (.slice e) => match elemOf E e with
    | some e => ⟨fun tm σ => bindV ((opc E l).get tm) fun l => bindV ((opc E c).get tm) fun c => makeSliceV e l c σ⟩
    | none => .no
  | _ => .no

/-- A slice of bytes that a constant string has become: a mark behind its block. -/
noncomputable def markV (x : V) (σ : St) : Option Out :=
  match x with
  | .sl a len cap => match a with
    | none => none
    | some p => match cap with
      | .op _ => none
      | .ex k => match σ.get p.1 with
        | none => none
        | some b => match b with
          | .cells c el md => match md with
            | .ex => σ.putK p.1 (.cells c el .ms) (done (.sl (some p) len (.ex k)))
            | .ms => done (.sl (some p) len (.ex k)) σ
            | _ => none
          | _ => none
  | _ => none
noncomputable def markC (E : Env) (src dst : TypeId) (x : Operand) : WC :=
  match E.und src, E.und dst with
  | some (.slice _), some (.slice e) => match E.und e with
    | some (.int .u8) => match Nat.beq src dst with
      | true => ⟨fun tm σ => bindV ((opc E x).get tm) fun v => markV v σ⟩
      | false => .no
    | _ => .no
  | _, _ => .no

/-! ### Calls -/
noncomputable def appK {α : Type} (l : List V) : List V → (List V → α) → α :=
  List.rec (fun c k => k c) (fun x _ ih c k => ih c fun l => k (x :: l)) l
theorem appK_eq {α : Type} (l : List V) : ∀ (c : List V) (k : List V → α), appK l c k = k (l ++ c) := by
  induction l with
  | nil => intro c k; rfl
  | cons x xs ih => intro c k; show appK xs c (fun l => k (x :: l)) = _; rw [ih]; rfl
noncomputable def catV (xs ys c : List V) (k : List V → Option Out) : Option Out := forceV c fun c => appK ys c fun l => appK xs l k
theorem catV_eq (xs ys c : List V) (k : List V → Option Out) : catV xs ys c k = k (xs ++ ys ++ c) := by
  unfold catV; rw [forceV_eq, appK_eq, appK_eq, List.append_assoc]

noncomputable def callV (f : V) (args : List V) : Option Out :=
  match f with
  | .f fn first cap => match fn with
    | .func g => catV first args cap fun l => some (.call g l)
    | .yield l => catV first args [] fun a => some (.round l a)
    | _ => none
  | _ => none
noncomputable def deferV (f : V) (args : List V) : Option Out :=
  match f with
  | .f fn first cap => match fn with
    | .func g => catV first args cap fun l => some (.defer g l)
    | _ => none
  | _ => none

noncomputable def builtinW (E : Env) (b : Builtin) (ts : List TypeId) (args : List Operand) : WC :=
  match b with
  | .append => match ts, args with
    | [t, tx], [s, x] => appendC E t tx s x
    | _, _ => .no
  | .copy => match ts, args with
    | t :: _, [d, x] => copyC E t d x
    | _, _ => .no
  | .clear => match ts, args with
    | t :: _, [x] => clearC E t x
    | _, _ => .no
  | .delete => match ts, args with
    | t :: _, [m, k] => deleteC E t m k
    | _, _ => .no
  | _ => .no

noncomputable def wc (E : Env) (o : Op) : WC :=
  match o with
  | .store t a x => storeC E t a x
  | .mapUpdate t m k v => mapUpdC E t m k v
  | .insert t m k v => mapUpdC E t m k v
  | .range t x => rangeC E t x
  | .next it isString => ⟨fun tm σ => bindV ((opc E it).get tm) fun it => nextV isString it σ⟩
  | .makeSlice t l c => makeSliceC E t l c
  | .convert src dst x => markC E src dst x
  | .call c => match c.callee with
    | .builtin b => builtinW E b c.argTypes.toList c.args.toList
    | .value f => match f with
      | .func g => ⟨fun tm _ => opcs E c.args.toList tm fun args => some (.call g args)⟩
      | f => ⟨fun tm _ => bindV ((opc E f).get tm) fun f => opcs E c.args.toList tm fun args => callV f args⟩
    | _ => .no
  | .defer c => match c.callee with
    | .value f => ⟨fun tm _ => bindV ((opc E f).get tm) fun f => opcs E c.args.toList tm fun args => deferV f args⟩
    | _ => .no
  | _ => .no

/-! ### Frames -/
inductive Dfr where
  | call (f : FuncId) (args : List V)
  | coll (r : Nat)

structure A where
  tmps : Tr V
  dfr : List Dfr

inductive Ex where
  | normal
  | exit (id : Nat)
  | ret

structure Res where
  ex : Ex
  a : A
  σ : St

structure VS where
  v : V
  σ : St

/-- What the machine asks of itself, one level deeper: code in a frame of 'n' slots; a call ('d': deferred). -/
structure Rc where
  code : Nat → Code → Option Nat → A → St → Option Res
  call : FuncId → List V → Bool → St → Option VS

structure PA where
  run : A → V → (A → Option Res) → Option Res
/-- A result into its slot. -/
noncomputable def pa (n : Nat) (dst : Option Tmp) : PA :=
  match dst with
  | none => ⟨fun a _ k => k a⟩
  | some d => match Nat.blt d n with
    | true => ⟨fun a v k => a.tmps.setK d (some v) fun t => k { tmps := t, dfr := a.dfr }⟩
    | false => ⟨fun _ _ _ => none⟩

structure KC where
  run : Rc → A → St → (A → St → Option Res) → Option Res

noncomputable def putParams : List Tmp → List V → Nat → Tr V → (Tr V → Option VS) → Option VS
  | [], [], _, t, k => k t
  | p :: ps, v :: vs, n, t, k => bcase (Nat.blt p n) (t.setK p (some v) fun t => putParams ps vs n t k) none
  | _, _, _, _, _ => none

noncomputable def endRound (l : Nat) (st : LoopState) (pend : Option Code) (b : Bool) (σ : St) : Option VS :=
  match σ.get l with
  | some x => match x with
    | .loop _ _ n t p as bd d => σ.putK l (.loop st pend n t p as bd d) fun σ => some ⟨.b b, σ⟩
    | _ => none
  | none => none

/-- A round of a range over a function. -/
noncomputable def roundF (rec : Rc) (l : Nat) (args : List V) (σ : St) : Option VS :=
  match σ.get l with
  | none => none
  | some x => match x with
    | .loop _ _ n tmps params assign body _ =>
      putParams params.toList args n tmps fun tmps =>
      match rec.code n assign (some l) { tmps, dfr := [] } σ with
      | none => none
      | some r₁ => match r₁.ex with
        | .normal => match r₁.σ.get l with
          | none => none
          | some y => match y with
            | .loop st pend n' t p as bd d => match st with
              | .ready => r₁.σ.putK l (.loop .busy pend n' t p as bd d) fun σ₂ =>
                match rec.code n body (some l) r₁.a σ₂ with
                | none => none
                | some r₂ => match r₂.ex with
                  | .normal => endRound l .ready none true r₂.σ
                  | .ret => endRound l .done (some .ret) false r₂.σ
                  | .exit id => endRound l .done (some (.exit id)) false r₂.σ
              | _ => none
            | _ => none
        | _ => none
    | _ => none

noncomputable def outK (rec : Rc) (n : Nat) (dst : Option Tmp) (o : Out) (a : A) (σ : St) (k : A → St → Option Res) : Option Res :=
  match o with
  | .val v σ => (pa n dst).run a v fun a => k a σ
  | .call f args => optE (rec.call f args false σ) none fun r => (pa n dst).run a r.v fun a => k a r.σ
  | .round l args => optE (roundF rec l args σ) none fun r => (pa n dst).run a r.v fun a => k a r.σ
  | .defer f args => (pa n dst).run { tmps := a.tmps, dfr := .call f args :: a.dfr } undefV fun a => k a σ

noncomputable def newMade (σ : St) (m : Made) (k : V → St → Option Res) : Option Res := σ.newK m.blk fun id σ => k (m.how.v id) σ

/-- One operation, made. -/
noncomputable def kc (E : Env) (n : Nat) (o : Oper) : KC :=
  match clsOf E o.op with
  | .value => ⟨fun _ a σ k => bindV ((vc E o.op).run a.tmps σ) fun v => (pa n o.dst).run a v fun a => k a σ⟩
  | .reads => ⟨fun _ a σ k => bindV ((vc E o.op).run a.tmps σ) fun v => (pa n o.dst).run a v fun a => k a σ⟩
  | .makes => ⟨fun _ a σ k => optE ((ac E o.op).run a.tmps) none fun m => newMade σ m fun v σ => (pa n o.dst).run a v fun a => k a σ⟩
  | .acts => ⟨fun rec a σ k => optE ((wc E o.op).run a.tmps σ) none fun x => outK rec n o.dst x a σ k⟩

noncomputable def isB (want : Bool) (v : V) : Bool := match v with | .b x => bcase x want (!want) | _ => false

/-- Is the operation made? -/
structure GC where
  run : Tr V → Bool
noncomputable def gc (ops : Array Oper) (o : Oper) : GC :=
  match o.guard with
  | none => ⟨fun _ => true⟩
  | some (j, want) =>
    match ops[j]? with
    | some g => match g.dst with
      | some d => ⟨fun tm => optE (tm.get d) false fun v => isB want v⟩
      | none => ⟨fun _ => false⟩
    | none => ⟨fun _ => false⟩

structure PC where
  run : Rc → A → St → Option Res

noncomputable def opsC (E : Env) (n : Nat) (ops : Array Oper) : List Oper → PC
  | [] => ⟨fun _ a σ => some { ex := .normal, a, σ }⟩
  | o :: os => match o.guard with
    | none => ⟨fun rec a σ => (kc E n o).run rec a σ fun a σ => (opsC E n ops os).run rec a σ⟩
    | some _ => ⟨fun rec a σ => bcase ((gc ops o).run a.tmps) ((kc E n o).run rec a σ fun a σ => (opsC E n ops os).run rec a σ)
        ((pa n o.dst).run a undefV fun a => (opsC E n ops os).run rec a σ)⟩

end Go.AM

/- The abstract machine: regions that draw their order; calls; the evaluator. -/
namespace Go.AM
open Go

noncomputable def eqbL (f : V → V → Bool) : List V → List V → Bool
  | [], [] => true
  | a :: x, b :: y => bcase (f a b) (eqbL f x y) false
  | _, _ => false
noncomputable def eqA (a b : Option (Nat × Nat)) : Bool :=
  match a with
  | none => match b with | none => true | some _ => false
  | some x => match b with | none => false | some y => Nat.beq x.1 y.1 && Nat.beq x.2 y.2
noncomputable def eqO (a b : Option Nat) : Bool :=
  match a with
  | none => match b with | none => true | some _ => false
  | some x => match b with | none => false | some y => Nat.beq x y
noncomputable def eqC (a b : Cap) : Bool :=
  match a with
  | .ex x => match b with | .ex y => Nat.beq x y | .op _ => false
  | .op x => match b with | .op y => Nat.beq x y | .ex _ => false

/-- Are two values spelled alike? -/
noncomputable def eqb : Nat → V → V → Bool
  | 0, _, _ => false
  | n + 1, x, y =>
    match x with
    | .b a => match y with | .b b => a == b | _ => false
    | .i k a => match y with | .i k' b => kEq k k' && eqI a b | _ => false
    | .s a => match y with | .s b => eqL a b | _ => false
    | .p a => match y with | .p b => eqA a b | _ => false
    | .sl a l c => match y with | .sl a' l' c' => eqA a a' && Nat.beq l l' && eqC c c' | _ => false
    | .m a => match y with | .m b => eqO a b | _ => false
    | .f fn a c => match y with
      | .f fn' a' c' => match fn with
        | .func f => match fn' with | .func g => Nat.beq f g && eqbL (eqb n) a a' && eqbL (eqb n) c c' | _ => false
        | _ => false
      | _ => false
    | .nf => match y with | .nf => true | _ => false
    | .if_ t v => match y with | .if_ t' v' => Nat.beq t t' && eqb n v v' | _ => false
    | .ni => match y with | .ni => true | _ => false
    | .ag a => match y with | .ag b => eqbL (eqb n) a b | _ => false
    | .tu a => match y with | .tu b => eqbL (eqb n) a b | _ => false

structure PStep where
  idx : Nat
  cls : Cls
  chk : List Nat
  back : Nat

noncomputable def subMask (a b : Nat) : Bool := Nat.beq (Nat.land a b) a

noncomputable def countOut (m : Nat) : List Nat → Nat
  | [] => 0
  | w :: ws => bcase (m.testBit w) (countOut m ws) (countOut m ws + 1)

noncomputable def findStep (E : Env) (ops : Array Oper) (b : Array Nat) (done : Nat) (mk : Bool) : List Nat → Option Nat
  | [] => none
  | i :: is =>
    bcase (done.testBit i) (findStep E ops b done mk is)
      (bcase (subMask (b.getD i 0) done && (mk || !decide (clsOf E (ops.getD i default).op = .makes))) (some i) (findStep E ops b done mk is))

/-- The order in which a region that draws is gone through: what makes blocks as late as can be; with what is to be looked at again. -/
noncomputable def planGo (E : Env) (ops : Array Oper) (b : Array Nat) : Nat → Nat → List Nat → List Nat → List Nat → Option (List PStep)
  | 0, _, _, _, _ => some []
  | n + 1, done, ws, rs, ms =>
    match (match findStep E ops b done false (List.range ops.size) with | some i => some i | none => findStep E ops b done true (List.range ops.size)) with
    | none => none
    | some i =>
      let m := b.getD i 0
      let c := clsOf E (ops.getD i default).op
      match c with
      | .value => (planGo E ops b n (done ||| 2 ^ i) ws rs ms).map ({ idx := i, cls := c, chk := [], back := 0 } :: ·)
      | .reads => (planGo E ops b n (done ||| 2 ^ i) ws (i :: rs) ms).map ({ idx := i, cls := c, chk := [], back := countOut m ws } :: ·)
      | .makes => (planGo E ops b n (done ||| 2 ^ i) ws rs (i :: ms)).map ({ idx := i, cls := c, chk := [], back := 0 } :: ·)
      | .acts => bcase (ws.all (fun w => m.testBit w) && ms.all (fun x => m.testBit x))
          ((planGo E ops b n (done ||| 2 ^ i) (i :: ws) rs ms).map ({ idx := i, cls := c, chk := rs.filter fun r => !m.testBit r, back := 0 } :: ·)) none

/-- No slot is written by one operation and written, or looked at, by another one that isn't in order with it. -/
noncomputable def slotsOk (ops : Array Oper) (b : Array Nat) : Bool :=
  ops.zipIdx.all fun (o, i) => ops.zipIdx.all fun (o', j) =>
    Nat.beq i j || (b.getD i 0).testBit j || (b.getD j 0).testBit i || o.apart ops o'

noncomputable def guardsOk (ops : Array Oper) (b : Array Nat) : Bool :=
  ops.zipIdx.all fun (o, i) => match o.guard with
    | none => true
    | some (j, _) => (b.getD i 0).testBit j

noncomputable def plan (E : Env) (ops : Array Oper) : Option (List PStep) :=
  let b := Region.before ops
  bcase (slotsOk ops b && guardsOk ops b && (!Region.departs ops || (Nat.beq (Region.linearise .gc ops 0).length ops.size && Nat.beq (Region.linearise .text ops 0).length ops.size)))
    (planGo E ops b ops.size 0 [] [] []) none

noncomputable def makesIn : List PStep → Nat
  | [] => 0
  | s :: r => match s.cls with | .makes => makesIn r + 1 | _ => makesIn r

structure Flt where
  idx : Nat
  op : Op
  tmps : Tr V
  v : V

noncomputable def sameAt (E : Env) (f : Flt) (σ : St) : Bool :=
  match (vc E f.op).run f.tmps σ with
  | some v => eqb 8 v f.v
  | none => false

noncomputable def recheck (E : Env) (σ : St) (chk : List Nat) : List Flt → Bool
  | [] => true
  | f :: fs => bcase (bcase (memN f.idx chk) (sameAt E f σ) true) (recheck E σ chk fs) false

noncomputable def allAt (E : Env) (f : Flt) : Nat → List St → Bool
  | 0, _ => true
  | n + 1, l => match l with
    | [] => false
    | σ :: r => bcase (sameAt E f σ) (allAt E f n r) false

noncomputable def big : Nat := 1099511627776
noncomputable def nilSt : St := { heap := .nil, next := big }

/-- 'hist': the memory behind each act, the last first; 'mid': the next number for a block that is made. -/
structure DS where
  hist : List St
  fl : List Flt
  mid : Nat

structure DC where
  run : Rc → DS → A → St → Option Res

noncomputable def actK (E : Env) (chk : List Nat) (n : Nat) (dst : Option Tmp) (v : V) (d : DS) (a : A) (σ : St) (k : DS → A → St → Option Res) : Option Res :=
  bcase (recheck E σ chk d.fl && Nat.ble σ.next big) ((pa n dst).run a v fun a => k { hist := σ :: d.hist, fl := d.fl, mid := d.mid } a σ) none

noncomputable def drawOut (E : Env) (chk : List Nat) (rec : Rc) (n : Nat) (dst : Option Tmp) (o : Out) (d : DS) (a : A) (σ : St) (k : DS → A → St → Option Res) : Option Res :=
  match o with
  | .val v σ => actK E chk n dst v d a σ k
  | .call f args => match rec.call f args false σ with
    | some r => actK E chk n dst r.v d a r.σ k
    | none => none
  | .round l args => match roundF rec l args σ with
    | some r => actK E chk n dst r.v d a r.σ k
    | none => none
  | .defer _ _ => none

/-- A read: its value is that of the memory behind the last act, and of as many ahead of it as its place may be. -/
noncomputable def drawRead (E : Env) (n : Nat) (i back : Nat) (o : Oper) (d : DS) (a : A) (σ : St) (k : DS → A → St → Option Res) : Option Res :=
  match d.hist with
  | [] => none
  | τ :: older => bindV ((vc E o.op).run a.tmps τ) fun v =>
    bcase (allAt E { idx := i, op := o.op, tmps := a.tmps, v } back older)
      ((pa n o.dst).run a v fun a' => k { hist := d.hist, fl := { idx := i, op := o.op, tmps := a.tmps, v } :: d.fl, mid := d.mid } a' σ) none

structure SK where
  run : Rc → DS → A → St → (DS → A → St → Option Res) → Option Res

noncomputable def stepD (E : Env) (n : Nat) (s : PStep) (o : Oper) : SK :=
  match s.cls with
  | .value => ⟨fun _ d a σ k => bindV ((vc E o.op).run a.tmps nilSt) fun v => (pa n o.dst).run a v fun a => k d a σ⟩
  | .reads => ⟨fun _ d a σ k => drawRead E n s.idx s.back o d a σ k⟩
  | .makes => ⟨fun _ d a σ k => match (ac E o.op).run a.tmps with
    | none => none
    | some m => σ.putK d.mid m.blk fun σ => forceN (d.mid + 1) fun mid' => (pa n o.dst).run a (m.how.v d.mid) fun a => k { hist := d.hist, fl := d.fl, mid := mid' } a σ⟩
  | .acts => ⟨fun rec d a σ k => match (wc E o.op).run a.tmps σ with
    | none => none
    | some x => drawOut E s.chk rec n o.dst x d a σ k⟩

noncomputable def skipD (s : PStep) (d : DS) : DS := match s.cls with | .makes => { hist := d.hist, fl := d.fl, mid := d.mid + 1 } | _ => d

/-- A region that draws its order, gone through in the plan's. -/
noncomputable def drawC (E : Env) (n : Nat) (ops : Array Oper) : List PStep → DC
  | [] => ⟨fun _ _ a σ => some { ex := .normal, a, σ }⟩
  | s :: ss => match ops[s.idx]? with
    | none => ⟨fun _ _ _ _ => none⟩
    | some o => ⟨fun rec d a σ => bcase ((gc ops o).run a.tmps)
        ((stepD E n s o).run rec d a σ fun d a σ => (drawC E n ops ss).run rec d a σ)
        ((pa n o.dst).run a undefV fun a => (drawC E n ops ss).run rec (skipD s d) a σ)⟩

/-! ### Functions without a body -/
noncomputable def bytesArg {α : Type} (σ : St) (x : V) (k : List Nat → Option α) : Option α :=
  match x with
  | .s l => k l
  | .sl a n c => sliceCells σ 1 n (.sl a n c) fun cs => bytesOfL cs k
  | _ => none

noncomputable def cmpL : List Nat → List Nat → Int
  | [], y => match y with | [] => 0 | _ :: _ => -1
  | a :: x, y => match y with | [] => 1 | b :: y => bcase (Nat.beq a b) (cmpL x y) (bcase (Nat.blt a b) (-1) 1)

noncomputable def idxL (c : Nat) : List Nat → Nat → Int
  | [], _ => -1
  | x :: xs, i => bcase (Nat.beq x c) (.ofNat i) (idxL c xs (i + 1))

noncomputable def readI {α : Type} (σ : St) (k : IntKind) (id off : Nat) (f : Int → Option α) : Option α :=
  cellsAt σ id fun c => bindV (nth c off) fun v => match v with
    | .i k' n => bcase (kEq k k') (f n) none
    | _ => none

noncomputable def done2 (v : V) (σ : St) : Option VS := some ⟨v, σ⟩

noncomputable def isEx (σ : St) (id : Nat) : Bool := match σ.get id with | some (.cells _ _ .ex) => true | _ => false

noncomputable def extF (e : Ext) (args : List V) (σ : St) : Option VS :=
  match e, args with
  | .add k, [p, d] => ptr p fun id off => match d with
    | .i k' d => bcase (kEq k k') (readI σ k id off fun n => forceI (wr k (Int.add n d)) fun m => writeK σ id off [.i k m] (done2 (.i k m))) none
    | _ => none
  | .load k, [p] => ptr p fun id off => readI σ k id off fun n => done2 (.i k n) σ
  | .store, [p, v] => ptr p fun id off => writeK σ id off [v] (done2 (.tu []))
  | .cas k, [p, old, new] => ptr p fun id off => match old with
    | .i _ old => readI σ k id off fun n => bcase (isEx σ id) (bcase (eqI n old) (writeK σ id off [new] (done2 (.b true))) (done2 (.b false) σ)) none
    | _ => none
  | .nothing, _ => done2 (.tu []) σ
  | .at_, p :: _ => ptr p fun _ _ => done2 (.tu []) σ
  | .cmp, [a, b] => bytesArg σ a fun x => bytesArg σ b fun y => forceI (cmpL x y) fun n => done2 (.i .i64 n) σ
  | .indexByte, [b, c] => match c with
    | .i k c => match c with
      | .ofNat c => bcase (kEq k .u8 && Nat.blt c 256) (bytesArg σ b fun l => forceI (idxL c l 0) fun n => done2 (.i .i64 n) σ) none
      | _ => none
    | _ => none
  | _, _ => none

structure RC where
  run : Tr V → St → (List V → Option VS) → Option VS

noncomputable def resC (E : Env) : List ResultVar → RC
  | [] => ⟨fun _ _ k => k []⟩
  | .tmp t :: r => ⟨fun tm σ k => bindV ((opc E (.tmp t)).get tm) fun v => (resC E r).run tm σ fun l => k (v :: l)⟩
  | .cell a t :: r => ⟨fun tm σ k => bindV ((loadC E t (.tmp a)).run tm σ) fun v => (resC E r).run tm σ fun l => k (v :: l)⟩

noncomputable def leaveF (rec : Rc) (k : St → Option VS) : List Dfr → St → Option VS
  | [], σ => k σ
  | d :: ds, σ => match d with
    | .coll r => match σ.get r with
      | some .dfd => σ.delK r fun σ => leaveF rec k ds σ
      | _ => none
    | .call f args => match rec.call f args true σ with
      | some r => leaveF rec k ds r.σ
      | none => none

noncomputable def retL (σ : St) (l : List V) : Option VS := match l with | [] => done2 (.tu []) σ | v :: r => match r with | [] => done2 v σ | w :: r => done2 (.tu (v :: w :: r)) σ

noncomputable def endF (E : Env) (rec : Rc) (rs : List ResultVar) (d : Bool) (a : A) (σ : St) : Option VS :=
  match d with
  | true => match a.dfr with
    | [] => (resC E rs).run a.tmps σ (retL σ)
    | _ => none
  | false => leaveF rec (fun σ => (resC E rs).run a.tmps σ (retL σ)) a.dfr σ

structure FC where
  run : Rc → List V → Bool → St → Option VS

noncomputable def fc (E : Env) (f : FuncId) : FC :=
  match E.fn.get f with
  | none => ⟨fun _ _ _ _ => none⟩
  | some fn =>
    match fn.body with
    | none => match E.ext.get f with
      | some e => ⟨fun _ args d σ => match d with | true => none | false => extF e args σ⟩
      | none => ⟨fun _ _ _ _ => none⟩
    | some c => ⟨fun rec args d σ => bcase (Nat.ble (lenL args) fn.ntmps)
        (Tr.ofListK args 0 .nil fun t => match rec.code fn.ntmps c none { tmps := t, dfr := [] } σ with
        | none => none
        | some r => match r.ex with
          | .normal => endF E rec fn.results.toList d r.a r.σ
          | .ret => endF E rec fn.results.toList d r.a r.σ
          | .exit _ => none) none⟩

noncomputable def rangeEnd (rec : Rc) (n : Nat) (ro : Option Nat) (l : Nat) (tm : Tr V) (dfr : List Dfr) (σ : St) : Option Res :=
  match σ.get l with
  | none => none
  | some x => match x with
    | .loop st pend m t p as bd d => match st with
      | .busy => none
      | _ => σ.putK l (.loop .exhausted pend m t p as bd d) fun σ => match pend with
        | none => some { ex := .normal, a := { tmps := tm, dfr }, σ }
        | some c => rec.code n c ro { tmps := tm, dfr } σ
    | _ => none

noncomputable def hasBody (E : Env) (f : FuncId) : Bool :=
  match E.fn.get f with
  | some fn => match fn.body with | some _ => true | none => false
  | none => false

noncomputable def rangeRun (E : Env) (rec : Rc) (n : Nat) (ro : Option Nat) (f : FuncId) (first cap : List V) (ps : Array Tmp) (assign body : Code) (tm : Tr V) (dfr : List Dfr) (dr : Nat) (σ : St) : Option Res :=
  bcase (hasBody E f) (σ.newK (.loop .ready none n tm ps assign body dr) fun l σ =>
  match rec.call f (first ++ V.f (.yield l) [] [] :: cap) false σ with
  | none => none
  | some r => rangeEnd rec n ro l tm dfr r.σ) none

noncomputable def rangeF (E : Env) (rec : Rc) (n : Nat) (ro : Option Nat) (g : V) (ps : Array Tmp) (assign body : Code) (a : A) (σ : St) : Option Res :=
  match g with
  | .f fn first cap => match fn with
    | .func f => match ro with
      | none => σ.newK .dfd fun r σ => rangeRun E rec n none f first cap ps assign body a.tmps (.coll r :: a.dfr) r σ
      | some l₀ => match σ.get l₀ with
        | some (.loop _ _ _ _ _ _ _ d) => rangeRun E rec n (some l₀) f first cap ps assign body a.tmps a.dfr d σ
        | _ => none
    | _ => none
  | _ => none

structure CC where
  run : Rc → Option Nat → A → St → Option Res

noncomputable def condK (v : V) (x y : Option Res) : Option Res := match v with | .b t => bcase t x y | _ => none
noncomputable def thenK (r : Option Res) (k : A → St → Option Res) : Option Res :=
  optE r none fun r => Ex.rec (k r.a r.σ) (fun _ => some r) (some r) r.ex
noncomputable def blockK (id : Nat) (r : Option Res) : Option Res :=
  optE r none fun r => Ex.rec (some r) (fun id' => bcase (Nat.beq id' id) (some { ex := .normal, a := r.a, σ := r.σ }) (some r)) (some r) r.ex

/-- Nothing is deferred here. -/
noncomputable def noDefer : List Oper → Bool
  | [] => true
  | o :: os => match o.op with
    | .defer _ => false
    | _ => noDefer os

/-- Code, its inner code gone through at the same level. -/
noncomputable def cc (E : Env) (n : Nat) : Code → CC
  | .skip => ⟨fun _ _ a σ => some { ex := .normal, a, σ }⟩
  | .label _ => ⟨fun _ _ a σ => some { ex := .normal, a, σ }⟩
  | .ret => ⟨fun _ _ a σ => some { ex := .ret, a, σ }⟩
  | .exit id => ⟨fun _ _ a σ => some { ex := .exit id, a, σ }⟩
  | .seq x y => ⟨fun rec ro a σ => thenK ((cc E n x).run rec ro a σ) fun a σ => (cc E n y).run rec ro a σ⟩
  | .cond c x y => ⟨fun rec ro a σ => bindV ((opc E c).get a.tmps) fun v => condK v ((cc E n x).run rec ro a σ) ((cc E n y).run rec ro a σ)⟩
  | .block id body => ⟨fun rec ro a σ => blockK id ((cc E n body).run rec ro a σ)⟩
  | .loop body => ⟨fun rec ro a σ => thenK ((cc E n body).run rec ro a σ) fun a σ => rec.code n (.loop body) ro a σ⟩
  | .region _ ops draw => match draw with
    | false => match noDefer ops.toList with
      | true => ⟨fun rec _ a σ => (opsC E n ops ops.toList).run rec a σ⟩
      | false => ⟨fun rec ro a σ => optE ro ((opsC E n ops ops.toList).run rec a σ) fun _ => none⟩
    | true => match plan E ops with
      | some p => ⟨fun rec _ a σ => forceN (σ.next + makesIn p) fun m => bcase (Nat.ble m big)
          ((drawC E n ops p).run rec { hist := [{ heap := σ.heap, next := m }], fl := [], mid := σ.next } a { heap := σ.heap, next := m }) none⟩
      | none => ⟨fun _ _ _ _ => none⟩
  | .rangeFunc g ps assign body => ⟨fun rec ro a σ => bindV ((opc E g).get a.tmps) fun g => rangeF E rec n ro g ps assign body a σ⟩
  | _ => ⟨fun _ _ _ _ => none⟩

/-- A contract: what a call comes to, where it tells. -/
structure Ctr where
  run : List V → St → Option VS

noncomputable def callT (E : Env) (T : Tr Ctr) (rec : Rc) (f : FuncId) (args : List V) (d : Bool) (σ : St) : Option VS :=
  match d with
  | true => (fc E f).run rec args true σ
  | false => optE (T.get f) ((fc E f).run rec args false σ) fun c => optE (c.run args σ) ((fc E f).run rec args false σ) some

noncomputable def evT (E : Env) (T : Tr Ctr) : Nat → Rc
  | 0 => ⟨fun _ _ _ _ _ => none, fun _ _ _ _ => none⟩
  | m + 1 => ⟨fun n c ro a σ => (cc E n c).run (evT E T m) ro a σ, fun f args d σ => callT E T (evT E T m) f args d σ⟩

noncomputable def ev (E : Env) (m : Nat) : Rc := evT E .nil m

end Go.AM
