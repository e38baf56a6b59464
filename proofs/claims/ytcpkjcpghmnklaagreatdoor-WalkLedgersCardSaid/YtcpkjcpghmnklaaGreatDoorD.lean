/- Regions that draw (1): an operation looks at its operands alone. -/
import Derived.Test.YtcpkjcpghmnklaaGreatDoorC
import Derived.Orders
set_option linter.all false

/- Regions that draw (1): an operation looks at its operands alone. -/
namespace Go.AM
open Go

def Agree (E : Env) (tm tm' : Tr V) (xs : List Operand) : Prop := ∀ x ∈ xs, (opc E x).get tm = (opc E x).get tm'

section
variable {E : Env} {tm tm' : Tr V}

theorem opcs_agree {α : Type} : ∀ {xs : List Operand} {k : List V → Option α}, Agree E tm tm' xs → opcs E xs tm k = opcs E xs tm' k := by
  intro xs
  induction xs with
  | nil => intro k _; rfl
  | cons x xs ih =>
    intro k h
    unfold opcs
    rw [h x (List.mem_cons_self ..)]
    congr 1
    funext v
    exact ih (fun y hy => h y (List.mem_cons_of_mem _ hy))

theorem evalParts_agree {α : Type} : ∀ {ps : List (Nat × Operand)} {k : List (Nat × V) → Option α}, Agree E tm tm' (ps.map (·.2)) → evalParts E ps tm k = evalParts E ps tm' k := by
  intro ps
  induction ps with
  | nil => intro k _; rfl
  | cons p ps ih =>
    intro k h
    unfold evalParts
    rw [h p.2 (by simp)]
    congr 1
    funext v
    exact ih (fun y hy => h y (by simp at hy ⊢; exact .inr hy))

theorem optV_agree {α : Type} {x : Option Operand} {k : Option V → Option α} (h : Agree E tm tm' x.toList) : optV E x tm k = optV E x tm' k := by
  cases x with
  | none => rfl
  | some x =>
    show (bindV ((opc E x).get tm) fun v => k (some v)) = bindV ((opc E x).get tm') fun v => k (some v)
    rw [h x (by simp)]

theorem lenC_agree {t : TypeId} {x : Operand} (hx : (opc E x).get tm = (opc E x).get tm') (σ : St) : (lenC E t x).run tm σ = (lenC E t x).run tm' σ := by
  unfold lenC
  repeat' split
  all_goals first | rfl | simp only [hx]
theorem capC_agree {t : TypeId} {x : Operand} (hx : (opc E x).get tm = (opc E x).get tm') (σ : St) : (capC E t x).run tm σ = (capC E t x).run tm' σ := by
  unfold capC
  repeat' split
  all_goals first | rfl | simp only [hx]

theorem vc_agree {o : Op} (h : Agree E tm tm' o.operands.toList) (σ : St) : (vc E o).run tm σ = (vc E o).run tm' σ := by
  have one : ∀ {x : Operand}, x ∈ o.operands.toList → (opc E x).get tm = (opc E x).get tm' := fun hx => h _ hx
  cases o <;> simp only [vc]
  case move x => exact one (by simp [Op.operands])
  case assign x => exact one (by simp [Op.operands])
  case pick c a b => rw [one (x := c) (by simp [Op.operands]), one (x := a) (by simp [Op.operands]), one (x := b) (by simp [Op.operands])]
  case nilCheck x => rw [one (x := x) (by simp [Op.operands])]
  case unOp op t x => rw [one (x := x) (by simp [Op.operands])]
  case binOp op t x y yt =>
    have hx := one (x := x) (by simp [Op.operands])
    have hy := one (x := y) (by simp [Op.operands])
    unfold binC
    repeat' split
    all_goals first | rfl | simp only [hx, hy]
  case convert src dst x =>
    have hx := one (x := x) (by simp [Op.operands])
    unfold convC
    repeat' split
    all_goals first | rfl | simp only [hx]
  case makeInterface t x =>
    have hx := one (x := x) (by simp [Op.operands])
    repeat' split
    all_goals first | rfl | simp only [hx]
  case makeFunc fn first cap =>
    split
    · show (opcs E first.toList tm fun a => opcs E cap.toList tm fun c => _) = (opcs E first.toList tm' fun a => opcs E cap.toList tm' fun c => _)
      rw [opcs_agree (xs := first.toList) (fun x hx => one (by simp [Op.operands] at hx ⊢; exact .inl hx))]
      congr 1
      funext a
      exact opcs_agree (fun x hx => one (by simp [Op.operands] at hx ⊢; exact .inr hx))
    · rfl
  case slice t x lo hi mx =>
    have hx := one (x := x) (by simp [Op.operands])
    have h1 : Agree E tm tm' lo.toList := fun y hy => one (by simp [Op.operands] at hy ⊢; simp [hy])
    have h2 : Agree E tm tm' hi.toList := fun y hy => one (by simp [Op.operands] at hy ⊢; simp [hy])
    have h3 : Agree E tm tm' mx.toList := fun y hy => one (by simp [Op.operands] at hy ⊢; simp [hy])
    unfold sliceC
    repeat' split
    all_goals first | rfl | simp only [hx, optV_agree h1, optV_agree h2, optV_agree h3]
  case fieldAddr s x f =>
    have hx := one (x := x) (by simp [Op.operands])
    unfold fieldAddrC
    repeat' split
    all_goals first | rfl | simp only [hx]
  case field s x f =>
    have hx := one (x := x) (by simp [Op.operands])
    unfold fieldC
    repeat' split
    all_goals first | rfl | simp only [hx]
  case indexAddr t x i =>
    have hx := one (x := x) (by simp [Op.operands])
    have hi := one (x := i) (by simp [Op.operands])
    unfold indexAddrC
    repeat' split
    all_goals first | rfl | simp only [hx, hi]
  case index t x i =>
    have hx := one (x := x) (by simp [Op.operands])
    have hi := one (x := i) (by simp [Op.operands])
    unfold indexC
    repeat' split
    all_goals first | rfl | simp only [hx, hi]
  case extract x i => rw [one (x := x) (by simp [Op.operands])]
  case load t x =>
    have hx := one (x := x) (by simp [Op.operands])
    unfold loadC
    repeat' split
    all_goals first | rfl | simp only [hx]
  case lookup t m k ok =>
    have hx := one (x := m) (by simp [Op.operands])
    have hk := one (x := k) (by simp [Op.operands])
    unfold lookC
    repeat' split
    all_goals first | rfl | simp only [hx, hk]
  case build t parts =>
    have hp : Agree E tm tm' (parts.toList.map (·.2)) := fun y hy => one (by simpa [Op.operands] using hy)
    unfold buildC
    repeat' split
    all_goals first | rfl | simp only [evalParts_agree hp]
  case typeAssert x a asserted ok =>
    have hx := one (x := x) (by simp [Op.operands])
    unfold assertC
    repeat' split
    all_goals first | rfl | simp only [hx]
  case entry it => rw [one (x := it) (by simp [Op.operands])]
  case call c =>
    obtain ⟨callee, args, ts⟩ := c
    simp only
    split
    · rename_i b
      have ha : Agree E tm tm' args.toList := fun y hy => one (by simp [Op.operands, Call.operands] at hy ⊢; simp [hy])
      unfold builtinC
      repeat' split
      all_goals first
        | rfl
        | (rename_i hxs; rw [hxs] at ha; exact lenC_agree (ha _ (List.mem_cons_self ..)) σ)
        | (rename_i hxs; rw [hxs] at ha; exact capC_agree (ha _ (List.mem_cons_self ..)) σ)
        | simp only [opcs_agree ha]
    · rfl

  all_goals rfl

theorem ac_agree {o : Op} (h : Agree E tm tm' o.operands.toList) : (ac E o).run tm = (ac E o).run tm' := by
  have one : ∀ {x : Operand}, x ∈ o.operands.toList → (opc E x).get tm = (opc E x).get tm' := fun hx => h _ hx
  cases o <;> simp only [ac]
  case alloc t =>
    repeat' split
    all_goals rfl
  case box t x => rw [one (x := x) (by simp [Op.operands])]
  case buildSlice t len parts =>
    have hp : Agree E tm tm' (parts.toList.map (·.2)) := fun y hy => one (by simpa [Op.operands] using hy)
    unfold buildSliceC
    repeat' split
    all_goals first | rfl | simp only [evalParts_agree hp]
  case makeMap t r =>
    repeat' split
    all_goals rfl
  case convert src dst x =>
    have hx := one (x := x) (by simp [Op.operands])
    repeat' split
    all_goals first | rfl | simp only [hx]
  all_goals rfl

theorem wc_agree {o : Op} (h : Agree E tm tm' o.operands.toList) (σ : St) : (wc E o).run tm σ = (wc E o).run tm' σ := by
  have one : ∀ {x : Operand}, x ∈ o.operands.toList → (opc E x).get tm = (opc E x).get tm' := fun hx => h _ hx
  cases o <;> simp only [wc]
  case store t a x =>
    have hx := one (x := a) (by simp [Op.operands])
    have hy := one (x := x) (by simp [Op.operands])
    unfold storeC
    repeat' split
    all_goals first | rfl | simp only [hx, hy]
  case mapUpdate t m k x =>
    have hx := one (x := m) (by simp [Op.operands])
    have hy := one (x := k) (by simp [Op.operands])
    have hz := one (x := x) (by simp [Op.operands])
    unfold mapUpdC
    repeat' split
    all_goals first | rfl | simp only [hx, hy, hz]
  case insert t m k x =>
    have hx := one (x := m) (by simp [Op.operands])
    have hy := one (x := k) (by simp [Op.operands])
    have hz := one (x := x) (by simp [Op.operands])
    unfold mapUpdC
    repeat' split
    all_goals first | rfl | simp only [hx, hy, hz]
  case range t x =>
    have hx := one (x := x) (by simp [Op.operands])
    unfold rangeC
    repeat' split
    all_goals first | rfl | simp only [hx]
  case next it isString => rw [one (x := it) (by simp [Op.operands])]
  case makeSlice t l c =>
    have hx := one (x := l) (by simp [Op.operands])
    have hy := one (x := c) (by simp [Op.operands])
    unfold makeSliceC
    repeat' split
    all_goals first | rfl | simp only [hx, hy]
  case convert src dst x =>
    have hx := one (x := x) (by simp [Op.operands])
    unfold markC
    repeat' split
    all_goals first | rfl | simp only [hx]
  case call c =>
    obtain ⟨callee, args, ts⟩ := c
    have ha : Agree E tm tm' args.toList := fun y hy => one (by simp [Op.operands, Call.operands] at hy ⊢; simp [hy])
    cases callee with
    | builtin b =>
      simp only
      unfold builtinW
      split
      · split
        · rename_i hxs
          rw [hxs] at ha
          have hx := ha _ (List.mem_cons_self ..)
          have hy := ha _ (List.mem_cons_of_mem _ (List.mem_cons_self ..))
          unfold appendC
          repeat' split
          all_goals first | rfl | simp only [hx, hy]
        · rfl
      · split
        · rename_i hxs
          rw [hxs] at ha
          have hx := ha _ (List.mem_cons_self ..)
          have hy := ha _ (List.mem_cons_of_mem _ (List.mem_cons_self ..))
          unfold copyC
          repeat' split
          all_goals first | rfl | simp only [hx, hy]
        · rfl
      · split
        · rename_i hxs
          rw [hxs] at ha
          have hx := ha _ (List.mem_cons_self ..)
          unfold clearC
          repeat' split
          all_goals first | rfl | simp only [hx]
        · rfl
      · split
        · rename_i hxs
          rw [hxs] at ha
          have hx := ha _ (List.mem_cons_self ..)
          have hy := ha _ (List.mem_cons_of_mem _ (List.mem_cons_self ..))
          unfold deleteC
          repeat' split
          all_goals first | rfl | simp only [hx, hy]
        · rfl
      · rfl
    | value f =>
      have hf := one (x := f) (by simp [Op.operands, Call.operands])
      simp only
      split
      · exact opcs_agree ha
      · simp only [hf, opcs_agree ha]
    | invoke r m => rfl
  case defer c =>
    obtain ⟨callee, args, ts⟩ := c
    have ha : Agree E tm tm' args.toList := fun y hy => one (by simp [Op.operands, Call.operands] at hy ⊢; simp [hy])
    cases callee with
    | builtin b => rfl
    | value f =>
      have hf := one (x := f) (by simp [Op.operands, Call.operands])
      simp only [hf, opcs_agree ha]
    | invoke r m => rfl
  all_goals rfl

/-- Slots alike: operands alike. -/
theorem opc_tmp (t : Tmp) (tm : Tr V) : (opc E (.tmp t)).get tm = some (slot tm t) := by
  show optE (tm.get t) (some undefV) some = _
  unfold slot
  cases tm.get t <;> rfl

theorem agree_of_slots {o : Op} (h : ∀ t, Operand.tmp t ∈ o.operands.toList → slot tm t = slot tm' t) : Agree E tm tm' o.operands.toList := by
  intro x hx
  cases x with
  | tmp t => rw [opc_tmp, opc_tmp, h t hx]
  | const v => simp only [opc]; split <;> rfl
  | global g => simp only [opc]; split <;> rfl
  | func f => rfl

theorem gc_agree {ops : Array Oper} {o : Oper} (h : ∀ j want g d, o.guard = some (j, want) → ops[j]? = some g → g.dst = some d → slot tm d = slot tm' d) : (gc ops o).run tm = (gc ops o).run tm' := by
  unfold gc
  split
  · rfl
  · rename_i j want hg
    split
    · rename_i g hj
      split
      · rename_i d hd
        have hs := h j want g d hg hj hd
        have key : ∀ tm : Tr V, (optE (tm.get d) false fun v => isB want v) = isB want (slot tm d) := by
          intro tm
          unfold slot
          cases tm.get d <;> rfl
        show (optE (tm.get d) false fun v => isB want v) = (optE (tm'.get d) false fun v => isB want v)
        rw [key, key, hs]
      · rfl
    · rfl
end
end Go.AM

/- Regions that draw (2): the plan as it was played. -/
namespace Go.AM
open Go

/-- One operation, as the plan has played it: ahead of it the slots, the memory, the memories behind the acts, the next reserved number. -/
structure Stp where
  s : PStep
  o : Oper
  tm : Tr V
  want : Bool
  v : V
  σ : St
  σ' : St
  hist : List St
  mid : Nat
  blk : Blk

def putT (tm : Tr V) (dst : Option Tmp) (v : V) : Tr V := match dst with | none => tm | some d => tm.set d (some v)

def Stp.effT (r : Stp) (tm : Tr V) : Tr V := putT tm r.o.dst r.v
def Stp.effM (r : Stp) (σ : St) : St := if r.want = true then (match r.s.cls with | .makes => σ.put r.mid r.blk | .acts => r.σ' | _ => σ) else σ
def Stp.effH (r : Stp) (h : List St) : List St := if r.want = true then (match r.s.cls with | .acts => r.σ' :: h | _ => h) else h
def Stp.effMid (r : Stp) (m : Nat) : Nat := match r.s.cls with | .makes => m + 1 | _ => m
def Stp.flt (r : Stp) : Flt := { idx := r.s.idx, op := r.o.op, tmps := r.tm, v := r.v }
def Stp.effF (r : Stp) (fl : List Flt) : List Flt := if r.want = true then (match r.s.cls with | .reads => r.flt :: fl | _ => fl) else fl

def ActRes (rec : Rc) (σ : St) (v : V) (σ' : St) : Out → Prop
  | .val v' s' => v' = v ∧ s' = σ'
  | .call f args => rec.call f args false σ = some ⟨v, σ'⟩
  | .round l args => roundF rec l args σ = some ⟨v, σ'⟩
  | .defer _ _ => False

def Local (E : Env) (rec : Rc) (n : Nat) (ops : Array Oper) (r : Stp) (fl : List Flt) : Prop :=
  ops[r.s.idx]? = some r.o ∧ (∀ d, r.o.dst = some d → d < n) ∧ (gc ops r.o).run r.tm = r.want ∧ (r.want = false → r.v = undefV) ∧
  (r.want = true → match r.s.cls with
    | .value => (vc E r.o.op).run r.tm nilSt = some r.v
    | .reads => ∃ τ older, r.hist = τ :: older ∧ (vc E r.o.op).run r.tm τ = some r.v ∧ allAt E r.flt r.s.back older = true
    | .makes => ∃ m, (ac E r.o.op).run r.tm = some m ∧ r.blk = m.blk ∧ r.v = m.how.v r.mid
    | .acts => ∃ x, (wc E r.o.op).run r.tm r.σ = some x ∧ ActRes rec r.σ r.v r.σ' x ∧ recheck E r.σ' r.s.chk fl = true ∧ r.σ'.next ≤ big)

def Play (E : Env) (rec : Rc) (n : Nat) (ops : Array Oper) : List Stp → List Flt → Tr V → St → List St → Nat → Prop
  | [], _, _, _, _, _ => True
  | r :: rs, fl, tm, σ, h, mid => r.tm = tm ∧ r.σ = σ ∧ r.hist = h ∧ r.mid = mid ∧ Local E rec n ops r fl ∧ Play E rec n ops rs (r.effF fl) (r.effT tm) (r.effM σ) (r.effH h) (r.effMid mid)

section
variable {E : Env} {rec : Rc} {n : Nat} {ops : Array Oper}

theorem pa_some {dst : Option Tmp} {a : A} {v : V} {k : A → Option Res} {r : Res} (h : (pa n dst).run a v k = some r) : (∀ d, dst = some d → d < n) ∧ k { tmps := putT a.tmps dst v, dfr := a.dfr } = some r := by
  unfold pa at h
  split at h
  · exact ⟨fun d hd => (by cases hd), h⟩
  · rename_i d
    split at h
    · rename_i hd
      simp only [Tr.setK_eq] at h
      exact ⟨fun d' e => by cases e; simpa using hd, h⟩
    · cases h

theorem drawC_play : ∀ {p : List PStep} {d : DS} {a : A} {σ : St} {res : Res}, (drawC E n ops p).run rec d a σ = some res →
    ∃ rs : List Stp, rs.map (·.s) = p ∧ Play E rec n ops rs d.fl a.tmps σ d.hist d.mid ∧
      res = { ex := .normal, a := { tmps := rs.foldl (fun t r => r.effT t) a.tmps, dfr := a.dfr }, σ := rs.foldl (fun m r => r.effM m) σ } := by
  intro p
  induction p with
  | nil =>
    intro d a σ res h
    cases h
    exact ⟨[], rfl, trivial, rfl⟩
  | cons s ss ih =>
    intro d a σ res h
    unfold drawC at h
    split at h
    · cases h
    · rename_i o ho
      simp only [bcase_eq] at h
      split at h
      · rename_i hw
        unfold stepD at h
        -- each kind
        have fin : ∀ (r : Stp) {d' : DS} {a' : A} {σ' : St}, r.s = s → (drawC E n ops ss).run rec d' a' σ' = some res → r.tm = a.tmps → r.σ = σ → r.hist = d.hist → r.mid = d.mid → Local E rec n ops r d.fl →
            d'.fl = r.effF d.fl → a'.tmps = r.effT a.tmps → σ' = r.effM σ → d'.hist = r.effH d.hist → d'.mid = r.effMid d.mid → a'.dfr = a.dfr →
            ∃ rs : List Stp, rs.map (·.s) = s :: ss ∧ Play E rec n ops rs d.fl a.tmps σ d.hist d.mid ∧
              res = { ex := .normal, a := { tmps := rs.foldl (fun t r => r.effT t) a.tmps, dfr := a.dfr }, σ := rs.foldl (fun m r => r.effM m) σ } := by
          intro r d' a' σ' hs hrun h1 h2 h3 h4 hl e1 e2 e3 e4 e5 e6
          obtain ⟨rs, q1, q2, q3⟩ := ih hrun
          refine ⟨r :: rs, by simp [hs, q1], ⟨h1, h2, h3, h4, hl, ?_⟩, ?_⟩
          · rw [e1, e2, e3, e4, e5] at q2; exact q2
          · rw [q3, e2, e3, e6]; rfl
        split at h
        · rename_i hcls
          obtain ⟨v, hv, h⟩ := bindV_some h
          obtain ⟨hd, h⟩ := pa_some h
          exact fin { s, o, tm := a.tmps, want := true, v, σ, σ' := σ, hist := d.hist, mid := d.mid, blk := .dfd } rfl h rfl rfl rfl rfl
            ⟨ho, hd, hw, by simp, fun _ => by simp only [hcls]; exact hv⟩ (by simp [Stp.effF, hcls]) rfl (by simp [Stp.effM, hcls]) (by simp [Stp.effH, hcls]) (by simp [Stp.effMid, hcls]) rfl
        · rename_i hcls
          unfold drawRead at h
          simp only at h
          split at h
          · cases h
          · rename_i τ older hh
            obtain ⟨v, hv, h⟩ := bindV_some h
            rw [bcase_eq] at h
            split at h
            · rename_i hal
              obtain ⟨hd, h⟩ := pa_some h
              exact fin { s, o, tm := a.tmps, want := true, v, σ, σ' := σ, hist := d.hist, mid := d.mid, blk := .dfd } rfl h rfl rfl rfl rfl
                ⟨ho, hd, hw, by simp, fun _ => by simp only [hcls]; exact ⟨τ, older, hh, hv, hal⟩⟩ (by simp [Stp.effF, hcls, Stp.flt]) rfl (by simp [Stp.effM, hcls]) (by simp [Stp.effH, hcls]) (by simp [Stp.effMid, hcls]) rfl
            · cases h
        · rename_i hcls
          simp only at h
          split at h
          · cases h
          · rename_i m hm
            rw [St.putK_eq, forceN_eq] at h
            obtain ⟨hd, h⟩ := pa_some h
            exact fin { s, o, tm := a.tmps, want := true, v := m.how.v d.mid, σ, σ' := σ, hist := d.hist, mid := d.mid, blk := m.blk } rfl h rfl rfl rfl rfl
              ⟨ho, hd, hw, by simp, fun _ => by simp only [hcls]; exact ⟨m, hm, rfl, rfl⟩⟩ (by simp [Stp.effF, hcls]) rfl (by simp [Stp.effM, hcls]) (by simp [Stp.effH, hcls]) (by simp [Stp.effMid, hcls]) rfl
        · rename_i hcls
          simp only at h
          split at h
          · cases h
          · rename_i x hx
            have actF : ∀ {v : V} {σ₂ : St}, ActRes rec σ v σ₂ x → actK E s.chk n o.dst v d a σ₂ (fun d a σ => (drawC E n ops ss).run rec d a σ) = some res →
                ∃ rs : List Stp, rs.map (·.s) = s :: ss ∧ Play E rec n ops rs d.fl a.tmps σ d.hist d.mid ∧
                  res = { ex := .normal, a := { tmps := rs.foldl (fun t r => r.effT t) a.tmps, dfr := a.dfr }, σ := rs.foldl (fun m r => r.effM m) σ } := by
              intro v σ₂ har h
              unfold actK at h
              rw [bcase_eq] at h
              split at h
              · rename_i hck
                simp only [Bool.and_eq_true, Nat.ble_eq] at hck
                obtain ⟨hd, h⟩ := pa_some h
                exact fin { s, o, tm := a.tmps, want := true, v, σ, σ' := σ₂, hist := d.hist, mid := d.mid, blk := .dfd } rfl h rfl rfl rfl rfl
                  ⟨ho, hd, hw, by simp, fun _ => by simp only [hcls]; exact ⟨x, hx, har, hck.1, hck.2⟩⟩ (by simp [Stp.effF, hcls]) rfl (by simp [Stp.effM, hcls]) (by simp [Stp.effH, hcls]) (by simp [Stp.effMid, hcls]) rfl
              · cases h
            unfold drawOut at h
            split at h
            · exact actF ⟨rfl, rfl⟩ h
            · split at h
              · rename_i f args r hr
                exact actF (v := r.v) (σ₂ := r.σ) hr h
              · cases h
            · split at h
              · rename_i l args r hr
                exact actF (v := r.v) (σ₂ := r.σ) hr h
              · cases h
            · cases h
      · rename_i hw
        obtain ⟨hd, h⟩ := pa_some h
        obtain ⟨rs, q1, q2, q3⟩ := ih h
        have hw' : (gc ops o).run a.tmps = false := by simpa using hw
        refine ⟨{ s, o, tm := a.tmps, want := false, v := undefV, σ, σ' := σ, hist := d.hist, mid := d.mid, blk := .dfd } :: rs, by simp [q1], ⟨rfl, rfl, rfl, rfl, ⟨ho, hd, hw', fun _ => rfl, fun hh => by cases hh⟩, ?_⟩, ?_⟩
        · have e1 : (skipD s d).fl = d.fl := by unfold skipD; split <;> rfl
          have e2 : (skipD s d).hist = d.hist := by unfold skipD; split <;> rfl
          have e3 : (skipD s d).mid = (match s.cls with | .makes => d.mid + 1 | _ => d.mid) := by unfold skipD; split <;> simp_all
          rw [e1, e2, e3] at q2
          exact q2
        · rw [q3]; rfl

/-- The list taken apart at one of its operations. -/
theorem Play.split {rs : List Stp} : ∀ {fl : List Flt} {tm : Tr V} {σ : St} {h : List St} {mid : Nat} {pre : List Stp} {r : Stp} {post : List Stp}, Play E rec n ops rs fl tm σ h mid → rs = pre ++ r :: post →
    r.tm = pre.foldl (fun t r => r.effT t) tm ∧ r.σ = pre.foldl (fun m r => r.effM m) σ ∧ r.hist = pre.foldl (fun h r => r.effH h) h ∧ r.mid = pre.foldl (fun m r => r.effMid m) mid ∧
    Local E rec n ops r (pre.foldl (fun f r => r.effF f) fl) ∧
    Play E rec n ops post (r.effF (pre.foldl (fun f r => r.effF f) fl)) (r.effT r.tm) (r.effM r.σ) (r.effH r.hist) (r.effMid r.mid) := by
  intro fl tm σ h mid pre
  induction pre generalizing rs fl tm σ h mid with
  | nil =>
    intro r post hp e
    subst e
    obtain ⟨h1, h2, h3, h4, h5, h6⟩ := hp
    refine ⟨h1, h2, h3, h4, h5, ?_⟩
    rw [h1, h2, h3, h4]
    exact h6
  | cons x pre ih =>
    intro r post hp e
    subst e
    obtain ⟨h1, h2, h3, h4, h5, h6⟩ := hp
    exact ih h6 rfl
end
end Go.AM

/- Regions that draw (3): masks, the plan, linear lists. -/
namespace Go.AM
open Go

/-! ### Masks -/
def fmask (acc : Array Nat) (o : Oper) : Nat := o.after.foldl (fun s e => if Region.binds .any e then s ||| 2 ^ e.on ||| acc.getD e.on 0 else s) 0
def bl (l : List Oper) : Array Nat := l.foldl (fun acc o => acc.push (fmask acc o)) #[]

theorem before_eq (ops : Array Oper) : Region.before ops = bl ops.toList := by
  unfold Region.before bl
  rw [← Array.foldl_toList]
  rfl

theorem bl_snoc (l : List Oper) (o : Oper) : bl (l ++ [o]) = (bl l).push (fmask (bl l) o) := by
  unfold bl; rw [List.foldl_append]; rfl

theorem snoc_ind {α : Type} {p : List α → Prop} (h0 : p []) (h1 : ∀ l x, p l → p (l ++ [x])) : ∀ l, p l := by
  intro l
  have : ∀ m : List α, p m.reverse := by
    intro m
    induction m with
    | nil => exact h0
    | cons x m ih => rw [List.reverse_cons]; exact h1 _ _ ih
  have h := this l.reverse
  rwa [List.reverse_reverse] at h

theorem bl_size : ∀ l, (bl l).size = l.length := by
  refine snoc_ind rfl ?_
  intro l x ih
  rw [bl_snoc, Array.size_push, ih, List.length_append]; rfl

theorem bl_getD_snoc (l : List Oper) (o : Oper) (j : Nat) : (bl (l ++ [o])).getD j 0 = if j < l.length then (bl l).getD j 0 else if j = l.length then fmask (bl l) o else 0 := by
  rw [bl_snoc]
  simp only [Array.getD_eq_getD_getElem?, Array.getElem?_push, bl_size]
  by_cases h1 : j = l.length
  · subst h1; simp
  · rw [if_neg h1]
    by_cases h2 : j < l.length
    · rw [if_pos h2]
    · rw [if_neg h2, if_neg h1, Array.getElem?_eq_none (by rw [bl_size]; omega)]; rfl

theorem bl_get : ∀ l : List Oper, ∀ i o, l[i]? = some o → ∃ acc : Array Nat, (bl l).getD i 0 = fmask acc o ∧ ∀ j, acc.getD j 0 = if j < i then (bl l).getD j 0 else 0 := by
  refine snoc_ind (fun i o h => by simp at h) ?_
  intro l x ih i o h
  by_cases hi : i < l.length
  · rw [List.getElem?_append_left hi] at h
    obtain ⟨acc, h1, h2⟩ := ih i o h
    refine ⟨acc, by rw [bl_getD_snoc, if_pos hi, h1], fun j => ?_⟩
    rw [h2]
    split
    · rename_i hj; rw [bl_getD_snoc, if_pos (by omega)]
    · rfl
  · have hi2 : i = l.length := by
      have := (List.getElem?_eq_some_iff.1 h).1
      simp at this; omega
    subst hi2
    have ho : x = o := by simpa using h
    subst ho
    refine ⟨bl l, by rw [bl_getD_snoc, if_neg (by omega), if_pos rfl], fun j => ?_⟩
    split
    · rename_i hj; rw [bl_getD_snoc, if_pos hj]
    · rename_i hj
      rw [Array.getD_eq_getD_getElem?, Array.getElem?_eq_none (by rw [bl_size]; omega)]; rfl

theorem fmask_bit (acc : Array Nat) (o : Oper) (j : Nat) : (fmask acc o).testBit j = true ↔ ∃ e ∈ o.after, Region.binds .any e = true ∧ (e.on = j ∨ (acc.getD e.on 0).testBit j = true) := by
  unfold fmask
  rw [← Array.foldl_toList]
  have key : ∀ (l : List Edge) (s : Nat), (l.foldl (fun s e => if Region.binds .any e then s ||| 2 ^ e.on ||| acc.getD e.on 0 else s) s).testBit j = true ↔ s.testBit j = true ∨ ∃ e ∈ l, Region.binds .any e = true ∧ (e.on = j ∨ (acc.getD e.on 0).testBit j = true) := by
    intro l
    induction l with
    | nil => intro s; simp
    | cons e l ih =>
      intro s
      rw [List.foldl_cons, ih]
      by_cases hb : Region.binds .any e = true
      · rw [if_pos hb]
        simp only [Nat.testBit_or, Bool.or_eq_true, Nat.testBit_two_pow, decide_eq_true_eq, List.mem_cons, exists_eq_or_imp, hb, true_and]
        constructor
        · rintro (((h | h) | h) | h)
          · exact .inl h
          · exact .inr (.inl (.inl h))
          · exact .inr (.inl (.inr h))
          · exact .inr (.inr h)
        · rintro (h | (h | h) | h)
          · exact .inl (.inl (.inl h))
          · exact .inl (.inl (.inr h))
          · exact .inl (.inr h)
          · exact .inr h
      · rw [if_neg hb]
        simp only [List.mem_cons, exists_eq_or_imp, hb, Bool.false_eq_true, false_and, false_or]
  rw [key]
  simp

theorem mask_direct {ops : Array Oper} {i : Nat} {o : Oper} (h : ops[i]? = some o) {e : Edge} (he : e ∈ o.after) (hb : Region.binds .any e = true) : ((Region.before ops).getD i 0).testBit e.on = true := by
  rw [before_eq]
  obtain ⟨acc, h1, _⟩ := bl_get ops.toList i o (by simpa using h)
  rw [h1, fmask_bit]
  exact ⟨e, he, hb, .inl rfl⟩

theorem mask_cases {ops : Array Oper} {i j : Nat} (h : ((Region.before ops).getD i 0).testBit j = true) : ∃ o e, ops[i]? = some o ∧ e ∈ o.after ∧ Region.binds .any e = true ∧ (e.on = j ∨ (e.on < i ∧ ((Region.before ops).getD e.on 0).testBit j = true)) := by
  rw [before_eq] at h ⊢
  cases ho : ops[i]? with
  | none =>
    have : ops.size ≤ i := by simpa using ho
    rw [Array.getD_eq_getD_getElem?, Array.getElem?_eq_none (by rw [bl_size]; simpa using this)] at h
    simp at h
  | some o =>
    obtain ⟨acc, h1, h2⟩ := bl_get ops.toList i o (by simpa using ho)
    rw [h1, fmask_bit] at h
    obtain ⟨e, he, hb, hc⟩ := h
    refine ⟨o, e, rfl, he, hb, ?_⟩
    rcases hc with hc | hc
    · exact .inl hc
    · right
      rw [h2] at hc
      split at hc
      · rename_i hlt; exact ⟨hlt, hc⟩
      · simp at hc

/-- A set closed under the edges is closed under the masks. -/
theorem closed_mask {ops : Array Oper} {L : Nat → Prop} (hL : ∀ i o, ops[i]? = some o → L i → ∀ e ∈ o.after, Region.binds .any e = true → L e.on) : ∀ i, L i → ∀ j, ((Region.before ops).getD i 0).testBit j = true → L j := by
  intro i
  induction i using Nat.strongRecOn with
  | _ i ih =>
    intro hi j hj
    obtain ⟨o, e, ho, he, hb, hc⟩ := mask_cases hj
    have := hL i o ho hi e he hb
    rcases hc with rfl | ⟨hlt, hc⟩
    · exact this
    · exact ih _ hlt this j hc

/-! ### The plan -/
theorem subMask_bit {a b : Nat} (h : subMask a b = true) (j : Nat) (hj : a.testBit j = true) : b.testBit j = true := by
  unfold subMask at h
  have h : Nat.land a b = a := by simpa using h
  have h2 : (a &&& b).testBit j = a.testBit j := by
    show (Nat.land a b).testBit j = _
    rw [h]
  rw [Nat.testBit_and, hj] at h2
  simpa using h2

theorem findStep_some {E : Env} {ops : Array Oper} {b : Array Nat} {dn : Nat} {mk : Bool} : ∀ {l : List Nat} {i : Nat}, findStep E ops b dn mk l = some i → i ∈ l ∧ dn.testBit i = false ∧ ∀ j, (b.getD i 0).testBit j = true → dn.testBit j = true := by
  intro l
  induction l with
  | nil => intro i h; simp [findStep] at h
  | cons x xs ih =>
    intro i h
    unfold findStep at h
    rw [bcase_eq] at h
    split at h
    · obtain ⟨h1, h2⟩ := ih h
      exact ⟨List.mem_cons_of_mem _ h1, h2⟩
    · rename_i hd
      rw [bcase_eq] at h
      split at h
      · rename_i hs
        simp only [Bool.and_eq_true] at hs
        cases h
        exact ⟨List.mem_cons_self .., by simpa using hd, fun j hj => subMask_bit hs.1 j hj⟩
      · obtain ⟨h1, h2⟩ := ih h
        exact ⟨List.mem_cons_of_mem _ h1, h2⟩

def accD (d : Nat) (s : PStep) : Nat := d ||| 2 ^ s.idx
def accW (l : List Nat) (s : PStep) : List Nat := match s.cls with | .acts => s.idx :: l | _ => l
def accR (l : List Nat) (s : PStep) : List Nat := match s.cls with | .reads => s.idx :: l | _ => l
def accM (l : List Nat) (s : PStep) : List Nat := match s.cls with | .makes => s.idx :: l | _ => l

theorem planGo_split {E : Env} {ops : Array Oper} {b : Array Nat} : ∀ {n : Nat} {dn : Nat} {ws rs ms : List Nat} {p : List PStep}, planGo E ops b n dn ws rs ms = some p → p.length = n ∧ ∀ pre s post, p = pre ++ s :: post →
    s.idx < ops.size ∧ (pre.foldl accD dn).testBit s.idx = false ∧ (∀ j, (b.getD s.idx 0).testBit j = true → (pre.foldl accD dn).testBit j = true) ∧ s.cls = clsOf E (ops.getD s.idx default).op ∧
    (s.cls = .acts → (∀ w ∈ pre.foldl accW ws, (b.getD s.idx 0).testBit w = true) ∧ (∀ w ∈ pre.foldl accM ms, (b.getD s.idx 0).testBit w = true) ∧ ∀ r ∈ pre.foldl accR rs, (b.getD s.idx 0).testBit r = false → r ∈ s.chk) ∧
    (s.cls = .reads → s.back = countOut (b.getD s.idx 0) (pre.foldl accW ws)) := by
  intro n
  induction n with
  | zero =>
    intro dn ws rs ms p h
    cases h
    refine ⟨rfl, fun pre s post e => ?_⟩
    have := congrArg List.length e
    simp at this
  | succ n ih =>
    intro dn ws rs ms p h
    unfold planGo at h
    split at h
    · cases h
    · rename_i i hi
      have hf : i ∈ List.range ops.size ∧ dn.testBit i = false ∧ ∀ j, (b.getD i 0).testBit j = true → dn.testBit j = true := by
        split at hi
        · rename_i i' hi'
          cases hi
          exact findStep_some hi'
        · exact findStep_some hi
      obtain ⟨f1, f2, f3⟩ := hf
      have f1 : i < ops.size := by simpa using f1
      generalize hcc : clsOf E (ops.getD i default).op = c at h
      generalize hmm : b.getD i 0 = m at h
      -- one step ahead of the rest
      have step : ∀ (s : PStep) (ws' rs' ms' : List Nat), s.idx = i → s.cls = clsOf E (ops.getD i default).op → ws' = accW ws s → rs' = accR rs s → ms' = accM ms s →
          (s.cls = .acts → (∀ w ∈ ws, (b.getD i 0).testBit w = true) ∧ (∀ w ∈ ms, (b.getD i 0).testBit w = true) ∧ ∀ r ∈ rs, (b.getD i 0).testBit r = false → r ∈ s.chk) →
          (s.cls = .reads → s.back = countOut (b.getD i 0) ws) →
          (planGo E ops b n (dn ||| 2 ^ i) ws' rs' ms').map (s :: ·) = some p → p.length = n + 1 ∧ ∀ pre s post, p = pre ++ s :: post →
            s.idx < ops.size ∧ (pre.foldl accD dn).testBit s.idx = false ∧ (∀ j, (b.getD s.idx 0).testBit j = true → (pre.foldl accD dn).testBit j = true) ∧ s.cls = clsOf E (ops.getD s.idx default).op ∧
            (s.cls = .acts → (∀ w ∈ pre.foldl accW ws, (b.getD s.idx 0).testBit w = true) ∧ (∀ w ∈ pre.foldl accM ms, (b.getD s.idx 0).testBit w = true) ∧ ∀ r ∈ pre.foldl accR rs, (b.getD s.idx 0).testBit r = false → r ∈ s.chk) ∧
            (s.cls = .reads → s.back = countOut (b.getD s.idx 0) (pre.foldl accW ws)) := by
        intro s ws' rs' ms' hs hc hw hr hm hacts hreads hmap
        obtain ⟨q, hq, hp⟩ := Option.map_eq_some_iff.1 hmap
        obtain ⟨l1, l2⟩ := ih hq
        subst hp
        refine ⟨by simp [l1], fun pre s' post e => ?_⟩
        cases pre with
        | nil =>
          simp only [List.nil_append, List.cons.injEq] at e
          obtain ⟨rfl, rfl⟩ := e
          simp only [List.foldl_nil]
          rw [hs]
          exact ⟨f1, f2, f3, hc, hacts, hreads⟩
        | cons x pre =>
          simp only [List.cons_append, List.cons.injEq] at e
          obtain ⟨rfl, e⟩ := e
          have := l2 pre s' post e
          rw [hw, hr, hm] at this
          have e1 : dn ||| 2 ^ i = accD dn s := by unfold accD; rw [hs]
          rw [e1] at this
          exact this
      cases c with
      | value => exact step _ ws rs ms rfl hcc.symm rfl rfl rfl (fun q => by cases q) (fun q => by cases q) h
      | reads => exact step _ ws (i :: rs) ms rfl hcc.symm rfl rfl rfl (fun q => by cases q) (fun _ => by rw [hmm]) h
      | makes => exact step _ ws rs (i :: ms) rfl hcc.symm rfl rfl rfl (fun q => by cases q) (fun q => by cases q) h
      | acts =>
        have h' : bcase (ws.all (fun w => m.testBit w) && ms.all (fun x => m.testBit x))
          ((planGo E ops b n (dn ||| 2 ^ i) (i :: ws) rs ms).map ({ idx := i, cls := .acts, chk := rs.filter fun r => !m.testBit r, back := 0 } :: ·)) none = some p := h
        rw [bcase_eq] at h'
        by_cases hall : (ws.all (fun w => m.testBit w) && ms.all (fun x => m.testBit x)) = true
        · rw [if_pos hall] at h'
          simp only [Bool.and_eq_true, List.all_eq_true] at hall
          refine step _ (i :: ws) rs ms rfl hcc.symm rfl rfl rfl (fun _ => ⟨by rw [hmm]; exact hall.1, by rw [hmm]; exact hall.2, fun r hr hb => ?_⟩) (fun q => by cases q) h'
          rw [hmm] at hb
          simp only [List.mem_filter]
          exact ⟨hr, by simp [hb]⟩
        · rw [if_neg hall] at h'
          cases h'

theorem accD_bit : ∀ (pre : List PStep) (d j : Nat), (pre.foldl accD d).testBit j = true ↔ d.testBit j = true ∨ ∃ x ∈ pre, x.idx = j := by
  intro pre
  induction pre with
  | nil => intro d j; simp
  | cons x pre ih =>
    intro d j
    rw [List.foldl_cons, ih]
    simp only [accD, Nat.testBit_or, Bool.or_eq_true, Nat.testBit_two_pow, decide_eq_true_eq, List.mem_cons, exists_eq_or_imp, or_assoc]

theorem acc_mem {c : Cls} {f : List Nat → PStep → List Nat} (hf : ∀ l s, f l s = if s.cls = c then s.idx :: l else l) : ∀ (pre : List PStep) (l : List Nat) (j : Nat), j ∈ pre.foldl f l ↔ j ∈ l ∨ ∃ x ∈ pre, x.cls = c ∧ x.idx = j := by
  intro pre
  induction pre with
  | nil => intro l j; simp
  | cons x pre ih =>
    intro l j
    rw [List.foldl_cons, ih, hf]
    by_cases h : x.cls = c
    · rw [if_pos h]
      simp only [List.mem_cons, exists_eq_or_imp, h, true_and]
      constructor
      · rintro ((h | h) | h)
        · exact .inr (.inl h.symm)
        · exact .inl h
        · exact .inr (.inr h)
      · rintro (h | h | h)
        · exact .inl (.inr h)
        · exact .inl (.inl h.symm)
        · exact .inr h
    · rw [if_neg h]
      simp only [List.mem_cons, exists_eq_or_imp, h, false_and, false_or]

theorem accW_eq (l : List Nat) (s : PStep) : accW l s = if s.cls = .acts then s.idx :: l else l := by unfold accW; cases s.cls <;> simp
theorem accR_eq (l : List Nat) (s : PStep) : accR l s = if s.cls = .reads then s.idx :: l else l := by unfold accR; cases s.cls <;> simp
theorem accM_eq (l : List Nat) (s : PStep) : accM l s = if s.cls = .makes then s.idx :: l else l := by unfold accM; cases s.cls <;> simp

/-! ### Linear lists -/
theorem nodup_le : ∀ (n : Nat) (l : List Nat), l.Nodup → (∀ x ∈ l, x < n) → l.length ≤ n := by
  intro n
  induction n with
  | zero =>
    intro l _ h
    cases l with
    | nil => simp
    | cons x xs => exact absurd (h x (List.mem_cons_self ..)) (by omega)
  | succ n ih =>
    intro l hn h
    by_cases hm : n ∈ l
    · have h1 := ih (l.erase n) (hn.erase n) (fun x hx => by
        have h2 := (hn.mem_erase_iff).1 hx
        have := h x h2.2
        have := h2.1
        omega)
      rw [List.length_erase_of_mem hm] at h1
      omega
    · have := ih l hn (fun x hx => by
        have := h x hx
        have : x ≠ n := fun e => hm (e ▸ hx)
        omega)
      omega

theorem nodup_all {n : Nat} {l : List Nat} (hn : l.Nodup) (h : ∀ x ∈ l, x < n) (hl : l.length = n) : ∀ i, i < n → i ∈ l := by
  intro i hi
  by_cases hm : i ∈ l
  · exact hm
  · have := nodup_le n (i :: l) (List.nodup_cons.2 ⟨hm, hn⟩) (fun x hx => by rcases List.mem_cons.1 hx with rfl | hx; exact hi; exact h x hx)
    simp at this
    omega

/-- In such a list every operation stands behind those that it must follow. -/
structure Lin (md : Region.Mode) (ops : Array Oper) (l : List Nat) : Prop where
  all : ∀ i, i < ops.size → i ∈ l
  lt : ∀ i ∈ l, i < ops.size
  edge : ∀ pre i post o, l = pre ++ i :: post → ops[i]? = some o → ∀ e ∈ o.after, Region.binds md e = true → e.on ∈ pre

/-- Nothing is ready: all is listed. -/
theorem Lin.done {md : Region.Mode} {ops : Array Oper} {l : List Nat} (h : Lin md ops l) {listed : Array Bool} (hs : listed.size = ops.size) (hr : Region.ready md ops listed = []) : ∀ i, i < ops.size → listed.getD i false = true := by
  have key : ∀ pre, (∃ post, l = pre ++ post) → ∀ i ∈ pre, i < ops.size → listed.getD i false = true := by
    refine snoc_ind (fun _ i hi => by cases hi) ?_
    rintro pre i ih ⟨post, el⟩ j hj hjs
    have ih' := ih ⟨i :: post, by rw [el]; simp⟩
    rcases List.mem_append.1 hj with hj | hj
    · exact ih' j hj hjs
    · have : j = i := by simpa using hj
      subst this
      cases hb : listed.getD j false with
      | true => rfl
      | false =>
        have hne : j ∉ Region.ready md ops listed := by rw [hr]; simp
        exfalso
        apply hne
        unfold Region.ready
        rw [List.mem_filter]
        refine ⟨List.mem_range.2 hjs, ?_⟩
        have hget : ops[j]? = some ops[j] := Array.getElem?_eq_getElem hjs
        have hl : listed[j]? = some listed[j] := Array.getElem?_eq_getElem (by omega)
        have hlb : listed[j] = false := by simpa [Array.getD_eq_getD_getElem?, hl] using hb
        simp only [hget, Option.map_some, Option.getD_some, Bool.and_eq_true, Array.all_eq_true']
        refine ⟨by simp [Array.getD_eq_getD_getElem?, hl, hlb], fun e he => ?_⟩
        by_cases hbd : Region.binds md e = true
        · have hm := h.edge pre j post ops[j] (by rw [el]; simp) hget e he hbd
          have := ih' e.on hm (h.lt _ (by rw [el]; simp [hm]))
          simp [this]
        · simp [hbd]
  intro i hi
  obtain ⟨pre, post, e⟩ := List.append_of_mem (h.all i hi)
  exact key l ⟨[], by simp⟩ i (h.all i hi) hi
end Go.AM

/- Regions that draw (4): slots and memory of a set of operations that have been made. -/
namespace Go.AM
open Go

def curT (L : Nat → Bool) (rs : List Stp) (tm : Tr V) : Tr V := rs.foldl (fun t r => if L r.s.idx = true then r.effT t else t) tm

theorem slot_putT (tm : Tr V) (dst : Option Tmp) (v : V) (t : Nat) : slot (putT tm dst v) t = if dst = some t then v else slot tm t := by
  unfold putT
  cases dst with
  | none => simp
  | some d =>
    simp only [slot_set]
    by_cases h : t = d
    · subst h; simp
    · rw [if_neg h, if_neg (by simp; exact fun e => h e.symm)]

theorem RepT.congr {ρ : Pm} {n : Nat} {t t' : Tr V} {arr : Array Value} (h : RepT ρ n t arr) (e : ∀ i, slot t' i = slot t i) : RepT ρ n t' arr := ⟨h.size, fun i => by rw [e]; exact h.get i⟩

/-- All that write the slot are in the set. -/
theorem curT_all {L : Nat → Bool} {t : Nat} : ∀ {rs : List Stp} {tm tm' : Tr V}, (∀ x ∈ rs, x.o.dst = some t → L x.s.idx = true) → slot tm t = slot tm' t → slot (curT L rs tm) t = slot (rs.foldl (fun t r => r.effT t) tm') t := by
  intro rs
  induction rs with
  | nil => intro tm tm' _ h; exact h
  | cons r rs ih =>
    intro tm tm' hx h
    unfold curT
    rw [List.foldl_cons, List.foldl_cons]
    refine ih (fun x hm => hx x (List.mem_cons_of_mem _ hm)) ?_
    by_cases hd : r.o.dst = some t
    · rw [if_pos (hx r (List.mem_cons_self ..) hd)]
      simp only [Stp.effT, slot_putT, hd, if_true]
    · simp only [Stp.effT, slot_putT, hd, if_false]
      split
      · rw [slot_putT, if_neg hd]; exact h
      · exact h

/-- None that writes the slot is in the set. -/
theorem curT_none {L : Nat → Bool} {t : Nat} : ∀ {rs : List Stp} {tm : Tr V}, (∀ x ∈ rs, x.o.dst = some t → L x.s.idx = false) → slot (curT L rs tm) t = slot tm t := by
  intro rs
  induction rs with
  | nil => intro tm _; rfl
  | cons r rs ih =>
    intro tm hx
    unfold curT
    rw [List.foldl_cons]
    refine (ih (fun x hm => hx x (List.mem_cons_of_mem _ hm))).trans ?_
    split
    · rename_i hl
      by_cases hd : r.o.dst = some t
      · rw [hx r (List.mem_cons_self ..) hd] at hl; cases hl
      · simp only [Stp.effT, slot_putT, hd, if_false]
    · rfl

/-- Two sets alike on those that write the slot. -/
theorem curT_congr {L L' : Nat → Bool} {t : Nat} : ∀ {rs : List Stp} {tm tm' : Tr V}, (∀ x ∈ rs, x.o.dst = some t → L x.s.idx = L' x.s.idx) → slot tm t = slot tm' t → slot (curT L rs tm) t = slot (curT L' rs tm') t := by
  intro rs
  induction rs with
  | nil => intro tm tm' _ h; exact h
  | cons r rs ih =>
    intro tm tm' hx h
    unfold curT
    rw [List.foldl_cons, List.foldl_cons]
    refine ih (fun x hm => hx x (List.mem_cons_of_mem _ hm)) ?_
    by_cases hd : r.o.dst = some t
    · rw [hx r (List.mem_cons_self ..) hd]
      split
      · simp only [Stp.effT, slot_putT, hd, if_true]
      · exact h
    · have e : ∀ tm : Tr V, slot (r.effT tm) t = slot tm t := fun tm => by simp only [Stp.effT, slot_putT, hd, if_false]
      split <;> split <;> first | exact h | (simp only [e]; exact h)

def addL (L : Nat → Bool) (i : Nat) : Nat → Bool := fun j => L j || Nat.beq j i

theorem addL_self (L : Nat → Bool) (i : Nat) : addL L i i = true := by simp [addL]
theorem addL_ne (L : Nat → Bool) {i j : Nat} (h : j ≠ i) : addL L i j = L j := by simp [addL, h]

theorem curT_append (L : Nat → Bool) (a b : List Stp) (tm : Tr V) : curT L (a ++ b) tm = curT L b (curT L a tm) := List.foldl_append ..
theorem curT_cons (L : Nat → Bool) (r : Stp) (b : List Stp) (tm : Tr V) : curT L (r :: b) tm = curT L b (if L r.s.idx = true then r.effT tm else tm) := rfl

/-- One operation more. -/
theorem curT_add {L : Nat → Bool} {pre post : List Stp} {r : Stp} {tm : Tr V} (hr : L r.s.idx = false) (h1 : ∀ x ∈ pre, x.s.idx ≠ r.s.idx) (h2 : ∀ x ∈ post, x.s.idx ≠ r.s.idx)
    (h3 : ∀ x ∈ post, L x.s.idx = true → ∀ d, r.o.dst = some d → x.o.dst ≠ some d) (t : Nat) : slot (curT (addL L r.s.idx) (pre ++ r :: post) tm) t = slot (putT (curT L (pre ++ r :: post) tm) r.o.dst r.v) t := by
  rw [slot_putT]
  rw [curT_append, curT_cons, addL_self, if_pos rfl]
  by_cases hd : r.o.dst = some t
  · rw [if_pos hd, curT_none]
    · simp only [Stp.effT, slot_putT, hd, if_true]
    · intro x hx hxd
      rw [addL_ne _ (h2 x hx)]
      cases hl : L x.s.idx with
      | false => rfl
      | true => exact absurd hxd (h3 x hx hl t hd)
  · rw [if_neg hd, curT_append, curT_cons, if_neg (show ¬ (L r.s.idx = true) by rw [hr]; simp)]
    refine curT_congr (fun x hx _ => addL_ne _ (h2 x hx)) ?_
    rw [Stp.effT, slot_putT, if_neg hd]
    exact curT_congr (fun x hx _ => addL_ne _ (h1 x hx)) rfl

/-! ### Memory -/
def memF (L : Nat → Bool) (st : St × List Stp) (r : Stp) : St × List Stp :=
  if L r.s.idx = true ∧ r.want = true then (match r.s.cls with | .acts => (r.σ', []) | .makes => (st.1, st.2 ++ [r]) | _ => st) else st
def memOf (L : Nat → Bool) (rs : List Stp) (st : St × List Stp) : St × List Stp := rs.foldl (memF L) st
def adoptAll (pd : List Stp) (σ : St) : St := pd.foldl (fun m r => m.put r.mid r.blk) σ

theorem memOf_append (L : Nat → Bool) (a b : List Stp) (st : St × List Stp) : memOf L (a ++ b) st = memOf L b (memOf L a st) := List.foldl_append ..
theorem memOf_cons (L : Nat → Bool) (r : Stp) (b : List Stp) (st : St × List Stp) : memOf L (r :: b) st = memOf L b (memF L st r) := rfl

theorem memOf_congr {L L' : Nat → Bool} : ∀ {rs : List Stp} {st : St × List Stp}, (∀ x ∈ rs, x.s.cls = .acts ∨ x.s.cls = .makes → x.want = true → L x.s.idx = L' x.s.idx) → memOf L rs st = memOf L' rs st := by
  intro rs
  induction rs with
  | nil => intro st _; rfl
  | cons r rs ih =>
    intro st h
    rw [memOf_cons, memOf_cons]
    have : memF L st r = memF L' st r := by
      unfold memF
      by_cases hw : r.want = true
      · have := h r (List.mem_cons_self ..)
        cases hc : r.s.cls with
        | acts => rw [this (.inl hc) hw]
        | makes => rw [this (.inr hc) hw]
        | value => simp
        | reads => simp
      · simp [hw]
    rw [this]
    exact ih (fun x hx => h x (List.mem_cons_of_mem _ hx))

/-- No act in the set: what is made gathers. -/
theorem memOf_post {L : Nat → Bool} : ∀ {rs : List Stp} {st : St × List Stp}, (∀ x ∈ rs, x.s.cls = .acts → x.want = true → L x.s.idx = false) →
    memOf L rs st = (st.1, st.2 ++ rs.filter fun x => L x.s.idx && x.want && decide (x.s.cls = .makes)) := by
  intro rs
  induction rs with
  | nil => intro st _; simp [memOf]
  | cons r rs ih =>
    intro st h
    rw [memOf_cons, ih (fun x hx => h x (List.mem_cons_of_mem _ hx)), List.filter_cons]
    unfold memF
    have h1 := h r (List.mem_cons_self ..)
    cases hc : r.s.cls <;> cases hw : r.want <;> cases hl : L r.s.idx <;> simp_all

/-- The plan's memory: what was made, taken in over the memory behind the last act. -/
theorem memOf_all (σ : St) : ∀ rs : List Stp, adoptAll (memOf (fun _ => true) rs (σ, [])).2 (memOf (fun _ => true) rs (σ, [])).1 = rs.foldl (fun m r => r.effM m) σ := by
  refine snoc_ind rfl ?_
  intro rs r ih
  rw [memOf_append, List.foldl_append, List.foldl_cons, List.foldl_nil, ← ih]
  show adoptAll (memF (fun _ => true) (memOf (fun _ => true) rs (σ, [])) r).2 (memF (fun _ => true) (memOf (fun _ => true) rs (σ, [])) r).1 = _
  unfold memF Stp.effM
  by_cases hw : r.want = true
  · simp only [hw, true_and, if_true]
    cases hc : r.s.cls with
    | acts => rfl
    | makes => simp only [adoptAll, List.foldl_append, List.foldl_cons, List.foldl_nil]
    | value => rfl
    | reads => rfl
  · simp [hw]

/-- Where the base is found among the memories behind the acts: as many acts back as are not in the set. -/
theorem base_hist {L : Nat → Bool} (σ0 : St) : ∀ pre : List Stp, (∀ a x b, pre = a ++ x :: b → x.s.cls = .acts → L x.s.idx = true → ∀ y ∈ a, y.s.cls = .acts → L y.s.idx = true) → ∀ pd,
    (pre.foldl (fun h r => r.effH h) [σ0])[(pre.filter fun x => x.want && decide (x.s.cls = .acts) && !L x.s.idx).length]? = some (memOf L pre (σ0, pd)).1 := by
  refine snoc_ind (fun _ pd => rfl) ?_
  intro pre r ih h pd
  have h' : ∀ a x b, pre = a ++ x :: b → x.s.cls = .acts → L x.s.idx = true → ∀ y ∈ a, y.s.cls = .acts → L y.s.idx = true := by
    intro a x b e
    exact h a x (b ++ [r]) (by rw [e]; simp)
  have ih := ih h' pd
  rw [List.foldl_append, List.foldl_cons, List.foldl_nil, memOf_append, List.filter_append]
  show (Stp.effH r (pre.foldl (fun h r => r.effH h) [σ0]))[_]? = some (memF L (memOf L pre (σ0, pd)) r).1
  generalize pre.foldl (fun h r => r.effH h) [σ0] = hist at ih ⊢
  unfold Stp.effH memF
  by_cases hw : r.want = true
  · cases hc : r.s.cls with
    | acts =>
      by_cases hl : L r.s.idx = true
      · have hall : ∀ y ∈ pre, y.s.cls = .acts → L y.s.idx = true := h pre r [] (by simp) hc hl
        have : (pre.filter fun x => x.want && decide (x.s.cls = .acts) && !L x.s.idx) = [] := by
          rw [List.filter_eq_nil_iff]
          intro x hx
          by_cases hxc : x.s.cls = .acts
          · simp [hall x hx hxc]
          · simp [hxc]
        simp [this, hw, hc, hl]
      · simp only [hw, hl, hc, if_true, false_and, if_false]
        simp only [List.filter_cons, List.filter_nil, hw, hc, hl, decide_true, Bool.and_self, Bool.not_false, if_true, List.length_append, List.length_cons, List.length_nil, Bool.false_eq_true, Bool.and_true, Bool.true_and]
        simpa using ih
    | value => simpa [hw, hc] using ih
    | reads => simpa [hw, hc] using ih
    | makes =>
      have e : (if L r.s.idx = true ∧ r.want = true then ((memOf L pre (σ0, pd)).1, (memOf L pre (σ0, pd)).2 ++ [r]) else memOf L pre (σ0, pd)).1 = (memOf L pre (σ0, pd)).1 := by split <;> rfl
      simp only [e]
      simpa [hw, hc] using ih
  · simpa [hw] using ih

theorem countOut_ge {L : Nat → Bool} {m : Nat} (hm : ∀ j, m.testBit j = true → L j = true) : ∀ (pre : List PStep) (ws : List Nat), (pre.filter fun x => decide (x.cls = .acts) && !L x.idx).length + countOut m ws ≤ countOut m (pre.foldl accW ws) := by
  intro pre
  induction pre with
  | nil => intro ws; simp
  | cons x pre ih =>
    intro ws
    rw [List.foldl_cons, List.filter_cons]
    have := ih (accW ws x)
    by_cases hc : x.cls = .acts
    · rw [accW_eq, if_pos hc] at this ⊢
      have h2 : countOut m (x.idx :: ws) = if m.testBit x.idx = true then countOut m ws else countOut m ws + 1 := by simp only [countOut, bcase_eq]
      cases hl : L x.idx with
      | true =>
        simp only [hc, decide_true, hl, Bool.not_true, Bool.and_false, Bool.false_eq_true, if_false]
        rw [h2] at this
        split at this <;> omega
      | false =>
        have hb : ¬ m.testBit x.idx = true := fun hb => by rw [hm _ hb] at hl; cases hl
        rw [h2, if_neg hb] at this
        simp only [hc, decide_true, hl, Bool.not_false, Bool.and_self, if_true, List.length_cons]
        omega
    · rw [accW_eq, if_neg hc] at this ⊢
      simp only [hc, decide_false, Bool.false_and, Bool.false_eq_true, if_false]
      exact this
end Go.AM

/- Regions that draw (5): what holds between two operations. -/
namespace Go.AM
open Go

/-- A block that was made comes into the memory. -/
theorem Goes.adopt {gl : Nat} {ρ0 ρ : Pm} {σs σ : St} {w0 w : World} (g : Goes gl ρ0 σs w0 ρ σ w) {id : Nat} {b : Blk} {o : Obj} {pl : Pl} (hp : ρ id = some pl) (ho : w.heap[pl.blk]? = some o) (hb : RepB ρ b pl o)
    (hge : w0.heap.size ≤ pl.blk) (hnt : ¬ Tracked ρ σ pl.blk) : Goes gl ρ0 σs w0 ρ (σ.put id b) w := by
  have gets : ∀ j c, (σ.put id b).get j = some c → (j = id ∧ c = b) ∨ (j ≠ id ∧ σ.get j = some c) := by
    intro j c hj
    rw [St.get_put] at hj
    split at hj
    · cases hj; exact .inl ⟨by assumption, rfl⟩
    · exact .inr ⟨by assumption, hj⟩
  refine ⟨g.le, ⟨g.rel.glob, g.rel.dom, g.rel.bnd, ?_, ?_⟩, g.size, ?_, g.frame, g.os, g.out, g.tape, ?_, g.nxt, g.new_⟩
  · intro j c hj
    rcases gets j c hj with ⟨rfl, rfl⟩ | ⟨_, hj⟩
    · exact ⟨pl, o, hp, ho, hb⟩
    · exact g.rel.blk j c hj
  · intro j j' c c' p p' g1 g2 r1 r2 hpb
    rcases gets j c g1 with ⟨rfl, rfl⟩ | ⟨e1, h1⟩
    · rcases gets j' c' g2 with ⟨rfl, rfl⟩ | ⟨e2, h2⟩
      · exact .inl rfl
      · rw [hp] at r1; cases r1
        exact absurd ⟨j', c', p', h2, r2, hpb.symm⟩ hnt
    · rcases gets j' c' g2 with ⟨rfl, rfl⟩ | ⟨e2, h2⟩
      · rw [hp] at r2; cases r2
        exact absurd ⟨j, c, p, h1, r1, hpb⟩ hnt
      · exact g.rel.inj _ _ _ _ _ _ h1 h2 r1 r2 hpb
  · rintro i hi ⟨j, c, p, g1, hro, r1, hpi⟩
    rcases gets j c g1 with ⟨rfl, rfl⟩ | ⟨e1, h1⟩
    · rw [hp] at r1; cases r1; omega
    · exact g.own i hi ⟨j, c, p, h1, hro, r1, hpi⟩
  · rintro i hi ⟨j, c, p, g1, r1, hpi⟩
    rcases gets j c g1 with ⟨rfl, rfl⟩ | ⟨e1, h1⟩
    · rw [hp] at r1; cases r1; omega
    · exact g.trk i hi ⟨j, c, p, h1, r1, hpi⟩

/-- A block is made, and not yet in the memory. -/
theorem Goes.spare {gl : Nat} {ρ0 ρ : Pm} {σs σ : St} {w0 w : World} (g : Goes gl ρ0 σs w0 ρ σ w) {mid k : Nat} (o : Obj) (hm : ρ mid = none) (hlt : mid < σ.next) (hge : σs.next ≤ mid) :
    Goes gl ρ0 σs w0 (ρ.at mid ⟨w.heap.size, 0, k⟩) σ { w with heap := w.heap.push o } := by
  have hle : ρ.le (ρ.at mid ⟨w.heap.size, 0, k⟩) := Pm.le_at hm
  have back : ∀ j c p, σ.get j = some c → (ρ.at mid ⟨w.heap.size, 0, k⟩) j = some p → ρ j = some p := by
    intro j c p hj hr
    obtain ⟨p', o', h1, h2, h3⟩ := g.rel.blk j c hj
    rw [hle _ _ h1] at hr
    cases hr; exact h1
  refine ⟨Pm.le_trans g.le hle, ⟨fun i hi => let ⟨c, hc⟩ := g.rel.glob i hi; ⟨c, hle _ _ hc⟩, ?_, ?_, ?_, ?_⟩, by simp only [Array.size_push]; have := g.size; omega, ?_, ?_, g.os, g.out, g.tape, ?_, g.nxt, ?_⟩
  · intro j p hj
    by_cases e : j = mid
    · subst e; exact hlt
    · rw [Pm.at_ne e] at hj; exact g.rel.dom _ _ hj
  · intro j p hj
    simp only [Array.size_push]
    by_cases e : j = mid
    · subst e; rw [Pm.at_self] at hj; cases hj; simp only; omega
    · rw [Pm.at_ne e] at hj
      have := g.rel.bnd _ _ hj
      omega
  · intro j c hj
    obtain ⟨p, o', h1, h2, h3⟩ := g.rel.blk j c hj
    refine ⟨p, o', hle _ _ h1, ?_, h3.mono hle⟩
    have := g.rel.bnd _ _ h1
    simp only [Array.getElem?_push]
    rw [if_neg (by omega)]
    exact h2
  · intro j j' c c' p p' g1 g2 r1 r2 hpb
    exact g.rel.inj _ _ _ _ _ _ g1 g2 (back _ _ _ g1 r1) (back _ _ _ g2 r2) hpb
  · rintro i hi ⟨j, c, p, g1, hro, r1, hpi⟩
    exact g.own i hi ⟨j, c, p, g1, hro, back _ _ _ g1 r1, hpi⟩
  · intro i hi ho
    have := g.size
    simp only [Array.getElem?_push]
    rw [if_neg (by omega)]
    exact g.frame i hi ho
  · rintro i hi ⟨j, c, p, g1, r1, hpi⟩
    exact g.trk i hi ⟨j, c, p, g1, back _ _ _ g1 r1, hpi⟩
  · intro j p hj
    by_cases e : j = mid
    · subst e; exact .inr hge
    · rw [Pm.at_ne e] at hj; exact g.new_ _ _ hj

/-- A made block that waits. -/
def Pend (ρ : Pm) (B : St) (w0 w : World) (x : Stp) : Prop :=
  ∃ pl o, ρ x.mid = some pl ∧ w.heap[pl.blk]? = some o ∧ RepB ρ x.blk pl o ∧ w0.heap.size ≤ pl.blk ∧ ¬ Tracked ρ B pl.blk

def Sep (ρ : Pm) (pd : List Stp) : Prop := ∀ x ∈ pd, ∀ y ∈ pd, ∀ p q, ρ x.mid = some p → ρ y.mid = some q → p.blk = q.blk → x.mid = y.mid

theorem adopt_all {gl : Nat} {ρ0 ρ : Pm} {σs : St} {w0 w : World} : ∀ {pd : List Stp} {B : St}, Goes gl ρ0 σs w0 ρ B w → (∀ x ∈ pd, Pend ρ B w0 w x) → Sep ρ pd → (pd.map (·.mid)).Nodup →
    Goes gl ρ0 σs w0 ρ (adoptAll pd B) w ∧ (adoptAll pd B).next = B.next ∧ ∀ i, Tracked ρ (adoptAll pd B) i → Tracked ρ B i ∨ ∃ x ∈ pd, ∃ p, ρ x.mid = some p ∧ p.blk = i := by
  intro pd
  induction pd with
  | nil => intro B g _ _ _; exact ⟨g, rfl, fun i h => .inl h⟩
  | cons x pd ih =>
    intro B g hp hs hn
    obtain ⟨pl, o, h1, h2, h3, h4, h5⟩ := hp x (List.mem_cons_self ..)
    have g' := g.adopt h1 h2 h3 h4 h5
    have trk : ∀ i, Tracked ρ (B.put x.mid x.blk) i → Tracked ρ B i ∨ i = pl.blk := by
      rintro i ⟨j, c, p, hj, hr, hi⟩
      rw [St.get_put] at hj
      by_cases e : j = x.mid
      · subst e; rw [h1] at hr; cases hr; exact .inr hi.symm
      · rw [if_neg e] at hj; exact .inl ⟨j, c, p, hj, hr, hi⟩
    rw [List.map_cons, List.nodup_cons] at hn
    obtain ⟨r1, r2, r3⟩ := ih (B := B.put x.mid x.blk) g' (fun y hy => by
      obtain ⟨pl', o', k1, k2, k3, k4, k5⟩ := hp y (List.mem_cons_of_mem _ hy)
      refine ⟨pl', o', k1, k2, k3, k4, fun ht => ?_⟩
      rcases trk _ ht with ht | e
      · exact k5 ht
      · have := hs y (List.mem_cons_of_mem _ hy) x (List.mem_cons_self ..) _ _ k1 h1 e
        exact hn.1 (List.mem_map.2 ⟨y, hy, this⟩))
      (fun a ha b hb => hs a (List.mem_cons_of_mem _ ha) b (List.mem_cons_of_mem _ hb)) hn.2
    refine ⟨r1, r2, fun i hi => ?_⟩
    rcases r3 i hi with h | ⟨y, hy, p, q1, q2⟩
    · rcases trk i h with h | e
      · exact .inl h
      · exact .inr ⟨x, List.mem_cons_self .., pl, h1, e.symm⟩
    · exact .inr ⟨y, List.mem_cons_of_mem _ hy, p, q1, q2⟩

/-- Spelled alike: alike. -/
theorem eqA_eq {a b : Option (Nat × Nat)} (h : eqA a b = true) : a = b := by
  cases a <;> cases b <;> simp [eqA] at h ⊢
  exact Prod.ext h.1 h.2
theorem eqO_eq {a b : Option Nat} (h : eqO a b = true) : a = b := by
  cases a <;> cases b <;> simp [eqO] at h ⊢
  exact h
theorem eqC_eq {a b : Cap} (h : eqC a b = true) : a = b := by
  cases a <;> cases b <;> simp [eqC] at h ⊢ <;> exact h
theorem eqbL_eq {f : V → V → Bool} (hf : ∀ a b, f a b = true → a = b) : ∀ {a b : List V}, eqbL f a b = true → a = b := by
  intro a
  induction a with
  | nil => intro b h; cases b <;> simp [eqbL] at h ⊢
  | cons x xs ih =>
    intro b h
    cases b with
    | nil => simp [eqbL] at h
    | cons y ys =>
      simp only [eqbL, bcase_eq] at h
      split at h
      · rename_i h1; rw [hf _ _ h1, ih h]
      · cases h
theorem eqb_eq : ∀ (n : Nat) (x y : V), eqb n x y = true → x = y := by
  intro n
  induction n with
  | zero => intro x y h; simp [eqb] at h
  | succ n ih =>
    intro x y h
    have hl : ∀ {a b : List V}, eqbL (eqb n) a b = true → a = b := eqbL_eq ih
    cases x <;> cases y <;> simp only [eqb] at h <;> first | rfl | (cases h; done) | skip
    · simp at h; rw [h]
    · simp only [Bool.and_eq_true, eqI_eq] at h
      have := kEq_iff h.1; subst this
      have := h.2; simp at this; rw [this]
    · rw [eqL_eq] at h; simp at h; rw [h]
    · rw [eqA_eq h]
    · simp only [Bool.and_eq_true, Nat.beq_eq] at h
      rw [eqA_eq h.1.1, h.1.2, eqC_eq h.2]
    · rw [eqO_eq h]
    · split at h
      · split at h
        · simp only [Bool.and_eq_true, Nat.beq_eq] at h
          rw [h.1.1, hl h.1.2, hl h.2]
        · cases h
      · cases h
    · simp only [Bool.and_eq_true, Nat.beq_eq] at h
      rw [h.1, ih _ _ h.2]
    · rw [hl h]
    · rw [hl h]
end Go.AM

/- Regions that draw (6): one operation of them. -/
namespace Go.AM
open Go

def Msk (ops : Array Oper) (i j : Nat) : Prop := ((Region.before ops).getD i 0).testBit j = true

structure Facts (E : Env) (rec : Rc) (n : Nat) (ops : Array Oper) (rs : List Stp) (tm0 : Tr V) (σ0 : St) (mid0 : Nat) : Prop where
  play : Play E rec n ops rs [] tm0 σ0 [σ0] mid0
  plan : ∀ pre s post, rs.map (·.s) = pre ++ s :: post →
    s.idx < ops.size ∧ (pre.foldl accD 0).testBit s.idx = false ∧ (∀ j, Msk ops s.idx j → (pre.foldl accD 0).testBit j = true) ∧ s.cls = clsOf E (ops.getD s.idx default).op ∧
    (s.cls = .acts → (∀ w ∈ pre.foldl accW [], Msk ops s.idx w) ∧ (∀ w ∈ pre.foldl accM [], Msk ops s.idx w) ∧ ∀ r ∈ pre.foldl accR [], ((Region.before ops).getD s.idx 0).testBit r = false → r ∈ s.chk) ∧
    (s.cls = .reads → s.back = countOut ((Region.before ops).getD s.idx 0) (pre.foldl accW []))
  slots : slotsOk ops (Region.before ops) = true
  len : rs.length = ops.size

theorem slotsOk_at {ops : Array Oper} {b : Array Nat} (h : slotsOk ops b = true) {i j : Nat} {o o' : Oper} (hi : ops[i]? = some o) (hj : ops[j]? = some o') (hne : i ≠ j) :
    (b.getD i 0).testBit j = true ∨ (b.getD j 0).testBit i = true ∨ o.apart ops o' = true := by
  unfold slotsOk at h
  rw [Array.all_eq_true'] at h
  have h1 := h (o, i) (Array.mk_mem_zipIdx_iff_getElem?.2 hi)
  simp only at h1
  rw [Array.all_eq_true'] at h1
  have h2 := h1 (o', j) (Array.mk_mem_zipIdx_iff_getElem?.2 hj)
  simp only [Bool.or_eq_true, Nat.beq_eq] at h2
  rcases h2 with ((h2 | h2) | h2) | h2
  · exact absurd h2 hne
  · exact .inl h2
  · exact .inr (.inl h2)
  · exact .inr (.inr h2)

section
variable {E : Env} {rec : Rc} {n : Nat} {ops : Array Oper} {rs : List Stp} {tm0 : Tr V} {σ0 : St} {mid0 : Nat}

theorem Facts.mapSplit {pre post : List Stp} {r : Stp} (e : rs = pre ++ r :: post) : rs.map (·.s) = pre.map (·.s) ++ r.s :: post.map (·.s) := by rw [e]; simp

theorem Facts.op (hF : Facts E rec n ops rs tm0 σ0 mid0) {pre post : List Stp} {r : Stp} (e : rs = pre ++ r :: post) : ops[r.s.idx]? = some r.o := (hF.play.split e).2.2.2.2.1.1

theorem Facts.mask_pre (hF : Facts E rec n ops rs tm0 σ0 mid0) {pre post : List Stp} {r : Stp} (e : rs = pre ++ r :: post) {j : Nat} (h : Msk ops r.s.idx j) : ∃ x ∈ pre, x.s.idx = j := by
  have := (hF.plan _ _ _ (Facts.mapSplit e)).2.2.1 j h
  rw [accD_bit] at this
  rcases this with h | ⟨x, hx, hj⟩
  · simp at h
  · obtain ⟨y, hy, rfl⟩ := List.mem_map.1 hx
    exact ⟨y, hy, hj⟩

theorem Facts.ne_pre (hF : Facts E rec n ops rs tm0 σ0 mid0) {pre post : List Stp} {r : Stp} (e : rs = pre ++ r :: post) : ∀ x ∈ pre, x.s.idx ≠ r.s.idx := by
  intro x hx hxe
  have := (hF.plan _ _ _ (Facts.mapSplit e)).2.1
  have h2 : ((pre.map (·.s)).foldl accD 0).testBit r.s.idx = true := (accD_bit _ _ _).2 (.inr ⟨x.s, List.mem_map.2 ⟨x, hx, rfl⟩, hxe⟩)
  rw [h2] at this; cases this

theorem Facts.ne_post (hF : Facts E rec n ops rs tm0 σ0 mid0) {pre post : List Stp} {r : Stp} (e : rs = pre ++ r :: post) : ∀ x ∈ post, x.s.idx ≠ r.s.idx := by
  intro x hx
  obtain ⟨a, b, hab⟩ := List.append_of_mem hx
  have := hF.ne_pre (pre := pre ++ r :: a) (r := x) (post := b) (by rw [e, hab]; simp) r (by simp)
  exact fun h => this h.symm

/-- What stands behind is no part of its mask. -/
theorem Facts.no_mask_post (hF : Facts E rec n ops rs tm0 σ0 mid0) {pre post : List Stp} {r : Stp} (e : rs = pre ++ r :: post) {x : Stp} (hx : x ∈ post) : ¬ Msk ops r.s.idx x.s.idx := by
  intro h
  obtain ⟨y, hy, hye⟩ := hF.mask_pre e h
  obtain ⟨a, b, hab⟩ := List.append_of_mem hx
  exact hF.ne_pre (pre := pre ++ r :: a) (r := x) (post := b) (by rw [e, hab]; simp) y (by simp [hy]) hye

theorem Facts.no_mask_pre (hF : Facts E rec n ops rs tm0 σ0 mid0) {pre post : List Stp} {r : Stp} (e : rs = pre ++ r :: post) {x : Stp} (hx : x ∈ pre) : ¬ Msk ops x.s.idx r.s.idx := by
  obtain ⟨a, b, hab⟩ := List.append_of_mem hx
  exact hF.no_mask_post (pre := a) (r := x) (post := b ++ r :: post) (by rw [e, hab]; simp) (x := r) (by simp)

/-- An act follows all acts and all that makes ahead of it. -/
theorem Facts.act_mask (hF : Facts E rec n ops rs tm0 σ0 mid0) {pre post : List Stp} {r : Stp} (e : rs = pre ++ r :: post) (hc : r.s.cls = .acts) {x : Stp} (hx : x ∈ pre) (hxc : x.s.cls = .acts ∨ x.s.cls = .makes) : Msk ops r.s.idx x.s.idx := by
  obtain ⟨h1, h2, _⟩ := (hF.plan _ _ _ (Facts.mapSplit e)).2.2.2.2.1 hc
  rcases hxc with hxc | hxc
  · exact h1 _ ((acc_mem accW_eq _ _ _).2 (.inr ⟨x.s, List.mem_map.2 ⟨x, hx, rfl⟩, hxc, rfl⟩))
  · exact h2 _ ((acc_mem accM_eq _ _ _).2 (.inr ⟨x.s, List.mem_map.2 ⟨x, hx, rfl⟩, hxc, rfl⟩))

theorem Facts.chk (hF : Facts E rec n ops rs tm0 σ0 mid0) {pre post : List Stp} {r : Stp} (e : rs = pre ++ r :: post) (hc : r.s.cls = .acts) {x : Stp} (hx : x ∈ pre) (hxc : x.s.cls = .reads) (hm : ¬ Msk ops r.s.idx x.s.idx) : x.s.idx ∈ r.s.chk := by
  obtain ⟨_, _, h3⟩ := (hF.plan _ _ _ (Facts.mapSplit e)).2.2.2.2.1 hc
  exact h3 _ ((acc_mem accR_eq _ _ _).2 (.inr ⟨x.s, List.mem_map.2 ⟨x, hx, rfl⟩, hxc, rfl⟩)) (by unfold Msk at hm; simpa using hm)

/-- Two of them whose slots touch are in order. -/
theorem Facts.touch (hF : Facts E rec n ops rs tm0 σ0 mid0) {x r : Stp} (hx : ops[x.s.idx]? = some x.o) (hr : ops[r.s.idx]? = some r.o) (hne : x.s.idx ≠ r.s.idx) {t : Nat} (hd : x.o.dst = some t) (ht : t ∈ r.o.looksAt ops ∨ r.o.dst = some t) :
    Msk ops x.s.idx r.s.idx ∨ Msk ops r.s.idx x.s.idx := by
  rcases slotsOk_at hF.slots hx hr hne with h | h | h
  · exact .inl h
  · exact .inr h
  · obtain ⟨h1, h2, _⟩ := Oper.apart_spec h
    rcases ht with ht | ht
    · exact absurd ht (h1 t hd)
    · exact absurd ht (h2 t hd)

/-- A set of operations that have been made. -/
structure Clo (ops : Array Oper) (L : Nat → Bool) : Prop where
  clo : ∀ i, L i = true → ∀ j, Msk ops i j → L j = true

theorem Facts.slots_at (hF : Facts E rec n ops rs tm0 σ0 mid0) {pre post : List Stp} {r : Stp} (e : rs = pre ++ r :: post) {L : Nat → Bool} (hC : Clo ops L) (hr : L r.s.idx = false) (hready : ∀ j, Msk ops r.s.idx j → L j = true)
    {t : Nat} (ht : t ∈ r.o.looksAt ops) : slot (curT L rs tm0) t = slot r.tm t := by
  have hop := hF.op e
  have hpre : ∀ x ∈ pre, ops[x.s.idx]? = some x.o := fun x hx => by
    obtain ⟨a, b, hab⟩ := List.append_of_mem hx
    exact hF.op (pre := a) (r := x) (post := b ++ r :: post) (by rw [e, hab]; simp)
  have hpost : ∀ x ∈ post, ops[x.s.idx]? = some x.o := fun x hx => by
    obtain ⟨a, b, hab⟩ := List.append_of_mem hx
    exact hF.op (pre := pre ++ r :: a) (r := x) (post := b) (by rw [e, hab]; simp)
  rw [(hF.play.split e).1, e, curT_append, curT_cons, if_neg (by rw [hr]; simp), curT_none]
  · refine curT_all (fun x hx hd => ?_) rfl
    rcases hF.touch (hpre x hx) hop (hF.ne_pre e x hx) hd (.inl ht) with h | h
    · exact absurd h (hF.no_mask_pre e hx)
    · exact hready _ h
  · intro x hx hd
    rcases hF.touch (hpost x hx) hop (hF.ne_post e x hx) hd (.inl ht) with h | h
    · cases hl : L x.s.idx with
      | false => rfl
      | true =>
        have := hC.clo _ hl _ h
        rw [hr] at this; cases this
    · exact absurd h (hF.no_mask_post e hx)

theorem Facts.cur_add (hF : Facts E rec n ops rs tm0 σ0 mid0) {pre post : List Stp} {r : Stp} (e : rs = pre ++ r :: post) {L : Nat → Bool} (hC : Clo ops L) (hr : L r.s.idx = false) (t : Nat) :
    slot (curT (addL L r.s.idx) rs tm0) t = slot (putT (curT L rs tm0) r.o.dst r.v) t := by
  have hop := hF.op e
  have hpost : ∀ x ∈ post, ops[x.s.idx]? = some x.o := fun x hx => by
    obtain ⟨a, b, hab⟩ := List.append_of_mem hx
    exact hF.op (pre := pre ++ r :: a) (r := x) (post := b) (by rw [e, hab]; simp)
  have hne1 := hF.ne_pre e
  have hne2 := hF.ne_post e
  have hnm := fun x (hx : x ∈ post) => hF.no_mask_post e hx
  rw [e]
  refine curT_add hr hne1 hne2 (fun x hx hl d hd hxd => ?_) t
  rcases hF.touch (hpost x hx) hop (hne2 x hx) hxd (.inr hd) with h | h
  · have := hC.clo _ hl _ h
    rw [hr] at this; cases this
  · exact hnm x hx h

/-- Memory is not touched by what neither acts nor makes, or is not made. -/
theorem Facts.mem_same (hF : Facts E rec n ops rs tm0 σ0 mid0) {pre post : List Stp} {r : Stp} (e : rs = pre ++ r :: post) {L : Nat → Bool} (h : r.want = false ∨ r.s.cls = .value ∨ r.s.cls = .reads) (st : St × List Stp) :
    memOf (addL L r.s.idx) rs st = memOf L rs st := by
  have hne1 := hF.ne_pre e
  have hne2 := hF.ne_post e
  rw [e, memOf_append, memOf_append, memOf_cons, memOf_cons]
  rw [memOf_congr (L := addL L r.s.idx) (L' := L) (rs := pre) (fun x hx _ _ => addL_ne _ (hne1 x hx))]
  rw [memOf_congr (L := addL L r.s.idx) (L' := L) (rs := post) (fun x hx _ _ => addL_ne _ (hne2 x hx))]
  congr 1
  unfold memF
  rcases h with h | h | h
  · simp [h]
  · simp [h]
  · simp [h]

/-- No act behind it has been made. -/
theorem Facts.no_act_post (hF : Facts E rec n ops rs tm0 σ0 mid0) {pre post : List Stp} {r : Stp} (e : rs = pre ++ r :: post) {L : Nat → Bool} (hC : Clo ops L) (hr : L r.s.idx = false) (hc : r.s.cls = .acts ∨ r.s.cls = .makes) :
    ∀ x ∈ post, x.s.cls = .acts → x.want = true → L x.s.idx = false := by
  intro x hx hxc _
  obtain ⟨a, b, hab⟩ := List.append_of_mem hx
  have := hF.act_mask (pre := pre ++ r :: a) (r := x) (post := b) (by rw [e, hab]; simp) hxc (x := r) (by simp) hc
  cases hl : L x.s.idx with
  | false => rfl
  | true =>
    have := hC.clo _ hl _ this
    rw [hr] at this; cases this

/-- The memory ahead of an act that is ready. -/
theorem Facts.mem_act (hF : Facts E rec n ops rs tm0 σ0 mid0) {pre post : List Stp} {r : Stp} (e : rs = pre ++ r :: post) {L : Nat → Bool} (hC : Clo ops L) (hr : L r.s.idx = false) (hready : ∀ j, Msk ops r.s.idx j → L j = true) (hc : r.s.cls = .acts) (hw : r.want = true) :
    ∃ B pd, adoptAll pd B = r.σ ∧ memOf L rs (σ0, []) = (B, pd ++ post.filter fun x => L x.s.idx && x.want && decide (x.s.cls = .makes)) ∧
      memOf (addL L r.s.idx) rs (σ0, []) = (r.σ', post.filter fun x => L x.s.idx && x.want && decide (x.s.cls = .makes)) ∧ (∀ x ∈ pd, x ∈ pre) := by
  have hne1 := hF.ne_pre e
  have hne2 := hF.ne_post e
  have hσ := (hF.play.split e).2.1
  have hallL : ∀ x ∈ pre, x.s.cls = .acts ∨ x.s.cls = .makes → x.want = true → L x.s.idx = true := fun x hx hxc _ => hready _ (hF.act_mask e hc hx hxc)
  have hpre : memOf L pre (σ0, []) = memOf (fun _ => true) pre (σ0, []) := memOf_congr hallL
  have hnp := hF.no_act_post e hC hr (.inl hc)
  have hpd : ∀ (L : Nat → Bool) (l : List Stp) (st : St × List Stp), ∀ x ∈ (memOf L l st).2, x ∈ st.2 ∨ x ∈ l := by
    intro L l
    induction l with
    | nil => intro st x hx; exact .inl hx
    | cons y l ih =>
      intro st x hx
      rw [memOf_cons] at hx
      rcases ih _ x hx with h | h
      · unfold memF at h
        split at h
        · split at h
          · cases h
          · rcases List.mem_append.1 h with h | h
            · exact .inl h
            · exact .inr (by simp at h; simp [h])
          · exact .inl h
        · exact .inl h
      · exact .inr (List.mem_cons_of_mem _ h)
  refine ⟨(memOf (fun _ => true) pre (σ0, [])).1, (memOf (fun _ => true) pre (σ0, [])).2, ?_, ?_, ?_, ?_⟩
  · rw [memOf_all]; exact hσ.symm
  · rw [e, memOf_append, hpre, memOf_cons]
    have : memF L (memOf (fun _ => true) pre (σ0, [])) r = memOf (fun _ => true) pre (σ0, []) := by unfold memF; simp [hr]
    rw [this, memOf_post hnp]
  · rw [e, memOf_append, memOf_congr (L := addL L r.s.idx) (L' := fun _ => true) (rs := pre) (fun x hx hxc hxw => by rw [addL_ne _ (hne1 x hx)]; exact hallL x hx hxc hxw), memOf_cons]
    have : memF (addL L r.s.idx) (memOf (fun _ => true) pre (σ0, [])) r = (r.σ', []) := by unfold memF; simp [addL_self, hw, hc]
    rw [this, memOf_post (fun x hx hxc hxw => by rw [addL_ne _ (hne2 x hx)]; exact hnp x hx hxc hxw)]
    simp only [List.nil_append]
    congr 1
    apply List.filter_congr
    intro x hx
    rw [addL_ne _ (hne2 x hx)]
  · intro x hx
    rcases hpd _ _ _ x hx with h | h
    · cases h
    · exact h

/-- The memory about what makes. -/
theorem Facts.mem_make (hF : Facts E rec n ops rs tm0 σ0 mid0) {pre post : List Stp} {r : Stp} (e : rs = pre ++ r :: post) {L : Nat → Bool} (hC : Clo ops L) (hr : L r.s.idx = false) (hc : r.s.cls = .makes) (hw : r.want = true) :
    ∃ B p1 p2, memOf L rs (σ0, []) = (B, p1 ++ p2) ∧ memOf (addL L r.s.idx) rs (σ0, []) = (B, p1 ++ r :: p2) := by
  have hne1 := hF.ne_pre e
  have hne2 := hF.ne_post e
  have hnp := hF.no_act_post e hC hr (.inr hc)
  refine ⟨(memOf L pre (σ0, [])).1, (memOf L pre (σ0, [])).2, post.filter fun x => L x.s.idx && x.want && decide (x.s.cls = .makes), ?_, ?_⟩
  · rw [e, memOf_append, memOf_cons]
    have : memF L (memOf L pre (σ0, [])) r = memOf L pre (σ0, []) := by unfold memF; simp [hr]
    rw [this, memOf_post hnp]
  · rw [e, memOf_append, memOf_congr (L := addL L r.s.idx) (L' := L) (rs := pre) (fun x hx _ _ => addL_ne _ (hne1 x hx)), memOf_cons]
    have : memF (addL L r.s.idx) (memOf L pre (σ0, [])) r = ((memOf L pre (σ0, [])).1, (memOf L pre (σ0, [])).2 ++ [r]) := by unfold memF; simp [addL_self, hw, hc]
    rw [this, memOf_post (fun x hx hxc hxw => by rw [addL_ne _ (hne2 x hx)]; exact hnp x hx hxc hxw)]
    have : (post.filter fun x => addL L r.s.idx x.s.idx && x.want && decide (x.s.cls = .makes)) = post.filter fun x => L x.s.idx && x.want && decide (x.s.cls = .makes) := by
      apply List.filter_congr
      intro x hx
      rw [addL_ne _ (hne2 x hx)]
    rw [this]
    simp
end
end Go.AM

/- Regions that draw (7): reads; what holds; one step. -/
namespace Go.AM
open Go

theorem memOf_base {L : Nat → Bool} : ∀ {rs : List Stp} {st : St × List Stp}, (memOf L rs st).1 = st.1 ∨ ∃ x ∈ rs, x.s.cls = .acts ∧ x.want = true ∧ L x.s.idx = true ∧ (memOf L rs st).1 = x.σ' := by
  intro rs
  induction rs with
  | nil => intro st; exact .inl rfl
  | cons r rs ih =>
    intro st
    rw [memOf_cons]
    rcases ih (st := memF L st r) with h | ⟨x, hx, h⟩
    · rw [h]
      unfold memF
      by_cases hc : L r.s.idx = true ∧ r.want = true
      · rw [if_pos hc]
        cases hk : r.s.cls with
        | acts => exact .inr ⟨r, List.mem_cons_self .., hk, hc.2, hc.1, rfl⟩
        | makes => exact .inl rfl
        | value => exact .inl rfl
        | reads => exact .inl rfl
      · rw [if_neg hc]; exact .inl rfl
    · exact .inr ⟨x, List.mem_cons_of_mem _ hx, h⟩

theorem sameAt_eq {E : Env} {f : Flt} {σ : St} (h : sameAt E f σ = true) : (vc E f.op).run f.tmps σ = some f.v := by
  unfold sameAt at h
  split at h
  · rename_i v hv; rw [hv, eqb_eq _ _ _ h]
  · cases h

theorem recheck_mem {E : Env} {σ : St} {chk : List Nat} : ∀ {fl : List Flt}, recheck E σ chk fl = true → ∀ f ∈ fl, f.idx ∈ chk → sameAt E f σ = true := by
  intro fl
  induction fl with
  | nil => intro _ f hf; cases hf
  | cons g fl ih =>
    intro h f hf hi
    unfold recheck at h
    rw [bcase_eq] at h
    split at h
    · rename_i h1
      rcases List.mem_cons.1 hf with rfl | hf
      · rw [bcase_eq, memN_eq] at h1
        rw [if_pos (by simpa using hi)] at h1
        exact h1
      · exact ih h f hf hi
    · cases h

theorem allAt_get {E : Env} {f : Flt} : ∀ {n : Nat} {l : List St} {k : Nat} {σ : St}, allAt E f n l = true → k < n → l[k]? = some σ → sameAt E f σ = true := by
  intro n
  induction n with
  | zero => intro l k σ _ h; omega
  | succ n ih =>
    intro l k σ h hk hl
    unfold allAt at h
    split at h
    · cases h
    · rename_i τ r
      rw [bcase_eq] at h
      split at h
      · rename_i h1
        cases k with
        | zero => simp at hl; subst hl; exact h1
        | succ k => exact ih (k := k) h (by omega) (by simpa using hl)
      · cases h

theorem flt_mem {r : Stp} (hw : r.want = true) (hc : r.s.cls = .reads) : ∀ {l : List Stp} {fl : List Flt}, (r ∈ l ∨ r.flt ∈ fl) → r.flt ∈ l.foldl (fun f r => r.effF f) fl := by
  intro l
  induction l with
  | nil => intro fl h; rcases h with h | h; cases h; exact h
  | cons x l ih =>
    intro fl h
    rw [List.foldl_cons]
    apply ih
    rcases h with h | h
    · rcases List.mem_cons.1 h with rfl | h
      · right; simp [Stp.effF, hw, hc]
      · exact .inl h
    · right
      unfold Stp.effF
      split
      · split
        · exact List.mem_cons_of_mem _ h
        · exact h
      · exact h

section
variable {E : Env} {rec : Rc} {n : Nat} {ops : Array Oper} {rs : List Stp} {tm0 : Tr V} {σ0 : St} {mid0 : Nat}

theorem Facts.read_at (hF : Facts E rec n ops rs tm0 σ0 mid0) {pre post : List Stp} {r : Stp} (e : rs = pre ++ r :: post) {L : Nat → Bool} (hC : Clo ops L) (hr : L r.s.idx = false) (hready : ∀ j, Msk ops r.s.idx j → L j = true)
    (hc : r.s.cls = .reads) (hw : r.want = true) : (vc E r.o.op).run r.tm (memOf L rs (σ0, [])).1 = some r.v := by
  obtain ⟨_, _, hh, _, hl, _⟩ := hF.play.split e
  have hloc := hl.2.2.2.2 hw
  rw [hc] at hloc
  obtain ⟨τ, older, h1, h2, h3⟩ := hloc
  have hmem : memOf L rs (σ0, []) = memOf L post (memOf L pre (σ0, [])) := by
    rw [e, memOf_append, memOf_cons]
    have : memF L (memOf L pre (σ0, [])) r = memOf L pre (σ0, []) := by unfold memF; simp [hr]
    rw [this]
  rw [hmem]
  rcases memOf_base (L := L) (rs := post) (st := memOf L pre (σ0, [])) with hb | ⟨x, hx, hxc, hxw, hxl, hb⟩
  · rw [hb]
    have hord : ∀ a x b, pre = a ++ x :: b → x.s.cls = .acts → L x.s.idx = true → ∀ y ∈ a, y.s.cls = .acts → L y.s.idx = true := by
      intro a x b ea hxc hxl y hy hyc
      have := hF.act_mask (pre := a) (r := x) (post := b ++ r :: post) (by rw [e, ea]; simp) hxc hy (.inl hyc)
      exact hC.clo _ hxl _ this
    have hbase := base_hist σ0 pre hord []
    rw [← hh, h1] at hbase
    have hcount := countOut_ge (L := L) (m := (Region.before ops).getD r.s.idx 0) (fun j hj => hready j hj) (pre.map (·.s)) []
    have hback := (hF.plan _ _ _ (Facts.mapSplit e)).2.2.2.2.2 hc
    have hle : (pre.filter fun x => x.want && decide (x.s.cls = .acts) && !L x.s.idx).length ≤ ((pre.map (·.s)).filter fun x => decide (x.cls = .acts) && !L x.idx).length := by
      rw [List.filter_map, List.length_map]
      have : ∀ l : List Stp, (l.filter fun x => x.want && decide (x.s.cls = .acts) && !L x.s.idx).length ≤ (l.filter ((fun x : PStep => decide (x.cls = .acts) && !L x.idx) ∘ (·.s))).length := by
        intro l
        induction l with
        | nil => simp
        | cons y l ih =>
          rw [List.filter_cons, List.filter_cons]
          cases hyw : y.want <;> cases hyc : decide (y.s.cls = .acts) <;> cases hyl : L y.s.idx <;> simp [Function.comp, hyc, hyl] at ih ⊢ <;> omega
      exact this pre
    generalize (pre.filter fun x => x.want && decide (x.s.cls = .acts) && !L x.s.idx).length = k at hbase hle
    cases k with
    | zero =>
      simp only [List.getElem?_cons_zero, Option.some.injEq] at hbase
      rw [← hbase]; exact h2
    | succ k =>
      have hk : k < r.s.back := by
        rw [hback]
        simp only [countOut] at hcount
        omega
      exact sameAt_eq (allAt_get h3 hk (by simpa using hbase))
  · rw [hb]
    obtain ⟨a, b, hab⟩ := List.append_of_mem hx
    have e' : rs = (pre ++ r :: a) ++ x :: b := by rw [e, hab]; simp
    have hnm : ¬ Msk ops x.s.idx r.s.idx := fun hm => by
      have := hC.clo _ hxl _ hm
      rw [hr] at this; cases this
    have hchk := hF.chk e' hxc (x := r) (by simp) hc hnm
    obtain ⟨_, _, _, _, hlx, _⟩ := hF.play.split e'
    have hlocx := hlx.2.2.2.2 hxw
    rw [hxc] at hlocx
    obtain ⟨o, _, _, hre, _⟩ := hlocx
    exact sameAt_eq (recheck_mem hre r.flt (flt_mem hw hc (.inl (by simp))) hchk)

/-! ### Reserved numbers -/
theorem mids : ∀ (l : List Stp) (m : Nat), l.foldl (fun m r => r.effMid m) m = m + makesIn (l.map (·.s)) := by
  intro l
  induction l with
  | nil => intro m; rfl
  | cons x l ih =>
    intro m
    rw [List.foldl_cons, ih, List.map_cons]
    unfold Stp.effMid
    cases hc : x.s.cls <;> simp only [makesIn, hc] <;> omega

theorem makesIn_append : ∀ (a b : List PStep), makesIn (a ++ b) = makesIn a + makesIn b := by
  intro a
  induction a with
  | nil => intro b; simp [makesIn]
  | cons x a ih =>
    intro b
    cases hc : x.cls <;> simp only [List.cons_append, makesIn, hc, ih] <;> omega

theorem Facts.mid (hF : Facts E rec n ops rs tm0 σ0 mid0) {pre post : List Stp} {r : Stp} (e : rs = pre ++ r :: post) : r.mid = mid0 + makesIn (pre.map (·.s)) := by
  rw [(hF.play.split e).2.2.2.1, mids]

theorem Facts.mid_lt (hF : Facts E rec n ops rs tm0 σ0 mid0) {pre post : List Stp} {r : Stp} (e : rs = pre ++ r :: post) (hc : r.s.cls = .makes) : mid0 ≤ r.mid ∧ r.mid < mid0 + makesIn (rs.map (·.s)) := by
  rw [hF.mid e, e, List.map_append, makesIn_append, List.map_cons]
  have : makesIn (r.s :: post.map (·.s)) = makesIn (post.map (·.s)) + 1 := by simp only [makesIn, hc]
  omega

/-- Reserved numbers are apart. -/
theorem Facts.mid_ne (hF : Facts E rec n ops rs tm0 σ0 mid0) {pre post : List Stp} {r : Stp} (e : rs = pre ++ r :: post) (hc : r.s.cls = .makes) {x : Stp} (hx : x ∈ pre ∨ x ∈ post) (hxc : x.s.cls = .makes) : x.mid ≠ r.mid := by
  have key : ∀ {pre post : List Stp} {r : Stp} (_ : rs = pre ++ r :: post) {x : Stp} (_ : x ∈ pre), x.s.cls = .makes → x.mid < r.mid := by
    intro pre post r e x hx hxc
    obtain ⟨a, b, hab⟩ := List.append_of_mem hx
    have h1 := hF.mid (pre := a) (r := x) (post := b ++ r :: post) (by rw [e, hab]; simp)
    have h2 := hF.mid e
    rw [hab, List.map_append, makesIn_append, List.map_cons] at h2
    have : makesIn (x.s :: b.map (·.s)) = makesIn (b.map (·.s)) + 1 := by simp only [makesIn, hxc]
    omega
  rcases hx with hx | hx
  · have := key e hx hxc; omega
  · obtain ⟨a, b, hab⟩ := List.append_of_mem hx
    have := key (pre := pre ++ r :: a) (r := x) (post := b) (by rw [e, hab]; simp) (x := r) (by simp) hc
    omega
end
end Go.AM

/- Regions that draw (8): one step. -/
namespace Go.AM
open Go

structure Inv (E : Env) (n : Nat) (rs : List Stp) (tm0 : Tr V) (dfr0 : List Dfr) (σs σ0 : St) (ρ0 : Pm) (w0 : World) (L : Nat → Bool) (ρ : Pm) (w : World) (act : Act) : Prop where
  goes : Goes E.gl ρ0 σs w0 ρ (memOf L rs (σ0, [])).1 w
  tm : RepT ρ n (curT L rs tm0) act.tmps
  dfr : RepDs ρ dfr0 act.defers
  pend : ∀ x ∈ (memOf L rs (σ0, [])).2, Pend ρ (memOf L rs (σ0, [])).1 w0 w x
  sep : Sep ρ (memOf L rs (σ0, [])).2
  fresh : ∀ x ∈ rs, x.want = true → x.s.cls = .makes → L x.s.idx = false → ρ x.mid = none
  nxt : σ0.next ≤ (memOf L rs (σ0, [])).1.next
  big : (memOf L rs (σ0, [])).1.next ≤ big

theorem putA {ρ : Pm} {n : Nat} {tm : Tr V} {act : Act} {dst : Option Tmp} {v : V} {c : Value} (h : RepT ρ n tm act.tmps) (hv : Rep ρ v c) (hd : ∀ d, dst = some d → d < n) : RepT ρ n (putT tm dst v) (act.put dst c).tmps := by
  cases dst with
  | none => exact h
  | some d => exact h.put (hd d rfl) hv

theorem put_defers (act : Act) (dst : Option Tmp) (c : Value) : (act.put dst c).defers = act.defers := by cases dst <;> rfl

theorem vc_defer {E : Env} {c : Call} {tm : Tr V} {σ : St} {v : V} (h : (vc E (.defer c)).run tm σ = some v) : False := by cases h
theorem ac_defer {E : Env} {c : Call} {tm : Tr V} {m : Made} (h : (ac E (.defer c)).run tm = some m) : False := by cases h
theorem wc_defer {E : Env} {c : Call} {tm : Tr V} {σ : St} {x : Out} (h : (wc E (.defer c)).run tm σ = some x) : ∃ f args, x = .defer f args := by
  obtain ⟨callee, args, ts⟩ := c
  cases callee with
  | builtin b => cases h
  | invoke r m => cases h
  | value f =>
    obtain ⟨v, _, h⟩ := bindV_some h
    have : ∀ {xs : List Operand} {k : List V → Option Out}, opcs E xs tm k = some x → ∃ vs, k vs = some x := by
      intro xs
      induction xs with
      | nil => intro k h; exact ⟨[], h⟩
      | cons y ys ih =>
        intro k h
        obtain ⟨u, _, h⟩ := bindV_some h
        obtain ⟨vs, hvs⟩ := ih h
        exact ⟨u :: vs, hvs⟩
    obtain ⟨vs, h⟩ := this h
    unfold deferV at h
    split at h
    · split at h
      · have := catV_some h
        cases this
        exact ⟨_, _, rfl⟩
      · cases h
    · cases h

theorem rel_nil {gl : Nat} {ρ : Pm} {σ : St} {w : World} (h : Rel gl ρ σ w) (hb : σ.next ≤ big) : Rel gl ρ nilSt w :=
  ⟨h.glob, fun id pl hp => Nat.lt_of_lt_of_le (h.dom id pl hp) hb, h.bnd, fun id b hb => (by cases hb), fun id id' b b' pl pl' hb => (by cases hb)⟩

theorem memOf_sub {L : Nat → Bool} : ∀ {rs : List Stp} {st : St × List Stp}, (memOf L rs st).2.Sublist (st.2 ++ rs) ∧ ∀ x ∈ (memOf L rs st).2, x ∈ st.2 ∨ x.s.cls = .makes := by
  intro rs
  induction rs with
  | nil => intro st; exact ⟨by simp [memOf], fun x hx => .inl hx⟩
  | cons r rs ih =>
    intro st
    rw [memOf_cons]
    obtain ⟨h1, h2⟩ := ih (st := memF L st r)
    have hs : (memF L st r).2.Sublist (st.2 ++ [r]) ∧ ∀ x ∈ (memF L st r).2, x ∈ st.2 ∨ x.s.cls = .makes := by
      unfold memF
      split
      · cases hc : r.s.cls with
        | acts => exact ⟨List.nil_sublist _, fun x hx => by cases hx⟩
        | makes =>
          refine ⟨List.Sublist.refl _, fun x hx => ?_⟩
          rcases List.mem_append.1 hx with h | h
          · exact .inl h
          · have : x = r := by simpa using h
            subst this; exact .inr hc
        | value => exact ⟨List.sublist_append_left _ _, fun x hx => .inl hx⟩
        | reads => exact ⟨List.sublist_append_left _ _, fun x hx => .inl hx⟩
      · exact ⟨List.sublist_append_left _ _, fun x hx => .inl hx⟩
    refine ⟨?_, fun x hx => ?_⟩
    · have := h1.trans (List.Sublist.append hs.1 (List.Sublist.refl rs))
      simpa using this
    · rcases h2 x hx with h | h
      · exact hs.2 x h
      · exact .inr h

theorem play_mids {E : Env} {rec : Rc} {n : Nat} {ops : Array Oper} : ∀ {rs : List Stp} {fl : List Flt} {tm : Tr V} {σ : St} {h : List St} {mid : Nat}, Play E rec n ops rs fl tm σ h mid →
    (∀ x ∈ rs, mid ≤ x.mid) ∧ ((rs.filter fun x => decide (x.s.cls = .makes)).map (·.mid)).Nodup := by
  intro rs
  induction rs with
  | nil => intro fl tm σ h mid _; exact ⟨fun x hx => (by cases hx), by simp⟩
  | cons r rs ih =>
    intro fl tm σ h mid hp
    obtain ⟨_, _, _, h4, _, h6⟩ := hp
    obtain ⟨i1, i2⟩ := ih h6
    have hge : mid ≤ r.effMid mid := by unfold Stp.effMid; split <;> omega
    refine ⟨fun x hx => ?_, ?_⟩
    · rcases List.mem_cons.1 hx with rfl | hx
      · omega
      · have := i1 x hx; omega
    · rw [List.filter_cons]
      split
      · rename_i hc
        have hc : r.s.cls = .makes := by simpa using hc
        rw [List.map_cons, List.nodup_cons]
        refine ⟨fun hm => ?_, i2⟩
        obtain ⟨x, hx, hxe⟩ := List.mem_map.1 hm
        have := i1 x (List.mem_filter.1 hx).1
        have e : r.effMid mid = mid + 1 := by unfold Stp.effMid; rw [hc]
        omega
      · exact i2

theorem pd_nodup {E : Env} {rec : Rc} {n : Nat} {ops : Array Oper} {rs : List Stp} {fl : List Flt} {tm : Tr V} {σ σ' : St} {h : List St} {mid : Nat} (hp : Play E rec n ops rs fl tm σ h mid) (L : Nat → Bool) : ((memOf L rs (σ', [])).2.map (·.mid)).Nodup := by
  obtain ⟨h1, h2⟩ := memOf_sub (L := L) (rs := rs) (st := (σ', []))
  have h3 := h1.filter (fun x => decide (x.s.cls = .makes))
  have e : (memOf L rs (σ', [])).2.filter (fun x => decide (x.s.cls = .makes)) = (memOf L rs (σ', [])).2 := by
    rw [List.filter_eq_self]
    intro x hx
    rcases h2 x hx with h | h
    · cases h
    · simpa using h
  rw [e] at h3
  exact (h3.map _).nodup (by simpa using (play_mids hp).2)

theorem pa_run {n : Nat} {dst : Option Tmp} (hd : ∀ d, dst = some d → d < n) (a : A) (v : V) (k : A → Option Res) : (pa n dst).run a v k = k { tmps := putT a.tmps dst v, dfr := a.dfr } := by
  unfold pa
  cases dst with
  | none => rfl
  | some d =>
    have : Nat.blt d n = true := by simpa using hd d rfl
    simp only [this, Tr.setK_eq]
    rfl

section
variable {E : Env} {P : Program} (hE : E.Ok P) {rec : Rc} (hrec : rec.Ok E P) {n : Nat} {ops : Array Oper} {rs : List Stp} {tm0 : Tr V} {dfr0 : List Dfr} {σs σ0 : St} {ρ0 : Pm} {w0 : World}

/-- Nothing but a slot has changed. -/
theorem Inv.slot (hF : Facts E rec n ops rs tm0 σ0 σs.next) {pre post : List Stp} {r : Stp} (e : rs = pre ++ r :: post) {L : Nat → Bool} (hC : Clo ops L) (hr : L r.s.idx = false) (hs : r.want = false ∨ r.s.cls = .value ∨ r.s.cls = .reads)
    {ρ : Pm} {w : World} {act : Act} (hI : Inv E n rs tm0 dfr0 σs σ0 ρ0 w0 L ρ w act) {c : Value} (hv : Rep ρ r.v c) : Inv E n rs tm0 dfr0 σs σ0 ρ0 w0 (addL L r.s.idx) ρ w (act.put r.o.dst c) := by
  have hm := hF.mem_same e (L := L) hs (σ0, [])
  have hd := (hF.play.split e).2.2.2.2.1.2.1
  refine ⟨by rw [hm]; exact hI.goes, (putA hI.tm hv hd).congr (hF.cur_add e hC hr), by rw [put_defers]; exact hI.dfr, by rw [hm]; exact hI.pend, by rw [hm]; exact hI.sep, ?_, by rw [hm]; exact hI.nxt, by rw [hm]; exact hI.big⟩
  intro x hx hxw hxc hxl
  refine hI.fresh x hx hxw hxc ?_
  unfold addL at hxl
  simp only [Bool.or_eq_false_iff] at hxl
  exact hxl.1

include hE hrec in
theorem step_ok (hF : Facts E rec n ops rs tm0 σ0 σs.next) (hm0 : σ0.next = σs.next + makesIn (rs.map (·.s))) {pre post : List Stp} {r : Stp} (e : rs = pre ++ r :: post) {L : Nat → Bool} (hC : Clo ops L) (hr : L r.s.idx = false)
    (hready : ∀ j, Msk ops r.s.idx j → L j = true) (hg : ∀ j want, r.o.guard = some (j, want) → Msk ops r.s.idx j)
    {ρ : Pm} {w : World} {act : Act} (hI : Inv E n rs tm0 dfr0 σs σ0 ρ0 w0 L ρ w act) {rr : Option Nat} {Q : Exit → Act → World → Prop} {K : Act → World → Prop}
    (hK : ∀ ρ' w' act', Inv E n rs tm0 dfr0 σs σ0 ρ0 w0 (addL L r.s.idx) ρ' w' act' → K act' w') : wpOpIn (FR rr) 0 P ops Q r.s.idx K act w := by
  obtain ⟨_, _, _, hmid, hl, _⟩ := hF.play.split e
  obtain ⟨hop, hd, hwant, hvu, hloc⟩ := hl
  have hslots : ∀ t, t ∈ r.o.looksAt ops → slot r.tm t = slot (curT L rs tm0) t := fun t ht => (hF.slots_at e hC hr hready ht).symm
  have hag : Agree E r.tm (curT L rs tm0) r.o.op.operands.toList := agree_of_slots fun t ht => hslots t (List.mem_append_left _ (List.mem_filterMap.2 ⟨.tmp t, ht, rfl⟩))
  have hgc : (gc ops r.o).run (curT L rs tm0) = r.want := by
    rw [← hwant]
    refine (gc_agree fun j want g d hgu hj hgd => hslots d ?_).symm
    unfold Oper.looksAt
    refine List.mem_append_right _ ?_
    rw [hgu]
    simp [hj, hgd]
  have ha : RepA ρ n { tmps := curT L rs tm0, dfr := dfr0 } act := ⟨hI.tm, hI.dfr⟩
  have hwd := gc_ok ha ops r.o
  have hwd : r.want = Region.wanted r.o (yielded ops act.tmps) := by rw [← hwd]; exact hgc.symm
  unfold wpOpIn
  rw [hop]
  simp only
  by_cases hw : r.want = true
  · rw [← hwd, if_pos hw]
    refine ⟨fun _ _ => trivial, ?_⟩
    have hloc := hloc hw
    have hRB := hI.goes.rel
    cases hc : r.s.cls with
    | value =>
      rw [hc] at hloc
      have hndef : rr = none ∨ ∀ c, r.o.op ≠ .defer c := .inr fun c hcd => by rw [hcd] at hloc; exact vc_defer hloc
      rw [semAt_ok hndef]
      have hloc : (vc E r.o.op).run r.tm nilSt = some r.v := hloc
      rw [vc_agree hag] at hloc
      obtain ⟨cv, h1, h2⟩ := vc_ok hE (rel_nil hRB hI.big) hI.tm hloc
      rw [h2]
      exact hK _ _ _ (hI.slot hF e hC hr (.inr (.inl hc)) h1)
    | reads =>
      have hread := hF.read_at e hC hr hready hc hw
      have hndef : rr = none ∨ ∀ c, r.o.op ≠ .defer c := .inr fun c hcd => by rw [hcd] at hread; exact vc_defer hread
      rw [semAt_ok hndef]
      rw [vc_agree hag] at hread
      obtain ⟨cv, h1, h2⟩ := vc_ok hE hRB hI.tm hread
      rw [h2]
      exact hK _ _ _ (hI.slot hF e hC hr (.inr (.inr hc)) h1)
    | makes =>
      rw [hc] at hloc
      obtain ⟨m, hm, hblk, hv⟩ := hloc
      have hndef : rr = none ∨ ∀ c, r.o.op ≠ .defer c := .inr fun c hcd => by rw [hcd] at hm; exact ac_defer hm
      rw [semAt_ok hndef]
      rw [ac_agree hag] at hm
      obtain ⟨ob, w₁, kk, cv, h1, h2, h3, h4⟩ := (ac_ok hE hRB hI.tm hm).ex
      rw [h3]
      obtain ⟨B, p1, p2, hM, hM'⟩ := hF.mem_make e hC hr hc hw
      have hrx : r ∈ rs := by rw [e]; simp
      have hfr := hI.fresh r hrx hw hc hr
      obtain ⟨hm1, hm2⟩ := hF.mid_lt e hc
      have hg0 := hI.goes
      have hnx := hI.nxt
      have hbg := hI.big
      have hpd := hI.pend
      have hsp := hI.sep
      rw [hM] at hg0 hnx hbg hpd hsp
      simp only at hg0 hnx hbg hpd hsp
      have g1 := hg0.trans (Goes.alk hg0.rel h1)
      have hsz : w₁.heap.size = w.heap.size := by rw [h1.heap]
      have g2 := g1.spare ob (k := kk) hfr (by omega) hm1
      rw [hsz] at g2
      have hle : ρ.le (ρ.at r.mid ⟨w.heap.size, 0, kk⟩) := Pm.le_at hfr
      have hself : (ρ.at r.mid ⟨w.heap.size, 0, kk⟩) r.mid = some ⟨w.heap.size, 0, kk⟩ := Pm.at_self
      have hval : Rep (ρ.at r.mid ⟨w.heap.size, 0, kk⟩) r.v cv := by rw [hv]; exact h4 _ _ hself
      have hpush : ∀ (i : Nat) (o : Obj), w.heap[i]? = some o → (w₁.heap.push ob)[i]? = some o := by
        intro i o ho
        have : i < w.heap.size := by
          rcases Nat.lt_or_ge i w.heap.size with x | x
          · exact x
          · rw [Array.getElem?_eq_none x] at ho; cases ho
        rw [Array.getElem?_push, if_neg (by omega), h1.heap]
        exact ho
      have hntB : ∀ i, Tracked (ρ.at r.mid ⟨w.heap.size, 0, kk⟩) B i → Tracked ρ B i := by
        rintro i ⟨j, c, p, q1, q2, q3⟩
        obtain ⟨p', o', z1, _, _⟩ := hg0.rel.blk j c q1
        rw [hle _ _ z1] at q2
        cases q2
        exact ⟨j, c, _, q1, z1, q3⟩
      refine hK _ _ _ ⟨by rw [hM']; exact g2, (putA (hI.tm.mono hle) hval hd).congr (hF.cur_add e hC hr), by rw [put_defers]; exact hI.dfr.mono hle, ?_, ?_, ?_, by rw [hM']; exact hnx, by rw [hM']; exact hbg⟩
      · rw [hM']
        intro x hx
        have hxr : x = r ∨ x ∈ p1 ++ p2 := by
          simp only [List.mem_append, List.mem_cons] at hx ⊢
          rcases hx with h | h | h
          · exact .inr (.inl h)
          · exact .inl h
          · exact .inr (.inr h)
        rcases hxr with rfl | hx
        · refine ⟨⟨w.heap.size, 0, kk⟩, ob, hself, ?_, ?_, hg0.size, ?_⟩
          · show (w₁.heap.push ob)[w.heap.size]? = some ob
            rw [← hsz]; simp
          · rw [hblk]; exact h2.mono hle
          · intro ht
            obtain ⟨j, c, p, q1, q2, q3⟩ := hntB _ ht
            have := hg0.rel.bnd _ _ q2
            simp only at q3
            omega
        · obtain ⟨pl, o, k1, k2, k3, k4, k5⟩ := hpd x hx
          exact ⟨pl, o, hle _ _ k1, hpush _ _ k2, k3.mono hle, k4, fun ht => k5 (hntB _ ht)⟩
      · rw [hM']
        have hmem : ∀ x, x ∈ p1 ++ r :: p2 → x = r ∨ x ∈ p1 ++ p2 := by
          intro x hx
          simp only [List.mem_append, List.mem_cons] at hx ⊢
          rcases hx with h | h | h
          · exact .inr (.inl h)
          · exact .inl h
          · exact .inr (.inr h)
        have hold : ∀ x ∈ p1 ++ p2, ∀ p, (ρ.at r.mid ⟨w.heap.size, 0, kk⟩) x.mid = some p → p.blk < w.heap.size ∧ ρ x.mid = some p := by
          intro x hx p hp
          obtain ⟨pl, o, k1, _⟩ := hpd x hx
          rw [hle _ _ k1] at hp
          cases hp
          exact ⟨hg0.rel.bnd _ _ k1, k1⟩
        intro x hx y hy p q hp hq hpq
        rcases hmem x hx with ex | hx2
        · rcases hmem y hy with ey | hy2
          · rw [ex, ey]
          · rw [ex, hself] at hp; cases hp
            have := (hold y hy2 q hq).1
            simp only at hpq
            omega
        · rcases hmem y hy with ey | hy2
          · rw [ey, hself] at hq; cases hq
            have := (hold x hx2 p hp).1
            simp only at hpq
            omega
          · exact hsp x hx2 y hy2 p q (hold x hx2 p hp).2 (hold y hy2 q hq).2 hpq
      · intro x hx hxw hxc hxl
        unfold addL at hxl
        simp only [Bool.or_eq_false_iff] at hxl
        have hxr : x ∈ pre ∨ x ∈ post := by
          rw [e] at hx
          simp only [List.mem_append, List.mem_cons] at hx
          rcases hx with h | rfl | h
          · exact .inl h
          · simp at hxl
          · exact .inr h
        rw [Pm.at_ne (hF.mid_ne e hc hxr hxc)]
        exact hI.fresh x hx hxw hxc hxl.1
    | acts =>
      rw [hc] at hloc
      obtain ⟨x, hx, har, _, hbig'⟩ := hloc
      obtain ⟨B, pd, hσ, hM, hM', hpdpre⟩ := hF.mem_act e hC hr hready hc hw
      have hndef : rr = none ∨ ∀ c, r.o.op ≠ .defer c := .inr fun c hcd => by
        rw [hcd] at hx
        obtain ⟨f, args, rfl⟩ := wc_defer hx
        exact har
      rw [semAt_ok hndef]
      have hg0 := hI.goes
      have hnx := hI.nxt
      have hpd := hI.pend
      have hsp := hI.sep
      rw [hM] at hg0 hnx hpd hsp
      simp only at hg0 hnx hpd hsp
      have hnd := pd_nodup (σ' := σ0) hF.play L
      rw [hM] at hnd
      simp only [List.map_append] at hnd
      obtain ⟨nd1, nd2, nd3⟩ := List.nodup_append.1 hnd
      obtain ⟨g1, hnext, htrk⟩ := adopt_all (pd := pd) hg0 (fun y hy => hpd y (List.mem_append_left _ hy)) (fun y hy z hz => hsp y (List.mem_append_left _ hy) z (List.mem_append_left _ hz)) nd1
      rw [hσ] at g1 hnext htrk
      rw [wc_agree hag] at hx
      have hout := wc_ok hE g1.rel hI.tm (o := r.o) hx
      have hK2 : outK rec n r.o.dst x { tmps := curT L rs tm0, dfr := dfr0 } r.σ (fun a σ => some { ex := .normal, a, σ }) = some { ex := .normal, a := { tmps := putT (curT L rs tm0) r.o.dst r.v, dfr := dfr0 }, σ := r.σ' } := by
        cases x with
        | val v s' =>
          obtain ⟨rfl, rfl⟩ := har
          show (pa n r.o.dst).run _ _ _ = _
          rw [pa_run hd]
        | call f args =>
          have har : rec.call f args false r.σ = some ⟨r.v, r.σ'⟩ := har
          show optE (rec.call f args false r.σ) none _ = _
          rw [har]
          show (pa n r.o.dst).run _ _ _ = _
          rw [pa_run hd]
        | round l args =>
          have har : roundF rec l args r.σ = some ⟨r.v, r.σ'⟩ := har
          show optE (roundF rec l args r.σ) none _ = _
          rw [har]
          show (pa n r.o.dst).run _ _ _ = _
          rw [pa_run hd]
        | defer f args => exact har.elim
      refine outK_ok hrec g1.rel ha hout hK2 ?_
      intro a' σ' ρ' w' act' g ra hk
      cases hk
      have nt : ∀ y ∈ post.filter (fun x => L x.s.idx && x.want && decide (x.s.cls = .makes)), ∀ pl, ρ y.mid = some pl → ¬ Tracked ρ B pl.blk → ¬ Tracked ρ r.σ pl.blk := by
        intro y hy pl hyp hnb ht
        rcases htrk _ ht with ht | ⟨z, hz, p, q1, q2⟩
        · exact hnb ht
        · have := hsp z (List.mem_append_left _ hz) y (List.mem_append_right _ hy) _ _ q1 hyp q2
          exact nd3 _ (List.mem_map.2 ⟨z, hz, rfl⟩) _ (List.mem_map.2 ⟨y, hy, rfl⟩) this
      refine hK _ _ _ ⟨by rw [hM']; exact g1.trans g, ra.tmps.congr (hF.cur_add e hC hr), ra.dfr, ?_, ?_, ?_, ?_, by rw [hM']; exact hbig'⟩
      · rw [hM']
        intro y hy
        obtain ⟨pl, o, k1, k2, k3, k4, k5⟩ := hpd y (List.mem_append_right _ hy)
        have hb := g1.rel.bnd _ _ k1
        have hnt := nt y hy pl k1 k5
        refine ⟨pl, o, g.le _ _ k1, ?_, k3.mono g.le, k4, fun ht => hnt (g.trk _ hb ht)⟩
        rw [g.frame _ hb (fun ho => hnt (let ⟨j, c, p, q1, _, q2, q3⟩ := ho; ⟨j, c, p, q1, q2, q3⟩))]
        exact k2
      · rw [hM']
        intro y hy z hz p q hp hq hpq
        obtain ⟨pl, _, k1, _⟩ := hpd y (List.mem_append_right _ hy)
        obtain ⟨pl', _, k1', _⟩ := hpd z (List.mem_append_right _ hz)
        rw [g.le _ _ k1] at hp
        rw [g.le _ _ k1'] at hq
        cases hp
        cases hq
        exact hsp y (List.mem_append_right _ hy) z (List.mem_append_right _ hz) _ _ k1 k1' hpq
      · intro y hy hyw hyc hyl
        unfold addL at hyl
        simp only [Bool.or_eq_false_iff] at hyl
        have hfr := hI.fresh y hy hyw hyc hyl.1
        obtain ⟨a, b, hab⟩ := List.append_of_mem hy
        have hlt := (hF.mid_lt hab hyc).2
        cases hq : ρ' y.mid with
        | none => rfl
        | some pl =>
          rcases g.new_ _ _ hq with h | h
          · rw [hfr] at h; cases h
          · omega
      · rw [hM']
        have := g.nxt
        show σ0.next ≤ r.σ'.next
        omega
  · rw [← hwd, if_neg hw]
    have hwf : r.want = false := by simpa using hw
    refine ⟨fun _ _ => trivial, hK _ _ _ (hI.slot hF e hC hr (.inl hwf) ?_)⟩
    rw [hvu hwf]
    exact Rep.undef
end
end Go.AM

/- Regions that draw (9): all of them. -/
namespace Go.AM
open Go

theorem Goes.reserve {gl : Nat} {ρ : Pm} {σ : St} {w w' : World} (h : Rel gl ρ σ w) (a : Alk w w') (k : Nat) : Goes gl ρ σ w ρ { heap := σ.heap, next := σ.next + k } w' := by
  have g := Goes.alk h a
  exact ⟨g.le, ⟨g.rel.glob, fun id pl hp => Nat.lt_of_lt_of_le (g.rel.dom id pl hp) (Nat.le_add_right _ _), g.rel.bnd, g.rel.blk, g.rel.inj⟩, g.size, g.own, g.frame, g.os, g.out, g.tape, g.trk, Nat.le_add_right _ _, g.new_⟩

theorem binds_any {md : Region.Mode} {e : Edge} (h : Region.binds .any e = true) : Region.binds md e = true := by
  unfold Region.binds at h ⊢
  cases hg : e.ground <;> rw [hg] at h <;> first | rfl | (exact absurd h (by simp only; decide)) | (simp at h)

section
variable {E : Env} {rec : Rc} {n : Nat} {ops : Array Oper} {rs : List Stp} {tm0 : Tr V} {σ0 : St} {mid0 : Nat}

theorem Facts.nodup (hF : Facts E rec n ops rs tm0 σ0 mid0) : (rs.map (·.s.idx)).Nodup := by
  have key : ∀ pre, (∃ post, rs = pre ++ post) → (pre.map (·.s.idx)).Nodup := by
    refine snoc_ind (fun _ => by simp) ?_
    rintro pre x ih ⟨post, e⟩
    rw [List.map_append, List.nodup_append]
    refine ⟨ih ⟨x :: post, by rw [e]; simp⟩, by simp, fun a ha b hb => ?_⟩
    obtain ⟨y, hy, rfl⟩ := List.mem_map.1 ha
    have hb : b = x.s.idx := by simpa using hb
    rw [hb]
    exact hF.ne_pre (pre := pre) (r := x) (post := post) (by rw [e]; simp) y hy
  exact key rs ⟨[], by simp⟩

theorem Facts.idx_lt (hF : Facts E rec n ops rs tm0 σ0 mid0) : ∀ x ∈ rs, x.s.idx < ops.size := by
  intro x hx
  obtain ⟨a, b, hab⟩ := List.append_of_mem hx
  exact (hF.plan _ _ _ (Facts.mapSplit hab)).1

theorem Facts.find (hF : Facts E rec n ops rs tm0 σ0 mid0) {i : Nat} (hi : i < ops.size) : ∃ pre r post, rs = pre ++ r :: post ∧ r.s.idx = i := by
  have := nodup_all hF.nodup (fun j hj => by obtain ⟨x, hx, rfl⟩ := List.mem_map.1 hj; exact hF.idx_lt x hx) (by rw [List.length_map]; exact hF.len) i hi
  obtain ⟨x, hx, rfl⟩ := List.mem_map.1 this
  obtain ⟨a, b, hab⟩ := List.append_of_mem hx
  exact ⟨a, x, b, hab, rfl⟩

theorem Facts.lin_any (hF : Facts E rec n ops rs tm0 σ0 mid0) : Lin .any ops (rs.map (·.s.idx)) := by
  refine ⟨fun i hi => ?_, fun i hi => ?_, fun pre i post o el ho e he hb => ?_⟩
  · obtain ⟨a, r, b, hab, rfl⟩ := hF.find hi
    rw [hab]; simp
  · obtain ⟨x, hx, rfl⟩ := List.mem_map.1 hi
    exact hF.idx_lt x hx
  · obtain ⟨l1, l2, h1, h2, h3⟩ := List.map_eq_append_iff.1 el
    cases l2 with
    | nil => simp at h3
    | cons r l2 =>
      simp only [List.map_cons, List.cons.injEq] at h3
      obtain ⟨h3, _⟩ := h3
      subst h3
      obtain ⟨x, hx, hxe⟩ := hF.mask_pre h1 (mask_direct ho he hb)
      rw [← h2]
      exact List.mem_map.2 ⟨x, hx, hxe⟩
end

theorem lin_go (md : Region.Mode) (ops : Array Oper) : ∀ (fuel t : Nat) (listed : Array Bool), listed.size = ops.size →
    (Region.linearise.go md ops fuel t listed []).Nodup ∧ (∀ i ∈ Region.linearise.go md ops fuel t listed [], i < ops.size ∧ listed.getD i true = false) ∧
    ∀ pre i post o, Region.linearise.go md ops fuel t listed [] = pre ++ i :: post → ops[i]? = some o → ∀ e ∈ o.after, Region.binds md e = true → e.on ∈ pre ∨ listed.getD e.on false = true := by
  intro fuel
  induction fuel with
  | zero => intro t listed _; simp [Region.linearise.go]
  | succ fuel ih =>
    intro t listed hs
    simp only [Region.linearise.go]
    change (match (Region.ready md ops listed)[t % (Region.ready md ops listed).length]? with
      | some i => Region.linearise.go md ops fuel (t / (Region.ready md ops listed).length) (listed.setIfInBounds i true) [i]
      | none => [].reverse).Nodup ∧ (∀ i ∈ (match (Region.ready md ops listed)[t % (Region.ready md ops listed).length]? with
      | some i => Region.linearise.go md ops fuel (t / (Region.ready md ops listed).length) (listed.setIfInBounds i true) [i]
      | none => [].reverse), i < ops.size ∧ listed.getD i true = false) ∧ ∀ pre i post o, (match (Region.ready md ops listed)[t % (Region.ready md ops listed).length]? with
      | some i => Region.linearise.go md ops fuel (t / (Region.ready md ops listed).length) (listed.setIfInBounds i true) [i]
      | none => [].reverse) = pre ++ i :: post → ops[i]? = some o → ∀ e ∈ o.after, Region.binds md e = true → e.on ∈ pre ∨ listed.getD e.on false = true
    cases hi : (Region.ready md ops listed)[t % (Region.ready md ops listed).length]? with
    | none => simp
    | some i =>
      have hmem := List.mem_of_getElem? hi
      unfold Region.ready at hmem
      rw [List.mem_filter] at hmem
      obtain ⟨hlt, hcond⟩ := hmem
      have hlt : i < ops.size := List.mem_range.1 hlt
      have hget : ops[i]? = some ops[i] := Array.getElem?_eq_getElem hlt
      simp only [hget, Option.map_some, Option.getD_some, Bool.and_eq_true, Array.all_eq_true'] at hcond
      obtain ⟨hc1, hc2⟩ := hcond
      have hc1 : listed.getD i true = false := by simpa using hc1
      simp only
      rw [linearise_go_acc, List.reverse_singleton, List.singleton_append]
      obtain ⟨q1, q2, q3⟩ := ih (t / (Region.ready md ops listed).length) (listed.setIfInBounds i true) (by simp [hs])
      have hset : ∀ (j : Nat) (d : Bool), (listed.setIfInBounds i true).getD j d = if j = i then true else listed.getD j d := by
        intro j d
        simp only [Array.getD_eq_getD_getElem?, Array.getElem?_setIfInBounds]
        by_cases e : j = i
        · subst e; simp [hs, hlt]
        · rw [if_neg (fun x => e x.symm), if_neg e]
      refine ⟨List.nodup_cons.2 ⟨fun hm => ?_, q1⟩, fun j hj => ?_, fun pre j post o el ho e he hb => ?_⟩
      · have := (q2 i hm).2
        rw [hset, if_pos rfl] at this; cases this
      · rcases List.mem_cons.1 hj with rfl | hj
        · exact ⟨hlt, hc1⟩
        · obtain ⟨z1, z2⟩ := q2 j hj
          rw [hset] at z2
          split at z2
          · cases z2
          · exact ⟨z1, z2⟩
      · cases pre with
        | nil =>
          simp only [List.nil_append, List.cons.injEq] at el
          obtain ⟨rfl, _⟩ := el
          rw [hget] at ho; cases ho
          have := hc2 e he
          simp only [Bool.or_eq_true, Bool.not_eq_true', hb] at this
          rcases this with h | h
          · cases h
          · exact .inr h
        | cons x pre =>
          simp only [List.cons_append, List.cons.injEq] at el
          obtain ⟨rfl, el⟩ := el
          rcases q3 pre j post o el ho e he hb with h | h
          · exact .inl (List.mem_cons_of_mem _ h)
          · rw [hset] at h
            split at h
            · rename_i hq; left; rw [hq]; exact List.mem_cons_self ..
            · exact .inr h

theorem lin_of_len {md : Region.Mode} {ops : Array Oper} (h : (Region.linearise md ops 0).length = ops.size) : Lin md ops (Region.linearise md ops 0) := by
  obtain ⟨q1, q2, q3⟩ := lin_go md ops ops.size 0 (Array.replicate ops.size false) (by simp)
  refine ⟨nodup_all q1 (fun i hi => (q2 i hi).1) h, fun i hi => (q2 i hi).1, fun pre i post o el ho e he hb => ?_⟩
  rcases q3 pre i post o el ho e he hb with h | h
  · exact h
  · exfalso
    simp only [Array.getD_eq_getD_getElem?] at h
    cases hq : (Array.replicate ops.size false)[e.on]? with
    | none => rw [hq] at h; cases h
    | some x =>
      rw [hq] at h
      have := Array.mem_of_getElem? hq
      simp at this
      simp [this.2] at h

section
variable {E : Env} {P : Program} (hE : E.Ok P) {rec : Rc} (hrec : rec.Ok E P) {n : Nat} {ops : Array Oper} {rs : List Stp} {tm0 : Tr V} {dfr0 : List Dfr} {σs σ0 : St} {ρ0 : Pm} {w0 : World}

def setL (listed : Array Bool) : Nat → Bool := fun i => listed.getD i false

include hE hrec in
theorem any_ok (hF : Facts E rec n ops rs tm0 σ0 σs.next) (hm0 : σ0.next = σs.next + makesIn (rs.map (·.s))) (hgd : guardsOk ops (Region.before ops) = true) {md : Region.Mode} {lin : List Nat} (hlin : Lin md ops lin) {rr : Option Nat} :
    ∀ (fuel : Nat) (listed : Array Bool) (ρ : Pm) (w : World) (act : Act), listed.size = ops.size → (∃ l : List Nat, l.Nodup ∧ l.length + fuel = ops.size ∧ ∀ i ∈ l, i < ops.size ∧ listed.getD i false = true) → Clo ops (setL listed) →
    Inv E n rs tm0 dfr0 σs σ0 ρ0 w0 (setL listed) ρ w act →
    wpAnyIn (FR rr) 0 P md ops (CodePost E.gl ρ0 σs w0 n { ex := .normal, a := { tmps := rs.foldl (fun t r => r.effT t) tm0, dfr := dfr0 }, σ := rs.foldl (fun m r => r.effM m) σ0 }) fuel listed act w := by
  -- all is made
  have fin : ∀ (listed : Array Bool) (ρ : Pm) (w : World) (act : Act), Inv E n rs tm0 dfr0 σs σ0 ρ0 w0 (setL listed) ρ w act → (∀ i, i < ops.size → listed.getD i false = true) →
      CodePost E.gl ρ0 σs w0 n { ex := .normal, a := { tmps := rs.foldl (fun t r => r.effT t) tm0, dfr := dfr0 }, σ := rs.foldl (fun m r => r.effM m) σ0 } .normal act w := by
    intro listed ρ w act hI hall
    have hL : ∀ x ∈ rs, setL listed x.s.idx = true := fun x hx => hall _ (hF.idx_lt x hx)
    have hM : memOf (setL listed) rs (σ0, []) = memOf (fun _ => true) rs (σ0, []) := memOf_congr fun x hx _ _ => hL x hx
    have hnd := pd_nodup (σ' := σ0) hF.play (setL listed)
    obtain ⟨g, _, _⟩ := adopt_all hI.goes hI.pend hI.sep hnd
    rw [hM, memOf_all] at g
    exact ⟨.normal, ρ, g, ⟨hI.tm.congr fun i => (curT_all (fun x hx _ => hL x hx) rfl).symm, hI.dfr⟩⟩
  intro fuel
  induction fuel with
  | zero =>
    intro listed ρ w act hs ⟨l, h1, h2, h3⟩ hC hI
    have hall : ∀ i, i < ops.size → listed.getD i false = true := fun i hi => (h3 i (nodup_all h1 (fun j hj => (h3 j hj).1) (by omega) i hi)).2
    refine ⟨?_, fin listed ρ w act hI hall⟩
    unfold Region.ready
    rw [List.filter_eq_nil_iff]
    intro i hi
    have hi := List.mem_range.1 hi
    have := hall i hi
    have hl : listed[i]? = some listed[i] := Array.getElem?_eq_getElem (by omega)
    have hlb : listed[i] = true := by simpa [Array.getD_eq_getD_getElem?, hl] using this
    simp [Array.getD_eq_getD_getElem?, hl, hlb]
  | succ fuel ih =>
    intro listed ρ w act hs ⟨l, h1, h2, h3⟩ hC hI
    refine ⟨fun hr => fin listed ρ w act hI (hlin.done hs hr), fun i hi => ?_⟩
    unfold Region.ready at hi
    rw [List.mem_filter] at hi
    obtain ⟨hlt, hcond⟩ := hi
    have hlt : i < ops.size := List.mem_range.1 hlt
    have hget : ops[i]? = some ops[i] := Array.getElem?_eq_getElem hlt
    simp only [hget, Option.map_some, Option.getD_some, Bool.and_eq_true, Array.all_eq_true'] at hcond
    obtain ⟨hc1, hc2⟩ := hcond
    have hl : listed[i]? = some listed[i] := Array.getElem?_eq_getElem (by omega)
    have hun : setL listed i = false := by
      unfold setL
      simp only [Array.getD_eq_getD_getElem?, hl, Option.getD_some] at hc1 ⊢
      simpa using hc1
    have hedge : ∀ e ∈ ops[i].after, Region.binds md e = true → setL listed e.on = true := by
      intro e he hb
      have := hc2 e he
      simp only [Bool.or_eq_true, Bool.not_eq_true', hb] at this
      rcases this with h | h
      · cases h
      · exact h
    have hready : ∀ j, Msk ops i j → setL listed j = true := by
      intro j hj
      obtain ⟨o, e, ho, he, hb, hc⟩ := mask_cases hj
      rw [hget] at ho; cases ho
      have := hedge e he (binds_any hb)
      rcases hc with rfl | ⟨_, hc⟩
      · exact this
      · exact hC.clo _ this j hc
    obtain ⟨pre, r, post, e, rfl⟩ := hF.find hlt
    have hg : ∀ j want, r.o.guard = some (j, want) → Msk ops r.s.idx j := by
      intro j want hgu
      unfold guardsOk at hgd
      rw [Array.all_eq_true'] at hgd
      have := hgd (r.o, r.s.idx) (Array.mk_mem_zipIdx_iff_getElem?.2 (hF.op e))
      simp only [hgu] at this
      exact this
    have hset : setL (listed.setIfInBounds r.s.idx true) = addL (setL listed) r.s.idx := by
      funext j
      unfold setL addL
      simp only [Array.getD_eq_getD_getElem?, Array.getElem?_setIfInBounds]
      by_cases q : j = r.s.idx
      · subst q; simp [hs, hlt]
      · rw [if_neg (fun x => q x.symm)]
        simp [q]
    refine step_ok hE hrec hF hm0 e hC hun hready hg hI ?_
    intro ρ' w' act' hI'
    refine ih (listed.setIfInBounds r.s.idx true) ρ' w' act' (by simp [hs]) ⟨r.s.idx :: l, List.nodup_cons.2 ⟨fun hm => ?_, h1⟩, by simp only [List.length_cons]; omega, fun j hj => ?_⟩ ?_ (by rw [hset]; exact hI')
    · have := (h3 _ hm).2
      rw [show listed.getD r.s.idx false = setL listed r.s.idx from rfl, hun] at this
      cases this
    · have hj2 : setL (listed.setIfInBounds r.s.idx true) j = true ∧ j < ops.size := by
        rw [hset]
        rcases List.mem_cons.1 hj with rfl | hj
        · exact ⟨addL_self _ _, hlt⟩
        · refine ⟨?_, (h3 j hj).1⟩
          unfold addL
          have : setL listed j = true := (h3 j hj).2
          simp [this]
      exact ⟨hj2.2, hj2.1⟩
    · rw [hset]
      refine ⟨fun a ha b hb => ?_⟩
      unfold addL at ha ⊢
      simp only [Bool.or_eq_true, Nat.beq_eq] at ha ⊢
      rcases ha with ha | rfl
      · exact .inl (hC.clo a ha b hb)
      · exact .inl (hready b hb)
end

/-- Regions that draw their order are the model's. -/
theorem drawOk {E : Env} {P : Program} (hE : E.Ok P) : DrawOk E P := by
  intro rec hrec n id ops p r ρ σ w a act res hp hbig hR ha h
  unfold plan at hp
  simp only [bcase_eq] at hp
  split at hp
  · rename_i hck
    simp only [Bool.and_eq_true, Bool.or_eq_true, Bool.not_eq_true', Nat.beq_eq] at hck
    obtain ⟨⟨hsl, hgd⟩, hdep⟩ := hck
    obtain ⟨rs, h1, h2, h3⟩ := drawC_play h
    obtain ⟨hlen, hsplit⟩ := planGo_split hp
    have hF : Facts E rec n ops rs a.tmps { heap := σ.heap, next := σ.next + makesIn p } σ.next := by
      refine ⟨h2, fun pre s post e => ?_, hsl, ?_⟩
      · rw [h1] at e
        exact hsplit pre s post e
      · have := congrArg List.length h1
        simp only [List.length_map] at this
        omega
    refine wpIn_region_draw fun t => ?_
    have hI : ∀ w', Alk w w' → Inv E n rs a.tmps a.dfr σ { heap := σ.heap, next := σ.next + makesIn p } ρ w (setL (Array.replicate ops.size false)) ρ w' act := by
      intro w' hal
      have hz : ∀ i, setL (Array.replicate ops.size false) i = false := by
        intro i
        unfold setL
        simp only [Array.getD_eq_getD_getElem?]
        cases hq : (Array.replicate ops.size false)[i]? with
        | none => rfl
        | some x =>
          have := Array.mem_of_getElem? hq
          simp at this
          simp [this.2]
      have hM : memOf (setL (Array.replicate ops.size false)) rs ({ heap := σ.heap, next := σ.next + makesIn p }, []) = ({ heap := σ.heap, next := σ.next + makesIn p }, []) := by
        rw [memOf_post (fun x _ _ _ => hz _)]
        have : (rs.filter fun x => setL (Array.replicate ops.size false) x.s.idx && x.want && decide (x.s.cls = .makes)) = [] := by
          rw [List.filter_eq_nil_iff]; intro x _; simp [hz]
        rw [this]; rfl
      refine ⟨by rw [hM]; exact Goes.reserve hR hal _, ha.tmps.congr fun i => curT_none (fun x _ _ => hz _), ha.dfr, by rw [hM]; intro x hx; (cases hx), by rw [hM]; intro x hx; (cases hx), fun x hx _ hxc _ => ?_, by rw [hM]; exact Nat.le_refl _, by rw [hM]; exact hbig⟩
      obtain ⟨c, d, hcd⟩ := List.append_of_mem hx
      have := (hF.mid_lt hcd hxc).1
      cases hq : ρ x.mid with
      | none => rfl
      | some pl => have := hR.dom _ _ hq; omega
    have hstart : ∃ l : List Nat, l.Nodup ∧ l.length + ops.size = ops.size ∧ ∀ i ∈ l, i < ops.size ∧ (Array.replicate ops.size false).getD i false = true := ⟨[], by simp, by simp, fun i hi => by cases hi⟩
    have hC : Clo ops (setL (Array.replicate ops.size false)) := ⟨fun i hi => by
      exfalso
      unfold setL at hi
      simp only [Array.getD_eq_getD_getElem?] at hi
      cases hq : (Array.replicate ops.size false)[i]? with
      | none => rw [hq] at hi; cases hi
      | some x =>
        rw [hq] at hi
        have := Array.mem_of_getElem? hq
        simp at this
        simp [this.2] at hi⟩
    have main : ∀ (md : Region.Mode) (lin : List Nat) (t : Nat), Lin md ops lin → wpOpsIn (FR r) 0 P ops (CodePost E.gl ρ σ w n res) (Region.linearise md ops t) act { w with drawn := w.drawn + 1 } := by
      intro md lin t hlin
      have hm : ({ heap := σ.heap, next := σ.next + makesIn p } : St).next = σ.next + makesIn (rs.map (·.s)) := by rw [h1]
      have := any_ok hE hrec hF hm hgd (rr := r) hlin ops.size (Array.replicate ops.size false) ρ { w with drawn := w.drawn + 1 } act (by simp) hstart hC (hI _ ⟨rfl, rfl, rfl, rfl⟩)
      rw [h3]
      exact wpAnyIn_sound ops.size t _ act _ this
    unfold Region.schedule
    split
    · exact main .any _ t hF.lin_any
    · rename_i hmx
      simp only [Bool.or_eq_true, Bool.not_eq_true', not_or] at hmx
      rcases hdep with hdep | ⟨hd1, hd2⟩
      · exact absurd hdep hmx.2
      · split
        · exact main .text _ _ (lin_of_len hd2)
        · exact main .gc _ _ (lin_of_len hd1)
  · cases hp
end Go.AM
