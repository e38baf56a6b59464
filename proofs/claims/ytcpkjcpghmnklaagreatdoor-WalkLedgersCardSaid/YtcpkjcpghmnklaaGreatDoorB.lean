/- The abstract machine's numbers are the model's. -/
import Derived.Test.YtcpkjcpghmnklaaGreatDoorA
import GoSem.Dispatch
import Derived.Laws.Sem
import Derived.Laws.Strings
import Derived.Laws.Strings2
import Derived.Laws.Entries
import Derived.ChangeKeysEq
set_option linter.all false

/- The abstract machine's numbers are the model's. -/
namespace Go.AM
open Go

theorem um_eq (k : IntKind) (n : Int) : ((um k n : Nat) : Int) = n % ((modOf k : Nat) : Int) := by
  have hm : 0 < modOf k := by cases k <;> decide
  cases n with
  | ofNat m => show ((m % modOf k : Nat) : Int) = _; simp
  | negSucc m =>
    show ((modOf k - 1 - m % modOf k : Nat) : Int) = _
    have h1 : m % modOf k < modOf k := Nat.mod_lt _ hm
    rw [Int.negSucc_emod _ (by exact_mod_cast hm)]
    omega

theorem um_lt (k : IntKind) (n : Int) : um k n < modOf k := by
  have hm : 0 < modOf k := by cases k <;> decide
  cases n with
  | ofNat m => exact Nat.mod_lt _ hm
  | negSucc m =>
    show modOf k - 1 - m % modOf k < modOf k
    omega

theorem two_pow_bits (k : IntKind) : (2 ^ k.bits : Int) = ((modOf k : Nat) : Int) := by cases k <;> rfl
theorem two_pow_bitsN (k : IntKind) : 2 ^ k.bits = modOf k := by cases k <;> rfl

theorem sg_of (k : IntKind) (u : Nat) (h : u < modOf k) (n : Int) (hn : (u : Int) = n % ((modOf k : Nat) : Int)) : sg k u = k.wrap n := by
  unfold IntKind.wrap
  rw [two_pow_bits, ← hn]
  unfold sg
  rw [bcase_eq]
  have hb : (Nat.blt u (halfOf k) = true) ↔ u < halfOf k := by simp [Nat.blt_eq]
  simp only [hb]
  by_cases hh : u < halfOf k
  · rw [if_pos hh, if_neg]
    · rfl
    · cases k <;> simp [IntKind.signed, IntKind.bits, halfOf, modOf] at * <;> omega
  · rw [if_neg hh, if_pos]
    · rw [Int.negSucc_eq]; simp only [Nat.sub_eq]; omega
    · cases k <;> simp [IntKind.signed, IntKind.bits, halfOf, modOf] at * <;> omega

theorem wr_eq (k : IntKind) (n : Int) : wr k n = k.wrap n := sg_of k _ (um_lt k n) n (um_eq k n)

theorem wrap_nat (k : IntKind) (u : Nat) (h : u < modOf k) : sg k u = k.wrap (u : Int) :=
  sg_of k u h u (by rw [Int.emod_eq_of_lt (by omega) (by exact_mod_cast h)])

theorem toNat_ofInt (k : IntKind) (n : Int) : (BitVec.ofInt k.bits n).toNat = um k n := by
  rw [BitVec.toNat_ofInt]
  have := um_eq k n
  rw [two_pow_bitsN]
  omega

theorem ltI_eq (x y : Int) : ltI x y = decide (x < y) := by
  cases x <;> cases y <;> (rw [Bool.eq_iff_iff]; simp only [ltI, decide_eq_true_eq, Nat.blt_eq, Bool.false_eq_true, false_iff, true_iff, Int.ofNat_eq_natCast, Int.negSucc_eq]; omega)

theorem eqI_eq (x y : Int) : eqI x y = (x == y) := by
  cases x <;> cases y <;> (rw [Bool.eq_iff_iff]; simp only [eqI, beq_iff_eq, Nat.beq_eq, Bool.false_eq_true, false_iff, Int.ofNat_eq_natCast, Int.negSucc_eq]; omega)

theorem retI_eq (k : IntKind) (n : Int) : retI k n = some (.i k n) := forceI_eq _ _
theorem retB_eq (b : Bool) : retB b = some (.b b) := forceB_eq _ _

theorem shN_eq (k : IntKind) (y : Nat) : shN k y = min y k.bits := by
  unfold shN
  rw [bcase_eq]
  have : bitsOf k = k.bits := by cases k <;> rfl
  rw [this]
  simp only [Nat.ble_eq]
  split <;> omega

theorem shrI_eq (x : Int) (n : Nat) : shrI x n = x.fdiv (2 ^ n) := by
  have h2 : (0 : Int) < 2 ^ n := Int.pow_pos (by omega)
  rw [Int.fdiv_eq_ediv_of_nonneg _ (Int.le_of_lt h2)]
  have hp : ((2 ^ n : Nat) : Int) = (2 : Int) ^ n := by simp
  cases x with
  | ofNat m => show ((m / 2 ^ n : Nat) : Int) = _; rw [Int.natCast_ediv, hp]; rfl
  | negSucc m =>
    show Int.negSucc (m / 2 ^ n) = _
    rw [Int.negSucc_ediv _ h2, Int.negSucc_eq, Int.natCast_ediv, hp]
    rfl

/-! ### One operation of the model on two numbers -/
section
variable {P : Program} {w : World}

theorem int_sound (op : BinOp) (k : IntKind) (x y : Int) (v : V) (h : (intC op).run k x y = some v) (t : TypeId) :
    ∃ c, (∀ ρ, Rep ρ v c) ∧ (Go.binOp op t (.int k x) (.int k y)).run P w = .ok c w := by
  have bits : ∀ (f : Nat → Nat → Nat) (g : BitVec k.bits → BitVec k.bits → BitVec k.bits), (∀ a b, (g a b).toNat = f a.toNat b.toNat) →
      sg k (f (um k x) (um k y)) = k.wrap ((g (BitVec.ofInt k.bits x) (BitVec.ofInt k.bits y)).toNat) := by
    intro f g hfg
    have e : (g (BitVec.ofInt k.bits x) (BitVec.ofInt k.bits y)).toNat = f (um k x) (um k y) := by rw [hfg, toNat_ofInt, toNat_ofInt]
    rw [e]
    refine wrap_nat k _ ?_
    rw [← e, ← two_pow_bitsN]
    exact BitVec.isLt _
  cases op <;> simp only [intC, retI_eq, retB_eq, reduceCtorEq] at h
  all_goals try (cases h; done)
  case add => cases h; exact ⟨_, fun ρ => .i _ _, by simp [Go.binOp, Op.intArith, wr_eq]; try rfl⟩
  case sub => cases h; exact ⟨_, fun ρ => .i _ _, by simp [Go.binOp, Op.intArith, wr_eq]; try rfl⟩
  case mul => cases h; exact ⟨_, fun ρ => .i _ _, by simp [Go.binOp, Op.intArith, wr_eq]; try rfl⟩
  case quo =>
    rw [bcase_eq, eqI_eq] at h
    split at h
    · cases h
    · rename_i h0
      cases h
      exact ⟨_, fun ρ => .i _ _, by simp at h0; simp [Go.binOp, Op.intDiv, wr_eq, h0]⟩
  case rem =>
    rw [bcase_eq, eqI_eq] at h
    split at h
    · cases h
    · rename_i h0
      cases h
      exact ⟨_, fun ρ => .i _ _, by simp at h0; simp [Go.binOp, Op.intDiv, h0]⟩
  case and =>
    cases h
    refine ⟨_, fun ρ => .i _ _, ?_⟩
    rw [bits Nat.land (· &&& ·) (fun a b => BitVec.toNat_and a b)]
    simp [Go.binOp, Op.intBits]
  case or =>
    cases h
    refine ⟨_, fun ρ => .i _ _, ?_⟩
    rw [bits Nat.lor (· ||| ·) (fun a b => BitVec.toNat_or a b)]
    simp [Go.binOp, Op.intBits]
  case xor =>
    cases h
    refine ⟨_, fun ρ => .i _ _, ?_⟩
    rw [bits Nat.xor (· ^^^ ·) (fun a b => BitVec.toNat_xor a b)]
    simp [Go.binOp, Op.intBits]
  case andNot =>
    cases h
    refine ⟨_, fun ρ => .i _ _, ?_⟩
    rw [bits (fun a b => Nat.land a (modOf k - 1 - b)) (fun a b => a &&& ~~~b) (fun a b => by
      show (a &&& ~~~b).toNat = _
      rw [BitVec.toNat_and, BitVec.toNat_not, two_pow_bitsN]; rfl)]
    simp [Go.binOp, Op.intBits]
  case eql => cases h; exact ⟨_, fun ρ => .b _, by simp [Go.binOp, Op.intCmp, eqI_eq]⟩
  case neq => cases h; exact ⟨_, fun ρ => .b _, by simp [Go.binOp, Op.intCmp, eqI_eq, bne]⟩
  case lss => cases h; exact ⟨_, fun ρ => .b _, by simp [Go.binOp, Op.intCmp, ltI_eq]⟩
  case leq => cases h; exact ⟨_, fun ρ => .b _, by simp [Go.binOp, Op.intCmp, ltI_eq, ← decide_not, Int.not_lt]⟩
  case gtr => cases h; exact ⟨_, fun ρ => .b _, by simp [Go.binOp, Op.intCmp, ltI_eq]⟩
  case geq => cases h; exact ⟨_, fun ρ => .b _, by simp [Go.binOp, Op.intCmp, ltI_eq, ← decide_not, Int.not_lt]⟩

theorem shl_sound (k k' : IntKind) (x y : Int) (v : V) (h : shlV k x y = some v) (t : TypeId) :
    ∃ c, (∀ ρ, Rep ρ v c) ∧ (Go.binOp .shl t (.int k x) (.int k' y)).run P w = .ok c w := by
  cases y with
  | negSucc m => simp [shlV] at h
  | ofNat m =>
    simp only [shlV, retI_eq, Option.some.injEq] at h
    subst h
    refine ⟨_, fun ρ => .i _ _, ?_⟩
    have h0 : ¬ ((m : Int) < 0) := by omega
    simp only [Go.binOp, Op.shift, Int.ofNat_eq_natCast, h0, if_false, Int.toNat_natCast, Sem.run_pure, wr_eq, shN_eq]
    have e : Int.mul ((2 ^ min m k.bits : Nat) : Int) x = x * 2 ^ min m k.bits := by
      show ((2 ^ min m k.bits : Nat) : Int) * x = _
      simp only [Int.natCast_pow, Int.cast_ofNat_Int, Int.mul_comm]
    rw [e]

theorem shr_sound (k k' : IntKind) (x y : Int) (v : V) (h : shrV k x y = some v) (t : TypeId) :
    ∃ c, (∀ ρ, Rep ρ v c) ∧ (Go.binOp .shr t (.int k x) (.int k' y)).run P w = .ok c w := by
  cases y with
  | negSucc m => simp [shrV] at h
  | ofNat m =>
    simp only [shrV, retI_eq, Option.some.injEq] at h
    subst h
    refine ⟨_, fun ρ => .i _ _, ?_⟩
    have h0 : ¬ ((m : Int) < 0) := by omega
    simp only [Go.binOp, Op.shift, Int.ofNat_eq_natCast, h0, if_false, Int.toNat_natCast, Sem.run_pure, shrI_eq, shN_eq]

/-! ### Strings -/
theorem eqL_eq (x : List Nat) : ∀ y, eqL x y = (x == y) := by
  induction x with
  | nil => intro y; cases y <;> simp [eqL]
  | cons a x ih =>
    intro y
    cases y with
    | nil => simp [eqL]
    | cons b y =>
      show bcase (Nat.beq a b) (eqL x y) false = _
      rw [bcase_eq, ih]
      by_cases h : a = b
      · subst h; simp
      · have : ¬ Nat.beq a b = true := by simpa using h
        rw [if_neg this]
        rw [Bool.eq_iff_iff]; simp [h]

theorem bytes_nat (a b : ByteArray) : (a.data.toList.map UInt8.toNat = b.data.toList.map UInt8.toNat) ↔ a = b := by
  constructor
  · intro h
    have := (List.map_inj_right (f := UInt8.toNat) (fun x y hxy => UInt8.toNat_inj.1 hxy)).1 h
    cases a; cases b
    have h2 := Array.toList_inj.1 this
    simp only at h2
    rw [h2]
  · intro h; rw [h]

theorem bytes_beq (a b : ByteArray) : (a.data.toList.map UInt8.toNat == b.data.toList.map UInt8.toNat) = (a == b) := by
  have e : (a == b) = (a.data == b.data) := rfl
  rw [e, Bool.eq_iff_iff, beq_iff_eq, beq_iff_eq, bytes_nat]
  constructor
  · intro h; rw [h]
  · intro h; cases a; cases b; simp only at h; rw [h]

theorem toList_data (a : ByteArray) : a.toList = a.data.toList := by
  simp only [ByteArray.toList_eq]

theorem toList_beq (a b : ByteArray) : (a.toList == b.toList) = (a.data.toList.map UInt8.toNat == b.data.toList.map UInt8.toNat) := by
  rw [toList_data, toList_data, Bool.eq_iff_iff, beq_iff_eq, beq_iff_eq, bytes_nat]
  constructor
  · intro h; cases a; cases b; have h2 := Array.toList_inj.1 h; simp only at h2; rw [h2]
  · intro h; rw [h]

theorem ltL_eq (x : List UInt8) : ∀ y, ltL (x.map UInt8.toNat) (y.map UInt8.toNat) = Op.bytesLess x y := by
  induction x with
  | nil => intro y; cases y <;> rfl
  | cons a x ih =>
    intro y
    cases y with
    | nil => rfl
    | cons b y =>
      show bcase (Nat.blt a.toNat b.toNat) true (bcase (Nat.beq a.toNat b.toNat) (ltL (x.map UInt8.toNat) (y.map UInt8.toNat)) false) = _
      simp only [bcase_eq, ih, Op.bytesLess]
      have h1 : (Nat.blt a.toNat b.toNat = true) ↔ a < b := by rw [Nat.blt_eq]; exact UInt8.lt_iff_toNat_lt.symm
      have h2 : (Nat.beq a.toNat b.toNat = true) ↔ a = b := by rw [Nat.beq_eq]; exact UInt8.toNat_inj
      by_cases c1 : a < b
      · simp [h1.2 c1, c1]
      · have : ¬ Nat.blt a.toNat b.toNat = true := fun h => c1 (h1.1 h)
        rw [if_neg this]
        by_cases c2 : a = b
        · simp [c2]
        · have : ¬ Nat.beq a.toNat b.toNat = true := fun h => c2 (h2.1 h)
          rw [if_neg this]
          simp [c1, c2]

theorem str_sound (op : BinOp) (a b : ByteArray) (v : V) (h : (strC op).run (a.data.toList.map UInt8.toNat) (b.data.toList.map UInt8.toNat) = some v) (t : TypeId) :
    ∃ c, (∀ ρ, Rep ρ v c) ∧ (Go.binOp op t (.string a) (.string b)).run P w = .ok c w := by
  have he := toList_beq a b
  have hl := ltL_eq a.data.toList b.data.toList
  have hbin : ∀ (_ : op ≠ .shl) (_ : op ≠ .shr), Go.binOp op t (.string a) (.string b) = Op.stringOp op a b := by
    intro h1 h2; cases op <;> first | rfl | exact absurd rfl h1 | exact absurd rfl h2
  cases op <;> simp only [strC, retB_eq, reduceCtorEq] at h
  case add =>
    rw [bcase_eq] at h
    split at h
    · rename_i hs
      rw [forceL_eq] at h
      cases h
      refine ⟨.string (a ++ b), fun ρ => .s _ _ (by simp), ?_⟩
      rw [hbin (by simp) (by simp)]
      simp only [Nat.ble_eq, List.length_map, Array.length_toList] at hs
      have hs' : ¬ (((a.size + b.size : Nat) : Int) > IntKind.i64.max) := by
        have h1 : a.data.size = a.size := rfl
        have h2 : b.data.size = b.size := rfl
        have h3 : IntKind.i64.max = 9223372036854775807 := rfl
        rw [h3]; omega
      simp only [Op.stringOp, hs', if_false, Sem.run_pure]
    · cases h
  case eql => cases h; exact ⟨_, fun ρ => .b _, by rw [hbin (by simp) (by simp)]; simp only [Op.stringOp, Sem.run_pure, eqL_eq, he]⟩
  case neq => cases h; exact ⟨_, fun ρ => .b _, by rw [hbin (by simp) (by simp)]; simp only [Op.stringOp, Sem.run_pure, eqL_eq, he]⟩
  case lss => cases h; exact ⟨_, fun ρ => .b _, by rw [hbin (by simp) (by simp)]; simp only [Op.stringOp, Sem.run_pure, hl, toList_data]⟩
  case leq => cases h; exact ⟨_, fun ρ => .b _, by rw [hbin (by simp) (by simp)]; rw [eqL_eq, ← he, hl]; simp only [Op.stringOp, Sem.run_pure, toList_data]⟩
  case gtr => cases h; exact ⟨_, fun ρ => .b _, by rw [hbin (by simp) (by simp)]; rw [eqL_eq, ← he, hl]; simp only [Op.stringOp, Sem.run_pure, toList_data]⟩
  case geq => cases h; exact ⟨_, fun ρ => .b _, by rw [hbin (by simp) (by simp)]; simp only [Op.stringOp, Sem.run_pure, hl, toList_data]⟩
end
end Go.AM

/- The abstract machine's operations on values are the model's (1): tables, operands, parts. -/
namespace Go.AM
open Go

structure Env.Ok (E : Env) (P : Program) : Prop where
  ty : ∀ t i, E.ty.get t = some i → P.info? t = some i
  fn : ∀ f x, E.fn.get f = some x → P.funcs[f]? = some x
  plain : ∀ t u, E.plain.get t = some u → P.stoodInHeld t = false ∧ P.eqGuardType P.depth t = false

section
variable {E : Env} {P : Program} (hE : E.Ok P) {w : World}
include hE

theorem und_ok {t : TypeId} {d : TypeDesc} (h : E.und t = some d) : P.underlying t = some d := by
  unfold Env.und at h
  cases hi : E.ty.get t with
  | none => rw [hi] at h; cases h
  | some i =>
    rw [hi] at h
    have hp := hE.ty _ _ hi
    unfold Program.underlying
    rw [hp]
    cases i with
    | mk desc str size bytes hp al fa z c ms =>
      cases desc
      case named nm u =>
        simp only at h ⊢
        cases hu : E.ty.get u with
        | none => rw [hu] at h; cases h
        | some j => rw [hu] at h; simp only [Option.some.injEq] at h; subst h; rw [hE.ty _ _ hu]; rfl
      all_goals (simp only [Option.some.injEq] at h; subst h; rfl)

theorem run_und {t : TypeId} {d : TypeDesc} (h : E.und t = some d) : (underlying t).run P w = .ok d w := run_underlying (und_ok hE h) w

theorem run_info {t : TypeId} {i : TypeInfo} (h : E.ty.get t = some i) : (typeInfo t).run P w = .ok i w := by
  simp [typeInfo, hE.ty _ _ h]

theorem run_size {t : TypeId} {s : Nat} (h : E.size t = some s) : (sizeOf t).run P w = .ok s w := by
  unfold Env.size at h
  cases hi : E.ty.get t with
  | none => rw [hi] at h; cases h
  | some i =>
    rw [hi] at h
    simp only [Option.some.injEq] at h
    subst h
    simp [sizeOf, run_info hE hi]

theorem run_agg {t : TypeId} {g : Bool} (h : E.agg t = some g) : (isAgg t).run P w = .ok g w := by
  unfold Env.agg at h
  cases hu : E.und t with
  | none => rw [hu] at h; cases h
  | some d =>
    rw [hu] at h
    simp only [isAgg, Sem.run_bind, run_und hE hu, Result.andThen_ok]
    cases d <;> simp only [Option.some.injEq] at h <;> subst h <;> rfl
omit hE

theorem mapO_some {α β : Type} {f : α → Option β} {l : List α} : ∀ {r : List β}, mapO f l = some r → l.length = r.length ∧ ∀ (n : Nat) (x : α), l[n]? = some x → ∃ y, r[n]? = some y ∧ f x = some y := by
  induction l with
  | nil => intro r h; cases h; simp
  | cons a l ih =>
    intro r h
    unfold mapO at h
    cases ha : f a with
    | none => rw [ha] at h; cases h
    | some y =>
      rw [ha] at h
      cases hl : mapO f l with
      | none => rw [hl] at h; cases h
      | some ys =>
        rw [hl] at h
        simp only [Option.some.injEq] at h
        subst h
        obtain ⟨h1, h2⟩ := ih hl
        refine ⟨by simp [h1], ?_⟩
        intro n x hx
        cases n with
        | zero => simp at hx; subst hx; exact ⟨y, by simp, ha⟩
        | succ n => simp at hx; obtain ⟨z, hz⟩ := h2 n x hx; exact ⟨z, by simpa using hz⟩

theorem RepL.of_get {ρ : Pm} : ∀ {vs : List V} {cs : List Value}, vs.length = cs.length → (∀ (n : Nat) (v : V), vs[n]? = some v → ∃ c, cs[n]? = some c ∧ Rep ρ v c) → RepL ρ vs cs
  | [], [], _, _ => .nil
  | [], _ :: _, h, _ => by simp at h
  | _ :: _, [], h, _ => by simp at h
  | v :: vs, c :: cs, h, hg => by
    refine .cons _ _ _ _ ?_ (RepL.of_get (by simpa using h) fun n v hv => ?_)
    · obtain ⟨c', h1, h2⟩ := hg 0 v rfl; simp at h1; subst h1; exact h2
    · obtain ⟨c', h1, h2⟩ := hg (n + 1) v (by simpa using hv); exact ⟨c', by simpa using h1, h2⟩

theorem ofVal_rep {ρ : Pm} : ∀ (n : Nat) {c : Value} {v : V}, ofVal n c = some v → Rep ρ v c := by
  intro n
  induction n with
  | zero => intro c v h; simp [ofVal] at h
  | succ n ih =>
    intro c v h
    have many : ∀ (l : List Value) (r : List V), mapO (ofVal n) l = some r → RepL ρ r l := by
      intro l r hl
      obtain ⟨h1, h2⟩ := mapO_some hl
      refine RepL.of_get h1.symm fun k v hv => ?_
      have hk : k < l.length := by
        rw [h1]
        rcases Nat.lt_or_ge k r.length with x | x
        · exact x
        · rw [List.getElem?_eq_none x] at hv; cases hv
      obtain ⟨y, hy, hf⟩ := h2 k l[k] (List.getElem?_eq_getElem hk)
      rw [hv] at hy; cases hy
      exact ⟨l[k], List.getElem?_eq_getElem hk, ih hf⟩
    unfold ofVal at h
    split at h
    · cases h; exact .b _
    · rw [forceI_eq] at h; cases h; exact .i _ _
    · rw [forceL_eq] at h; cases h; exact .s _ _ rfl
    · cases h; exact .pn
    · cases h; exact .sn _ _
    · cases h; exact .mn
    · cases h; exact .nf
    · cases h; exact .ni
    · split at h
      · rename_i l hl; cases h; exact .ag _ _ (many _ _ hl)
      · cases h
    · split at h
      · rename_i l hl; cases h; exact .tu _ _ (many _ _ hl)
      · cases h
    · cases h

include hE
theorem run_zero {t : TypeId} {z : V} (h : E.zero t = some z) : ∃ c, (∀ ρ, Rep ρ z c) ∧ (zeroValue t).run P w = .ok c w := by
  unfold Env.zero at h
  cases hi : E.ty.get t with
  | none => rw [hi] at h; cases h
  | some i =>
    rw [hi] at h
    simp only at h
    cases hz : i.zero with
    | none => rw [hz] at h; cases h
    | some c =>
      rw [hz] at h
      exact ⟨c, fun ρ => ofVal_rep 3 h, by simp [zeroValue, run_info hE hi, hz]⟩
omit hE

theorem bindV_some {α : Type} {o : Option V} {f : V → Option α} {r : α} (h : bindV o f = some r) : ∃ v, o = some v ∧ f v = some r := by
  cases o with
  | none => cases h
  | some v => exact ⟨v, rfl, h⟩

theorem ptr_some {α : Type} {a : V} {k : Nat → Nat → Option α} {r : α} (h : ptr a k = some r) : ∃ id off, a = .p (some (id, off)) ∧ k id off = some r := by
  unfold ptr at h
  split at h
  · split at h
    · rename_i x; exact ⟨x.1, x.2, rfl, h⟩
    · cases h
  · cases h

theorem cellsAt_some {α : Type} {σ : St} {id : Nat} {k : List V → Option α} {r : α} (h : cellsAt σ id k = some r) : ∃ c el md, σ.get id = some (.cells c el md) ∧ k c = some r := by
  unfold cellsAt at h
  split at h
  · split at h
    · rename_i b hb c el md _; exact ⟨c, el, md, by assumption, h⟩
    · cases h
  · cases h

theorem aggV_some {α : Type} {x : V} {k : List V → Option α} {r : α} (h : aggV x k = some r) : ∃ cs, x = .ag cs ∧ k cs = some r := by
  unfold aggV at h
  split at h
  · exact ⟨_, rfl, h⟩
  · cases h

theorem natV_some {α : Type} {x : V} {k : Nat → Option α} {r : α} (h : natV x k = some r) : ∃ t n, x = .i t (.ofNat n) ∧ k n = some r := by
  unfold natV at h
  split at h
  · split at h
    · exact ⟨_, _, rfl, h⟩
    · cases h
  · cases h

theorem Rep.ptr_inv {ρ : Pm} {id off : Nat} {c : Value} (h : Rep ρ (.p (some (id, off))) c) : ∃ pl, ρ id = some pl ∧ c = .pointer (some ⟨pl.blk, pl.base + off, none⟩) := by
  cases h with
  | p _ _ pl hp => exact ⟨pl, hp, rfl⟩

/-! ### Operands -/
theorem opc_ok {ρ : Pm} {σ : St} {n : Nat} {tm : Tr V} {a : Act} (hR : Rel E.gl ρ σ w) (hT : RepT ρ n tm a.tmps) {x : Operand} {v : V}
    (h : (opc E x).get tm = some v) : Rep ρ v (a.eval x) := by
  cases x with
  | tmp t =>
    have := hT.get t
    unfold slot at this
    simp only [opc] at h
    cases ht : tm.get t with
    | none => rw [ht] at h this; simp only [optE_none, Option.some.injEq] at h; subst h; exact this
    | some u => rw [ht] at h this; simp only [optE_some, Option.some.injEq] at h; subst h; exact this
  | const c =>
    simp only [opc] at h
    split at h
    · rename_i u hu; simp only [Option.some.injEq] at h; subst h; exact ofVal_rep 3 hu
    · cases h
  | global g =>
    simp only [opc] at h
    split at h
    · rename_i hg
      simp only [Option.some.injEq] at h; subst h
      obtain ⟨c, hc⟩ := hR.glob g (by simpa [Nat.blt_eq] using hg)
      exact .p g 0 _ hc
    · cases h
  | func f =>
    simp only [opc, Option.some.injEq] at h
    subst h
    exact .f _ _ _ _ _ _ (.func f) .nil .nil

theorem opcs_ok {ρ : Pm} {σ : St} {n : Nat} {tm : Tr V} {a : Act} (hR : Rel E.gl ρ σ w) (hT : RepT ρ n tm a.tmps) {α : Type} {r : α} {xs : List Operand} :
    ∀ {k : List V → Option α}, opcs E xs tm k = some r → ∃ vs, RepL ρ vs (xs.map a.eval) ∧ k vs = some r := by
  induction xs with
  | nil => intro k h; exact ⟨[], .nil, h⟩
  | cons x xs ih =>
    intro k h
    obtain ⟨v, hv, h⟩ := bindV_some h
    obtain ⟨vs, hvs, h⟩ := ih h
    exact ⟨v :: vs, .cons _ _ _ _ (opc_ok hR hT hv) hvs, h⟩

/-! ### Parts -/
include hE
theorem partOf_ok {ρ : Pm} {t : TypeId} {g : Bool} {s off : Nat} {cs : List V} {cs' : Array Value} {v : V} (hg : E.agg t = some g) (hs : E.size t = some s)
    (hc : RepL ρ cs cs'.toList) (h : partOf g s cs off = some v) : ∃ c, Rep ρ v c ∧ (Go.part t cs' off).run P w = .ok c w := by
  unfold partOf at h
  cases g with
  | true =>
    obtain ⟨_, h⟩ := rangeK_some h
    simp only [Option.some.injEq] at h
    subst h
    refine ⟨.agg (cs'.extract off (off + s)), .ag _ _ ?_, ?_⟩
    · rw [Array.toList_extract]
      simp only [List.extract_eq_take_drop]
      have := (hc.drop off).take s
      rwa [show off + s - off = s by omega]
    · simp [Go.part, run_agg hE hg, run_size hE hs]
  | false =>
    simp only [nth_eq] at h
    obtain ⟨c, h1, h2⟩ := hc.get h
    refine ⟨c, h2, ?_⟩
    have h1' : cs'[off]? = some c := by simpa using h1
    simp [Go.part, run_agg hE hg, h1']

theorem part_ok {ρ : Pm} {t : TypeId} {off : Nat} {cs : List V} {cs' : Array Value} {v : V}
    (hc : RepL ρ cs cs'.toList) (h : part E t cs off = some v) : ∃ c, Rep ρ v c ∧ (Go.part t cs' off).run P w = .ok c w := by
  unfold part at h
  cases hg : E.agg t with
  | none => rw [hg] at h; cases h
  | some g =>
    rw [hg] at h
    simp only at h
    cases hs : E.size t with
    | none => rw [hs] at h; cases h
    | some s => rw [hs] at h; exact partOf_ok hE hg hs hc h
omit hE
end
end Go.AM

/- The abstract machine's operations on values are the model's (2): equality, keys, reading. -/
namespace Go.AM
open Go

section
variable {E : Env} {P : Program} (hE : E.Ok P) {w : World} {ρ : Pm} {σ : St}

theorem forIn_all {α : Type} (f : α → Option Bool × Unit → Sem (ForInStep (Option Bool × Unit))) (p : α → Option Bool) : ∀ (l : List α) (r : Bool),
    (∀ x ∈ l, p x = some true → (f x (none, ())).run P w = .ok (.yield (none, ())) w) →
    (∀ x ∈ l, p x = some false → (f x (none, ())).run P w = .ok (.done (some false, ())) w) →
    allO p l = some r → (forIn l (none, ()) f).run P w = .ok (if r then none else some false, ()) w := by
  intro l
  induction l with
  | nil => intro r _ _ h; simp only [allO, Option.some.injEq] at h; subst h; rfl
  | cons x xs ih =>
    intro r h1 h2 h
    simp only [List.forIn_cons, Sem.run_bind]
    unfold allO at h
    split at h
    · rename_i hp
      rw [h1 x (by simp) hp]
      simp only [Result.andThen_ok]
      exact ih r (fun y hy => h1 y (by simp [hy])) (fun y hy => h2 y (by simp [hy])) h
    · rename_i hp
      rw [h2 x (by simp) hp]
      simp only [Option.some.injEq] at h
      subst h
      rfl
    · cases h

theorem Rel.apart_ne (hR : Rel E.gl ρ σ w) {a b : Nat} (h : σ.apart a b = true) (hab : a ≠ b) {pa pb : Pl} (ha : ρ a = some pa) (hb : ρ b = some pb) (i j : Nat) :
    (sameAddr ⟨pa.blk, pa.base + i, none⟩ ⟨pb.blk, pb.base + j, none⟩).run P w = .ok false w := by
  unfold St.apart at h
  split at h
  · rename_i c1 e1 c2 e2 h1 h2
    obtain ⟨p1, arr1, f1, g1, k1, _, m1⟩ := hR.cells h1
    obtain ⟨p2, arr2, f2, g2, k2, _, m2⟩ := hR.cells h2
    rw [ha] at g1; cases g1
    rw [hb] at g2; cases g2
    have hne : ¬ pa.blk = pb.blk := by
      intro e
      rcases hR.inj _ _ _ _ _ _ h1 h2 ha hb e with x | ⟨x, _⟩
      · exact hab x
      · simp [Blk.ro] at x
    obtain ⟨_, _, z1⟩ := m1
    obtain ⟨_, _, z2⟩ := m2
    subst z1 z2
    simp only [sameAddr, beq_iff_eq, hne, if_false, Sem.run_bind, run_frozen, Result.andThen_ok, World.frozen?, k1, k2, Nat.not_lt_zero, decide_false, Bool.and_false, Bool.false_eq_true, noView, viewAt, run_shape,
      World.shape?, Option.isSome_some, if_true, Sem.run_pure, Option.isSome_none, mayBeOne, stringish, Bool.false_and, Bool.or_self]
  · cases h

include hE
set_option maxHeartbeats 1000000 in
theorem eqV_ok (hR : Rel E.gl ρ σ w) : ∀ (n : Nat) {t : TypeId} {x y : V} {cx cy : Value} {r : Bool}, eqV E σ n t x y = some r → Rep ρ x cx → Rep ρ y cy →
    ∀ d, n ≤ d → (Op.equalIn d t cx cy).run P w = .ok r w := by
  intro n
  induction n with
  | zero => intro t x y cx cy r h; simp [eqV] at h
  | succ n ih =>
    intro t x y cx cy r h hx hy d hd
    obtain ⟨d, rfl⟩ : ∃ m, d = m + 1 := ⟨d - 1, by omega⟩
    have hd : n ≤ d := by omega
    unfold eqV at h
    split at h
    · cases h
    · rename_i ds hu
      have hun := run_und hE (w := w) hu
      split at h
      · cases hx; cases hy; simp only [Option.some.injEq] at h; subst h; simp [Op.equalIn, hun]
      · rename_i k a k' b
        cases hx; cases hy
        rw [bcase_eq] at h
        split at h
        · rename_i hk
          have := kEq_iff hk
          subst this
          simp only [Option.some.injEq] at h; subst h
          simp [Op.equalIn, hun, eqI_eq]
        · cases h
      · cases hx with | s _ ba ha => cases hy with | s _ bb hb =>
          simp only [Option.some.injEq] at h; subst h
          subst ha hb
          simp [Op.equalIn, hun, eqL_eq, bytes_beq]
      · cases hx; cases hy; simp only [Option.some.injEq] at h; subst h; simp [Op.equalIn, hun]
      · cases hx; cases hy; simp only [Option.some.injEq] at h; subst h; simp [Op.equalIn, hun]
      · cases hx; cases hy; simp only [Option.some.injEq] at h; subst h; simp [Op.equalIn, hun]
      · rename_i e a i b j
        obtain ⟨pa, ha, rfl⟩ := hx.ptr_inv
        obtain ⟨pb, hb, rfl⟩ := hy.ptr_inv
        split at h
        · rename_i s hs
          have hsz := run_size hE (w := w) hs
          rw [bcase_eq] at h
          split at h
          · rename_i hab
            have hab : a = b := by simpa using hab
            subst hab
            rw [ha] at hb; cases hb
            simp only [Option.some.injEq] at h; subst h
            simp only [Op.equalIn, Sem.run_bind, hun, Result.andThen_ok, hsz]
            simp [sameAddr]
            rw [Bool.eq_iff_iff]; simp
          · rename_i hab
            have hab : a ≠ b := by simpa using hab
            rw [bcase_eq] at h
            split at h
            · rename_i hap
              simp only [Option.some.injEq] at h; subst h
              simp only [Op.equalIn, Sem.run_bind, hun, Result.andThen_ok, hsz]
              simpa using hR.apart_ne hap hab ha hb i j
            · cases h
        · cases h
      · cases hx; cases hy; simp only [Option.some.injEq] at h; subst h; simp [Op.equalIn, hun]
      · cases hx; cases hy; simp only [Option.some.injEq] at h; subst h; simp [Op.equalIn, hun]
      · cases hx; cases hy; simp only [Option.some.injEq] at h; subst h; simp [Op.equalIn, hun]
      · rename_i ms tx vx ty vy
        cases hx with | if_ _ _ c hvx => cases hy with | if_ _ _ c' hvy =>
          rw [bcase_eq] at h
          split at h
          · rename_i htt
            have htt : tx = ty := by simpa using htt
            subst htt
            split at h
            · rename_i i hi
              rw [bcase_eq] at h
              split at h
              · rename_i hc
                have := ih h hvx hvy d hd
                simp [Op.equalIn, hun, run_info hE hi, hc, this]
              · cases h
            · cases h
          · rename_i htt
            have htt : tx ≠ ty := by simpa using htt
            simp only [Option.some.injEq] at h; subst h
            simp [Op.equalIn, hun, htt]
      · rename_i fs xs ys
        cases hx with | ag _ xs' hxs => cases hy with | ag _ ys' hys =>
          split at h
          · rename_i u hpl
            have hst := (hE.plain _ _ hpl).1
            simp only [Op.equalIn, Sem.run_bind, hun, Result.andThen_ok, run_program, hst, Bool.false_eq_true, if_false]
            rw [← Array.forIn_toList]
            rw [forIn_all _ _ fs.toList r ?_ ?_ h]
            · cases r <;> rfl
            · intro f _ hf
              rw [bcase_eq] at hf
              split at hf
              · rename_i hn
                have hn : f.name = "_" := by simpa using hn
                simp [hn]
              · rename_i hn
                have hn : ¬ f.name = "_" := by simpa using hn
                split at hf
                · rename_i a b ha hb
                  obtain ⟨ca, r1, r2⟩ := part_ok hE (w := w) hxs ha
                  obtain ⟨cb, r3, r4⟩ := part_ok hE (w := w) hys hb
                  simp [hn, r2, r4, ih hf r1 r3 d hd]
                · cases hf
            · intro f _ hf
              rw [bcase_eq] at hf
              split at hf
              · cases hf
              · rename_i hn
                have hn : ¬ f.name = "_" := by simpa using hn
                split at hf
                · rename_i a b ha hb
                  obtain ⟨ca, r1, r2⟩ := part_ok hE (w := w) hxs ha
                  obtain ⟨cb, r3, r4⟩ := part_ok hE (w := w) hys hb
                  simp [hn, r2, r4, ih hf r1 r3 d hd]
                · cases hf
          · cases h
      · rename_i len e xs ys
        cases hx with | ag _ xs' hxs => cases hy with | ag _ ys' hys =>
          split at h
          · rename_i s hs
            simp only [Op.equalIn, Sem.run_bind, hun, Result.andThen_ok, run_size hE hs, Std.Legacy.Range.forIn_eq_forIn_range', Std.Legacy.Range.size, Nat.sub_zero, Nat.add_one_sub_one, Nat.div_one, ← List.range_eq_range']
            rw [forIn_all _ _ (List.range len) r ?_ ?_ h]
            · cases r <;> rfl
            all_goals
              intro i _ hf
              split at hf
              · rename_i a b ha hb
                obtain ⟨ca, r1, r2⟩ := part_ok hE (w := w) hxs ha
                obtain ⟨cb, r3, r4⟩ := part_ok hE (w := w) hys hb
                simp [r2, r4, ih hf r1 r3 d hd]
              · cases hf
          · cases h
      · cases hx; cases hy <;> (simp only [Option.some.injEq] at h; subst h; simp [Op.equalIn, hun])
      · cases hy; cases hx <;> (simp only [Option.some.injEq] at h; subst h; simp [Op.equalIn, hun])
      · cases hx; cases hy <;> (simp only [Option.some.injEq] at h; subst h; simp [Op.equalIn, hun])
      · cases hy; cases hx; (simp only [Option.some.injEq] at h; subst h; simp [Op.equalIn, hun])
      · cases hx; cases hy; simp only [Option.some.injEq] at h; subst h; simp [Op.equalIn, hun]
      · cases hx; cases hy; simp only [Option.some.injEq] at h; subst h; simp [Op.equalIn, hun]
      · cases hx; cases hy; simp only [Option.some.injEq] at h; subst h; simp [Op.equalIn, hun]
      · cases h

theorem equal_ok (hR : Rel E.gl ρ σ w) {t : TypeId} {x y : V} {cx cy : Value} {r : Bool} {n : Nat} (hn : n ≤ 10000) (h : eqV E σ n t x y = some r) (hx : Rep ρ x cx) (hy : Rep ρ y cy) :
    (Op.equal t cx cy).run P w = .ok r w := eqV_ok hE hR n h hx hy _ hn
omit hE
end
end Go.AM

/- The abstract machine's operations on values are the model's (3): reading, keys, slices. -/
namespace Go.AM
open Go

section
variable {E : Env} {P : Program} (hE : E.Ok P) {w : World} {ρ : Pm} {σ : St}

theorem run_loadCells_zero (a : Addr) : (loadCells a 0).run P w = .ok #[] w := rfl

include hE
theorem loadAgg_ok (hR : Rel E.gl ρ σ w) {t : TypeId} {s : Nat} {a v : V} {ca : Value} (hg : E.agg t = some true) (hs : E.size t = some s) (ha : Rep ρ a ca)
    (h : loadAgg s a σ = some v) : ∃ c, Rep ρ v c ∧ (Instr.loadAt t ca).run P w = .ok c w := by
  obtain ⟨id, off, rfl, h⟩ := ptr_some h
  obtain ⟨c, el, md, hc, h⟩ := cellsAt_some h
  obtain ⟨hl, h⟩ := rangeK_some h
  simp only [Option.some.injEq] at h
  subst h
  obtain ⟨pl, hp, rfl⟩ := ha.ptr_inv
  by_cases h0 : s = 0
  · subst h0
    refine ⟨.agg #[], .ag _ _ (by simpa using RepL.nil), ?_⟩
    simp [Instr.loadAt, Instr.sureAddr, loadVar, run_agg hE hg, run_size hE hs, run_loadCells_zero]
  · obtain ⟨cs, _, h2, h3⟩ := hR.many (n := s) (off := off) hc (by omega) hp
    refine ⟨.agg cs.toArray, .ag _ _ (by simpa using h2), ?_⟩
    simp [Instr.loadAt, Instr.sureAddr, loadVar, run_agg hE hg, run_size hE hs, h3 P]

theorem loadOne_ok (hR : Rel E.gl ρ σ w) {t : TypeId} {a v : V} {ca : Value} (hg : E.agg t = some false) (ha : Rep ρ a ca)
    (h : loadOne a σ = some v) : ∃ c, Rep ρ v c ∧ (Instr.loadAt t ca).run P w = .ok c w := by
  obtain ⟨id, off, rfl, h⟩ := ptr_some h
  obtain ⟨c, el, md, hc, h⟩ := cellsAt_some h
  rw [nth_eq] at h
  obtain ⟨pl, hp, rfl⟩ := ha.ptr_inv
  obtain ⟨cv, h1, h2⟩ := hR.cell hc h hp
  exact ⟨cv, h2, by simp [Instr.loadAt, Instr.sureAddr, loadVar, run_agg hE hg, h1]⟩
omit hE

/-! ### Keys -/
theorem forIn_yield {α : Type} (f : α → PUnit → Sem (ForInStep PUnit)) : ∀ (l : List α), (∀ x ∈ l, (f x ⟨⟩).run P w = .ok (.yield ⟨⟩) w) → (forIn l PUnit.unit f).run P w = .ok ⟨⟩ w := by
  intro l
  induction l with
  | nil => intro _; rfl
  | cons x xs ih =>
    intro h
    simp only [List.forIn_cons, Sem.run_bind, h x (by simp), Result.andThen_ok]
    exact ih fun y hy => h y (by simp [hy])

include hE
theorem checkKey_ok {t : TypeId} {k : V} {ck : Value} (hk : keyOk E t = true) (hf : keyFits (keyLen E t) k = true) (hr : Rep ρ k ck) (b : Bool) :
    (Instr.checkKey b 10000 t ck).run P w = .ok () w := by
  have base : ∀ (n : Nat) (t : TypeId) (d : TypeDesc) (c : Value), E.und t = some d → (match d with | .interface _ | .array _ _ | .struct _ => false | _ => true) = true → (Instr.checkKey b (n + 1) t c).run P w = .ok () w := by
    intro n t d c hu hd
    have := run_und hE (w := w) hu
    unfold Instr.checkKey
    simp only [Sem.run_bind, this, Result.andThen_ok]
    cases d <;> first | rfl | (simp at hd)
  unfold keyOk at hk
  cases hu : E.und t with
  | none => rw [hu] at hk; simp at hk
  | some d =>
    rw [hu] at hk
    cases d
    case array n e =>
      simp only [keyLen, hu, keyFits] at hf
      cases k <;> simp only [Bool.false_eq_true] at hf
      rename_i cs
      cases hr with | ag _ cs' hcs =>
        have hlen : cs.length = n := by rw [lenL_eq] at hf; simpa using hf
        simp only at hk
        split at hk
        · rename_i k' he hs
          have hun := run_und hE (w := w) hu
          unfold Instr.checkKey
          simp only [Sem.run_bind, hun, Result.andThen_ok, Std.Legacy.Range.forIn_eq_forIn_range', Std.Legacy.Range.size, Nat.sub_zero, Nat.add_one_sub_one, Nat.div_one, ← List.range_eq_range']
          rw [forIn_yield]
          · rfl
          · intro i hi
            have hin : i < n := by simpa using hi
            have hg : E.agg e = some false := by simp [Env.agg, he]
            have hv : cs[i * 1]? = some cs[i] := by simp [hlen, hin]
            obtain ⟨c, _, h2⟩ := partOf_ok hE (w := w) (g := false) hg hs hcs (off := i * 1) (v := cs[i]) (by simp only [partOf, nth_eq]; exact hv)
            simp only [Sem.run_bind, run_size hE hs, Result.andThen_ok, h2, base _ _ _ c he rfl, Sem.run_pure]
        · cases hk
    all_goals first
      | exact base _ _ _ _ hu rfl
      | (simp at hk)

/-- What a look for a key comes to: its place and value, or none. -/
theorem find_ok (hR : Rel E.gl ρ σ w) {t : TypeId} {k : V} {ck : Value} (hk : Rep ρ k ck) {α : Type} {yes : V → Nat → Option α} {no : Option α} {r : α} :
    ∀ {es : List (V × V × Nat)} {es' : List MapEntry} (i : Nat), RepE ρ es es' → findK E σ t k yes no es i = some r →
    ∃ res, (Instr.findAsking t ck es' i).run P w = .ok res w ∧
      ((res = none ∧ no = some r) ∨ ∃ j v cv, res = some (i + j, cv) ∧ Rep ρ v cv ∧ yes v (i + j) = some r ∧ (es.map fun e => e.2.1)[j]? = some v ∧ (∃ e, es'[j]? = some e ∧ e.val = cv ∧ (Op.equal t ck e.key).run P w = .ok true w)) := by
  intro es
  induction es with
  | nil => intro es' i he h; cases he; exact ⟨none, rfl, .inl ⟨rfl, h⟩⟩
  | cons e es ih =>
    intro es' i he h
    cases he with | cons k' v n e' _ es'' hk' hv hn hes =>
      unfold findK at h
      simp only at h
      split at h
      · rename_i hq
        have he := equal_ok hE hR (by omega) hq hk hk'
        refine ⟨some (i, e'.val), by simp [Instr.findAsking, he], .inr ⟨0, v, e'.val, by simp, hv, by simpa using h, by simp, e', by simp, rfl, he⟩⟩
      · rename_i hq
        have he := equal_ok hE hR (by omega) hq hk hk'
        obtain ⟨res, h1, h2⟩ := ih (i + 1) hes h
        refine ⟨res, by simp [Instr.findAsking, he, h1], ?_⟩
        rcases h2 with ⟨a, b⟩ | ⟨j, v', cv, a, b, c, d, f⟩
        · exact .inl ⟨a, b⟩
        · exact .inr ⟨j + 1, v', cv, by rw [a]; congr 2; omega, b, by rw [show i + (j + 1) = i + 1 + j by omega]; exact c, by simpa using d, by simpa using f⟩
      · cases h

/-- The quick look agrees. -/
theorem findNow_ok (hR : Rel E.gl ρ σ w) {t : TypeId} {d : TypeDesc} (hu : E.und t = some d) {k : V} {ck : Value} (hk : Rep ρ k ck) {α : Type} {yes : V → Nat → Option α} {no : Option α} {r : α} :
    ∀ {es : List (V × V × Nat)} {es' : List MapEntry} (i : Nat), RepE ρ es es' → findK E σ t k yes no es i = some r →
    ∀ q, Instr.findNow d ck es' i = some q → (Instr.findAsking t ck es' i).run P w = .ok q w := by
  intro es
  induction es with
  | nil => intro es' i he _ q hq; cases he; simp only [Instr.findNow, Option.some.injEq] at hq; subst hq; rfl
  | cons e es ih =>
    intro es' i he h q hq
    cases he with | cons k' v n e' _ es'' hk' hv hn hes =>
      unfold findK at h
      simp only at h
      have same : ∀ b, Instr.sameNow d ck e'.key = some b → ∀ b', eqV E σ 3 t k k' = some b' → b = b' := by
        intro b hb b' hb'
        have h1 := equal_ok hE hR (by omega) hb' hk hk'
        unfold Op.equal Op.maxDepth Op.equalIn at h1
        simp only [Sem.run_bind, run_und hE (w := w) hu, Result.andThen_ok] at h1
        unfold Instr.sameNow at hb
        split at hb
        · split at hb
          · simp_all
          · cases hb
        · simp_all
        · simp_all
        · cases hb
      unfold Instr.findNow at hq
      split at h
      · rename_i hqe
        have he := equal_ok hE hR (by omega) hqe hk hk'
        split at hq
        · simp only [Option.some.injEq] at hq; subst hq; simp [Instr.findAsking, he]
        · rename_i hs; have := same _ hs _ hqe; cases this
        · cases hq
      · rename_i hqe
        have he := equal_ok hE hR (by omega) hqe hk hk'
        split at hq
        · rename_i hs; have := same _ hs _ hqe; cases this
        · have := ih (i + 1) hes h q hq; simp [Instr.findAsking, he, this]
        · cases hq
      · cases h

theorem findKey_ok (hR : Rel E.gl ρ σ w) {t : TypeId} (ht : keyOk E t = true) {k : V} {ck : Value} (hk : Rep ρ k ck) {α : Type} {yes : V → Nat → Option α} {no : Option α} {r : α}
    {es : List (V × V × Nat)} {es' : List MapEntry} (he : RepE ρ es es') (h : findK E σ t k yes no es 0 = some r) :
    ∃ res, (Instr.findKey t ck es').run P w = .ok res w ∧
      ((res = none ∧ no = some r) ∨ ∃ j v cv, res = some (j, cv) ∧ Rep ρ v cv ∧ yes v j = some r ∧ (es.map fun e => e.2.1)[j]? = some v ∧ (∃ e, es'[j]? = some e ∧ e.val = cv ∧ (Op.equal t ck e.key).run P w = .ok true w)) := by
  obtain ⟨res, h1, h2⟩ := find_ok hE hR hk 0 he h
  have hu : ∃ d, E.und t = some d := by
    unfold keyOk at ht
    cases hu : E.und t with
    | none => rw [hu] at ht; simp at ht
    | some d => exact ⟨d, rfl⟩
  obtain ⟨d, hu⟩ := hu
  refine ⟨res, ?_, by simpa using h2⟩
  unfold Instr.findKey
  simp only [Sem.run_bind, run_und hE hu, Result.andThen_ok]
  cases hq : Instr.findNow d ck es' 0 with
  | none => exact h1
  | some q =>
    have := findNow_ok hE hR hu hk 0 he h q hq
    rw [h1] at this
    cases this
    rfl
omit hE
end
end Go.AM

/- The abstract machine's operations on values are the model's (4): maps, slices, conversions, addresses. -/
namespace Go.AM
open Go

section
variable {E : Env} {P : Program} (hE : E.Ok P) {w : World} {ρ : Pm} {σ : St}

theorem mapAt_some {α : Type} {m : V} {k : List (V × V × Nat) → Nat → Option α} {r : α} (h : mapAt σ m k = some r) :
    (m = .m none ∧ k [] 0 = some r) ∨ ∃ id es c, m = .m (some id) ∧ σ.get id = some (.map es c) ∧ k es c = some r := by
  unfold mapAt at h
  split at h
  · split at h
    · exact .inl ⟨rfl, h⟩
    · split at h
      · rename_i hb
        split at h
        · exact .inr ⟨_, _, _, rfl, hb, h⟩
        · cases h
      · cases h
  · cases h

theorem Rel.map (hR : Rel E.gl ρ σ w) {id : Nat} {es : List (V × V × Nat)} {c : Nat} (h : σ.get id = some (.map es c)) :
    ∃ pl es', ρ id = some pl ∧ w.heap[pl.blk]? = some (.map es' c) ∧ RepE ρ es es'.toList := by
  obtain ⟨pl, o, h1, h2, h3⟩ := hR.blk _ _ h
  cases h3 with | map _ _ _ es' he => exact ⟨pl, es', h1, h2, he⟩

theorem run_getObj_map {r : Nat} {es : Array MapEntry} {c : Nat} (h : w.heap[r]? = some (.map es c)) : (getObj r).run P w = .ok (.map es c) w := by
  simp [getObj, Sem.run, h]

include hE
theorem lookV_ok (hR : Rel E.gl ρ σ w) {t kt et : TypeId} {z m k v : V} {ok : Bool} {cm ck : Value} (hu : E.und t = some (.map kt et)) (hk : keyOk E kt = true) (hz : E.zero et = some z)
    (hm : Rep ρ m cm) (hck : Rep ρ k ck) (h : lookV E kt z ok m k σ = some v) : ∃ c, Rep ρ v c ∧ (Instr.lookup t cm ck ok).run P w = .ok c w := by
  unfold lookV at h
  rw [bcase_eq] at h
  split at h
  · rename_i hf
    obtain ⟨cz, hz1, hz2⟩ := run_zero hE (w := w) hz
    have key : ∀ (es : List (V × V × Nat)) (es' : Array MapEntry), RepE ρ es es'.toList →
        findK E σ kt k (fun v _ => some (bcase ok (.tu [v, .b true]) v)) (some (bcase ok (.tu [z, .b false]) z)) es 0 = some v →
        ∃ c, Rep ρ v c ∧ ((do
          Instr.checkKey es'.isEmpty 10000 kt ck
          let (v, b) ← match ← Instr.findKey kt ck es'.toList with
            | some (_, v) => pure (v, true)
            | none => pure (← zeroValue et, false)
          pure (if ok then Value.tuple #[v, .bool b] else v)) : Sem Value).run P w = .ok c w := by
      intro es es' he h
      obtain ⟨res, h1, h2⟩ := findKey_ok hE hR hk hck he h
      simp only [Sem.run_bind, checkKey_ok hE hk hf hck, Result.andThen_ok, h1]
      rcases h2 with ⟨rfl, h2⟩ | ⟨j, v', cv, rfl, h3, h4, _, _⟩
      · simp only [Option.some.injEq] at h2
        subst h2
        cases ok
        · exact ⟨cz, hz1 ρ, by simp [hz2]⟩
        · exact ⟨.tuple #[cz, .bool false], .tu _ _ (.cons _ _ _ _ (hz1 ρ) (.cons _ _ _ _ (.b _) .nil)), by simp [hz2]⟩
      · simp only [Option.some.injEq] at h4
        subst h4
        cases ok
        · exact ⟨cv, h3, by simp⟩
        · exact ⟨.tuple #[cv, .bool true], .tu _ _ (.cons _ _ _ _ h3 (.cons _ _ _ _ (.b _) .nil)), by simp⟩
    rcases mapAt_some h with ⟨rfl, h⟩ | ⟨id, es, c, rfl, hg, h⟩
    · cases hm
      obtain ⟨c, h1, h2⟩ := key [] #[] .nil h
      refine ⟨c, h1, ?_⟩
      rw [← h2]
      simp only [Instr.lookup, Sem.run_bind, run_und hE hu, Result.andThen_ok, Sem.run_pure]
      rfl
    · cases hm with | m _ pl hp =>
        obtain ⟨pl', es', h1, h2, h3⟩ := hR.map hg
        rw [hp] at h1; cases h1
        obtain ⟨c', h4, h5⟩ := key es es' h3 h
        refine ⟨c', h4, ?_⟩
        rw [← h5]
        simp only [Instr.lookup, Sem.run_bind, run_und hE hu, Result.andThen_ok, run_getObj_map h2, Sem.run_pure]
        rfl
  · cases h
omit hE

/-! ### Bounds of slices -/
/-- An optional operand and its value. -/
inductive RepO (ρ : Pm) : Option V → Option Value → Prop
  | none : RepO ρ none none
  | some (v : V) (c : Value) (h : Rep ρ v c) : RepO ρ (some v) (some c)

theorem bnd_some {α : Type} {v : Option V} {d : Nat} {k : Nat → Option α} {r : α} (h : bnd v d k = some r) :
    (v = none ∧ k d = some r) ∨ ∃ t n, v = some (.i t (.ofNat n)) ∧ k n = some r := by
  unfold bnd at h
  split at h
  · exact .inl ⟨rfl, h⟩
  · split at h
    · split at h
      · exact .inr ⟨_, _, rfl, h⟩
      · cases h
    · cases h

theorem sliceBound_ok {t : IntKind} {n y : Nat} {code : BoundsCode} (h : n ≤ y) : (Instr.sliceBound (.int t (n : Int)) y code).run P w = .ok n w := by
  have : (0 : Int) ≤ n ∧ (n : Int) ≤ y := by omega
  simp [Instr.sliceBound, asIntOf, this]

/-- What the bounds of a slice expression come to. -/
theorem sliceBounds_ok {isSlice : Bool} {len cap : Nat} {lo hi mx : Option V} {clo chi cmx : Option Value} (hlo : RepO ρ lo clo) (hhi : RepO ρ hi chi) (hmx : RepO ρ mx cmx) {m h b : Nat}
    (em : (mx = none ∧ m = cap) ∨ ∃ t, mx = some (.i t (.ofNat m))) (eh : (hi = none ∧ h = len) ∨ ∃ t, hi = some (.i t (.ofNat h))) (el : (lo = none ∧ b = 0) ∨ ∃ t, lo = some (.i t (.ofNat b)))
    (h1 : m ≤ cap) (h2 : h ≤ m) (h3 : b ≤ h) (h4 : mx = none ∨ hi ≠ none) :
    (Instr.sliceBounds isSlice len cap clo chi cmx).run P w = .ok (b, h, m) w := by
  unfold Instr.sliceBounds
  rcases em with ⟨rfl, rfl⟩ | ⟨tm, rfl⟩
  · cases hmx
    rcases eh with ⟨rfl, rfl⟩ | ⟨th, rfl⟩
    · cases hhi
      rcases el with ⟨rfl, rfl⟩ | ⟨tl, rfl⟩
      · cases hlo; rfl
      · cases hlo with | some _ c hc => cases hc; simp [Int.ofNat_eq_natCast, sliceBound_ok h3]
    · cases hhi with | some _ c hc =>
        cases hc
        rcases el with ⟨rfl, rfl⟩ | ⟨tl, rfl⟩
        · cases hlo; simp [Int.ofNat_eq_natCast, sliceBound_ok h2]
        · cases hlo with | some _ c hc => cases hc; simp [Int.ofNat_eq_natCast, sliceBound_ok h2, sliceBound_ok h3]
  · cases hmx with | some _ c hc =>
      cases hc
      rcases eh with ⟨rfl, rfl⟩ | ⟨th, rfl⟩
      · rcases h4 with h4 | h4
        · cases h4
        · exact absurd rfl h4
      · cases hhi with | some _ c hc =>
          cases hc
          rcases el with ⟨rfl, rfl⟩ | ⟨tl, rfl⟩
          · cases hlo; simp [Int.ofNat_eq_natCast, sliceBound_ok h1, sliceBound_ok h2]
          · cases hlo with | some _ c hc => cases hc; simp [Int.ofNat_eq_natCast, sliceBound_ok h1, sliceBound_ok h2, sliceBound_ok h3]

theorem nat3_eq (a : Option (Nat × Nat)) (len : Nat) (c : Cap) : nat3 a len c = some (.sl a len c) := by
  cases c <;> simp [nat3, forceN_eq]
theorem retSl_eq (id off len : Nat) (c : Cap) : retSl id off len c = some (.sl (some (id, off)) len c) := by simp [retSl, forceN_eq, nat3_eq]
theorem retP_eq (id off : Nat) : retP id off = some (.p (some (id, off))) := by simp [retP, forceN_eq]

theorem add_addr (b o n : Nat) : (⟨b, o, none⟩ : Addr).add n = ⟨b, o + n, none⟩ := by unfold Addr.add; split <;> simp_all

theorem isNone_or {α β : Type} {a : Option α} {b : Option β} (h : (a.isNone || b.isSome) = true) : a = none ∨ b ≠ none := by
  cases a <;> cases b <;> simp_all

theorem bnd_form {v : Option V} {d n : Nat} {t : IntKind} (_ : t = t) (h : (v = none ∧ n = d) ∨ v = some (.i t (.ofNat n))) : (v = none ∧ n = d) ∨ ∃ t, v = some (.i t (.ofNat n)) :=
  h.imp id fun h => ⟨t, h⟩

/-- All three bounds. -/
theorem bnds {lo hi mx : Option V} {len cap : Nat} {α : Type} {f : Nat → Nat → Nat → Option α} {r : α} (h : (bnd mx cap fun m => bnd hi len fun h => bnd lo 0 fun b => f m h b) = some r) :
    ∃ m h b, ((mx = none ∧ m = cap) ∨ ∃ t, mx = some (.i t (.ofNat m))) ∧ ((hi = none ∧ h = len) ∨ ∃ t, hi = some (.i t (.ofNat h))) ∧ ((lo = none ∧ b = 0) ∨ ∃ t, lo = some (.i t (.ofNat b))) ∧ f m h b = some r := by
  rcases bnd_some h with ⟨e1, h⟩ | ⟨t1, m, e1, h⟩ <;> rcases bnd_some h with ⟨e2, h⟩ | ⟨t2, hh, e2, h⟩ <;> rcases bnd_some h with ⟨e3, h⟩ | ⟨t3, b, e3, h⟩
  · exact ⟨_, _, _, .inl ⟨e1, rfl⟩, .inl ⟨e2, rfl⟩, .inl ⟨e3, rfl⟩, h⟩
  · exact ⟨_, _, _, .inl ⟨e1, rfl⟩, .inl ⟨e2, rfl⟩, .inr ⟨_, e3⟩, h⟩
  · exact ⟨_, _, _, .inl ⟨e1, rfl⟩, .inr ⟨_, e2⟩, .inl ⟨e3, rfl⟩, h⟩
  · exact ⟨_, _, _, .inl ⟨e1, rfl⟩, .inr ⟨_, e2⟩, .inr ⟨_, e3⟩, h⟩
  · exact ⟨_, _, _, .inr ⟨_, e1⟩, .inl ⟨e2, rfl⟩, .inl ⟨e3, rfl⟩, h⟩
  · exact ⟨_, _, _, .inr ⟨_, e1⟩, .inl ⟨e2, rfl⟩, .inr ⟨_, e3⟩, h⟩
  · exact ⟨_, _, _, .inr ⟨_, e1⟩, .inr ⟨_, e2⟩, .inl ⟨e3, rfl⟩, h⟩
  · exact ⟨_, _, _, .inr ⟨_, e1⟩, .inr ⟨_, e2⟩, .inr ⟨_, e3⟩, h⟩

/-- A slice of a known capacity, cut. -/
theorem sliceEx_ok {s : Nat} {lo hi mx : Option V} {clo chi cmx : Option Value} (hlo : RepO ρ lo clo) (hhi : RepO ρ hi chi) (hmx : RepO ρ mx cmx) {a : Option (Nat × Nat)} {len c : Nat} {v : V}
    (h : sliceEx s lo hi mx a len c = some v) : ∃ b h m, (∀ isSlice (P : Program) (w : World), (Instr.sliceBounds isSlice len c clo chi cmx).run P w = .ok (b, h, m) w) ∧ b ≤ h ∧ h ≤ m ∧ m ≤ c ∧
      v = .sl (a.map fun p => (p.1, if m = b then p.2 else p.2 + b * s)) (h - b) (.ex (m - b)) := by
  obtain ⟨m, hh, b, e1, e2, e3, h⟩ := bnds h
  rw [bcase_eq] at h
  split at h
  · rename_i hc
    simp only [Bool.and_eq_true, Nat.ble_eq] at hc
    obtain ⟨⟨⟨c1, c2⟩, c3⟩, c4⟩ := hc
    refine ⟨b, hh, m, fun _ _ _ => sliceBounds_ok hlo hhi hmx e1 e2 e3 c1 c2 c3 (isNone_or c4), c3, c2, c1, ?_⟩
    unfold cutEx at h
    cases a with
    | none => rw [nat3_eq] at h; cases h; rfl
    | some p =>
      simp only [retSl_eq, bcase_eq, Option.some.injEq] at h
      rw [← h]
      simp only [Nat.beq_eq, Option.map_some]
  · cases h

include hE
/-- A slice expression on a slice. -/
theorem sliceSl_ok {t e : TypeId} {s : Nat} {lo hi mx : Option V} {clo chi cmx : Option Value} (hlo : RepO ρ lo clo) (hhi : RepO ρ hi chi) (hmx : RepO ρ mx cmx) {x v : V} {cx : Value} (hx : Rep ρ x cx)
    (hu : E.und t = some (.slice e)) (hs : E.size e = some s) (h : sliceSl s lo hi mx x = some v) : ∃ c, Rep ρ v c ∧ (Instr.slice t cx clo chi cmx).run P w = .ok c w := by
  unfold sliceSl at h
  split at h
  · split at h
    · rename_i a len cap c
      obtain ⟨b, hh, m, h1, h2, h3, h4, rfl⟩ := sliceEx_ok hlo hhi hmx h
      cases hx with
      | sn _ _ =>
        refine ⟨.slice none (hh - b) (m - b), .sn _ _, ?_⟩
        simp only [Instr.slice, Sem.run_bind, run_und hE hu, Result.andThen_ok, h1 true P w, run_size hE hs, Sem.run_pure, Option.map_none, ite_self]
      | se id off _ _ pl hp =>
        refine ⟨.slice (some ⟨pl.blk, pl.base + (if m = b then off else off + b * s), none⟩) (hh - b) (m - b), .se _ _ _ _ _ hp, ?_⟩
        simp only [Instr.slice, Sem.run_bind, run_und hE hu, Result.andThen_ok, h1 true P w, run_size hE hs, Sem.run_pure, Option.map_some, add_addr]
        by_cases hmb : m = b <;> simp [hmb, Nat.add_assoc]
    · rename_i a len cap d
      unfold sliceOp at h
      split at h
      · cases h
      · rename_i p
        split at h
        · -- no third bound
          rename_i e0
          have hmx0 := hmx
          cases hmx0
          have key : ∀ (capc : Nat), len ≤ capc → ∃ b h, (∀ isSlice, (Instr.sliceBounds isSlice len capc clo chi none).run P w = .ok (b, h, capc) w) ∧ b ≤ h ∧ h ≤ len ∧ v = .sl (some (p.1, p.2 + b * s)) (h - b) (.op (d + b)) := by
            intro capc hcl
            rcases bnd_some h with ⟨e2, h⟩ | ⟨t2, hh, e2, h⟩ <;> rcases bnd_some h with ⟨e3, h⟩ | ⟨t3, b, e3, h⟩
            all_goals
              rw [bcase_eq] at h
              split at h
              · rename_i hc
                simp only [Bool.and_eq_true, Nat.ble_eq] at hc
                rw [retSl_eq] at h
                cases h
                refine ⟨_, _, fun isS => sliceBounds_ok (lo := lo) (hi := hi) (mx := none) hlo hhi .none (.inl ⟨rfl, rfl⟩) ?_ ?_ (Nat.le_refl _) (Nat.le_trans hc.1 hcl) hc.2 (.inl rfl), hc.2, hc.1, rfl⟩
                · first | exact .inl ⟨e2, rfl⟩ | exact .inr ⟨_, e2⟩
                · first | exact .inl ⟨e3, rfl⟩ | exact .inr ⟨_, e3⟩
              · cases h
          obtain ⟨id, off⟩ := p
          cases hx with
          | so _ _ _ _ pl hp hd =>
            obtain ⟨b, hh, h1, h2, h3, rfl⟩ := key (pl.cap - d) (by omega)
            by_cases hz : pl.cap - d = b
            · have : hh - b = 0 := by omega
              rw [this]
              refine ⟨.slice (some ⟨pl.blk, pl.base + off, none⟩) 0 0, .sz _ _ _ pl _ hp (by omega), ?_⟩
              rw [hz] at h1
              simp only [Instr.slice, Sem.run_bind, run_und hE hu, Result.andThen_ok, hz, h1 true, run_size hE hs, Sem.run_pure, if_true, this, Nat.sub_self]
            · refine ⟨.slice (some ⟨pl.blk, pl.base + (off + b * s), none⟩) (hh - b) (pl.cap - (d + b)), .so _ _ _ _ pl hp (by omega), ?_⟩
              simp only [Instr.slice, Sem.run_bind, run_und hE hu, Result.andThen_ok, h1 true, run_size hE hs, Sem.run_pure, hz, if_false, Option.map_some, add_addr, Nat.add_assoc, Nat.sub_sub]
          | sz _ _ _ pl a hp hd =>
            obtain ⟨b, hh, h1, h2, h3, rfl⟩ := key 0 (by omega)
            have hb : b = 0 := by omega
            have hh0 : hh = 0 := by omega
            subst hb hh0
            refine ⟨.slice (some a) 0 0, ?_, ?_⟩
            · simpa using Rep.sz _ _ _ pl a hp hd
            · simp only [Instr.slice, Sem.run_bind, run_und hE hu, Result.andThen_ok, h1 true, run_size hE hs, Sem.run_pure, if_true, Nat.sub_self]
        · rename_i m0
          obtain ⟨m, hh, b, e1, e2, e3, h⟩ := bnds h
          rw [bcase_eq] at h
          split at h
          · rename_i hc
            simp only [Bool.and_eq_true, Nat.ble_eq, Nat.blt_eq] at hc
            obtain ⟨⟨⟨⟨c1, c2⟩, c3⟩, c4⟩, c5⟩ := hc
            have e1' : ∃ t, some m0 = some (V.i t (.ofNat m)) := by
              rcases e1 with ⟨e1, _⟩ | e1
              · cases e1
              · exact e1
            obtain ⟨id, off⟩ := p
            cases hx with
            | so _ _ _ _ pl hp hd =>
              have h1 : ∀ isS, (Instr.sliceBounds isS len (pl.cap - d) clo chi cmx).run P w = .ok (b, hh, m) w := fun isS =>
                sliceBounds_ok hlo hhi hmx (.inr e1') e2 e3 (by omega) c2 c3 (.inr (by cases hi <;> simp_all))
              simp only [cutEx, retSl_eq, bcase_eq, Option.some.injEq] at h
              rw [← h]
              simp only [Nat.beq_eq]
              refine ⟨.slice (some ⟨pl.blk, pl.base + (if m = b then off else off + b * s), none⟩) (hh - b) (m - b), .se _ _ _ _ _ hp, ?_⟩
              simp only [Instr.slice, Sem.run_bind, run_und hE hu, Result.andThen_ok, h1 true, run_size hE hs, Sem.run_pure, Option.map_some, add_addr]
              by_cases hmb : m = b <;> simp [hmb, Nat.add_assoc]
            | sz _ _ _ pl a hp hd => omega
          · cases h
  · cases h

theorem sliceArr_ok {e : TypeId} {n s : Nat} {lo hi mx : Option V} {clo chi cmx : Option Value} (hlo : RepO ρ lo clo) (hhi : RepO ρ hi chi) (hmx : RepO ρ mx cmx) {x v : V} {cx : Value} (hx : Rep ρ x cx)
    (hs : E.size e = some s) (h : sliceArr n s lo hi mx x = some v) : ∃ c, Rep ρ v c ∧ (∀ t, E.und t = some (.array n e) → (Instr.sliceAt t cx clo chi cmx).run P w = .ok c w) ∧
      (∀ t arr, E.und t = some (.pointer arr) → E.und arr = some (.array n e) → (Instr.sliceAt t cx clo chi cmx).run P w = .ok c w) := by
  obtain ⟨id, off, rfl, h⟩ := ptr_some h
  obtain ⟨pl, hp, rfl⟩ := hx.ptr_inv
  obtain ⟨b, hh, m, h1, h2, h3, h4, rfl⟩ := sliceEx_ok hlo hhi hmx h
  refine ⟨.slice (some ⟨pl.blk, pl.base + (if m = b then off else off + b * s), none⟩) (hh - b) (m - b), .se _ _ _ _ _ hp, ?_, ?_⟩
  · intro t hu
    simp only [Instr.sliceAt, Sem.run_bind, run_und hE hu, Result.andThen_ok, Instr.sureAddr, h1 false P w, run_size hE hs, Sem.run_pure, add_addr]
    by_cases hmb : m = b <;> simp [hmb, Nat.add_assoc]
  · intro t arr hu ha
    simp only [Instr.sliceAt, Instr.slice, asAddr, Sem.run_bind, run_und hE hu, run_und hE ha, Result.andThen_ok, h1 false P w, run_size hE hs, Sem.run_pure, add_addr]
    by_cases hmb : m = b <;> simp [hmb, Nat.add_assoc]

theorem sliceV_ok {t : TypeId} {lo hi mx : Option V} {clo chi cmx : Option Value} (hlo : RepO ρ lo clo) (hhi : RepO ρ hi chi) (hmx : RepO ρ mx cmx) {x v : V} {cx : Value} (hx : Rep ρ x cx)
    (h : sliceV E t lo hi mx x = some v) : ∃ c, Rep ρ v c ∧ (Instr.sliceAt t cx clo chi cmx).run P w = .ok c w := by
  unfold sliceV at h
  split at h
  · rename_i hu
    split at h
    · split at h
      · cases hmx
        rename_i l
        cases hx with | s _ ba hb =>
          unfold sliceStr at h
          have hlen : ba.size = l.length := by rw [← hb]; simp
          have key : ∃ b hh, (∀ isS, (Instr.sliceBounds isS ba.size ba.size clo chi none).run P w = .ok (b, hh, ba.size) w) ∧ b ≤ hh ∧ hh ≤ ba.size ∧ v = .s ((l.take hh).drop b) := by
            rcases bnd_some h with ⟨e2, h⟩ | ⟨t2, hh, e2, h⟩ <;> rcases bnd_some h with ⟨e3, h⟩ | ⟨t3, b, e3, h⟩
            all_goals
              rw [bcase_eq] at h
              split at h
              · rename_i hc
                simp only [Bool.and_eq_true, Nat.ble_eq] at hc
                rw [forceL_eq] at h
                cases h
                refine ⟨_, _, fun isS => sliceBounds_ok (lo := lo) (hi := hi) (mx := none) hlo hhi .none (.inl ⟨rfl, rfl⟩) ?_ ?_ (Nat.le_refl _) ?_ hc.2 (.inl rfl), hc.2, ?_, rfl⟩
                · first | exact .inl ⟨e2, hlen.symm⟩ | exact .inr ⟨_, e2⟩
                · first | exact .inl ⟨e3, rfl⟩ | exact .inr ⟨_, e3⟩
                · rw [hlen]; exact hc.1
                · rw [hlen]; exact hc.1
              · cases h
          obtain ⟨b, hh, h1, h2, h3, rfl⟩ := key
          refine ⟨.string (ba.extract b hh), .s _ _ ?_, ?_⟩
          · rw [ByteArray.data_extract, Array.toList_extract, List.extract_eq_take_drop, ← hb]
            simp only [List.map_take, List.map_drop]
            rw [List.drop_take]
          · simp only [Instr.sliceAt, Instr.slice, Sem.run_bind, run_und hE hu, Result.andThen_ok, h1 false, Sem.run_pure, Option.isSome_none, Bool.false_eq_true, if_false]
      · cases h
    · cases h
  · rename_i e hu
    split at h
    · rename_i s hs
      obtain ⟨c, h1, h2⟩ := sliceSl_ok hE hlo hhi hmx hx hu hs h
      refine ⟨c, h1, ?_⟩
      rw [← h2]
      simp only [Instr.sliceAt, Sem.run_bind, run_und hE hu, Result.andThen_ok]
    · cases h
  · rename_i n e hu
    split at h
    · rename_i s hs
      obtain ⟨c, h1, h2, _⟩ := sliceArr_ok hE hlo hhi hmx hx hs h
      exact ⟨c, h1, h2 _ hu⟩
    · cases h
  · rename_i arr hu
    split at h
    · rename_i n e ha
      split at h
      · rename_i s hs
        obtain ⟨c, h1, _, h2⟩ := sliceArr_ok hE hlo hhi hmx hx hs h
        exact ⟨c, h1, h2 _ _ hu ha⟩
      · cases h
    · cases h
  · cases h
omit hE
end
end Go.AM

/- The abstract machine's operations on values are the model's (5): conversions, addresses, building. -/
namespace Go.AM
open Go

section
variable {E : Env} {P : Program} (hE : E.Ok P) {w : World} {ρ : Pm} {σ : St}

/-! ### Slices' cells, bytes -/
theorem sliceCells_ok (hR : Rel E.gl ρ σ w) {size n len : Nat} {a : Option (Nat × Nat)} {c : Cap} {cx : Value} {α : Type} {k : List V → Option α} {r : α} (hx : Rep ρ (.sl a len c) cx) (hn : n ≤ len)
    (h : sliceCells σ size n (.sl a len c) k = some r) : ∃ vs cs, RepL ρ vs cs ∧ k vs = some r ∧ cs.length = n * size ∧
      (∀ ca l cp, cx = .slice (some ca) l cp → ∀ P : Program, (loadCells ca (n * size)).run P w = .ok cs.toArray w) ∧ (∀ l cp, cx = .slice none l cp → n = 0 ∧ cs = []) := by
  unfold sliceCells at h
  cases a with
  | none =>
    simp only [bcase_eq] at h
    split at h
    · rename_i h0
      have h0 : n = 0 := by simpa using h0
      subst h0
      refine ⟨[], [], .nil, h, by simp, fun ca l cp e P => ?_, fun l cp e => ⟨rfl, rfl⟩⟩
      cases hx; cases e
    · cases h
  | some p =>
    simp only [bcase_eq] at h
    split at h
    · rename_i h0
      have h0 : n * size = 0 := by simpa using h0
      refine ⟨[], [], .nil, h, by simp [h0], fun ca l cp e P => by rw [h0]; rfl, fun l cp e => ?_⟩
      cases hx <;> cases e
    · rename_i h0
      have h0 : ¬ n * size = 0 := by simpa using h0
      obtain ⟨c', el, md, hc, h⟩ := cellsAt_some h
      obtain ⟨hl, h⟩ := rangeK_some h
      obtain ⟨id, off⟩ := p
      have main : ∀ pl, ρ id = some pl → ∃ vs cs, RepL ρ vs cs ∧ k vs = some r ∧ cs.length = n * size ∧ ∀ P : Program, (loadCells ⟨pl.blk, pl.base + off, none⟩ (n * size)).run P w = .ok cs.toArray w := by
        intro pl hp
        obtain ⟨cs, h1, h2, h3⟩ := hR.many (off := off) (n := n * size) hc (by simp only at hl; omega) hp
        exact ⟨_, cs, h2, h, h1, h3⟩
      cases hx with
      | se _ _ _ _ pl hp =>
        obtain ⟨vs, cs, h1, h2, h3, h4⟩ := main pl hp
        exact ⟨vs, cs, h1, h2, h3, fun ca l cp e P => by cases e; exact h4 P, fun l cp e => by cases e⟩
      | so _ _ _ _ pl hp hd =>
        obtain ⟨vs, cs, h1, h2, h3, h4⟩ := main pl hp
        exact ⟨vs, cs, h1, h2, h3, fun ca l cp e P => by cases e; exact h4 P, fun l cp e => by cases e⟩
      | sz _ _ _ pl a hp hd =>
        have : n = 0 := by omega
        subst this
        simp at h0

theorem bytesOfL_some {α : Type} {cs : List V} : ∀ {k : List Nat → Option α} {r : α}, bytesOfL cs k = some r → ∃ l : List Nat, cs = l.map (fun b => V.i .u8 (.ofNat b)) ∧ (∀ b ∈ l, b < 256) ∧ k l = some r := by
  induction cs with
  | nil => intro k r h; exact ⟨[], rfl, by simp, h⟩
  | cons x xs ih =>
    intro k r h
    unfold bytesOfL at h
    split at h
    · split at h
      · rw [bcase_eq] at h
        split at h
        · rename_i hc
          simp only [Bool.and_eq_true, Nat.blt_eq] at hc
          have := kEq_iff hc.1
          subst this
          obtain ⟨l, h1, h2, h3⟩ := ih h
          exact ⟨_ :: l, by simp [h1], by simpa using ⟨hc.2, h2⟩, h3⟩
        · cases h
      · cases h
    · cases h

theorem RepL.bytes {l : List Nat} : ∀ {cs : List Value}, RepL ρ (l.map fun b => V.i .u8 (.ofNat b)) cs → cs = l.map fun b => Value.int .u8 (.ofNat b) := by
  induction l with
  | nil => intro cs h; cases h; rfl
  | cons b l ih => intro cs h; cases h with | cons _ c _ cs hv hs => cases hv; rw [ih hs]; rfl

theorem forIn_bytes : ∀ (l : List Nat) (s : ByteArray), (forIn (l.map fun b => Value.int .u8 (.ofNat b)) s fun c s => (match c with | .int .u8 n => pure (ForInStep.yield (s.push (UInt8.ofNat n.toNat))) | _ => do stuck "bytesToString: byte expected"; pure (ForInStep.yield s) : Sem (ForInStep ByteArray))).run P w =
    .ok (l.foldl (fun s b => s.push (UInt8.ofNat b)) s) w := by
  intro l
  induction l with
  | nil => intro s; rfl
  | cons b l ih =>
    intro s
    simp only [List.map_cons, List.forIn_cons, Sem.run_bind, Sem.run_pure, Result.andThen_ok, List.foldl_cons, Int.ofNat_eq_natCast, Int.toNat_natCast]
    exact ih _

theorem foldl_push (l : List Nat) : ∀ (s : ByteArray), (l.foldl (fun s b => s.push (UInt8.ofNat b)) s).data.toList = s.data.toList ++ l.map UInt8.ofNat := by
  induction l with
  | nil => intro s; simp
  | cons b l ih => intro s; simp only [List.foldl_cons, ih, List.map_cons]; simp

theorem bytes_back (l : List Nat) (h : ∀ b ∈ l, b < 256) : (l.map UInt8.ofNat).map UInt8.toNat = l := by
  induction l with
  | nil => rfl
  | cons b l ih =>
    simp only [List.map_cons]
    rw [ih fun x hx => h x (by simp [hx])]
    have := h b (by simp)
    simp [UInt8.toNat_ofNat', Nat.mod_eq_of_lt this]

theorem bytesToStr_ok (hR : Rel E.gl ρ σ w) {x v : V} {cx : Value} (hx : Rep ρ x cx) (h : bytesToStr σ x = some v) : ∃ c, Rep ρ v c ∧ (Conv.bytesToString cx).run P w = .ok c w := by
  unfold bytesToStr at h
  split at h
  · rename_i a len c
    split at h
    · rw [bcase_eq] at h
      split at h
      · simp only [Option.some.injEq] at h
        subst h
        cases hx
        exact ⟨.string .empty, .s _ _ (by simp), rfl⟩
      · cases h
    · rename_i p
      obtain ⟨vs, cs, h1, h2, h3, h4, h5⟩ := sliceCells_ok hR hx (Nat.le_refl _) h
      obtain ⟨l, rfl, hl, h6⟩ := bytesOfL_some h2
      simp only [Option.some.injEq] at h6
      subst h6
      have hcs := h1.bytes
      have go : ∀ ca l' cp, cx = .slice (some ca) l' cp → l' = len → ∃ c, Rep ρ (.s l) c ∧ (Conv.bytesToString cx).run P w = .ok c w := by
        intro ca l' cp e el
        have hload := h4 ca l' cp e P
        subst e el
        refine ⟨.string (l.foldl (fun s b => s.push (UInt8.ofNat b)) .empty), .s _ _ ?_, ?_⟩
        · rw [foldl_push]; simpa using bytes_back l hl
        · rw [Nat.mul_one] at hload
          simp only [Conv.bytesToString, Sem.run_bind, hload, Result.andThen_ok]
          rw [← Array.forIn_toList, hcs]
          have := forIn_bytes (P := P) (w := w) l .empty
          refine Eq.trans (congrArg (fun r => Result.andThen r _) this) rfl
      cases hx with
      | se _ _ _ _ pl hp => exact go _ _ _ rfl rfl
      | so _ _ _ _ pl hp hd => exact go _ _ _ rfl rfl
      | sz _ _ _ pl a hp hd => exact go _ _ _ rfl rfl
  · cases h

include hE
theorem toUnsafe_ok (hR : Rel E.gl ρ σ w) {src dst t : TypeId} {s : Nat} {x v : V} {cx : Value} (hx : Rep ρ x cx) (hs : E.und src = some (.pointer t)) (hd : E.und dst = some .unsafePointer) (hz : E.size t = some (s + 1))
    (h : toUnsafe σ x = some v) : Rep ρ v cx ∧ (Conv.unsafePointer src dst cx).run P w = .ok cx w := by
  obtain ⟨id, off, e0, hn⟩ := ptr_some h; clear h; subst e0; have h := hn; clear hn
  obtain ⟨c, el, md, hc, h⟩ := cellsAt_some h
  rw [bcase_eq] at h
  split at h
  · rename_i hlt
    have hlt : off < c.length := by simpa [Nat.blt_eq] using hlt
    simp only [Option.some.injEq] at h
    subst h
    refine ⟨hx, ?_⟩
    obtain ⟨pl, hp, rfl⟩ := hx.ptr_inv
    obtain ⟨pl', arr, frz, g1, g2, g3, g4⟩ := hR.cells hc
    rw [hp] at g1; cases g1
    have hsz : ¬ (arr.size ≤ pl.base + off) := by
      have := g3.length
      unfold win at this
      simp only [List.length_take, List.length_drop, Array.length_toList] at this
      omega
    have hsh : w.shape? pl.blk = some (el, arr.size) := by simp [World.shape?, g2]
    simp only [Conv.unsafePointer, Sem.run_bind, run_und hE hs, run_und hE hd, Result.andThen_ok, Conv.seenAt, viewAt, run_shape, hsh, Option.isSome_some, if_true, Sem.run_pure, cellsIn, run_size hE hz, ge_iff_le, Option.isNone_none, Bool.and_true]
    simp [hsz]
  · cases h

theorem convC_ok (hR : Rel E.gl ρ σ w) {n : Nat} {tm : Tr V} {a : Act} (hT : RepT ρ n tm a.tmps) {src dst : TypeId} {x : Operand} {v : V} (h : (convC E src dst x).run tm σ = some v) :
    ∃ c, Rep ρ v c ∧ (Go.convert src dst (a.eval x)).run P w = .ok c w := by
  unfold convC at h
  split at h
  · rename_i d1 k h1 h2
    obtain ⟨u, hu, h⟩ := bindV_some h
    split at h
    · rename_i k' m
      have hr := opc_ok hR hT hu
      generalize a.eval x = cx at hr ⊢
      cases hr
      rw [retI_eq] at h
      cases h
      exact ⟨.int k (k.wrap m), by rw [wr_eq]; exact .i _ _, by simp [Go.convert, run_und hE h1, run_und hE h2, Conv.intToInt]⟩
    · cases h
  · rename_i h1 h2
    obtain ⟨u, hu, h⟩ := bindV_some h
    split at h
    · have hr := opc_ok hR hT hu
      generalize a.eval x = cx at hr ⊢
      cases h
      cases hr with | s _ ba hb => exact ⟨_, .s _ _ hb, by simp [Go.convert, run_und hE h1, run_und hE h2]⟩
    · cases h
  · rename_i e h1 h2
    split at h
    · rename_i h3
      obtain ⟨u, hu, h⟩ := bindV_some h
      have hr := opc_ok hR hT hu
      generalize a.eval x = cx at hr ⊢
      obtain ⟨c, h4, h5⟩ := bytesToStr_ok (P := P) hR hr h
      refine ⟨c, h4, ?_⟩
      have hns : ∃ q l cp, cx = .slice q l cp := by
        unfold bytesToStr at h
        split at h
        · cases hr <;> exact ⟨_, _, _, rfl⟩
        · cases h
      obtain ⟨q, l, cp, rfl⟩ := hns
      simp [Go.convert, run_und hE h1, run_und hE h2, run_und hE h3, h5]
    · cases h
  · rename_i t h1 h2
    split at h
    · rename_i s hs
      obtain ⟨u, hu, h⟩ := bindV_some h
      have hr := opc_ok hR hT hu
      generalize a.eval x = cx at hr ⊢
      obtain ⟨h3, h4⟩ := toUnsafe_ok hE hR hr h1 h2 hs h
      refine ⟨cx, h3, ?_⟩
      obtain ⟨id, off, rfl, _⟩ := ptr_some h
      obtain ⟨pl, hp, rfl⟩ := hr.ptr_inv
      simp [Go.convert, run_und hE h1, run_und hE h2, h4]
    · cases h
  · cases h

/-! ### Addresses and parts -/
theorem fieldAddrC_ok (hR : Rel E.gl ρ σ w) {n : Nat} {tm : Tr V} {a : Act} (hT : RepT ρ n tm a.tmps) {s : TypeId} {x : Operand} {f : Nat} {v : V} (h : (fieldAddrC E s x f).run tm σ = some v) :
    ∃ c, Rep ρ v c ∧ (Instr.fieldAt s (a.eval x) f).run P w = .ok c w := by
  unfold fieldAddrC at h
  split at h
  · rename_i fs hu
    split at h
    · rename_i fd hf
      split at h
      · rename_i z hz
        obtain ⟨u, hu', h⟩ := bindV_some h
        obtain ⟨id, off, e0, hn⟩ := ptr_some h; clear h; subst e0; have h := hn; clear hn
        rw [retP_eq] at h
        cases h
        obtain ⟨pl, hp, he⟩ := (opc_ok hR hT hu').ptr_inv
        rw [he]
        refine ⟨_, .p _ _ pl hp, ?_⟩
        simp only [Instr.fieldAt, Sem.run_bind, run_und hE hu, Result.andThen_ok, hf, Instr.sureAddr, Sem.run_pure, fieldPlace, run_size hE hz, add_addr, Nat.add_assoc]
        simp
      · cases h
    · cases h
  · cases h

theorem fieldC_ok (hR : Rel E.gl ρ σ w) {n : Nat} {tm : Tr V} {a : Act} (hT : RepT ρ n tm a.tmps) {s : TypeId} {x : Operand} {f : Nat} {v : V} (h : (fieldC E s x f).run tm σ = some v) :
    ∃ c, Rep ρ v c ∧ (Instr.field s (a.eval x) f).run P w = .ok c w := by
  unfold fieldC at h
  split at h
  · rename_i fs hu
    split at h
    · rename_i fd hf
      split at h
      · rename_i g z hg hz
        obtain ⟨u, hu', h⟩ := bindV_some h
        obtain ⟨cs, e0, hn⟩ := aggV_some h; clear h; subst e0; have h := hn; clear hn
        have hr := opc_ok hR hT hu'
        generalize a.eval x = cx at hr ⊢
        cases hr with | ag _ cs' hcs =>
          obtain ⟨c, h1, h2⟩ := partOf_ok hE (w := w) hg hz hcs h
          exact ⟨c, h1, by simp [Instr.field, run_und hE hu, hf, asAgg, h2]⟩
      · cases h
    · cases h
  · cases h

omit hE in
theorem indexSl_some {s i : Nat} {x v : V} (h : indexSl s x i = some v) : ∃ p len cap, x = .sl (some p) len cap ∧ i < len ∧ v = .p (some (p.1, p.2 + i * s)) := by
  unfold indexSl at h
  split at h
  · split at h
    · rw [bcase_eq] at h
      split at h
      · rename_i hlt
        rw [retP_eq] at h
        cases h
        exact ⟨_, _, _, rfl, by simpa [Nat.blt_eq] using hlt, rfl⟩
      · cases h
    · cases h
  · cases h

theorem indexAddrC_ok (hR : Rel E.gl ρ σ w) {n : Nat} {tm : Tr V} {a : Act} (hT : RepT ρ n tm a.tmps) {t : TypeId} {x i : Operand} {v : V} (h : (indexAddrC E t x i).run tm σ = some v) :
    ∃ c, Rep ρ v c ∧ (Instr.indexAt t (a.eval x) (a.eval i)).run P w = .ok c w := by
  unfold indexAddrC at h
  split at h
  · rename_i len e hu
    split at h
    · rename_i s hs
      obtain ⟨u, hu', h⟩ := bindV_some h
      obtain ⟨j, hj, h⟩ := bindV_some h
      obtain ⟨k, m, e0, hn⟩ := natV_some h; clear h; subst e0; have h := hn; clear hn
      obtain ⟨id, off, e0, hn⟩ := ptr_some h; clear h; subst e0; have h := hn; clear hn
      rw [bcase_eq] at h
      split at h
      · rename_i hlt
        have hlt : m < len := by simpa [Nat.blt_eq] using hlt
        rw [retP_eq] at h
        cases h
        have hri := opc_ok hR hT hj
        generalize a.eval i = ci at hri ⊢
        cases hri
        obtain ⟨pl, hp, he⟩ := (opc_ok hR hT hu').ptr_inv
        rw [he]
        refine ⟨_, .p _ _ pl hp, ?_⟩
        have h0 : (0 : Int) ≤ m ∧ (m : Int) < len := by omega
        simp only [Instr.indexAt, asIntOf, Sem.run_bind, run_und hE hu, Result.andThen_ok, Instr.sureAddr, Sem.run_pure, run_size hE hs, Int.ofNat_eq_natCast, h0, and_self, if_true, Int.toNat_natCast, add_addr, Nat.add_assoc]
      · cases h
    · cases h
  · rename_i e hu
    split at h
    · rename_i s hs
      obtain ⟨u, hu', h⟩ := bindV_some h
      obtain ⟨j, hj, h⟩ := bindV_some h
      obtain ⟨k, m, e0, hn⟩ := natV_some h; clear h; subst e0; have h := hn; clear hn
      obtain ⟨p, len, cap, e0, hlt, e1⟩ := indexSl_some h
      clear h
      subst e0 e1
      have hri := opc_ok hR hT hj
      generalize a.eval i = ci at hri ⊢
      cases hri
      have hrx := opc_ok hR hT hu'
      generalize a.eval x = cx at hrx ⊢
      have h0 : (0 : Int) ≤ m ∧ (m : Int) < len := by omega
      cases hrx with
      | se id off _ _ pl hp =>
        refine ⟨_, .p _ _ pl hp, ?_⟩
        simp only [Instr.indexAt, asIntOf, Sem.run_bind, run_und hE hu, Result.andThen_ok, Sem.run_pure, run_size hE hs, Int.ofNat_eq_natCast, h0, and_self, if_true, Int.toNat_natCast, add_addr, Nat.add_assoc]
      | so id off _ _ pl hp hd =>
        refine ⟨_, .p _ _ pl hp, ?_⟩
        simp only [Instr.indexAt, asIntOf, Sem.run_bind, run_und hE hu, Result.andThen_ok, Sem.run_pure, run_size hE hs, Int.ofNat_eq_natCast, h0, and_self, if_true, Int.toNat_natCast, add_addr, Nat.add_assoc]
      | sz id off _ pl _ hp hd => omega
    · cases h
  · cases h

theorem indexC_ok (hR : Rel E.gl ρ σ w) {n : Nat} {tm : Tr V} {a : Act} (hT : RepT ρ n tm a.tmps) {t : TypeId} {x i : Operand} {v : V} (h : (indexC E t x i).run tm σ = some v) :
    ∃ c, Rep ρ v c ∧ (Instr.index t (a.eval x) (a.eval i)).run P w = .ok c w := by
  unfold indexC at h
  split at h
  · rename_i len e hu
    split at h
    · rename_i g s hg hs
      obtain ⟨u, hu', h⟩ := bindV_some h
      obtain ⟨j, hj, h⟩ := bindV_some h
      obtain ⟨k, m, e0, hn⟩ := natV_some h; clear h; subst e0; have h := hn; clear hn
      rw [bcase_eq] at h
      split at h
      · rename_i hlt
        have hlt : m < len := by simpa [Nat.blt_eq] using hlt
        obtain ⟨cs, e0, hn⟩ := aggV_some h; clear h; subst e0; have h := hn; clear hn
        have hri := opc_ok hR hT hj
        generalize a.eval i = ci at hri ⊢
        cases hri
        have hrx := opc_ok hR hT hu'
        generalize a.eval x = cx at hrx ⊢
        have h0 : (0 : Int) ≤ m ∧ (m : Int) < len := by omega
        cases hrx with | ag _ cs' hcs =>
          obtain ⟨c, h1, h2⟩ := partOf_ok hE (w := w) hg hs hcs h
          exact ⟨c, h1, by simp only [Instr.index, asIntOf, Sem.run_bind, run_und hE hu, Result.andThen_ok, Sem.run_pure, run_size hE hs, Int.ofNat_eq_natCast, h0, and_self, if_true, Int.toNat_natCast, h2]⟩
      · cases h
    · cases h
  · rename_i hu
    obtain ⟨u, hu', h⟩ := bindV_some h
    obtain ⟨j, hj, h⟩ := bindV_some h
    obtain ⟨k, m, e0, hn⟩ := natV_some h; clear h; subst e0; have h := hn; clear hn
    unfold indexStr at h
    split at h
    · split at h
      · rename_i l b hb
        cases h
        rw [nthN_eq] at hb
        have hri := opc_ok hR hT hj
        generalize a.eval i = ci at hri ⊢
        cases hri
        have hrx := opc_ok hR hT hu'
        generalize a.eval x = cx at hrx ⊢
        cases hrx with | s _ ba hba =>
          rw [← hba] at hb
          simp only [List.getElem?_map, Option.map_eq_some_iff] at hb
          obtain ⟨y, hy, rfl⟩ := hb
          have hlt : m < ba.size := by
            rcases Nat.lt_or_ge m ba.size with z | z
            · exact z
            · have : ba.data.toList.length ≤ m := by simpa using z
              rw [List.getElem?_eq_none this] at hy; cases hy
          have hget : ba[m]? = some y := by
            rw [ByteArray.getElem?_lt' ba m hlt]
            have h1 : ba.data.toList[m]? = some ba.data[m] := by simp [show m < ba.data.size from hlt]
            rw [h1] at hy
            simp only [Option.some.injEq] at hy
            rw [← hy]; rfl
          refine ⟨.int .u8 y.toNat, .i _ _, ?_⟩
          simp only [Instr.index, asIntOf, Sem.run_bind, run_und hE hu, Result.andThen_ok, Sem.run_pure, Int.ofNat_eq_natCast, Int.natCast_nonneg, if_true, Int.toNat_natCast, hget]
      · cases h
    · cases h
  · cases h
omit hE
end
end Go.AM

/- The abstract machine's operations on values are the model's (6): building; all of them. -/
namespace Go.AM
open Go

/-! ### Parts over a row -/
theorem spl_eq (l : List V) : ∀ (n : Nat) (vs : List V), n + vs.length ≤ l.length → spl l n vs = l.take n ++ vs ++ l.drop (n + vs.length) := by
  induction l with
  | nil => intro n vs h; simp at h; obtain ⟨rfl, rfl⟩ := h; rfl
  | cons x xs ih =>
    intro n vs h
    cases n with
    | zero =>
      cases vs with
      | nil => simp [spl]
      | cons v vs => simp only [spl]; rw [ih 0 vs (by simpa using h)]; simp
    | succ n => simp only [spl]; rw [ih n vs (by simp at h ⊢; omega)]; simp [Nat.add_right_comm]

theorem spl_length (l : List V) : ∀ (n : Nat) (vs : List V), (spl l n vs).length = l.length := by
  induction l with
  | nil => intro n vs; rfl
  | cons x xs ih => intro n vs; cases n with
    | zero => cases vs <;> simp [spl, ih]
    | succ n => simp [spl, ih]

theorem foldl_set (vs : List Value) : ∀ (off k : Nat) (arr : Array Value), off + k + vs.length ≤ arr.size →
    ((vs.zipIdx k).foldl (fun cs (c, j) => cs.setIfInBounds (off + j) c) arr).toList = arr.toList.take (off + k) ++ vs ++ arr.toList.drop (off + k + vs.length) := by
  induction vs with
  | nil => intro off k arr h; simp
  | cons v vs ih =>
    intro off k arr h
    simp only [List.zipIdx_cons, List.foldl_cons]
    rw [ih off (k + 1) _ (by simp at h ⊢; omega)]
    have hlt : off + k < arr.toList.length := by simp at h ⊢; omega
    rw [Array.toList_setIfInBounds]
    rw [List.take_set, show off + (k + 1) = off + k + 1 by omega, List.take_succ_eq_append_getElem hlt]
    have e1 : ((arr.toList.take (off + k) ++ [arr.toList[off + k]]).set (off + k) v) = arr.toList.take (off + k) ++ [v] := by
      rw [List.set_append_right _ _ (by simp; omega)]
      have : off + k - (arr.toList.take (off + k)).length = 0 := by simp; omega
      rw [this]; rfl
    rw [e1, List.drop_set_of_lt (by omega)]
    simp only [List.append_assoc, List.singleton_append, List.length_cons]
    rw [show off + k + 1 + vs.length = off + k + (vs.length + 1) by omega]

theorem RepL.splice {ρ : Pm} {l vs : List V} {l' vs' : List Value} (h : RepL ρ l l') (hv : RepL ρ vs vs') {n : Nat} (hn : n + vs.length ≤ l.length) :
    RepL ρ (spl l n vs) (l'.take n ++ vs' ++ l'.drop (n + vs'.length)) := by
  rw [spl_eq _ _ _ hn, ← hv.length]
  exact ((h.take n).append hv).append (h.drop _)

section
variable {E : Env} {P : Program} (hE : E.Ok P) {w : World} {ρ : Pm} {σ : St}

/-- Parts and their values. -/
inductive RepP (ρ : Pm) : List (Nat × V) → List (Nat × Value) → Prop
  | nil : RepP ρ [] []
  | cons (i : Nat) (v : V) (c : Value) (l : List (Nat × V)) (l' : List (Nat × Value)) (h : Rep ρ v c) (hs : RepP ρ l l') : RepP ρ ((i, v) :: l) ((i, c) :: l')

theorem evalParts_ok (hR : Rel E.gl ρ σ w) {n : Nat} {tm : Tr V} {a : Act} (hT : RepT ρ n tm a.tmps) {α : Type} {r : α} {ps : List (Nat × Operand)} :
    ∀ {k : List (Nat × V) → Option α}, evalParts E ps tm k = some r → ∃ l, RepP ρ l (ps.map fun (i, x) => (i, a.eval x)) ∧ k l = some r := by
  induction ps with
  | nil => intro k h; exact ⟨[], .nil, h⟩
  | cons p ps ih =>
    intro k h
    obtain ⟨v, hv, h⟩ := bindV_some h
    obtain ⟨l, hl, h⟩ := ih h
    exact ⟨(p.1, v) :: l, .cons _ _ _ _ _ (opc_ok hR hT hv) hl, h⟩

theorem fillK_ok {α : Type} {r : α} {place place' : Nat → Option (Nat × Nat)} (hpl : ∀ i q, place i = some q → place' i = some q) {l : List (Nat × V)} :
    ∀ {l' : List (Nat × Value)} {cells : List V} {cells' : Array Value} {k : List V → Option α}, RepP ρ l l' → RepL ρ cells cells'.toList → fillK place cells l k = some r →
    ∃ cs cs', RepL ρ cs cs'.toList ∧ Instr.fill place' cells' l' = some cs' ∧ k cs = some r ∧ cs.length = cells.length := by
  induction l with
  | nil => intro l' cells cells' k hp hc h; cases hp; exact ⟨cells, cells', hc, rfl, h, rfl⟩
  | cons p l ih =>
    intro l' cells cells' k hp hc h
    cases hp with | cons i v c _ l'' hv hs =>
      unfold fillK at h
      split at h
      · cases h
      · rename_i q hq
        rw [bcase_eq] at h
        split at h
        · rename_i hcnd
          simp only [Bool.and_eq_true, Nat.beq_eq, Nat.ble_eq, lenL_eq] at hcnd
          rw [splK_eq] at h
          have hvc := hv.cells
          have hlen := hvc.length
          have hsz : c.cells.size = q.2 := by rw [← hcnd.1, hlen, Array.length_toList]
          have hcl := hc.length
          simp only [Array.length_toList] at hcl
          have hrep : RepL ρ (spl cells q.1 v.cells) ((c.cells.toList.zipIdx.foldl (fun cs (x, j) => cs.setIfInBounds (q.1 + j) x) cells').toList) := by
            have e := foldl_set c.cells.toList q.1 0 cells' (by simp only [Nat.add_zero, Array.length_toList]; omega)
            rw [e]
            simp only [Nat.add_zero]
            exact hc.splice hvc (by omega)
          obtain ⟨cs, cs', h1, h2, h3, h4⟩ := ih hs hrep h
          refine ⟨cs, cs', h1, ?_, h3, by rw [h4, spl_length]⟩
          unfold Instr.fill
          rw [hpl _ _ hq]
          have hne : ¬ ((decide (c.cells.size ≠ q.2) || decide (q.1 + c.cells.size > cells'.size)) = true) := by
            simp only [Bool.or_eq_true, decide_eq_true_eq]; omega
          simp only [hne, if_false, Bool.false_eq_true]
          rw [← h2]
          congr 1
          rw [← Array.foldl_toList, Array.toList_zipIdx]
        · cases h

include hE
theorem mapM_fields : ∀ (fs : List Field), sizesKnown E fs = true → ∃ ps : List (Nat × Nat), (fs.mapM (fun f => do pure (f.offset, ← sizeOf f.type) : Field → Sem (Nat × Nat))).run P w = .ok ps w ∧
    ∀ i : Nat, ps[i]? = (match fs[i]? with | some f => (match E.size f.type with | some s => some (f.offset, s) | none => none) | none => none) := by
  intro fs
  induction fs with
  | nil => intro _; exact ⟨[], rfl, by simp⟩
  | cons f fs ih =>
    intro h
    simp only [sizesKnown, Bool.and_eq_true] at h
    obtain ⟨s, hs⟩ := Option.isSome_iff_exists.1 h.1
    obtain ⟨ps, h1, h2⟩ := ih h.2
    refine ⟨(f.offset, s) :: ps, ?_, ?_⟩
    · simp only [List.mapM_cons, Sem.run_bind, run_size hE hs, Result.andThen_ok, Sem.run_pure]
      rw [h1]
      rfl
    · intro i
      cases i with
      | zero => simp [hs]
      | succ i => simpa using h2 i

theorem buildC_ok (hR : Rel E.gl ρ σ w) {n : Nat} {tm : Tr V} {a : Act} (hT : RepT ρ n tm a.tmps) {t : TypeId} {parts : Array (Nat × Operand)} {v : V} (h : (buildC E t parts.toList).run tm σ = some v) :
    ∃ c, Rep ρ v c ∧ (Instr.build t (parts.map fun (i, x) => (i, a.eval x))).run P w = .ok c w := by
  unfold buildC at h
  split at h
  · rename_i z fs hz hu
    split at h
    · rename_i hsz
      obtain ⟨l, hl, h⟩ := evalParts_ok hR hT h
      obtain ⟨cz, hz1, hz2⟩ := run_zero hE (w := w) hz
      obtain ⟨ps, h1, h2⟩ := mapM_fields hE (w := w) fs.toList hsz
      have hpl : ∀ i q, placesOf E fs i = some q → (ps.toArray[·]?) i = some q := by
        intro i q hq
        show ps.toArray[i]? = some q
        simp only [List.getElem?_toArray, h2]
        unfold placesOf at hq
        simp only [Array.getElem?_toList]
        exact hq
      obtain ⟨cs, cs', h3, h4, h5, _⟩ := fillK_ok hpl hl (hz1 ρ).cells h
      cases h5
      refine ⟨.agg cs', .ag _ _ h3, ?_⟩
      have hm : (fs.mapM (fun f => do pure (f.offset, ← sizeOf f.type) : Field → Sem (Nat × Nat))).run P w = .ok ps.toArray w := by
        rw [Array.mapM_eq_mapM_toList, Sem.run_map, h1]; rfl
      simp only [Instr.build, Sem.run_bind, hz2, run_und hE hu, Result.andThen_ok]
      rw [hm]
      simp only [Result.andThen_ok, Array.toList_map]
      rw [h4]
      rfl
    · cases h
  · rename_i z len e hz hu
    split at h
    · rename_i s hs
      obtain ⟨l, hl, h⟩ := evalParts_ok hR hT h
      obtain ⟨cz, hz1, hz2⟩ := run_zero hE (w := w) hz
      obtain ⟨cs, cs', h3, h4, h5, _⟩ := fillK_ok (place' := fun i => some (i * s, s)) (fun i q hq => hq) hl (hz1 ρ).cells h
      cases h5
      refine ⟨.agg cs', .ag _ _ h3, ?_⟩
      simp only [Instr.build, Sem.run_bind, hz2, run_und hE hu, Result.andThen_ok, run_size hE hs, Array.toList_map]
      rw [h4]
      rfl
    · cases h
  · cases h
omit hE

/-! ### Builtins -/
theorem minMax_ok {mx : Bool} {x y v : V} {cx cy : Value} (hx : Rep ρ x cx) (hy : Rep ρ y cy) (h : minMax mx x y = some v) :
    ∃ c, Rep ρ v c ∧ ((if mx then Builtin.max2 cx cy else Builtin.min2 cx cy).run P w = .ok c w) ∧ (∃ k n, v = .i k n) := by
  unfold minMax at h
  split at h
  · split at h
    · rw [bcase_eq] at h
      split at h
      · rename_i hk
        have := kEq_iff hk
        subst this
        cases h
        cases hx; cases hy
        refine ⟨_, .i _ _, ?_, _, _, rfl⟩
        cases mx
        · simp only [Bool.false_eq_true, if_false, bcase_eq, Builtin.min2, Sem.run_pure, ltI_eq, decide_eq_true_eq]
        · simp only [if_true, bcase_eq, Builtin.max2, Sem.run_pure, ltI_eq, decide_eq_true_eq, gt_iff_lt]
      · cases h
    · cases h
  · cases h

theorem minMaxL_ok {mx : Bool} : ∀ {l : List V} {l' : List Value} {x v : V} {cx : Value}, RepL ρ l l' → Rep ρ x cx → minMaxL mx x l = some v →
    ∃ c, Rep ρ v c ∧ (l'.foldlM (if mx then Builtin.max2 else Builtin.min2) cx).run P w = .ok c w
  | [], _, x, v, cx, hl, hx, h => by cases hl; cases h; exact ⟨cx, hx, rfl⟩
  | y :: l, _, x, v, cx, hl, hx, h => by
    cases hl with | cons _ c _ l' hy hs =>
      obtain ⟨z, hz, h⟩ := bindV_some h
      obtain ⟨cz, h1, h2, _⟩ := minMax_ok (P := P) (w := w) hx hy hz
      obtain ⟨c', h3, h4⟩ := minMaxL_ok hs h1 h
      refine ⟨c', h3, ?_⟩
      simp only [List.foldlM_cons, Sem.run_bind]
      have e : ((if mx = true then Builtin.max2 else Builtin.min2) cx c).run P w = .ok cz w := by cases mx <;> simpa using h2
      rw [e]
      exact h4

theorem minMaxV_ok {mx : Bool} {l : List V} {l' : List Value} {v : V} (hl : RepL ρ l l') (h : minMaxV mx l = some v) :
    ∃ c, Rep ρ v c ∧ ((if mx then Builtin.max_ #[] 0 l'.toArray else Builtin.min_ #[] 0 l'.toArray).run P w = .ok c w) := by
  unfold minMaxV at h
  split at h
  · cases h
  · split at h
    · cases hl with | cons _ c _ l' hx hs =>
        obtain ⟨c', h1, h2⟩ := minMaxL_ok (P := P) (w := w) hs hx h
        refine ⟨c', h1, ?_⟩
        cases mx <;> simpa [Builtin.max_, Builtin.min_] using h2
    · cases h

include hE
theorem lenC_ok (hR : Rel E.gl ρ σ w) {n : Nat} {tm : Tr V} {a : Act} (hT : RepT ρ n tm a.tmps) {t ty : TypeId} {ts : Array TypeId} {x : Operand} {v : V} (ht : ts[0]? = some t) (h : (lenC E t x).run tm σ = some v) :
    ∃ c, Rep ρ v c ∧ (Builtin.len_ ts ty #[a.eval x]).run P w = .ok c w := by
  unfold lenC at h
  split at h
  · rename_i hu
    obtain ⟨u, hu', h⟩ := bindV_some h
    split at h
    · rw [forceN_eq] at h
      cases h
      have hr := opc_ok hR hT hu'
      generalize a.eval x = cx at hr ⊢
      cases hr with | s l ba hb =>
        refine ⟨goInt ba.size, ?_, ?_⟩
        · rw [lenL_eq, ← hb]; simp only [List.length_map, Array.length_toList]; exact .i _ _
        · simp [Builtin.len_, ht, run_und hE hu]
    · cases h
  · rename_i m e hu
    cases h
    exact ⟨goInt m, .i _ _, by simp [Builtin.len_, ht, run_und hE hu]⟩
  · rename_i arr hu
    split at h
    · rename_i m e ha
      cases h
      refine ⟨goInt m, .i _ _, ?_⟩
      simp [Builtin.len_, ht, run_und hE hu, run_und hE ha]
    · cases h
  · rename_i e hu
    obtain ⟨u, hu', h⟩ := bindV_some h
    split at h
    · cases h
      have hr := opc_ok hR hT hu'
      generalize a.eval x = cx at hr ⊢
      cases hr <;> exact ⟨_, .i _ _, by simp [Builtin.len_, ht, run_und hE hu, goInt]⟩
    · cases h
  · rename_i kt et hu
    obtain ⟨u, hu', h⟩ := bindV_some h
    have hr := opc_ok hR hT hu'
    generalize a.eval x = cx at hr ⊢
    rcases mapAt_some h with ⟨e0, hn⟩ | ⟨id, es, c, e0, hg, hn⟩ <;> clear h <;> subst e0
    · rw [forceN_eq] at hn
      cases hn
      cases hr
      exact ⟨goInt 0, .i _ _, by simp [Builtin.len_, ht, run_und hE hu]⟩
    · rw [forceN_eq] at hn
      cases hn
      cases hr with | m _ pl hp =>
        obtain ⟨pl', es', h1, h2, h3⟩ := hR.map hg
        rw [hp] at h1; cases h1
        refine ⟨goInt es'.size, ?_, ?_⟩
        · rw [lenL_eq, h3.length, Array.length_toList]; exact .i _ _
        · simp [Builtin.len_, ht, run_und hE hu, run_getObj_map h2]
  · cases h

theorem capC_ok (hR : Rel E.gl ρ σ w) {n : Nat} {tm : Tr V} {a : Act} (hT : RepT ρ n tm a.tmps) {t ty : TypeId} {ts : Array TypeId} {x : Operand} {v : V} (ht : ts[0]? = some t) (h : (capC E t x).run tm σ = some v) :
    ∃ c, Rep ρ v c ∧ (Builtin.cap_ ts ty #[a.eval x]).run P w = .ok c w := by
  unfold capC at h
  split at h
  · rename_i e hu
    obtain ⟨u, hu', h⟩ := bindV_some h
    split at h
    · cases h
      have hr := opc_ok hR hT hu'
      generalize a.eval x = cx at hr ⊢
      cases hr <;> exact ⟨_, .i _ _, by simp [Builtin.cap_, ht, run_und hE hu, goInt]⟩
    · cases h
  · cases h

omit hE in
theorem RepE.find {es : List (V × V × Nat)} {es' : List MapEntry} (h : RepE ρ es es') (stamp : Nat) {e : V × V × Nat} (he : es.find? (fun e => Nat.beq e.2.2 stamp) = some e) :
    ∃ e', es'.find? (·.born == stamp) = some e' ∧ Rep ρ e.1 e'.key ∧ Rep ρ e.2.1 e'.val := by
  induction h with
  | nil => simp at he
  | cons k v n e' es es' hk hv hn _ ih =>
    simp only [List.find?_cons] at he ⊢
    rw [hn]
    by_cases hc : n = stamp
    · subst hc
      simp at he
      subst he
      exact ⟨e', by simp, hk, hv⟩
    · have h1 : Nat.beq n stamp = false := by rw [Bool.eq_false_iff]; simpa using hc
      have h2 : (n == stamp) = false := by simpa using hc
      rw [h1] at he
      rw [h2]
      exact ih he

omit hE in
theorem entryV_ok (hR : Rel E.gl ρ σ w) {it v : V} {c : Value} (hr : Rep ρ it c) (h : entryV it σ = some v) : ∃ cv, Rep ρ v cv ∧ (Instr.entry c).run P w = .ok cv w := by
  obtain ⟨id, off, e0, hn⟩ := ptr_some h
  clear h
  subst e0
  obtain ⟨pl, hp, rfl⟩ := hr.ptr_inv
  split at hn
  · cases hn
  · split at hn
    · rename_i m since seen stepped hg
      split at hn
      · cases hn
      · rename_i stamp hst
        split at hn
        · rename_i es clock hm
          rw [bcase_eq] at hn
          split at hn
          · rename_i hcl
            have hcl : clock = stepped := by simpa using hcl
            split at hn
            · rename_i e he
              cases hn
              obtain ⟨pl1, o, g1, g2, g3⟩ := hR.blk _ _ hg
              rw [hp] at g1; cases g1
              cases g3 with | miter _ _ _ _ _ plm seen' hs hmm hb0 =>
                obtain ⟨pl2, es', k1, k2, k3⟩ := hR.map hm
                rw [hmm] at k1; cases k1
                obtain ⟨e', f1, f2, f3⟩ := k3.find stamp he
                have hback : seen'.back? = some stamp := by rw [← hst, ← hs]; simp [Array.getLast?_toList]
                have hfind : es'.find? (·.born == stamp) = some e' := by rw [← Array.find?_toList]; exact f1
                have hobj : (getObj pl.blk).run P w = .ok (.mapIter (some plm.blk) since seen' stepped) w := by simp [getObj, Sem.run, g2]
                refine ⟨.tuple #[e'.key, e'.val], .tu _ _ (.cons _ _ _ _ f2 (.cons _ _ _ _ f3 .nil)), ?_⟩
                rw [hb0]
                simp only [Instr.entry, Sem.run_bind, Nat.add_zero, hobj, Result.andThen_ok, hback, run_getObj_map k2, hcl, bne_self_eq_false, Bool.false_eq_true, if_false, hfind, Sem.run_pure]
            · cases hn
          · cases hn
        · cases hn
    · cases hn

omit hE in
theorem run_v {s : Sem Value} {c : Value} {w' : World} (h : s.run P w = .ok c w') : (do pure (.value (← s)) : Sem Next).run P w = .ok (.value c) w' := by
  simp [h]

theorem binC_ok (hR : Rel E.gl ρ σ w) {n : Nat} {tm : Tr V} {a : Act} (hT : RepT ρ n tm a.tmps) {op : BinOp} {t : TypeId} {x y : Operand} {v : V} (h : (binC E op t x y).run tm σ = some v) :
    ∃ c, Rep ρ v c ∧ (do eqGuard op t x y (a.eval x) (a.eval y); Go.binOp op t (a.eval x) (a.eval y) : Sem Value).run P w = .ok c w := by
  have guardInt : ∀ op k m k' m', (eqGuard op t x y (.int k m) (.int k' m')).run P w = .ok () w := by
    intro op k m k' m'; unfold eqGuard; cases op <;> rfl
  have guardStr : ∀ op b b', (eqGuard op t x y (.string b) (.string b')).run P w = .ok () w := by
    intro op b b'; unfold eqGuard; cases op <;> rfl
  have sh : ∀ (f : IntKind → Int → Int → Option V) (op : BinOp), (∀ k k' m m' v, f k m m' = some v → ∃ c, (∀ ρ, Rep ρ v c) ∧ (Go.binOp op t (.int k m) (.int k' m')).run P w = .ok c w) →
      (bindV ((opc E x).get tm) fun a => bindV ((opc E y).get tm) fun b => sh2 f a b) = some v →
      ∃ c, Rep ρ v c ∧ (do eqGuard op t x y (a.eval x) (a.eval y); Go.binOp op t (a.eval x) (a.eval y) : Sem Value).run P w = .ok c w := by
    intro f op hf h
    obtain ⟨u, hu, h⟩ := bindV_some h
    obtain ⟨u', hu', h⟩ := bindV_some h
    have hx := opc_ok hR hT hu
    have hy := opc_ok hR hT hu'
    generalize a.eval x = cx at hx ⊢
    generalize a.eval y = cy at hy ⊢
    unfold sh2 at h
    split at h
    · split at h
      · cases hx; cases hy
        obtain ⟨c, h1, h2⟩ := hf _ _ _ _ _ h
        exact ⟨c, h1 ρ, by simp only [Sem.run_bind, guardInt, Result.andThen_ok]; exact h2⟩
      · cases h
    · cases h
  have gen : ∀ (_ : op ≠ .shl) (_ : op ≠ .shr), (bindV ((opc E x).get tm) fun a => bindV ((opc E y).get tm) fun b => bin2 (intC op) (strC op) (otherC E op t x y) a b σ) = some v →
      ∃ c, Rep ρ v c ∧ (do eqGuard op t x y (a.eval x) (a.eval y); Go.binOp op t (a.eval x) (a.eval y) : Sem Value).run P w = .ok c w := by
    intro h1 h2 h
    obtain ⟨u, hu, h⟩ := bindV_some h
    obtain ⟨u', hu', h⟩ := bindV_some h
    have hx := opc_ok hR hT hu
    have hy := opc_ok hR hT hu'
    generalize a.eval x = cx at hx ⊢
    generalize a.eval y = cy at hy ⊢
    unfold bin2 at h
    split at h
    · split at h
      · rw [bcase_eq] at h
        split at h
        · rename_i hk
          have := kEq_iff hk
          subst this
          cases hx; cases hy
          obtain ⟨c, h3, h4⟩ := int_sound (P := P) (w := w) op _ _ _ v h t
          exact ⟨c, h3 ρ, by simp only [Sem.run_bind, guardInt, Result.andThen_ok, h4]⟩
        · cases h
      · cases h
    · split at h
      · cases hx with | s _ ba hba => cases hy with | s _ bb hbb =>
          subst hba hbb
          obtain ⟨c, h3, h4⟩ := str_sound (P := P) (w := w) op ba bb v h t
          exact ⟨c, h3 ρ, by simp only [Sem.run_bind, guardStr, Result.andThen_ok, h4]⟩
      · cases h
    · rename_i hni hns
      have eqo : ∀ neg : Bool, (op = if neg then .neq else .eql) → eqOther E t x y neg u u' σ = some v →
          ∃ c, Rep ρ v c ∧ (do eqGuard op t x y cx cy; Go.binOp op t cx cy : Sem Value).run P w = .ok c w := by
        intro neg hop h
        unfold eqOther at h
        rw [bcase_eq] at h
        split at h
        · rename_i hg
          split at h
          · rename_i r hq
            have he := equal_ok hE hR (by omega) hq hx hy
            rw [retB_eq, bcase_eq] at h
            cases h
            have hgd : (eqGuard op t x y cx cy).run P w = .ok () w := by
              unfold eqGuardOk at hg
              split at hg
              · cases hx; cases hy
                unfold isConst at hg
                cases neg <;> simp at hop <;> subst hop <;> cases x <;> cases y <;> first | rfl | (simp at hg)
              · cases hx with | ag _ _ _ => cases hy with | ag _ _ _ =>
                  obtain ⟨z, hz⟩ := Option.isSome_iff_exists.1 hg
                  have := (hE.plain _ _ hz).2
                  cases neg <;> simp at hop <;> subst hop <;> simp [eqGuard, this]
              · rename_i hn1 hn2
                cases neg <;> simp at hop <;> subst hop <;>
                  (cases hx <;> first | rfl | (cases hy <;> first | rfl | (exfalso; exact hn1 rfl rfl) | (exfalso; exact hn2 _ _ rfl rfl)))
            have hb : (Go.binOp op t cx cy).run P w = .ok (.bool (if neg then !r else r)) w := by
              cases neg
              · simp only [Bool.false_eq_true, if_false] at hop
                subst hop
                have e : Go.binOp .eql t cx cy = (do pure (.bool (← Op.equal t cx cy))) := by
                  unfold Go.binOp
                  cases hx <;> cases hy <;> first | rfl | (exfalso; exact hni _ _ rfl) | (exfalso; exact hns _ rfl) | skip
                rw [e]; simp [he]
              · simp only [if_true] at hop
                subst hop
                have e : Go.binOp .neq t cx cy = (do pure (.bool (!(← Op.equal t cx cy)))) := by
                  unfold Go.binOp
                  cases hx <;> cases hy <;> first | rfl | (exfalso; exact hni _ _ rfl) | (exfalso; exact hns _ rfl) | skip
                rw [e]; simp [he]
            exact ⟨.bool (if neg then !r else r), .b _, by simp only [Sem.run_bind, hgd, Result.andThen_ok, hb]⟩
          · cases h
        · cases h
      cases op <;> simp only [otherC, reduceCtorEq] at h
      · exact eqo false rfl h
      · exact eqo true rfl h
  cases op
  case shl => exact sh shlV .shl (fun k k' m m' v hv => shl_sound k k' m m' v hv t) h
  case shr => exact sh shrV .shr (fun k k' m m' v hv => shr_sound k k' m m' v hv t) h
  all_goals exact gen (by simp) (by simp) h
omit hE
end
end Go.AM

/- Operations that leave the memory alone, and those that make one block. -/
namespace Go.AM
open Go

section
variable {E : Env} {P : Program} (hE : E.Ok P) {w : World} {ρ : Pm} {σ : St}

theorem optV_ok (hR : Rel E.gl ρ σ w) {n : Nat} {tm : Tr V} {a : Act} (hT : RepT ρ n tm a.tmps) {x : Option Operand} {α : Type} {k : Option V → Option α} {r : α} (h : optV E x tm k = some r) :
    ∃ v, RepO ρ v (x.map a.eval) ∧ k v = some r := by
  cases x with
  | none => exact ⟨none, .none, h⟩
  | some x => obtain ⟨v, hv, h⟩ := bindV_some h; exact ⟨some v, .some _ _ (opc_ok hR hT hv), h⟩

theorem list1 {α : Type} {a : Array α} {x : α} (h : a.toList = [x]) : a = #[x] := by
  cases a; simp at h; simp [h]

include hE
theorem builtinC_ok (hR : Rel E.gl ρ σ w) {n : Nat} {tm : Tr V} {a : Act} (hT : RepT ρ n tm a.tmps) {b : Builtin} {ts : Array TypeId} {args : Array Operand} {v : V} (ty : TypeId) (cs : Array Bool)
    (h : (builtinC E b ts args.toList).run tm σ = some v) : ∃ c, Rep ρ v c ∧ (Go.builtin b ts ty cs (args.map a.eval)).run P w = .ok (.value c) w := by
  unfold builtinC at h
  split at h
  · split at h
    · rename_i t x ht hx
      obtain ⟨c, h1, h2⟩ := lenC_ok hE hR hT (ty := ty) ht h
      refine ⟨c, h1, ?_⟩
      rw [list1 hx]
      simp only [Go.builtin, List.map_toArray, List.map_cons, List.map_nil, Sem.run_bind, h2, Result.andThen_ok, Sem.run_pure]
    · cases h
  · split at h
    · rename_i t x ht hx
      obtain ⟨c, h1, h2⟩ := capC_ok hE hR hT (ty := ty) ht h
      refine ⟨c, h1, ?_⟩
      rw [list1 hx]
      simp only [Go.builtin, List.map_toArray, List.map_cons, List.map_nil, Sem.run_bind, h2, Result.andThen_ok, Sem.run_pure]
    · cases h
  · obtain ⟨vs, h1, h⟩ := opcs_ok hR hT h
    obtain ⟨c, h2, h3⟩ := minMaxV_ok (P := P) (w := w) h1 h
    refine ⟨c, h2, ?_⟩
    simp only [Bool.false_eq_true, if_false] at h3
    have e : Builtin.min_ ts ty (args.map a.eval) = Builtin.min_ #[] 0 (args.toList.map a.eval).toArray := by simp [Builtin.min_]
    simp only [Go.builtin, Sem.run_bind, e, h3, Result.andThen_ok, Sem.run_pure]
  · obtain ⟨vs, h1, h⟩ := opcs_ok hR hT h
    obtain ⟨c, h2, h3⟩ := minMaxV_ok (P := P) (w := w) h1 h
    refine ⟨c, h2, ?_⟩
    simp only [if_true] at h3
    have e : Builtin.max_ ts ty (args.map a.eval) = Builtin.max_ #[] 0 (args.toList.map a.eval).toArray := by simp [Builtin.max_]
    simp only [Go.builtin, Sem.run_bind, e, h3, Result.andThen_ok, Sem.run_pure]
  · cases h

theorem vc_ok (hR : Rel E.gl ρ σ w) {n : Nat} {tm : Tr V} {a : Act} (hT : RepT ρ n tm a.tmps) {o : Oper} {v : V} (h : (vc E o.op).run tm σ = some v) :
    ∃ c, Rep ρ v c ∧ (execOp a.eval o).run P w = .ok (.value c) w := by
  obtain ⟨dst, op, ty, pos, after, guard⟩ := o
  simp only at h ⊢
  have val : ∀ {s : Sem Value}, (∃ c, Rep ρ v c ∧ s.run P w = .ok c w) → ∃ c, Rep ρ v c ∧ (do pure (.value (← s)) : Sem Next).run P w = .ok (.value c) w :=
    fun ⟨c, h1, h2⟩ => ⟨c, h1, run_v h2⟩
  unfold vc at h
  split at h
  · exact ⟨_, opc_ok hR hT h, rfl⟩
  · exact ⟨_, opc_ok hR hT h, rfl⟩
  · rename_i c x y
    obtain ⟨u, hu, h⟩ := bindV_some h
    split at h
    · rename_i t
      have hc := opc_ok hR hT hu
      simp only [execOp]
      generalize a.eval c = cc at hc ⊢
      cases hc
      cases t
      · exact ⟨_, opc_ok hR hT h, by simp [asBool]⟩
      · exact ⟨_, opc_ok hR hT h, by simp [asBool]⟩
    · cases h
  · rename_i x
    obtain ⟨u, hu, h⟩ := bindV_some h
    have hc := opc_ok hR hT hu
    simp only [execOp]
    generalize a.eval x = cx at hc ⊢
    unfold nilOk at h
    split at h
    · split at h
      · cases h; cases hc with | p _ _ pl hp => exact ⟨_, .p _ _ pl hp, rfl⟩
      · cases h
    · split at h
      · cases h
        cases hc with | f _ fn' _ _ as' cs' hf ha hcs =>
          cases hf
          exact ⟨_, .f _ _ _ _ _ _ (.func _) ha hcs, rfl⟩
      · cases h
    · cases h; cases hc with | if_ _ _ c hv => exact ⟨_, .if_ _ _ _ hv, rfl⟩
    · cases h
  · rename_i op t x y yt
    obtain ⟨c, h1, h2⟩ := binC_ok hE hR hT h
    exact ⟨c, h1, run_v h2⟩
  · rename_i op t x
    obtain ⟨u, hu, h⟩ := bindV_some h
    have hc := opc_ok hR hT hu
    simp only [execOp]
    generalize a.eval x = cx at hc ⊢
    refine val ?_
    unfold unV at h
    split at h
    · split at h
      · cases hc
        rw [retI_eq] at h
        cases h
        exact ⟨_, .i _ _, by simp only [Op.unary, Op.intArith, Sem.run_pure, wr_eq]; rfl⟩
      · cases h
    · split at h
      · rename_i k m
        cases hc
        rw [retI_eq] at h
        cases h
        refine ⟨.int k (sg k (modOf k - 1 - um k m)), .i _ _, ?_⟩
        have e1 : (BitVec.ofInt k.bits (if k.signed = true then -1 else k.max)) = BitVec.allOnes k.bits := by cases k <;> rfl
        have e2 : (BitVec.allOnes k.bits ^^^ BitVec.ofInt k.bits m).toNat = modOf k - 1 - um k m := by
          rw [BitVec.allOnes_xor, BitVec.toNat_not, two_pow_bitsN, toNat_ofInt]
        have e3 : modOf k - 1 - um k m < modOf k := by have := um_lt k m; omega
        simp only [Op.unary, Op.intBits, Sem.run_pure, e1, e2, wrap_nat k _ e3]
      · cases h
    · split at h
      · cases hc
        rw [retB_eq] at h
        cases h
        exact ⟨_, .b _, rfl⟩
      · cases h
    · cases h
  · exact val (convC_ok hE hR hT h)
  · rename_i t x
    split at h
    · cases h
    · cases h
    · rename_i d hu hni
      obtain ⟨u, hu', h⟩ := bindV_some h
      cases h
      refine val ⟨_, .if_ _ _ _ (opc_ok hR hT hu'), ?_⟩
      simp only [Instr.makeInterface, Sem.run_bind, run_und hE hni, Result.andThen_ok]
      cases d <;> first | rfl | (exfalso; exact hu _ rfl)
  · rename_i fn first cap
    split at h
    · obtain ⟨vs, h1, h⟩ := opcs_ok hR hT h
      obtain ⟨ws, h2, h⟩ := opcs_ok hR hT h
      cases h
      exact ⟨_, .f _ _ _ _ (first.map a.eval) (cap.map a.eval) (.func _) (by simpa using h1) (by simpa using h2), rfl⟩
    · cases h
  · rename_i t x lo hi mx
    obtain ⟨u, hu, h⟩ := bindV_some h
    obtain ⟨lo', h1, h⟩ := optV_ok hR hT h
    obtain ⟨hi', h2, h⟩ := optV_ok hR hT h
    obtain ⟨mx', h3, h⟩ := optV_ok hR hT h
    exact val (sliceV_ok hE h1 h2 h3 (opc_ok hR hT hu) h)
  · exact val (fieldAddrC_ok hE hR hT h)
  · exact val (fieldC_ok hE hR hT h)
  · exact val (indexAddrC_ok hE hR hT h)
  · exact val (indexC_ok hE hR hT h)
  · rename_i x i
    obtain ⟨u, hu, h⟩ := bindV_some h
    have hc := opc_ok hR hT hu
    simp only [execOp]
    generalize a.eval x = cx at hc ⊢
    split at h
    · rw [nth_eq] at h
      cases hc with | tu _ cs' hcs =>
        obtain ⟨c, h1, h2⟩ := hcs.get h
        have h1' : cs'[i]? = some c := by simpa using h1
        exact val ⟨c, h2, by simp [Instr.extract, h1']⟩
    · cases h
  · rename_i t x
    unfold loadC at h
    split at h
    · rename_i hg
      split at h
      · rename_i s hs
        obtain ⟨u, hu, h⟩ := bindV_some h
        exact val (loadAgg_ok hE hR hg hs (opc_ok hR hT hu) h)
      · cases h
    · rename_i hg
      obtain ⟨u, hu, h⟩ := bindV_some h
      exact val (loadOne_ok hE hR hg (opc_ok hR hT hu) h)
    · cases h
  · rename_i t m k ok
    unfold lookC at h
    split at h
    · rename_i kt et hu
      split at h
      · rename_i hk
        split at h
        · rename_i z hz
          obtain ⟨um, hum, h⟩ := bindV_some h
          obtain ⟨uk, huk, h⟩ := bindV_some h
          exact val (lookV_ok hE hR hu hk hz (opc_ok hR hT hum) (opc_ok hR hT huk) h)
        · cases h
      · cases h
    · cases h
  · exact val (buildC_ok hE hR hT h)
  · rename_i x xt asserted ok
    unfold assertC at h
    split at h
    · cases h
    · cases h
    · rename_i d hni hu
      obtain ⟨u, hu', h⟩ := bindV_some h
      have hc := opc_ok hR hT hu'
      simp only [execOp]
      generalize a.eval x = cx at hc ⊢
      split at h
      · rename_i t v'
        rw [bcase_eq] at h
        split at h
        · rename_i ht
          have ht : t = asserted := by simpa using ht
          have h9 := h
          clear h
          subst ht
          cases hc with | if_ _ _ c hv =>
            have e : (Instr.typeAssert (.iface t c) xt t ok).run P w = .ok (if ok then .tuple #[c, .bool true] else c) w := by
              simp only [Instr.typeAssert, Sem.run_bind, run_und hE hu, Result.andThen_ok]
              cases d <;> first | (exfalso; exact hni _ rfl) | (simp only [if_true, Sem.run_pure])
            cases ok
            · cases h9; exact val ⟨c, hv, by simpa using e⟩
            · cases h9; exact val ⟨_, .tu _ _ (.cons _ _ _ _ hv (.cons _ _ _ _ (.b _) .nil)), by simpa using e⟩
        · cases h
      · cases h
  · rename_i it
    obtain ⟨u, hu, h⟩ := bindV_some h
    exact val (entryV_ok hR (opc_ok hR hT hu) h)
  · rename_i c
    split at h
    · rename_i b hb
      obtain ⟨cv, h1, h2⟩ := builtinC_ok hE hR hT ty (c.args.map fun | .const _ => true | _ => false) h
      refine ⟨cv, h1, ?_⟩
      simp only [execOp, resolve, hb, Sem.run_bind, Sem.run_pure, Result.andThen_ok, invoke]
      exact h2
    · cases h
  · cases h
omit hE
end
end Go.AM

/- Writing over rows of cells; operations that make one block. -/
namespace Go.AM
open Go

/-! ### A row spliced -/
def sp (l : List Value) (n : Nat) (vs : List Value) : List Value := l.take n ++ vs ++ l.drop (n + vs.length)

theorem sp_length {l : List Value} {n : Nat} {vs : List Value} (h : n + vs.length ≤ l.length) : (sp l n vs).length = l.length := by
  unfold sp; simp; omega

theorem sp_get {l : List Value} {n : Nat} {vs : List Value} (h : n + vs.length ≤ l.length) (i : Nat) :
    (sp l n vs)[i]? = if i < n then l[i]? else if i < n + vs.length then vs[i - n]? else l[i]? := by
  unfold sp
  have ht : (l.take n).length = n := by simp; omega
  by_cases h1 : i < n
  · rw [if_pos h1, List.append_assoc, List.getElem?_append_left (by omega), List.getElem?_take, if_pos h1]
  · rw [if_neg h1, List.append_assoc, List.getElem?_append_right (by omega), ht]
    by_cases h2 : i < n + vs.length
    · rw [if_pos h2, List.getElem?_append_left (by omega)]
    · rw [if_neg h2, List.getElem?_append_right (by omega), List.getElem?_drop]
      congr 1; omega

theorem win_sp {l : List Value} {base off n : Nat} {vs : List Value} (h1 : base + n ≤ l.length) (h2 : off + vs.length ≤ n) : win (sp l (base + off) vs) base n = sp (win l base n) off vs := by
  have hw : (win l base n).length = n := by unfold win; simp; omega
  apply List.ext_getElem?
  intro i
  rw [sp_get (by omega)]
  by_cases hi : i < n
  · rw [win_get _ _ _ _ hi, win_get _ _ _ _ hi, sp_get (by omega)]
    by_cases c1 : i < off
    · rw [if_pos (by omega), if_pos c1]
    · rw [if_neg (by omega), if_neg c1]
      by_cases c2 : i < off + vs.length
      · rw [if_pos (by omega), if_pos c2]; congr 1; omega
      · rw [if_neg (by omega), if_neg c2]
  · have e1 : (win (sp l (base + off) vs) base n)[i]? = none := List.getElem?_eq_none (by unfold win; simp; omega)
    have e2 : (win l base n)[i]? = none := List.getElem?_eq_none (by omega)
    rw [e1, if_neg (by omega), if_neg (by omega), e2]

theorem setCell_upd {w : World} {b o : Nat} {v : Value} {arr : Array Value} {el : TypeId} {frz : Nat × Nat} (h : w.heap[b]? = some (.cells arr el frz)) :
    Upd w b (.cells (arr.setIfInBounds o v) el frz) (w.setCell ⟨b, o, none⟩ v) := by
  refine ⟨by simp [World.setCell], ?_, ?_, rfl, rfl, rfl⟩
  · simp only [World.setCell, Array.getElem?_modify, if_true, h, Option.map_some]
    simp
  · intro j hj
    simp only [World.setCell, Array.getElem?_modify]
    rw [if_neg (by omega)]

theorem Upd.refl {w : World} {b : Nat} {o : Obj} (h : w.heap[b]? = some o) : Upd w b o w := ⟨rfl, h, fun _ _ => rfl, rfl, rfl, rfl⟩
theorem Upd.trans {w w₁ w₂ : World} {b : Nat} {o o' : Obj} (h : Upd w b o w₁) (h' : Upd w₁ b o' w₂) : Upd w b o' w₂ :=
  ⟨h'.size.trans h.size, h'.self, fun j hj => (h'.other j hj).trans (h.other j hj), h'.os.trans h.os, h'.out.trans h.out, h'.tape.trans h.tape⟩

theorem setCells_upd (vs : List Value) : ∀ {w : World} {b o : Nat} {arr : Array Value} {el : TypeId} {frz : Nat × Nat}, w.heap[b]? = some (.cells arr el frz) → o + vs.length ≤ arr.size →
    Upd w b (.cells (sp arr.toList o vs).toArray el frz) (w.setCells b o vs) := by
  induction vs with
  | nil => intro w b o arr el frz h hl; simpa [sp, World.setCells] using Upd.refl h
  | cons v vs ih =>
    intro w b o arr el frz h hl
    have h1 := setCell_upd (o := o) (v := v) h
    have h2 := ih (o := o + 1) h1.self (by simp at hl ⊢; omega)
    have e : (sp (arr.setIfInBounds o v).toList (o + 1) vs) = sp arr.toList o (v :: vs) := by
      apply List.ext_getElem?
      intro i
      have e3 : (v :: vs).length = vs.length + 1 := rfl
      rw [e3] at hl
      rw [sp_get (by simp at hl ⊢; omega), sp_get (by rw [e3]; simpa using hl), e3]
      simp only [Array.toList_setIfInBounds, List.getElem?_set, Array.length_toList]
      by_cases c1 : i < o
      · rw [if_pos (by omega), if_pos c1, if_neg (by omega)]
      · by_cases c2 : i = o
        · subst c2
          have hlt : i < arr.size := by omega
          have h5 : i < i + (vs.length + 1) := by omega
          simp [hlt, h5]
        · by_cases c3 : i < o + (vs.length + 1)
          · rw [if_neg (by omega), if_neg c1, if_pos (by omega), if_pos c3]
            have : i - o = (i - (o + 1)) + 1 := by omega
            rw [this]; simp
          · rw [if_neg (by omega), if_neg c1, if_neg (by omega), if_neg c3, if_neg (by omega)]
    rw [e] at h2
    exact h1.trans h2

theorem allOne_ok {ρ : Pm} {cs : List V} : ∀ {vs : List Value}, allOne cs = true → RepL ρ cs vs → ∀ v ∈ vs, v.oneCell' = true := by
  induction cs with
  | nil => intro vs _ h; cases h; simp
  | cons x xs ih =>
    intro vs h hr
    cases hr with | cons _ c _ vs hx hs =>
      have h' : bcase (oneV x) (allOne xs) false = true := h
      rw [bcase_eq] at h'
      split at h'
      · rename_i h1
        intro v hv
        rcases List.mem_cons.1 hv with rfl | hv
        · cases hx <;> first | rfl | (simp [oneV] at h1)
        · exact ih h' hs v hv
      · cases h'

section
variable {E : Env} {P : Program} {w : World} {ρ : Pm} {σ : St}

theorem writeK_some {α : Type} {id off : Nat} {cs : List V} {k : St → Option α} {r : α} (h : writeK σ id off cs k = some r) :
    ∃ c el md, σ.get id = some (.cells c el md) ∧ md ≠ .ro ∧ off + cs.length ≤ c.length ∧ allOne cs = true ∧ k (σ.put id (.cells (spl c off cs) el md)) = some r := by
  unfold writeK at h
  split at h
  · cases h
  · rename_i b hb
    split at h
    · rename_i c el md
      split at h
      · cases h
      · rename_i md hmd
        rw [bcase_eq] at h
        split at h
        · rename_i hc
          simp only [Bool.and_eq_true, Nat.ble_eq, lenL_eq] at hc
          rw [splK_eq, St.putK_eq] at h
          exact ⟨_, _, _, hb, hmd, hc.1, hc.2, h⟩
        · cases h
    · cases h

theorem RepMd.set {pl : Pl} {n : Nat} {arr arr' : Array Value} {frz : Nat × Nat} {md : Mode} (h : RepMd pl n arr frz md) (hs : arr'.size = arr.size) : RepMd pl n arr' frz md := by
  cases md <;> simp only [RepMd] at h ⊢
  · exact ⟨h.1, hs.trans h.2.1, h.2.2⟩
  · exact ⟨h.1, hs.trans h.2.1, h.2.2⟩
  · exact ⟨h.1.trans hs.symm, fun j hj => h.2 j (hs ▸ hj)⟩

theorem notRo {c : List V} {el : TypeId} {md : Mode} (h : md ≠ .ro) : (Blk.cells c el md).ro = false := by
  cases md <;> first | rfl | exact absurd rfl h

/-- Cells are written over a row. -/
theorem write_ok (hR : Rel E.gl ρ σ w) {id off : Nat} {cs : List V} {vs : List Value} {c : List V} {el : TypeId} {md : Mode} {pl : Pl} (hg : σ.get id = some (.cells c el md)) (hmd : md ≠ .ro) (hl : off + cs.length ≤ c.length)
    (h1 : allOne cs = true) (hp : ρ id = some pl) (hv : RepL ρ cs vs) :
    ∃ w', Goes E.gl ρ σ w ρ (σ.put id (.cells (spl c off cs) el md)) w' ∧ ∀ P : Program, (storeCells ⟨pl.blk, pl.base + off, none⟩ vs).run P w = .ok () w' := by
  obtain ⟨pl', arr, frz, g1, g2, g3, g4⟩ := hR.cells hg
  rw [hp] at g1; cases g1
  have hcl := g3.length
  have hlen := hv.length
  have hsz : pl.base + c.length ≤ arr.size ∨ c.length = 0 := by
    unfold win at hcl
    simp only [List.length_take, List.length_drop, Array.length_toList] at hcl
    omega
  by_cases h0 : vs = []
  · subst h0
    have e : spl c off cs = c := by
      have : cs = [] := List.eq_nil_of_length_eq_zero hlen
      subst this
      rw [spl_eq _ _ _ hl]; simp
    rw [e]
    refine ⟨w, Goes.upd hR hg (notRo hmd) hp (.cells _ _ _ _ arr frz g3 g4) (Upd.refl g2), fun P => rfl⟩
  · have hpos : 0 < vs.length := List.length_pos_iff.2 h0
    have hbase : pl.base + c.length ≤ arr.size := by omega
    have hu := setCells_upd vs (w := w) (b := pl.blk) (o := pl.base + off) g2 (by omega)
    refine ⟨w.setCells pl.blk (pl.base + off) vs, Goes.upd hR hg (notRo hmd) hp (.cells _ _ _ _ _ frz ?_ ?_) hu, fun P => ?_⟩
    · rw [spl_length]
      rw [List.toList_toArray, win_sp (by simp only [Array.length_toList]; omega) (by omega)]
      exact g3.splice hv hl
    · rw [spl_length]
      exact g4.set (by rw [List.size_toArray, sp_length (by simp only [Array.length_toList]; omega), Array.length_toList])
    · have := run_storeCells_cells (P := P) pl.blk (pl.base + off) vs 0 w ?_ ?_ (allOne_ok h1 hv)
      · simpa using this
      · intro j hj
        have : pl.base + off + j < arr.size := by omega
        simp [World.cell?, g2, this]
      · intro j hj
        have hj' : pl.base + off + 0 + j < arr.size := by omega
        simp only [World.frozen?, g2]
        cases md with
        | ro => exact absurd rfl hmd
        | ex => obtain ⟨_, _, z⟩ := g4; subst z; simp
        | ms =>
          obtain ⟨z1, z2, z3⟩ := g4
          have : ¬ (frz.1 ≤ pl.base + off + j) := by omega
          simp [this]
        | op esz =>
          have := g4.2 _ hj'
          simp only [Bool.and_eq_false_iff, decide_eq_false_iff_not]
          by_cases q : frz.1 ≤ pl.base + off + 0 + j
          · right; intro q2; exact this ⟨q, q2⟩
          · left; exact q

/-! ### New blocks -/
theorem win_all (l : List Value) : win l 0 l.length = l := by unfold win; simp

theorem RepB.new_ex {c : List V} {arr : Array Value} (el : TypeId) (h : RepL ρ c arr.toList) (b k : Nat) : RepB ρ (.cells c el .ex) ⟨b, 0, k⟩ (.cells arr el (0, 0)) := by
  have hl := h.length
  simp only [Array.length_toList] at hl
  refine .cells _ _ _ _ _ _ ?_ ⟨rfl, hl.symm, rfl⟩
  have := win_all arr.toList
  simp only [Array.length_toList] at this
  rw [hl]
  simp only [this]
  exact h

/-- An operation that makes one block has been made. -/
structure MadeOk (P : Program) (ρ : Pm) (w : World) (m : Made) (s : Sem Next) : Prop where
  ex : ∃ (o : Obj) (w₁ : World) (k : Nat) (c : Value), Alk w w₁ ∧ RepB ρ m.blk ⟨w.heap.size, 0, k⟩ o ∧ s.run P w = .ok (.value c) { w₁ with heap := w₁.heap.push o } ∧
    ∀ id ρ', ρ'  id = some ⟨w.heap.size, 0, k⟩ → Rep ρ' (m.how.v id) c

theorem repC_get (z : List V) : ∀ (n i : Nat), (repC n z)[i]? = if i < n * z.length then z[i % z.length]? else none := by
  intro n
  induction n with
  | zero => intro i; simp [repC]
  | succ n ih =>
    intro i
    simp only [repC]
    by_cases h : i < z.length
    · rw [List.getElem?_append_left h, if_pos (by rw [Nat.succ_mul]; omega), Nat.mod_eq_of_lt h]
    · rw [List.getElem?_append_right (by omega), ih]
      have : (i - z.length) % z.length = i % z.length := by
        rw [Nat.mod_eq_sub_mod (a := i) (by omega)]
      rw [this, Nat.succ_mul]
      by_cases h2 : i - z.length < n * z.length
      · rw [if_pos h2, if_pos (by omega)]
      · rw [if_neg h2, if_neg (by omega)]

theorem repC_length (z : List V) : ∀ n, (repC n z).length = n * z.length := by
  intro n
  induction n with
  | zero => simp [repC]
  | succ n ih => simp only [repC, List.length_append, ih, Nat.succ_mul]; omega

theorem repC_rep {z : List V} {z' : Array Value} (h : RepL ρ z z'.toList) (n : Nat) : RepL ρ (repC n z) ((Array.range (n * z'.size)).map (fun i => z'[i % z'.size]!)).toList := by
  have hl := h.length
  simp only [Array.length_toList] at hl
  refine RepL.of_get ?_ ?_
  · rw [repC_length]; simp [hl]
  · intro i v hv
    rw [repC_get, hl] at hv
    split at hv
    · rename_i hi
      obtain ⟨c, h1, h2⟩ := h.get hv
      have hpos : 0 < z'.size := by
        rcases Nat.eq_zero_or_pos z'.size with e | e
        · rw [e] at hi; omega
        · exact e
      refine ⟨c, ?_, h2⟩
      have hlt := Nat.mod_lt i hpos
      simp only [Array.toList_map, Array.toList_range, List.getElem?_map, List.getElem?_range hi, Option.map_some]
      congr 1
      rw [getElem!_pos z' _ hlt]
      simp only [Array.getElem?_toList, Array.getElem?_eq_getElem hlt, Option.some.injEq] at h1
      exact h1
    · cases hv
end
end Go.AM

/- Operations that make one block are the model's. -/
namespace Go.AM
open Go

section
variable {E : Env} {P : Program} (hE : E.Ok P) {w : World} {ρ : Pm} {σ : St}

theorem newVar_run (t : TypeId) (v : Value) : (newVar t v).run P w = .ok ⟨w.heap.size, 0, none⟩ { w with heap := w.heap.push (.cells v.cells t) } := rfl

theorem bytes_cells (ba : ByteArray) : RepL ρ ((ba.data.toList.map UInt8.toNat).map fun b => V.i .u8 (.ofNat b)) (ba.data.map fun b => Value.int .u8 b.toNat).toList := by
  simp only [Array.toList_map]
  induction ba.data.toList with
  | nil => exact .nil
  | cons b l ih => exact .cons _ _ _ _ (.i _ _) ih

theorem freeze_push (w : World) (arr : Array Value) (e : TypeId) : (({ w with heap := w.heap.push (.cells arr e) } : World).freeze { block := w.heap.size, off := arr.size } 1) =
    { w with heap := w.heap.push (.cells arr e (arr.size, arr.size + 1)) } := by
  simp only [World.freeze, Nat.one_ne_zero, if_false]
  congr 1
  apply Array.ext_getElem?
  intro i
  simp only [Array.getElem?_modify, Array.getElem?_push]
  by_cases h : i = w.heap.size
  · subst h; simp
  · rw [if_neg (by omega)]
    simp [h]

include hE
theorem ac_ok (hR : Rel E.gl ρ σ w) {n : Nat} {tm : Tr V} {a : Act} (hT : RepT ρ n tm a.tmps) {o : Oper} {m : Made} (h : (ac E o.op).run tm = some m) : MadeOk P ρ w m (execOp a.eval o) := by
  obtain ⟨dst, op, ty, pos, after, guard⟩ := o
  simp only at h ⊢
  unfold ac at h
  split at h
  · rename_i t
    split at h
    · rename_i z hz
      cases h
      obtain ⟨c, h1, h2⟩ := run_zero hE (w := w) hz
      refine ⟨⟨_, w, 0, _, Alk.refl w, RepB.new_ex t (h1 ρ).cells w.heap.size 0, ?_, fun id ρ' hid => .p id 0 _ hid⟩⟩
      simp only [execOp, Instr.alloc, Sem.run_bind, h2, Result.andThen_ok, newVar_run, Sem.run_pure]
    · cases h
  · rename_i t x
    obtain ⟨v, hv, h⟩ := bindV_some h
    cases h
    refine ⟨⟨_, w, 0, _, Alk.refl w, RepB.new_ex t (opc_ok hR hT hv).cells w.heap.size 0, ?_, fun id ρ' hid => .p id 0 _ hid⟩⟩
    simp only [execOp, Instr.box, Sem.run_bind, Result.andThen_ok, newVar_run, Sem.run_pure]
  · rename_i t len parts
    unfold buildSliceC at h
    split at h
    · rename_i e hu
      split at h
      · rename_i s hs
        split at h
        · rename_i zs hzs
          split at h
          · rename_i hc
            obtain ⟨l, hl, h⟩ := evalParts_ok hR hT h
            rw [forceV_eq] at h
            simp only [Bool.and_eq_true, Nat.ble_eq, Bool.or_eq_true, Nat.beq_eq, lenL_eq] at hc
            have hlim : ¬ (len * s > 2 ^ 24) := by omega
            -- the zero row
            have hzero : ∃ z' : Array Value, ((len * s = 0 ∧ z' = #[]) ∨ (¬ len * s = 0 ∧ ∃ c, (zeroValue e).run P w = .ok c w ∧ z' = c.cells)) ∧ RepL ρ (repC len zs) ((Array.range (len * s)).map (fun i => z'[i % z'.size]!)).toList := by
              rw [bcase_eq] at hzs
              split at hzs
              · rename_i h0
                have h0 : len * s = 0 := by simpa using h0
                cases hzs
                refine ⟨#[], .inl ⟨h0, rfl⟩, ?_⟩
                have : repC len ([] : List V) = [] := List.eq_nil_of_length_eq_zero (by rw [repC_length]; simp)
                rw [this, h0]
                simpa using RepL.nil
              · rename_i h0
                have h0 : ¬ len * s = 0 := by simpa using h0
                split at hzs
                · rename_i z hz
                  cases hzs
                  obtain ⟨c, h1, h2⟩ := run_zero hE (w := w) hz
                  have hlen := (h1 ρ).cells.length
                  simp only [Array.length_toList] at hlen
                  have hsz : c.cells.size = s := by rw [← hlen]; rcases hc.2 with x | x <;> omega
                  refine ⟨c.cells, .inr ⟨h0, c, h2, rfl⟩, ?_⟩
                  have := repC_rep (h1 ρ).cells len
                  rw [hsz] at this ⊢
                  exact this
                · cases hzs
            obtain ⟨z', hz1, hz2⟩ := hzero
            obtain ⟨cs, cs', h3, h4, h5, _⟩ := fillK_ok (place' := fun i => some (i * s, s)) (fun i q hq => hq) hl hz2 h
            cases h5
            refine ⟨⟨_, w, 0, _, Alk.refl w, RepB.new_ex e h3 w.heap.size 0, ?_, fun id ρ' hid => .se id 0 _ _ _ hid⟩⟩
            rcases hz1 with ⟨h0, rfl⟩ | ⟨h0, c, hz1, rfl⟩
            · simp only [execOp, Instr.buildSlice, Sem.run_bind, run_und hE hu, Result.andThen_ok, run_size hE hs, hlim, if_false, if_pos h0, Array.toList_map, Sem.run_pure]
              rw [h4]
              rfl
            · simp only [execOp, Instr.buildSlice, Sem.run_bind, run_und hE hu, Result.andThen_ok, run_size hE hs, hlim, if_false, if_neg h0, hz1, Array.toList_map, Sem.run_pure]
              rw [h4]
              rfl
          · cases h
        · cases h
      · cases h
    · cases h
  · rename_i t r
    split at h
    · split at h
      · cases h
        exact ⟨⟨.map #[] 0, w, 0, _, Alk.refl w, .map _ _ _ _ .nil, rfl, fun id ρ' hid => .m id _ hid⟩⟩
      · cases h
    · cases h
  · rename_i src dst' x
    split at h
    · rename_i e h1 h2
      split at h
      · rename_i h3 hs
        obtain ⟨v, hv, h⟩ := bindV_some h
        split at h
        · rename_i l
          unfold retBytes at h
          rw [forceV_eq, forceN_eq] at h
          cases h
          have hr := opc_ok hR hT hv
          simp only [execOp]
          generalize a.eval x = cx at hr ⊢
          cases hr with | s _ ba hb =>
            subst hb
            let q : Question := .appendCap ba.size 0 e
            let cap := q.cut (w.tape w.drawn q)
            have hcap : ba.size ≤ cap := by
              show ba.size ≤ ba.size + _ % _
              omega
            let arr : Array Value := (ba.data.map fun b => Value.int .u8 b.toNat) ++ Array.replicate (cap - ba.size) (.int .u8 0)
            have hsz : arr.size = cap := by
              have : ba.data.size = ba.size := rfl
              simp [arr]; omega
            refine ⟨⟨.cells arr e (arr.size, arr.size + 1), { w with drawn := w.drawn + 1 }, cap, .slice (some ⟨w.heap.size, 0, none⟩) ba.size cap, ⟨rfl, rfl, rfl, rfl⟩, ?_, ?_, ?_⟩⟩
            · refine .cells _ _ _ _ _ _ ?_ ⟨by simp [hsz], fun j hj => by simp only; omega⟩
              simp only [win, List.drop_zero, arr, Array.toList_append]
              have := bytes_cells (ρ := ρ) ba
              have hlen := this.length
              rw [hlen, List.take_left]
              exact this
            · have hconv : (Go.convert src dst' (.string ba)).run P w = (Conv.stringToBytes e ba).run P w := by
                simp only [Go.convert, Sem.run_bind, run_und hE h1, run_und hE h2, Result.andThen_ok, run_und hE h3]
              simp only [Sem.run_bind, hconv, Conv.stringToBytes, run_choose, Question.forced, Bool.false_eq_true, if_false, Result.andThen_ok]
              show Result.andThen (Result.andThen ((newRow e arr).run P _) _) _ = _
              simp only [newRow, Sem.run_bind, run_newObj, Result.andThen_ok, Sem.run_pure, markStringish, run_shape]
              have hshape : ({ w with heap := w.heap.push (.cells arr e), drawn := w.drawn + 1 } : World).shape? w.heap.size = some (e, arr.size) := by simp [World.shape?]
              simp only [hshape, run_freeze, Result.andThen_ok, Sem.run_pure]
              have := freeze_push { w with drawn := w.drawn + 1 } arr e
              rw [this]
            · intro id ρ' hid
              have e : lenL (ba.data.toList.map UInt8.toNat) = ba.size := by rw [lenL_eq]; simp
              show Rep ρ' (.sl (some (id, 0)) (lenL (ba.data.toList.map UInt8.toNat)) (.op 0)) _
              rw [e]
              exact .so id 0 ba.size 0 _ hid (by simpa using hcap)
        · cases h
      · cases h
    · cases h
  · cases h
omit hE
end
end Go.AM
