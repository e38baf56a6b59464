/- Functions without a body are the model's (1): atomics. -/
import Derived.Test.YtcpkjcpghmnklaaGreatDoorD
import Derived.Laws.LoneSync
set_option linter.all false

/- Functions without a body are the model's (1): atomics. -/
namespace Go.AM
open Go

section
variable {E : Env} {P : Program} {w : World} {ρ : Pm} {σ : St}

theorem readI_some {α : Type} {k : IntKind} {id off : Nat} {f : Int → Option α} {r : α} (h : readI σ k id off f = some r) : ∃ c el md m, σ.get id = some (.cells c el md) ∧ c[off]? = some (.i k m) ∧ f m = some r := by
  unfold readI at h
  obtain ⟨c, el, md, hc, h⟩ := cellsAt_some h
  obtain ⟨v, hv, h⟩ := bindV_some h
  rw [nth_eq] at hv
  split at h
  · rename_i k' m
    rw [bcase_eq] at h
    split at h
    · rename_i hk
      have := kEq_iff hk
      subst this
      exact ⟨c, el, md, m, hc, hv, h⟩
    · cases h
  · cases h

theorem read_run (hR : Rel E.gl ρ σ w) {k : IntKind} {id off : Nat} {c : List V} {el : TypeId} {md : Mode} {m : Int} {pl : Pl} (hc : σ.get id = some (.cells c el md)) (hv : c[off]? = some (.i k m)) (hp : ρ id = some pl) :
    (Extern.Atomic.read (.int k) ⟨pl.blk, pl.base + off, none⟩).run P w = .ok (.int k m) w ∧ w.cell? ⟨pl.blk, pl.base + off, none⟩ = some (.int k m) := by
  obtain ⟨cv, h1, h2⟩ := hR.cell hc hv hp
  cases h2
  exact ⟨by simp [Extern.Atomic.read, h1], h1⟩

theorem store_run (hR : Rel E.gl ρ σ w) {id off : Nat} {v : V} {cv : Value} {k : St → Option VS} {r : VS} (hv : Rep ρ v cv) {pl : Pl} (hp : ρ id = some pl) (h : writeK σ id off [v] k = some r) :
    ∃ c el md w', σ.get id = some (.cells c el md) ∧ k (σ.put id (.cells (spl c off [v]) el md)) = some r ∧ Goes E.gl ρ σ w ρ (σ.put id (.cells (spl c off [v]) el md)) w' ∧ ∀ P : Program, (store ⟨pl.blk, pl.base + off, none⟩ cv .atomic).run P w = .ok () w' := by
  obtain ⟨c, el, md, h1, h2, h3, h4, h5⟩ := writeK_some h
  obtain ⟨w', h6, h7⟩ := write_ok hR h1 h2 h3 h4 hp (vs := [cv]) (.cons _ _ _ _ hv .nil)
  refine ⟨c, el, md, w', h1, h5, h6, fun P => ?_⟩
  have hone : cv.oneCell' = true := allOne_ok h4 (.cons _ _ _ _ hv .nil) cv (List.mem_singleton.2 rfl)
  have hs := h7 P
  have hcell : ∃ x, w.cell? ⟨pl.blk, pl.base + off, none⟩ = some x := by
    have hl : off < c.length := by simp at h3; omega
    obtain ⟨x, hx, _⟩ := hR.cell h1 (List.getElem?_eq_getElem hl) hp
    exact ⟨x, hx⟩
  obtain ⟨x, hx⟩ := hcell
  have e0 : (⟨pl.blk, pl.base + off, none⟩ : Addr).add 0 = ⟨pl.blk, pl.base + off, none⟩ := by rw [add_addr]; rfl
  simp only [storeCells, e0, Sem.run_bind] at hs
  rw [run_store P w _ cv .plain hone, hx] at hs
  rw [run_store P w _ cv .atomic hone, hx]
  simp only at hs ⊢
  split at hs
  · cases hs
  · rename_i hf
    rw [if_neg hf]
    exact hs
end
end Go.AM

/- Functions without a body are the model's (2): the rows. -/
namespace Go.AM
open Go

/-- Which row of the model is meant. -/
inductive RowIs : Ext → (Array Value → Sem Value) → Prop
  | add (k : IntKind) : RowIs (.add k) (Extern.Atomic.update (Op.intArith .add) k true)
  | load (k : IntKind) : RowIs (.load k) (Extern.Atomic.loadT (.int k))
  | store : RowIs .store Extern.Atomic.storeT
  | cas (k : IntKind) : RowIs (.cas k) (Extern.Atomic.casT (.int k))
  | nothing (row : Array Value → Sem Value) (h : ∀ args P w, (row args).run P w = .ok (.tuple #[]) w) : RowIs .nothing row
  | at_ (m : Addr → Mark) : RowIs .at_ (Extern.Race.marked m)

section
variable {E : Env} {P : Program} {w : World} {ρ : Pm} {σ : St}

theorem arr1 {cargs : Array Value} {x : V} (h : RepL ρ [x] cargs.toList) : ∃ c, cargs = #[c] ∧ Rep ρ x c := by
  obtain ⟨l⟩ := cargs
  cases h with | cons _ c _ _ hx hs => cases hs; exact ⟨c, rfl, hx⟩
theorem arr2' {cargs : Array Value} {x y : V} (h : RepL ρ [x, y] cargs.toList) : ∃ c d, cargs = #[c, d] ∧ Rep ρ x c ∧ Rep ρ y d := by
  obtain ⟨l⟩ := cargs
  cases h with | cons _ c _ _ hx hs => cases hs with | cons _ d _ _ hy hs => cases hs; exact ⟨c, d, rfl, hx, hy⟩
theorem arr3 {cargs : Array Value} {x y z : V} (h : RepL ρ [x, y, z] cargs.toList) : ∃ c d e, cargs = #[c, d, e] ∧ Rep ρ x c ∧ Rep ρ y d ∧ Rep ρ z e := by
  obtain ⟨l⟩ := cargs
  cases h with | cons _ c _ _ hx hs => cases hs with | cons _ d _ _ hy hs => cases hs with | cons _ e _ _ hz hs => cases hs; exact ⟨c, d, e, rfl, hx, hy, hz⟩

theorem row_ok {e : Ext} {row : Array Value → Sem Value} (hrow : RowIs e row) (hR : Rel E.gl ρ σ w) {args : List V} {cargs : Array Value} (ha : RepL ρ args cargs.toList) {vs : VS} (h : extF e args σ = some vs) :
    ∃ c w', (row cargs).run P w = .ok c w' ∧ ValPost E.gl ρ σ w vs c w' := by
  unfold extF at h
  split at h
  · -- add
    rename_i k p d
    cases hrow
    obtain ⟨cp, cd, rfl, hp, hd⟩ := arr2' ha
    obtain ⟨id, off, e0, hn⟩ := ptr_some h
    clear h
    subst e0
    obtain ⟨pl, hpl, rfl⟩ := hp.ptr_inv
    split at hn
    · rename_i k' d
      rw [bcase_eq] at hn
      split at hn
      · rename_i hk
        have := kEq_iff hk
        subst this
        cases hd
        obtain ⟨c, el, md, m, h1, h2, h3⟩ := readI_some hn
        rw [forceI_eq] at h3
        obtain ⟨r1, r2⟩ := read_run (P := P) hR h1 h2 hpl
        obtain ⟨c', el', md', w', s1, s2, s3, s4⟩ := store_run hR (cv := .int k (wr k (Int.add m d))) (.i _ _) hpl h3
        cases s2
        refine ⟨.int k (wr k (Int.add m d)), w', ?_, ρ, s3, .i _ _⟩
        have s4' := s4 P
        show Sem.run P (do
          let a ← asAddr (.pointer (some ⟨pl.blk, pl.base + off, none⟩))
          let old ← Extern.Atomic.read (.int k) a
          let new ← Op.intArith .add k (← asInt old) (← asInt (.int k d))
          store a new .atomic
          pure (if true = true then new else old)) w = _
        simp only [asAddr, Sem.run_bind, Sem.run_pure, Result.andThen_ok, r1, asInt, asIntOf]
        simp only [Op.intArith, Sem.run_pure, Result.andThen_ok, if_true]
        rw [wr_eq] at s4' ⊢
        have e : Int.add m d = m + d := rfl
        rw [e] at s4' ⊢
        rw [s4']
        rfl
      · cases hn
    · cases hn
  · -- load
    rename_i k p
    cases hrow
    obtain ⟨cp, rfl, hp⟩ := arr1 ha
    obtain ⟨id, off, e0, hn⟩ := ptr_some h
    clear h
    subst e0
    obtain ⟨pl, hpl, rfl⟩ := hp.ptr_inv
    obtain ⟨c, el, md, m, h1, h2, h3⟩ := readI_some hn
    cases h3
    obtain ⟨r1, r2⟩ := read_run (P := P) hR h1 h2 hpl
    refine ⟨.int k m, w, ?_, ρ, Goes.refl hR, .i _ _⟩
    show Sem.run P (do Extern.Atomic.read (.int k) (← asAddr (.pointer (some ⟨pl.blk, pl.base + off, none⟩)))) w = _
    simp only [asAddr, Sem.run_bind, Sem.run_pure, Result.andThen_ok, r1]
  · -- store
    rename_i p v
    cases hrow
    obtain ⟨cp, cv, rfl, hp, hv⟩ := arr2' ha
    obtain ⟨id, off, e0, hn⟩ := ptr_some h
    clear h
    subst e0
    obtain ⟨pl, hpl, rfl⟩ := hp.ptr_inv
    obtain ⟨c', el', md', w', s1, s2, s3, s4⟩ := store_run hR hv hpl hn
    cases s2
    refine ⟨.tuple #[], w', ?_, ρ, s3, .tu _ _ .nil⟩
    show Sem.run P (do
      store (← asAddr (.pointer (some ⟨pl.blk, pl.base + off, none⟩))) cv .atomic
      pure Extern.Atomic.none_) w = _
    simp only [asAddr, Sem.run_bind, Sem.run_pure, Result.andThen_ok, s4 P]
    rfl
  · -- compare and swap
    rename_i k p old new
    cases hrow
    obtain ⟨cp, co, cn, rfl, hp, ho, hv⟩ := arr3 ha
    obtain ⟨id, off, e0, hn⟩ := ptr_some h
    clear h
    subst e0
    obtain ⟨pl, hpl, rfl⟩ := hp.ptr_inv
    split at hn
    · rename_i ko old
      cases ho
      obtain ⟨c, el, md, m, h1, h2, h3⟩ := readI_some hn
      obtain ⟨r1, r2⟩ := read_run (P := P) hR h1 h2 hpl
      rw [bcase_eq] at h3
      split at h3
      · rename_i hex
        have hfz : w.frozen? ⟨pl.blk, pl.base + off, none⟩ = false := by
          unfold isEx at hex
          split at hex
          · rename_i c2 el2 hx
            obtain ⟨pl2, arr, frz, q1, q2, q3, q4⟩ := hR.cells hx
            rw [hpl] at q1; cases q1
            obtain ⟨_, _, z⟩ := q4
            subst z
            simp [World.frozen?, q2]
          · cases hex
        rw [bcase_eq] at h3
        have hsh := World.shape?_isSome_of_cell? r2
        split at h3
        · rename_i heq
          rw [eqI_eq] at heq
          have heq : m = old := by simpa using heq
          subst heq
          obtain ⟨c', el', md', w', s1, s2, s3, s4⟩ := store_run hR hv hpl h3
          cases s2
          refine ⟨.bool true, w', ?_, ρ, s3, .b _⟩
          have s4' := s4 P
          show Sem.run P (do
            let a' ← asAddr (.pointer (some ⟨pl.blk, pl.base + off, none⟩))
            if ← Extern.Atomic.touchesFrozen a' then unsupported (.unsafePointer "a write to bytes that a string shares")
            let eq ← match Extern.Atomic.T.int k, ← Extern.Atomic.read (.int k) a', Value.int ko m with
              | _, .int _ x, .int _ y => pure (x == y)
              | .ptr, .pointer x, .pointer y => samePointer x y
              | .int _, .pointer (some _), .int _ 0 | .int _, .int _ 0, .pointer (some _) => pure false
              | .int _, .pointer (some _), _ | .int _, _, .pointer (some _) => unsupported .addressObserved
              | _, _, _ => stuck "atomic.CompareAndSwap: old is no T"
            if eq then store a' cn .atomic
            pure (Value.bool eq)) w = _
          simp only [asAddr, Sem.run_bind, Sem.run_pure, Result.andThen_ok, Extern.Atomic.touchesFrozen, viewAt, run_shape, hsh, if_true, run_frozen, hfz, Bool.false_eq_true, if_false, r1, beq_self_eq_true, s4']
        · rename_i heq
          rw [eqI_eq] at heq
          have heq : (m == old) = false := by simpa using heq
          cases h3
          refine ⟨.bool false, w, ?_, ρ, Goes.refl hR, .b _⟩
          show Sem.run P (do
            let a' ← asAddr (.pointer (some ⟨pl.blk, pl.base + off, none⟩))
            if ← Extern.Atomic.touchesFrozen a' then unsupported (.unsafePointer "a write to bytes that a string shares")
            let eq ← match Extern.Atomic.T.int k, ← Extern.Atomic.read (.int k) a', Value.int ko old with
              | _, .int _ x, .int _ y => pure (x == y)
              | .ptr, .pointer x, .pointer y => samePointer x y
              | .int _, .pointer (some _), .int _ 0 | .int _, .int _ 0, .pointer (some _) => pure false
              | .int _, .pointer (some _), _ | .int _, _, .pointer (some _) => unsupported .addressObserved
              | _, _, _ => stuck "atomic.CompareAndSwap: old is no T"
            if eq then store a' cn .atomic
            pure (Value.bool eq)) w = _
          simp only [asAddr, Sem.run_bind, Sem.run_pure, Result.andThen_ok, Extern.Atomic.touchesFrozen, viewAt, run_shape, hsh, if_true, run_frozen, hfz, Bool.false_eq_true, if_false, r1, heq]
      · cases h3
    · cases hn
  · -- nothing
    cases hrow with | nothing row hrow =>
    cases h
    exact ⟨_, w, hrow cargs P w, ρ, Goes.refl hR, .tu _ _ .nil⟩
  · -- a mark
    rename_i p rest
    cases hrow with | at_ m =>
    obtain ⟨l⟩ := cargs
    cases ha with | cons _ c _ cs hp hs =>
    obtain ⟨id, off, e0, hn⟩ := ptr_some h
    clear h
    subst e0
    cases hn
    obtain ⟨pl, hpl, rfl⟩ := hp.ptr_inv
    refine ⟨.tuple #[], w, ?_, ρ, Goes.refl hR, .tu _ _ .nil⟩
    simp [Extern.Race.marked, Extern.Race.at_, Extern.Race.none_]
  · cases hrow
  · cases hrow
  · cases h

/-- What is asked of the table of functions without a body. -/
structure Env.Ext (E : Env) : Prop where
  ext : ∀ f e, E.ext.get f = some e → ∃ fn row, E.fn.get f = some fn ∧ fn.body = none ∧ Extern.findNext fn = none ∧ Extern.find fn = some row ∧ RowIs e row

theorem extOk (hE : E.Ok P) (hN : E.Nm) (hX : Env.Ext E) : ExtOk E P := by
  intro f e he args σ vs h ρ w cargs hR ha _
  obtain ⟨fn, row, hf, hb, hn, hrow, hk⟩ := hX.ext f e he
  obtain ⟨c, w', h1, h2⟩ := row_ok (P := P) hk hR ha h
  refine ⟨c, w', ?_, h2⟩
  rw [run_callFunc_extern (hE.fn _ _ hf) (hN.nm _ _ hf) (by rw [hb]; rfl) hn hrow, h1]
  rfl
end
end Go.AM

/- Functions without a body are the model's (3): bytes. -/
namespace Go.AM
open Go

section
variable {E : Env} {P : Program} {w : World} {ρ : Pm} {σ : St}

theorem loadBytes_run : ∀ (l : List Nat) (b off : Nat) (acc : ByteArray), (∀ x ∈ l, x < 256) → (∀ j x, l[j]? = some x → w.cell? ⟨b, off + j, none⟩ = some (.int .u8 (.ofNat x))) →
    (Extern.Bytes.loadBytes ⟨b, off, none⟩ l.length acc).run P w = .ok (l.foldl (fun s b => s.push (UInt8.ofNat b)) acc) w := by
  intro l
  induction l with
  | nil => intro b off acc _ _; rfl
  | cons x l ih =>
    intro b off acc h1 h2
    have h0 := h2 0 x rfl
    simp only [Nat.add_zero] at h0
    have hadd : (⟨b, off, none⟩ : Addr).add 1 = ⟨b, off + 1, none⟩ := add_addr _ _ _
    simp only [List.length_cons, Extern.Bytes.loadBytes, Sem.run_bind, run_load, h0, Result.andThen_ok, hadd]
    rw [ih b (off + 1) _ (fun y hy => h1 y (List.mem_cons_of_mem _ hy)) (fun j y hj => by
      have := h2 (j + 1) y (by simpa using hj)
      rw [show off + 1 + j = off + (j + 1) by omega]; exact this)]
    rfl

theorem bytesArg_ok {α : Type} (hR : Rel E.gl ρ σ w) {x : V} {cx : Value} {k : List Nat → Option α} {r : α} (hx : Rep ρ x cx) (h : bytesArg σ x k = some r) :
    ∃ ba : ByteArray, k (ba.data.toList.map UInt8.toNat) = some r ∧ (Extern.Bytes.bytesOf cx).run P w = .ok ba w := by
  unfold bytesArg at h
  split at h
  · rename_i l
    cases hx with | s _ ba hb =>
    subst hb
    exact ⟨ba, h, rfl⟩
  · rename_i a n c
    obtain ⟨vs, h1, h2⟩ := sliceCells_k h
    obtain ⟨l, e, hlt, hk⟩ := bytesOfL_some h2
    have hback : (l.foldl (fun s b => s.push (UInt8.ofNat b)) ByteArray.empty).data.toList.map UInt8.toNat = l := by
      rw [foldl_push]
      show ([] ++ l.map UInt8.ofNat).map UInt8.toNat = l
      rw [List.nil_append]; exact bytes_back l hlt
    refine ⟨l.foldl (fun s b => s.push (UInt8.ofNat b)) .empty, by rw [hback]; exact hk, ?_⟩
    unfold sliceCells at h1
    cases a with
    | none =>
      simp only [bcase_eq] at h1
      split at h1
      · cases h1
        have hl : l = [] := by cases l with | nil => rfl | cons y ys => simp at e
        subst hl
        cases hx; rfl
      · cases h1
    | some p =>
      simp only [bcase_eq, Nat.mul_one] at h1
      split at h1
      · rename_i h0
        have h0 : n = 0 := by simpa using h0
        subst h0
        cases h1
        have hl : l = [] := by cases l with | nil => rfl | cons y ys => simp at e
        subst hl
        cases hx <;> rfl
      · rename_i h0
        have h0 : ¬ n = 0 := by simpa using h0
        obtain ⟨c', el, md, hc, h1⟩ := cellsAt_some h1
        obtain ⟨hle, h1⟩ := rangeK_some h1
        cases h1
        have hlen : l.length = n := by
          have := congrArg List.length e
          simp at this; omega
        have cell : ∀ pl, ρ p.1 = some pl → ∀ j y, l[j]? = some y → w.cell? ⟨pl.blk, pl.base + p.2 + j, none⟩ = some (.int .u8 (.ofNat y)) := by
          intro pl hp j y hj
          have hv : c'[p.2 + j]? = some (.i .u8 (.ofNat y)) := by
            have hjl : j < l.length := (List.getElem?_eq_some_iff.1 hj).1
            have h3 : (l.map (fun b => V.i .u8 (.ofNat b)))[j]? = some (.i .u8 (.ofNat y)) := by simp [hj]
            rw [← e, List.getElem?_take, if_pos (by omega), List.getElem?_drop] at h3
            exact h3
          obtain ⟨cv, q1, q2⟩ := hR.cell hc hv hp
          cases q2
          rw [Nat.add_assoc]; exact q1
        cases hx with
        | se id off _ _ pl hp =>
          have := loadBytes_run (P := P) l pl.blk (pl.base + off) .empty hlt (cell pl hp)
          rw [hlen] at this; exact this
        | so id off _ _ pl hp hd =>
          have := loadBytes_run (P := P) l pl.blk (pl.base + off) .empty hlt (cell pl hp)
          rw [hlen] at this; exact this
        | sz id off _ pl a hp hd => exact absurd rfl h0
  · cases h
end
end Go.AM

/- Functions without a body are the model's (4): bytealg. -/
namespace Go.AM
open Go

theorem idx_find (c : UInt8) : ∀ (l : List UInt8) (k : Nat), idxL c.toNat (l.map UInt8.toNat) k = match (List.range l.length).find? (fun i => decide (l[i]? = some c)) with | some i => ((k + i : Nat) : Int) | none => -1 := by
  intro l
  induction l with
  | nil => intro k; rfl
  | cons x l ih =>
    intro k
    simp only [List.map_cons, idxL, bcase_eq, List.length_cons, List.range_succ_eq_map, List.find?_cons, List.getElem?_cons_zero, List.find?_map]
    by_cases h : x = c
    · subst h; simp
    · have h1 : ¬ (Nat.beq x.toNat c.toNat = true) := by
        simp only [Nat.beq_eq]
        exact fun e => h (UInt8.toNat_inj.1 e)
      have h2 : ¬ (some x = some c) := by simpa using h
      rw [if_neg h1, ih (k + 1)]
      simp only [h2, decide_false]
      have e : ((fun i => decide ((x :: l)[i]? = some c)) ∘ Nat.succ) = fun i => decide (l[i]? = some c) := by funext i; simp
      rw [e]
      cases (List.range l.length).find? (fun i => decide (l[i]? = some c)) with
      | none => rfl
      | some i => simp only [Option.map_some]; congr 1; omega

theorem find_congr {α : Type} {p q : α → Bool} : ∀ {l : List α}, (∀ x ∈ l, p x = q x) → l.find? p = l.find? q := by
  intro l
  induction l with
  | nil => intro _; rfl
  | cons x l ih =>
    intro h
    rw [List.find?_cons, List.find?_cons, h x (List.mem_cons_self ..), ih (fun y hy => h y (List.mem_cons_of_mem _ hy))]

theorem find_bytes (b : ByteArray) (c : UInt8) : (List.range b.size).find? (fun i => b[i]! == c) = (List.range b.data.toList.length).find? (fun i => decide (b.data.toList[i]? = some c)) := by
  have hs : b.data.toList.length = b.size := by simp
  rw [hs]
  apply find_congr
  intro i hi
  have hi := List.mem_range.1 hi
  have h1 : b[i]! = b[i] := getElem!_pos b i hi
  have h2 : b.data.toList[i]? = some b[i] := by
    rw [Array.getElem?_toList]
    exact Array.getElem?_eq_getElem hi
  rw [h1, h2]
  by_cases q : b[i] = c <;> simp [q]

section
variable {E : Env} {P : Program} {w : World} {ρ : Pm} {σ : St}

theorem indexByte_ok (hR : Rel E.gl ρ σ w) {args : List V} {cargs : Array Value} (ha : RepL ρ args cargs.toList) {vs : VS} (h : extF .indexByte args σ = some vs) :
    ∃ c w', (Extern.BytealgIndexByte.indexByte cargs).run P w = .ok c w' ∧ ValPost E.gl ρ σ w vs c w' := by
  unfold extF at h
  split at h
  all_goals first | (rename_i he; cases he; done) | skip
  · rename_i b c
    obtain ⟨cb, cc, rfl, hb, hc⟩ := arr2' ha
    split at h
    · rename_i k c
      split at h
      · rename_i c
        rw [bcase_eq] at h
        split at h
        · rename_i hk
          simp only [Bool.and_eq_true, Nat.blt_eq] at hk
          have := kEq_iff hk.1
          subst this
          cases hc
          obtain ⟨ba, h1, h2⟩ := bytesArg_ok (P := P) hR hb h
          rw [forceI_eq] at h1
          cases h1
          have hcn : (UInt8.ofNat c).toNat = c := by
            simp; omega
          refine ⟨goInt (idxL c (ba.data.toList.map UInt8.toNat) 0), w, ?_, ρ, Goes.refl hR, .i _ _⟩
          show Sem.run P (do
            let b ← Extern.Bytes.bytesOf cb
            let c ← Extern.Bytes.asByte (.int .u8 (Int.ofNat c))
            match (List.range b.size).find? fun i => b[i]! == c with
            | some i => pure (goInt i)
            | none => pure (goInt (-1))) w = _
          have hc8 : (Int.ofNat c).toNat.toUInt8 = UInt8.ofNat c := rfl
          simp only [Sem.run_bind, h2, Result.andThen_ok, Extern.Bytes.asByte, Sem.run_pure, hc8]
          rw [find_bytes]
          have hf := idx_find (UInt8.ofNat c) ba.data.toList 0
          rw [hcn] at hf
          rw [hf]
          cases (List.range ba.data.toList.length).find? (fun i => decide (ba.data.toList[i]? = some (UInt8.ofNat c))) with
          | none => rfl
          | some i => simp
        · cases h
      · cases h
    · cases h
  · cases h
end
end Go.AM

/- Functions without a body are the model's (5): bytealg.Compare. -/
namespace Go.AM
open Go

def cmpS (x y : List UInt8) : Int :=
  match (List.range (min x.length y.length)).find? (fun i => decide (x[i]? ≠ y[i]?)) with
  | some i => if x.getD i 0 < y.getD i 0 then -1 else 1
  | none => if x.length < y.length then -1 else if x.length > y.length then 1 else 0

theorem cmp_list : ∀ (x y : List UInt8), cmpL (x.map UInt8.toNat) (y.map UInt8.toNat) = cmpS x y := by
  intro x
  induction x with
  | nil => intro y; cases y <;> simp [cmpL, cmpS]
  | cons a x ih =>
    intro y
    cases y with
    | nil => simp [cmpL, cmpS]
    | cons b y =>
      simp only [List.map_cons, cmpL, bcase_eq, ih]
      have hm : min (a :: x).length (b :: y).length = min x.length y.length + 1 := by simp
      unfold cmpS
      rw [hm, List.range_succ_eq_map, List.find?_cons, List.find?_map]
      by_cases h : a = b
      · subst h
        have e : ((fun i => decide ((a :: x)[i]? ≠ (a :: y)[i]?)) ∘ Nat.succ) = fun i => decide (x[i]? ≠ y[i]?) := by funext i; simp
        rw [e]
        simp only [List.getElem?_cons_zero, ne_eq, not_true_eq_false, decide_false, Nat.beq_eq, if_true]
        cases (List.range (min x.length y.length)).find? (fun i => decide (¬ x[i]? = y[i]?)) with
        | none => simp
        | some i => simp
      · have h1 : ¬ a.toNat = b.toNat := fun e => h (UInt8.toNat_inj.1 e)
        have h2 : ¬ (some a = some b) := by simpa using h
        simp only [List.getElem?_cons_zero, ne_eq, h2, not_false_eq_true, decide_true, Nat.beq_eq, h1, if_false, Nat.blt_eq, List.getD_cons_zero, UInt8.lt_iff_toNat_lt]

theorem cmp_bytes (a b : ByteArray) : Extern.BytealgCompare.cmp a b = cmpS a.data.toList b.data.toList := by
  unfold Extern.BytealgCompare.cmp cmpS
  have ha : a.data.toList.length = a.size := by simp
  have hb : b.data.toList.length = b.size := by simp
  have get : ∀ (x : ByteArray) (i : Nat), i < x.size → x.data.toList[i]? = some (x[i]!) ∧ x.data.toList.getD i 0 = x[i]! := by
    intro x i hi
    have h1 : x[i]! = x[i] := getElem!_pos x i hi
    have h2 : x.data.toList[i]? = some x[i] := by
      rw [Array.getElem?_toList]
      exact Array.getElem?_eq_getElem hi
    exact ⟨by rw [h1, h2], by rw [List.getD_eq_getElem?_getD, h2, h1]; rfl⟩
  have hf : (List.range (min a.size b.size)).find? (fun i => a[i]! != b[i]!) = (List.range (min a.data.toList.length b.data.toList.length)).find? (fun i => decide (a.data.toList[i]? ≠ b.data.toList[i]?)) := by
    rw [ha, hb]
    apply find_congr
    intro i hi
    have hi := List.mem_range.1 hi
    rw [(get a i (by omega)).1, (get b i (by omega)).1]
    by_cases q : a[i]! = b[i]! <;> simp [q]
  rw [hf]
  cases hq : (List.range (min a.data.toList.length b.data.toList.length)).find? (fun i => decide (a.data.toList[i]? ≠ b.data.toList[i]?)) with
  | none => simp only [ha, hb]
  | some i =>
    have hi := List.mem_range.1 (List.mem_of_find?_eq_some hq)
    rw [ha, hb] at hi
    simp only [(get a i (by omega)).2, (get b i (by omega)).2]

section
variable {E : Env} {P : Program} {w : World} {ρ : Pm} {σ : St}

theorem compare_ok (hR : Rel E.gl ρ σ w) {args : List V} {cargs : Array Value} (ha : RepL ρ args cargs.toList) {vs : VS} (h : extF .cmp args σ = some vs) :
    ∃ c w', (Extern.BytealgCompare.compare cargs).run P w = .ok c w' ∧ ValPost E.gl ρ σ w vs c w' := by
  unfold extF at h
  split at h
  all_goals first | (rename_i he; cases he; done) | skip
  · rename_i a b
    obtain ⟨ca, cb, rfl, hca, hcb⟩ := arr2' ha
    obtain ⟨x, h1, h2⟩ := bytesArg_ok (P := P) hR hca h
    obtain ⟨y, h3, h4⟩ := bytesArg_ok (P := P) hR hcb h1
    rw [forceI_eq] at h3
    cases h3
    refine ⟨goInt (cmpL (x.data.toList.map UInt8.toNat) (y.data.toList.map UInt8.toNat)), w, ?_, ρ, Goes.refl hR, .i _ _⟩
    show Sem.run P (do pure (goInt (Extern.BytealgCompare.cmp (← Extern.Bytes.bytesOf ca) (← Extern.Bytes.bytesOf cb)))) w = _
    simp only [Sem.run_bind, h2, Result.andThen_ok, h4, Sem.run_pure, cmp_bytes, cmp_list]
  · cases h
end
end Go.AM

/- Functions without a body are the model's (6): the table. -/
namespace Go.AM
open Go

/-- Which row of the model is meant (all of them). -/
inductive RowAt : Ext → (Array Value → Sem Value) → Prop
  | of {e : Ext} {row : Array Value → Sem Value} (h : RowIs e row) : RowAt e row
  | cmp : RowAt .cmp Extern.BytealgCompare.compare
  | indexByte : RowAt .indexByte Extern.BytealgIndexByte.indexByte

/-- What is asked of the table of functions without a body. -/
structure Env.Exts (E : Env) : Prop where
  ext : ∀ f e, E.ext.get f = some e → ∃ fn row, E.fn.get f = some fn ∧ fn.body = none ∧ Extern.findNext fn = none ∧ Extern.find fn = some row ∧ RowAt e row

theorem extsOk {E : Env} {P : Program} (hE : E.Ok P) (hN : E.Nm) (hX : Env.Exts E) : ExtOk E P := by
  intro f e he args σ vs h ρ w cargs hR ha _
  obtain ⟨fn, row, hf, hb, hn, hrow, hk⟩ := hX.ext f e he
  have main : ∃ c w', (row cargs).run P w = .ok c w' ∧ ValPost E.gl ρ σ w vs c w' := by
    cases hk with
    | of hk => exact row_ok (P := P) hk hR ha h
    | cmp => exact compare_ok hR ha h
    | indexByte => exact indexByte_ok hR ha h
  obtain ⟨c, w', h1, h2⟩ := main
  refine ⟨c, w', ?_, h2⟩
  rw [run_callFunc_extern (hE.fn _ _ hf) (hN.nm _ _ hf) (by rw [hb]; rfl) hn hrow, h1]
  rfl

/-- **The evaluator is the model's.** -/
theorem runT_ok {E : Env} {P : Program} {T : Tr Ctr} (hE : E.Ok P) (hN : E.Nm) (hX : Env.Exts E) (hT : CtrOk E P T) (m : Nat) : (evT E T m).Ok E P := evT_ok hE hN (extsOk hE hN hX) (drawOk hE) hT m m (Nat.le_refl _)
theorem run_ok {E : Env} {P : Program} (hE : E.Ok P) (hN : E.Nm) (hX : Env.Exts E) (m : Nat) : (ev E m).Ok E P := runT_ok hE hN hX CtrOk.nil m
end Go.AM

/- The evaluator with more fuel says no less. -/
namespace Go.AM
open Go

structure Rc.Le (r r' : Rc) : Prop where
  code : ∀ n c ro a σ res, r.code n c ro a σ = some res → r'.code n c ro a σ = some res
  call : ∀ f args d σ vs, r.call f args d σ = some vs → r'.call f args d σ = some vs

theorem Rc.Le.refl (r : Rc) : r.Le r := ⟨fun _ _ _ _ _ _ h => h, fun _ _ _ _ _ h => h⟩
theorem Rc.Le.trans {a b c : Rc} (h : a.Le b) (h' : b.Le c) : a.Le c := ⟨fun _ _ _ _ _ _ x => h'.code _ _ _ _ _ _ (h.code _ _ _ _ _ _ x), fun _ _ _ _ _ x => h'.call _ _ _ _ _ (h.call _ _ _ _ _ x)⟩

section
variable {E : Env} {rec rec' : Rc} (hl : rec.Le rec')

theorem bindV_le {α : Type} {o : Option V} {f f' : V → Option α} {r : α} (hf : ∀ v r, f v = some r → f' v = some r) (h : bindV o f = some r) : bindV o f' = some r := by
  obtain ⟨v, rfl, h⟩ := bindV_some h
  exact hf _ _ h

theorem optE_le {α β : Type} {o o' : Option α} {f f' : α → Option β} {r : β} (ho : ∀ v, o = some v → o' = some v) (hf : ∀ v r, f v = some r → f' v = some r) (h : optE o none f = some r) : optE o' none f' = some r := by
  obtain ⟨v, h1, h2⟩ := optE_inv h
  rw [ho _ h1]
  exact hf _ _ h2

theorem bcase_le {α : Type} {b : Bool} {x y x' y' : Option α} {r : α} (hx : ∀ r, x = some r → x' = some r) (hy : ∀ r, y = some r → y' = some r) (h : bcase b x y = some r) : bcase b x' y' = some r := by
  cases b
  · exact hy _ h
  · exact hx _ h

theorem putParams_le {k k' : Tr V → Option VS} (hk : ∀ t r, k t = some r → k' t = some r) : ∀ {ps : List Tmp} {vs : List V} {n : Nat} {t : Tr V} {r : VS}, putParams ps vs n t k = some r → putParams ps vs n t k' = some r := by
  intro ps
  induction ps with
  | nil => intro vs n t r h; cases vs with
    | nil => exact hk _ _ h
    | cons v vs => exact h
  | cons p ps ih => intro vs n t r h; cases vs with
    | nil => exact h
    | cons v vs =>
      refine bcase_le (fun r h => ?_) (fun r h => h) h
      rw [Tr.setK_eq] at h ⊢
      exact ih h

include hl in
theorem roundF_le {l : Nat} {args : List V} {σ : St} {r : VS} (h : roundF rec l args σ = some r) : roundF rec' l args σ = some r := by
  unfold roundF at h ⊢
  split at h
  · exact h
  · rename_i x hx
    split at h
    · refine putParams_le (fun t r h => ?_) h
      split at h
      · cases h
      · rename_i r₁ h₁
        rw [hl.code _ _ _ _ _ _ h₁]
        dsimp only
        split at h
        · split at h
          · cases h
          · rename_i y hy
            split at h
            · split at h
              · rw [St.putK_eq] at h ⊢
                split at h
                · cases h
                · rename_i r₂ h₂
                  rw [hl.code _ _ _ _ _ _ h₂]
                  exact h
              · cases h
            · cases h
        · cases h
    · cases h

theorem pa_le {n : Nat} {dst : Option Tmp} {a : A} {v : V} {k k' : A → Option Res} {r : Res} (hk : ∀ a r, k a = some r → k' a = some r) (h : (pa n dst).run a v k = some r) : (pa n dst).run a v k' = some r := by
  unfold pa at h ⊢
  split at h
  · exact hk _ _ h
  · split at h
    · simp only [Tr.setK_eq] at h ⊢
      exact hk _ _ h
    · cases h

include hl in
theorem outK_le {n : Nat} {dst : Option Tmp} {o : Out} {a : A} {σ : St} {k k' : A → St → Option Res} {r : Res} (hk : ∀ a σ r, k a σ = some r → k' a σ = some r) (h : outK rec n dst o a σ k = some r) : outK rec' n dst o a σ k' = some r := by
  unfold outK at h ⊢
  split at h
  · exact pa_le (fun a r h => hk _ _ _ h) h
  · exact optE_le (fun v h => hl.call _ _ _ _ _ h) (fun v r h => pa_le (fun a r h => hk _ _ _ h) h) h
  · exact optE_le (fun v h => roundF_le hl h) (fun v r h => pa_le (fun a r h => hk _ _ _ h) h) h
  · exact pa_le (fun a r h => hk _ _ _ h) h

include hl in
theorem kc_le {n : Nat} {o : Oper} {a : A} {σ : St} {k k' : A → St → Option Res} {r : Res} (hk : ∀ a σ r, k a σ = some r → k' a σ = some r) (h : (kc E n o).run rec a σ k = some r) : (kc E n o).run rec' a σ k' = some r := by
  unfold kc at h ⊢
  split at h
  · exact bindV_le (fun v r h => pa_le (fun a r h => hk _ _ _ h) h) h
  · exact bindV_le (fun v r h => pa_le (fun a r h => hk _ _ _ h) h) h
  · refine optE_le (fun v h => h) (fun m r h => ?_) h
    unfold newMade at h ⊢
    rw [St.newK_eq] at h ⊢
    exact pa_le (fun a r h => hk _ _ _ h) h
  · exact optE_le (fun v h => h) (fun x r h => outK_le hl hk h) h

include hl in
theorem opsC_le {n : Nat} {ops : Array Oper} : ∀ {os : List Oper} {a : A} {σ : St} {r : Res}, (opsC E n ops os).run rec a σ = some r → (opsC E n ops os).run rec' a σ = some r := by
  intro os
  induction os with
  | nil => intro a σ r h; exact h
  | cons o os ih =>
    intro a σ r h
    unfold opsC at h ⊢
    split at h
    · exact kc_le hl (fun a σ r h => ih h) h
    · exact bcase_le (fun r h => kc_le hl (fun a σ r h => ih h) h) (fun r h => pa_le (fun a r h => ih h) h) h

theorem actK_le {chk : List Nat} {n : Nat} {dst : Option Tmp} {v : V} {d : DS} {a : A} {σ : St} {k k' : DS → A → St → Option Res} {r : Res} (hk : ∀ d a σ r, k d a σ = some r → k' d a σ = some r) (h : actK E chk n dst v d a σ k = some r) : actK E chk n dst v d a σ k' = some r :=
  bcase_le (fun r h => pa_le (fun a r h => hk _ _ _ _ h) h) (fun r h => h) h

include hl in
theorem stepD_le {n : Nat} {s : PStep} {o : Oper} {d : DS} {a : A} {σ : St} {k k' : DS → A → St → Option Res} {r : Res} (hk : ∀ d a σ r, k d a σ = some r → k' d a σ = some r) (h : (stepD E n s o).run rec d a σ k = some r) : (stepD E n s o).run rec' d a σ k' = some r := by
  unfold stepD at h ⊢
  split at h
  · exact bindV_le (fun v r h => pa_le (fun a r h => hk _ _ _ _ h) h) h
  · dsimp only at h ⊢
    unfold drawRead at h ⊢
    split at h
    · cases h
    · exact bindV_le (fun v r h => bcase_le (fun r h => pa_le (fun a r h => hk _ _ _ _ h) h) (fun r h => h) h) h
  · dsimp only at h ⊢
    split at h
    · cases h
    · rw [St.putK_eq] at h ⊢
      rw [forceN_eq] at h ⊢
      exact pa_le (fun a r h => hk _ _ _ _ h) h
  · dsimp only at h ⊢
    split at h
    · cases h
    · rename_i x hx
      unfold drawOut at h ⊢
      split at h
      · exact actK_le hk h
      · split at h
        · rename_i q hq; rw [hl.call _ _ _ _ _ hq]; exact actK_le hk h
        · cases h
      · split at h
        · rename_i q hq; rw [roundF_le hl hq]; exact actK_le hk h
        · cases h
      · cases h

include hl in
theorem drawC_le {n : Nat} {ops : Array Oper} : ∀ {ss : List PStep} {d : DS} {a : A} {σ : St} {r : Res}, (drawC E n ops ss).run rec d a σ = some r → (drawC E n ops ss).run rec' d a σ = some r := by
  intro ss
  induction ss with
  | nil => intro d a σ r h; exact h
  | cons s ss ih =>
    intro d a σ r h
    unfold drawC at h ⊢
    split at h
    · cases h
    · exact bcase_le (fun r h => stepD_le hl (fun d a σ r h => ih h) h) (fun r h => pa_le (fun a r h => ih h) h) h

include hl in
theorem leaveF_le {k : St → Option VS} : ∀ {ds : List Dfr} {σ : St} {r : VS}, leaveF rec k ds σ = some r → leaveF rec' k ds σ = some r := by
  intro ds
  induction ds with
  | nil => intro σ r h; exact h
  | cons d ds ih =>
    intro σ r h
    unfold leaveF at h ⊢
    split at h
    · split at h
      · rw [St.delK_eq] at h ⊢
        exact ih h
      · cases h
    · split at h
      · rename_i q hq; rw [hl.call _ _ _ _ _ hq]; exact ih h
      · cases h

include hl in
theorem endF_le {rs : List ResultVar} {d : Bool} {a : A} {σ : St} {r : VS} (h : endF E rec rs d a σ = some r) : endF E rec' rs d a σ = some r := by
  unfold endF at h ⊢
  split at h
  · exact h
  · exact leaveF_le hl h

include hl in
theorem rangeEnd_le {n : Nat} {ro : Option Nat} {l : Nat} {tm : Tr V} {dfr : List Dfr} {σ : St} {r : Res} (h : rangeEnd rec n ro l tm dfr σ = some r) : rangeEnd rec' n ro l tm dfr σ = some r := by
  unfold rangeEnd at h ⊢
  split at h
  · cases h
  · rename_i x hx
    split at h
    · split at h
      · cases h
      · rw [St.putK_eq] at h ⊢
        split at h
        · exact h
        · exact hl.code _ _ _ _ _ _ h
    · cases h

include hl in
theorem rangeRun_le {n : Nat} {ro : Option Nat} {f : FuncId} {first cap : List V} {ps : Array Tmp} {assign body : Code} {tm : Tr V} {dfr : List Dfr} {dr : Nat} {σ : St} {r : Res}
    (h : rangeRun E rec n ro f first cap ps assign body tm dfr dr σ = some r) : rangeRun E rec' n ro f first cap ps assign body tm dfr dr σ = some r := by
  unfold rangeRun at h ⊢
  refine bcase_le (fun r h => ?_) (fun r h => h) h
  rw [St.newK_eq] at h ⊢
  split at h
  · cases h
  · rename_i q hq; rw [hl.call _ _ _ _ _ hq]; exact rangeEnd_le hl h

include hl in
theorem rangeF_le {n : Nat} {ro : Option Nat} {g : V} {ps : Array Tmp} {assign body : Code} {a : A} {σ : St} {r : Res} (h : rangeF E rec n ro g ps assign body a σ = some r) : rangeF E rec' n ro g ps assign body a σ = some r := by
  unfold rangeF at h ⊢
  split at h
  · split at h
    · split at h
      · rw [St.newK_eq] at h ⊢
        exact rangeRun_le hl h
      · split at h
        · exact rangeRun_le hl h
        · cases h
    · cases h
  · cases h

theorem thenK_le {r r' : Option Res} {k k' : A → St → Option Res} {res : Res} (hr : ∀ x, r = some x → r' = some x) (hk : ∀ a σ r, k a σ = some r → k' a σ = some r) (h : thenK r k = some res) : thenK r' k' = some res := by
  obtain ⟨r₁, h1, h2⟩ := optE_inv h
  rw [hr _ h1]
  show Ex.rec (motive := fun _ => Option Res) (k' r₁.a r₁.σ) (fun _ => some r₁) (some r₁) r₁.ex = some res
  cases he : r₁.ex with
  | normal => rw [he] at h2; exact hk _ _ _ h2
  | exit id => rw [he] at h2; exact h2
  | ret => rw [he] at h2; exact h2

include hl in
theorem cc_le {n : Nat} (c : Code) : ∀ {ro : Option Nat} {a : A} {σ : St} {r : Res}, (cc E n c).run rec ro a σ = some r → (cc E n c).run rec' ro a σ = some r := by
  induction c with
  | seq x y ihx ihy => intro ro a σ r h; exact thenK_le (fun _ h => ihx h) (fun a σ r h => ihy h) h
  | cond c x y ihx ihy =>
    intro ro a σ r h
    refine bindV_le (f := fun v => condK v ((cc E n x).run rec ro a σ) ((cc E n y).run rec ro a σ)) (fun v r h => ?_) h
    unfold condK at h ⊢
    split at h
    · exact bcase_le (fun _ h => ihx h) (fun _ h => ihy h) h
    · cases h
  | block id body ih =>
    intro ro a σ r h
    exact optE_le (fun _ h => ih h) (fun _ _ h => h) h
  | loop body ih => intro ro a σ r h; exact thenK_le (fun _ h => ih h) (fun a σ r h => hl.code _ _ _ _ _ _ h) h
  | region id ops draw =>
    intro ro a σ r h
    cases draw with
    | false =>
      unfold cc at h ⊢
      dsimp only at h ⊢
      split at h
      · exact opsC_le hl h
      · cases ro with
        | none => exact opsC_le hl h
        | some l => cases h
    | true =>
      unfold cc at h ⊢
      dsimp only at h ⊢
      split at h
      · dsimp only at h ⊢
        rw [forceN_eq] at h ⊢
        exact bcase_le (fun r h => drawC_le hl h) (fun r h => h) h
      · cases h
  | rangeFunc g ps assign body _ _ =>
    intro ro a σ r h
    exact bindV_le (f := fun g => rangeF E rec n ro g ps assign body a σ) (fun v r h => rangeF_le hl h) h
  | _ => intro ro a σ r h; exact h

include hl in
theorem fc_le {f : FuncId} {args : List V} {d : Bool} {σ : St} {r : VS} (h : (fc E f).run rec args d σ = some r) : (fc E f).run rec' args d σ = some r := by
  unfold fc at h ⊢
  split at h
  · cases h
  · split at h
    · split at h
      · exact h
      · exact h
    · refine bcase_le (fun r h => ?_) (fun r h => h) h
      rw [Tr.ofListK_eq] at h ⊢
      split at h
      · cases h
      · rename_i q hq
        rw [hl.code _ _ _ _ _ _ hq]
        dsimp only
        split at h
        · exact endF_le hl h
        · exact endF_le hl h
        · cases h

include hl in
theorem callT_le {T : Tr Ctr} {f : FuncId} {args : List V} {d : Bool} {σ : St} {r : VS} (h : callT E T rec f args d σ = some r) : callT E T rec' f args d σ = some r := by
  unfold callT at h ⊢
  split at h
  · exact fc_le hl h
  · cases hT : T.get f with
    | none => rw [hT] at h; exact fc_le hl h
    | some c =>
      rw [hT, optE_some] at h
      rw [optE_some]
      cases hc : c.run args ‹_› with
      | none => rw [hc] at h; exact fc_le hl h
      | some q => rw [hc] at h; exact h
end

theorem evT_step (E : Env) (T : Tr Ctr) : ∀ m, (evT E T m).Le (evT E T (m + 1)) := by
  intro m
  induction m with
  | zero => exact ⟨fun _ _ _ _ _ _ h => (by cases h), fun _ _ _ _ _ h => (by cases h)⟩
  | succ m ih => exact ⟨fun n c ro a σ res h => cc_le ih c h, fun f args d σ vs h => callT_le ih h⟩

theorem evT_le (E : Env) (T : Tr Ctr) {m m' : Nat} (h : m ≤ m') : (evT E T m).Le (evT E T m') := by
  induction h with
  | refl => exact Rc.Le.refl _
  | step _ ih => exact ih.trans (evT_step E T _)
end Go.AM

/- Going through code by rules: what a piece of code, a call comes to, with as much fuel as it wants. -/
namespace Go.AM
open Go

/-- A slot's value. -/
noncomputable def sl (tm : Tr V) (t : Nat) : V := optE (tm.get t) undefV id
theorem sl_set (tm : Tr V) (n m : Nat) (v : V) : sl (tm.set n (some v)) m = if m = n then v else sl tm m := by
  unfold sl; rw [Tr.get_set]; split <;> rfl
theorem sl_set_self (tm : Tr V) (n : Nat) (v : V) : sl (tm.set n (some v)) n = v := by rw [sl_set, if_pos rfl]
theorem sl_set_ne (tm : Tr V) {n m : Nat} (v : V) (h : m ≠ n) : sl (tm.set n (some v)) m = sl tm m := by rw [sl_set, if_neg h]
theorem sl_nil (m : Nat) : sl .nil m = undefV := rfl

def A.put (a : A) (d : Option Tmp) (v : V) : A := match d with | none => a | some d => { tmps := a.tmps.set d (some v), dfr := a.dfr }
theorem A.put_none (a : A) (v : V) : a.put none v = a := rfl
theorem A.put_some (tm : Tr V) (df : List Dfr) (d : Nat) (v : V) : A.put ⟨tm, df⟩ (some d) v = ⟨tm.set d (some v), df⟩ := rfl

def dstOk (n : Nat) (d : Option Tmp) : Bool := match d with | none => true | some d => Nat.blt d n

theorem pa_put {n : Nat} {d : Option Tmp} (h : dstOk n d = true) (a : A) (v : V) (k : A → Option Res) : (pa n d).run a v k = k (a.put d v) := by
  unfold pa
  cases d with
  | none => rfl
  | some d =>
    have : Nat.blt d n = true := h
    simp only [this, Tr.setK_eq]
    rfl

section
variable (E : Env) (T : Tr Ctr)

def CodeTo (n : Nat) (c : Code) (ro : Option Nat) (a : A) (σ : St) (Q : Ex → A → St → Prop) : Prop :=
  ∃ m r, (cc E n c).run (evT E T m) ro a σ = some r ∧ Q r.ex r.a r.σ
def CallTo (f : FuncId) (args : List V) (σ : St) (Q : V → St → Prop) : Prop :=
  ∃ m r, (evT E T m).call f args false σ = some r ∧ Q r.v r.σ
def FnTo (f : FuncId) (args : List V) (σ : St) (Q : V → St → Prop) : Prop :=
  ∃ m r, (fc E f).run (evT E T m) args false σ = some r ∧ Q r.v r.σ
def OpsTo (n : Nat) (ops : Array Oper) (os : List Oper) (a : A) (σ : St) (Q : A → St → Prop) : Prop :=
  ∃ m r, (opsC E n ops os).run (evT E T m) a σ = some r ∧ r.ex = .normal ∧ Q r.a r.σ
def DrawTo (n : Nat) (ops : Array Oper) (ss : List PStep) (d : DS) (a : A) (σ : St) (Q : A → St → Prop) : Prop :=
  ∃ m r, (drawC E n ops ss).run (evT E T m) d a σ = some r ∧ r.ex = .normal ∧ Q r.a r.σ
end

section
variable {E : Env} {T : Tr Ctr} {n : Nat} {ro : Option Nat} {a : A} {σ : St}

theorem CodeTo.mono {c : Code} {Q Q' : Ex → A → St → Prop} (h : CodeTo E T n c ro a σ Q) (hq : ∀ e a σ, Q e a σ → Q' e a σ) : CodeTo E T n c ro a σ Q' :=
  let ⟨m, r, h1, h2⟩ := h; ⟨m, r, h1, hq _ _ _ h2⟩
theorem CallTo.mono {f : FuncId} {args : List V} {Q Q' : V → St → Prop} (h : CallTo E T f args σ Q) (hq : ∀ v σ, Q v σ → Q' v σ) : CallTo E T f args σ Q' :=
  let ⟨m, r, h1, h2⟩ := h; ⟨m, r, h1, hq _ _ h2⟩

/-- What comes behind a piece of code. -/
def andThen (K : A → St → Prop) (Q : Ex → A → St → Prop) (e : Ex) (a : A) (σ : St) : Prop :=
  Ex.rec (K a σ) (fun i => Q (.exit i) a σ) (Q .ret a σ) e
theorem andThen_normal {K : A → St → Prop} {Q : Ex → A → St → Prop} : andThen K Q .normal a σ = K a σ := rfl
theorem andThen_exit {K : A → St → Prop} {Q : Ex → A → St → Prop} {i : Nat} : andThen K Q (.exit i) a σ = Q (.exit i) a σ := rfl
theorem andThen_ret {K : A → St → Prop} {Q : Ex → A → St → Prop} : andThen K Q .ret a σ = Q .ret a σ := rfl
def outOf (id : Nat) (Q : Ex → A → St → Prop) (e : Ex) (a : A) (σ : St) : Prop :=
  Ex.rec (Q .normal a σ) (fun i => if i = id then Q .normal a σ else Q (.exit i) a σ) (Q .ret a σ) e
theorem outOf_normal {id : Nat} {Q : Ex → A → St → Prop} : outOf id Q .normal a σ = Q .normal a σ := rfl
theorem outOf_exit {id i : Nat} {Q : Ex → A → St → Prop} : outOf id Q (.exit i) a σ = if i = id then Q .normal a σ else Q (.exit i) a σ := rfl
theorem outOf_ret {id : Nat} {Q : Ex → A → St → Prop} : outOf id Q .ret a σ = Q .ret a σ := rfl

theorem codeTo_skip {Q : Ex → A → St → Prop} (h : Q .normal a σ) : CodeTo E T n .skip ro a σ Q := ⟨0, _, rfl, h⟩
theorem codeTo_label {l : Nat} {Q : Ex → A → St → Prop} (h : Q .normal a σ) : CodeTo E T n (.label l) ro a σ Q := ⟨0, _, rfl, h⟩
theorem codeTo_ret {Q : Ex → A → St → Prop} (h : Q .ret a σ) : CodeTo E T n .ret ro a σ Q := ⟨0, _, rfl, h⟩
theorem codeTo_exit {i : Nat} {Q : Ex → A → St → Prop} (h : Q (.exit i) a σ) : CodeTo E T n (.exit i) ro a σ Q := ⟨0, _, rfl, h⟩

theorem thenK_go {m m' : Nat} {r₁ : Res} {k : Nat → A → St → Option Res} {x : Option Res} {Q : Ex → A → St → Prop} (hx : x = some r₁)
    (h : andThen (fun a σ => ∃ r, k m' a σ = some r ∧ Q r.ex r.a r.σ) Q r₁.ex r₁.a r₁.σ) : ∃ r, thenK x (k m') = some r ∧ Q r.ex r.a r.σ := by
  subst hx
  cases r₁ with | mk e a σ =>
  cases e with
  | normal => exact h
  | exit i => exact ⟨_, rfl, h⟩
  | ret => exact ⟨_, rfl, h⟩

theorem codeTo_seq {x y : Code} {Q : Ex → A → St → Prop} (h : CodeTo E T n x ro a σ (andThen (fun a σ => CodeTo E T n y ro a σ Q) Q)) : CodeTo E T n (.seq x y) ro a σ Q := by
  obtain ⟨m, ⟨e, a₁, σ₁⟩, h1, h2⟩ := h
  cases e with
  | normal =>
    obtain ⟨m', r, h3, h4⟩ := h2
    refine ⟨max m m', r, ?_, h4⟩
    show thenK ((cc E n x).run (evT E T (max m m')) ro a σ) (fun a σ => (cc E n y).run (evT E T (max m m')) ro a σ) = some r
    rw [cc_le (evT_le E T (Nat.le_max_left m m')) x h1]
    exact cc_le (evT_le E T (Nat.le_max_right m m')) y h3
  | exit i => exact ⟨m, ⟨.exit i, a₁, σ₁⟩, by show thenK ((cc E n x).run (evT E T m) ro a σ) _ = _; rw [h1]; rfl, h2⟩
  | ret => exact ⟨m, ⟨.ret, a₁, σ₁⟩, by show thenK ((cc E n x).run (evT E T m) ro a σ) _ = _; rw [h1]; rfl, h2⟩

theorem codeTo_block {id : Nat} {body : Code} {Q : Ex → A → St → Prop} (h : CodeTo E T n body ro a σ (outOf id Q)) : CodeTo E T n (.block id body) ro a σ Q := by
  obtain ⟨m, ⟨e, a₁, σ₁⟩, h1, h2⟩ := h
  have key : ∀ r, blockK id (some ⟨e, a₁, σ₁⟩) = some r → Q r.ex r.a r.σ → CodeTo E T n (.block id body) ro a σ Q := fun r h3 h4 =>
    ⟨m, r, by show blockK id ((cc E n body).run (evT E T m) ro a σ) = _; rw [h1]; exact h3, h4⟩
  cases e with
  | normal => exact key _ rfl h2
  | ret => exact key _ rfl h2
  | exit i =>
    have h2' : if i = id then Q .normal a₁ σ₁ else Q (.exit i) a₁ σ₁ := h2
    by_cases hi : i = id
    · rw [if_pos hi] at h2'
      refine key ⟨.normal, a₁, σ₁⟩ ?_ h2'
      show bcase (Nat.beq i id) (some ({ ex := .normal, a := a₁, σ := σ₁ } : Res)) (some ⟨.exit i, a₁, σ₁⟩) = _
      rw [bcase_eq, if_pos (by simpa using hi)]
    · rw [if_neg hi] at h2'
      refine key ⟨.exit i, a₁, σ₁⟩ ?_ h2'
      show bcase (Nat.beq i id) (some ({ ex := .normal, a := a₁, σ := σ₁ } : Res)) (some ⟨.exit i, a₁, σ₁⟩) = _
      rw [bcase_eq, if_neg (by simpa using hi)]

theorem codeTo_cond {c : Operand} {x y : Code} {t : Bool} {Q : Ex → A → St → Prop} (hc : (opc E c).get a.tmps = some (.b t))
    (ht : t = true → CodeTo E T n x ro a σ Q) (hf : t = false → CodeTo E T n y ro a σ Q) : CodeTo E T n (.cond c x y) ro a σ Q := by
  cases t with
  | true =>
    obtain ⟨m, r, h1, h2⟩ := ht rfl
    refine ⟨m, r, ?_, h2⟩
    show bindV ((opc E c).get a.tmps) (fun v => condK v ((cc E n x).run (evT E T m) ro a σ) ((cc E n y).run (evT E T m) ro a σ)) = some r
    rw [hc]; exact h1
  | false =>
    obtain ⟨m, r, h1, h2⟩ := hf rfl
    refine ⟨m, r, ?_, h2⟩
    show bindV ((opc E c).get a.tmps) (fun v => condK v ((cc E n x).run (evT E T m) ro a σ) ((cc E n y).run (evT E T m) ro a σ)) = some r
    rw [hc]; exact h1

theorem codeTo_loop {body : Code} {Q : Ex → A → St → Prop} (h : CodeTo E T n body ro a σ (andThen (fun a σ => CodeTo E T n (.loop body) ro a σ Q) Q)) : CodeTo E T n (.loop body) ro a σ Q := by
  obtain ⟨m, ⟨e, a₁, σ₁⟩, h1, h2⟩ := h
  cases e with
  | normal =>
    obtain ⟨m', r, h3, h4⟩ := h2
    refine ⟨max m (m' + 1), r, ?_, h4⟩
    show thenK ((cc E n body).run (evT E T (max m (m' + 1))) ro a σ) (fun a σ => (evT E T (max m (m' + 1))).code n (.loop body) ro a σ) = some r
    rw [cc_le (evT_le E T (Nat.le_max_left m (m' + 1))) body h1]
    exact (evT_le E T (Nat.le_max_right m (m' + 1))).code _ _ _ _ _ _ h3
  | exit i => exact ⟨m, ⟨.exit i, a₁, σ₁⟩, by show thenK ((cc E n body).run (evT E T m) ro a σ) _ = _; rw [h1]; rfl, h2⟩
  | ret => exact ⟨m, ⟨.ret, a₁, σ₁⟩, by show thenK ((cc E n body).run (evT E T m) ro a σ) _ = _; rw [h1]; rfl, h2⟩

theorem codeTo_region {id : Nat} {ops : Array Oper} {Q : Ex → A → St → Prop} (hd : noDefer ops.toList = true) (h : OpsTo E T n ops ops.toList a σ (Q .normal)) : CodeTo E T n (.region id ops false) ro a σ Q := by
  obtain ⟨m, r, h1, h2, h3⟩ := h
  refine ⟨m, r, ?_, by rw [h2]; exact h3⟩
  unfold cc
  dsimp only
  rw [hd]
  exact h1

theorem codeTo_draw {id : Nat} {ops : Array Oper} {p : List PStep} {Q : Ex → A → St → Prop} (hp : plan E ops = some p) (hb : σ.next + makesIn p ≤ big)
    (h : DrawTo E T n ops p { hist := [{ heap := σ.heap, next := σ.next + makesIn p }], fl := [], mid := σ.next } a { heap := σ.heap, next := σ.next + makesIn p } (Q .normal)) : CodeTo E T n (.region id ops true) ro a σ Q := by
  obtain ⟨m, r, h1, h2, h3⟩ := h
  refine ⟨m, r, ?_, by rw [h2]; exact h3⟩
  unfold cc
  dsimp only
  rw [hp]
  simp only [forceN_eq, bcase_eq]
  rw [if_pos (by simpa using hb)]
  exact h1

theorem callTo_fn {f : FuncId} {args : List V} {Q : V → St → Prop} (hT : T.get f = none) (h : FnTo E T f args σ Q) : CallTo E T f args σ Q := by
  obtain ⟨m, r, h1, h2⟩ := h
  refine ⟨m + 1, r, ?_, h2⟩
  show optE (T.get f) ((fc E f).run (evT E T m) args false σ) _ = _
  rw [hT]
  exact h1

theorem callTo_ctr {f : FuncId} {args : List V} {c : Ctr} {r : VS} {Q : V → St → Prop} (hT : T.get f = some c) (hc : c.run args σ = some r) (h : Q r.v r.σ) : CallTo E T f args σ Q := by
  refine ⟨1, r, ?_, h⟩
  show optE (T.get f) ((fc E f).run (evT E T 0) args false σ) _ = _
  rw [hT, optE_some, hc]
  rfl

/-- What a function hands back. -/
def Hands (E : Env) (rs : List ResultVar) (Q : V → St → Prop) (e : Ex) (a : A) (σ : St) : Prop :=
  (match e with | .exit _ => False | _ => True) ∧ a.dfr = [] ∧ ∃ r, (resC E rs).run a.tmps σ (retL σ) = some r ∧ Q r.v r.σ

theorem fnTo {f : FuncId} {fn : Func} {c : Code} {args : List V} {Q : V → St → Prop} (hf : E.fn.get f = some fn) (hb : fn.body = some c) (hn : Nat.ble args.length fn.ntmps = true)
    (h : CodeTo E T fn.ntmps c none { tmps := Tr.ofList args 0 .nil, dfr := [] } σ (Hands E fn.results.toList Q)) : FnTo E T f args σ Q := by
  obtain ⟨m, ⟨e, a₁, σ₁⟩, h1, h2, h3, r, h4, h5⟩ := h
  refine ⟨m + 1, r, ?_, h5⟩
  unfold fc
  rw [hf]
  dsimp only
  rw [hb]
  dsimp only
  rw [lenL_eq, hn, bcase_true, Tr.ofListK_eq]
  have h1' : (evT E T (m + 1)).code fn.ntmps c none { tmps := Tr.ofList args 0 .nil, dfr := [] } σ = some ⟨e, a₁, σ₁⟩ := h1
  rw [h1']
  have hend : endF E (evT E T (m + 1)) fn.results.toList false a₁ σ₁ = some r := by
    have h3' : a₁.dfr = [] := h3
    have h4' : (resC E fn.results.toList).run a₁.tmps σ₁ (retL σ₁) = some r := h4
    unfold endF
    dsimp only
    rw [h3']
    exact h4'
  cases e with
  | exit i => exact h2.elim
  | normal => exact hend
  | ret => exact hend

/-! ### Regions in written order -/
theorem opsTo_nil {ops : Array Oper} {Q : A → St → Prop} (h : Q a σ) : OpsTo E T n ops [] a σ Q := ⟨0, _, rfl, rfl, h⟩

theorem kc_ops {ops : Array Oper} {o : Oper} {os : List Oper} {Q : A → St → Prop} (hg : (gc ops o).run a.tmps = true)
    (h : ∃ m r, (kc E n o).run (evT E T m) a σ (fun a σ => (opsC E n ops os).run (evT E T m) a σ) = some r ∧ r.ex = .normal ∧ Q r.a r.σ) : OpsTo E T n ops (o :: os) a σ Q := by
  obtain ⟨m, r, h1, h2⟩ := h
  refine ⟨m, r, ?_, h2⟩
  unfold opsC
  split
  · exact h1
  · dsimp only; rw [hg, bcase_true]; exact h1

theorem gc_none {ops : Array Oper} {o : Oper} {tm : Tr V} (h : o.guard = none) : (gc ops o).run tm = true := by unfold gc; rw [h]

theorem opsTo_skip {ops : Array Oper} {o : Oper} {os : List Oper} {Q : A → St → Prop} (hg : (gc ops o).run a.tmps = false) (hd : dstOk n o.dst = true)
    (h : OpsTo E T n ops os (a.put o.dst undefV) σ Q) : OpsTo E T n ops (o :: os) a σ Q := by
  obtain ⟨m, r, h1, h2⟩ := h
  refine ⟨m, r, ?_, h2⟩
  unfold opsC
  split
  · rename_i hn; rw [gc_none hn] at hg; cases hg
  · dsimp only; rw [hg, bcase_false, pa_put hd]; exact h1

noncomputable def isVal (E : Env) (o : Oper) : Bool := match clsOf E o.op with | .value => true | .reads => true | _ => false
noncomputable def isCls (E : Env) (o : Oper) (c : Cls) : Bool := decide (clsOf E o.op = c)

theorem opsTo_val {ops : Array Oper} {o : Oper} {os : List Oper} {Q : A → St → Prop} {v : V} (hg : (gc ops o).run a.tmps = true) (hk : isVal E o = true) (hd : dstOk n o.dst = true)
    (hv : (vc E o.op).run a.tmps σ = some v) (h : OpsTo E T n ops os (a.put o.dst v) σ Q) : OpsTo E T n ops (o :: os) a σ Q := by
  obtain ⟨m, r, h1, h2⟩ := h
  unfold isVal at hk
  refine kc_ops hg ⟨m, r, ?_, h2⟩
  unfold kc
  split
  · dsimp only; rw [hv]; show (pa n o.dst).run a v _ = _; rw [pa_put hd]; exact h1
  · dsimp only; rw [hv]; show (pa n o.dst).run a v _ = _; rw [pa_put hd]; exact h1
  · rename_i hc; rw [hc] at hk; cases hk
  · rename_i hc; rw [hc] at hk; cases hk

theorem opsTo_make {ops : Array Oper} {o : Oper} {os : List Oper} {Q : A → St → Prop} {m : Made} (hg : (gc ops o).run a.tmps = true) (hk : isCls E o .makes = true) (hd : dstOk n o.dst = true)
    (hv : (ac E o.op).run a.tmps = some m) (h : OpsTo E T n ops os (a.put o.dst (m.how.v σ.next)) (σ.new m.blk) Q) : OpsTo E T n ops (o :: os) a σ Q := by
  obtain ⟨k, r, h1, h2⟩ := h
  simp only [isCls, decide_eq_true_eq] at hk
  refine kc_ops hg ⟨k, r, ?_, h2⟩
  unfold kc
  rw [hk]
  dsimp only
  rw [hv, optE_some, newMade, St.newK_eq, pa_put hd]
  exact h1

theorem opsTo_act {ops : Array Oper} {o : Oper} {os : List Oper} {Q : A → St → Prop} {v : V} {σ' : St} (hg : (gc ops o).run a.tmps = true) (hk : isCls E o .acts = true) (hd : dstOk n o.dst = true)
    (hv : (wc E o.op).run a.tmps σ = some (.val v σ')) (h : OpsTo E T n ops os (a.put o.dst v) σ' Q) : OpsTo E T n ops (o :: os) a σ Q := by
  obtain ⟨k, r, h1, h2⟩ := h
  simp only [isCls, decide_eq_true_eq] at hk
  refine kc_ops hg ⟨k, r, ?_, h2⟩
  unfold kc
  rw [hk]
  dsimp only
  rw [hv, optE_some]
  show (pa n o.dst).run a v _ = _
  rw [pa_put hd]
  exact h1

theorem opsTo_call {ops : Array Oper} {o : Oper} {os : List Oper} {Q : A → St → Prop} {f : FuncId} {args : List V} (hg : (gc ops o).run a.tmps = true) (hk : isCls E o .acts = true) (hd : dstOk n o.dst = true)
    (hv : (wc E o.op).run a.tmps σ = some (.call f args)) (h : CallTo E T f args σ fun v σ' => OpsTo E T n ops os (a.put o.dst v) σ' Q) : OpsTo E T n ops (o :: os) a σ Q := by
  obtain ⟨k, r₁, h1, k', r, h3, h4⟩ := h
  simp only [isCls, decide_eq_true_eq] at hk
  refine kc_ops hg ⟨max k k', r, ?_, h4⟩
  unfold kc
  rw [hk]
  dsimp only
  rw [hv, optE_some]
  show optE ((evT E T (max k k')).call f args false σ) none _ = _
  rw [(evT_le E T (Nat.le_max_left k k')).call _ _ _ _ _ h1, optE_some, pa_put hd]
  exact opsC_le (evT_le E T (Nat.le_max_right k k')) h3

theorem opsTo_round {ops : Array Oper} {o : Oper} {os : List Oper} {Q : A → St → Prop} {l : Nat} {args : List V} (hg : (gc ops o).run a.tmps = true) (hk : isCls E o .acts = true) (hd : dstOk n o.dst = true)
    (hv : (wc E o.op).run a.tmps σ = some (.round l args)) (h : ∃ m r, roundF (evT E T m) l args σ = some r ∧ OpsTo E T n ops os (a.put o.dst r.v) r.σ Q) : OpsTo E T n ops (o :: os) a σ Q := by
  obtain ⟨k, r₁, h1, k', r, h3, h4⟩ := h
  simp only [isCls, decide_eq_true_eq] at hk
  refine kc_ops hg ⟨max k k', r, ?_, h4⟩
  unfold kc
  rw [hk]
  dsimp only
  rw [hv, optE_some]
  show optE (roundF (evT E T (max k k')) l args σ) none _ = _
  rw [roundF_le (evT_le E T (Nat.le_max_left k k')) h1, optE_some, pa_put hd]
  exact opsC_le (evT_le E T (Nat.le_max_right k k')) h3

/-! ### Regions that draw their order -/
theorem drawTo_nil {ops : Array Oper} {d : DS} {Q : A → St → Prop} (h : Q a σ) : DrawTo E T n ops [] d a σ Q := ⟨0, _, rfl, rfl, h⟩

theorem draw_ops {ops : Array Oper} {s : PStep} {ss : List PStep} {o : Oper} {d : DS} {Q : A → St → Prop} (ho : ops[s.idx]? = some o) (hg : (gc ops o).run a.tmps = true)
    (h : ∃ m r, (stepD E n s o).run (evT E T m) d a σ (fun d a σ => (drawC E n ops ss).run (evT E T m) d a σ) = some r ∧ r.ex = .normal ∧ Q r.a r.σ) : DrawTo E T n ops (s :: ss) d a σ Q := by
  obtain ⟨m, r, h1, h2⟩ := h
  refine ⟨m, r, ?_, h2⟩
  unfold drawC
  rw [ho]
  dsimp only
  rw [hg, bcase_true]
  exact h1

theorem drawTo_skip {ops : Array Oper} {s : PStep} {ss : List PStep} {o : Oper} {d : DS} {Q : A → St → Prop} (ho : ops[s.idx]? = some o) (hg : (gc ops o).run a.tmps = false) (hd : dstOk n o.dst = true)
    (h : DrawTo E T n ops ss (skipD s d) (a.put o.dst undefV) σ Q) : DrawTo E T n ops (s :: ss) d a σ Q := by
  obtain ⟨m, r, h1, h2⟩ := h
  refine ⟨m, r, ?_, h2⟩
  unfold drawC
  rw [ho]
  dsimp only
  rw [hg, bcase_false, pa_put hd]
  exact h1

theorem drawTo_val {ops : Array Oper} {s : PStep} {ss : List PStep} {o : Oper} {d : DS} {Q : A → St → Prop} {v : V} (ho : ops[s.idx]? = some o) (hg : (gc ops o).run a.tmps = true) (hc : s.cls = .value) (hd : dstOk n o.dst = true)
    (hv : (vc E o.op).run a.tmps nilSt = some v) (h : DrawTo E T n ops ss d (a.put o.dst v) σ Q) : DrawTo E T n ops (s :: ss) d a σ Q := by
  obtain ⟨m, r, h1, h2⟩ := h
  refine draw_ops ho hg ⟨m, r, ?_, h2⟩
  unfold stepD
  rw [hc]
  dsimp only
  rw [hv]
  show (pa n o.dst).run a v _ = _
  rw [pa_put hd]
  exact h1

theorem drawTo_read {ops : Array Oper} {s : PStep} {ss : List PStep} {o : Oper} {hist : List St} {τ : St} {fl : List Flt} {mid : Nat} {Q : A → St → Prop} {v : V} (ho : ops[s.idx]? = some o) (hg : (gc ops o).run a.tmps = true) (hc : s.cls = .reads) (hd : dstOk n o.dst = true)
    (hv : (vc E o.op).run a.tmps τ = some v) (hb : allAt E { idx := s.idx, op := o.op, tmps := a.tmps, v } s.back hist = true)
    (h : DrawTo E T n ops ss { hist := τ :: hist, fl := { idx := s.idx, op := o.op, tmps := a.tmps, v } :: fl, mid } (a.put o.dst v) σ Q) : DrawTo E T n ops (s :: ss) { hist := τ :: hist, fl, mid } a σ Q := by
  obtain ⟨m, r, h1, h2⟩ := h
  refine draw_ops ho hg ⟨m, r, ?_, h2⟩
  unfold stepD
  rw [hc]
  dsimp only
  unfold drawRead
  dsimp only
  rw [hv]
  show bcase (allAt E { idx := s.idx, op := o.op, tmps := a.tmps, v } s.back hist) ((pa n o.dst).run a v _) none = _
  rw [hb, bcase_true, pa_put hd]
  exact h1

theorem drawTo_make {ops : Array Oper} {s : PStep} {ss : List PStep} {o : Oper} {hist : List St} {fl : List Flt} {mid : Nat} {Q : A → St → Prop} {m : Made} (ho : ops[s.idx]? = some o) (hg : (gc ops o).run a.tmps = true) (hc : s.cls = .makes) (hd : dstOk n o.dst = true)
    (hv : (ac E o.op).run a.tmps = some m) (h : DrawTo E T n ops ss { hist, fl, mid := mid + 1 } (a.put o.dst (m.how.v mid)) (σ.put mid m.blk) Q) : DrawTo E T n ops (s :: ss) { hist, fl, mid } a σ Q := by
  obtain ⟨k, r, h1, h2⟩ := h
  refine draw_ops ho hg ⟨k, r, ?_, h2⟩
  unfold stepD
  rw [hc]
  dsimp only
  rw [hv]
  dsimp only
  rw [St.putK_eq, forceN_eq, pa_put hd]
  exact h1

theorem actK_run {chk : List Nat} {d : Option Tmp} {v : V} {ds : DS} {k : DS → A → St → Option Res} (hd : dstOk n d = true) (hr : recheck E σ chk ds.fl = true) (hb : Nat.ble σ.next big = true) :
    actK E chk n d v ds a σ k = k { hist := σ :: ds.hist, fl := ds.fl, mid := ds.mid } (a.put d v) σ := by
  unfold actK
  rw [hr, hb, Bool.and_self, bcase_true, pa_put hd]

theorem drawTo_act {ops : Array Oper} {s : PStep} {ss : List PStep} {o : Oper} {d : DS} {Q : A → St → Prop} {v : V} {σ' : St} (ho : ops[s.idx]? = some o) (hg : (gc ops o).run a.tmps = true) (hc : s.cls = .acts) (hd : dstOk n o.dst = true)
    (hv : (wc E o.op).run a.tmps σ = some (.val v σ')) (hr : recheck E σ' s.chk d.fl = true) (hb : Nat.ble σ'.next big = true)
    (h : DrawTo E T n ops ss { hist := σ' :: d.hist, fl := d.fl, mid := d.mid } (a.put o.dst v) σ' Q) : DrawTo E T n ops (s :: ss) d a σ Q := by
  obtain ⟨k, r, h1, h2⟩ := h
  refine draw_ops ho hg ⟨k, r, ?_, h2⟩
  unfold stepD
  rw [hc]
  dsimp only
  rw [hv]
  show actK E s.chk n o.dst v d a σ' _ = _
  rw [actK_run hd hr hb]
  exact h1

theorem drawTo_call {ops : Array Oper} {s : PStep} {ss : List PStep} {o : Oper} {d : DS} {Q : A → St → Prop} {f : FuncId} {args : List V} (ho : ops[s.idx]? = some o) (hg : (gc ops o).run a.tmps = true) (hc : s.cls = .acts) (hd : dstOk n o.dst = true)
    (hv : (wc E o.op).run a.tmps σ = some (.call f args))
    (h : CallTo E T f args σ fun v σ' => recheck E σ' s.chk d.fl = true ∧ Nat.ble σ'.next big = true ∧ DrawTo E T n ops ss { hist := σ' :: d.hist, fl := d.fl, mid := d.mid } (a.put o.dst v) σ' Q) : DrawTo E T n ops (s :: ss) d a σ Q := by
  obtain ⟨k, r₁, h1, hr, hb, k', r, h3, h4⟩ := h
  refine draw_ops ho hg ⟨max k k', r, ?_, h4⟩
  unfold stepD
  rw [hc]
  dsimp only
  rw [hv]
  unfold drawOut
  dsimp only
  rw [(evT_le E T (Nat.le_max_left k k')).call _ _ _ _ _ h1]
  dsimp only
  rw [actK_run hd hr hb]
  exact drawC_le (evT_le E T (Nat.le_max_right k k')) h3

/-- A call, without a look at what it does: to the model. -/
theorem CallTo.ok {P : Program} (hok : ∀ m, (evT E T m).Ok E P) {f : FuncId} {args : List V} {Q : V → St → Prop} (h : CallTo E T f args σ Q) {ρ : Pm} {w : World} {cargs : Array Value}
    (hR : Rel E.gl ρ σ w) (ha : RepL ρ args cargs.toList) : ∃ r, CallOk E P ρ σ w f cargs r ∧ Q r.v r.σ := by
  obtain ⟨m, r, h1, h2⟩ := h
  exact ⟨r, (hok m).call _ _ _ _ h1 ρ w cargs hR ha, h2⟩
end
attribute [irreducible] CodeTo CallTo FnTo OpsTo DrawTo
end Go.AM

/- Contracts out of closed runs: a run over memory that is read alone is a run at every memory that holds it. -/
namespace Go.AM
open Go

/-- A value without an address. -/
def V.flat : V → Bool
  | .b _ | .i _ _ | .s _ => true
  | _ => false
def V.pure : V → Bool
  | .b _ | .i _ _ | .s _ => true
  | .ag cs => cs.all V.flat
  | .tu cs => cs.all V.flat
  | _ => false

theorem V.flat_rep {ρ ρ' : Pm} {v : V} {c : Value} (hv : v.flat = true) (h : Rep ρ v c) : Rep ρ' v c := by
  cases h with
  | b x => exact .b x
  | i k n => exact .i k n
  | s l ba hl => exact .s l ba hl
  | _ => simp [V.flat] at hv

theorem flat_repL {ρ ρ' : Pm} {vs : List V} : ∀ {cs : List Value}, vs.all V.flat = true → RepL ρ vs cs → RepL ρ' vs cs := by
  induction vs with
  | nil => intro cs _ h; cases h; exact .nil
  | cons v vs ih =>
    intro cs hv h
    simp only [List.all_cons, Bool.and_eq_true] at hv
    cases h with | cons _ c _ cs h hs => exact .cons _ _ _ _ (V.flat_rep hv.1 h) (ih hv.2 hs)

theorem V.pure_rep {ρ ρ' : Pm} {v : V} {c : Value} (hv : v.pure = true) (h : Rep ρ v c) : Rep ρ' v c := by
  cases h with
  | b x => exact .b x
  | i k n => exact .i k n
  | s l ba hl => exact .s l ba hl
  | ag cs cs' h => exact .ag _ _ (flat_repL hv h)
  | tu cs cs' h => exact .tu _ _ (flat_repL hv h)
  | _ => simp [V.pure] at hv

theorem pure_repL {ρ ρ' : Pm} {vs : List V} : ∀ {cs : List Value}, vs.all V.pure = true → RepL ρ vs cs → RepL ρ' vs cs := by
  induction vs with
  | nil => intro cs _ h; cases h; exact .nil
  | cons v vs ih =>
    intro cs hv h
    simp only [List.all_cons, Bool.and_eq_true] at hv
    cases h with | cons _ c _ cs h hs => exact .cons _ _ _ _ (V.pure_rep hv.1 h) (ih hv.2 hs)

variable {gl : Nat}

/-- Some of the memory, to be read alone, under other numbers. -/
theorem Rel.view {ρ : Pm} {σ : St} {w : World} (h : Rel gl ρ σ w) (j : Nat → Option Nat) {σ₀ : St} (hj : ∀ g, g < gl → j g = some g) (hd : ∀ id k, j id = some k → id < σ₀.next)
    (hb : ∀ id b, σ₀.get id = some b → ∃ k c el md, j id = some k ∧ σ.get k = some (.cells c el md) ∧ b = .cells c el .ro ∧ c.all V.pure = true) : Rel gl (fun id => (j id).bind ρ) σ₀ w where
  glob := fun g hg => by rw [hj g hg]; exact h.glob g hg
  dom := fun id pl hp => by
    obtain ⟨k, h1, h2⟩ := Option.bind_eq_some_iff.1 hp
    exact hd _ _ h1
  bnd := fun id pl hp => by
    obtain ⟨k, h1, h2⟩ := Option.bind_eq_some_iff.1 hp
    exact h.bnd _ _ h2
  blk := fun id b hg => by
    obtain ⟨k, c, el, md, h1, h2, rfl, h4⟩ := hb _ _ hg
    obtain ⟨pl, arr, frz, h5, h6, h7, h8⟩ := h.cells h2
    exact ⟨pl, _, by rw [h1]; exact h5, h6, .cells _ _ _ _ _ _ (pure_repL h4 h7) trivial⟩
  inj := fun id id' b b' pl pl' g g' _ _ _ => by
    obtain ⟨_, _, _, _, _, _, rfl, _⟩ := hb _ _ g
    obtain ⟨_, _, _, _, _, _, rfl, _⟩ := hb _ _ g'
    exact .inr ⟨rfl, rfl⟩

/-- Nothing was written that was there. -/
theorem Goes.quiet {ρ ρ₀ ρ' : Pm} {σ σ₀ σ' : St} {w w' : World} (h : Rel gl ρ σ w) (g : Goes gl ρ₀ σ₀ w ρ' σ' w') (hro : ∀ id b, σ₀.get id = some b → b.ro = true) : Goes gl ρ σ w ρ σ w' := by
  have fr : ∀ i, i < w.heap.size → w'.heap[i]? = w.heap[i]? := fun i hi => g.frame i hi (by
    rintro ⟨id, b, pl, h1, h2, _⟩
    rw [hro _ _ h1] at h2; cases h2)
  refine ⟨Pm.le_refl _, ⟨h.glob, h.dom, fun id pl hp => Nat.lt_of_lt_of_le (h.bnd _ _ hp) g.size, fun id b hg => ?_, h.inj⟩, g.size, fun _ _ h => h, fun i hi _ => fr i hi, g.os, g.out, g.tape, fun _ _ h => h, Nat.le_refl _, fun _ _ h => .inl h⟩
  obtain ⟨pl, o, h1, h2, h3⟩ := h.blk _ _ hg
  exact ⟨pl, o, h1, by rw [fr _ (h.bnd _ _ h1)]; exact h2, h3⟩

theorem CallOk.quiet {E : Env} {P : Program} {ρ ρ₀ : Pm} {σ σ₀ σ' : St} {w : World} {f : FuncId} {cargs : Array Value} {v : V} (h : Rel E.gl ρ σ w) (hc : CallOk E P ρ₀ σ₀ w f cargs ⟨v, σ'⟩)
    (hv : v.pure = true) (hro : ∀ id b, σ₀.get id = some b → b.ro = true) : CallOk E P ρ σ w f cargs ⟨v, σ⟩ := by
  rcases hc with ⟨c, w', h1, ρ', g, r⟩ | ⟨h1, h2⟩
  · exact .inl ⟨c, w', h1, ρ, g.quiet h hro, V.pure_rep hv r⟩
  · refine .inr ⟨h1, h2.mono ?_⟩
    rintro e w' ⟨c, he, ρ', g, r⟩
    exact ⟨c, he, ρ, g.quiet h hro, V.pure_rep hv r⟩

/-- A state with fewer blocks. -/
def St.Sub (a b : St) : Prop := a.next = b.next ∧ ∀ id x, a.get id = some x → b.get id = some x

theorem Goes.sub {ρ ρ' : Pm} {σ σ₁ σ' : St} {w w' : World} (g : Goes gl ρ σ w ρ' σ' w') (h : σ₁.Sub σ') : Goes gl ρ σ w ρ' σ₁ w' where
  le := g.le
  rel := ⟨g.rel.glob, fun id pl hp => by rw [h.1]; exact g.rel.dom _ _ hp, g.rel.bnd, fun id b hg => g.rel.blk _ _ (h.2 _ _ hg), fun id id' b b' pl pl' g1 g2 => g.rel.inj _ _ _ _ _ _ (h.2 _ _ g1) (h.2 _ _ g2)⟩
  size := g.size
  own := fun i hi ⟨id, b, pl, h1, h2⟩ => g.own i hi ⟨id, b, pl, h.2 _ _ h1, h2⟩
  frame := g.frame
  os := g.os
  out := g.out
  tape := g.tape
  trk := fun i hi ⟨id, b, pl, h1, h2⟩ => g.trk i hi ⟨id, b, pl, h.2 _ _ h1, h2⟩
  nxt := by rw [h.1]; exact g.nxt
  new_ := g.new_

theorem CallOk.sub {E : Env} {P : Program} {ρ : Pm} {σ σ₁ σ' : St} {w : World} {f : FuncId} {cargs : Array Value} {v : V} (hc : CallOk E P ρ σ w f cargs ⟨v, σ'⟩) (h : σ₁.Sub σ') : CallOk E P ρ σ w f cargs ⟨v, σ₁⟩ := by
  rcases hc with ⟨c, w', h1, ρ', g, r⟩ | ⟨h1, h2⟩
  · exact .inl ⟨c, w', h1, ρ', g.sub h, r⟩
  · refine .inr ⟨h1, h2.mono ?_⟩
    rintro e w' ⟨c, he, ρ', g, r⟩
    exact ⟨c, he, ρ', g.sub h, r⟩

/-- A contract by a relation. -/
noncomputable def relCtr (p : List V → St → VS → Prop) : Ctr :=
  open Classical in ⟨fun args σ => if h : ∃ r, p args σ r then some h.choose else none⟩

theorem relCtr_run {p : List V → St → VS → Prop} {args : List V} {σ : St} {r : VS} (h : (relCtr p).run args σ = some r) : p args σ r := by
  unfold relCtr at h
  dsimp only at h
  split at h
  · rename_i hx; cases h; exact hx.choose_spec
  · cases h

theorem callTo_rel {E : Env} {T : Tr Ctr} {f : FuncId} {args : List V} {σ : St} {p : List V → St → VS → Prop} {Q : V → St → Prop} (hT : T.get f = some (relCtr p)) (hx : ∃ r, p args σ r) (h : ∀ r, p args σ r → Q r.v r.σ) : CallTo E T f args σ Q := by
  refine callTo_ctr hT (r := hx.choose) ?_ (h _ hx.choose_spec)
  unfold relCtr
  dsimp only
  rw [dif_pos hx]

/-- One contract more. -/
theorem CtrOk.set {E : Env} {P : Program} {T : Tr Ctr} (h : CtrOk E P T) {f : FuncId} {c : Ctr}
    (hc : ∀ args σ vs, c.run args σ = some vs → ∀ ρ w (cargs : Array Value), Rel E.gl ρ σ w → RepL ρ args cargs.toList → CallOk E P ρ σ w f cargs vs) : CtrOk E P (T.set f (some c)) := by
  intro g c' hg
  rw [Tr.get_set] at hg
  split at hg
  · rename_i e; cases hg; subst e; exact hc
  · exact h g c' hg

/-- What is kept of a state. -/
noncomputable def keepK (σ : St) (l : List Nat) : Tr Blk := l.foldr (fun id t => optE (σ.get id) t fun b => t.set id (some b)) .nil
noncomputable def St.keep (σ : St) (l : List Nat) : St := { heap := keepK σ l, next := σ.next }

theorem St.keep_sub (σ : St) (l : List Nat) : (σ.keep l).Sub σ := by
  refine ⟨rfl, ?_⟩
  induction l with
  | nil => intro id x h; cases h
  | cons i l ih =>
    intro id x h
    have h' : (optE (σ.get i) (keepK σ l) fun b => (keepK σ l).set i (some b)).get id = some x := h
    cases hi : σ.get i with
    | none => rw [hi] at h'; exact ih id x h'
    | some b =>
      rw [hi, optE_some, Tr.get_set] at h'
      split at h'
      · rename_i e; subst e; rw [hi]; exact h'
      · exact ih id x h'
end Go.AM
