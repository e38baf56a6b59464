/- From the statement's reading of its arguments to the abstract machine's memory. -/
import Derived.Test.YtcpkjcpghmnklaaGreatDoorQ
import Derived.ProofKit
import Derived.OpenShut
import Derived.Lib.LaidU8
import Derived.Test.YtcpkjcpghmnklaaGreatDoorCards
import Derived.Test.YtcpkjcpghmnklaaGreatDoorTie
import Derived.Below
import Derived.Carry
set_option linter.all false

/- From the statement's reading of its arguments to the abstract machine's memory. -/
namespace Go.Proofs.Tz
open Go Go.AM Go.ChangeShapes Go.WideShapes Go.ChangeAt Go.RowKit
set_option maxRecDepth 100000

def vals (h : List Nat) : List Value := h.map fun b => Value.int .u8 ((b : Nat) : Int)
def valss (l : List (List Nat)) : List Value := l.flatMap vals
theorem vals_len (h : List Nat) : (vals h).length = h.length := by simp [vals]
theorem rep_hv (ρ : Pm) (h : List Nat) : RepL ρ (hv h) (vals h) := by
  induction h with
  | nil => exact .nil
  | cons x xs ih => exact .cons _ _ _ _ (.i .u8 x) ih
theorem rep_hvs (ρ : Pm) (l : List (List Nat)) : RepL ρ (hvs l) (valss l) := by
  induction l with
  | nil => exact .nil
  | cons x xs ih => exact (rep_hv ρ x).append ih

theorem cells_22 : Tryz.prog.cellsOf 28 = 1 := by kernel_rfl
theorem cells_24 : Tryz.prog.cellsOf 24 = 32 := by kernel_rfl
theorem cells_5 : Tryz.prog.cellsOf 5 = 1 := by kernel_rfl

theorem skolem {α : Type} {R : Nat → α → Prop} : ∀ {n : Nat}, (∀ i, i < n → ∃ x, R i x) → ∃ l : List α, l.length = n ∧ ∀ i (h : i < l.length), R i l[i] := by
  intro n
  induction n with
  | zero => intro _; exact ⟨[], rfl, fun i h => by simp at h⟩
  | succ n ih =>
    intro h
    obtain ⟨l, h1, h2⟩ := ih fun i hi => h i (by omega)
    obtain ⟨x, hx⟩ := h n (by omega)
    refine ⟨l ++ [x], by simp [h1], fun i hi => ?_⟩
    by_cases e : i < l.length
    · rw [List.getElem_append_left e]; exact h2 i e
    · have : i = l.length := by simp at hi; omega
      subst this
      simp only [List.getElem_append_right (Nat.le_refl _), Nat.sub_self, List.getElem_singleton]
      rw [h1]; exact hx

section
variable {H : Type} {enc : TypeId × Value → H} {W : World} {base : Nat} {sp : Nat → Bool} {held : Bool} {fuel : Nat}

theorem hash_of {cs : List Value} {x : DataW H × List MemPlace} (h : DataW.trod enc Tryz.prog W base sp held fuel 24 cs = some x) : ∃ h : List Nat, h.length = 32 ∧ cs = vals h := by
  obtain ⟨xs, m, rfl, hx, hl, hxl, hall⟩ := DataW.trod_array Tryz.underlying24 h
  rw [cells_24] at hl
  have hn : ∀ i, i < 32 → ∃ n : Nat, cs[i]? = some (Value.int .u8 (n : Int)) := by
    intro i hi
    have h1 := hall i hi
    rw [cells_5, List.getElem?_eq_getElem (by omega)] at h1
    obtain ⟨z, h2, h3, h4⟩ := DataW.trod_int Tryz.underlying5 h1
    have h5 : cs[i]? = some (Value.int .u8 z) := by
      have := congrArg (·[0]?) h2
      simpa [List.getElem?_take, List.getElem?_drop] using this
    have h6 : 0 ≤ z := by
      have h7 : (decide (IntKind.u8.min ≤ z) && decide (z ≤ IntKind.u8.max)) = true := h4
      simp only [Bool.and_eq_true, decide_eq_true_eq] at h7
      have : IntKind.u8.min = 0 := by decide
      omega
    exact ⟨z.toNat, by rw [h5, Int.toNat_of_nonneg h6]⟩
  obtain ⟨l, h1, h2⟩ := skolem hn
  refine ⟨l, h1, ?_⟩
  apply List.ext_getElem?
  intro i
  by_cases hi : i < 32
  · rw [h2 i (by omega)]
    simp [vals, List.getElem?_eq_getElem (show i < l.length by omega)]
  · rw [List.getElem?_eq_none (by omega), List.getElem?_eq_none (by rw [vals_len]; omega)]

theorem add_add (a : Addr) (x y : Nat) : (a.add x).add y = a.add (x + y) := by
  unfold Addr.add
  by_cases hx : x = 0
  · subst hx; simp
  · by_cases hy : y = 0
    · subst hy; simp [hx]
    · simp [hx, hy, Nat.add_assoc]
theorem cells_get {a : Addr} {n : Nat} {cs : List Value} (h : W.cells? base a n = some cs) : cs.length = n ∧ ∀ t, t < n → W.cell? (a.add t) = cs[t]? := by
  unfold World.cells? at h
  split at h
  · refine ⟨by simpa using mapM_some_length h, fun t ht => mapM_some_get h t t (by simp [ht])⟩
  · cases h

theorem row_of {a : Addr} {cs : List Value} (h0 : 0 < cs.length) (h : ∀ t, t < cs.length → W.cell? (a.add t) = cs[t]?) :
    a.spot = none ∧ ∃ arr el frz, W.heap[a.block]? = some (.cells arr el frz) ∧ win arr.toList a.off cs.length = cs := by
  have h1 := h 0 h0
  have e0 : a.add 0 = a := by unfold Addr.add; rw [if_pos rfl]
  rw [e0, List.getElem?_eq_getElem h0] at h1
  unfold World.cell? at h1
  split at h1
  · rename_i arr el frz hb
    split at h1
    · cases h1
    · rename_i hs
      have hs : a.spot = none := by cases e : a.spot with
        | none => rfl
        | some x => rw [e] at hs; exact absurd rfl hs
      refine ⟨hs, arr, el, frz, hb, ?_⟩
      apply List.ext_getElem?
      intro t
      by_cases ht : t < cs.length
      · rw [win_get _ _ _ _ ht, ← h t ht]
        have ea : a.add t = ⟨a.block, a.off + t, none⟩ := by
          unfold Addr.add
          split
          · rename_i e; subst e; cases a; simp_all
          · rfl
        rw [ea]
        simp [World.cell?, hb]
      · rw [List.getElem?_eq_none (Nat.le_of_not_lt ht), List.getElem?_eq_none]
        unfold win
        simp
        omega
  · cases h1

theorem valss_get : ∀ {l : List (List Nat)} {i j : Nat} (_ : ∀ h ∈ l, h.length = 32) (hi : i < l.length), j < 32 → (valss l)[i * 32 + j]? = (vals l[i])[j]? := by
  intro l
  induction l with
  | nil => intro i j _ hi; simp at hi
  | cons x xs ih =>
    intro i j hl hi hj
    have hx : (vals x).length = 32 := by rw [vals_len]; exact hl x List.mem_cons_self
    have e : valss (x :: xs) = vals x ++ valss xs := by simp [valss]
    rw [e]
    cases i with
    | zero => rw [List.getElem?_append_left (by omega)]; simp
    | succ i =>
      rw [List.getElem?_append_right (by omega), hx]
      have e2 : (i + 1) * 32 + j - 32 = i * 32 + j := by omega
      rw [e2, ih (fun h hh => hl h (List.mem_cons_of_mem _ hh)) (by simpa using hi) hj]
      simp
theorem valss_len {l : List (List Nat)} (h : Len32 l) : (valss l).length = l.length * 32 := by
  have := (rep_hvs (fun _ => none) l).length
  rw [hvs_len h] at this
  exact this.symm

/-- A row of names, in a world. -/
inductive InW (W : World) : Value → List (List Nat) → TypeId → Prop
  | nil : InW W (.slice none 0 0) [] 0
  | z (a : Addr) : InW W (.slice (some a) 0 0) [] 0
  | e (blk off cap : Nat) (hc : cap ≠ 0) (h : blk < W.heap.size) : InW W (.slice (some ⟨blk, off, none⟩) 0 cap) [] 0
  | at (blk off cap : Nat) (arr : Array Value) (el : TypeId) (frz : Nat × Nat) (l : List (List Nat)) (h0 : l ≠ []) (hcap : l.length ≤ cap) (hb : W.heap[blk]? = some (.cells arr el frz)) (hc : win arr.toList off (l.length * 32) = valss l) :
      InW W (.slice (some ⟨blk, off, none⟩) l.length cap) l el

theorem heap_lt {k : Nat} {o : Obj} (h : W.heap[k]? = some o) : k < W.heap.size := by
  rcases Nat.lt_or_ge k W.heap.size with x | x
  · exact x
  · rw [Array.getElem?_eq_none x] at h; cases h

theorem inner_of {w : Value} {x : DataW H × List MemPlace} (h : DataW.trod enc Tryz.prog W 0 (fun _ => true) true fuel 28 [w] = some x) : ∃ p : List (List Nat) × TypeId, Len32 p.1 ∧ InW W w p.1 p.2 := by
  rcases DataW.trod_slice Tryz.underlying28 h with ⟨h1, _⟩ | ⟨a, len, cap, elems, rest, n, _, h1, _, _, h2, _, h3, h4, h5, _⟩
  · simp only [List.cons.injEq, and_true] at h1
    subst h1
    exact ⟨([], 0), (fun _ h => nomatch h), .nil⟩
  · simp only [List.cons.injEq, and_true] at h1
    subst h1
    rw [cells_24] at h4 h5
    obtain ⟨h6, h7⟩ := h5 rfl
    by_cases hlen : len = 0
    · subst hlen
      by_cases hcap : cap = 0
      · subst hcap
        exact ⟨([], 0), (fun _ h => nomatch h), .z a⟩
      · have h8 := h7 0 (by omega)
        rw [List.getElem?_eq_getElem (by omega)] at h8
        obtain ⟨cs, h9, _⟩ := Option.bind_eq_some_iff.1 h8
        obtain ⟨g1, g2⟩ := cells_get h9
        have e0 : a.add ((0 + 0) * 32) = a := by unfold Addr.add; rw [if_pos rfl]
        rw [e0] at g2
        obtain ⟨k1, arr, el, frz, k2, _⟩ := row_of (cs := cs) (by omega) (fun t ht => g2 t (by omega))
        obtain ⟨blk, off, spot⟩ := a
        simp only at k1 k2
        subst k1
        exact ⟨([], 0), (fun _ h => nomatch h), .e blk off cap hcap (heap_lt k2)⟩
    · have hh : ∀ i, i < len → ∃ h : List Nat, h.length = 32 ∧ W.cells? 0 (a.add (i * 32)) 32 = some (vals h) := by
        intro i hi
        have h8 := h4 i hi
        rw [List.getElem?_eq_getElem (by omega)] at h8
        obtain ⟨cs, h9, h10⟩ := Option.bind_eq_some_iff.1 h8
        obtain ⟨h, e1, rfl⟩ := hash_of h10
        exact ⟨h, e1, h9⟩
      obtain ⟨l, l1, l2⟩ := skolem hh
      have l32 : Len32 l := fun x hx => by
        obtain ⟨i, hi, rfl⟩ := List.getElem_of_mem hx
        exact (l2 i hi).1
      have vl := valss_len l32
      obtain ⟨k1, arr, el, frz, k2, k3⟩ := row_of (W := W) (a := a) (cs := valss l) (by omega) (fun t ht => by
        have e : t = t / 32 * 32 + t % 32 := by omega
        have hi : t / 32 < l.length := by omega
        rw [e, ← add_add, (cells_get (l2 _ hi).2).2 _ (Nat.mod_lt _ (by omega)), valss_get l32 hi (Nat.mod_lt _ (by omega))])
      obtain ⟨blk, off, spot⟩ := a
      simp only at k1 k2 k3
      subst k1
      rw [vl] at k3
      have hl : len = l.length := l1.symm
      subst hl
      exact ⟨(l, el), l32, .at blk off cap arr el frz l (fun e => hlen (by rw [e]; rfl)) h2 k2 k3⟩

/-- A row of values of one cell, in a world. -/
inductive OutW (W : World) : Value → List Value → TypeId → Prop
  | nil : OutW W (.slice none 0 0) [] 0
  | z (a : Addr) : OutW W (.slice (some a) 0 0) [] 0
  | e (blk off cap : Nat) (hc : cap ≠ 0) (h : blk < W.heap.size) : OutW W (.slice (some ⟨blk, off, none⟩) 0 cap) [] 0
  | at (blk off cap : Nat) (arr : Array Value) (el : TypeId) (frz : Nat × Nat) (l : List Value) (h0 : l ≠ []) (hcap : l.length ≤ cap) (hb : W.heap[blk]? = some (.cells arr el frz)) (hc : win arr.toList off l.length = l) :
      OutW W (.slice (some ⟨blk, off, none⟩) l.length cap) l el

theorem outer_of {v : Value} {x : DataW H × List MemPlace} (h : DataW.trod enc Tryz.prog W 0 (fun _ => true) true fuel 22 [v] = some x) :
    ∃ (el : TypeId) (L : List (Value × List (List Nat) × TypeId)), OutW W v (L.map (·.1)) el ∧ ∀ q ∈ L, Len32 q.2.1 ∧ InW W q.1 q.2.1 q.2.2 := by
  rcases DataW.trod_slice Tryz.underlying22 h with ⟨h1, _⟩ | ⟨a, len, cap, elems, rest, n, _, h1, _, _, h2, _, h3, h4, h5, _⟩
  · simp only [List.cons.injEq, and_true] at h1
    subst h1
    exact ⟨0, [], .nil, fun _ h => nomatch h⟩
  · simp only [List.cons.injEq, and_true] at h1
    subst h1
    rw [cells_22] at h4 h5
    obtain ⟨h6, h7⟩ := h5 rfl
    by_cases hlen : len = 0
    · subst hlen
      by_cases hcap : cap = 0
      · subst hcap
        exact ⟨0, [], .z a, fun _ h => nomatch h⟩
      · have h8 := h7 0 (by omega)
        rw [List.getElem?_eq_getElem (by omega)] at h8
        obtain ⟨cs, h9, _⟩ := Option.bind_eq_some_iff.1 h8
        obtain ⟨g1, g2⟩ := cells_get h9
        have e0 : a.add ((0 + 0) * 1) = a := by unfold Addr.add; rw [if_pos rfl]
        rw [e0] at g2
        obtain ⟨k1, arr, el, frz, k2, _⟩ := row_of (cs := cs) (by omega) (fun t ht => g2 t (by omega))
        obtain ⟨blk, off, spot⟩ := a
        simp only at k1 k2
        subst k1
        exact ⟨0, [], .e blk off cap hcap (heap_lt k2), fun _ h => nomatch h⟩
    · have hh : ∀ i, i < len → ∃ q : Value × List (List Nat) × TypeId, W.cell? (a.add i) = some q.1 ∧ Len32 q.2.1 ∧ InW W q.1 q.2.1 q.2.2 := by
        intro i hi
        have h8 := h4 i hi
        rw [List.getElem?_eq_getElem (by omega), Nat.mul_one] at h8
        obtain ⟨cs, h9, h10⟩ := Option.bind_eq_some_iff.1 h8
        obtain ⟨g1, g2⟩ := cells_get h9
        match cs, g1 with
        | [w], _ =>
          obtain ⟨p, p1, p2⟩ := inner_of h10
          have g3 := g2 0 (by omega)
          have e0 : (a.add i).add 0 = a.add i := by rw [add_add]; rfl
          rw [e0] at g3
          exact ⟨(w, p), g3, p1, p2⟩
      obtain ⟨L, l1, l2⟩ := skolem hh
      obtain ⟨k1, arr, el, frz, k2, k3⟩ := row_of (W := W) (a := a) (cs := L.map (·.1)) (by simp; omega) (fun t ht => by
        simp only [List.length_map] at ht
        rw [(l2 t ht).1]
        simp [List.getElem?_eq_getElem ht])
      obtain ⟨blk, off, spot⟩ := a
      simp only at k1 k2 k3
      subst k1
      have hl : len = (L.map (·.1)).length := by simp [l1]
      subst hl
      refine ⟨el, L, .at blk off cap arr el frz _ (fun e => hlen (by rw [e]; rfl)) h2 k2 k3, fun q hq => ?_⟩
      obtain ⟨i, hi, rfl⟩ := List.getElem_of_mem hq
      exact (l2 i hi).2
end
end Go.Proofs.Tz

/- The memory in which the call begins, and what the call comes to, for every argument. -/
namespace Go.Proofs.Tz
open Go Go.AM Go.ChangeShapes Go.WideShapes Go.ChangeAt Go.RowKit
set_option maxRecDepth 100000

/-- A store by a function. -/
noncomputable def mkTr {α : Type} (f : Nat → Option α) : Nat → Tr α
  | 0 => .nil
  | n + 1 => (mkTr f n).set n (f n)
theorem mkTr_get {α : Type} {f : Nat → Option α} : ∀ {n id : Nat}, (mkTr f n).get id = if id < n then f id else none := by
  intro n
  induction n with
  | zero => intro id; rfl
  | succ n ih =>
    intro id
    rw [mkTr, Tr.get_set]
    by_cases h : id = n
    · subst h; rw [if_pos rfl, if_pos (Nat.lt_succ_self _)]
    · rw [if_neg h, ih]
      by_cases h2 : id < n
      · rw [if_pos h2, if_pos (by omega)]
      · rw [if_neg h2, if_neg (by omega)]

def plV : Value → Pl
  | .slice (some a) _ cap => if cap = 0 then ⟨0, 0, 0⟩ else ⟨a.block, a.off, 0⟩
  | _ => ⟨0, 0, 0⟩
def vV (id : Nat) : Value → V
  | .slice none _ _ => .sl none 0 (.ex 0)
  | .slice (some _) len cap => if cap = 0 then .sl (some (id, 0)) 0 (.op 0) else .sl (some (id, 0)) len (.ex cap)
  | _ => .nf

abbrev Row3 := Value × List (List Nat) × TypeId
noncomputable def cellsO (L : List Row3) : List V := L.mapIdx fun i q => vV (9 + i) q.1
noncomputable def blkI (q : Row3) : Option Blk := if q.2.1 = [] then none else some (.cells (hvs q.2.1) q.2.2 .ro)
noncomputable def blkF (L : List Row3) (el : TypeId) (id : Nat) : Option Blk :=
  if id < 8 then (if id = 3 then some (.cells VxL17 23 .ro) else if id = 4 then some (.cells VxL18 482 .ro) else if id = 5 then some (.cells VxL19 536 .ro) else none)
  else if id = 8 then (if L = [] then none else some (.cells (cellsO L) el .ro))
  else match L[id - 9]? with | some q => blkI q | none => none
noncomputable def stA (L : List Row3) (el : TypeId) : St := { heap := mkTr (blkF L el) (9 + L.length), next := 9 + L.length }
theorem stA_get {L : List Row3} {el : TypeId} {id : Nat} : (stA L el).get id = if id < 9 + L.length then blkF L el id else none := mkTr_get
noncomputable def pmA (L : List Row3) (v : Value) : Pm := fun id =>
  if id < 8 then some ⟨id, 0, 0⟩ else if id = 8 then some (plV v) else match L[id - 9]? with | some q => some (plV q.1) | none => none

theorem pmA_inner {L : List Row3} {v : Value} {i : Nat} (hi : i < L.length) : pmA L v (9 + i) = some (plV L[i].1) := by
  unfold pmA
  rw [if_neg (by omega), if_neg (by omega)]
  have e : 9 + i - 9 = i := by omega
  rw [e, List.getElem?_eq_getElem hi]

theorem rep_inW {W : World} {w : Value} {l : List (List Nat)} {el : TypeId} (h : InW W w l el) {ρ : Pm} {id : Nat} (hp : ρ id = some (plV w)) : Rep ρ (vV id w) w := by
  cases h with
  | nil => exact .sn 0 0
  | z a => exact .sz id 0 0 ⟨0, 0, 0⟩ a hp rfl
  | e blk off cap hc h =>
    have e1 : vV id (.slice (some ⟨blk, off, none⟩) 0 cap) = .sl (some (id, 0)) 0 (.ex cap) := if_neg hc
    have e2 : plV (.slice (some ⟨blk, off, none⟩) 0 cap) = ⟨blk, off, 0⟩ := if_neg hc
    rw [e1]; rw [e2] at hp
    exact .se id 0 0 cap ⟨blk, off, 0⟩ hp
  | «at» blk off cap arr _ frz _ h0 hcap hb hc =>
    have hc0 : cap ≠ 0 := fun e => h0 (List.eq_nil_of_length_eq_zero (by omega))
    have e1 : vV id (.slice (some ⟨blk, off, none⟩) l.length cap) = .sl (some (id, 0)) l.length (.ex cap) := if_neg hc0
    have e2 : plV (.slice (some ⟨blk, off, none⟩) l.length cap) = ⟨blk, off, 0⟩ := if_neg hc0
    rw [e1]; rw [e2] at hp
    exact .se id 0 l.length cap ⟨blk, off, 0⟩ hp
theorem rep_outW {W : World} {w : Value} {l : List Value} {el : TypeId} (h : OutW W w l el) {ρ : Pm} {id : Nat} (hp : ρ id = some (plV w)) : Rep ρ (vV id w) w := by
  cases h with
  | nil => exact .sn 0 0
  | z a => exact .sz id 0 0 ⟨0, 0, 0⟩ a hp rfl
  | e blk off cap hc h =>
    have e1 : vV id (.slice (some ⟨blk, off, none⟩) 0 cap) = .sl (some (id, 0)) 0 (.ex cap) := if_neg hc
    have e2 : plV (.slice (some ⟨blk, off, none⟩) 0 cap) = ⟨blk, off, 0⟩ := if_neg hc
    rw [e1]; rw [e2] at hp
    exact .se id 0 0 cap ⟨blk, off, 0⟩ hp
  | «at» blk off cap arr _ frz _ h0 hcap hb hc =>
    have hc0 : cap ≠ 0 := fun e => h0 (List.eq_nil_of_length_eq_zero (by omega))
    have e1 : vV id (.slice (some ⟨blk, off, none⟩) l.length cap) = .sl (some (id, 0)) l.length (.ex cap) := if_neg hc0
    have e2 : plV (.slice (some ⟨blk, off, none⟩) l.length cap) = ⟨blk, off, 0⟩ := if_neg hc0
    rw [e1]; rw [e2] at hp
    exact .se id 0 l.length cap ⟨blk, off, 0⟩ hp
theorem bnd_inW {W : World} {w : Value} {l : List (List Nat)} {el : TypeId} (h : InW W w l el) (h0 : 0 < W.heap.size) : (plV w).blk < W.heap.size := by
  cases h with
  | nil => exact h0
  | z a => exact h0
  | e blk off cap hc h => rw [show plV (.slice (some ⟨blk, off, none⟩) 0 cap) = ⟨blk, off, 0⟩ from if_neg hc]; exact h
  | «at» blk off cap arr _ frz _ h1 hcap hb hc =>
    have hc0 : cap ≠ 0 := fun e => h1 (List.eq_nil_of_length_eq_zero (by omega))
    rw [show plV (.slice (some ⟨blk, off, none⟩) l.length cap) = ⟨blk, off, 0⟩ from if_neg hc0]
    exact heap_lt hb
theorem bnd_outW {W : World} {w : Value} {l : List Value} {el : TypeId} (h : OutW W w l el) (h0 : 0 < W.heap.size) : (plV w).blk < W.heap.size := by
  cases h with
  | nil => exact h0
  | z a => exact h0
  | e blk off cap hc h => rw [show plV (.slice (some ⟨blk, off, none⟩) 0 cap) = ⟨blk, off, 0⟩ from if_neg hc]; exact h
  | «at» blk off cap arr _ frz _ h1 hcap hb hc =>
    have hc0 : cap ≠ 0 := fun e => h1 (List.eq_nil_of_length_eq_zero (by omega))
    rw [show plV (.slice (some ⟨blk, off, none⟩) l.length cap) = ⟨blk, off, 0⟩ from if_neg hc0]
    exact heap_lt hb

theorem slAt_inW {W : World} {w : Value} {l : List (List Nat)} {el : TypeId} (h : InW W w l el) (hl : Len32 l) {σ : St} {id : Nat} (hid : id < σ.next) (hg : l ≠ [] → σ.get id = some (.cells (hvs l) el .ro)) : SlAt σ (vV id w) l := by
  cases h with
  | nil => exact .nil 0
  | z a => exact .at id 0 (.op 0) [] 0 .ro [] (.inl rfl)
  | e blk off cap hc h =>
    have e1 : vV id (.slice (some ⟨blk, off, none⟩) 0 cap) = .sl (some (id, 0)) 0 (.ex cap) := if_neg hc
    rw [e1]
    exact .at id 0 (.ex cap) [] 0 .ro [] (.inl rfl)
  | «at» blk off cap arr _ frz _ h0 hcap hb hc =>
    have hc0 : cap ≠ 0 := fun e => h0 (List.eq_nil_of_length_eq_zero (by omega))
    have e1 : vV id (.slice (some ⟨blk, off, none⟩) l.length cap) = .sl (some (id, 0)) l.length (.ex cap) := if_neg hc0
    rw [e1]
    exact .at id 0 (.ex cap) (hvs l) el .ro l (.inr ⟨hid, hg h0, by rw [List.drop_zero, List.take_of_length_le (by rw [hvs_len hl]; exact Nat.le_refl _)], by rw [hvs_len hl]; omega⟩)

/-- One table, in a world. -/
def TabW (W : World) (g : Nat) (c : List V) (el : TypeId) : Prop := ∃ arr frz, W.heap[g]? = some (.cells arr el frz) ∧ ∀ ρ, RepL ρ c (win arr.toList 0 c.length)

theorem relA {W : World} {v : Value} {L : List Row3} {el : TypeId} (ho : OutW W v (L.map (·.1)) el) (hi : ∀ q ∈ L, Len32 q.2.1 ∧ InW W q.1 q.2.1 q.2.2) (hsz : 8 ≤ W.heap.size)
    (h3 : TabW W 3 VxL17 23) (h4 : TabW W 4 VxL18 482) (h5 : TabW W 5 VxL19 536) : Rel 8 (pmA L v) (stA L el) W where
  glob := fun g hg => ⟨0, if_pos hg⟩
  dom := fun id pl hp => by
    show id < 9 + L.length
    unfold pmA at hp
    by_cases h1 : id < 8
    · omega
    · by_cases h2 : id = 8
      · omega
      · rw [if_neg h1, if_neg h2] at hp
        split at hp
        · rename_i q hq
          rcases Nat.lt_or_ge (id - 9) L.length with x | x
          · omega
          · rw [List.getElem?_eq_none x] at hq; cases hq
        · cases hp
  bnd := fun id pl hp => by
    unfold pmA at hp
    by_cases h1 : id < 8
    · rw [if_pos h1] at hp; cases hp; show id < _; omega
    · by_cases h2 : id = 8
      · rw [if_neg h1, if_pos h2] at hp; cases hp; exact bnd_outW ho (by omega)
      · rw [if_neg h1, if_neg h2] at hp
        split at hp
        · rename_i q hq
          cases hp
          exact bnd_inW (hi q (List.mem_of_getElem? hq)).2 (by omega)
        · cases hp
  blk := fun id b hg => by
    rw [stA_get] at hg
    split at hg
    · rename_i hlt
      unfold blkF at hg
      have tab : ∀ {g : Nat} {c : List V} {e : TypeId}, g < 8 → TabW W g c e → ∃ pl o, pmA L v g = some pl ∧ W.heap[pl.blk]? = some o ∧ RepB (pmA L v) (.cells c e .ro) pl o := by
        rintro g c e hg8 ⟨arr, frz, t1, t2⟩
        exact ⟨⟨g, 0, 0⟩, _, if_pos hg8, t1, .cells _ _ _ _ _ _ (t2 _) trivial⟩
      by_cases h1 : id < 8
      · rw [if_pos h1] at hg
        split at hg
        · rename_i e; cases hg; subst e; exact tab (by omega) h3
        · split at hg
          · rename_i e; cases hg; subst e; exact tab (by omega) h4
          · split at hg
            · rename_i e; cases hg; subst e; exact tab (by omega) h5
            · cases hg
      · rw [if_neg h1] at hg
        by_cases h2 : id = 8
        · rw [if_pos h2] at hg
          subst h2
          split at hg
          · cases hg
          · rename_i hL
            cases hg
            generalize hvs' : L.map (·.1) = ws at ho
            cases ho with
            | nil => exact absurd (List.map_eq_nil_iff.1 hvs') hL
            | z a => exact absurd (List.map_eq_nil_iff.1 hvs') hL
            | e blk off cap hc h => exact absurd (List.map_eq_nil_iff.1 hvs') hL
            | «at» blk off cap arr _ frz _ h0 hcap hb hc =>
              have hc0 : cap ≠ 0 := fun e => h0 (List.eq_nil_of_length_eq_zero (by omega))
              have e2 : plV (.slice (some ⟨blk, off, none⟩) ws.length cap) = ⟨blk, off, 0⟩ := if_neg hc0
              refine ⟨⟨blk, off, 0⟩, _, (by show pmA L (.slice (some ⟨blk, off, none⟩) ws.length cap) 8 = _; unfold pmA; rw [if_neg (by omega), if_pos rfl, e2]), hb, .cells _ _ _ _ _ _ ?_ trivial⟩
              have hlen : (cellsO L).length = ws.length := by rw [← hvs']; simp [cellsO]
              rw [hlen]
              show RepL _ (cellsO L) (win arr.toList off ws.length)
              rw [show win arr.toList off ws.length = L.map (·.1) from hc.trans hvs'.symm]
              -- value by value
              have key : ∀ (M : List Row3) (k : Nat), (∀ i (h : i < M.length), pmA L (.slice (some ⟨blk, off, none⟩) ws.length cap) (9 + (k + i)) = some (plV M[i].1)) → (∀ q ∈ M, q ∈ L) →
                  RepL (pmA L (.slice (some ⟨blk, off, none⟩) ws.length cap)) (M.mapIdx fun i q => vV (9 + (k + i)) q.1) (M.map (·.1)) := by
                intro M
                induction M with
                | nil => intro k _ _; exact .nil
                | cons q M ih =>
                  intro k hk hm
                  rw [List.mapIdx_cons, List.map_cons]
                  refine .cons _ _ _ _ (rep_inW (hi q (hm q List.mem_cons_self)).2 (hk 0 (Nat.succ_pos _))) ?_
                  have := ih (k + 1) (fun i h => by
                    have := hk (i + 1) (by simpa using h)
                    rw [show 9 + (k + 1 + i) = 9 + (k + (i + 1)) by omega]
                    simpa using this) (fun q hq => hm q (List.mem_cons_of_mem _ hq))
                  have e : (fun i (q : Row3) => vV (9 + (k + 1 + i)) q.1) = fun i q => vV (9 + (k + (i + 1))) q.1 := by
                    funext i q; rw [show k + 1 + i = k + (i + 1) by omega]
                  rw [e] at this
                  exact this
              have := key L 0 (fun i h => by rw [Nat.zero_add]; exact pmA_inner h) (fun _ h => h)
              simpa [cellsO] using this
        · rw [if_neg h2] at hg
          split at hg
          · rename_i q hq
            unfold blkI at hg
            split at hg
            · cases hg
            · rename_i hne
              cases hg
              have hqm := hi q (List.mem_of_getElem? hq)
              have hp : pmA L v id = some (plV q.1) := by unfold pmA; rw [if_neg h1, if_neg h2, hq]
              obtain ⟨w, l, e⟩ := q
              simp only at hne hqm hp ⊢
              cases hqm.2 with
              | nil => exact absurd rfl hne
              | z a => exact absurd rfl hne
              | e blk off cap hc h => exact absurd rfl hne
              | «at» blk off cap arr _ frz _ h0 hcap hb hc =>
                have hc0 : cap ≠ 0 := fun e => h0 (List.eq_nil_of_length_eq_zero (by omega))
                rw [show plV (.slice (some ⟨blk, off, none⟩) l.length cap) = ⟨blk, off, 0⟩ from if_neg hc0] at hp
                refine ⟨_, _, hp, hb, .cells _ _ _ _ _ _ ?_ trivial⟩
                show RepL _ (hvs l) (win arr.toList off (hvs l).length)
                rw [hvs_len hqm.1, hc]
                exact rep_hvs _ _
          · cases hg
    · cases hg
  inj := fun id id' b b' pl pl' g g' _ _ _ => by
    have ro : ∀ {i : Nat} {x : Blk}, (stA L el).get i = some x → x.ro = true := by
      intro i x hx
      rw [stA_get] at hx
      unfold blkF blkI at hx
      repeat' split at hx
      all_goals first | (cases hx; rfl) | cases hx
    exact .inr ⟨ro g, ro g'⟩

theorem stA_ro {L : List Row3} {el : TypeId} {i : Nat} {x : Blk} (hx : (stA L el).get i = some x) : x.ro = true := by
  rw [stA_get] at hx
  unfold blkF blkI at hx
  repeat' split at hx
  all_goals first | (cases hx; rfl) | cases hx

theorem argA {W : World} {v : Value} {L : List Row3} {el : TypeId} (ho : OutW W v (L.map (·.1)) el) (hi : ∀ q ∈ L, Len32 q.2.1 ∧ InW W q.1 q.2.1 q.2.2) : ArgL (stA L el) (vV 8 v) (L.map (·.2.1)) := by
  generalize hvs' : L.map (·.1) = ws at ho
  have nilc : ws = [] → L = [] := fun e => List.map_eq_nil_iff.1 (hvs'.trans e)
  cases ho with
  | nil => have := nilc rfl; subst this; exact .nil none (.ex 0)
  | z a => have := nilc rfl; subst this; exact .nil (some (8, 0)) (.op 0)
  | e blk off cap hc h =>
    have := nilc rfl; subst this
    have e1 : vV 8 (.slice (some ⟨blk, off, none⟩) 0 cap) = .sl (some (8, 0)) 0 (.ex cap) := if_neg hc
    rw [e1]
    exact .nil (some (8, 0)) (.ex cap)
  | «at» blk off cap arr _ frz _ h0 hcap hb hc =>
    have hc0 : cap ≠ 0 := fun e => h0 (List.eq_nil_of_length_eq_zero (by omega))
    have e1 : vV 8 (.slice (some ⟨blk, off, none⟩) ws.length cap) = .sl (some (8, 0)) ws.length (.ex cap) := if_neg hc0
    have hL : L ≠ [] := fun e => h0 (by rw [← hvs', e]; rfl)
    have hlen : ws.length = (L.map (·.2.1)).length := by rw [← hvs']; simp
    rw [e1, hlen]
    refine ArgL.at (σ := stA L el) 8 0 (.ex cap) (cellsO L) el .ro (L.map (·.2.1)) (by show 8 < 9 + L.length; omega) ?_ (fun i hlt => ?_)
    · rw [stA_get, if_pos (by omega)]
      unfold blkF
      rw [if_neg (by omega), if_pos rfl, if_neg hL]
    · have hlt' : i < L.length := by simpa using hlt
      refine ⟨vV (9 + i) L[i].1, by simp [cellsO, List.getElem?_eq_getElem hlt'], ?_⟩
      have hq := hi L[i] (List.getElem_mem hlt')
      simp only [List.getElem_map]
      refine slAt_inW hq.2 hq.1 (by show 9 + i < 9 + L.length; omega) (fun hne => ?_)
      rw [stA_get, if_pos (by omega)]
      unfold blkF
      rw [if_neg (by omega), if_neg (by omega), show 9 + i - 9 = i by omega, List.getElem?_eq_getElem hlt']
      simp only [blkI]
      rw [if_neg hne]

theorem run_of {W : World} {v : Value} {L : List Row3} {el : TypeId} {h : List Nat} (ho : OutW W v (L.map (·.1)) el) (hi : ∀ q ∈ L, Len32 q.2.1 ∧ InW W q.1 q.2.1 q.2.2) (hh : h.length = 32) (hsz : 8 ≤ W.heap.size)
    (h3 : TabW W 3 VxL17 23) (h4 : TabW W 4 VxL18 482) (h5 : TabW W 5 VxL19 536) : Calls Tryz.prog 3 #[v, .agg (vals h).toArray] W fun e W' => e = .returned (.bool true) ∧ Below W.heap.size W W' := by
  have hR := relA ho hi hsz h3 h4 h5
  have hpre : ∀ p ∈ Vm22.pre, (stA L el).get p.1 = some p.2 ∧ p.1 < (stA L el).next := by
    intro p hp
    have hp' : p = (3, .cells VxL17 23 .ro) ∨ p = (4, .cells VxL18 482 .ro) ∨ p = (5, .cells VxL19 536 .ro) := by
      have hp2 : p ∈ [((3 : Nat), Blk.cells VxL17 23 .ro), (4, .cells VxL18 482 .ro), (5, .cells VxL19 536 .ro)] := hp
      simpa using hp2
    rcases hp' with rfl | rfl | rfl <;> exact ⟨by rw [stA_get, if_pos (by simp only; omega)]; rfl, by show _ < 9 + L.length; simp only; omega⟩
  have hcall := law_to (argA ho hi) (fun l hl => by
    obtain ⟨q, hq, rfl⟩ := List.mem_map.1 hl
    exact (hi q hq).1) hh hpre (fun h20 => by
      show 9 + L.length ≤ 1000000
      simp only [List.length_map] at h20
      omega)
  have ha : RepL (pmA L v) [vV 8 v, .ag (hv h)] (#[v, Value.agg (vals h).toArray] : Array Value).toList :=
    .cons _ _ _ _ (rep_outW ho (by unfold pmA; rw [if_neg (by omega), if_pos rfl])) (.cons _ _ _ _ (.ag _ _ (by simpa using rep_hv _ h)) .nil)
  obtain ⟨r, hok, hv'⟩ := (callTo_fn (TA_no (by decide)) hcall).ok (evT_model TA_ok) hR ha
  rcases hok with ⟨c, w', hbad, _⟩ | ⟨_, hin⟩
  · rw [enter_ok E_ok E_nm (f := 3) (fn := Tryz.f3) (by kernel_rfl) rfl] at hbad
    cases hbad
  · refine (callsIn_wide.1 hin).mono ?_
    rintro e W' ⟨c, rfl, ρ', g, hrep⟩
    rw [hv'] at hrep
    cases hrep
    refine ⟨rfl, g.os, g.tape, g.out, g.size, fun k hk => g.frame k hk ?_⟩
    rintro ⟨id, b, pl, x1, x2, _⟩
    rw [stA_ro x1] at x2
    cases x2
end Go.Proofs.Tz
