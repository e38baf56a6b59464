/- Operations that act are the model's (1): writing, maps. -/
import Derived.Test.YtcpkjcpghmnklaaGreatDoorB
import Derived.Laws.MakeOwn
import Derived.Test.YtcpkjcpghmnklaaGreatDoorA
import Derived.RangeFuncLeaves
set_option linter.all false

/- Operations that act are the model's (1): writing, maps. -/
namespace Go.AM
open Go

/-- An operation has been made. -/
structure Ran (E : Env) (P : Program) (ρ : Pm) (σ : St) (w : World) (v : V) (σ' : St) (s : Sem Next) : Prop where
  ex : ∃ ρ' w' c, Goes E.gl ρ σ w ρ' σ' w' ∧ Rep ρ' v c ∧ (s.run P w = .ok (.value c) w' ∨ (s.run P w = .ok .skip w' ∧ c = undef))

section
variable {E : Env} {P : Program} (hE : E.Ok P) {w : World} {ρ : Pm} {σ : St}

theorem Rep.undef : Rep ρ undefV undef := .tu _ _ .nil

theorem setObj_upd {r : Nat} {o0 : Obj} (o : Obj) (h : w.heap[r]? = some o0) (hn : ∀ a b c, o0 ≠ .cells a b c) :
    ∃ w', (∀ P, (setObj r o).run P w = .ok () w') ∧ Upd w r o w' := by
  refine ⟨{ w with heap := w.heap.setIfInBounds r o }, fun P => ?_, by simp, ?_, ?_, rfl, rfl, rfl⟩
  · cases o0 with
    | cells a b c => exact absurd rfl (hn a b c)
    | _ => simp [setObj, Sem.run, h]
  · have : r < w.heap.size := by
      rcases Nat.lt_or_ge r w.heap.size with x | x
      · exact x
      · rw [Array.getElem?_eq_none x] at h; cases h
    simp [this]
  · intro j hj
    simp only [Array.getElem?_setIfInBounds]
    rw [if_neg (fun e => hj e.symm)]

/-- A block is written as it was. -/
theorem Goes.again {gl : Nat} {w' : World} {id : Nat} {b : Blk} {o' : Obj} {pl : Pl} (h : Rel gl ρ σ w) (hg : σ.get id = some b) (hro : b.ro = false) (hp : ρ id = some pl)
    (hb : RepB ρ b pl o') (hw : Upd w pl.blk o' w') : Goes gl ρ σ w ρ σ w' := by
  have hu2 := Goes.upd h hg hro hp hb hw
  have hget : ∀ i, (σ.put id b).get i = σ.get i := by
    intro i; rw [St.get_put]; split
    · rename_i q; subst q; exact hg.symm
    · rfl
  exact ⟨hu2.le, ⟨hu2.rel.glob, hu2.rel.dom, hu2.rel.bnd, fun i b hi => hu2.rel.blk i b (by rw [hget]; exact hi), fun i i' b b' p p' g g' => hu2.rel.inj i i' b b' p p' (by rw [hget]; exact g) (by rw [hget]; exact g')⟩, hu2.size, fun _ _ h => h, hu2.frame, hu2.os, hu2.out, hu2.tape, fun _ _ h => h, Nat.le_refl _, fun _ _ h => .inl h⟩

theorem same1_eq {k k' : V} (h : same1 k k' = true) : k = k' := by
  unfold same1 at h
  split at h
  · simp at h; subst h; rfl
  · simp only [Bool.and_eq_true] at h
    have := kEq_iff h.1
    subst this
    rw [eqI_eq] at h
    have := h.2
    simp at this
    subst this; rfl
  · rw [eqL_eq] at h; simp at h; subst h; rfl
  · cases h
theorem sameL_eq : ∀ {a b : List V}, sameL a b = true → a = b := by
  intro a
  induction a with
  | nil => intro b h; cases b with | nil => rfl | cons y ys => simp [sameL] at h
  | cons x xs ih =>
    intro b h
    cases b with
    | nil => simp [sameL] at h
    | cons y ys =>
      simp only [sameL, bcase_eq] at h
      split at h
      · rename_i h1; rw [same1_eq h1, ih h]
      · cases h
theorem sameK_eq {k k' : V} (h : sameK k k' = true) : k = k' := by
  unfold sameK at h
  split at h
  · rw [sameL_eq h]
  · exact same1_eq h

theorem setEK_some {α : Type} {k v : V} {r : α} : ∀ {es : List (V × V × Nat)} {i : Nat} {f : List (V × V × Nat) → Option α}, setEK k v es i f = some r →
    ∃ v0 n, es[i]? = some (k, v0, n) ∧ f (es.set i (k, v, n)) = some r := by
  intro es
  induction es with
  | nil => intro i f h; simp [setEK] at h
  | cons e es ih =>
    intro i f h
    cases i with
    | zero =>
      have h' : bcase (sameK k e.1) (f ((k, v, e.2.2) :: es)) none = some r := h
      rw [bcase_eq] at h'
      split at h'
      · rename_i hk
        have := sameK_eq hk
        obtain ⟨k', v0, n⟩ := e
        cases this
        exact ⟨v0, n, rfl, h'⟩
      · cases h'
    | succ i =>
      have h' : (setEK k v es i fun es => f (e :: es)) = some r := h
      obtain ⟨v0, n, h1, h2⟩ := ih h'
      exact ⟨v0, n, by simpa using h1, by simpa using h2⟩

theorem delEK_eq {α : Type} : ∀ (es : List (V × V × Nat)) (i : Nat) (f : List (V × V × Nat) → α), delEK es i f = f (es.eraseIdx i) := by
  intro es
  induction es with
  | nil => intro i f; simp [delEK]
  | cons e es ih =>
    intro i f
    cases i with
    | zero => rfl
    | succ i => show (delEK es i fun es => f (e :: es)) = _; rw [ih]; simp

theorem pushEK_eq {α : Type} (e : V × V × Nat) : ∀ (es : List (V × V × Nat)) (f : List (V × V × Nat) → α), pushEK e es f = f (es ++ [e]) := by
  intro es
  induction es with
  | nil => intro f; rfl
  | cons x es ih => intro f; show (pushEK e es fun es => f (x :: es)) = _; rw [ih]; rfl

theorem RepE.get {es : List (V × V × Nat)} {es' : List MapEntry} (h : RepE ρ es es') : ∀ {i : Nat} {k v : V} {n : Nat}, es[i]? = some (k, v, n) → ∃ e, es'[i]? = some e ∧ Rep ρ k e.key ∧ Rep ρ v e.val ∧ e.born = n := by
  induction h with
  | nil => intro i k v n h; simp at h
  | cons k v n e es es' hk hv hn _ ih =>
    intro i k' v' n' h
    cases i with
    | zero => simp at h; obtain ⟨rfl, rfl, rfl⟩ := h; exact ⟨e, by simp, hk, hv, hn⟩
    | succ i => obtain ⟨e', h1, h2⟩ := ih (by simpa using h); exact ⟨e', by simpa using h1, h2⟩

theorem RepE.set {es : List (V × V × Nat)} {es' : List MapEntry} (h : RepE ρ es es') : ∀ {i : Nat} {k v : V} {n : Nat} {e : MapEntry}, Rep ρ k e.key → Rep ρ v e.val → e.born = n → RepE ρ (es.set i (k, v, n)) (es'.set i e) := by
  induction h with
  | nil => intro i k v n e _ _ _; exact .nil
  | cons k v n e es es' hk hv hn hs ih =>
    intro i k' v' n' e' h1 h2 h3
    cases i with
    | zero => exact .cons _ _ _ _ _ _ h1 h2 h3 hs
    | succ i => exact .cons _ _ _ _ _ _ hk hv hn (ih h1 h2 h3)

theorem RepE.erase {es : List (V × V × Nat)} {es' : List MapEntry} (h : RepE ρ es es') : ∀ (i : Nat), RepE ρ (es.eraseIdx i) (es'.eraseIdx i) := by
  induction h with
  | nil => intro i; exact .nil
  | cons k v n e es es' hk hv hn hs ih =>
    intro i
    cases i with
    | zero => exact hs
    | succ i => exact .cons _ _ _ _ _ _ hk hv hn (ih i)

theorem RepE.snoc {es : List (V × V × Nat)} {es' : List MapEntry} (h : RepE ρ es es') {k v : V} {e : MapEntry} (h1 : Rep ρ k e.key) (h2 : Rep ρ v e.val) : RepE ρ (es ++ [(k, v, e.born)]) (es' ++ [e]) := by
  induction h with
  | nil => exact .cons _ _ _ _ _ _ h1 h2 rfl .nil
  | cons k v n e es es' hk hv hn hs ih => exact .cons _ _ _ _ _ _ hk hv hn ih

theorem run_u {s : Sem Unit} {w' : World} (h : s.run P w = .ok () w') : (do s; pure .skip : Sem Next).run P w = .ok .skip w' := by
  simp only [Sem.run_bind, h, Result.andThen_ok, Sem.run_pure]

include hE
theorem storeC_ok (hR : Rel E.gl ρ σ w) {n : Nat} {tm : Tr V} {a : Act} (hT : RepT ρ n tm a.tmps) {t : TypeId} {x y : Operand} {out : Out} (h : (storeC E t x y).run tm σ = some out) :
    ∃ v σ' w', out = .val v σ' ∧ v = undefV ∧ Goes E.gl ρ σ w ρ σ' w' ∧ (Instr.storeAt t (a.eval x) (a.eval y)).run P w = .ok () w' := by
  unfold storeC at h
  split at h
  · rename_i s hs
    obtain ⟨va, ha, h⟩ := bindV_some h
    obtain ⟨vx, hx, h⟩ := bindV_some h
    have hra := opc_ok hR hT ha
    have hrx := opc_ok hR hT hx
    unfold storeV at h
    obtain ⟨id, off, e0, hn⟩ := ptr_some h
    clear h
    subst e0
    have h := hn
    clear hn
    rw [bcase_eq] at h
    split at h
    · rename_i hl
      obtain ⟨c, el, md, h1, h2, h3, h4, h5⟩ := writeK_some h
      obtain ⟨pl, hp, hpe⟩ := hra.ptr_inv
      obtain ⟨w', h6, h7⟩ := write_ok hR h1 h2 h3 h4 hp hrx.cells
      cases h5
      refine ⟨_, _, w', rfl, rfl, h6, ?_⟩
      have hsz : (a.eval y).cells.size = s := by
        have := hrx.cells.length
        simp only [Array.length_toList] at this
        rw [← this]
        rw [lenL_eq] at hl
        simpa using hl
      rw [hpe]
      simp only [Instr.storeAt, Instr.sureAddr, Sem.run_bind, Sem.run_pure, Result.andThen_ok, storeVar, run_size hE hs, hsz, ne_eq, not_true_eq_false, if_false, h7 P]
    · cases h
  · cases h

theorem mapUpdC_ok (hR : Rel E.gl ρ σ w) {n : Nat} {tm : Tr V} {a : Act} (hT : RepT ρ n tm a.tmps) {t : TypeId} {m k x : Operand} {out : Out} (h : (mapUpdC E t m k x).run tm σ = some out) :
    ∃ v σ' w', out = .val v σ' ∧ v = undefV ∧ Goes E.gl ρ σ w ρ σ' w' ∧ (Instr.mapUpdate t (a.eval m) (a.eval k) (a.eval x)).run P w = .ok () w' := by
  unfold mapUpdC at h
  split at h
  · rename_i kt et hu
    split at h
    · rename_i hk
      obtain ⟨vm, hm, h⟩ := bindV_some h
      obtain ⟨vk, hkk, h⟩ := bindV_some h
      obtain ⟨vx, hx, h⟩ := bindV_some h
      have hrm := opc_ok hR hT hm
      have hrk := opc_ok hR hT hkk
      have hrx := opc_ok hR hT hx
      generalize a.eval m = cm at hrm ⊢
      generalize a.eval k = ck at hrk ⊢
      generalize a.eval x = cx at hrx ⊢
      unfold mapUpdV at h
      split at h
      · split at h
        · cases h
        · rename_i id
          split at h
          · rename_i b hb
            split at h
            · rename_i es clock
              rw [bcase_eq] at h
              split at h
              · rename_i hf
                obtain ⟨pl, es', hp, hw, he⟩ := hR.map hb
                cases hrm with | m _ pl' hp' =>
                rw [hp] at hp'; cases hp'
                obtain ⟨res, h1, h2⟩ := findKey_ok hE hR hk hrk he h
                rcases h2 with ⟨rfl, h2⟩ | ⟨j, v', cv, rfl, h3, h4, _, _⟩
                · rw [pushEK_eq, forceN_eq, St.putK_eq] at h2
                  cases h2
                  obtain ⟨w', h5, h6⟩ := setObj_upd (.map (es'.push { key := ck, val := cx, born := clock }) (clock + 1)) hw (by intros; simp)
                  refine ⟨_, _, w', rfl, rfl, Goes.upd hR hb rfl hp (.map _ _ _ _ ?_) h6, ?_⟩
                  · simp only [Array.toList_push]
                    exact he.snoc (e := { key := ck, val := cx, born := clock }) hrk hrx
                  · simp only [Instr.mapUpdate, Sem.run_bind, run_und hE hu, Result.andThen_ok, run_getObj_map hw, checkKey_ok hE hk hf hrk, h1, h5]
                · obtain ⟨v0, n0, h5, h6⟩ := setEK_some h4
                  rw [St.putK_eq] at h6
                  cases h6
                  obtain ⟨e, h7, h8, h9, h10⟩ := he.get h5
                  -- whichever key stays
                  have hstay : ∃ kk w₁, Alk w w₁ ∧ Rep ρ vk kk ∧ (Instr.keyThatStays e.key ck).run P w = .ok kk w₁ := by
                    unfold Instr.keyThatStays
                    split
                    · exact ⟨ck, w, Alk.refl w, hrk, rfl⟩
                    · have hfo : (Question.extern "map.whichKeyStays" 2).forced = false := rfl
                      simp only [Sem.run_bind, run_choose, hfo, Bool.false_eq_true, if_false, Result.andThen_ok]
                      refine ⟨_, { w with drawn := w.drawn + 1 }, ⟨rfl, rfl, rfl, rfl⟩, ?_, rfl⟩
                      split
                      · exact hrk
                      · exact h8
                  obtain ⟨kk, w₁, hal, hkk', hrun⟩ := hstay
                  have hw1 : w₁.heap[pl.blk]? = some (.map es' clock) := by rw [hal.heap]; exact hw
                  obtain ⟨w', h11, h12⟩ := setObj_upd (.map (es'.modify j fun e => { e with key := kk, val := cx }) clock) hw1 (by intros; simp)
                  have hg1 := Goes.alk hR hal
                  refine ⟨_, _, w', rfl, rfl, hg1.trans (Goes.upd hg1.rel hb rfl hp (.map _ _ _ _ ?_) h12), ?_⟩
                  · have hje : es'[j]? = some e := by simpa using h7
                    have : (es'.modify j fun e => { e with key := kk, val := cx }).toList = es'.toList.set j { e with key := kk, val := cx } := by
                      apply List.ext_getElem?
                      intro i
                      simp only [Array.getElem?_toList, Array.getElem?_modify, List.getElem?_set, Array.length_toList]
                      by_cases q : j = i
                      · subst q
                        have hlt : j < es'.size := by
                          rcases Nat.lt_or_ge j es'.size with x | x
                          · exact x
                          · rw [Array.getElem?_eq_none x] at hje; cases hje
                        have : es'[j] = e := by rw [Array.getElem?_eq_getElem hlt] at hje; simpa using hje
                        simp [hlt, this]
                      · simp [q]
                    rw [this]
                    exact he.set hkk' hrx h10
                  · have hje : es'[j]? = some e := by simpa using h7
                    simp only [Instr.mapUpdate, Sem.run_bind, run_und hE hu, Result.andThen_ok, run_getObj_map hw, checkKey_ok hE hk hf hrk, h1, hje, Option.map_some, Option.getD_some, hrun, h11]
              · cases h
            · cases h
          · cases h
      · cases h
    · cases h
  · cases h

theorem deleteC_ok (hR : Rel E.gl ρ σ w) {n : Nat} {tm : Tr V} {a : Act} (hT : RepT ρ n tm a.tmps) {t ty : TypeId} {ts : Array TypeId} {m k : Operand} {out : Out} (ht : ts[0]? = some t) (h : (deleteC E t m k).run tm σ = some out) :
    ∃ v σ' w' c, out = .val v σ' ∧ Goes E.gl ρ σ w ρ σ' w' ∧ Rep ρ v c ∧ (Builtin.delete_ ts ty #[a.eval m, a.eval k]).run P w = .ok c w' := by
  unfold deleteC at h
  split at h
  · rename_i kt et hu
    split at h
    · rename_i hk
      obtain ⟨vm, hm, h⟩ := bindV_some h
      obtain ⟨vk, hkk, h⟩ := bindV_some h
      have hrm := opc_ok hR hT hm
      have hrk := opc_ok hR hT hkk
      generalize a.eval m = cm at hrm ⊢
      generalize a.eval k = ck at hrk ⊢
      have e0 : (#[cm, ck] : Array Value)[0]? = some cm := rfl
      have e1 : (#[cm, ck] : Array Value)[1]? = some ck := rfl
      unfold deleteV at h
      split at h
      · split at h
        · rw [bcase_eq] at h
          split at h
          · rename_i hf
            cases h
            cases hrm
            refine ⟨_, _, w, .tuple #[], rfl, Goes.refl hR, .tu _ _ .nil, ?_⟩
            simp only [Builtin.delete_, ht, e0, e1, Sem.run_bind, run_und hE hu, Result.andThen_ok, checkKey_ok hE hk hf hrk, Sem.run_pure]
          · cases h
        · rename_i id
          split at h
          · rename_i b hb
            split at h
            · rename_i es clock
              rw [bcase_eq] at h
              split at h
              · rename_i hf
                obtain ⟨pl, es', hp, hw, he⟩ := hR.map hb
                cases hrm with | m _ pl' hp' =>
                rw [hp] at hp'; cases hp'
                obtain ⟨res, h1, h2⟩ := findKey_ok hE hR hk hrk he h
                rcases h2 with ⟨rfl, h2⟩ | ⟨j, v', cv, rfl, h3, h4, _, _⟩
                · cases h2
                  obtain ⟨w', h5, h6⟩ := setObj_upd (.map es' clock) hw (by intros; simp)
                  have hput := Goes.again hR hb rfl hp (.map es clock pl es' he) h6
                  refine ⟨_, _, w', .tuple #[], rfl, hput, .tu _ _ .nil, ?_⟩
                  simp only [Builtin.delete_, ht, e0, e1, Sem.run_bind, run_und hE hu, Result.andThen_ok, run_getObj_map hw, checkKey_ok hE hk hf hrk, h1, h5, Sem.run_pure]
                · rw [delEK_eq, St.putK_eq] at h4
                  cases h4
                  obtain ⟨w', h5, h6⟩ := setObj_upd (.map (es'.eraseIdxIfInBounds j) clock) hw (by intros; simp)
                  refine ⟨_, _, w', .tuple #[], rfl, Goes.upd hR hb rfl hp (.map _ _ _ _ ?_) h6, .tu _ _ .nil, ?_⟩
                  · have : (es'.eraseIdxIfInBounds j).toList = es'.toList.eraseIdx j := by
                      unfold Array.eraseIdxIfInBounds
                      split
                      · simp
                      · rename_i q; rw [List.eraseIdx_of_length_le]; simpa using q
                    rw [this]
                    exact he.erase j
                  · simp only [Builtin.delete_, ht, e0, e1, Sem.run_bind, run_und hE hu, Result.andThen_ok, run_getObj_map hw, checkKey_ok hE hk hf hrk, h1, h5, Sem.run_pure]
              · cases h
            · cases h
          · cases h
      · cases h
    · cases h
  · cases h
omit hE
end
end Go.AM

/- Operations that act are the model's (2): iterators, new rows, marks, copy, clear. -/
namespace Go.AM
open Go

section
variable {E : Env} {P : Program} (hE : E.Ok P) {w : World} {ρ : Pm} {σ : St}

theorem rangeNew_ok (hR : Rel E.gl ρ σ w) {b : Blk} {o : Obj} {out : Out} {k : Nat} (hb : RepB ρ b ⟨w.heap.size, 0, k⟩ o) (h : rangeNew b σ = some out) :
    ∃ v σ' ρ' w' c, out = .val v σ' ∧ Goes E.gl ρ σ w ρ' σ' w' ∧ Rep ρ' v c ∧ (do pure (.pointer (some ⟨← newObj o, 0, none⟩)) : Sem Value).run P w = .ok c w' := by
  unfold rangeNew at h
  rw [St.newK_eq] at h
  cases h
  refine ⟨_, _, _, _, _, rfl, Goes.new hR rfl hb, .p _ 0 _ Pm.at_self, ?_⟩
  simp

include hE
theorem rangeC_ok (hR : Rel E.gl ρ σ w) {n : Nat} {tm : Tr V} {a : Act} (hT : RepT ρ n tm a.tmps) {t : TypeId} {x : Operand} {out : Out} (h : (rangeC E t x).run tm σ = some out) :
    ∃ v σ' ρ' w' c, out = .val v σ' ∧ Goes E.gl ρ σ w ρ' σ' w' ∧ Rep ρ' v c ∧ (Instr.range t (a.eval x)).run P w = .ok c w' := by
  unfold rangeC at h
  split at h
  · rename_i hu
    obtain ⟨v, hv, h⟩ := bindV_some h
    have hr := opc_ok hR hT hv
    generalize a.eval x = cx at hr ⊢
    split at h
    · rename_i l
      cases hr with | s _ ba hb =>
      obtain ⟨v, σ', ρ', w', c, h1, h2, h3, h4⟩ := rangeNew_ok (P := P) (k := 0) hR (.siter l 0 ⟨w.heap.size, 0, 0⟩ ba hb rfl) h
      refine ⟨v, σ', ρ', w', c, h1, h2, h3, ?_⟩
      simpa [Instr.range, run_und hE hu] using h4
    · cases h
  · rename_i kt et hu
    obtain ⟨v, hv, h⟩ := bindV_some h
    have hr := opc_ok hR hT hv
    generalize a.eval x = cx at hr ⊢
    unfold rangeMap at h
    split at h
    · split at h
      · cases hr
        obtain ⟨v, σ', ρ', w', c, h1, h2, h3, h4⟩ := rangeNew_ok (P := P) (k := 0) hR (.mitern 0 [] 0 ⟨w.heap.size, 0, 0⟩ #[] rfl rfl) h
        refine ⟨v, σ', ρ', w', c, h1, h2, h3, ?_⟩
        simpa [Instr.range, run_und hE hu] using h4
      · rename_i m
        split at h
        · rename_i es clock hb
          obtain ⟨pl, es', hp, hw, he⟩ := hR.map hb
          cases hr with | m _ pl' hp' =>
          rw [hp] at hp'; cases hp'
          obtain ⟨v, σ', ρ', w', c, h1, h2, h3, h4⟩ := rangeNew_ok (P := P) (k := 0) hR (.miter m clock [] clock ⟨w.heap.size, 0, 0⟩ pl #[] rfl hp rfl) h
          refine ⟨v, σ', ρ', w', c, h1, h2, h3, ?_⟩
          simpa [Instr.range, run_und hE hu, run_getObj_map hw] using h4
        · cases h
    · cases h
  · cases h
omit hE

theorem memN_eq (n : Nat) : ∀ l, memN n l = l.contains n := by
  intro l
  induction l with
  | nil => rfl
  | cons x xs ih =>
    simp only [memN, bcase_eq, ih, List.contains_cons]
    by_cases h : n = x
    · subst h; simp
    · have : (n == x) = false := by simpa using h
      have h2 : ¬ (Nat.beq x n = true) := by simp; omega
      simp [this, h2]

theorem RepE.rest {es : List (V × V × Nat)} {es' : List MapEntry} (h : RepE ρ es es') (seen : Array Nat) : RepE ρ (restE seen.toList es) (es'.filter fun e => !seen.contains e.born) := by
  induction h with
  | nil => exact .nil
  | cons k v n e es es' hk hv hn hs ih =>
    simp only [restE, bcase_eq, memN_eq, List.filter_cons, hn]
    have : seen.toList.contains n = seen.contains n := by simp
    rw [this]
    cases seen.contains n
    · simp only [Bool.false_eq_true, if_false, Bool.not_false, if_true]; exact .cons _ _ _ _ _ _ hk hv hn ih
    · simpa using ih

theorem RepE.allNew {es : List (V × V × Nat)} {es' : List MapEntry} (h : RepE ρ es es') (s : Nat) : AM.allNew s es = es'.all fun e => decide (e.born ≥ s) := by
  induction h with
  | nil => rfl
  | cons k v n e es es' hk hv hn hs ih =>
    simp only [AM.allNew, bcase_eq, ih, List.all_cons, hn]
    by_cases q : s ≤ n
    · simp [q]
    · simp [q]

theorem RepE.nil_iff {es : List (V × V × Nat)} {es' : List MapEntry} (h : RepE ρ es es') : es.isEmpty = es'.isEmpty := by cases h <;> rfl

theorem decode_ascii {s : ByteArray} {pos c : Nat} (h : (s.data.toList.map UInt8.toNat)[pos]? = some c) (hc : c < 128) : Utf8.decode s pos = (c, 1) := by
  have hb : (s.get! (pos + 0)).toNat = c := by
    simp only [List.getElem?_map, Array.getElem?_toList, Option.map_eq_some_iff] at h
    obtain ⟨b, hb, rfl⟩ := h
    have : s.data[pos]! = b := by rw [getElem!_def, hb]
    simp [ByteArray.get!, this]
  unfold Utf8.decode
  simp only [hb, hc, if_true]

theorem nextV_ok (hR : Rel E.gl ρ σ w) {isString : Bool} {it : V} {cit : Value} {out : Out} (hr : Rep ρ it cit) (h : nextV isString it σ = some out) (ty : TypeId) :
    ∃ v σ' ρ' w' c, out = .val v σ' ∧ Goes E.gl ρ σ w ρ' σ' w' ∧ Rep ρ' v c ∧ (Instr.next cit isString ty).run P w = .ok c w' := by
  have over : Rep ρ (.tu [.b false]) (.tuple #[.bool false]) := .tu _ _ (.cons _ _ _ _ (.b _) .nil)
  unfold nextV at h
  obtain ⟨id, off, e0, hn⟩ := ptr_some h
  clear h
  subst e0
  have h := hn
  clear hn
  split at h
  · cases h
  · split at h
    · cases h
    · rename_i b hb
      obtain ⟨pl, o, hp, hw, hrb⟩ := hR.blk _ _ hb
      obtain ⟨pl', hp', hcit⟩ := hr.ptr_inv
      rw [hp] at hp'; cases hp'
      subst hcit
      split at h
      · rename_i s pos
        rw [bcase_eq] at h
        split at h
        · rename_i hs
          subst hs
          cases hrb with | siter _ _ _ ba hba hbase =>
          have hget : (getObj pl.blk).run P w = .ok (.stringIter ba pos) w := by simp [getObj, Sem.run, hw]
          unfold nextStr at h
          rw [nthN_eq] at h
          have hsz : s.length = ba.size := by rw [← hba]; simp
          split at h
          · rename_i hnone
            cases h
            have hge : ¬ pos < ba.size := by
              rw [List.getElem?_eq_none_iff] at hnone; omega
            refine ⟨_, _, ρ, w, _, rfl, Goes.refl hR, over, ?_⟩
            rw [hbase]
            simp [Instr.next, hget, hge]
          · rename_i c hc
            rw [bcase_eq] at h
            split at h
            · rename_i hlt
              have hlt : c < 128 := by simpa using hlt
              rw [forceN_eq, St.putK_eq] at h
              cases h
              obtain ⟨w', h1, h2⟩ := setObj_upd (.stringIter ba (pos + 1)) hw (by intros; simp)
              have hlt2 : pos < ba.size := by
                rcases Nat.lt_or_ge pos ba.size with x | x
                · exact x
                · rw [List.getElem?_eq_none (by omega)] at hc; cases hc
              refine ⟨_, _, ρ, w', .tuple #[.bool true, goInt pos, .int .i32 c], rfl, Goes.upd hR hb rfl hp (.siter s (pos + 1) pl ba hba hbase) h2,
                .tu _ _ (.cons _ _ _ _ (.b _) (.cons _ _ _ _ (.i _ _) (.cons _ _ _ _ (.i _ _) .nil))), ?_⟩
              rw [hbase]
              have hd := decode_ascii (s := ba) (by rw [hba]; exact hc) hlt
              simp [Instr.next, hget, hlt2, hd, h1]
            · cases h
        · cases h
      · rename_i m since seen stepped
        rw [bcase_eq] at h
        split at h
        · cases h
        · rename_i hs
          have hs : isString = false := by simpa using hs
          subst hs
          split at h
          · cases h
            cases hrb with | mitern _ _ _ _ seen' hsn hbase =>
            have hget : (getObj pl.blk).run P w = .ok (.mapIter none since seen' stepped) w := by simp [getObj, Sem.run, hw]
            refine ⟨_, _, ρ, w, _, rfl, Goes.refl hR, over, ?_⟩
            rw [hbase]
            simp [Instr.next, hget]
          · rename_i m
            split at h
            · rename_i es clock hm
              obtain ⟨plm, es', hpm, hwm, he⟩ := hR.map hm
              cases hrb with | miter _ _ _ _ _ plm' seen' hsn hpm' hbase =>
              rw [hpm] at hpm'; cases hpm'
              have hget : (getObj pl.blk).run P w = .ok (.mapIter (some plm.blk) since seen' stepped) w := by simp [getObj, Sem.run, hw]
              have hgetm := run_getObj_map (P := P) hwm
              subst hsn
              unfold nextMap at h
              rw [bcase_eq] at h
              split at h
              · cases h
              · rename_i hnew
                have hnew' : ¬ ((!seen'.isEmpty && !es'.isEmpty && es'.all (·.born ≥ stepped)) = true) := by
                  rw [he.allNew, he.nil_iff] at hnew
                  have e1 : seen'.toList.isEmpty = seen'.isEmpty := by simp
                  have e2 : es'.toList.isEmpty = es'.isEmpty := by simp
                  rw [e1, e2, Array.all_toList] at hnew
                  exact hnew
                have hrest := he.rest seen'
                have hleft : (es'.filter fun e => !seen'.contains e.born).toList = es'.toList.filter fun e => !seen'.contains e.born := by simp
                rw [← hleft] at hrest
                generalize hL : (es'.filter fun e => !seen'.contains e.born) = left at hrest
                split at h
                · rename_i hnil
                  cases h
                  rw [hnil] at hrest
                  have hle : left = #[] := by
                    cases hq : left.toList with
                    | nil => exact Array.toList_eq_nil_iff.1 hq
                    | cons a b => rw [hq] at hrest; cases hrest
                  subst hle
                  refine ⟨_, _, ρ, w, _, rfl, Goes.refl hR, over, ?_⟩
                  rw [hbase]
                  simp only [Instr.next, Sem.run_bind, hget, Result.andThen_ok, hgetm, hL]
                  rw [if_neg hnew']
                  simp [Question.forced]
                · rename_i e r hcons
                  split at h
                  · rw [bcase_eq] at h
                    split at h
                    · rename_i hlt
                      have hlt : e.2.2 < since := by simpa using hlt
                      rw [forceL_eq, St.putK_eq] at h
                      cases h
                      obtain ⟨k, v, n⟩ := e
                      rw [hcons] at hrest
                      obtain ⟨e', hle, hk, hv, hn⟩ : ∃ e', left = #[e'] ∧ Rep ρ k e'.key ∧ Rep ρ v e'.val ∧ e'.born = n := by
                        cases hq : left.toList with
                        | nil => rw [hq] at hrest; cases hrest
                        | cons a b =>
                          rw [hq] at hrest
                          cases hrest with | cons _ _ _ _ _ _ hk hv hn hs =>
                          cases hs
                          exact ⟨a, Array.toList_inj.1 hq, hk, hv, hn⟩
                      subst hle
                      obtain ⟨w', h1, h2⟩ := setObj_upd (.mapIter (some plm.blk) since (seen'.push e'.born) clock) hw (by intros; simp)
                      refine ⟨_, _, ρ, w', .tuple #[.bool true, e'.key, e'.val], rfl, Goes.upd hR hb rfl hp (.miter m since _ clock pl plm _ ?_ hpm hbase) h2,
                        .tu _ _ (.cons _ _ _ _ (.b _) (.cons _ _ _ _ hk (.cons _ _ _ _ hv .nil))), ?_⟩
                      · simp [hn]
                      · rw [hbase]
                        have hlt' : e'.born < since := by rw [hn]; exact hlt
                        have hge' : ¬ (e'.born ≥ since) := by omega
                        simp only [Instr.next, Sem.run_bind, hget, Result.andThen_ok, hgetm, hL]
                        rw [if_neg hnew']
                        simp [Question.forced, hlt', hge', h1]
                    · cases h
                  · cases h
            · cases h
      · cases h

include hE
theorem run_zeroW {t : TypeId} {z : V} (h : E.zero t = some z) : ∃ c, (∀ ρ, Rep ρ z c) ∧ ∀ w, (zeroValue t).run P w = .ok c w := by
  unfold Env.zero at h
  cases hi : E.ty.get t with
  | none => rw [hi] at h; cases h
  | some i =>
    rw [hi] at h
    simp only at h
    cases hz : i.zero with
    | none => rw [hz] at h; cases h
    | some c =>
      rw [hz] at h
      exact ⟨c, fun ρ => ofVal_rep 3 h, fun w => by simp [zeroValue, run_info hE hi, hz]⟩

theorem elemOf_ok {e : TypeId} {el : Elem} (h : elemOf E e = some el) : el.id = e ∧ E.size e = some el.size ∧ el.bytes ≤ 1000000 ∧
    ∃ (c : Value) (i : TypeInfo), E.ty.get e = some i ∧ i.bytes = el.bytes ∧ i.size = el.size ∧ i.zero = some c ∧ (∀ ρ, RepL ρ el.zero c.cells.toList) ∧ c.cells.size = el.size ∧ ∀ w, (zeroValue e).run P w = .ok c w := by
  unfold elemOf at h
  split at h
  · rename_i i z hi hz
    rw [bcase_eq] at h
    split at h
    · rename_i hc
      cases h
      simp only [Bool.and_eq_true, Nat.beq_eq, Nat.ble_eq, lenL_eq] at hc
      have hz' := hz
      unfold Env.zero at hz'
      rw [hi] at hz'
      simp only at hz'
      split at hz'
      rotate_left
      · cases hz'
      rename_i c hzi
      have h1 : ∀ ρ, Rep ρ z c := fun ρ => ofVal_rep 3 hz'
      refine ⟨rfl, by simp [Env.size, hi], hc.2, c, i, hi, rfl, rfl, hzi, fun ρ => (h1 ρ).cells, ?_, fun w => by simp [zeroValue, run_info hE hi, hzi]⟩
      have := (h1 (fun _ => none)).cells.length
      simp only [Array.length_toList] at this
      show c.cells.size = i.size
      omega
    · cases h
  · cases h

set_option maxRecDepth 4000 in
theorem makeSliceC_ok (hR : Rel E.gl ρ σ w) {n : Nat} {tm : Tr V} {a : Act} (hT : RepT ρ n tm a.tmps) {t : TypeId} {l c : Operand} {out : Out} (h : (makeSliceC E t l c).run tm σ = some out) :
    ∃ v σ' ρ' w' cv, out = .val v σ' ∧ Goes E.gl ρ σ w ρ' σ' w' ∧ Rep ρ' v cv ∧ (Instr.makeSlice t (a.eval l) (a.eval c)).run P w = .ok cv w' := by
  unfold makeSliceC at h
  split at h
  · rename_i e hu
    split at h
    · rename_i el hel
      obtain ⟨h1, h2, h4, z, i, hi, hib, his, hzi, hz1, hz2, hz3⟩ := elemOf_ok hE hel
      obtain ⟨vl, hvl, h⟩ := bindV_some h
      obtain ⟨vc, hvc, h⟩ := bindV_some h
      have hrl := opc_ok hR hT hvl
      have hrc := opc_ok hR hT hvc
      generalize a.eval l = cl at hrl ⊢
      generalize a.eval c = cc at hrc ⊢
      unfold makeSliceV at h
      obtain ⟨tl, nl, e1, hn⟩ := natV_some h
      clear h
      subst e1
      obtain ⟨tc, nc, e2, h⟩ := natV_some hn
      clear hn
      subst e2
      rw [bcase_eq] at h
      split at h
      · rename_i hc
        simp only [Bool.and_eq_true, Nat.ble_eq] at hc
        rw [forceV_eq, St.newK_eq] at h
        cases h
        cases hrl
        cases hrc
        have hb : el.bytes * nc ≤ 1000000000000 := Nat.mul_le_mul h4 hc.2
        have hb' : ((el.bytes * nc : Nat) : Int) ≤ 281474976710656 := Int.ofNat_le.2 (Nat.le_trans hb (by decide))
        rw [Int.natCast_mul] at hb'
        have harr : RepL ρ (repC nc el.zero) (madeCells z.cells (nc * el.size)).toList := by
          have := repC_rep (hz1 ρ) nc
          rw [hz2] at this
          unfold madeCells
          rw [hz2]
          exact this
        refine ⟨_, _, _, _, _, rfl, Goes.new hR (pl := ⟨w.heap.size, 0, 0⟩) (o := .cells (madeCells z.cells (nc * el.size)) e) rfl (by rw [h1]; exact RepB.new_ex e harr _ _), .se _ 0 _ _ _ Pm.at_self, ?_⟩
        · have := run_make (P := P) w t e i z (und_ok hE hu) (hE.ty _ _ hi) hzi tl tc (nl : Int) (nc : Int) (by omega) (by omega) (by rw [hib]; exact hb') (by omega)
          rw [his] at this
          exact this
      · cases h
    · cases h
  · cases h
omit hE

theorem markStr {b : Nat} {arr : Array Value} {el : TypeId} {frz : Nat × Nat} (off : Nat) (h : w.heap[b]? = some (.cells arr el frz)) :
    ∃ w' frz', Upd w b (.cells arr el frz') w' ∧ frz' = (if frz.1 == frz.2 then (arr.size, arr.size + 1) else (min frz.1 arr.size, max frz.2 (arr.size + 1))) ∧ ∀ P, (markStringish ⟨b, off, none⟩).run P w = .ok () w' := by
  have hs : w.shape? b = some (el, arr.size) := by simp [World.shape?, h]
  refine ⟨w.freeze ⟨b, arr.size, none⟩ 1, _, ⟨?_, ?_, ?_, ?_, ?_, ?_⟩, rfl, fun P => ?_⟩
  · simp [World.freeze]
  · obtain ⟨lo, hi⟩ := frz
    simp only [World.freeze, Nat.one_ne_zero, if_false, Array.getElem?_modify, if_true, h, Option.map_some]
  · intro j hj
    simp only [World.freeze, Nat.one_ne_zero, if_false, Array.getElem?_modify]
    rw [if_neg (by omega)]
  · rfl
  · rfl
  · rfl
  · simp only [markStringish, Sem.run_bind, run_shape, hs, Result.andThen_ok, run_freeze]

include hE
theorem markC_ok (hR : Rel E.gl ρ σ w) {n : Nat} {tm : Tr V} {a : Act} (hT : RepT ρ n tm a.tmps) {src dst : TypeId} {x : Operand} {out : Out} (h : (markC E src dst x).run tm σ = some out) :
    ∃ v σ' ρ' w' c, out = .val v σ' ∧ Goes E.gl ρ σ w ρ' σ' w' ∧ Rep ρ' v c ∧ (Go.convert src dst (a.eval x)).run P w = .ok c w' := by
  unfold markC at h
  split at h
  · rename_i es e hu1 hu2
    split at h
    · rename_i hu3
      split at h
      · rename_i hsd
        obtain ⟨v, hv, h⟩ := bindV_some h
        have hr := opc_ok hR hT hv
        generalize a.eval x = cx at hr ⊢
        have hsd : src = dst := by simpa using hsd
        subst hsd
        have hee : es = e := by rw [hu1] at hu2; cases hu2; rfl
        subst hee
        unfold markV at h
        split at h
        · split at h
          · cases h
          · split at h
            · cases h
            · split at h
              · cases h
              · rename_i b hb
                split at h
                · rename_i c el md
                  obtain ⟨pl, arr, frz, h1, h2, h3, h4⟩ := hR.cells hb
                  have hconv : ∀ (ca : Addr) l k w', (markStringish ca).run P w = .ok () w' → (Go.convert src src (.slice (some ca) l k)).run P w = .ok (.slice (some ca) l k) w' := by
                    intro ca l k w' hm
                    simp only [Go.convert, Sem.run_bind, run_und hE hu1, Result.andThen_ok, run_und hE hu3, beq_self_eq_true, hm, Sem.run_pure]
                  split at h
                  · rw [St.putK_eq] at h
                    cases h
                    obtain ⟨z1, z2, z3⟩ := h4
                    subst z3
                    cases hr with
                    | se id off _ _ pl' hp' =>
                      rw [h1] at hp'; cases hp'
                      obtain ⟨w', frz', m1, m2, m3⟩ := markStr (w := w) (pl.base + off) h2
                      have m2 : frz' = (arr.size, arr.size + 1) := m2
                      exact ⟨_, _, ρ, w', _, rfl, Goes.upd hR hb rfl h1 (.cells _ _ _ _ _ _ h3 ⟨z1, z2, by rw [m2]; simp only; omega⟩) m1, .se id off _ _ pl h1, hconv _ _ _ _ (m3 P)⟩
                  · cases h
                    obtain ⟨z1, z2, z3⟩ := h4
                    have zz : ∀ frz' : Nat × Nat, frz' = (if frz.1 == frz.2 then (arr.size, arr.size + 1) else (min frz.1 arr.size, max frz.2 (arr.size + 1))) → c.length ≤ frz'.1 := by
                      intro frz' e
                      rw [e]
                      split
                      · simp only; omega
                      · simp only; omega
                    cases hr with
                    | se id off _ _ pl' hp' =>
                      rw [h1] at hp'; cases hp'
                      obtain ⟨w', frz', m1, m2, m3⟩ := markStr (w := w) (pl.base + off) h2
                      exact ⟨_, _, ρ, w', _, rfl, Goes.again hR hb rfl h1 (.cells _ _ _ _ _ _ h3 ⟨z1, z2, zz _ m2⟩) m1, .se id off _ _ pl h1, hconv _ _ _ _ (m3 P)⟩
                  · cases h
                · cases h
        · cases h
      · cases h
    · cases h
  · cases h
omit hE
end
end Go.AM

/- Operations that act are the model's (3): copy, clear, append. -/
namespace Go.AM
open Go

section
variable {E : Env} {P : Program} (hE : E.Ok P) {w : World} {ρ : Pm} {σ : St}

theorem sliceLen_some {α : Type} {x : V} {k : Nat → Option α} {r : α} (h : sliceLen x k = some r) : ∃ n, k n = some r ∧ (∀ ρ c, Rep ρ x c → ∀ (P : Program) w, (Builtin.lenOf c).run P w = .ok n w) ∧
    ((∃ a c, x = .sl a n c) ∨ ∃ l, x = .s l ∧ n = l.length) := by
  unfold sliceLen at h
  split at h
  · exact ⟨_, h, fun ρ c hr P w => by cases hr <;> rfl, .inl ⟨_, _, rfl⟩⟩
  · rename_i l
    rw [forceN_eq, lenL_eq] at h
    exact ⟨_, h, fun ρ c hr P w => by cases hr with | s _ ba hb => simp [Builtin.lenOf, ← hb], .inr ⟨l, rfl, rfl⟩⟩
  · cases h

theorem strCells (ba : ByteArray) (n : Nat) : RepL ρ (((ba.data.toList.map UInt8.toNat).take n).map fun b => V.i .u8 (.ofNat b)) ((ba.extract 0 n).data.map fun b => Value.int .u8 b.toNat).toList := by
  have h := bytes_cells (ρ := ρ) (ba.extract 0 n)
  have : (ba.extract 0 n).data.toList.map UInt8.toNat = (ba.data.toList.map UInt8.toNat).take n := by simp [ByteArray.data_extract]
  rw [this] at h
  exact h

theorem copyFrom_ok (hR : Rel E.gl ρ σ w) {α : Type} {size m : Nat} {x : V} {cx : Value} {k : List V → Option α} {r : α} (hx : Rep ρ x cx) (hm : ∀ a n c, x = .sl a n c → m ≤ n)
    (h : copyFrom σ size m x k = some r) : ∃ vs cs, RepL ρ vs cs ∧ k vs = some r ∧ ∀ P : Program, (Builtin.firstCells size m cx).run P w = .ok cs.toArray w := by
  unfold copyFrom at h
  split at h
  · rename_i l
    rw [forceV_eq] at h
    cases hx with | s _ ba hb =>
    subst hb
    exact ⟨_, _, strCells ba m, h, fun P => by simp only [Builtin.firstCells, Sem.run_pure, Array.toArray_toList]⟩
  · cases x with
    | sl a n c =>
      obtain ⟨vs, cs, h1, h2, h3, h4, h5⟩ := sliceCells_ok hR hx (hm _ _ _ rfl) h
      refine ⟨vs, cs, h1, h2, fun P => ?_⟩
      cases hx with
      | sn => obtain ⟨_, e⟩ := h5 _ _ rfl; subst e; rfl
      | se => exact h4 _ _ _ rfl P
      | so => exact h4 _ _ _ rfl P
      | sz => exact h4 _ _ _ rfl P
    | _ => simp [sliceCells] at h

include hE
theorem copyC_ok (hR : Rel E.gl ρ σ w) {n : Nat} {tm : Tr V} {a : Act} (hT : RepT ρ n tm a.tmps) {t ty : TypeId} {ts : Array TypeId} {d x : Operand} {out : Out} (ht : ts[0]? = some t) (h : (copyC E t d x).run tm σ = some out) :
    ∃ v σ' w' c, out = .val v σ' ∧ Goes E.gl ρ σ w ρ σ' w' ∧ Rep ρ v c ∧ (Builtin.copy_ ts ty #[a.eval d, a.eval x]).run P w = .ok c w' := by
  unfold copyC at h
  split at h
  · rename_i e hu
    split at h
    · rename_i size hs
      obtain ⟨vd, hd, h⟩ := bindV_some h
      obtain ⟨vx, hx, h⟩ := bindV_some h
      have hrd := opc_ok hR hT hd
      have hrx := opc_ok hR hT hx
      generalize a.eval d = cd at hrd ⊢
      generalize a.eval x = cx at hrx ⊢
      have e0 : (#[cd, cx] : Array Value)[0]? = some cd := rfl
      have e1 : (#[cd, cx] : Array Value)[1]? = some cx := rfl
      unfold copyV at h
      split at h
      · rename_i base dLen _ _
        obtain ⟨m, h, hlen, hform⟩ := sliceLen_some h
        rw [forceN_eq] at h
        have hmin : (bcase (Nat.ble m dLen) m dLen) = Nat.min m dLen := by
          rw [bcase_eq]
          have : Nat.min m dLen = if m ≤ dLen then m else dLen := rfl
          rw [this]
          by_cases q : m ≤ dLen <;> simp [q]
        rw [hmin] at h
        have hmle : Nat.min m dLen ≤ m := Nat.min_le_left _ _
        have hm2 : ∀ a n c, vx = .sl a n c → Nat.min m dLen ≤ n := by
          intro a n c e
          rcases hform with ⟨a', c', e'⟩ | ⟨l, e', _⟩
          · rw [e] at e'; cases e'; exact hmle
          · rw [e] at e'; cases e'
        have hlen' := hlen ρ cx hrx P w
        have none_ : ∀ b l cp, cd = .slice b l cp → Nat.min m l = 0 → ∃ v σ' w' cv, Out.val (.i .i64 (.ofNat 0)) σ = .val v σ' ∧ Goes E.gl ρ σ w ρ σ' w' ∧ Rep ρ v cv ∧ (Builtin.copy_ ts ty #[cd, cx]).run P w = .ok cv w' := by
          intro b l cp e h0
          subst e
          have hf : (Builtin.firstCells size 0 cx).run P w = .ok #[] w := by
            rcases hform with ⟨a', c', e'⟩ | ⟨l, e', _⟩
            · subst e'; cases hrx <;> simp [Builtin.firstCells, run_loadCells_zero]
            · subst e'; cases hrx; simp [Builtin.firstCells]
          refine ⟨_, _, w, goInt 0, rfl, Goes.refl hR, .i _ _, ?_⟩
          cases b with
          | none => simp only [Builtin.copy_, ht, e0, e1, Sem.run_bind, run_und hE hu, Result.andThen_ok, hlen', run_size hE hs, h0, hf, Sem.run_pure]; rfl
          | some b => simp only [Builtin.copy_, ht, e0, e1, Sem.run_bind, run_und hE hu, Result.andThen_ok, hlen', run_size hE hs, h0, hf, Sem.run_pure, storeCells]; rfl
        rw [bcase_eq] at h
        split at h
        · rename_i h0
          have h0 : Nat.min m dLen = 0 := by simpa using h0
          cases h
          cases hrd with
          | sn => exact none_ _ _ _ rfl h0
          | se => exact none_ _ _ _ rfl h0
          | so => exact none_ _ _ _ rfl h0
          | sz => exact none_ _ _ _ rfl h0
        · rename_i h0
          have h0 : ¬ Nat.min m dLen = 0 := by simpa using h0
          cases base with
          | none => cases h
          | some p =>
            obtain ⟨vs, cs, h1, h2, h3⟩ := copyFrom_ok hR hrx hm2 h
            obtain ⟨c, el, md, g1, g2, g3, g4, g5⟩ := writeK_some h2
            cases g5
            have fin : ∀ pl l cp, ρ p.1 = some pl → cd = .slice (some ⟨pl.blk, pl.base + p.2, none⟩) l cp → l = dLen → ∃ v σ' w' cv, Out.val (.i .i64 (.ofNat (Nat.min m dLen))) (σ.put p.1 (.cells (spl c p.2 vs) el md)) = .val v σ' ∧ Goes E.gl ρ σ w ρ σ' w' ∧ Rep ρ v cv ∧ (Builtin.copy_ ts ty #[cd, cx]).run P w = .ok cv w' := by
              intro pl l cp hp e hl
              subst hl
              obtain ⟨w', h6, h7⟩ := write_ok hR g1 g2 g3 g4 hp h1
              refine ⟨_, _, w', goInt (Nat.min m l), rfl, h6, .i _ _, ?_⟩
              subst e
              have h7' := h7 P
              simp only [Builtin.copy_, ht, e0, e1, Sem.run_bind, run_und hE hu, Result.andThen_ok, hlen', run_size hE hs, h3 P, h7', Sem.run_pure]
            cases hrd with
            | se _ _ _ _ pl hp => exact fin pl _ _ hp rfl rfl
            | so _ _ _ _ pl hp hdd => exact fin pl _ _ hp rfl rfl
            | sz _ _ d pl ad hp hdd => simp at h0
      · cases h
    · cases h
  · cases h
omit hE
theorem RepL.nil_of {l : List V} (h : RepL ρ l []) : l = [] := by cases h; rfl

include hE
theorem clearC_ok (hR : Rel E.gl ρ σ w) {n : Nat} {tm : Tr V} {a : Act} (hT : RepT ρ n tm a.tmps) {t ty : TypeId} {ts : Array TypeId} {x : Operand} {out : Out} (ht : ts[0]? = some t) (h : (clearC E t x).run tm σ = some out) :
    ∃ v σ' w' c, out = .val v σ' ∧ Goes E.gl ρ σ w ρ σ' w' ∧ Rep ρ v c ∧ (Builtin.clear_ ts ty #[a.eval x]).run P w = .ok c w' := by
  unfold clearC at h
  split at h
  · rename_i kt et hu
    obtain ⟨v, hv, h⟩ := bindV_some h
    have hr := opc_ok hR hT hv
    generalize a.eval x = cx at hr ⊢
    have e0 : (#[cx] : Array Value)[0]? = some cx := rfl
    unfold clearMap at h
    split at h
    · split at h
      · cases h
        cases hr
        exact ⟨_, _, w, _, rfl, Goes.refl hR, .tu _ _ .nil, by simp only [Builtin.clear_, ht, e0, Sem.run_bind, run_und hE hu, Result.andThen_ok, Sem.run_pure]⟩
      · split at h
        · rename_i es clock hb
          rw [St.putK_eq] at h
          cases h
          obtain ⟨pl, es', hp, hw, he⟩ := hR.map hb
          cases hr with | m _ pl' hp' =>
          rw [hp] at hp'; cases hp'
          obtain ⟨w', h1, h2⟩ := setObj_upd (.map #[] clock) hw (by intros; simp)
          exact ⟨_, _, w', _, rfl, Goes.upd hR hb rfl hp (.map _ _ _ _ .nil) h2, .tu _ _ .nil, by simp only [Builtin.clear_, ht, e0, Sem.run_bind, run_und hE hu, Result.andThen_ok, run_getObj_map hw, h1, Sem.run_pure]⟩
        · cases h
    · cases h
  · rename_i e hu
    split at h
    · rename_i el hel
      obtain ⟨k1, k2, k3, z, i, hi, hib, his, hzi, hz1, hz2, hz3⟩ := elemOf_ok hE hel
      obtain ⟨v, hv, h⟩ := bindV_some h
      have hr := opc_ok hR hT hv
      generalize a.eval x = cx at hr ⊢
      have e0 : (#[cx] : Array Value)[0]? = some cx := rfl
      unfold clearSl at h
      split at h
      · split at h
        · cases h
          cases hr
          exact ⟨_, _, w, _, rfl, Goes.refl hR, .tu _ _ .nil, by simp only [Builtin.clear_, ht, e0, Sem.run_bind, run_und hE hu, Result.andThen_ok, Sem.run_pure]⟩
        · rename_i len _ _ p
          rw [bcase_eq] at h
          split at h
          · rename_i h0
            have h0 : len = 0 := by simpa using h0
            subst h0
            cases h
            cases hr <;> exact ⟨_, _, w, _, rfl, Goes.refl hR, .tu _ _ .nil, by simp only [Builtin.clear_, ht, e0, Sem.run_bind, run_und hE hu, Result.andThen_ok, Sem.run_pure]⟩
          · rename_i h0
            have h0 : ¬ len = 0 := by simpa using h0
            rw [bcase_eq] at h
            split at h
            · rw [forceV_eq] at h
              obtain ⟨c, el', md, g1, g2, g3, g4, g5⟩ := writeK_some h
              cases g5
              have hz := repC_rep (hz1 ρ) len
              have fin : ∀ pl l cp, ρ p.1 = some pl → cx = .slice (some ⟨pl.blk, pl.base + p.2, none⟩) l cp → l = len → ∃ v σ' w' cv, Out.val (.tu []) (σ.put p.1 (.cells (spl c p.2 (repC len el.zero)) el' md)) = .val v σ' ∧ Goes E.gl ρ σ w ρ σ' w' ∧ Rep ρ v cv ∧ (Builtin.clear_ ts ty #[cx]).run P w = .ok cv w' := by
                intro pl l cp hp e hl
                subst hl
                subst e
                obtain ⟨w', h6, h7⟩ := write_ok hR g1 g2 g3 g4 hp hz
                refine ⟨_, _, w', _, rfl, h6, .tu _ _ .nil, ?_⟩
                have h7' := h7 P
                obtain ⟨l', rfl⟩ : ∃ m, l = m + 1 := ⟨l - 1, by omega⟩
                have e1 : Builtin.zeroCells z.cells (l' + 1) = (Array.range ((l' + 1) * z.cells.size)).map fun i => z.cells[i % z.cells.size]! := rfl
                simp only [Builtin.clear_, ht, e0, Sem.run_bind, run_und hE hu, Result.andThen_ok, hz3, e1, h7', Sem.run_pure]
              cases hr with
              | se _ _ _ _ pl hp => exact fin pl _ _ hp rfl rfl
              | so _ _ _ _ pl hp hdd => exact fin pl _ _ hp rfl rfl
              | sz _ _ d pl ad hp hdd => exact absurd rfl h0
            · cases h
      · cases h
    · cases h
  · cases h
omit hE
end
end Go.AM

/- Operations that act are the model's (4): append. -/
namespace Go.AM
open Go

section
variable {E : Env} {P : Program} (hE : E.Ok P) {w : World} {ρ : Pm} {σ : St}

def isInt : TypeDesc → Bool
  | .int _ => true
  | _ => false

/-- The cells that are appended. -/
inductive AppNew (P : Program) (e : TypeId) (size n : Nat) (cx : Value) (w : World) : Bool → Array Value → Prop
  | some (new : Array Value) (hn : ∀ w, (Builtin.lenOf cx).run P w = .ok n w) (h : (Builtin.firstCells size n cx).run P w = .ok new w) (h0 : n = 0 → new = #[]) : AppNew P e size n cx w false new
  | none (k : IntKind) (hc : cx = .int k (n : Int)) (h : n * size = 0) (hl : n ≤ 1000000) : AppNew P e size n cx w true #[]
  | zeros (k : IntKind) (hc : cx = .int k (n : Int)) (h : ¬ n * size = 0) (hl : n ≤ 1000000) (z : Value) (hz : (zeroValue e).run P w = .ok z w) : AppNew P e size n cx w true (Builtin.zeroCells z.cells n)

include hE
theorem app_in {t tx e : TypeId} {d : TypeDesc} {size : Nat} (hu : E.und t = some (.slice e)) (hx : E.und tx = some d) (hs : E.size e = some size) {ei : TypeInfo} (hei : E.ty.get e = some ei) (hby : ei.bytes ≤ 1000000)
    {base : Option Addr} {sLen sCap n : Nat} {cx : Value} {new : Array Value} (hnew : AppNew P e size n cx w (isInt d) new) (hneed : sLen + n ≤ sCap) (ty : TypeId) {w' : World}
    (hst : ∀ a, base = some a → (storeCells (a.add (sLen * size)) new.toList).run P w = .ok () w') (hnn : base = none → w' = w) :
    (Builtin.append_ #[t, tx] ty #[.slice base sLen sCap, cx]).run P w = .ok (.slice base (sLen + n) sCap) w' := by
  unfold Builtin.append_
  simp only [List.getElem?_toArray, List.getElem?_cons_zero, List.getElem?_cons_succ, Sem.run_bind, run_und hE hu, run_und hE hx, run_size hE hs, Result.andThen_ok, Sem.run_pure]
  cases d with
  | int kd =>
    have hb : ∀ k, cx = .int k (n : Int) → n ≤ 1000000 → IntKind.i64.wrap (n : Int) = n ∧ ¬ ((n : Int) < 0) ∧ ¬ ((n : Int) * ei.bytes > 2 ^ 48) := by
      intro k _ hl
      have h1 : n * ei.bytes ≤ 1000000000000 := Nat.mul_le_mul hl hby
      have h2 : ((n * ei.bytes : Nat) : Int) ≤ 281474976710656 := Int.ofNat_le.2 (Nat.le_trans h1 (by decide))
      rw [Int.natCast_mul] at h2
      exact ⟨by rw [IntKind.wrap_i64]; omega, by omega, by omega⟩
    cases hnew with
    | none k hc h hl =>
      obtain ⟨b1, b2, b3⟩ := hb k hc hl
      subst hc
      simp only [if_true, Sem.run_bind, asInt, asIntOf, Sem.run_pure, Result.andThen_ok, b1, b2, b3, if_false, run_info hE hei, Int.toNat_natCast, hneed, h, Bool.not_true, Bool.false_eq_true]
      cases base with
      | none => rw [hnn rfl]; rfl
      | some a =>
        have hh : (storeCells (a.add (sLen * size)) ([] : List Value)).run P w = .ok () w' := hst a rfl
        simp only [Sem.run_bind, hh, Result.andThen_ok, Sem.run_pure]
    | zeros k hc h hl z hz =>
      obtain ⟨b1, b2, b3⟩ := hb k hc hl
      subst hc
      simp only [if_true, Sem.run_bind, asInt, asIntOf, Sem.run_pure, Result.andThen_ok, b1, b2, b3, if_false, run_info hE hei, Int.toNat_natCast, hneed, h, Bool.not_true, Bool.false_eq_true, hz]
      cases base with
      | none => rw [hnn rfl]; rfl
      | some a => simp only [Sem.run_bind, hst a rfl, Result.andThen_ok, Sem.run_pure]
  | _ =>
    cases hnew with | some _ hn h _ =>
    simp only [Bool.false_eq_true, if_false, Sem.run_bind, hn, Result.andThen_ok, hneed, if_true, Bool.not_false, h]
    cases base with
    | none => rw [hnn rfl]; rfl
    | some a => simp only [Sem.run_bind, hst a rfl, Result.andThen_ok, Sem.run_pure]

omit hE in
theorem growBy_le (newLen : Nat) : ∀ (r c : Nat), Builtin.growBy newLen r c ≤ max c (newLen + (newLen + 768) / 4) := by
  intro r
  induction r with
  | zero => intro c; simp [Builtin.growBy]; omega
  | succ r ih =>
    intro c
    simp only [Builtin.growBy]
    split
    · omega
    · have := ih (c + (c + 768) / 4)
      omega
omit hE in
theorem slicecap_le {newLen old : Nat} (h : old < newLen) : Builtin.nextslicecap newLen old ≤ 2 * newLen + 512 := by
  unfold Builtin.nextslicecap
  have := growBy_le newLen 4 old
  split
  · omega
  · split <;> omega

theorem app_grow {t tx e : TypeId} {d : TypeDesc} {size : Nat} (hu : E.und t = some (.slice e)) (hx : E.und tx = some d) (hs : E.size e = some size) {ei : TypeInfo} (hei : E.ty.get e = some ei) (hby : ei.bytes ≤ 1000000)
    {base : Option Addr} {sLen sCap n : Nat} {cx : Value} (hneed : ¬ sLen + n ≤ sCap) (hsm : (sLen + n) * ei.bytes ≤ 1000000000) (hsm2 : sLen + n ≤ 1000000000) (ty : TypeId) :
    ∃ (w₁ : World) (cap : Nat), Alk w w₁ ∧ sLen + n ≤ cap ∧ ∀ (new old : Array Value) (z : Value), AppNew P e size n cx w₁ (isInt d) new →
      (Builtin.firstCells size sLen (.slice base sLen sCap)).run P w₁ = .ok old w₁ → (zeroValue e).run P w₁ = .ok z w₁ →
      (Builtin.append_ #[t, tx] ty #[.slice base sLen sCap, cx]).run P w = .ok (.slice (some ⟨w₁.heap.size, 0, none⟩) (sLen + n) cap) { w₁ with heap := w₁.heap.push (.cells (old ++ new ++ Builtin.zeroCells z.cells (cap - (sLen + n))) e) } := by
  refine ⟨{ w with drawn := w.drawn + 1 }, (Question.appendCap (sLen + n) sCap e).cut (w.tape w.drawn (.appendCap (sLen + n) sCap e)), ⟨rfl, rfl, rfl, rfl⟩, Nat.le_add_right _ _, ?_⟩
  intro new old z hnew1 hold hz
  have hcapb : ¬ (Builtin.nextslicecap (sLen + n) sCap * ei.bytes > 2 ^ 48) := by
    have h1 := slicecap_le (newLen := sLen + n) (old := sCap) (by omega)
    have h2 : Builtin.nextslicecap (sLen + n) sCap * ei.bytes ≤ (2 * (sLen + n) + 512) * ei.bytes := Nat.mul_le_mul_right _ h1
    have h3 : (2 * (sLen + n) + 512) * ei.bytes = 2 * ((sLen + n) * ei.bytes) + 512 * ei.bytes := by rw [Nat.add_mul, Nat.mul_assoc]
    omega
  have hmax : ¬ (((sLen + n : Nat) : Int) > IntKind.i64.max) := by
    have : IntKind.i64.max = 9223372036854775807 := by decide
    omega
  have hch : ∀ w : World, (choose (.appendCap (sLen + n) sCap e)).run P w = .ok ((Question.appendCap (sLen + n) sCap e).cut (w.tape w.drawn (.appendCap (sLen + n) sCap e))) { w with drawn := w.drawn + 1 } := by
    intro w
    simp [Question.forced]
  unfold Builtin.append_
  simp only [List.getElem?_toArray, List.getElem?_cons_zero, List.getElem?_cons_succ, Sem.run_bind, run_und hE hu, run_und hE hx, run_size hE hs, Result.andThen_ok, Sem.run_pure]
  cases d with
  | int kd =>
    have hb : ∀ k, cx = .int k (n : Int) → n ≤ 1000000 → IntKind.i64.wrap (n : Int) = n ∧ ¬ ((n : Int) < 0) ∧ ¬ ((n : Int) * ei.bytes > 2 ^ 48) := by
      intro k _ hl
      have h1 : n * ei.bytes ≤ 1000000000000 := Nat.mul_le_mul hl hby
      have h2 : ((n * ei.bytes : Nat) : Int) ≤ 281474976710656 := Int.ofNat_le.2 (Nat.le_trans h1 (by decide))
      rw [Int.natCast_mul] at h2
      exact ⟨by rw [IntKind.wrap_i64]; omega, by omega, by omega⟩
    cases hnew1 with
    | none k hc h hl =>
      obtain ⟨b1, b2, b3⟩ := hb k hc hl
      subst hc
      simp only [if_true, Sem.run_bind, asInt, asIntOf, Sem.run_pure, Result.andThen_ok, b1, b2, b3, if_false, run_info hE hei, Int.toNat_natCast, hneed, h, Bool.not_true, Bool.false_eq_true, hmax, false_and, hcapb, hch, run_askRoom, hold, hz, newRow, run_newObj]
    | zeros k hc h hl z' hz' =>
      obtain ⟨b1, b2, b3⟩ := hb k hc hl
      subst hc
      rw [hz'] at hz
      cases hz
      simp only [if_true, Sem.run_bind, asInt, asIntOf, Sem.run_pure, Result.andThen_ok, b1, b2, b3, if_false, run_info hE hei, Int.toNat_natCast, hneed, h, Bool.not_true, Bool.false_eq_true, hmax, false_and, hcapb, hch, run_askRoom, hold, hz', newRow, run_newObj]
  | _ =>
    cases hnew1 with | some _ hn h _ =>
    simp only [Bool.false_eq_true, if_false, hn, Result.andThen_ok, hneed, Bool.not_false, if_true, Sem.run_bind, run_info hE hei, hmax, false_and, hcapb, hch, run_askRoom, hold, hz, h, newRow, run_newObj, Sem.run_pure]

omit hE
theorem sliceCells_k {α : Type} {size n : Nat} {x : V} {k : List V → Option α} {r : α} (h : sliceCells σ size n x k = some r) : ∃ vs, sliceCells σ size n x some = some vs ∧ k vs = some r := by
  unfold sliceCells at h ⊢
  cases x with
  | sl a l c =>
    cases a with
    | none =>
      simp only [bcase_eq] at h ⊢
      split at h
      · rename_i h0; simp only [h0, if_true]; exact ⟨_, rfl, h⟩
      · cases h
    | some p =>
      simp only [bcase_eq] at h ⊢
      split at h
      · rename_i h0; simp only [h0, if_true]; exact ⟨_, rfl, h⟩
      · rename_i h0
        rw [if_neg h0]
        obtain ⟨c', el, md, hc, h⟩ := cellsAt_some h
        obtain ⟨hl, h⟩ := rangeK_some h
        refine ⟨_, ?_, h⟩
        unfold cellsAt
        simp only [hc]
        rw [rangeK, takeK_eq, dropN_eq, if_pos (by simpa using hl)]
  | _ => simp at h

/-- A slice's first cells, in every world of this memory. -/
theorem firstCells_w {size n len : Nat} {a : Option (Nat × Nat)} {c : Cap} {cx : Value} {vs : List V} (hn : n ≤ len) (h : sliceCells σ size n (.sl a len c) some = some vs) (hR : Rel E.gl ρ σ w) (hx : Rep ρ (.sl a len c) cx) :
    ∃ cs : Array Value, RepL ρ vs cs.toList ∧ cs.size = n * size ∧ (Builtin.firstCells size n cx).run P w = .ok cs w := by
  obtain ⟨vs', cs, h1, h2, h3, h4, h5⟩ := sliceCells_ok hR hx hn h
  cases h2
  refine ⟨cs.toArray, h1, by simpa using h3, ?_⟩
  cases hx with
  | sn => obtain ⟨_, e⟩ := h5 _ _ rfl; subst e; rfl
  | se => exact h4 _ _ _ rfl P
  | so => exact h4 _ _ _ rfl P
  | sz => exact h4 _ _ _ rfl P

theorem argCells_some {α : Type} {size : Nat} {x : V} {k : Nat → List V → Option α} {r : α} (h : argCells σ size x k = some r) : ∃ n vs, k n vs = some r ∧
    ∀ ρ w cx, Rel E.gl ρ σ w → Rep ρ x cx → ∃ cs : Array Value, RepL ρ vs cs.toList ∧ ∀ e, AppNew P e size n cx w false cs := by
  unfold argCells at h
  split at h
  · rename_i l
    rw [forceV_eq, forceN_eq, lenL_eq] at h
    refine ⟨_, _, h, fun ρ w cx hR hx => ?_⟩
    cases hx with | s _ ba hb =>
    subst hb
    refine ⟨_, bytes_cells ba, fun e => .some _ (fun w => by simp [Builtin.lenOf]) ?_ ?_⟩
    · have : ba.extract 0 ba.size = ba := by simp
      simp [Builtin.firstCells, this]
    · intro h0
      apply Array.eq_empty_of_size_eq_zero
      simp at h0
      simp [h0]
  · obtain ⟨vs, h1, h2⟩ := sliceCells_k h
    refine ⟨_, vs, h2, fun ρ w cx hR hx => ?_⟩
    obtain ⟨cs, h3, h4, h5⟩ := firstCells_w (P := P) (Nat.le_refl _) h1 hR hx
    exact ⟨cs, h3, fun e => .some cs (fun w => by cases hx <;> rfl) h5 (fun h0 => Array.eq_empty_of_size_eq_zero (by rw [h4, h0]; simp))⟩
  · cases h

include hE
theorem argZeros_some {α : Type} {e : TypeId} {el : Elem} (hel : elemOf E e = some el) {x : V} {k : Nat → List V → Option α} {r : α} (h : argZeros el.zero x k = some r) : ∃ n vs, k n vs = some r ∧
    ∀ ρ w cx, Rep ρ x cx → ∃ cs : Array Value, RepL ρ vs cs.toList ∧ AppNew P e el.size n cx w true cs := by
  obtain ⟨k1, k2, k3, z, i, hi, hib, his, hzi, hz1, hz2, hz3⟩ := elemOf_ok hE hel
  unfold argZeros at h
  obtain ⟨t, n, e1, hn⟩ := natV_some h
  clear h
  subst e1
  rw [bcase_eq] at hn
  split at hn
  · rename_i hl
    have hl : n ≤ 1000000 := by simpa using hl
    rw [forceV_eq] at hn
    refine ⟨_, _, hn, fun ρ w cx hx => ?_⟩
    cases hx
    by_cases h0 : n * el.size = 0
    · refine ⟨#[], ?_, .none t rfl h0 hl⟩
      have : repC n el.zero = [] := by
        apply List.eq_nil_of_length_eq_zero
        have := (hz1 ρ).length
        rw [repC_length, this]; simp [hz2, h0]
      rw [this]; exact .nil
    · exact ⟨_, repC_rep (hz1 ρ) n, .zeros t rfl h0 hl z (hz3 w)⟩
  · cases hn

omit hE in
theorem AppNew.zero {e : TypeId} {size : Nat} {cx : Value} {b : Bool} {new : Array Value} (h : AppNew P e size 0 cx w b new) : new = #[] := by
  cases h with
  | some _ _ _ h0 => exact h0 rfl
  | none => rfl
  | zeros k hc h hl z hz => simp at h

omit hE in
theorem store_raw {b o : Nat} {arr : Array Value} {el : TypeId} {frz : Nat × Nat} {vs : List Value} (h : w.heap[b]? = some (.cells arr el frz)) (hl : o + vs.length ≤ arr.size) (h1 : ∀ v ∈ vs, v.oneCell' = true)
    (hf : ∀ j, j < arr.size → ¬ (frz.1 ≤ j ∧ j < frz.2)) : ∃ w', Upd w b (.cells (sp arr.toList o vs).toArray el frz) w' ∧ ∀ P, (storeCells ⟨b, o, none⟩ vs).run P w = .ok () w' := by
  refine ⟨w.setCells b o vs, setCells_upd vs h hl, fun P => ?_⟩
  have := run_storeCells_cells (P := P) b o vs 0 w ?_ ?_ h1
  · simpa using this
  · intro j hj
    have : o + j < arr.size := by omega
    simp [World.cell?, h, this]
  · intro j hj
    have hj' : o + 0 + j < arr.size := by omega
    have := hf _ hj'
    simp only [World.frozen?, h]
    simp only [Bool.and_eq_false_iff, decide_eq_false_iff_not]
    by_cases q : frz.1 ≤ o + 0 + j
    · right; intro q2; exact this ⟨q, q2⟩
    · left; exact q

omit hE in
/-- Cells that a row gains at the end of a slice. -/
theorem win_grown {l : List Value} {base off a b cl : Nat} {vs : List Value} (hb : vs.length = b) (h1 : base + cl ≤ l.length) (h2 : off + a ≤ cl) (h3 : base + off + a + b ≤ l.length) :
    win (sp l (base + off + a) vs) (base + off) (a + b) = ((win l base cl).drop off).take a ++ vs := by
  have hwl : (win l base cl).length = cl := by unfold win; simp; omega
  have htl : (((win l base cl).drop off).take a).length = a := by simp [hwl]; omega
  apply List.ext_getElem?
  intro i
  by_cases hi : i < a + b
  · rw [win_get _ _ _ _ hi, sp_get (by omega)]
    by_cases c1 : i < a
    · rw [if_pos (by omega), List.getElem?_append_left (by omega), List.getElem?_take, if_pos c1, List.getElem?_drop, win_get _ _ _ _ (by omega)]
      congr 1; omega
    · rw [if_neg (by omega), if_pos (by omega), List.getElem?_append_right (by omega), htl]
      congr 1; omega
  · have e1 : (win (sp l (base + off + a) vs) (base + off) (a + b))[i]? = none := List.getElem?_eq_none (by unfold win; simp; omega)
    have e2 : (((win l base cl).drop off).take a ++ vs)[i]? = none := List.getElem?_eq_none (by simp only [List.length_append, htl]; omega)
    rw [e1, e2]

/-- 'append' is the model's. -/
theorem appendV_ok (hR : Rel E.gl ρ σ w) {t tx e : TypeId} {d : TypeDesc} {el : Elem} (hu : E.und t = some (.slice e)) (hxu : E.und tx = some d) (hel : elemOf E e = some el) {s : V} {cs cx : Value} (hs : Rep ρ s cs) (ty : TypeId)
    {n : Nat} {new : List V} (harg : ∀ ρ' w', ρ.le ρ' → Rel E.gl ρ' σ w' → ∃ cn : Array Value, RepL ρ' new cn.toList ∧ AppNew P e el.size n cx w' (isInt d) cn) {out : Out} (h : appendV el s n new σ = some out) :
    ∃ v σ' ρ' w' c, out = .val v σ' ∧ Goes E.gl ρ σ w ρ' σ' w' ∧ Rep ρ' v c ∧ (Builtin.append_ #[t, tx] ty #[cs, cx]).run P w = .ok c w' := by
  obtain ⟨k1, k2, k3, z, i, hi, hib, his, hzi, hz1, hz2, hz3⟩ := elemOf_ok hE hel
  have hby : i.bytes ≤ 1000000 := by rw [hib]; exact k3
  obtain ⟨cn0, hn1, hn2⟩ := harg ρ w (Pm.le_refl _) hR
  -- a new row
  have grow : ∀ (base : Option Addr) (sLen sCap : Nat) (old : List V) (σd : St), ¬ sLen + n ≤ sCap → small el sLen n new = true →
      (∀ w₁, Alk w w₁ → ∃ co : Array Value, RepL ρ old co.toList ∧ co.size = sLen * el.size ∧ (Builtin.firstCells el.size sLen (.slice base sLen sCap)).run P w₁ = .ok co w₁) →
      (∀ w₁, Alk w w₁ → Goes E.gl ρ σ w ρ σd w₁) → growNew el old new (sLen + n) σd = some out →
      ∃ v σ' ρ' w' c, out = .val v σ' ∧ Goes E.gl ρ σ w ρ' σ' w' ∧ Rep ρ' v c ∧ (Builtin.append_ #[t, tx] ty #[.slice base sLen sCap, cx]).run P w = .ok c w' := by
    intro base sLen sCap old σd hneed hsm hold hgo hg
    unfold small at hsm
    simp only [Bool.and_eq_true, Nat.ble_eq, Nat.beq_eq, lenL_eq] at hsm
    obtain ⟨⟨s1, s2⟩, s3⟩ := hsm
    rw [← hib] at s1
    obtain ⟨w₁, cap, ha, hcap, hrun⟩ := app_grow hE (w := w) hu hxu k2 hi hby (base := base) (sLen := sLen) (sCap := sCap) (n := n) (cx := cx) hneed s1 s2 ty
    obtain ⟨cn, hn3, hn4⟩ := harg ρ w₁ (Pm.le_refl _) (hR.alk ha)
    obtain ⟨co, ho1, ho2, ho3⟩ := hold w₁ ha
    have hrun := hrun cn co z hn4 ho3 (hz3 w₁)
    unfold growNew at hg
    rw [forceV_eq, St.newK_eq] at hg
    simp only [forceN_eq] at hg
    cases hg
    have g1 := hgo w₁ ha
    have hcnl := hn3.length
    have hol := ho1.length
    simp only [Array.length_toList] at hcnl hol
    refine ⟨_, _, _, _, _, rfl, g1.trans (Goes.new g1.rel (pl := ⟨w₁.heap.size, 0, cap⟩) (o := .cells (co ++ cn ++ Builtin.zeroCells z.cells (cap - (sLen + n))) e) rfl ?_), .so _ 0 _ 0 _ Pm.at_self (by show 0 + (sLen + n) ≤ cap; omega), hrun⟩
    rw [k1]
    refine .cells _ _ _ _ _ _ ?_ ⟨?_, fun j hj => by simp only; omega⟩
    · simp only [win, List.drop_zero, Array.toList_append]
      have hl : (old ++ new).length = (co.toList ++ cn.toList).length := by simp; omega
      rw [hl, List.take_left]
      exact ho1.append hn3
    · simp only [Builtin.zeroCells, Array.size_append, Array.size_map, Array.size_range, hz2]
      have : (cap - (sLen + n)) * el.size + (sLen * el.size + n * el.size) = cap * el.size := by
        rw [← Nat.add_mul, ← Nat.add_mul]; congr 1; omega
      omega
  unfold appendV at h
  split at h
  · split at h
    · -- the whole capacity is known
      rename_i base sLen _ c
      unfold appEx at h
      rw [bcase_eq] at h
      split at h
      · rename_i hc
        have hc : sLen + n ≤ c := by simpa using hc
        split at h
        · rw [forceN_eq] at h
          cases h
          cases hs
          have hrun := app_in hE (w := w) hu hxu k2 hi hby (base := none) (sLen := sLen) (sCap := c) hn2 hc ty (w' := w) (by intro a e; cases e) (fun _ => rfl)
          exact ⟨_, _, ρ, w, _, rfl, Goes.refl hR, .sn _ _, hrun⟩
        · obtain ⟨cc, el', md, g1, g2, g3, g4, g5⟩ := writeK_some h
          rw [forceN_eq] at g5
          cases g5
          cases hs with | se id off _ _ pl hp =>
          obtain ⟨w', h6, h7⟩ := write_ok hR g1 g2 g3 g4 hp hn1
          have hrun := app_in hE (w := w) hu hxu k2 hi hby (base := some ⟨pl.blk, pl.base + off, none⟩) (sLen := sLen) (sCap := c) hn2 hc ty (w' := w')
            (by intro a e; cases e; rw [add_addr, Nat.add_assoc]; exact h7 P) (by intro e; cases e)
          exact ⟨_, _, ρ, w', _, rfl, h6, .se _ _ _ _ _ hp, hrun⟩
      · rename_i hc
        have hc : ¬ sLen + n ≤ c := by simpa using hc
        obtain ⟨old, h1, h2⟩ := sliceCells_k h
        rw [bcase_eq] at h2
        split at h2
        · rename_i hsm
          have hold : ∀ w₁, Alk w w₁ → ∃ co : Array Value, RepL ρ old co.toList ∧ co.size = sLen * el.size ∧ (Builtin.firstCells el.size sLen cs).run P w₁ = .ok co w₁ :=
            fun w₁ ha => firstCells_w (Nat.le_refl _) h1 (hR.alk ha) hs
          cases hs with
          | sn => exact grow _ _ _ old σ hc hsm hold (fun w₁ ha => Goes.alk hR ha) h2
          | se => exact grow _ _ _ old σ hc hsm hold (fun w₁ ha => Goes.alk hR ha) h2
        · cases h2
    · split at h
      · -- the row's end is open
        rename_i sLen _ dd _ p
        unfold appOp at h
        split at h
        · cases h
        · rename_i b hb
          split at h
          · rename_i c el' md
            split at h
            · rename_i esz
              rw [bcase_eq] at h
              split at h
              · rename_i hchk
                simp only [Bool.and_eq_true, Nat.beq_eq, Nat.blt_eq] at hchk
                obtain ⟨⟨⟨q1, q2⟩, q3⟩, q4⟩ := hchk
                subst q1
                obtain ⟨pl, arr, frz, b1, b2, b3, b4⟩ := hR.cells hb
                obtain ⟨m1, m2⟩ := b4
                have hn1l := hn1.length
                rw [bcase_eq] at h
                split at h
                · rename_i h0
                  have h0 : n = 0 := by simpa using h0
                  subst h0
                  cases h
                  have hcz : cn0 = #[] := hn2.zero
                  subst hcz
                  cases hs with
                  | so id off _ _ pl' hp hd =>
                    rw [b1] at hp; cases hp
                    have hrun := app_in hE (w := w) hu hxu k2 hi hby (base := some ⟨pl.blk, pl.base + off, none⟩) (sLen := sLen) (sCap := pl.cap - dd) hn2 (by omega) ty (w' := w)
                      (by intro a e; rfl) (by intro e; cases e)
                    exact ⟨_, _, ρ, w, _, rfl, Goes.refl hR, .so _ _ _ _ _ b1 hd, hrun⟩
                  | sz id off _ pl' a hp hd =>
                    have hrun := app_in hE (w := w) hu hxu k2 hi hby (base := some a) (sLen := 0) (sCap := 0) hn2 (by omega) ty (w' := w)
                      (by intro a e; rfl) (by intro e; cases e)
                    exact ⟨_, _, ρ, w, _, rfl, Goes.refl hR, .sz _ _ _ _ _ hp hd, hrun⟩
                · rename_i h0
                  have h0 : ¬ n = 0 := by simpa using h0
                  rw [bcase_eq] at h
                  split at h
                  · rename_i hfit
                    simp only [Nat.ble_eq, lenL_eq] at hfit
                    obtain ⟨cc, el'', md, g1, g2, g3, g4, g5⟩ := writeK_some h
                    rw [forceN_eq] at g5
                    cases g5
                    have hbl := b3.length
                    simp only [win, List.length_take, List.length_drop, Array.length_toList] at hbl
                    have hpos : 0 < c.length := by
                      have : 0 < (sLen + n) * el.size := Nat.mul_pos (by omega) q2
                      omega
                    have hdl : dd * el.size + (sLen + n) * el.size ≤ pl.cap * el.size := by omega
                    have hdl : dd + (sLen + n) ≤ pl.cap := by
                      rw [← Nat.add_mul] at hdl
                      exact Nat.le_of_mul_le_mul_right hdl q2
                    cases hs with
                    | so id off _ _ pl' hp hd =>
                      rw [b1] at hp; cases hp
                      obtain ⟨w', h6, h7⟩ := write_ok hR g1 g2 g3 g4 b1 hn1
                      have hrun := app_in hE (w := w) hu hxu k2 hi hby (base := some ⟨pl.blk, pl.base + off, none⟩) (sLen := sLen) (sCap := pl.cap - dd) hn2 (by omega) ty (w' := w')
                        (by intro a e; cases e; rw [add_addr, Nat.add_assoc]; exact h7 P) (by intro e; cases e)
                      exact ⟨_, _, ρ, w', _, rfl, h6, .so _ _ _ _ _ b1 hdl, hrun⟩
                    | sz id off _ pl' a hp hd =>
                      rw [b1] at hp; cases hp
                      omega
                  · obtain ⟨old, h1, h2⟩ := sliceCells_k h
                    rw [bcase_eq] at h2
                    split at h2
                    · rename_i hsm
                      simp only [Bool.and_eq_true] at hsm
                      rw [St.delK_eq] at h2
                      have hold : ∀ w₁, Alk w w₁ → ∃ co : Array Value, RepL ρ old co.toList ∧ co.size = sLen * el.size ∧ (Builtin.firstCells el.size sLen cs).run P w₁ = .ok co w₁ :=
                        fun w₁ ha => firstCells_w (Nat.le_refl _) h1 (hR.alk ha) hs
                      cases hs with
                      | so id off _ _ pl' hp hd =>
                        rw [b1] at hp; cases hp
                        by_cases hneed : sLen + n ≤ pl.cap - dd
                        · -- in place
                          obtain ⟨co, o1, o2, o3⟩ := hold w (Alk.refl w)
                          have hsz := hsm.1
                          unfold small at hsz
                          simp only [Bool.and_eq_true, Nat.ble_eq, Nat.beq_eq, lenL_eq] at hsz
                          obtain ⟨⟨s1, s2⟩, s3⟩ := hsz
                          have hcn : cn0.size = n * el.size := by rw [← s3, hn1l]; simp
                          unfold growNew at h2
                          rw [forceV_eq, St.newK_eq] at h2
                          simp only [forceN_eq] at h2
                          cases h2
                          have hol : old.length = sLen * el.size := by
                            have := o1.length
                            simpa [o2] using this
                          have hdn : dd + (sLen + n) ≤ pl.cap := by omega
                          have hmul : dd * el.size + (sLen * el.size + n * el.size) ≤ pl.cap * el.size := by
                            rw [← Nat.add_mul, ← Nat.add_mul]; exact Nat.mul_le_mul_right _ hdn
                          have hoff : off = dd * el.size := q3
                          -- what was there
                          have hold2 : sLen * el.size + off ≤ c.length ∨ sLen = 0 := by
                            by_cases q : sLen = 0
                            · exact .inr q
                            · left
                              unfold sliceCells at h1
                              simp only [bcase_eq] at h1
                              split at h1
                              · rename_i q'
                                have q' : sLen * el.size = 0 := by simpa using q'
                                rcases Nat.mul_eq_zero.1 q' with x | x <;> omega
                              · obtain ⟨c', el'', md, hc, h1⟩ := cellsAt_some h1
                                rw [hb] at hc; cases hc
                                obtain ⟨hl, _⟩ := rangeK_some h1
                                have : 0 < sLen * el.size := Nat.mul_pos (by omega) q2
                                omega
                          have hbl := b3.length
                          simp only [win, List.length_take, List.length_drop, Array.length_toList] at hbl
                          obtain ⟨w', u1, u2⟩ := store_raw (w := w) (o := pl.base + off + sLen * el.size) (vs := cn0.toList) b2 (by simp only [Array.length_toList]; omega) (allOne_ok hsm.2 hn1) m2
                          have hrep : RepL ρ (old ++ new) (win (sp arr.toList (pl.base + off + sLen * el.size) cn0.toList) (pl.base + off) (sLen * el.size + n * el.size)) := by
                            rcases hold2 with x | x
                            · have hl0 : pl.base + c.length ≤ arr.size ∨ c.length = 0 := by omega
                              rcases hl0 with hl0 | hl0
                              · rw [win_grown (cl := c.length) (by simpa using hcn) (by simpa using hl0) (by omega) (by simp only [Array.length_toList]; omega)]
                                refine RepL.append ?_ hn1
                                have := (b3.drop off).take (sLen * el.size)
                                have ho : old = (c.drop off).take (sLen * el.size) := by
                                  unfold sliceCells at h1
                                  simp only [bcase_eq] at h1
                                  split at h1
                                  · rename_i q'
                                    have q' : sLen * el.size = 0 := by simpa using q'
                                    cases h1
                                    rw [q']; simp
                                  · obtain ⟨c', el'', md, hc, h1⟩ := cellsAt_some h1
                                    rw [hb] at hc; cases hc
                                    obtain ⟨hl, h1⟩ := rangeK_some h1
                                    cases h1; rfl
                                rw [ho]; exact this
                              · have hs0 : sLen * el.size = 0 := by omega
                                have ho : old = [] := by
                                  exact List.eq_nil_of_length_eq_zero (hol.trans hs0)
                                rw [ho, hs0]
                                rw [win_grown (cl := 0) (a := 0) (by simpa using hcn) (by simp only [Array.length_toList]; omega) (by omega) (by simp only [Array.length_toList]; omega)]
                                simpa using hn1
                            · subst x
                              have ho : old = [] := by
                                rw [Nat.zero_mul] at hol
                                exact List.eq_nil_of_length_eq_zero hol
                              rw [ho, Nat.zero_mul]
                              have hv : win (sp arr.toList (pl.base + off + 0) cn0.toList) (pl.base + off) (0 + n * el.size) = cn0.toList := by
                                apply List.ext_getElem?
                                intro i
                                by_cases hi : i < n * el.size
                                · rw [win_get _ _ _ _ (by omega), sp_get (by simp only [Array.length_toList]; omega), if_neg (by omega), if_pos (by simp only [Array.length_toList]; omega)]
                                  congr 1; omega
                                · rw [List.getElem?_eq_none (by unfold win; simp; omega), List.getElem?_eq_none (by simp; omega)]
                              rw [hv]
                              simpa using hn1
                          have holen : (old ++ new).length = sLen * el.size + n * el.size := by
                            rw [List.length_append, s3, hol]
                          have hrun := app_in hE (w := w) hu hxu k2 hi hby (base := some ⟨pl.blk, pl.base + off, none⟩) (sLen := sLen) (sCap := pl.cap - dd) hn2 hneed ty (w' := w')
                            (by intro a e; cases e; rw [add_addr]; exact u2 P) (by intro e; cases e)
                          refine ⟨_, _, _, w', _, rfl, Goes.renew hR hb rfl b1 (pl' := ⟨pl.blk, pl.base + off, pl.cap - dd⟩) rfl ?_ u1, .so _ 0 _ 0 ⟨pl.blk, pl.base + off, pl.cap - dd⟩ Pm.at_self (by show 0 + (sLen + n) ≤ pl.cap - dd; omega), hrun⟩
                          rw [← q4]
                          refine .cells _ _ _ _ _ _ ?_ ⟨?_, ?_⟩
                          · rw [holen, List.toList_toArray]; exact hrep
                          · rw [List.size_toArray, sp_length (by simp only [Array.length_toList]; omega), Array.length_toList, Nat.sub_mul]
                            show pl.base + off + (pl.cap * el.size - dd * el.size) = arr.size
                            omega
                          · rw [List.size_toArray, sp_length (by simp only [Array.length_toList]; omega), Array.length_toList]; exact m2
                        · exact grow _ _ _ old _ hneed hsm.1 hold (fun w₁ ha => (Goes.alk hR ha).trans (Goes.del _ (hR.alk ha))) h2
                      | sz id off _ pl' a hp hd =>
                        exact grow _ _ _ old _ (by omega) hsm.1 hold (fun w₁ ha => (Goes.alk hR ha).trans (Goes.del _ (hR.alk ha))) h2
                    · cases h2
              · cases h
            · cases h
          · cases h
      · cases h
  · cases h
omit hE
end
end Go.AM

/- Operations that act are the model's (5): all of them. -/
namespace Go.AM
open Go

/-- What an operation has come to. -/
inductive OutOk (E : Env) (P : Program) (ρ : Pm) (σ : St) (w : World) (s : Sem Next) : Out → Prop
  | val (v : V) (σ' : St) (ρ' : Pm) (w' : World) (c : Value) (g : Goes E.gl ρ σ w ρ' σ' w') (r : Rep ρ' v c) (h : s.run P w = .ok (.value c) w') : OutOk E P ρ σ w s (.val v σ')
  | skip (σ' : St) (ρ' : Pm) (w' : World) (g : Goes E.gl ρ σ w ρ' σ' w') (h : s.run P w = .ok .skip w') : OutOk E P ρ σ w s (.val undefV σ')
  | call (f : FuncId) (args : List V) (cargs : Array Value) (r : RepL ρ args cargs.toList) (h : s.run P w = (callFunc f cargs).run P w) : OutOk E P ρ σ w s (.call f args)
  | round (l : Nat) (args : List V) (pl : Pl) (cargs : Array Value) (hp : ρ l = some pl) (r : RepL ρ args cargs.toList) (h : s.run P w = (Instr.yield pl.blk cargs).run P w) : OutOk E P ρ σ w s (.round l args)
  | defer (f : FuncId) (args : List V) (d : Deferred) (cap : Array Value) (ht : d.target = .fn (.func f) cap) (r : RepL ρ args (d.args ++ cap).toList) (h : s.run P w = .ok (.defer d) w) : OutOk E P ρ σ w s (.defer f args)

section
variable {E : Env} {P : Program} (hE : E.Ok P) {w : World} {ρ : Pm} {σ : St}

theorem catV_some {xs ys c : List V} {k : List V → Option Out} {r : Out} (h : catV xs ys c k = some r) : k (xs ++ ys ++ c) = some r := by
  rw [catV_eq] at h; exact h

theorem arr2 {α : Type} {a : Array α} {x y : α} (h : a.toList = [x, y]) : a = #[x, y] := by
  cases a; simp at h; simp [h]

theorem map2 {α β : Type} (f : α → β) (x y : α) : Array.map f #[x, y] = #[f x, f y] := by simp
theorem map1 {α β : Type} (f : α → β) (x : α) : Array.map f #[x] = #[f x] := by simp

include hE
theorem appendC_ok (hR : Rel E.gl ρ σ w) {n : Nat} {tm : Tr V} {a : Act} (hT : RepT ρ n tm a.tmps) {t tx ty : TypeId} {s x : Operand} {out : Out} (h : (appendC E t tx s x).run tm σ = some out) :
    ∃ v σ' ρ' w' c, out = .val v σ' ∧ Goes E.gl ρ σ w ρ' σ' w' ∧ Rep ρ' v c ∧ (Builtin.append_ #[t, tx] ty #[a.eval s, a.eval x]).run P w = .ok c w' := by
  unfold appendC at h
  split at h
  · rename_i e d hu hxu
    split at h
    · cases h
    · rename_i el hel
      split at h
      · rename_i k
        obtain ⟨vs, hs, h⟩ := bindV_some h
        obtain ⟨vx, hx, h⟩ := bindV_some h
        obtain ⟨m, new, h1, h2⟩ := argZeros_some (P := P) hE hel h
        exact appendV_ok hE hR hu hxu hel (opc_ok hR hT hs) ty (fun ρ' w' hle _ => h2 ρ' w' _ ((opc_ok hR hT hx).mono hle)) h1
      · rename_i hni
        obtain ⟨vs, hs, h⟩ := bindV_some h
        obtain ⟨vx, hx, h⟩ := bindV_some h
        obtain ⟨m, new, h1, h2⟩ := argCells_some (E := E) (P := P) h
        refine appendV_ok hE hR hu hxu hel (opc_ok hR hT hs) ty (fun ρ' w' hle hR' => ?_) h1
        obtain ⟨cn, h3, h4⟩ := h2 ρ' w' _ hR' ((opc_ok hR hT hx).mono hle)
        have hfalse : isInt d = false := by
          cases d <;> first | rfl | exact absurd rfl (hni _)
        rw [hfalse]
        exact ⟨cn, h3, h4 e⟩
  · cases h

theorem wc_ok (hR : Rel E.gl ρ σ w) {n : Nat} {tm : Tr V} {a : Act} (hT : RepT ρ n tm a.tmps) {o : Oper} {out : Out} (h : (wc E o.op).run tm σ = some out) : OutOk E P ρ σ w (execOp a.eval o) out := by
  obtain ⟨dst, op, ty, pos, after, guard⟩ := o
  simp only at h ⊢
  have val : ∀ {s : Sem Value}, (∃ v σ' ρ' w' c, out = .val v σ' ∧ Goes E.gl ρ σ w ρ' σ' w' ∧ Rep ρ' v c ∧ s.run P w = .ok c w') → OutOk E P ρ σ w (do pure (.value (← s)) : Sem Next) out := by
    rintro s ⟨v, σ', ρ', w', c, rfl, g, r, h⟩
    exact .val v σ' ρ' w' c g r (run_v h)
  have unit : ∀ {s : Sem Unit}, (∃ v σ' w', out = .val v σ' ∧ v = undefV ∧ Goes E.gl ρ σ w ρ σ' w' ∧ s.run P w = .ok () w') → OutOk E P ρ σ w (do s; pure .skip : Sem Next) out := by
    rintro s ⟨v, σ', w', rfl, rfl, g, h⟩
    exact .skip σ' ρ w' g (run_u h)
  have lift : ∀ {s : Sem Value}, (∃ v σ' w' c, out = .val v σ' ∧ Goes E.gl ρ σ w ρ σ' w' ∧ Rep ρ v c ∧ s.run P w = .ok c w') → ∃ v σ' ρ' w' c, out = .val v σ' ∧ Goes E.gl ρ σ w ρ' σ' w' ∧ Rep ρ' v c ∧ s.run P w = .ok c w' := by
    rintro s ⟨v, σ', w', c, h⟩
    exact ⟨v, σ', ρ, w', c, h⟩
  unfold wc at h
  split at h
  · exact unit (storeC_ok hE hR hT h)
  · exact unit (mapUpdC_ok hE hR hT h)
  · exact unit (mapUpdC_ok hE hR hT h)
  · exact val (rangeC_ok hE hR hT h)
  · obtain ⟨v, hv, h⟩ := bindV_some h
    exact val (nextV_ok hR (opc_ok hR hT hv) h ty)
  · exact val (makeSliceC_ok hE hR hT h)
  · exact val (markC_ok hE hR hT h)
  · rename_i c
    obtain ⟨callee, args, argTypes⟩ := c
    simp only at h
    split at h
    · rename_i b
      subst_vars
      have hrun : execOp a.eval { dst, op := .call { callee := .builtin b, args, argTypes }, type := ty, pos, after, guard } = (Go.builtin b argTypes ty (args.map fun | .const _ => true | _ => false) (args.map a.eval)) := rfl
      rw [hrun]
      unfold builtinW at h
      split at h
      · split at h
        · rename_i t tx s x h1 h2
          have e1 := arr2 h1
          have e2 := arr2 h2
          subst e1 e2
          rw [map2 a.eval]
          exact val (appendC_ok hE hR hT h)
        · cases h
      · split at h
        · rename_i t rest d x h1 h2
          have e2 := arr2 h2
          subst e2
          rw [map2 a.eval]
          exact val (lift (copyC_ok hE hR hT (by rw [← Array.getElem?_toList, h1]; rfl) h))
        · cases h
      · split at h
        · rename_i t rest x h1 h2
          have e2 := list1 h2
          subst e2
          rw [map1 a.eval]
          exact val (lift (clearC_ok hE hR hT (by rw [← Array.getElem?_toList, h1]; rfl) h))
        · cases h
      · split at h
        · rename_i t rest m k h1 h2
          have e2 := arr2 h2
          subst e2
          rw [map2 a.eval]
          exact val (lift (deleteC_ok hE hR hT (by rw [← Array.getElem?_toList, h1]; rfl) h))
        · cases h
      · cases h
    · rename_i f
      subst_vars
      split at h
      · rename_i g
        obtain ⟨vs, h1, h2⟩ := opcs_ok hR hT h
        cases h2
        refine .call g vs (args.map a.eval) (by simpa using h1) ?_
        have : a.eval (.func g) = .func (.func g) #[] #[] := rfl
        simp only [execOp, resolve, this, Deferred.ofValue, Sem.run_bind, Sem.run_pure, Result.andThen_ok, invoke]
        simp
      · obtain ⟨v, hv, h⟩ := bindV_some h
        obtain ⟨vs, h1, h2⟩ := opcs_ok hR hT h
        have hr := opc_ok hR hT hv
        have hex : execOp a.eval { dst, op := .call { callee := .value f, args, argTypes }, type := ty, pos, after, guard } = (do let d ← Deferred.ofValue (a.eval f) (args.map a.eval); invoke d.target d.args) := rfl
        rw [hex]
        generalize a.eval f = cf at hr ⊢
        unfold callV at h2
        split at h2
        · rename_i fn first cap
          cases hr with | f _ fn' _ _ first' cap' hf ha hc =>
          split at h2
          · rename_i g
            have h3 := catV_some h2
            cases h3
            cases hf
            refine .call g _ (first' ++ args.map a.eval ++ cap') ?_ ?_
            · simp only [Array.toList_append, Array.toList_map]
              exact (ha.append h1).append hc
            · simp only [Deferred.ofValue, Sem.run_bind, Sem.run_pure, Result.andThen_ok, invoke]
          · rename_i l
            have h3 := catV_some h2
            cases h3
            cases hf with | yield _ pl hp =>
            refine .round l _ pl (first' ++ args.map a.eval) hp ?_ ?_
            · simp only [Array.toList_append, Array.toList_map, List.append_nil]
              exact ha.append h1
            · simp only [Deferred.ofValue, Sem.run_bind, Sem.run_pure, Result.andThen_ok, invoke]
          · cases h2
        · cases h2
    · cases h
  · rename_i c
    obtain ⟨callee, args, argTypes⟩ := c
    simp only at h
    split at h
    · rename_i f
      subst_vars
      obtain ⟨v, hv, h⟩ := bindV_some h
      obtain ⟨vs, h1, h2⟩ := opcs_ok hR hT h
      have hr := opc_ok hR hT hv
      have hex : execOp a.eval { dst, op := .defer { callee := .value f, args, argTypes }, type := ty, pos, after, guard } = (do pure (.defer (← Deferred.ofValue (a.eval f) (args.map a.eval)))) := rfl
      rw [hex]
      generalize a.eval f = cf at hr ⊢
      unfold deferV at h2
      split at h2
      · rename_i fn first cap
        cases hr with | f _ fn' _ _ first' cap' hf ha hc =>
        split at h2
        · rename_i g
          have h3 := catV_some h2
          cases h3
          cases hf
          refine .defer g _ { target := .fn (.func g) cap', args := first' ++ args.map a.eval } cap' rfl ?_ ?_
          · simp only [Array.toList_append, Array.toList_map]
            exact (ha.append h1).append hc
          · simp only [Deferred.ofValue, Sem.run_bind, Sem.run_pure, Result.andThen_ok]
        · cases h2
      · cases h2
    · cases h
  · cases h
omit hE
end
end Go.AM

/- Code is the model's (1): what is to be shown; operations in their written order. -/
namespace Go.AM
open Go

/-- A deferred call. -/
inductive RepDf (ρ : Pm) : Dfr → Deferred → Prop
  | call (f : FuncId) (args : List V) (d : Deferred) (cap : Array Value) (ht : d.target = .fn (.func f) cap) (r : RepL ρ args (d.args ++ cap).toList) : RepDf ρ (.call f args) d
  | coll (r : Nat) (pl : Pl) (d : Deferred) (hp : ρ r = some pl) (ht : d.target = .collected pl.blk) : RepDf ρ (.coll r) d

theorem RepDf.mono {ρ ρ' : Pm} (h : ρ.le ρ') {a : Dfr} {d : Deferred} (r : RepDf ρ a d) : RepDf ρ' a d := by
  cases r with
  | call f args d cap ht hr => exact .call f args d cap ht (hr.mono h)
  | coll r pl d hp ht => exact .coll r pl d (h _ _ hp) ht

inductive RepDs (ρ : Pm) : List Dfr → List Deferred → Prop
  | nil : RepDs ρ [] []
  | cons (a : Dfr) (d : Deferred) (as : List Dfr) (ds : List Deferred) (h : RepDf ρ a d) (hs : RepDs ρ as ds) : RepDs ρ (a :: as) (d :: ds)

theorem RepDs.mono {ρ ρ' : Pm} (h : ρ.le ρ') {as : List Dfr} {ds : List Deferred} (r : RepDs ρ as ds) : RepDs ρ' as ds := by
  induction r with
  | nil => exact .nil
  | cons a d as ds hd _ ih => exact .cons a d as ds (hd.mono h) ih

structure RepA (ρ : Pm) (n : Nat) (a : A) (act : Act) : Prop where
  tmps : RepT ρ n a.tmps act.tmps
  dfr : RepDs ρ a.dfr act.defers

theorem RepA.mono {ρ ρ' : Pm} (h : ρ.le ρ') {n : Nat} {a : A} {act : Act} (r : RepA ρ n a act) : RepA ρ' n a act := ⟨r.tmps.mono h, r.dfr.mono h⟩

/-- How code is left. -/
inductive EOk : Ex → Exit → Prop
  | normal : EOk .normal .normal
  | exit (id : Nat) : EOk (.exit id) (.exit id)
  | ret : EOk .ret .ret

/-- The fence that lets everything in, for an activation (none) or a round. -/
def FR (r : Option Nat) : Fence := { Fence.wide with round := r }

def RoAt (ρ : Pm) : Option Nat → Option Nat → Prop
  | none, none => True
  | some l, some b => ∃ pl, ρ l = some pl ∧ pl.blk = b
  | _, _ => False

theorem RoAt.mono {ρ ρ' : Pm} (h : ρ.le ρ') {ro r : Option Nat} (x : RoAt ρ ro r) : RoAt ρ' ro r := by
  cases ro <;> cases r <;> simp only [RoAt] at x ⊢
  obtain ⟨pl, h1, h2⟩ := x
  exact ⟨pl, h _ _ h1, h2⟩

def CodePost (gl : Nat) (ρ : Pm) (σ : St) (w : World) (n : Nat) (res : Res) : Exit → Act → World → Prop :=
  fun e a w' => EOk res.ex e ∧ ∃ ρ', Goes gl ρ σ w ρ' res.σ w' ∧ RepA ρ' n res.a a

def ValPost (gl : Nat) (ρ : Pm) (σ : St) (w : World) (vs : VS) (c : Value) (w' : World) : Prop := ∃ ρ', Goes gl ρ σ w ρ' vs.σ w' ∧ Rep ρ' vs.v c

def EndPost (gl : Nat) (ρ : Pm) (σ : St) (w : World) (vs : VS) (e : Ending) (w' : World) : Prop := ∃ c, e = .returned c ∧ ValPost gl ρ σ w vs c w'

/-- A call's outcome. -/
def CallOk (E : Env) (P : Program) (ρ : Pm) (σ : St) (w : World) (f : FuncId) (cargs : Array Value) (vs : VS) : Prop :=
  (∃ c w', (callFunc f cargs).run P w = .ok (.value c) w' ∧ ValPost E.gl ρ σ w vs c w') ∨
  ((callFunc f cargs).run P w = .ok (.enter f cargs) w ∧ CallsIn Fence.wide 0 P f cargs w (EndPost E.gl ρ σ w vs))

structure Rc.Ok (E : Env) (P : Program) (rec : Rc) : Prop where
  code : ∀ n c ro a σ res, rec.code n c ro a σ = some res → ∀ ρ w r act, Rel E.gl ρ σ w → RoAt ρ ro r → RepA ρ n a act → c.wpIn (FR r) 0 P (CodePost E.gl ρ σ w n res) act w
  call : ∀ f args σ vs, rec.call f args false σ = some vs → ∀ ρ w (cargs : Array Value), Rel E.gl ρ σ w → RepL ρ args cargs.toList → CallOk E P ρ σ w f cargs vs
  dcall : ∀ f args σ vs, rec.call f args true σ = some vs → ∀ ρ w (cargs : Array Value) u, Rel E.gl ρ σ w → RepL ρ args cargs.toList →
    (callFunc f cargs).run P w = .ok (.enter f cargs) w ∧ CallsDIn Fence.wide 0 P f cargs u w fun e u' w' => u' = u ∧ EndPost E.gl ρ σ w vs e w'

section
variable {E : Env} {P : Program} (hE : E.Ok P) {w : World} {ρ : Pm} {σ : St}

theorem optE_inv {α : Type} {β : Type} {o : Option α} {f : α → Option β} {r : β} (h : optE o none f = some r) : ∃ x, o = some x ∧ f x = some r := by
  cases o with
  | none => cases h
  | some x => exact ⟨x, rfl, h⟩

theorem slot_set (t : Tr V) (d : Nat) (v : V) (i : Nat) : slot (t.set d (some v)) i = if i = d then v else slot t i := by
  unfold slot
  rw [Tr.get_set]
  by_cases h : i = d <;> simp [h]

theorem RepT.put {n : Nat} {t : Tr V} {arr : Array Value} (h : RepT ρ n t arr) {d : Nat} {v : V} {c : Value} (hd : d < n) (hv : Rep ρ v c) : RepT ρ n (t.set d (some v)) (arr.setIfInBounds d c) := by
  refine ⟨by simp [h.size], fun i => ?_⟩
  rw [slot_set]
  have hs := h.size
  by_cases e : i = d
  · subst e
    rw [if_pos rfl]
    have : (arr.setIfInBounds i c).getD i undef = c := by
      simp [Array.getD_eq_getD_getElem?, Array.getElem?_setIfInBounds, hs, hd]
    rw [this]; exact hv
  · rw [if_neg e]
    have : (arr.setIfInBounds d c).getD i undef = arr.getD i undef := by
      simp only [Array.getD_eq_getD_getElem?, Array.getElem?_setIfInBounds]
      rw [if_neg (fun x => e x.symm)]
    rw [this]; exact h.get i

theorem pa_ok {n : Nat} {dst : Option Tmp} {a : A} {act : Act} {v : V} {c : Value} {k : A → Option Res} {r : Res} (ha : RepA ρ n a act) (hv : Rep ρ v c) (h : (pa n dst).run a v k = some r) :
    ∃ a', k a' = some r ∧ RepA ρ n a' (act.put dst c) := by
  unfold pa at h
  split at h
  · exact ⟨a, h, ha⟩
  · rename_i d
    split at h
    · rename_i hd
      have hd : d < n := by simpa using hd
      simp only [Tr.setK_eq] at h
      exact ⟨_, h, ⟨ha.tmps.put hd hv, ha.dfr⟩⟩
    · cases h

theorem gc_ok {n : Nat} {a : A} {act : Act} (ha : RepA ρ n a act) (ops : Array Oper) (o : Oper) : (gc ops o).run a.tmps = Region.wanted o (yielded ops act.tmps) := by
  unfold gc Region.wanted
  split
  · rename_i hg; rw [hg]
  · rename_i j want hg
    rw [hg]
    simp only
    unfold yielded
    split
    · rename_i g hj
      rw [hj]
      split
      · rename_i d hd
        simp only [Option.bind_some, hd]
        have hr := ha.tmps.get d
        have hsz := ha.tmps.size
        unfold slot at hr
        have hget : act.tmps.getD d undef = (act.tmps[d]?).getD undef := by simp [Array.getD_eq_getD_getElem?]
        rw [hget] at hr
        cases ht : a.tmps.get d with
        | none =>
          rw [ht] at hr
          simp only [optE]
          show false = _
          cases hv : act.tmps[d]? with
          | none => rfl
          | some c =>
            rw [hv] at hr
            simp only [Option.getD_some] at hr
            cases hr; rfl
        | some v =>
          rw [ht] at hr
          show isB want v = _
          cases hv : act.tmps[d]? with
          | none =>
            rw [hv] at hr
            simp only [Option.getD_none] at hr
            cases hr; rfl
          | some c =>
            rw [hv] at hr
            simp only [Option.getD_some] at hr
            cases hr <;> first | rfl | (rename_i x; cases x <;> cases want <;> rfl)
      · rename_i hd
        simp only [Option.bind_some, hd, Option.bind_none]
        rfl
    · rename_i hj
      rw [hj]
      rfl

end
end Go.AM

/- Code is the model's (2): rounds, operations. -/
namespace Go.AM
open Go

section
variable {E : Env} {P : Program} (hE : E.Ok P) {w : World} {ρ : Pm} {σ : St}

theorem putParams_some : ∀ {ps : List Tmp} {vs : List V} {n : Nat} {t : Tr V} {k : Tr V → Option VS} {r : VS}, putParams ps vs n t k = some r →
    ps.length = vs.length ∧ ∃ t', k t' = some r ∧ ∀ (ρ : Pm) (arr : Array Value) (cs : List Value), RepT ρ n t arr → RepL ρ vs cs → RepT ρ n t' ((ps.zip cs).foldl (fun tmps (t, a) => tmps.setIfInBounds t a) arr) := by
  intro ps
  induction ps with
  | nil =>
    intro vs n t k r h
    cases vs with
    | nil => exact ⟨rfl, t, h, fun ρ arr cs ht _ => ht⟩
    | cons v vs => simp [putParams] at h
  | cons p ps ih =>
    intro vs n t k r h
    cases vs with
    | nil => simp [putParams] at h
    | cons v vs =>
      simp only [putParams, bcase_eq] at h
      split at h
      · rename_i hp
        have hp : p < n := by simpa using hp
        simp only [Tr.setK_eq] at h
        obtain ⟨h1, t', h2, h3⟩ := ih h
        refine ⟨by simp [h1], t', h2, fun ρ arr cs ht hc => ?_⟩
        cases hc with | cons _ c _ cs hv hs =>
        exact h3 ρ _ cs (ht.put hp hv) hs
      · cases h

theorem Rel.loop {gl : Nat} (hR : Rel gl ρ σ w) {l : Nat} {st : LoopState} {pend : Option Code} {n : Nat} {tmps : Tr V} {params : Array Tmp} {assign body : Code} {dfr : Nat}
    (h : σ.get l = some (.loop st pend n tmps params assign body dfr)) : ∃ pl fn tmps' pld, ρ l = some pl ∧ ρ dfr = some pld ∧ RepT ρ n tmps tmps' ∧
      w.heap[pl.blk]? = some (.loop { state := st, pending := pend, fn, tmps := tmps', params, assign, body, defers := pld.blk }) := by
  obtain ⟨pl, o, h1, h2, h3⟩ := hR.blk _ _ h
  cases h3 with | loop _ _ fn _ _ _ _ _ _ _ pld tmps' ht hd => exact ⟨pl, fn, tmps', pld, h1, hd, ht, h2⟩

theorem run_getLoop {l : Nat} {r : Loop} (h : w.heap[l]? = some (.loop r)) : (Instr.getLoop l).run P w = .ok r w := by
  simp [Instr.getLoop, getObj, Sem.run, h]

/-- The loop's record is written anew. -/
theorem loop_put {gl : Nat} (hR : Rel gl ρ σ w) {l : Nat} {st st' : LoopState} {pend pend' : Option Code} {n : Nat} {tmps : Tr V} {params : Array Tmp} {assign body : Code} {dfr : Nat}
    (h : σ.get l = some (.loop st pend n tmps params assign body dfr)) {pl pld : Pl} {fn : FuncId} {tmps' : Array Value} (hp : ρ l = some pl) (hd : ρ dfr = some pld) (ht : RepT ρ n tmps tmps')
    (hw : w.heap[pl.blk]? = some (.loop { state := st, pending := pend, fn, tmps := tmps', params, assign, body, defers := pld.blk })) :
    ∃ w', (∀ P, (setObj pl.blk (.loop { state := st', pending := pend', fn, tmps := tmps', params, assign, body, defers := pld.blk })).run P w = .ok () w') ∧
      Goes gl ρ σ w ρ (σ.put l (.loop st' pend' n tmps params assign body dfr)) w' := by
  obtain ⟨w', h1, h2⟩ := setObj_upd (.loop { state := st', pending := pend', fn, tmps := tmps', params, assign, body, defers := pld.blk }) hw (by intros; simp)
  exact ⟨w', h1, Goes.upd hR h rfl hp (.loop _ _ _ _ _ _ _ _ _ _ _ _ ht hd) h2⟩

theorem endRound_ok {gl : Nat} (hR : Rel gl ρ σ w) {l : Nat} {pl : Pl} (hp : ρ l = some pl) {st : LoopState} {pend : Option Code} {b : Bool} {vs : VS} (h : endRound l st pend b σ = some vs)
    (hst : st = if pend.isNone then .ready else .done) (hb : b = pend.isNone) :
    ∃ c w', (Instr.endRound pl.blk pend).run P w = .ok c w' ∧ Goes gl ρ σ w ρ vs.σ w' ∧ Rep ρ vs.v c := by
  unfold endRound at h
  split at h
  · rename_i x hx
    split at h
    · rw [St.putK_eq] at h
      cases h
      obtain ⟨pl', fn, tmps', pld, h1, h2, h3, h4⟩ := hR.loop hx
      rw [hp] at h1; cases h1
      obtain ⟨w', h5, h6⟩ := loop_put hR hx (st' := st) (pend' := pend) hp h2 h3 h4
      refine ⟨.bool b, w', ?_, h6, .b _⟩
      subst hst hb
      simp only [Instr.endRound, Sem.run_bind, run_getLoop h4, Result.andThen_ok, h5 P, Sem.run_pure]
    · cases h
  · cases h

theorem zip_fold (ps : Array Tmp) (cs : Array Value) (arr : Array Value) : (ps.zip cs).foldl (fun tmps (t, a) => tmps.setIfInBounds t a) arr = (ps.toList.zip cs.toList).foldl (fun tmps (t, a) => tmps.setIfInBounds t a) arr := by
  rw [← Array.foldl_toList, Array.toList_zip]

theorem roundF_ok {rec : Rc} (hrec : rec.Ok E P) (hR : Rel E.gl ρ σ w) {l : Nat} {pl : Pl} (hp : ρ l = some pl) {args : List V} {cargs : Array Value} (ha : RepL ρ args cargs.toList) {vs : VS}
    (h : roundF rec l args σ = some vs) : ∃ f tmps assign body, (Instr.yield pl.blk cargs).run P w = .ok (.round pl.blk f tmps assign body) w ∧
      ∀ r, RoundIn (FR r) 0 P pl.blk f tmps assign body w (EndPost E.gl ρ σ w vs) := by
  unfold roundF at h
  split at h
  · cases h
  · rename_i x hx
    split at h
    · rename_i st pend n tmps params assign body dfr
      obtain ⟨pl', fn, tmps', pld, h1, h2, h3, h4⟩ := hR.loop hx
      rw [hp] at h1; cases h1
      obtain ⟨hlen, t', h, hput⟩ := putParams_some h
      have ht' := hput ρ tmps' cargs.toList h3 ha
      have hsz : ¬ (cargs.size ≠ params.size) := by
        have := ha.length
        simp only [Array.length_toList] at this hlen
        omega
      refine ⟨fn, (params.toList.zip cargs.toList).foldl (fun tmps (t, a) => tmps.setIfInBounds t a) tmps', assign, body, ?_, fun r => ?_⟩
      · simp only [Instr.yield, Sem.run_bind, run_getLoop h4, Result.andThen_ok, if_neg hsz, Sem.run_pure]
        rw [← zip_fold]
      · refine roundIn_of_wpIn (F := FR r) trivial ?_
        split at h
        · cases h
        · rename_i r₁ hr₁
          have hw1 := hrec.code _ _ _ _ _ _ hr₁ ρ w (some pl.blk) { tmps := _, defers := [] } hR ⟨pl, hp, rfl⟩ ⟨ht', .nil⟩
          refine wpIn_mono hw1 ?_
          rintro e a₁ w₁ ⟨he, ρ₁, g₁, ra₁⟩
          split at h
          · rename_i hex
            rw [hex] at he
            cases he
            split at h
            · cases h
            · rename_i y hy
              split at h
              · rename_i st' pend' n' tmps'' params' assign' body' dfr'
                split at h
                · rw [St.putK_eq] at h
                  obtain ⟨pl₁, fn₁, tm₁, pld₁, k1, k2, k3, k4⟩ := g₁.rel.loop hy
                  have hp₁ := g₁.le _ _ hp
                  rw [hp₁] at k1; cases k1
                  obtain ⟨w₂, k5, k6⟩ := loop_put g₁.rel hy (st' := .busy) (pend' := pend') hp₁ k2 k3 k4
                  refine ⟨w₂, ?_, ?_⟩
                  · simp only [Instr.beginRound, Sem.run_bind, run_getLoop k4, Result.andThen_ok, k5 P, Sem.run_pure]
                  · have g₂ := g₁.trans k6
                    split at h
                    · cases h
                    · rename_i r₂ hr₂
                      have hw2 := hrec.code _ _ _ _ _ _ hr₂ ρ₁ w₂ (some pl.blk) a₁ k6.rel ⟨pl, hp₁, rfl⟩ ra₁
                      refine wpIn_mono hw2 ?_
                      rintro e₂ a₂ w₃ ⟨he₂, ρ₂, g₃, ra₂⟩
                      have hp₂ := g₃.le _ _ hp₁
                      have gg := g₂.trans g₃
                      split at h
                      · rename_i hex₂
                        rw [hex₂] at he₂
                        cases he₂
                        obtain ⟨c, w₄, q1, q2, q3⟩ := endRound_ok (P := P) g₃.rel hp₂ h rfl rfl
                        exact ⟨c, w₄, q1, c, rfl, ρ₂, gg.trans q2, q3⟩
                      · rename_i hex₂
                        rw [hex₂] at he₂
                        cases he₂
                        obtain ⟨c, w₄, q1, q2, q3⟩ := endRound_ok (P := P) g₃.rel hp₂ h rfl rfl
                        exact ⟨c, w₄, q1, c, rfl, ρ₂, gg.trans q2, q3⟩
                      · rename_i id hex₂
                        rw [hex₂] at he₂
                        cases he₂
                        obtain ⟨c, w₄, q1, q2, q3⟩ := endRound_ok (P := P) g₃.rel hp₂ h rfl rfl
                        exact ⟨c, w₄, q1, c, rfl, ρ₂, gg.trans q2, q3⟩
                · cases h
              · cases h
          · cases h
    · cases h

end
end Go.AM

/- Code is the model's (3): one operation; regions in their written order. -/
namespace Go.AM
open Go

section
variable {E : Env} {P : Program} (hE : E.Ok P) {w : World} {ρ : Pm} {σ : St}

theorem semAt_ok {r : Option Nat} {o : Oper} (hd : r = none ∨ ∀ c, o.op ≠ .defer c) (f : Operand → Value) : o.semAt (FR r).round f = execOp f o := by
  rcases hd with rfl | hd
  · rfl
  · exact Oper.semAt_eq _ f o hd

theorem outK_ok {rec : Rc} (hrec : rec.Ok E P) (hR : Rel E.gl ρ σ w) {n : Nat} {a : A} {act : Act} (ha : RepA ρ n a act) {o : Oper} {r : Option Nat} {x : Out} {s : Sem Next} (hx : OutOk E P ρ σ w s x)
    {k : A → St → Option Res} {res : Res} (h : outK rec n o.dst x a σ k = some res) {next : Act → World → Prop} {Q : Exit → Act → World → Prop}
    (hk : ∀ a' σ' ρ' w' act', Goes E.gl ρ σ w ρ' σ' w' → RepA ρ' n a' act' → k a' σ' = some res → next act' w') : o.uponIn (FR r) 0 P act next Q (s.run P w) := by
  cases hx with
  | val v σ' ρ' w' c g hr hrun =>
    rw [hrun]
    obtain ⟨a', h1, h2⟩ := pa_ok (ha.mono g.le) hr h
    exact hk _ _ _ _ _ g h2 h1
  | skip σ' ρ' w' g hrun =>
    rw [hrun]
    obtain ⟨a', h1, h2⟩ := pa_ok (ha.mono g.le) Rep.undef h
    exact hk _ _ _ _ _ g h2 h1
  | call f args cargs hr hrun =>
    rw [hrun]
    obtain ⟨vs, hvs, h⟩ := optE_inv h
    rcases hrec.call _ _ _ _ hvs ρ w cargs hR hr with ⟨c, w', q1, ρ', q2, q3⟩ | ⟨q1, q2⟩
    · rw [q1]
      obtain ⟨a', h1, h2⟩ := pa_ok (ha.mono q2.le) q3 h
      exact hk _ _ _ _ _ q2 h2 h1
    · rw [q1]
      refine ⟨(fun hh => by cases hh), ?_⟩
      refine CallsIn.mono (F := FR r) q2 ?_
      rintro e w' ⟨c, rfl, ρ', q3, q4⟩
      obtain ⟨a', h1, h2⟩ := pa_ok (ha.mono q3.le) q4 h
      exact hk _ _ _ _ _ q3 h2 h1
  | round l args pl cargs hp hr hrun =>
    rw [hrun]
    obtain ⟨vs, hvs, h⟩ := optE_inv h
    obtain ⟨f, tmps, assign, body, q1, q2⟩ := roundF_ok hrec hR hp hr hvs
    rw [q1]
    refine ⟨(fun hh => by cases hh), ?_⟩
    refine RoundIn.mono (F := FR r) (q2 r) ?_
    rintro e w' ⟨c, rfl, ρ', q3, q4⟩
    obtain ⟨a', h1, h2⟩ := pa_ok (ha.mono q3.le) q4 h
    exact hk _ _ _ _ _ q3 h2 h1
  | defer f args d cap ht hr hrun =>
    rw [hrun]
    have ha2 : RepA ρ n { tmps := a.tmps, dfr := .call f args :: a.dfr } { act with defers := d :: act.defers } := ⟨ha.tmps, .cons _ _ _ _ (.call f args d cap ht hr) ha.dfr⟩
    obtain ⟨a', h1, h2⟩ := pa_ok ha2 Rep.undef h
    exact hk _ _ _ _ _ (Goes.refl hR) h2 h1

include hE
theorem kc_ok {rec : Rc} (hrec : rec.Ok E P) (hR : Rel E.gl ρ σ w) {n : Nat} {a : A} {act : Act} (ha : RepA ρ n a act) {o : Oper} {r : Option Nat} (hd : r = none ∨ ∀ c, o.op ≠ .defer c)
    {k : A → St → Option Res} {res : Res} (h : (kc E n o).run rec a σ k = some res) {next : Act → World → Prop} {Q : Exit → Act → World → Prop}
    (hk : ∀ a' σ' ρ' w' act', Goes E.gl ρ σ w ρ' σ' w' → RepA ρ' n a' act' → k a' σ' = some res → next act' w') : o.wpIn (FR r) 0 P act w next Q := by
  refine ⟨fun _ _ => trivial, ?_⟩
  rw [semAt_ok hd]
  unfold kc at h
  split at h
  · obtain ⟨v, hv, h⟩ := bindV_some h
    obtain ⟨c, h1, h2⟩ := vc_ok hE hR ha.tmps hv
    rw [h2]
    obtain ⟨a', h3, h4⟩ := pa_ok ha h1 h
    exact hk _ _ _ _ _ (Goes.refl hR) h4 h3
  · obtain ⟨v, hv, h⟩ := bindV_some h
    obtain ⟨c, h1, h2⟩ := vc_ok hE hR ha.tmps hv
    rw [h2]
    obtain ⟨a', h3, h4⟩ := pa_ok ha h1 h
    exact hk _ _ _ _ _ (Goes.refl hR) h4 h3
  · obtain ⟨m, hm, h⟩ := optE_inv h
    obtain ⟨ob, w₁, kk, c, h1, h2, h3, h4⟩ := (ac_ok hE hR ha.tmps hm).ex
    unfold newMade at h
    rw [St.newK_eq] at h
    rw [h3]
    have g1 := Goes.alk hR h1
    have hsz : w₁.heap.size = w.heap.size := by rw [h1.heap]
    have g2 := Goes.new g1.rel (pl := ⟨w.heap.size, 0, kk⟩) hsz.symm h2
    have g := g1.trans g2
    obtain ⟨a', h5, h6⟩ := pa_ok (ha.mono g.le) (h4 σ.next _ Pm.at_self) h
    exact hk _ _ _ _ _ g h6 h5
  · obtain ⟨x, hx, h⟩ := optE_inv h
    exact outK_ok hrec hR ha (wc_ok hE hR ha.tmps hx) h hk

theorem opsC_ok {rec : Rc} (hrec : rec.Ok E P) {n : Nat} {ops : Array Oper} {r : Option Nat} (hd : r = none ∨ ∀ o ∈ ops, ∀ c, o.op ≠ .defer c) {Q : Exit → Act → World → Prop} {res : Res} :
    ∀ {os : List Oper} {i : Nat} {ρ : Pm} {σ : St} {w : World} {a : A} {act : Act}, os = ops.toList.drop i → i ≤ ops.size → Rel E.gl ρ σ w → RepA ρ n a act → (opsC E n ops os).run rec a σ = some res →
    (∀ ρ' w' act', Goes E.gl ρ σ w ρ' res.σ w' → RepA ρ' n res.a act' → res.ex = .normal → Q .normal act' w') →
    wpOpsIn (FR r) 0 P ops Q (List.range' i (ops.size - i)) act w := by
  intro os
  induction os with
  | nil =>
    intro i ρ σ w a act hos hi hR ha h hQ
    have hsz : ops.size - i = 0 := by
      have := congrArg List.length hos
      simp at this; omega
    rw [hsz]
    cases h
    exact hQ ρ w act (Goes.refl hR) ha rfl
  | cons o os ih =>
    intro i ρ σ w a act hos hi hR ha h hQ
    have hlt : i < ops.size := by
      have := congrArg List.length hos
      simp at this; omega
    have hoi : ops[i]? = some o := by
      have h1 : (ops.toList.drop i)[0]? = some o := by rw [← hos]; rfl
      rw [List.getElem?_drop] at h1
      simpa using h1
    have hos' : os = ops.toList.drop (i + 1) := by
      have : (ops.toList.drop i).tail = os := by rw [← hos]; rfl
      rw [← this, List.tail_drop]
    have hmem : o ∈ ops := Array.mem_of_getElem? hoi
    have hdo : r = none ∨ ∀ c, o.op ≠ .defer c := hd.imp id (fun q => q o hmem)
    have hr : List.range' i (ops.size - i) = i :: List.range' (i + 1) (ops.size - (i + 1)) := by
      have : ops.size - i = (ops.size - (i + 1)) + 1 := by omega
      rw [this, List.range'_succ]
    rw [hr]
    simp only [wpOpsIn, hoi]
    have hgc := gc_ok ha ops o
    have made : (kc E n o).run rec a σ (fun a σ => (opsC E n ops os).run rec a σ) = some res → o.wpIn (FR r) 0 P act w (wpOpsIn (FR r) 0 P ops Q (List.range' (i + 1) (ops.size - (i + 1)))) Q := by
      intro h
      refine kc_ok hE hrec hR ha hdo h ?_
      intro a' σ' ρ' w' act' g ha' hk
      exact ih hos' hlt g.rel ha' hk (fun ρ'' w'' act'' g' ha'' he => hQ _ _ _ (g.trans g') ha'' he)
    unfold opsC at h
    split at h
    · rename_i hg
      have : Region.wanted o (yielded ops act.tmps) = true := by unfold Region.wanted; rw [hg]
      rw [if_pos this]
      exact made h
    · simp only [bcase_eq] at h
      split at h
      · rename_i hw
        rw [hgc] at hw
        rw [if_pos hw]
        exact made h
      · rename_i hw
        rw [hgc] at hw
        rw [if_neg hw]
        refine ⟨fun _ _ => trivial, ?_⟩
        obtain ⟨a', h1, h2⟩ := pa_ok ha Rep.undef h
        exact ih hos' hlt hR h2 h1 hQ
omit hE
end
end Go.AM

/- Code is the model's (4): ranges over functions. -/
namespace Go.AM
open Go

/-- What is asked of the functions' names. -/
structure Env.Nm (E : Env) : Prop where
  nm : ∀ f x, E.fn.get f = some x → (x.name == "runtime.NumGoroutine") = false

theorem EOk.no_panic {x : Ex} {ch : List PanicEntry} (h : EOk x (.panic ch)) : False := by cases h
theorem EOk.no_out {x : Ex} (h : EOk x .outgrown) : False := by cases h

section
variable {E : Env} {P : Program} (hE : E.Ok P) (hN : E.Nm) {w : World} {ρ : Pm} {σ : St}

include hE hN in
theorem enter_ok {f : FuncId} {fn : Func} {c : Code} (hf : E.fn.get f = some fn) (hb : fn.body = some c) (args : Array Value) : (callFunc f args).run P w = .ok (.enter f args) w := by
  simp only [callFunc, Sem.run_bind, run_program, Result.andThen_ok, hE.fn _ _ hf, hN.nm _ _ hf, Bool.false_eq_true, if_false, hb, Option.isNone_some, Sem.run_pure]

include hE hN in
theorem hasBody_ok {f : FuncId} (h : hasBody E f = true) (args : Array Value) : (callFunc f args).run P w = .ok (.enter f args) w := by
  unfold hasBody at h
  split at h
  · rename_i fn hf
    split at h
    · rename_i c hb
      exact enter_ok hE hN hf hb args
    · cases h
  · cases h

theorem run_endLoop {l : Nat} {r : Loop} {w' : World} (h : w.heap[l]? = some (.loop r)) (hst : (r.state == .busy) = false) (hs : (setObj l (.loop { r with state := .exhausted })).run P w = .ok () w') :
    (Instr.endLoop l).run P w = .ok r.pending w' := by
  simp only [Instr.endLoop, Sem.run_bind, run_getLoop h, Result.andThen_ok, hst, Bool.false_eq_true, if_false, hs, Sem.run_pure]

theorem rangeEnd_ok {rec : Rc} (hrec : rec.Ok E P) (hR : Rel E.gl ρ σ w) {n : Nat} {ro r : Option Nat} (hro : RoAt ρ ro r) {l : Nat} {pl : Pl} (hp : ρ l = some pl) {tm : Tr V} {dfr : List Dfr} {act : Act} (ha : RepA ρ n { tmps := tm, dfr } act)
    {res : Res} (h : rangeEnd rec n ro l tm dfr σ = some res) : ∃ jump w₄, (Instr.endLoop pl.blk).run P w = .ok jump w₄ ∧
      (match jump with
       | none => CodePost E.gl ρ σ w n res .normal act w₄
       | some c => c.wpIn (FR r) 0 P (CodePost E.gl ρ σ w n res) act w₄) := by
  unfold rangeEnd at h
  split at h
  · cases h
  · rename_i x hx
    split at h
    · rename_i st pend m t p as bd d
      obtain ⟨pl', fn, tmps', pld, h1, h2, h3, h4⟩ := hR.loop hx
      rw [hp] at h1; cases h1
      split at h
      · cases h
      · rename_i hnb
        rw [St.putK_eq] at h
        obtain ⟨w', h5, h6⟩ := loop_put hR hx (st' := .exhausted) (pend' := pend) hp h2 h3 h4
        have hst : (st == .busy) = false := by cases st <;> first | rfl | exact absurd rfl hnb
        refine ⟨pend, w', run_endLoop h4 hst (h5 P), ?_⟩
        split at h
        · cases h
          exact ⟨.normal, ρ, h6, ha⟩
        · rename_i c
          refine wpIn_mono (hrec.code _ _ _ _ _ _ h ρ w' r act h6.rel hro ha) ?_
          rintro e a' w'' ⟨he, ρ', g, ra⟩
          exact ⟨he, ρ', h6.trans g, ra⟩
    · cases h

include hE hN in
/-- From the loop's record on. -/
theorem rangeRun_ok {rec : Rc} (hrec : rec.Ok E P) (hR : Rel E.gl ρ σ w) {n : Nat} {ro r : Option Nat} (hro : RoAt ρ ro r) {f : FuncId} {first cap : List V} {first' cap' : Array Value} {ps : Array Tmp} {assign body : Code} {tm : Tr V} {dfr : List Dfr} {dr : Nat}
    {pld : Pl} (hd : ρ dr = some pld) {act : Act} (ha : RepA ρ n { tmps := tm, dfr } act) (h1 : RepL ρ first first'.toList) (h2 : RepL ρ cap cap'.toList) {res : Res} (h : rangeRun E rec n ro f first cap ps assign body tm dfr dr σ = some res) (fn : FuncId) :
    let w₁ : World := { w with heap := w.heap.push (.loop { state := .ready, pending := none, fn, tmps := act.tmps, params := ps, assign, body, defers := pld.blk }) }
    (callFunc f (first' ++ #[Value.func (.yield w.heap.size) #[] #[]] ++ cap')).run P w₁ = .ok (.enter f (first' ++ #[Value.func (.yield w.heap.size) #[] #[]] ++ cap')) w₁ ∧
    CallsIn (FR r) 0 P f (first' ++ #[Value.func (.yield w.heap.size) #[] #[]] ++ cap') w₁ (rangePost (FR r) 0 P w.heap.size (CodePost E.gl ρ σ w n res) act) := by
  intro w₁
  unfold rangeRun at h
  rw [bcase_eq] at h
  split at h
  · rename_i hb
    rw [St.newK_eq] at h
    split at h
    · cases h
    · rename_i vs hvs
      have g₁ : Goes E.gl ρ σ w (ρ.at σ.next ⟨w.heap.size, 0, 0⟩) (σ.new (.loop .ready none n tm ps assign body dr)) w₁ :=
        Goes.new hR rfl (.loop _ _ _ _ _ _ _ _ _ _ _ _ ha.tmps hd)
      have hargs : RepL (ρ.at σ.next ⟨w.heap.size, 0, 0⟩) (first ++ V.f (.yield σ.next) [] [] :: cap) (first' ++ #[Value.func (.yield w.heap.size) #[] #[]] ++ cap').toList := by
        simp only [Array.toList_append, List.append_assoc]
        refine (h1.mono g₁.le).append ?_
        exact .cons _ _ _ _ (.f _ _ _ _ _ _ (.yield _ ⟨w.heap.size, 0, 0⟩ Pm.at_self) .nil .nil) (h2.mono g₁.le)
      have hent := hasBody_ok hE hN (w := w₁) hb (first' ++ #[Value.func (.yield w.heap.size) #[] #[]] ++ cap')
      refine ⟨hent, ?_⟩
      rcases hrec.call _ _ _ _ hvs _ w₁ _ g₁.rel hargs with ⟨c, w', q1, _⟩ | ⟨_, q2⟩
      · rw [hent] at q1; cases q1
      · refine CallsIn.mono (F := FR r) q2 ?_
        rintro e w₃ ⟨c, rfl, ρ₃, g₃, _⟩
        have gg := g₁.trans g₃
        obtain ⟨jump, w₄, k1, k2⟩ := rangeEnd_ok (P := P) hrec g₃.rel (hro.mono gg.le) (g₃.le _ _ Pm.at_self) (ha.mono gg.le) h
        refine ⟨jump, w₄, k1, ?_⟩
        cases jump with
        | none =>
          obtain ⟨he, ρ', g, ra⟩ := k2
          exact ⟨he, ρ', gg.trans g, ra⟩
        | some c =>
          refine wpIn_mono k2 ?_
          rintro e a' w'' ⟨he, ρ', g, ra⟩
          exact ⟨he, ρ', gg.trans g, ra⟩
  · cases h

include hE hN in
theorem rangeF_ok {rec : Rc} (hrec : rec.Ok E P) (hR : Rel E.gl ρ σ w) {n : Nat} {ro r : Option Nat} (hro : RoAt ρ ro r) {g : Operand} {v : V} {ps : Array Tmp} {assign body : Code} {a : A} {act : Act} (ha : RepA ρ n a act)
    (hg : (opc E g).get a.tmps = some v) {res : Res} (h : rangeF E rec n ro v ps assign body a σ = some res) : (Code.rangeFunc g ps assign body).wpIn (FR r) 0 P (CodePost E.gl ρ σ w n res) act w := by
  have hr := opc_ok hR ha.tmps hg
  unfold rangeF at h
  split at h
  · rename_i fn first cap
    split at h
    · rename_i f
      generalize hcf : act.eval g = cf at hr
      cases hr with | f _ fn' _ _ first' cap' hf hfi hca =>
      cases hf
      refine wpIn_rangeFunc fun fr _ => ?_
      have hres : ∀ (a' : Act), a'.tmps = act.tmps → ∀ l w, (resolve act.eval (rangeCall g l) 0).run P w = .ok { target := .fn (.func f) cap', args := first' ++ #[Value.func (.yield l) #[] #[]] } w := by
        intro a' _ l w
        have e1 : (#[Operand.const (.func (.yield l) #[] #[])] : Array Operand).map act.eval = #[Value.func (.yield l) #[] #[]] := by simp [Act.eval]
        simp only [resolve, rangeCall, hcf, Deferred.ofValue, e1, Sem.run_pure]
      split at h
      · -- an outermost loop
        cases r with
        | some b => exact absurd hro (by simp [RoAt])
        | none =>
          rw [St.newK_eq] at h
          have g₁ : Goes E.gl ρ σ w (ρ.at σ.next ⟨w.heap.size, 0, 0⟩) (σ.new .dfd) { w with heap := w.heap.push (.deferred (some [])) } := Goes.new hR rfl (.dfd _)
          have ha₁ : RepA (ρ.at σ.next ⟨w.heap.size, 0, 0⟩) n { tmps := a.tmps, dfr := .coll σ.next :: a.dfr } { act with defers := [{ target := .collected w.heap.size, args := #[] }] ++ act.defers } :=
            ⟨ha.tmps.mono g₁.le, .cons _ _ _ _ (.coll _ ⟨w.heap.size, 0, 0⟩ _ Pm.at_self rfl) (ha.dfr.mono g₁.le)⟩
          have := rangeRun_ok hE hN hrec g₁.rel (r := none) (ro := none) trivial (pld := ⟨w.heap.size, 0, 0⟩) Pm.at_self ha₁ (hfi.mono g₁.le) (hca.mono g₁.le) h fr
          obtain ⟨q1, q2⟩ := this
          let w0 : World := { w with heap := w.heap.push (.deferred (some [])) }
          let w₁ : World := { w0 with heap := w0.heap.push (.loop { state := .ready, pending := none, fn := fr, tmps := act.tmps, params := ps, assign, body, defers := w.heap.size }) }
          refine ⟨w0.heap.size, [{ target := .collected w.heap.size, args := #[] }], w₁, _, w₁, f, _, w₁, ?_, hres act rfl w0.heap.size w₁, fun _ _ => trivial, q1, (fun hh => by cases hh), ?_⟩
          rotate_left
          · refine CallsIn.mono q2 ?_
            intro e w₃ he
            cases e with
            | returned c =>
              obtain ⟨jump, w₄, k1, k2⟩ := he
              refine ⟨jump, w₄, k1, ?_⟩
              cases jump with
              | none =>
                obtain ⟨he, ρ', g, ra⟩ := k2
                exact ⟨he, ρ', g₁.trans g, ra⟩
              | some c =>
                refine wpIn_mono k2 ?_
                rintro e a' w'' ⟨he, ρ', g, ra⟩
                exact ⟨he, ρ', g₁.trans g, ra⟩
            | panicked ch => obtain ⟨he, _⟩ := he; exact he.no_panic.elim
            | outgrown => obtain ⟨_, _, he, _⟩ := he; exact he.no_out.elim
          · rfl
      · rename_i l₀
        cases r with
        | none => exact absurd hro (by simp [RoAt])
        | some b =>
          split at h
          · rename_i st pend m t p as bd d hx
            obtain ⟨pl₀, fn₀, tm₀, pld₀, k1, k2, k3, k4⟩ := hR.loop hx
            obtain ⟨pl', e1, e2⟩ := hro
            rw [k1] at e1; cases e1
            subst e2
            have := rangeRun_ok hE hN hrec hR (r := some pl₀.blk) (ro := some l₀) ⟨pl₀, k1, rfl⟩ k2 (act := act) ha hfi hca h fr
            obtain ⟨q1, q2⟩ := this
            let w₁ : World := { w with heap := w.heap.push (.loop { state := .ready, pending := none, fn := fr, tmps := act.tmps, params := ps, assign, body, defers := pld₀.blk }) }
            refine ⟨w.heap.size, [], w₁, _, w₁, f, _, w₁, ?_, hres act rfl w.heap.size w₁, fun _ _ => trivial, q1, (fun hh => by cases hh), ?_⟩
            rotate_left
            · exact q2
            · show (Instr.enterLoop fr act.tmps ps assign body (some pl₀.blk)).run P w = _
              simp only [Instr.enterLoop, Sem.run_bind, run_getLoop k4, Result.andThen_ok, Sem.run_pure, run_newObj]
              rfl
          · cases h
    · cases h
  · cases h

end
end Go.AM

/- Code is the model's (5): code, but for the regions that draw. -/
namespace Go.AM
open Go

/-- Regions that draw their order. -/
def DrawOk (E : Env) (P : Program) : Prop := ∀ (rec : Rc), rec.Ok E P → ∀ (n id : Nat) (ops : Array Oper) (p : List PStep) (r : Option Nat) (ρ : Pm) (σ : St) (w : World) (a : A) (act : Act) (res : Res),
  plan E ops = some p → σ.next + makesIn p ≤ big → Rel E.gl ρ σ w → RepA ρ n a act →
  (drawC E n ops p).run rec { hist := [{ heap := σ.heap, next := σ.next + makesIn p }], fl := [], mid := σ.next } a { heap := σ.heap, next := σ.next + makesIn p } = some res →
  (Code.region id ops true).wpIn (FR r) 0 P (CodePost E.gl ρ σ w n res) act w

section
variable {E : Env} {P : Program} (hE : E.Ok P) (hN : E.Nm) {w : World} {ρ : Pm} {σ : St}

theorem thenK_some {r : Option Res} {k : A → St → Option Res} {res : Res} (h : thenK r k = some res) : ∃ r₁, r = some r₁ ∧ ((r₁.ex = .normal ∧ k r₁.a r₁.σ = some res) ∨ (r₁.ex ≠ .normal ∧ r₁ = res)) := by
  obtain ⟨r₁, h1, h2⟩ := optE_inv h
  refine ⟨r₁, h1, ?_⟩
  cases he : r₁.ex with
  | normal => rw [he] at h2; exact .inl ⟨rfl, h2⟩
  | exit id => rw [he] at h2; exact .inr ⟨by simp, by simpa using h2⟩
  | ret => rw [he] at h2; exact .inr ⟨by simp, by simpa using h2⟩

theorem EOk.normal_iff {x : Ex} {e : Exit} (h : EOk x e) : e = .normal ↔ x = .normal := by cases h <;> simp

theorem noDefer_ok : ∀ {l : List Oper}, noDefer l = true → ∀ o ∈ l, ∀ c, o.op ≠ .defer c := by
  intro l
  induction l with
  | nil => intro _ o ho; cases ho
  | cons x xs ih =>
    intro h o ho c hc
    unfold noDefer at h
    split at h
    · cases h
    · rename_i hx
      rcases List.mem_cons.1 ho with rfl | ho
      · exact hx _ hc
      · exact ih h o ho c hc

/-- The least level. -/
theorem least {p : Nat → Prop} : ∀ j, p j → ∃ j, p j ∧ ∀ i, p i → j ≤ i := by
  intro j
  induction j using Nat.strongRecOn with
  | _ j ih =>
    intro hj
    by_cases h : ∃ i, i < j ∧ p i
    · obtain ⟨i, hi, hp⟩ := h; exact ih i hi hp
    · exact ⟨j, hj, fun i hi => by
        rcases Nat.lt_or_ge i j with x | x
        · exact absurd ⟨i, x, hi⟩ h
        · exact x⟩

theorem exThen {x : Ex} {e : Exit} {Q : Exit → Act → World → Prop} {K : Act → World → Prop} {a : Act} {w : World} (he : EOk x e) (hn : x = .normal → K a w) (ho : x ≠ .normal → Q e a w) : Exit.then K Q e a w := by
  cases he with
  | normal => exact hn rfl
  | exit id => exact ho (by simp)
  | ret => exact ho (by simp)

def CcOk (E : Env) (P : Program) (T : Tr Ctr) (c : Code) : Prop := ∀ (m : Nat), (∀ j, j ≤ m → (evT E T j).Ok E P) → ∀ n ro a σ res, (cc E n c).run (evT E T m) ro a σ = some res →
  ∀ ρ w r act, Rel E.gl ρ σ w → RoAt ρ ro r → RepA ρ n a act → c.wpIn (FR r) 0 P (CodePost E.gl ρ σ w n res) act w

include hE hN in
theorem cc_ok {T : Tr Ctr} (hD : DrawOk E P) (c : Code) : CcOk E P T c := by
  induction c with
  | skip =>
    intro m hall n ro a σ res h ρ w r act hR hro ha
    cases h
    exact wpIn_skip ⟨.normal, ρ, Goes.refl hR, ha⟩
  | label l =>
    intro m hall n ro a σ res h ρ w r act hR hro ha
    cases h
    exact wpIn_label ⟨.normal, ρ, Goes.refl hR, ha⟩
  | ret =>
    intro m hall n ro a σ res h ρ w r act hR hro ha
    cases h
    exact wpIn_ret ⟨.ret, ρ, Goes.refl hR, ha⟩
  | exit id =>
    intro m hall n ro a σ res h ρ w r act hR hro ha
    cases h
    exact wpIn_exit ⟨.exit id, ρ, Goes.refl hR, ha⟩
  | seq x y ihx ihy =>
    intro m hall n ro a σ res h ρ w r act hR hro ha
    obtain ⟨r₁, h1, h2⟩ := thenK_some h
    refine wpIn_seq (wpIn_mono (ihx m hall n ro a σ r₁ h1 ρ w r act hR hro ha) ?_)
    rintro e a₁ w₁ ⟨he, ρ₁, g₁, ra₁⟩
    refine exThen he (fun hn => ?_) (fun hn => ?_)
    · rcases h2 with ⟨_, h2⟩ | ⟨hne, _⟩
      · refine wpIn_mono (ihy m hall n ro _ _ res h2 ρ₁ w₁ r a₁ g₁.rel (hro.mono g₁.le) ra₁) ?_
        rintro e₂ a₂ w₂ ⟨he₂, ρ₂, g₂, ra₂⟩
        exact ⟨he₂, ρ₂, g₁.trans g₂, ra₂⟩
      · exact absurd hn hne
    · rcases h2 with ⟨hn', _⟩ | ⟨_, rfl⟩
      · exact absurd hn' hn
      · exact ⟨he, ρ₁, g₁, ra₁⟩
  | cond c x y ihx ihy =>
    intro m hall n ro a σ res h ρ w r act hR hro ha
    obtain ⟨v, hv, h⟩ := bindV_some h
    have hr := opc_ok hR ha.tmps hv
    unfold condK at h
    split at h
    · rename_i t
      generalize hc : act.eval c = cv at hr
      cases hr
      rw [bcase_eq] at h
      refine wpIn_cond hc ?_
      cases t
      · exact ihy m hall n ro a σ res (by simpa using h) ρ w r act hR hro ha
      · exact ihx m hall n ro a σ res (by simpa using h) ρ w r act hR hro ha
    · cases h
  | block id body ih =>
    intro m hall n ro a σ res h ρ w r act hR hro ha
    obtain ⟨r₁, h1, h2⟩ := optE_inv h
    refine wpIn_block (wpIn_mono (ih m hall n ro a σ r₁ h1 ρ w r act hR hro ha) ?_)
    rintro e a₁ w₁ ⟨he, ρ₁, g₁, ra₁⟩
    generalize hx : r₁.ex = x at he h2
    cases he with
    | normal => cases h2; exact ⟨by rw [hx]; exact .normal, ρ₁, g₁, ra₁⟩
    | ret => cases h2; exact ⟨by rw [hx]; exact .ret, ρ₁, g₁, ra₁⟩
    | exit id' =>
      have h2' : bcase (Nat.beq id' id) (some ({ ex := .normal, a := r₁.a, σ := r₁.σ } : Res)) (some r₁) = some res := h2
      rw [bcase_eq] at h2'
      show (if id' = id then CodePost E.gl ρ σ w n res .normal a₁ w₁ else CodePost E.gl ρ σ w n res (.exit id') a₁ w₁)
      split at h2'
      · rename_i hq
        have hq : id' = id := by simpa using hq
        rw [if_pos hq]
        cases h2'
        exact ⟨.normal, ρ₁, g₁, ra₁⟩
      · rename_i hq
        have hq : ¬ id' = id := by simpa using hq
        rw [if_neg hq]
        cases h2'
        exact ⟨by rw [hx]; exact .exit id', ρ₁, g₁, ra₁⟩
  | loop body ih =>
    intro m hall n ro a σ res h ρ w r act hR hro ha
    let S : Nat → Act → World → Prop := fun j a' w' => j ≤ m + 1 ∧ ∃ ρ' σ' a'', Goes E.gl ρ σ w ρ' σ' w' ∧ RepA ρ' n a'' a' ∧ (evT E T j).code n (.loop body) ro a'' σ' = some res
    have hμ : ∃ μ : Act → World → Nat, ∀ a' w', (∃ j, S j a' w') → S (μ a' w') a' w' ∧ ∀ i, S i a' w' → μ a' w' ≤ i := by
      classical
      refine ⟨fun a' w' => if h : ∃ j, S j a' w' then Classical.choose (least (p := fun j => S j a' w') h.choose h.choose_spec) else 0, fun a' w' hj => ?_⟩
      simp only [hj, dif_pos]
      exact Classical.choose_spec (least (p := fun j => S j a' w') _ hj.choose_spec)
    obtain ⟨μ, hμ⟩ := hμ
    refine wpIn_loop (fun a' w' => ∃ j, S j a' w') μ ⟨m + 1, Nat.le_refl _, ρ, σ, a, Goes.refl hR, ha, h⟩ ?_
    intro a' w' hI
    obtain ⟨⟨hle, ρ', σ', a'', g, ra, hcode⟩, _⟩ := hμ a' w' hI
    generalize hj : μ a' w' = j at hle hcode
    cases j with
    | zero => exact absurd hcode (by simp [evT])
    | succ j =>
      have hcode' : thenK ((cc E n body).run (evT E T j) ro a'' σ') (fun a σ => (evT E T j).code n (.loop body) ro a σ) = some res := hcode
      obtain ⟨r₁, h1, h2⟩ := thenK_some hcode'
      refine wpIn_mono (ih j (fun i hi => hall i (by omega)) n ro a'' σ' r₁ h1 ρ' w' r a' g.rel (hro.mono g.le) ra) ?_
      rintro e a₁ w₁ ⟨he, ρ₁, g₁, ra₁⟩
      refine exThen he (fun hn => ?_) (fun hn => ?_)
      · rcases h2 with ⟨_, h2⟩ | ⟨hne, _⟩
        · have hS : S j a₁ w₁ := ⟨by omega, ρ₁, r₁.σ, r₁.a, g.trans g₁, ra₁, h2⟩
          exact ⟨⟨j, hS⟩, Nat.lt_succ_of_le ((hμ a₁ w₁ ⟨j, hS⟩).2 j hS)⟩
        · exact absurd hn hne
      · rcases h2 with ⟨hn', _⟩ | ⟨_, rfl⟩
        · exact absurd hn' hn
        · exact ⟨he, ρ₁, g.trans g₁, ra₁⟩
  | region id ops draw =>
    intro m hall n ro a σ res h ρ w r act hR hro ha
    have hrec := hall m (Nat.le_refl _)
    cases draw with
    | false =>
      have key : (r = none ∨ ∀ o ∈ ops, ∀ c, o.op ≠ .defer c) → (opsC E n ops ops.toList).run (evT E T m) a σ = some res → (Code.region id ops false).wpIn (FR r) 0 P (CodePost E.gl ρ σ w n res) act w := by
        intro hd h
        refine wpIn_region ?_
        have hex : ∀ {os : List Oper} {a σ}, (opsC E n ops os).run (evT E T m) a σ = some res → True := fun _ => trivial
        have := opsC_ok hE hrec (r := r) hd (i := 0) (by simp) (by omega) hR ha h (Q := CodePost E.gl ρ σ w n res) (fun ρ' w' act' g ra he => ⟨by rw [he]; exact .normal, ρ', g, ra⟩)
        rw [List.range_eq_range']
        exact this
      have h' : (match noDefer ops.toList with
        | true => (⟨fun rec _ a σ => (opsC E n ops ops.toList).run rec a σ⟩ : CC)
        | false => ⟨fun rec ro a σ => optE ro ((opsC E n ops ops.toList).run rec a σ) fun _ => none⟩).run (evT E T m) ro a σ = some res := h
      split at h'
      · rename_i hnd
        exact key (.inr fun o ho => noDefer_ok hnd o (by simpa using ho)) h'
      · cases ro with
        | none =>
          cases r with
          | none => exact key (.inl rfl) h'
          | some b => exact absurd hro (by simp [RoAt])
        | some l => cases h'
    | true =>
      have h' : (match plan E ops with
        | some p => (⟨fun rec _ a σ => forceN (σ.next + makesIn p) fun m => bcase (Nat.ble m big) ((drawC E n ops p).run rec { hist := [{ heap := σ.heap, next := m }], fl := [], mid := σ.next } a { heap := σ.heap, next := m }) none⟩ : CC)
        | none => ⟨fun _ _ _ _ => none⟩).run (evT E T m) ro a σ = some res := h
      split at h'
      · rename_i p hp
        simp only [forceN_eq, bcase_eq] at h'
        split at h'
        · rename_i hbig
          exact hD (evT E T m) hrec n id ops p r ρ σ w a act res hp (by simpa using hbig) hR ha h'
        · cases h'
      · cases h'
  | rangeFunc g ps assign body _ _ =>
    intro m hall n ro a σ res h ρ w r act hR hro ha
    obtain ⟨v, hv, h⟩ := bindV_some h
    exact rangeF_ok hE hN (hall m (Nat.le_refl _)) hR hro ha hv h
  | _ => intro m hall n ro a σ res h; cases h
end
end Go.AM

/- Code is the model's (6): functions; the evaluator. -/
namespace Go.AM
open Go

/-- Functions without a body. -/
def ExtOk (E : Env) (P : Program) : Prop := ∀ f e, E.ext.get f = some e → ∀ args σ vs, extF e args σ = some vs → ∀ ρ w (cargs : Array Value), Rel E.gl ρ σ w → RepL ρ args cargs.toList →
  (∃ fn, E.fn.get f = some fn ∧ fn.body = none) → ∃ c w', (callFunc f cargs).run P w = .ok (.value c) w' ∧ ValPost E.gl ρ σ w vs c w'

/-- What is asked of contracts. -/
def CtrOk (E : Env) (P : Program) (T : Tr Ctr) : Prop := ∀ f c, T.get f = some c → ∀ args σ vs, c.run args σ = some vs → ∀ ρ w (cargs : Array Value), Rel E.gl ρ σ w → RepL ρ args cargs.toList → CallOk E P ρ σ w f cargs vs

theorem CtrOk.nil {E : Env} {P : Program} : CtrOk E P .nil := fun _ _ h => by cases h

/-- A block is let go. -/
theorem Goes.drop {gl : Nat} {ρ : Pm} {σ : St} {w w' : World} {id : Nat} {b : Blk} {o' : Obj} {pl : Pl} (h : Rel gl ρ σ w) (hg : σ.get id = some b) (hro : b.ro = false) (hp : ρ id = some pl)
    (hw : Upd w pl.blk o' w') : Goes gl ρ σ w ρ (σ.del id) w' := by
  have gets : ∀ j c, (σ.del id).get j = some c → j ≠ id ∧ σ.get j = some c := by
    intro j c hj
    rw [St.get_del] at hj
    split at hj
    · cases hj
    · exact ⟨by assumption, hj⟩
  refine ⟨Pm.le_refl _, ⟨h.glob, h.dom, by rw [hw.size]; exact h.bnd, ?_, ?_⟩, by rw [hw.size]; exact Nat.le_refl _, ?_, ?_, hw.os, hw.out, hw.tape, ?_, Nat.le_refl _, fun _ _ h => .inl h⟩
  · intro j c hj
    obtain ⟨e, hj⟩ := gets _ _ hj
    obtain ⟨p, o, h1, h2, h3⟩ := h.blk _ _ hj
    refine ⟨p, o, h1, ?_, h3⟩
    rw [hw.other _ ?_]
    · exact h2
    · intro heq
      rcases h.inj _ _ _ _ _ _ hj hg h1 hp heq with e' | ⟨_, e'⟩
      · exact e e'
      · rw [hro] at e'; cases e'
  · intro j j' c c' p p' g g' r r' hpb
    exact h.inj _ _ _ _ _ _ (gets _ _ g).2 (gets _ _ g').2 r r' hpb
  · rintro i _ ⟨j, c, p, g, r⟩
    exact ⟨j, c, p, (gets _ _ g).2, r⟩
  · intro i _ ho
    exact hw.other _ (fun e => ho ⟨id, b, pl, hg, hro, hp, e.symm⟩)
  · rintro i _ ⟨j, c, p, g, r⟩
    exact ⟨j, c, p, (gets _ _ g).2, r⟩

section
variable {E : Env} {P : Program} (hE : E.Ok P) (hN : E.Nm) {w : World} {ρ : Pm} {σ : St}

include hE in
theorem resC_ok (hR : Rel E.gl ρ σ w) {n : Nat} {tm : Tr V} {tmps : Array Value} (hT : RepT ρ n tm tmps) : ∀ {rs : List ResultVar} {k : List V → Option VS} {r : VS}, (resC E rs).run tm σ k = some r →
    ∃ vs cs, RepL ρ vs cs ∧ k vs = some r ∧ (rs.mapM (fun | .tmp t => pure (tmps.getD t undef) | .cell a t => do loadVar t (← asAddr (tmps.getD a undef)) : ResultVar → Sem Value)).run P w = .ok cs w := by
  intro rs
  induction rs with
  | nil => intro k r h; exact ⟨[], [], .nil, h, rfl⟩
  | cons x rs ih =>
    intro k r h
    cases x with
    | tmp t =>
      obtain ⟨v, hv, h⟩ := bindV_some h
      obtain ⟨vs, cs, h1, h2, h3⟩ := ih h
      have hr := opc_ok (a := { tmps, defers := [] }) hR hT hv
      refine ⟨v :: vs, _ :: cs, .cons _ _ _ _ hr h1, h2, ?_⟩
      simp only [List.mapM_cons, Sem.run_bind, Sem.run_pure, Result.andThen_ok, h3]
      rfl
    | cell a t =>
      obtain ⟨v, hv, h⟩ := bindV_some h
      obtain ⟨vs, cs, h1, h2, h3⟩ := ih h
      have hload : ∃ c, Rep ρ v c ∧ (Instr.loadAt t (tmps.getD a undef)).run P w = .ok c w := by
        unfold loadC at hv
        split at hv
        · rename_i hg
          split at hv
          · rename_i s hs
            obtain ⟨u, hu, hv⟩ := bindV_some hv
            exact loadAgg_ok hE hR hg hs (opc_ok (a := { tmps, defers := [] }) hR hT hu) hv
          · cases hv
        · rename_i hg
          obtain ⟨u, hu, hv⟩ := bindV_some hv
          exact loadOne_ok hE hR hg (opc_ok (a := { tmps, defers := [] }) hR hT hu) hv
        · cases hv
      obtain ⟨c, hc1, hc2⟩ := hload
      have hc3 : (do loadVar t (← asAddr (tmps.getD a undef)) : Sem Value).run P w = .ok c w := by
        generalize tmps.getD a undef = cv at hc2 ⊢
        cases cv with
        | pointer p =>
          cases p with
          | some ad => exact hc2
          | none => simp [Instr.loadAt, Instr.sureAddr] at hc2
        | _ => simp [Instr.loadAt, Instr.sureAddr] at hc2
      refine ⟨v :: vs, c :: cs, .cons _ _ _ _ hc1 h1, h2, ?_⟩
      simp only [List.mapM_cons, Sem.run_bind] at hc3 ⊢
      rw [hc3]
      simp only [Result.andThen_ok, Sem.run_bind, h3, Sem.run_pure]

include hE in
theorem results_ok (hR : Rel E.gl ρ σ w) {n : Nat} {tm : Tr V} {tmps : Array Value} (hT : RepT ρ n tm tmps) {fn : Func} {r : VS} (h : (resC E fn.results.toList).run tm σ (retL σ) = some r) :
    ∃ c, (results fn tmps).run P w = .ok c w ∧ Rep ρ r.v c ∧ r.σ = σ := by
  obtain ⟨vs, cs, h1, h2, h3⟩ := resC_ok hE hR hT h
  have hm : (fn.results.mapM (fun | .tmp t => pure (tmps.getD t undef) | .cell a t => do loadVar t (← asAddr (tmps.getD a undef)) : ResultVar → Sem Value)).run P w = .ok cs.toArray w := by
    rw [Array.mapM_eq_mapM_toList, Sem.run_map, h3]
    rfl
  have hres : ∀ c, (if h : cs.toArray.size = 1 then cs.toArray[0] else Value.tuple cs.toArray) = c → (results fn tmps).run P w = .ok c w := by
    intro c hc
    unfold results
    rw [Sem.run_bind]
    refine (congrArg (fun r => Result.andThen r _) hm).trans ?_
    rw [Result.andThen_ok, Sem.run_pure, hc]
  unfold retL at h2
  split at h2
  · cases h2
    cases h1
    exact ⟨.tuple #[], hres _ rfl, .tu _ _ .nil, rfl⟩
  · split at h2
    · cases h2
      cases h1 with | cons _ c _ cs hv hs =>
      cases hs
      exact ⟨c, hres _ rfl, hv, rfl⟩
    · cases h2
      cases h1 with | cons _ c _ cs hv hs =>
      cases hs with | cons _ c' _ cs hv' hs =>
      refine ⟨.tuple (c :: c' :: cs).toArray, hres _ ?_, .tu _ _ (.cons _ _ _ _ hv (.cons _ _ _ _ hv' hs)), rfl⟩
      rw [dif_neg (by simp)]

theorem argsT (ρ : Pm) {args : List V} {cargs : Array Value} (h : RepL ρ args cargs.toList) {n : Nat} (hn : args.length ≤ n) : RepT ρ n (Tr.ofList args 0 .nil) (cargs ++ Array.replicate (n - cargs.size) undef) := by
  have hl := h.length
  simp only [Array.length_toList] at hl
  refine ⟨by simp; omega, fun i => ?_⟩
  unfold slot
  rw [Tr.get_ofList]
  simp only [Nat.not_lt_zero, if_false, Nat.sub_zero]
  by_cases hi : i < args.length
  · rw [if_pos hi]
    have hv : args[i]? = some args[i] := List.getElem?_eq_getElem hi
    obtain ⟨c, h1, h2⟩ := h.get hv
    rw [hv]
    have : (cargs ++ Array.replicate (n - cargs.size) undef).getD i undef = c := by
      rw [Array.getD_eq_getD_getElem?, Array.getElem?_append_left (by omega)]
      have : cargs[i]? = some c := by simpa using h1
      rw [this]; rfl
    rw [this]; exact h2
  · rw [if_neg hi]
    have e : (Tr.nil : Tr V).get i = none := rfl
    have : (cargs ++ Array.replicate (n - cargs.size) undef).getD i undef = undef := by
      rw [Array.getD_eq_getD_getElem?, Array.getElem?_append_right (by omega)]
      cases hq : (Array.replicate (n - cargs.size) undef)[i - cargs.size]? with
      | none => rfl
      | some x =>
        have := Array.mem_of_getElem? hq
        simp at this
        simp [this.2]
    rw [this]
    simp only [Tr.get_nil]
    exact Rep.undef

include hE in
theorem leaveF_ok {rec : Rc} (hrec : rec.Ok E P) {fn : Func} {tm : Tr V} {tmps : Array Value} {n : Nat} {vs : VS} {ρ₀ : Pm} {σ₀ : St} {w₀ : World} : ∀ {ds : List Dfr} {cds : List Deferred} {ρ : Pm} {σ : St} {w : World}, Goes E.gl ρ₀ σ₀ w₀ ρ σ w → RepT ρ n tm tmps → RepDs ρ ds cds →
    leaveF rec (fun σ => (resC E fn.results.toList).run tm σ (retL σ)) ds σ = some vs → LeavesInM Fence.wide 0 P fn tmps (EndPost E.gl ρ₀ σ₀ w₀ vs) cds .returning w := by
  intro ds
  induction ds with
  | nil =>
    intro cds ρ σ w g hT hd h
    cases hd
    obtain ⟨c, h1, h2, h3⟩ := results_ok hE g.rel hT h
    exact ⟨c, h1, c, rfl, ρ, by rw [h3]; exact g, h2⟩
  | cons d ds ih =>
    intro cds ρ σ w g hT hd h
    cases hd with | cons _ cd _ cds hd hds =>
    cases hd with
    | coll r pl _ hp ht =>
      have h' : (match σ.get r with | some .dfd => σ.delK r fun σ => leaveF rec (fun σ => (resC E fn.results.toList).run tm σ (retL σ)) ds σ | _ => none) = some vs := h
      split at h'
      · rename_i hb
        rw [St.delK_eq] at h'
        obtain ⟨pl', o, q1, q2, q3⟩ := g.rel.blk _ _ hb
        rw [hp] at q1; cases q1
        cases q3
        obtain ⟨w', q4, q5⟩ := setObj_upd (.deferred none) q2 (by intros; simp)
        have g' := g.trans (Goes.drop g.rel hb rfl hp q5)
        refine ⟨by simp, .inl ⟨pl.blk, w', ht, ?_, ih g' hT hds h'⟩⟩
        have hget : (getObj pl.blk).run P w = .ok (.deferred (some [])) w := by simp [getObj, Sem.run, q2]
        simp only [Instr.takeDeferred, Sem.run_bind, hget, Result.andThen_ok, q4 P, Sem.run_pure]
      · cases h'
    | call f args _ cap ht hr =>
      have h' : (match rec.call f args true σ with | some r => leaveF rec (fun σ => (resC E fn.results.toList).run tm σ (retL σ)) ds r.σ | none => none) = some vs := h
      split at h'
      · rename_i r hr₁
        obtain ⟨q1, q2⟩ := hrec.dcall _ _ _ _ hr₁ ρ w _ .returning g.rel hr
        refine ⟨by simp, .inr ⟨(fun hh => by cases hh), .func f, cap, f, cd.args ++ cap, ht, ?_, fun _ _ => trivial, ?_⟩⟩
        · rw [ht]; exact q1
        · refine CallsDIn.mono q2 ?_
          rintro e u' w' ⟨rfl, c, rfl, ρ', g', _⟩
          exact ih (g.trans g') (hT.mono g'.le) (hds.mono g'.le) h'
      · cases h'

include hE hN in
theorem fc_ok {T : Tr Ctr} (hX : ExtOk E P) {m : Nat} (hall : ∀ j, j ≤ m → (evT E T j).Ok E P) (hD : DrawOk E P) (f : FuncId) (args : List V) (vs : VS) :
    (((fc E f).run (evT E T m) args false σ = some vs → ∀ ρ w (cargs : Array Value), Rel E.gl ρ σ w → RepL ρ args cargs.toList → CallOk E P ρ σ w f cargs vs)) ∧
    ((fc E f).run (evT E T m) args true σ = some vs → ∀ ρ w (cargs : Array Value) u, Rel E.gl ρ σ w → RepL ρ args cargs.toList →
      (callFunc f cargs).run P w = .ok (.enter f cargs) w ∧ CallsDIn Fence.wide 0 P f cargs u w fun e u' w' => u' = u ∧ EndPost E.gl ρ σ w vs e w') := by
  have hrec := hall m (Nat.le_refl _)
  unfold fc
  split
  · exact ⟨fun h => (by cases h), fun h => (by cases h)⟩
  · rename_i fn hf
    split
    · rename_i hb
      split
      · rename_i e he
        exact ⟨fun h ρ w cargs hR ha => .inl (hX f e he _ _ _ h ρ w cargs hR ha ⟨fn, hf, hb⟩), fun h => (by cases h)⟩
      · exact ⟨fun h => (by cases h), fun h => (by cases h)⟩
    · rename_i c hb
      have body : ∀ {d : Bool} {ρ w} {cargs : Array Value}, Rel E.gl ρ σ w → RepL ρ args cargs.toList →
          (bcase (Nat.ble (lenL args) fn.ntmps) (Tr.ofListK args 0 .nil fun t => match (evT E T m).code fn.ntmps c none { tmps := t, dfr := [] } σ with
            | none => none
            | some r => match r.ex with
              | .normal => endF E (evT E T m) fn.results.toList d r.a r.σ
              | .ret => endF E (evT E T m) fn.results.toList d r.a r.σ
              | .exit _ => none) none) = some vs →
          ∃ r : Res, (r.ex = .normal ∨ r.ex = .ret) ∧ endF E (evT E T m) fn.results.toList d r.a r.σ = some vs ∧
            c.wpIn Fence.wide 0 P (CodePost E.gl ρ σ w fn.ntmps r) { tmps := cargs ++ Array.replicate (fn.ntmps - cargs.size) undef, defers := [] } w := by
        intro d ρ w cargs hR ha h
        rw [bcase_eq] at h
        split at h
        · rename_i hle
          simp only [Nat.ble_eq, lenL_eq] at hle
          rw [Tr.ofListK_eq] at h
          split at h
          · cases h
          · rename_i r hr
            have hw := hrec.code _ _ _ _ _ _ hr ρ w none { tmps := cargs ++ Array.replicate (fn.ntmps - cargs.size) undef, defers := [] } hR trivial ⟨argsT ρ ha hle, .nil⟩
            split at h
            · rename_i hex; exact ⟨r, .inl hex, h, hw⟩
            · rename_i hex; exact ⟨r, .inr hex, h, hw⟩
            · cases h
        · cases h
      refine ⟨fun h ρ w cargs hR ha => ?_, fun h ρ w cargs u hR ha => ?_⟩
      · obtain ⟨r, hex, hend, hw⟩ := body hR ha h
        refine .inr ⟨enter_ok hE hN hf hb cargs, callsIn_of_wp_marks (hE.fn _ _ hf) hb trivial (wpIn_mono hw ?_)⟩
        rintro e a' w' ⟨he, ρ', g, ra⟩
        have hl : LeavesInM Fence.wide 0 P fn a'.tmps (EndPost E.gl ρ σ w vs) a'.defers .returning w' := leaveF_ok hE hrec g ra.tmps ra.dfr hend
        rcases hex with hex | hex <;> rw [hex] at he <;> cases he <;> exact hl
      · obtain ⟨r, hex, hend, hw⟩ := body hR ha h
        refine ⟨enter_ok hE hN hf hb cargs, ?_⟩
        refine callsDIn_of_wp (R := EndPost E.gl ρ σ w vs) (hE.fn _ _ hf) hb trivial (wpIn_mono hw ?_)
        rintro e a' w' ⟨he, ρ', g, ra⟩
        have hend' : (match r.a.dfr with | [] => (resC E fn.results.toList).run r.a.tmps r.σ (retL r.σ) | _ => none) = some vs := hend
        split at hend'
        · rename_i hnil
          have hdn : a'.defers = [] := by
            have := ra.dfr
            rw [hnil] at this
            generalize a'.defers = x at this
            cases this; rfl
          obtain ⟨c', h1, h2, h3⟩ := results_ok hE g.rel ra.tmps hend'
          have hl : a'.defers = [] ∧ ∃ v, (results fn a'.tmps).run P w' = .ok v w' ∧ EndPost E.gl ρ σ w vs (.returned v) w' := ⟨hdn, c', h1, c', rfl, ρ', by rw [h3]; exact g, h2⟩
          rcases hex with hex | hex <;> rw [hex] at he <;> cases he <;> exact hl
        · cases hend'

include hE hN in
/-- The evaluator is the model's. -/
theorem evT_ok {T : Tr Ctr} (hX : ExtOk E P) (hD : DrawOk E P) (hT : CtrOk E P T) : ∀ m j, j ≤ m → (evT E T j).Ok E P := by
  intro m
  induction m with
  | zero =>
    intro j hj
    have : j = 0 := by omega
    subst this
    exact ⟨fun _ _ _ _ _ _ h => (by cases h), fun _ _ _ _ h => (by cases h), fun _ _ _ _ h => (by cases h)⟩
  | succ m ih =>
    intro j hj
    by_cases hj' : j ≤ m
    · exact ih j hj'
    · have : j = m + 1 := by omega
      subst this
      refine ⟨fun n c ro a σ res h => cc_ok hE hN hD c m ih n ro a σ res h, fun f args σ vs h => ?_, fun f args σ vs h ρ w cargs u hR ha => (fc_ok hE hN hX ih hD f args vs).2 h ρ w cargs u hR ha⟩
      have h' : (optE (T.get f) ((fc E f).run (evT E T m) args false σ) fun c => optE (c.run args σ) ((fc E f).run (evT E T m) args false σ) some) = some vs := h
      cases hc : T.get f with
      | none => rw [hc] at h'; exact (fc_ok hE hN hX ih hD f args vs).1 h'
      | some c =>
        rw [hc, optE_some] at h'
        cases hr : c.run args σ with
        | none => rw [hr] at h'; exact (fc_ok hE hN hX ih hD f args vs).1 h'
        | some r =>
          rw [hr, optE_some] at h'
          cases h'
          exact fun ρ w cargs hR ha => hT f c hc args σ _ hr ρ w cargs hR ha
end
end Go.AM
